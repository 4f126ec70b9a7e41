/-
  Decimal digits and their value. The text of an integer. The error of a rational: plain. integer.Check. (Printed by a program of this work.) rational.form. integer.trim and integer.compare. integer.minus and integer.plus.
-/
import Derived.Test.YtofbngpckllkoaaPart01
namespace Go.Proofs.Ytofbngpckllkoaa
open Go.RowKit

/-- The value of decimal digits as they are written. -/
def dval (l : List UInt8) : Nat := l.foldl (fun a c => a * 10 + (c.toNat - 48)) 0

theorem dval_nil : dval [] = 0 := rfl
theorem dval_snoc (l : List UInt8) (c : UInt8) : dval (l ++ [c]) = dval l * 10 + (c.toNat - 48) := by simp [dval]
theorem dval_append (l m : List UInt8) : dval (l ++ m) = dval l * 10 ^ m.length + dval m := by
  refine Nat.rec (motive := fun n => ∀ m : List UInt8, m.length = n → dval (l ++ m) = dval l * 10 ^ m.length + dval m) ?_ ?_ m.length m rfl
  · intro m hm
    rw [List.eq_nil_of_length_eq_zero hm]; simp [dval_nil]
  · intro n ih m hm
    rcases List.eq_nil_or_concat m with rfl | ⟨m, c, rfl⟩
    · simp at hm
    · rw [List.concat_eq_append] at hm ⊢
      rw [← List.append_assoc, dval_snoc, dval_snoc, ih m (by simp at hm; exact hm)]
      simp only [List.length_append, List.length_singleton, Nat.pow_succ]
      rw [Nat.add_mul, Nat.mul_assoc]; omega
theorem dval_lt (l : List UInt8) (h : l.all isDig = true) : dval l < 10 ^ l.length := by
  refine Nat.rec (motive := fun n => ∀ m : List UInt8, m.length = n → m.all isDig = true → dval m < 10 ^ m.length) ?_ ?_ l.length l rfl h
  · intro m hm _
    rw [List.eq_nil_of_length_eq_zero hm]; decide
  · intro n ih m hm hd
    rcases List.eq_nil_or_concat m with rfl | ⟨m, c, rfl⟩
    · simp at hm
    · rw [List.concat_eq_append] at hm hd ⊢
      rw [List.all_append] at hd
      simp only [Bool.and_eq_true] at hd
      have h1 := ih m (by simp at hm; exact hm) hd.1
      have h2 : isDig c = true := by simpa using hd.2
      simp [isDig] at h2
      rw [dval_snoc]
      simp only [List.length_append, List.length_singleton, Nat.pow_succ]
      omega
theorem dval_take_succ (s : ByteArray) (k : Nat) (h : k < s.size) : dval ((bl s).take (k + 1)) = dval ((bl s).take k) * 10 + (s[k].toNat - 48) := by
  rw [List.take_add_one, bl_get s k h]
  exact dval_snoc _ _
theorem isDig_at (s : ByteArray) (h : (bl s).all isDig = true) (k : Nat) (hk : k < s.size) : 48 ≤ s[k].toNat ∧ s[k].toNat ≤ 57 := by
  have := (List.all_eq_true.1 h) s[k] (List.mem_of_getElem? (bl_get s k hk))
  simpa [isDig] using this
/-- The value of a group. -/
def gval (g : Grp) : Nat := dval (bl g.1)
theorem gval_lt (g : Grp) : gval g < 1000000000 := by
  have h := dval_lt _ g.2.2
  have h2 : (bl g.1).length ≤ 9 := by rw [bl_length]; exact g.2.1
  exact Nat.lt_of_lt_of_le h (Nat.pow_le_pow_right (by decide) h2)
/-- The groups up to the k-th have the value of the last digits. -/
theorem grps_val (s : ByteArray) (hd : (bl s).all isDig = true) (k : Nat) (hk : 9 * k ≤ s.size + 8) : Go.Proofs.Ytofbngpckllkoaa.val 1000000000 ((grps s hd k).map gval) = dval ((bl s).drop (s.size - 9 * k)) := by
  induction k with
  | zero => simp [grps, Go.Proofs.Ytofbngpckllkoaa.val, dval_nil, ← bl_length]
  | succ k ih =>
    rw [grps_succ, List.map_append, List.map_singleton, val_snoc, ih (by omega), List.length_map, grps_length]
    have e : (bl s).drop (s.size - 9 * (k + 1)) = bl (grpB s k) ++ (bl s).drop (s.size - 9 * k) := by
      rw [grpB, bl_extract]
      have h1 : (bl s).drop (s.size - 9 * k) = ((bl s).drop (s.size - 9 * (k + 1))).drop (s.size - 9 * k - (s.size - 9 * (k + 1))) := by
        rw [List.drop_drop]; congr 1; omega
      rw [h1, List.take_append_drop]
    rw [e, dval_append, List.length_drop, bl_length]
    have h2 : s.size - (s.size - 9 * k) = 9 * k := by omega
    rw [h2, Nat.add_comm, Nat.mul_comm (1000000000 ^ k)]
    congr 1
    rw [show (1000000000 : Nat) = 10 ^ 9 from rfl, ← Nat.pow_mul]
    rfl
theorem grps_full (s : ByteArray) (hd : (bl s).all isDig = true) : Go.Proofs.Ytofbngpckllkoaa.val 1000000000 ((grps s hd ((s.size + 8) / 9)).map gval) = dval (bl s) := by
  rw [grps_val s hd _ (by omega), show s.size - 9 * ((s.size + 8) / 9) = 0 by omega, List.drop_zero]
theorem grps_dig (l : List Grp) : Dig 1000000000 (l.map gval) := fun x hx => by
  obtain ⟨g, _, rfl⟩ := List.mem_map.1 hx; exact gval_lt g
end Go.Proofs.Ytofbngpckllkoaa

namespace Go.Proofs.Ytofbngpckllkoaa

def dig10F : Nat → Nat → List Nat
  | 0, _ => []
  | k + 1, n => if n = 0 then [] else n % 10 :: dig10F k (n / 10)

/-- The decimal digits of a number, the last one first; none of 0. -/
def dig10 (n : Nat) : List Nat := dig10F n n

theorem dig10F_ok (k : Nat) : ∀ n, n ≤ k → Nrm 10 (dig10F k n) ∧ val 10 (dig10F k n) = n := by
  induction k with
  | zero => intro n h; obtain rfl : n = 0 := by omega
            exact ⟨Nrm.nil _, rfl⟩
  | succ k ih =>
    intro n h
    rw [dig10F]
    by_cases h0 : n = 0
    · rw [if_pos h0, h0]; exact ⟨Nrm.nil _, rfl⟩
    · rw [if_neg h0]
      obtain ⟨i1, i2⟩ := ih (n / 10) (by omega)
      refine ⟨⟨fun x hx => ?_, ?_⟩, by simp only [val, i2]; omega⟩
      · rcases List.mem_cons.1 hx with rfl | hx
        · omega
        · exact i1.1 x hx
      · cases hd : dig10F k (n / 10) with
        | nil =>
          rw [hd] at i2
          simp [val] at i2
          simp; omega
        | cons y ys =>
          have := i1.2
          rw [hd] at this
          simpa [List.getLast?_cons_cons] using this

theorem dig10_nrm (n : Nat) : Nrm 10 (dig10 n) := (dig10F_ok n n (Nat.le_refl _)).1
theorem dig10_val (n : Nat) : val 10 (dig10 n) = n := (dig10F_ok n n (Nat.le_refl _)).2
theorem dig10_of {D : List Nat} (h : Nrm 10 D) : dig10 (val 10 D) = D := Nrm.inj (by decide) (dig10_nrm _) h (dig10_val _)
theorem dig10_zero : dig10 0 = [] := rfl
theorem dig10_ne {n : Nat} (h : n ≠ 0) : dig10 n ≠ [] := fun e => by have := dig10_val n; rw [e] at this; exact h this.symm
theorem dig10_le {n k : Nat} (h : n < 10 ^ k) : (dig10 n).length ≤ k := (dig10_nrm n).length_le (by decide) k (by rw [dig10_val]; exact h)

/-- The bytes of digits. -/
def asc (ds : List Nat) : List UInt8 := ds.map fun d => UInt8.ofNat (48 + d)

/-- The text of a number with a sign. -/
def istr (neg : Bool) (n : Nat) : List UInt8 := if n = 0 then [48] else (if neg then [45] else []) ++ asc (dig10 n).reverse

/-- What write answers. -/
def wStr (neg : Bool) (n : Nat) : List UInt8 := if 1000 < (dig10 n).length then [] else istr neg n
def wErr (n : Nat) : Int := if 1000 < (dig10 n).length then 14 else 0

/-- Digits of groups as digits in base ten: one group more. -/
def GInv (D : List Nat) (b : Nat) (xs : List Nat) (k : Nat) : Prop := D.length = 9 * k ∧ Dig 10 D ∧ val 10 D = val b (xs.take k)

theorem asc_snoc (ds : List Nat) (d : Nat) : asc (ds ++ [d]) = asc ds ++ [UInt8.ofNat (48 + d)] := by simp [asc]
end Go.Proofs.Ytofbngpckllkoaa

namespace Go.Proofs.Ytofbngpckllkoaa

/-- The error of an integer but for its size. -/
def formErr (l : List UInt8) : Int := if canonI l then 0 else 12

/-- The error of a fraction. -/
def fracErr (n d : List UInt8) : Int :=
  if canonI n = false then 12 else if canonI d = false then 12 else if d.head? = some 45 then 12 else if d = [48] then 12 else if d = [49] then 12
  else if intErr n ≠ 0 then 14 else if intErr d ≠ 0 then 14 else if Nat.gcd (dval (body n)) (dval (body d)) = 1 then 0 else 12

/-- The error of a rational. -/
def ratErr (s : ByteArray) : Int := if slashI s = -1 then intErr (bl s) else fracErr ((bl s).take (slashI s).toNat) ((bl s).drop ((slashI s).toNat + 1))

theorem intErr_of_not {l : List UInt8} (h : canonI l = false) : intErr l = 12 := by rw [intErr, if_neg (by rw [h]; simp)]
theorem intErr_of {l : List UInt8} (h : canonI l = true) (h0 : intErr l ≠ 0) : intErr l = 14 := by
  rw [intErr, if_pos h] at h0 ⊢
  by_cases hb : 1000 < (body l).length
  · rw [if_pos hb]
  · rw [if_neg hb] at h0; exact absurd rfl h0

theorem istr_one (n : Nat) : istr false n = [49] ↔ n = 1 := by
  constructor
  · intro h
    unfold istr at h
    by_cases h0 : n = 0
    · rw [if_pos h0] at h; simp at h
    · rw [if_neg h0] at h
      simp only [Bool.false_eq_true, if_false, List.nil_append] at h
      have hl := congrArg List.length h
      simp [asc] at hl
      match hd : dig10 n, hl with
      | [x], _ =>
        rw [hd] at h
        simp [asc] at h
        have hx : x < 10 := (dig10_nrm n).1 x (by rw [hd]; simp)
        have hv := dig10_val n
        rw [hd] at hv
        simp [val] at hv
        have e := congrArg UInt8.toNat h
        rw [UInt8.toNat_add, UInt8.toNat_ofNat'] at e
        have e48 : (48 : UInt8).toNat = 48 := rfl
        have e49 : (49 : UInt8).toNat = 49 := rfl
        rw [e48, e49] at e
        omega
  · rintro rfl; rfl
end Go.Proofs.Ytofbngpckllkoaa

namespace Go.Proofs.Ytofbngpckllkoaa
open Go.RowKit

set_option maxHeartbeats 1000000 in
set_option maxRecDepth 100000 in
theorem check_empty (s : ByteArray) (w : World) (_hl : s.size ≤ 9223372036854775807) (h0 : s.size = 0) :
    Calls Try.prog 38 #[.string s] w fun e w' => e = .returned (.int .i64 (intErr (bl s))) ∧ w = w' := by
  have HF : Hid (intErr (bl s) = 12) := by
    have : bl s = [] := List.eq_nil_of_length_eq_zero (by rw [bl_length]; exact h0)
    rw [this]; rfl
  have h1 : s.toList = [] := by rw [Lib.toList_data]; exact List.eq_nil_of_length_eq_zero (by rw [← bl_length] at h0; exact h0)
  have h2 : ¬ 0 < s.size := by omega
  clear h0
  go_enter Try.func38, Try.ntmps38
  go_wp2
  go_ret
  exact ⟨ret_int' HF.out.symm, rfl⟩

set_option maxHeartbeats 1000000 in
set_option maxRecDepth 100000 in
theorem check_zero (s : ByteArray) (w : World) (hl : s.size ≤ 9223372036854775807) (h1 : 1 < s.size) (h0 : s[0] = 48) :
    Calls Try.prog 38 #[.string s] w fun e w' => e = .returned (.int .i64 (intErr (bl s))) ∧ w = w' := by
  have HF : Hid (intErr (bl s) = 12) := by
    have e := bl_cons s (by omega)
    rw [h0] at e
    have hn : (bl s).tail ≠ [] := fun hh => by have := congrArg List.length e; rw [hh, bl_length] at this; simp at this; omega
    rw [e]
    cases ht : (bl s).tail with
    | nil => exact absurd ht hn
    | cons a b => show _ = _; simp [intErr, canonI, body, isNeg, canonD]
  have h2 : s.toList.isEmpty = false := toList_ne s (by omega)
  have h4 : (0 : Nat) < s.size := by omega
  go_enter Try.func38, Try.ntmps38
  go_wp2
  go_ret
  exact ⟨ret_int' HF.out.symm, rfl⟩

set_option maxHeartbeats 1000000 in
set_option maxRecDepth 100000 in
theorem check_digits (s : ByteArray) (w : World) (hl : s.size ≤ 9223372036854775807) (h1 : 0 < s.size) (hm : s[0] ≠ 45) (h0 : s[0] ≠ 48 ∨ s.size = 1) :
    Calls Try.prog 38 #[.string s] w fun e w' => e = .returned (.int .i64 (intErr (bl s))) ∧ w = w' := by
  have HC : Hid (intErr (bl s) = if (bl s).all isDig = true then (if 1000 < s.size then 14 else 0) else 12) := by
    show _ = _
    have e := bl_cons s h1
    rw [intErr_pos (by rw [e]; simpa using hm), canonD, ← bl_length]
    have a1 : (bl s).isEmpty = false := by rw [e]; rfl
    have a2 : ((bl s).head? == some 48 && (decide (1 < (bl s).length) || false)) = false := by
      rcases h0 with h0 | h0
      · rw [e]; simp; intro hh; exact absurd hh h0
      · rw [bl_length, h0]; simp
    rw [a1, a2]; simp
  obtain ⟨c0, hc0⟩ : ∃ c, s[0] = c := ⟨_, rfl⟩
  have hm1 : ((c0.toNat : Int) == 45) = false := by rw [hc0] at hm; simpa using fun hh : (c0.toNat : Int) = 45 => hm (UInt8.toNat_inj.1 (by simpa using (by omega : c0.toNat = 45)))
  have h2 : s.toList.isEmpty = false := toList_ne s h1
  rw [hc0] at h0 hm
  have H0 := Lib.hid h0; clear h0 hm
  have hpre : (((c0.toNat : Int) == 48) = false) ∨ (((c0.toNat : Int) == 48) = true ∧ ¬ 1 < s.size) := by
    rcases H0.out with h | h
    · exact .inl (by simpa using fun hh : (c0.toNat : Int) = 48 => h (UInt8.toNat_inj.1 (by simpa using (by omega : c0.toNat = 48))))
    · cases hb : ((c0.toNat : Int) == 48)
      · exact .inl rfl
      · exact .inr ⟨rfl, by omega⟩
  rcases hpre with hp | ⟨hp, hq⟩
  · go_enter Try.func38, Try.ntmps38
    go_wp2_with fail
    go_loopw [32] (fun i wr => ∃ k : Nat, k ≤ s.size ∧ i = .int .i64 k ∧ Hid (((bl s).take k).all isDig = true) ∧ wr = w)
      (fun i _ => s.size - (intOf i).toNat)
    case atStart => exact ⟨0, Nat.zero_le _, rfl, rfl, rfl⟩
    case round =>
      obtain ⟨k, hk, rfl, Hk, rfl⟩ := hrel
      by_cases hlt : k < s.size
      · obtain ⟨c, hc⟩ : ∃ c, s[k] = c := ⟨_, rfl⟩
        have hcb : c.toNat < 256 := c.toNat_lt
        have Hcl := Lib.hid (take_succ_all isDig s k hlt)
        rw [hc] at Hcl
        by_cases h1 : c.toNat < 48
        · have HF : Hid (intErr (bl s) = 12) := by
            show _ = _
            rw [HC.out, if_neg]
            intro hall
            have := all_take_of_all isDig (bl s) (k + 1) hall
            rw [Hcl.out] at this
            simp [isDig] at this
            omega
          have d1 : decide (((c.toNat : Nat) : Int) < 48) = true := by rw [decide_eq_true_eq]; omega
          have d1' : ¬ ((48 : Int) ≤ ((c.toNat : Nat) : Int)) := by omega
          go_wp2
          go_ret
          exact ⟨ret_int' HF.out.symm, rfl⟩
        · have d1 : decide (((c.toNat : Nat) : Int) < 48) = false := by rw [decide_eq_false_iff_not]; omega
          by_cases h2 : c.toNat ≤ 57
          · have d2 : decide ((57 : Int) < ((c.toNat : Nat) : Int)) = false := by rw [decide_eq_false_iff_not]; omega
            have Hk2 : Hid (((bl s).take (k + 1)).all isDig = true) := by
              show _ = true
              rw [Hcl.out, Hk.out]
              simp [isDig]; omega
            clear Hcl Hk
            go_wp2
            go_roundw
            case rel => exact ⟨k + 1, by omega, by go_num, Hk2, by trivial⟩
            case measure => simp [intOf]; omega
          · have d2 : decide ((57 : Int) < ((c.toNat : Nat) : Int)) = true := by rw [decide_eq_true_eq]; omega
            have d2' : ¬ (((c.toNat : Nat) : Int) ≤ 57) := by omega
            have HF : Hid (intErr (bl s) = 12) := by
              show _ = _
              rw [HC.out, if_neg]
              intro hall
              have := all_take_of_all isDig (bl s) (k + 1) hall
              rw [Hcl.out] at this
              simp [isDig] at this
              omega
            clear Hcl Hk
            go_wp2
            go_ret
            exact ⟨ret_int' HF.out.symm, rfl⟩
      · obtain rfl : k = s.size := by omega
        have hall : (bl s).all isDig = true := by
          have := Hk.out
          rw [List.take_of_length_le (by rw [bl_length]; exact Nat.le_refl _)] at this
          exact this
        have Hall := Lib.hid hall; clear hall
        by_cases hbig : 1000 < s.size
        · have HF : Hid (intErr (bl s) = 14) := by show _ = _; rw [HC.out, if_pos Hall.out, if_pos hbig]
          have d3 : decide ((1000 : Int) < ((s.size : Nat) : Int)) = true := by rw [decide_eq_true_eq]; omega
          have d3' : ¬ (((s.size : Nat) : Int) ≤ 1000) := by omega
          go_wp2
          go_ret
          exact ⟨ret_int' HF.out.symm, rfl⟩
        · have HF : Hid (intErr (bl s) = 0) := by show _ = _; rw [HC.out, if_pos Hall.out, if_neg hbig]
          have d3 : decide ((1000 : Int) < ((s.size : Nat) : Int)) = false := by rw [decide_eq_false_iff_not]; omega
          go_wp2
          go_ret
          exact ⟨ret_int' HF.out.symm, rfl⟩
  · go_enter Try.func38, Try.ntmps38
    go_wp2_with fail
    go_loopw [32] (fun i wr => ∃ k : Nat, k ≤ s.size ∧ i = .int .i64 k ∧ Hid (((bl s).take k).all isDig = true) ∧ wr = w)
      (fun i _ => s.size - (intOf i).toNat)
    case atStart => exact ⟨0, Nat.zero_le _, rfl, rfl, rfl⟩
    case round =>
      obtain ⟨k, hk, rfl, Hk, rfl⟩ := hrel
      by_cases hlt : k < s.size
      · obtain ⟨c, hc⟩ : ∃ c, s[k] = c := ⟨_, rfl⟩
        have hcb : c.toNat < 256 := c.toNat_lt
        have Hcl := Lib.hid (take_succ_all isDig s k hlt)
        rw [hc] at Hcl
        by_cases h1 : c.toNat < 48
        · have HF : Hid (intErr (bl s) = 12) := by
            show _ = _
            rw [HC.out, if_neg]
            intro hall
            have := all_take_of_all isDig (bl s) (k + 1) hall
            rw [Hcl.out] at this
            simp [isDig] at this
            omega
          have d1 : decide (((c.toNat : Nat) : Int) < 48) = true := by rw [decide_eq_true_eq]; omega
          have d1' : ¬ ((48 : Int) ≤ ((c.toNat : Nat) : Int)) := by omega
          go_wp2
          go_ret
          exact ⟨ret_int' HF.out.symm, rfl⟩
        · have d1 : decide (((c.toNat : Nat) : Int) < 48) = false := by rw [decide_eq_false_iff_not]; omega
          by_cases h2 : c.toNat ≤ 57
          · have d2 : decide ((57 : Int) < ((c.toNat : Nat) : Int)) = false := by rw [decide_eq_false_iff_not]; omega
            have Hk2 : Hid (((bl s).take (k + 1)).all isDig = true) := by
              show _ = true
              rw [Hcl.out, Hk.out]
              simp [isDig]; omega
            clear Hcl Hk
            go_wp2
            go_roundw
            case rel => exact ⟨k + 1, by omega, by go_num, Hk2, by trivial⟩
            case measure => simp [intOf]; omega
          · have d2 : decide ((57 : Int) < ((c.toNat : Nat) : Int)) = true := by rw [decide_eq_true_eq]; omega
            have d2' : ¬ (((c.toNat : Nat) : Int) ≤ 57) := by omega
            have HF : Hid (intErr (bl s) = 12) := by
              show _ = _
              rw [HC.out, if_neg]
              intro hall
              have := all_take_of_all isDig (bl s) (k + 1) hall
              rw [Hcl.out] at this
              simp [isDig] at this
              omega
            clear Hcl Hk
            go_wp2
            go_ret
            exact ⟨ret_int' HF.out.symm, rfl⟩
      · obtain rfl : k = s.size := by omega
        have hall : (bl s).all isDig = true := by
          have := Hk.out
          rw [List.take_of_length_le (by rw [bl_length]; exact Nat.le_refl _)] at this
          exact this
        have Hall := Lib.hid hall; clear hall
        by_cases hbig : 1000 < s.size
        · have HF : Hid (intErr (bl s) = 14) := by show _ = _; rw [HC.out, if_pos Hall.out, if_pos hbig]
          have d3 : decide ((1000 : Int) < ((s.size : Nat) : Int)) = true := by rw [decide_eq_true_eq]; omega
          have d3' : ¬ (((s.size : Nat) : Int) ≤ 1000) := by omega
          go_wp2
          go_ret
          exact ⟨ret_int' HF.out.symm, rfl⟩
        · have HF : Hid (intErr (bl s) = 0) := by show _ = _; rw [HC.out, if_pos Hall.out, if_neg hbig]
          have d3 : decide ((1000 : Int) < ((s.size : Nat) : Int)) = false := by rw [decide_eq_false_iff_not]; omega
          go_wp2
          go_ret
          exact ⟨ret_int' HF.out.symm, rfl⟩

set_option maxHeartbeats 1000000 in
set_option maxRecDepth 100000 in
theorem check_neg_bad (s : ByteArray) (w : World) (hl : s.size ≤ 9223372036854775807) (h1 : 0 < s.size) (hm : s[0] = 45) (t : ByteArray) (ht : s.extract 1 s.size = t) (hb : t.size = 0 ∨ ∃ h : 0 < t.size, t[0] = 48) :
    Calls Try.prog 38 #[.string s] w fun e w' => e = .returned (.int .i64 (intErr (bl s))) ∧ w = w' := by
  have e := bl_cons s h1
  have et := bl_tail s h1
  rw [ht] at et
  have HF : Hid (intErr (bl s) = 12) := by
    show _ = _
    rw [e, hm, ← et, intErr_cons_neg, if_neg]
    rcases hb with hb | ⟨hb, hc⟩
    · have : bl t = [] := List.eq_nil_of_length_eq_zero (by rw [bl_length]; exact hb)
      rw [this]; decide
    · rw [bl_cons t hb, hc]; simp [canonD]
  have hsz : s.size - 1 = t.size := by rw [← bl_length, ← bl_length, et]; simp
  have hme : t.size ≤ 9223372036854775807 := by omega
  clear e et
  have Hsz := Lib.hid hsz; clear hsz
  rcases hb with hb | ⟨hb, hc⟩
  · have h2 : t.toList = [] := by rw [Lib.toList_data]; exact List.eq_nil_of_length_eq_zero (by rw [← bl_length] at hb; exact hb)
    have h3 : (t.toList == [48]) = false := by rw [h2]; rfl
    have h4 : ¬ 0 < t.size := by omega
    clear hb
    go_enter Try.func38, Try.ntmps38
    go_wp2
    go_ret
    exact ⟨ret_int' HF.out.symm, rfl⟩
  · by_cases h5 : t.size = 1
    · have h3 : (t.toList == [48]) = true := by
        rw [Lib.toList_data]
        have := bl_cons t hb
        have hn : (bl t).tail = [] := List.eq_nil_of_length_eq_zero (by rw [List.length_tail, bl_length]; omega)
        rw [hn, hc] at this
        show ((bl t) == [48]) = true
        rw [this]; rfl
      clear h5
      go_enter Try.func38, Try.ntmps38
      go_wp2
      go_ret
      exact ⟨ret_int' HF.out.symm, rfl⟩
    · have h2 : t.toList.isEmpty = false := toList_ne t hb
      have h3 : (t.toList == [48]) = false := by
        rw [Lib.toList_data, Bool.eq_false_iff]
        intro hh
        have := congrArg List.length (eq_of_beq hh)
        have h6 : (bl t).length = t.size := bl_length t
        simp [bl] at h6
        simp at this
        omega
      have h6 : 1 < t.size := by omega
      clear h5
      go_enter Try.func38, Try.ntmps38
      go_wp2
      go_ret
      exact ⟨ret_int' HF.out.symm, rfl⟩

set_option maxHeartbeats 1000000 in
set_option maxRecDepth 100000 in
theorem check_neg (s : ByteArray) (w : World) (hl : s.size ≤ 9223372036854775807) (h1 : 0 < s.size) (hm : s[0] = 45) (t : ByteArray) (ht : s.extract 1 s.size = t) (h2 : 0 < t.size) (h0 : t[0] ≠ 48) :
    Calls Try.prog 38 #[.string s] w fun e w' => e = .returned (.int .i64 (intErr (bl s))) ∧ w = w' := by
  have e := bl_cons s h1
  have et := bl_tail s h1
  rw [ht] at et
  have HC : Hid (intErr (bl s) = if (bl t).all isDig = true then (if 1000 < t.size then 14 else 0) else 12) := by
    show _ = _
    rw [e, hm, ← et, intErr_cons_neg, canonD, ← bl_length]
    have a1 : (bl t).isEmpty = false := by rw [bl_cons t h2]; rfl
    have a2 : ((bl t).head? == some 48 && (decide (1 < (bl t).length) || true)) = false := by rw [bl_cons t h2]; simpa using h0
    rw [a1, a2]; simp
  have hsz : s.size - 1 = t.size := by rw [← bl_length, ← bl_length, et]; simp
  have hme : t.size ≤ 9223372036854775807 := by omega
  clear e et
  have Hsz := Lib.hid hsz; clear hsz
  obtain ⟨c0, hc0⟩ : ∃ c, t[0] = c := ⟨_, rfl⟩
  have h5 : t.toList.isEmpty = false := toList_ne t h2
  have h3 : (t.toList == [48]) = false := by
    rw [Lib.toList_data, Bool.eq_false_iff]
    intro hh
    have h6 := bl_cons t h2
    have h7 : bl t = [48] := eq_of_beq hh
    rw [h7] at h6
    exact h0 (List.cons.inj h6).1.symm
  rw [hc0] at h0
  have hp : ((c0.toNat : Int) == 48) = false := by simpa using fun hh : (c0.toNat : Int) = 48 => h0 (UInt8.toNat_inj.1 (by simpa using (by omega : c0.toNat = 48)))
  clear h0
  go_enter Try.func38, Try.ntmps38
  go_wp2_with fail
  go_loopw [32] (fun i wr => ∃ k : Nat, k ≤ t.size ∧ i = .int .i64 k ∧ Hid (((bl t).take k).all isDig = true) ∧ wr = w)
    (fun i _ => t.size - (intOf i).toNat)
  case atStart => exact ⟨0, Nat.zero_le _, rfl, rfl, rfl⟩
  case round =>
    obtain ⟨k, hk, rfl, Hk, rfl⟩ := hrel
    by_cases hlt : k < t.size
    · obtain ⟨c, hc⟩ : ∃ c, t[k] = c := ⟨_, rfl⟩
      have hcb : c.toNat < 256 := c.toNat_lt
      have Hcl := Lib.hid (take_succ_all isDig t k hlt)
      rw [hc] at Hcl
      by_cases h1 : c.toNat < 48
      · have HF : Hid (intErr (bl s) = 12) := by
          show _ = _
          rw [HC.out, if_neg]
          intro hall
          have := all_take_of_all isDig (bl t) (k + 1) hall
          rw [Hcl.out] at this
          simp [isDig] at this
          omega
        have d1 : decide (((c.toNat : Nat) : Int) < 48) = true := by rw [decide_eq_true_eq]; omega
        have d1' : ¬ ((48 : Int) ≤ ((c.toNat : Nat) : Int)) := by omega
        go_wp2
        go_ret
        exact ⟨ret_int' HF.out.symm, rfl⟩
      · have d1 : decide (((c.toNat : Nat) : Int) < 48) = false := by rw [decide_eq_false_iff_not]; omega
        by_cases h2 : c.toNat ≤ 57
        · have d2 : decide ((57 : Int) < ((c.toNat : Nat) : Int)) = false := by rw [decide_eq_false_iff_not]; omega
          have Hk2 : Hid (((bl t).take (k + 1)).all isDig = true) := by
            show _ = true
            rw [Hcl.out, Hk.out]
            simp [isDig]; omega
          clear Hcl Hk
          go_wp2
          go_roundw
          case rel => exact ⟨k + 1, by omega, by go_num, Hk2, by trivial⟩
          case measure => simp [intOf]; omega
        · have d2 : decide ((57 : Int) < ((c.toNat : Nat) : Int)) = true := by rw [decide_eq_true_eq]; omega
          have d2' : ¬ (((c.toNat : Nat) : Int) ≤ 57) := by omega
          have HF : Hid (intErr (bl s) = 12) := by
            show _ = _
            rw [HC.out, if_neg]
            intro hall
            have := all_take_of_all isDig (bl t) (k + 1) hall
            rw [Hcl.out] at this
            simp [isDig] at this
            omega
          clear Hcl Hk
          go_wp2
          go_ret
          exact ⟨ret_int' HF.out.symm, rfl⟩
    · obtain rfl : k = t.size := by omega
      have hall : (bl t).all isDig = true := by
        have := Hk.out
        rw [List.take_of_length_le (by rw [bl_length]; exact Nat.le_refl _)] at this
        exact this
      have Hall := Lib.hid hall; clear hall
      by_cases hbig : 1000 < t.size
      · have HF : Hid (intErr (bl s) = 14) := by show _ = _; rw [HC.out, if_pos Hall.out, if_pos hbig]
        have d3 : decide ((1000 : Int) < ((t.size : Nat) : Int)) = true := by rw [decide_eq_true_eq]; omega
        have d3' : ¬ (((t.size : Nat) : Int) ≤ 1000) := by omega
        go_wp2
        go_ret
        exact ⟨ret_int' HF.out.symm, rfl⟩
      · have HF : Hid (intErr (bl s) = 0) := by show _ = _; rw [HC.out, if_pos Hall.out, if_neg hbig]
        have d3 : decide ((1000 : Int) < ((t.size : Nat) : Int)) = false := by rw [decide_eq_false_iff_not]; omega
        go_wp2
        go_ret
        exact ⟨ret_int' HF.out.symm, rfl⟩

/-- integer.Check. -/
theorem check_any (s : ByteArray) (w : World) (hl : s.size ≤ 9223372036854775807) :
    Calls Try.prog 38 #[.string s] w fun e w' => e = .returned (.int .i64 (intErr (bl s))) ∧ w = w' := by
  by_cases h1 : 0 < s.size
  · by_cases hm : s[0] = 45
    · by_cases h2 : 0 < (s.extract 1 s.size).size
      · by_cases h0 : (s.extract 1 s.size)[0] = 48
        · exact check_neg_bad s w hl h1 hm _ rfl (.inr ⟨h2, h0⟩)
        · exact check_neg s w hl h1 hm _ rfl h2 h0
      · exact check_neg_bad s w hl h1 hm _ rfl (.inl (by omega))
    · by_cases h0 : s[0] = 48
      · by_cases h2 : 1 < s.size
        · exact check_zero s w hl h2 h0
        · exact check_digits s w hl h1 hm (.inr (by omega))
      · exact check_digits s w hl h1 hm (.inl h0)
  · exact check_empty s w hl (by omega)
end Go.Proofs.Ytofbngpckllkoaa

namespace Go.Proofs.Ytofbngpckllkoaa
open Go.RowKit

theorem intErr_cases (l : List UInt8) : intErr l = 0 ∨ intErr l = 12 ∨ intErr l = 14 := by
  unfold intErr
  split
  · split
    · exact .inr (.inr rfl)
    · exact .inl rfl
  · exact .inr (.inl rfl)

set_option maxHeartbeats 400000 in
set_option maxRecDepth 100000 in
theorem form_any (s : ByteArray) (w : World) (hl : s.size ≤ 9223372036854775807) :
    Calls Try.prog 37 #[.string s] w fun e w' => e = .returned (.int .i64 (formErr (bl s))) ∧ w = w' := by
  have C := check_any s w hl
  have HF : Hid (formErr (bl s) = if intErr (bl s) = 14 then 0 else intErr (bl s)) := by
    show _ = _
    unfold formErr intErr
    split <;> split <;> simp_all
  obtain ⟨E, hE⟩ : ∃ E, intErr (bl s) = E := ⟨_, rfl⟩
  obtain ⟨F, hF⟩ : ∃ F, formErr (bl s) = F := ⟨_, rfl⟩
  rw [hE] at C HF
  rw [hF] at HF ⊢
  have HC := Lib.hid C
  clear C hE hF hl
  by_cases h : E = 14
  · subst h
    have e : F = 0 := HF.out
    subst e
    clear HF
    go_enter Try.func37, Try.ntmps37
    go_wp2_with fail
    refine HC.out.mono ?_
    rintro e w' ⟨rfl, rfl⟩
    go_wp2
    go_ret
    exact ⟨rfl, rfl⟩
  · have e : F = E := by have := HF.out; rw [if_neg h] at this; exact this
    subst e
    clear HF
    have d1 : (F != 14) = true := by simpa using h
    have d2 : (F == 14) = false := by simpa using h
    go_enter Try.func37, Try.ntmps37
    go_wp2_with fail
    refine HC.out.mono ?_
    rintro e w' ⟨rfl, rfl⟩
    go_wp2
    go_ret
    exact ⟨rfl, rfl⟩
end Go.Proofs.Ytofbngpckllkoaa

namespace Go.Proofs.Ytofbngpckllkoaa
open Go.RowKit

theorem trimL_take_zero (xs : List Nat) (k : Nat) (h : k < xs.length) (hz : xs.getD k 0 = 0) : trimL (xs.take (k + 1)) = trimL (xs.take k) := by
  rw [take_succ_getD _ _ h, hz, trimL_snoc_zero]
theorem trimL_take_ne (xs : List Nat) (k : Nat) (h : k < xs.length) (hz : xs.getD k 0 ≠ 0) : trimL (xs.take (k + 1)) = xs.take (k + 1) := by
  rw [take_succ_getD _ _ h, trimL_snoc _ _ hz]

set_option maxHeartbeats 400000 in
theorem trim_any (v : Value) (xs : List Nat) (w : World) (hv : Sl w v 1 xs.length (nums .u32 xs)) (hl : xs.length ≤ 1000000) :
    Calls Try.prog 63 #[v] w fun e w' => ∃ v', e = .returned v' ∧ Hid (v' = cutTo v (trimL xs).length) ∧ w = w' := by
  obtain ⟨ad, cap, rfl, h1, h3⟩ := hv.nums
  clear hv
  go_enter Try.func63, Try.ntmps63
  go_wp2
  go_loop [0] (fun m => ∃ k : Nat, k ≤ xs.length ∧ m = .slice ad k cap ∧ Hid (trimL (xs.take k) = trimL xs))
    (fun m => match m with | .slice _ n _ => n | _ => 0)
  case atStart => exact ⟨xs.length, Nat.le_refl _, rfl, by rw [List.take_of_length_le (Nat.le_refl _)]; rfl⟩
  case round =>
    obtain ⟨k, hk, rfl, Hrel⟩ := hrel
    by_cases h0 : 0 < k
    · obtain ⟨b, off, rfl, hc⟩ := h3.resolve_left (by omega)
      obtain ⟨k, rfl⟩ : ∃ k', k = k' + 1 := ⟨k - 1, by omega⟩
      have hck := hc k (by omega)
      clear hc h3
      by_cases hz : xs.getD k 0 = 0
      · rw [hz] at hck
        have Hz := Lib.hid hz; clear hz
        go_wp2
        go_round
        case rel => exact ⟨k, by omega, rfl, by rw [← trimL_take_zero xs k (by omega) Hz.out]; exact Hrel⟩
        case measure => simp
      · obtain ⟨y, hy⟩ : ∃ y, y = xs.getD k 0 := ⟨_, rfl⟩
        rw [← hy] at hck hz
        have Hy := Lib.hid hy; clear hy
        have hz' : ((y : Int) == 0) = false := by simp; omega
        go_wp2
        go_ret
        refine ⟨_, rfl, ?_, rfl⟩
        have hz2 : xs.getD k 0 ≠ 0 := by rw [← Hy.out]; exact hz
        have e := Hrel.out
        rw [trimL_take_ne xs k (by omega) hz2] at e
        show _ = Value.slice _ _ _
        rw [← e, List.length_take, Nat.min_eq_left hk]
        rfl
    · obtain rfl : k = 0 := by omega
      go_wp2
      go_ret
      refine ⟨_, rfl, ?_, rfl⟩
      have e := Hrel.out
      show _ = Value.slice _ _ _
      rw [← e]
      rfl

theorem drewN_3 (w : World) (a b c : Nat) : ∃ n, ((w.drewN a).drewN b).drewN c = w.drewN n := ⟨a + b + c, by rw [World.drewN_drewN, World.drewN_drewN, Nat.add_assoc]⟩

set_option maxHeartbeats 400000 in
theorem compare_len (ad bd : Option Addr) (m n ca cb : Nat) (w : World) (hm : m ≤ 1000000) (hn : n ≤ 1000000) (hne : m ≠ n) :
    Calls Try.prog 61 #[.slice ad m ca, .slice bd n cb] w fun e w' =>
      e = .returned (.int .i64 (if m < n then -1 else 1)) ∧ w = w' := by
  by_cases hlt : m < n
  · have hb : ((m : Int) != (n : Int)) = true := by rw [bne_iff_ne]; omega
    go_enter Try.func61, Try.ntmps61
    go_wp2
    go_ret
    exact ⟨rfl, rfl⟩
  · have hb : ((m : Int) != (n : Int)) = true := by rw [bne_iff_ne]; omega
    go_enter Try.func61, Try.ntmps61
    go_wp2
    go_ret
    exact ⟨rfl, rfl⟩

set_option maxHeartbeats 400000 in
theorem compare_eq (ad ad' : Option Addr) (ca cb : Nat) (xs ys : List Nat) (w : World) (hn : xs.length = ys.length) (hb : xs.length ≤ 1000000)
    (hc : xs.length = 0 ∨ ∃ b off, ad = some ⟨b, off, none⟩ ∧ ∀ j, j < xs.length → w.cell? ⟨b, off + j, none⟩ = some (.int .u32 ((xs.getD j 0 : Nat) : Int)))
    (hd : ys.length = 0 ∨ ∃ b off, ad' = some ⟨b, off, none⟩ ∧ ∀ j, j < ys.length → w.cell? ⟨b, off + j, none⟩ = some (.int .u32 ((ys.getD j 0 : Nat) : Int))) :
    Calls Try.prog 61 #[.slice ad xs.length ca, .slice ad' ys.length cb] w fun e w' =>
      e = .returned (.int .i64 (cmpD xs.length xs ys)) ∧ ∃ n, w' = w.drewN n := by
  rw [← hn] at hd ⊢
  clear hn
  have hq : ((xs.length : Int) != (xs.length : Int)) = false := by simp
  go_enter Try.func61, Try.ntmps61
  go_wp2
  go_loopw [5] (fun i wr => ∃ k : Nat, k ≤ xs.length ∧ i = .int .i64 (k - 1) ∧ Hid (cmpD k xs ys = cmpD xs.length xs ys) ∧ ∃ n, wr = w.drewN n)
    (fun i _ => (intOf i + 1).toNat)
  case atStart => exact ⟨xs.length, Nat.le_refl _, by go_num, rfl, 0, rfl⟩
  case round =>
    obtain ⟨k, hk, rfl, Hrel, n, rfl⟩ := hrel
    by_cases h0 : 0 < k
    · obtain ⟨k, rfl⟩ : ∃ k', k = k' + 1 := ⟨k - 1, by omega⟩
      obtain ⟨b, off, rfl, hc2⟩ := hc.resolve_left (by omega)
      obtain ⟨b', off', rfl, hd2⟩ := hd.resolve_left (by omega)
      have h1 := hc2 k (by omega)
      have h2 := hd2 k (by omega)
      clear hc2 hd2
      obtain ⟨x, hx⟩ : ∃ x, x = xs.getD k 0 := ⟨_, rfl⟩
      obtain ⟨y, hy⟩ : ∃ y, y = ys.getD k 0 := ⟨_, rfl⟩
      rw [← hx] at h1
      rw [← hy] at h2
      have Hx := Lib.hid hx; clear hx
      have Hy := Lib.hid hy; clear hy
      clear hc hd
      by_cases he : x = y
      · subst he
        have hq2 : ((x : Int) != (x : Int)) = false := by simp
        go_wp2_with fail
        go_quiet (fail)
        go_wp2
        go_roundw
        case rel =>
          refine ⟨k, by omega, by go_num, ?_, n + nq, rfl⟩
          have e := Hrel.out
          rw [cmpD, if_pos (by rw [← Hx.out, ← Hy.out])] at e
          exact e
        case measure => simp [intOf]
      · have hne : ((x : Int) != (y : Int)) = true := by rw [bne_iff_ne]; omega
        by_cases hlt : x < y
        · go_wp2_with fail
          go_quiet (fail)
          go_wp2_with fail
          go_quiet (fail)
          go_wp2
          go_ret
          refine ⟨ret_int' ?_, drewN_3 _ _ _ _⟩
          have e := Hrel.out
          rw [cmpD, if_neg (by rw [← Hx.out, ← Hy.out]; exact he), if_pos (by rw [← Hx.out, ← Hy.out]; exact hlt)] at e
          exact e
        · go_wp2_with fail
          go_quiet (fail)
          go_wp2_with fail
          go_quiet (fail)
          go_wp2
          go_ret
          refine ⟨ret_int' ?_, drewN_3 _ _ _ _⟩
          have e := Hrel.out
          rw [cmpD, if_neg (by rw [← Hx.out, ← Hy.out]; exact he), if_neg (by rw [← Hx.out, ← Hy.out]; exact hlt)] at e
          exact e
    · obtain rfl : k = 0 := by omega
      go_wp2
      go_ret
      refine ⟨ret_int' ?_, _, rfl⟩
      exact Hrel.out

/-- Two numbers without zeros at the end: the sign of their comparison. -/
theorem compare_any (a b : Value) (xs ys : List Nat) (w : World) (ha : Sl w a 1 xs.length (nums .u32 xs)) (hb : Sl w b 1 ys.length (nums .u32 ys))
    (hx : Nrm 1000000000 xs) (hy : Nrm 1000000000 ys) (lx : xs.length ≤ 1000000) (ly : ys.length ≤ 1000000) :
    Calls Try.prog 61 #[a, b] w fun e w' =>
      e = .returned (.int .i64 (sgn (val 1000000000 xs) (val 1000000000 ys))) ∧ ∃ n, w' = w.drewN n := by
  obtain ⟨ad, ca, rfl, h1, h3⟩ := ha.nums
  obtain ⟨bd, cb, rfl, h1', h3'⟩ := hb.nums
  by_cases hl : xs.length = ys.length
  · rw [← cmpD_nrm (by decide) hx hy hl]
    exact compare_eq ad bd ca cb xs ys w hl lx h3 h3'
  · refine (compare_len ad bd _ _ ca cb w lx ly hl).mono ?_
    rintro e w' ⟨rfl, rfl⟩
    refine ⟨ret_int' ?_, 0, rfl⟩
    by_cases hlt : xs.length < ys.length
    · rw [if_pos hlt, sgn_lt (hx.length_lt_of (by decide) hy hlt)]
    · rw [if_neg hlt, sgn_gt (hy.length_lt_of (by decide) hx (by omega))]
end Go.Proofs.Ytofbngpckllkoaa

namespace Go.Proofs.Ytofbngpckllkoaa
open Go.RowKit

theorem Try.ul_u32s : Try.prog.underlying 88 = some (.slice 103) := by kernel_rfl
theorem Try.info_u32 : (Try.prog.info? 103).map (fun i => (i.zero, i.size, i.bytes)) = some (some (.int .u32 0), 1, 4) := by kernel_rfl

/-- The result of a function on magnitudes: a row of the call's own with the groups rs. -/
def OwnMag (W : World) (w : World) (v : Value) (rs : List Nat) : Prop :=
  w.ownsRow W.heap.size 103 1 v rs.length (nums .u32 rs) ∧ Nrm 1000000000 rs ∧ Below W.heap.size W w

/-- A row of the call's own, without the zeros at its end. -/
theorem own_trim {w : World} {base : Nat} {e : TypeId} {v v' : Value} {xs : List Nat} {k : IntKind} (h : w.ownsRow base e 1 v xs.length (nums k xs)) (hv : v' = cutTo v (trimL xs).length) :
    w.ownsRow base e 1 v' (trimL xs).length (nums k (trimL xs)) := by
  subst hv
  have h2 := ownsRow_cut h (trimL xs).length (trimL_prefix xs).2
  rw [Nat.mul_one, nums_take, ← (trimL_prefix xs).1] at h2
  exact h2

theorem int_oneCell (k : IntKind) (n : Int) : ∀ u ∈ [Value.int k n], u.oneCell' = true := by
  intro u hu; rw [List.mem_singleton] at hu; subst hu; rfl

theorem minus_step (A Bv O P x y c d r : Nat) (h : A + c * P = O + Bv) (hd : d + y + c = x + r * 1000000000) : (A + P * x) + r * (P * 1000000000) = (O + P * d) + (Bv + P * y) := by
  have e1 : P * (d + y + c) = P * (x + r * 1000000000) := by rw [hd]
  rw [Nat.mul_add, Nat.mul_add, Nat.mul_add] at e1
  have e2 : P * (r * 1000000000) = r * (P * 1000000000) := by rw [← Nat.mul_assoc, ← Nat.mul_assoc, Nat.mul_comm P r]
  rw [e2] at e1
  rw [Nat.mul_comm c P] at h
  omega

/-- A bound on the length of the smaller one. -/
theorem nrm_len_le {xs ys : List Nat} (hx : Dig 1000000000 xs) (hy : Nrm 1000000000 ys) (h : val 1000000000 ys ≤ val 1000000000 xs) : ys.length ≤ xs.length := by
  by_cases hne : ys = []
  · subst hne; simp
  · have h1 := hy.pos hne
    have h2 := val_lt hx
    have h3 := (Nat.pow_lt_pow_iff_right (show 1 < 1000000000 by decide)).1 (Nat.lt_of_le_of_lt (Nat.le_trans h1 h) h2)
    omega

def MinusInv (xs ys o : List Nat) (k c : Nat) : Prop :=
  o.length = k ∧ Dig 1000000000 o ∧ val 1000000000 (xs.take k) + c * 1000000000 ^ k = val 1000000000 o + val 1000000000 (ys.take k)

theorem MinusInv.start (xs ys : List Nat) : MinusInv xs ys [] 0 0 := ⟨rfl, Dig.nil _, by simp [val]⟩

theorem MinusInv.step {xs ys o : List Nat} {k c d r : Nat} (h : MinusInv xs ys o k c) (hd : d < 1000000000) (e : d + ys.getD k 0 + c = xs.getD k 0 + r * 1000000000) : MinusInv xs ys (o ++ [d]) (k + 1) r := by
  obtain ⟨h1, h2, h3⟩ := h
  refine ⟨by simp [h1], h2.snoc hd, ?_⟩
  rw [val_take_succ, val_take_succ, val_snoc, h1, Nat.pow_succ]
  exact minus_step _ _ _ _ _ _ _ _ _ h3 e

theorem MinusInv.fin {xs ys o : List Nat} {c : Nat} (h : MinusInv xs ys o xs.length c) (hl : ys.length ≤ xs.length) (hle : val 1000000000 ys ≤ val 1000000000 xs) (hc : c ≤ 1) :
    val 1000000000 (trimL o) = val 1000000000 xs - val 1000000000 ys := by
  obtain ⟨h1, h2, h3⟩ := h
  rw [List.take_of_length_le (Nat.le_refl _), List.take_of_length_le hl] at h3
  rw [trimL_val]
  have h4 := val_lt h2
  rw [h1] at h4
  by_cases h0 : c = 0
  · subst h0; omega
  · obtain rfl : c = 1 := by omega
    omega

set_option maxHeartbeats 1000000 in
set_option maxRecDepth 100000 in
theorem minus_any (a b : Value) (xs ys : List Nat) (w : World) (ha : Sl w a 1 xs.length (nums .u32 xs)) (hb : Sl w b 1 ys.length (nums .u32 ys))
    (dx : Dig 1000000000 xs) (dy : Nrm 1000000000 ys) (hle : val 1000000000 ys ≤ val 1000000000 xs) (lx : xs.length ≤ 100000) :
    Calls Try.prog 66 #[a, b] w fun e w' => ∃ v rs, e = .returned v ∧ OwnMag w w' v rs ∧ val 1000000000 rs = val 1000000000 xs - val 1000000000 ys := by
  have hlen := nrm_len_le dx dy hle
  obtain ⟨ad, ca, rfl, h1, h3⟩ := ha.nums
  obtain ⟨bd, cb, rfl, h1', h3'⟩ := hb.nums
  obtain ⟨i0, hi, hz0, hz1, hz2⟩ := info_parts Try.info_u32
  have Hle := Lib.hid hle; clear hle ha hb
  go_enter Try.func66, Try.ntmps66
  go_wp2_with (at_make; refine wpList_make_own _ rfl _ _ 88 rfl w.heap.size 103 i0 (.int .u32 0) 1 Try.ul_u32s hi hz0 hz1 _ _ _ xs.length rfl rfl rfl ?b1 ?b2 ?b3 ?_)
  case b1 => rw [hz2]; omega
  case b2 => unfold maxLen; omega
  case b3 => exact Nat.le_refl _
  intro w1 hown hgrow
  have hbel : Below w.heap.size w w1 := (Below.refl _ _).grown hgrow (Nat.le_refl _) (by simp)
  clear hgrow
  go_wp2
  go_loopw [5, 6, 15] (fun o c i wr => ∃ (k b1 : Nat) (os : List Nat), k ≤ xs.length ∧ b1 ≤ 1 ∧ i = .int .i64 k ∧ c = .int .u32 b1 ∧ o = .slice (some ⟨w.heap.size, 0, none⟩) k xs.length ∧
      wr.ownsRow w.heap.size 103 1 (.slice (some ⟨w.heap.size, 0, none⟩) k xs.length) k (nums .u32 os) ∧ Hid (MinusInv xs ys os k b1) ∧ Below w.heap.size w wr)
    (fun _ _ i _ => xs.length - (intOf i).toNat)
  case atStart => exact ⟨0, 0, [], Nat.zero_le _, by omega, rfl, rfl, rfl, hown, MinusInv.start _ _, hbel⟩
  case round =>
    clear hown hbel
    obtain ⟨k, b1, os, hk, hb1, rfl, rfl, rfl, hown, Hinv, hbel⟩ := hrel
    by_cases hlt : k < xs.length
    · obtain ⟨b, off, rfl, hc⟩ := h3.resolve_left (by omega)
      have hck := cell_later hbel (hc k hlt)
      have hx9 := dx.at (by decide) k
      have hy9 := dy.1.at (by decide) k
      obtain ⟨x, hx⟩ : ∃ x, x = xs.getD k 0 := ⟨_, rfl⟩
      obtain ⟨y, hy⟩ : ∃ y, y = ys.getD k 0 := ⟨_, rfl⟩
      rw [← hx] at hck hx9
      rw [← hy] at hy9
      have Hx := Lib.hid hx; clear hx
      have Hy := Lib.hid hy; clear hy
      clear hc h3
      have hsz := hbel.size
      by_cases hly : k < ys.length
      · obtain ⟨b', off', rfl, hd⟩ := h3'.resolve_left (by omega)
        have hdk := cell_later hbel (hd k hly)
        rw [← Hy.out] at hdk
        clear hd h3'
        by_cases hxy : x < b1 + y
        · go_wp2_with (at_builtin; refine wpList_append_fits _ rfl _ _ 88 rfl w.heap.size 103 i0 1 Try.ul_u32s hi hz1 w.heap.size k xs.length (nums .u32 os) rfl (hown.alloc _) ⟨wr.heap.size, 0, none⟩ 1 1 [_] rfl rfl (cell_one_new _ _ _) (int_oneCell _ _) (by omega) ?_)
          intro w2 hown2 hgrow2
          have ed : ((x : Int) + 1000000000 - ((b1 : Int) + (y : Int)) : Int) = ((x + 1000000000 - (b1 + y) : Nat) : Int) := by omega
          rw [ed, nums_snoc] at hown2
          have hbel2 : Below w.heap.size w w2 := (hbel.alloc hsz _).grown hgrow2 (by simp; omega) (by intro k hk; simp at hk; omega)
          have HR : Hid (MinusInv xs ys (os ++ [x + 1000000000 - (b1 + y)]) (k + 1) 1) := Hinv.out.step (by omega) (by rw [← Hx.out, ← Hy.out]; omega)
          clear ed hgrow2 hown hbel 
          go_wp2
          go_roundw
          case rel => exact ⟨k + 1, 1, os ++ [x + 1000000000 - (b1 + y)], by omega, by omega, by go_num, rfl, rfl, hown2, HR, hbel2⟩
          case measure => simp [intOf]; omega
        · go_wp2_with (at_builtin; refine wpList_append_fits _ rfl _ _ 88 rfl w.heap.size 103 i0 1 Try.ul_u32s hi hz1 w.heap.size k xs.length (nums .u32 os) rfl (hown.alloc _) ⟨wr.heap.size, 0, none⟩ 1 1 [_] rfl rfl (cell_one_new _ _ _) (int_oneCell _ _) (by omega) ?_)
          intro w2 hown2 hgrow2
          have ed : ((x : Int) - ((b1 : Int) + (y : Int)) : Int) = ((x - (b1 + y) : Nat) : Int) := by omega
          rw [ed, nums_snoc] at hown2
          have hbel2 : Below w.heap.size w w2 := (hbel.alloc hsz _).grown hgrow2 (by simp; omega) (by intro k hk; simp at hk; omega)
          have HR : Hid (MinusInv xs ys (os ++ [x - (b1 + y)]) (k + 1) 0) := Hinv.out.step (by omega) (by rw [← Hx.out, ← Hy.out]; omega)
          clear ed hgrow2 hown hbel 
          go_wp2
          go_roundw
          case rel => exact ⟨k + 1, 0, os ++ [x - (b1 + y)], by omega, by omega, by go_num, rfl, rfl, hown2, HR, hbel2⟩
          case measure => simp [intOf]; omega
      · have hy0 : ys.getD k 0 = 0 := by simp only [List.getD, List.getElem?_eq_none (by omega : ys.length ≤ k), Option.getD_none]
        have Hy0 := Lib.hid hy0; clear hy0
        by_cases hxy : x < b1
        · go_wp2_with (at_builtin; refine wpList_append_fits _ rfl _ _ 88 rfl w.heap.size 103 i0 1 Try.ul_u32s hi hz1 w.heap.size k xs.length (nums .u32 os) rfl (hown.alloc _) ⟨wr.heap.size, 0, none⟩ 1 1 [_] rfl rfl (cell_one_new _ _ _) (int_oneCell _ _) (by omega) ?_)
          intro w2 hown2 hgrow2
          have ed : ((x : Int) + 1000000000 - (b1 : Int) : Int) = ((x + 1000000000 - b1 : Nat) : Int) := by omega
          rw [ed, nums_snoc] at hown2
          have hbel2 : Below w.heap.size w w2 := (hbel.alloc hsz _).grown hgrow2 (by simp; omega) (by intro k hk; simp at hk; omega)
          have HR : Hid (MinusInv xs ys (os ++ [x + 1000000000 - b1]) (k + 1) 1) := Hinv.out.step (by omega) (by rw [← Hx.out, Hy0.out]; omega)
          clear ed hgrow2 hown hbel 
          go_wp2
          go_roundw
          case rel => exact ⟨k + 1, 1, os ++ [x + 1000000000 - b1], by omega, by omega, by go_num, rfl, rfl, hown2, HR, hbel2⟩
          case measure => simp [intOf]; omega
        · go_wp2_with (at_builtin; refine wpList_append_fits _ rfl _ _ 88 rfl w.heap.size 103 i0 1 Try.ul_u32s hi hz1 w.heap.size k xs.length (nums .u32 os) rfl (hown.alloc _) ⟨wr.heap.size, 0, none⟩ 1 1 [_] rfl rfl (cell_one_new _ _ _) (int_oneCell _ _) (by omega) ?_)
          intro w2 hown2 hgrow2
          have ed : ((x : Int) - (b1 : Int) : Int) = ((x - b1 : Nat) : Int) := by omega
          rw [ed, nums_snoc] at hown2
          have hbel2 : Below w.heap.size w w2 := (hbel.alloc hsz _).grown hgrow2 (by simp; omega) (by intro k hk; simp at hk; omega)
          have HR : Hid (MinusInv xs ys (os ++ [x - b1]) (k + 1) 0) := Hinv.out.step (by omega) (by rw [← Hx.out, Hy0.out]; omega)
          clear ed hgrow2 hown hbel 
          go_wp2
          go_roundw
          case rel => exact ⟨k + 1, 0, os ++ [x - b1], by omega, by omega, by go_num, rfl, rfl, hown2, HR, hbel2⟩
          case measure => simp [intOf]; omega
    · obtain rfl : k = xs.length := by omega
      have HF := Hinv.out.fin hlen Hle.out hb1
      have hos : os.length = xs.length := Hinv.out.1
      have hdg := Hinv.out.2.1
      have hsl := Sl.of_owns hown
      rw [← hos] at hsl hown
      have HF' := Lib.hid HF; clear HF
      have Hos := Lib.hid hos; clear hos
      rw [show xs.length = os.length from Hos.out.symm]
      go_wp2_with fail
      refine (trim_any _ os _ hsl (by have := Hos.out; omega)).mono ?_
      rintro e w' ⟨v', rfl, Hv, rfl⟩
      go_wp2
      go_ret
      exact ⟨_, _, rfl, ⟨own_trim hown Hv.out, trimL_nrm hdg, hbel⟩, HF'.out⟩
end Go.Proofs.Ytofbngpckllkoaa
