/-
  Names and days: what observable.letter, Name, within and novationref08.Name, Day compute. The first slash of a string: internal/stringslite.Index, Cut, strings.Cut at one byte; rational.split. The text of an integer. The error of a rational: plain. integer.Check. (Printed by a program of this work.) rational.form. integer.pair. slices.Reverse of bytes of the call's own.
-/
import Derived.Test.YtofbngpckllkoabPart01
import Derived.Lib.Bytealg
import Derived.Lib.IndexLaws
import Derived.Test.YtofbngpckllkoabPart02
namespace Go.Proofs.Ytofbngpckllkoab
open Go.RowKit

def isLet (c : UInt8) : Bool := (decide (97 ≤ c.toNat) && decide (c.toNat ≤ 122)) || (decide (65 ≤ c.toNat) && decide (c.toNat ≤ 90))
def isOth (c : UInt8) : Bool := isDig c || (decide (c.toNat = 95) || decide (c.toNat = 45))
def isNmc (c : UInt8) : Bool := isLet c || isOth c
/-- A name. -/
def isNm (l : List UInt8) : Bool := decide (1 ≤ l.length) && (decide (l.length ≤ 40) && (l.head?.any isLet && l.all isNmc))
def isDay (d : Int) : Bool := decide (0 ≤ d) && decide (d ≤ 99999)

set_option maxRecDepth 100000 in
theorem letter_any (c : UInt8) (w : World) : Calls Try.prog 19 #[.int .u8 c.toNat] w fun e w' => e = .returned (.bool (isLet c)) ∧ w = w' := by
  have hc : c.toNat < 256 := c.toNat_lt
  go_enter Try.func19, Try.ntmps19
  go_wp2
  all_goals
    go_ret
    refine ⟨ret_bool' ?_, rfl⟩
    rw [Bool.eq_iff_iff]; simp [isLet]; omega

set_option maxRecDepth 100000 in
theorem rday_any (d : Int) (w : World) : Calls Try.prog 17 #[.int .i64 d] w fun e w' => e = .returned (.bool (isDay d)) ∧ w = w' := by
  go_enter Try.func17, Try.ntmps17
  go_wp2
  all_goals
    go_ret
    refine ⟨ret_bool' ?_, rfl⟩
    rw [Bool.eq_iff_iff]; simp [isDay]; omega

theorem isNm_short {l : List UInt8} (h : l.length = 0) : isNm l = false := by simp [isNm, h]
theorem isNm_long {l : List UInt8} (h : 40 < l.length) : isNm l = false := by
  have : decide (l.length ≤ 40) = false := by simpa using h
  simp [isNm, this]
theorem isNm_eq (s : ByteArray) (h1 : 0 < s.size) (h2 : s.size ≤ 40) : isNm (bl s) = (isLet s[0] && (bl s).all isNmc) := by
  have e := bl_cons s h1
  have a1 : decide (1 ≤ (bl s).length) = true := by rw [bl_length, decide_eq_true_eq]; omega
  have a2 : decide ((bl s).length ≤ 40) = true := by rw [bl_length, decide_eq_true_eq]; omega
  have a3 : (bl s).head?.any isLet = isLet s[0] := by rw [e]; rfl
  rw [isNm, a1, a2, a3]; rfl
theorem all_false_of_take {f : UInt8 → Bool} {l : List UInt8} {k : Nat} (h : (l.take k).all f = false) : l.all f = false := by
  rw [Bool.eq_false_iff] at h ⊢
  exact fun hh => h (all_take_of_all f l k hh)

set_option maxRecDepth 100000 in
theorem name_no (s : ByteArray) (w : World) (h : s.size = 0 ∨ 40 < s.size) (hl : s.size ≤ 9223372036854775807) :
    Calls Try.prog 10 #[.string s] w fun e w' => e = .returned (.bool (isNm (bl s))) ∧ w = w' := by
  have HR : Hid (isNm (bl s) = false) := by
    show _ = _
    rcases h with h | h
    · exact isNm_short (by rw [bl_length]; exact h)
    · exact isNm_long (by rw [bl_length]; exact h)
  rcases h with h | h
  · have d1 : decide ((s.size : Int) < 1) = true := by simp [h]
    clear h
    go_enter Try.func10, Try.ntmps10
    go_wp2
    go_ret
    exact ⟨ret_bool' HR.out.symm, rfl⟩
  · have d1 : decide ((s.size : Int) < 1) = false := by rw [decide_eq_false_iff_not]; omega
    have d2 : decide ((40 : Int) < (s.size : Int)) = true := by rw [decide_eq_true_eq]; omega
    clear hl
    go_enter Try.func10, Try.ntmps10
    go_wp2
    go_ret
    exact ⟨ret_bool' HR.out.symm, rfl⟩

set_option maxRecDepth 100000 in
theorem name_head (s : ByteArray) (w : World) (h1 : 0 < s.size) (h2 : s.size ≤ 40) (h3 : isLet s[0] = false) :
    Calls Try.prog 10 #[.string s] w fun e w' => e = .returned (.bool (isNm (bl s))) ∧ w = w' := by
  have HR : Hid (isNm (bl s) = false) := by show _ = _; rw [isNm_eq s h1 h2, h3]; rfl
  have d1 : decide ((s.size : Int) < 1) = false := by rw [decide_eq_false_iff_not]; omega
  have d2 : decide ((40 : Int) < (s.size : Int)) = false := by rw [decide_eq_false_iff_not]; omega
  go_enter Try.func10, Try.ntmps10
  go_wp2_with (go_at_call 19; refine (letter_any _ _).mono ?_; rintro e w' ⟨rfl, rfl⟩)
  go_ret
  exact ⟨ret_bool' HR.out.symm, rfl⟩

set_option maxHeartbeats 1000000 in
set_option maxRecDepth 100000 in
theorem name_loop (s : ByteArray) (w : World) (h1 : 0 < s.size) (h2 : s.size ≤ 40) (h3 : isLet s[0] = true) :
    Calls Try.prog 10 #[.string s] w fun e w' => e = .returned (.bool (isNm (bl s))) ∧ w = w' := by
  have HR : Hid (isNm (bl s) = (bl s).all isNmc) := by show _ = _; rw [isNm_eq s h1 h2, h3]; rfl
  have d1 : decide ((s.size : Int) < 1) = false := by rw [decide_eq_false_iff_not]; omega
  have d2 : decide ((40 : Int) < (s.size : Int)) = false := by rw [decide_eq_false_iff_not]; omega
  go_enter Try.func10, Try.ntmps10
  go_wp2_with (go_at_call 19; refine (letter_any _ _).mono ?_; rintro e w' ⟨rfl, rfl⟩)
  go_loop [21] (fun i => ∃ k : Nat, k ≤ s.size ∧ i = .int .i64 k ∧ Hid (((bl s).take k).all isNmc = true)) (fun i => s.size - (intOf i).toNat)
  case atStart => exact ⟨0, Nat.zero_le _, rfl, Lib.hid (by rfl)⟩
  case round =>
    obtain ⟨k, hk, rfl, Hall⟩ := hrel
    clear h3 d1 d2
    by_cases hlt : k < s.size
    · have Hs := Lib.hid (take_succ_all isNmc s k hlt)
      obtain ⟨c, hc⟩ : ∃ c, s[k] = c := ⟨_, rfl⟩
      rw [hc] at Hs
      have hcb : c.toNat < 256 := c.toNat_lt
      cases hl : isLet c with
      | true =>
        have Hok : Hid (((bl s).take (k + 1)).all isNmc = true) := by show _ = _; rw [Hs.out, Hall.out, isNmc, hl]; rfl
        go_wp2_with (go_at_call 19; refine (letter_any _ _).mono ?_; rintro e w' ⟨rfl, rfl⟩)
        go_round
        case rel => exact ⟨k + 1, by omega, by go_num, Hok⟩
        case measure => simp [intOf]; omega
      | false =>
        cases ho : isOth c with
        | true =>
          have Hok : Hid (((bl s).take (k + 1)).all isNmc = true) := by show _ = _; rw [Hs.out, Hall.out, isNmc, ho]; simp
          have ho' := ho
          simp only [isOth, isDig, Bool.or_eq_true, decide_eq_true_eq] at ho'
          clear ho
          rcases ho' with h | h | h
          · have t1 : decide (((c.toNat : Nat) : Int) < 48) = false := by rw [decide_eq_false_iff_not]; omega
            have t2 : decide ((57 : Int) < ((c.toNat : Nat) : Int)) = false := by rw [decide_eq_false_iff_not]; omega
            clear h
            go_wp2_with (go_at_call 19; refine (letter_any _ _).mono ?_; rintro e w' ⟨rfl, rfl⟩)
            go_round
            case rel => exact ⟨k + 1, by omega, by go_num, Hok⟩
            case measure => simp [intOf]; omega
          · have t1 : decide (((c.toNat : Nat) : Int) < 48) = false := by rw [decide_eq_false_iff_not]; omega
            have t2 : decide ((57 : Int) < ((c.toNat : Nat) : Int)) = true := by rw [decide_eq_true_eq]; omega
            have t3 : (((c.toNat : Nat) : Int) != 95) = false := by rw [bne_eq_false_iff_eq]; omega
            have t5 : (((c.toNat : Nat) : Int) == 95) = true := by rw [beq_iff_eq]; omega
            clear h
            go_wp2_with (go_at_call 19; refine (letter_any _ _).mono ?_; rintro e w' ⟨rfl, rfl⟩)
            go_round
            case rel => exact ⟨k + 1, by omega, by go_num, Hok⟩
            case measure => simp [intOf]; omega
          · have t1 : decide (((c.toNat : Nat) : Int) < 48) = true := by rw [decide_eq_true_eq]; omega
            have t3 : (((c.toNat : Nat) : Int) != 95) = true := by rw [bne_iff_ne]; omega
            have t5 : (((c.toNat : Nat) : Int) == 95) = false := by rw [beq_eq_false_iff_ne]; omega
            have t4 : (((c.toNat : Nat) : Int) != 45) = false := by rw [bne_eq_false_iff_eq]; omega
            have t6 : (((c.toNat : Nat) : Int) == 45) = true := by rw [beq_iff_eq]; omega
            clear h
            go_wp2_with (go_at_call 19; refine (letter_any _ _).mono ?_; rintro e w' ⟨rfl, rfl⟩)
            go_round
            case rel => exact ⟨k + 1, by omega, by go_num, Hok⟩
            case measure => simp [intOf]; omega
        | false =>
          have Hno : Hid (isNm (bl s) = false) := by
            show _ = _
            rw [HR.out]
            exact all_false_of_take (k := k + 1) (by rw [Hs.out, isNmc, hl, ho]; simp)
          have ho' := ho
          simp only [isOth, isDig, Bool.or_eq_false_iff, decide_eq_false_iff_not] at ho'
          obtain ⟨h0, h95, h45⟩ := ho'
          have t3 : (((c.toNat : Nat) : Int) != 95) = true := by rw [bne_iff_ne]; omega
          have t4 : (((c.toNat : Nat) : Int) != 45) = true := by rw [bne_iff_ne]; omega
          have t5 : (((c.toNat : Nat) : Int) == 95) = false := by rw [beq_eq_false_iff_ne]; omega
          have t6 : (((c.toNat : Nat) : Int) == 45) = false := by rw [beq_eq_false_iff_ne]; omega
          clear ho h95 h45
          by_cases h48 : c.toNat < 48
          · have t1 : decide (((c.toNat : Nat) : Int) < 48) = true := by rw [decide_eq_true_eq]; omega
            clear h0 h48
            go_wp2_with (go_at_call 19; refine (letter_any _ _).mono ?_; rintro e w' ⟨rfl, rfl⟩)
            go_ret
            exact ⟨ret_bool' Hno.out.symm, rfl⟩
          · have t1 : decide (((c.toNat : Nat) : Int) < 48) = false := by rw [decide_eq_false_iff_not]; omega
            have t2 : decide ((57 : Int) < ((c.toNat : Nat) : Int)) = true := by rw [decide_eq_true_eq]; omega
            clear h0 h48
            go_wp2_with (go_at_call 19; refine (letter_any _ _).mono ?_; rintro e w' ⟨rfl, rfl⟩)
            go_ret
            exact ⟨ret_bool' Hno.out.symm, rfl⟩
    · obtain rfl : k = s.size := by omega
      have HY : Hid (isNm (bl s) = true) := by
        show _ = _
        rw [HR.out, ← Hall.out, List.take_of_length_le (by rw [bl_length]; exact Nat.le_refl _)]
      go_wp2
      go_ret
      exact ⟨ret_bool' HY.out.symm, rfl⟩

theorem name_any (s : ByteArray) (w : World) (hl : s.size ≤ 9223372036854775807) :
    Calls Try.prog 10 #[.string s] w fun e w' => e = .returned (.bool (isNm (bl s))) ∧ w = w' := by
  by_cases h1 : 0 < s.size
  · by_cases h2 : s.size ≤ 40
    · cases h3 : isLet s[0] with
      | true => exact name_loop s w h1 h2 h3
      | false => exact name_head s w h1 h2 h3
    · exact name_no s w (.inr (by omega)) hl
  · exact name_no s w (.inl (by omega)) hl
end Go.Proofs.Ytofbngpckllkoab

namespace Go.Proofs.Ytofbngpckllkoab
open Go.RowKit

/-- Where the first slash is; -1 where there is none. -/
def slashI (s : ByteArray) : Int := Lib.indexByte (bl s) 47

set_option maxHeartbeats 400000 in
set_option maxRecDepth 100000 in
theorem indexByte_slash (s : ByteArray) (w : World) :
    Calls Try.prog 76 #[.string s, .int .u8 47] w fun e w' => e = .returned (.int .i64 (slashI s)) ∧ w = w' := by
  have hr := fun w => Lib.run_indexByteString (P := Try.prog) s 47 w
  have e : Lib.indexByte s.data.toList (47 : Int).toNat.toUInt8 = slashI s := rfl
  rw [e] at hr
  clear e
  go_enter Try.func76, Try.ntmps76
  go_wp2
  rw [run_callFunc_extern Try.func80 (by kernel_rfl) (by kernel_rfl) (by kernel_rfl) (e := Extern.BytealgIndexByte.indexByte) (by kernel_rfl), hr]
  simp only [Result.andThen]
  rw [Oper.upon_value]
  go_wp2
  go_ret
  exact ⟨rfl, rfl⟩

set_option maxHeartbeats 400000 in
set_option maxRecDepth 200000 in
theorem index_slash (s : ByteArray) (w : World) :
    Calls Try.prog 74 #[.string s, .string ⟨#[47]⟩] w fun e w' => e = .returned (.int .i64 (slashI s)) ∧ w = w' := by
  have hs : (⟨#[47]⟩ : ByteArray).size = 1 := rfl
  have h0 : (⟨#[47]⟩ : ByteArray)[0] = 47 := rfl
  go_enter Try.func74, Try.ntmps74
  go_wp2_with fail
  · have h1 : ([47] == s.toList) = true := by assumption
    have h2 : slashI s = 0 := by
      have e : [47] = bl s := by show [47] = s.data.toList; rw [← Lib.toList_data]; exact eq_of_beq h1
      rw [slashI, ← e]; rfl
    go_ret
    exact ⟨by rw [h2]; rfl, rfl⟩
  · refine (indexByte_slash s _).mono ?_
    rintro e w' ⟨rfl, rfl⟩
    go_wp2
    go_ret
    exact ⟨rfl, rfl⟩

theorem slash_none {s : ByteArray} (h : slashI s = -1) : ∀ k : Nat, (bl s)[k]? ≠ some 47 := Lib.indexByte_none h
theorem slash_some {s : ByteArray} {o : Nat} (h : slashI s = o) : (bl s)[o]? = some 47 ∧ ∀ k : Nat, k < o → (bl s)[k]? ≠ some 47 := Lib.indexByte_some h
theorem slash_cases (s : ByteArray) : slashI s = -1 ∨ ∃ o : Nat, slashI s = o ∧ o < s.size := by
  have h := Lib.indexByte_ge (bl s) 47
  by_cases h0 : slashI s = -1
  · exact .inl h0
  · refine .inr ⟨(slashI s).toNat, ?_, ?_⟩
    · have : -1 ≤ slashI s := h
      omega
    · have e : slashI s = ((slashI s).toNat : Int) := by have : -1 ≤ slashI s := h; omega
      have h2 := (slash_some e).1
      have := (List.getElem?_eq_some_iff.1 h2).1
      rw [bl_length] at this
      exact this

def CutPost (w : World) (a b : ByteArray) (f : Bool) (e : Ending) (w' : World) : Prop := e = .returned (.tuple #[.string a, .string b, .bool f]) ∧ ∃ n, w' = w.drewN n

set_option maxHeartbeats 400000 in
set_option maxRecDepth 100000 in
theorem cut0_none (s : ByteArray) (w : World) (h : slashI s = -1) :
    Calls Try.prog 70 #[.string s, .string ⟨#[47]⟩] w (CutPost w s ⟨#[]⟩ false) := by
  have C := index_slash s w
  rw [h] at C
  have HC := Lib.hid C
  clear C h
  go_enter Try.func70, Try.ntmps70
  go_wp2_with fail
  refine HC.out.mono ?_
  rintro e w' ⟨rfl, rfl⟩
  go_wp2
  go_ret3
  exact ⟨rfl, 0, rfl⟩

set_option maxHeartbeats 400000 in
set_option maxRecDepth 100000 in
theorem cut0_some (s : ByteArray) (w : World) (o : Nat) (h : slashI s = o) (ho : o < s.size) (hs : s.size ≤ 4611686018427387904) :
    Calls Try.prog 70 #[.string s, .string ⟨#[47]⟩] w (CutPost w (s.extract 0 o) (s.extract (o + 1) s.size) true) := by
  have C := index_slash s w
  rw [h] at C
  have HC := Lib.hid C
  clear C h
  have hb : (⟨#[47]⟩ : ByteArray).size = 1 := rfl
  have x1 : IntKind.i64.wrap ((o : Int) + 1) = (o : Int) + 1 := IntWalk.i64_in _ (by omega)
  have t1 : ((o : Int) + 1).toNat = o + 1 := by omega
  have k1 : (0 : Int) ≤ (o : Int) + 1 := by omega
  have k2 : (o : Int) + 1 ≤ (s.size : Int) := by omega
  have k3 : (o : Int) ≤ (s.size : Int) := by omega
  go_enter Try.func70, Try.ntmps70
  go_wp2_with fail
  refine HC.out.mono ?_
  rintro e w' ⟨rfl, rfl⟩
  go_wp2_with fail
  go_quiet (fail)
  go_wp2
  go_ret3
  exact ⟨rfl, _, rfl⟩

set_option maxHeartbeats 400000 in
set_option maxRecDepth 100000 in
theorem cut_of (s a b : ByteArray) (f : Bool) (w : World) (C : ∀ W, Calls Try.prog 70 #[.string s, .string ⟨#[47]⟩] W (CutPost W a b f)) :
    Calls Try.prog 53 #[.string s, .string ⟨#[47]⟩] w (CutPost w a b f) := by
  have HC := Lib.hid C
  clear C
  go_enter Try.func53, Try.ntmps53
  go_wp2_with fail
  refine (HC.out _).mono ?_
  rintro e w' ⟨rfl, n, rfl⟩
  go_wp2
  go_ret3
  exact ⟨rfl, n, rfl⟩

set_option maxHeartbeats 400000 in
set_option maxRecDepth 100000 in
theorem split_of (s a b : ByteArray) (f : Bool) (w : World) (C : ∀ W, Calls Try.prog 53 #[.string s, .string ⟨#[47]⟩] W (CutPost W a b f)) :
    Calls Try.prog 31 #[.string s] w (CutPost w a b f) := by
  have HC := Lib.hid C
  clear C
  go_enter Try.func31, Try.ntmps31
  go_wp2_with fail
  refine (HC.out _).mono ?_
  rintro e w' ⟨rfl, n, rfl⟩
  go_wp2
  go_ret3
  exact ⟨rfl, n, rfl⟩

/-- rational.split. -/
theorem split_none (s : ByteArray) (w : World) (h : slashI s = -1) : Calls Try.prog 31 #[.string s] w (CutPost w s ⟨#[]⟩ false) :=
  split_of s _ _ _ w fun W => cut_of s _ _ _ W fun W' => cut0_none s W' h
theorem split_some (s : ByteArray) (w : World) (o : Nat) (h : slashI s = o) (ho : o < s.size) (hs : s.size ≤ 4611686018427387904) : Calls Try.prog 31 #[.string s] w (CutPost w (s.extract 0 o) (s.extract (o + 1) s.size) true) :=
  split_of s _ _ _ w fun W => cut_of s _ _ _ W fun W' => cut0_some s W' o h ho hs
end Go.Proofs.Ytofbngpckllkoab

namespace Go.Proofs.Ytofbngpckllkoab

def dig10F : Nat → Nat → List Nat
  | 0, _ => []
  | k + 1, n => if n = 0 then [] else n % 10 :: dig10F k (n / 10)

/-- The decimal digits of a number, the last one first; none of 0. -/
def dig10 (n : Nat) : List Nat := dig10F n n

theorem dig10F_ok (k : Nat) : ∀ n, n ≤ k → Nrm 10 (dig10F k n) ∧ val 10 (dig10F k n) = n := by
  induction k with
  | zero => intro n h; obtain rfl : n = 0 := by omega
            exact ⟨Nrm.nil _, rfl⟩
  | succ k ih =>
    intro n h
    rw [dig10F]
    by_cases h0 : n = 0
    · rw [if_pos h0, h0]; exact ⟨Nrm.nil _, rfl⟩
    · rw [if_neg h0]
      obtain ⟨i1, i2⟩ := ih (n / 10) (by omega)
      refine ⟨⟨fun x hx => ?_, ?_⟩, by simp only [val, i2]; omega⟩
      · rcases List.mem_cons.1 hx with rfl | hx
        · omega
        · exact i1.1 x hx
      · cases hd : dig10F k (n / 10) with
        | nil =>
          rw [hd] at i2
          simp [val] at i2
          simp; omega
        | cons y ys =>
          have := i1.2
          rw [hd] at this
          simpa [List.getLast?_cons_cons] using this

theorem dig10_nrm (n : Nat) : Nrm 10 (dig10 n) := (dig10F_ok n n (Nat.le_refl _)).1
theorem dig10_val (n : Nat) : val 10 (dig10 n) = n := (dig10F_ok n n (Nat.le_refl _)).2
theorem dig10_of {D : List Nat} (h : Nrm 10 D) : dig10 (val 10 D) = D := Nrm.inj (by decide) (dig10_nrm _) h (dig10_val _)
theorem dig10_zero : dig10 0 = [] := rfl
theorem dig10_ne {n : Nat} (h : n ≠ 0) : dig10 n ≠ [] := fun e => by have := dig10_val n; rw [e] at this; exact h this.symm
theorem dig10_le {n k : Nat} (h : n < 10 ^ k) : (dig10 n).length ≤ k := (dig10_nrm n).length_le (by decide) k (by rw [dig10_val]; exact h)

/-- The bytes of digits. -/
def asc (ds : List Nat) : List UInt8 := ds.map fun d => UInt8.ofNat (48 + d)

/-- The text of a number with a sign. -/
def istr (neg : Bool) (n : Nat) : List UInt8 := if n = 0 then [48] else (if neg then [45] else []) ++ asc (dig10 n).reverse

/-- What write answers. -/
def wStr (neg : Bool) (n : Nat) : List UInt8 := if 1000 < (dig10 n).length then [] else istr neg n
def wErr (n : Nat) : Int := if 1000 < (dig10 n).length then 14 else 0

/-- Digits of groups as digits in base ten: one group more. -/
def GInv (D : List Nat) (b : Nat) (xs : List Nat) (k : Nat) : Prop := D.length = 9 * k ∧ Dig 10 D ∧ val 10 D = val b (xs.take k)

theorem asc_snoc (ds : List Nat) (d : Nat) : asc (ds ++ [d]) = asc ds ++ [UInt8.ofNat (48 + d)] := by simp [asc]
end Go.Proofs.Ytofbngpckllkoab

namespace Go.Proofs.Ytofbngpckllkoab

/-- The error of an integer but for its size. -/
def formErr (l : List UInt8) : Int := if canonI l then 0 else 12

/-- The error of a fraction. -/
def fracErr (n d : List UInt8) : Int :=
  if canonI n = false then 12 else if canonI d = false then 12 else if d.head? = some 45 then 12 else if d = [48] then 12 else if d = [49] then 12
  else if intErr n ≠ 0 then 14 else if intErr d ≠ 0 then 14 else if Nat.gcd (dval (body n)) (dval (body d)) = 1 then 0 else 12

/-- The error of a rational. -/
def ratErr (s : ByteArray) : Int := if slashI s = -1 then intErr (bl s) else fracErr ((bl s).take (slashI s).toNat) ((bl s).drop ((slashI s).toNat + 1))

theorem intErr_of_not {l : List UInt8} (h : canonI l = false) : intErr l = 12 := by rw [intErr, if_neg (by rw [h]; simp)]
theorem intErr_of {l : List UInt8} (h : canonI l = true) (h0 : intErr l ≠ 0) : intErr l = 14 := by
  rw [intErr, if_pos h] at h0 ⊢
  by_cases hb : 1000 < (body l).length
  · rw [if_pos hb]
  · rw [if_neg hb] at h0; exact absurd rfl h0

theorem istr_one (n : Nat) : istr false n = [49] ↔ n = 1 := by
  constructor
  · intro h
    unfold istr at h
    by_cases h0 : n = 0
    · rw [if_pos h0] at h; simp at h
    · rw [if_neg h0] at h
      simp only [Bool.false_eq_true, if_false, List.nil_append] at h
      have hl := congrArg List.length h
      simp [asc] at hl
      match hd : dig10 n, hl with
      | [x], _ =>
        rw [hd] at h
        simp [asc] at h
        have hx : x < 10 := (dig10_nrm n).1 x (by rw [hd]; simp)
        have hv := dig10_val n
        rw [hd] at hv
        simp [val] at hv
        have e := congrArg UInt8.toNat h
        rw [UInt8.toNat_add, UInt8.toNat_ofNat'] at e
        have e48 : (48 : UInt8).toNat = 48 := rfl
        have e49 : (49 : UInt8).toNat = 49 := rfl
        rw [e48, e49] at e
        omega
  · rintro rfl; rfl
end Go.Proofs.Ytofbngpckllkoab

namespace Go.Proofs.Ytofbngpckllkoab
open Go.RowKit

set_option maxHeartbeats 1000000 in
set_option maxRecDepth 100000 in
theorem check_empty (s : ByteArray) (w : World) (_hl : s.size ≤ 9223372036854775807) (h0 : s.size = 0) :
    Calls Try.prog 33 #[.string s] w fun e w' => e = .returned (.int .i64 (intErr (bl s))) ∧ w = w' := by
  have HF : Hid (intErr (bl s) = 12) := by
    have : bl s = [] := List.eq_nil_of_length_eq_zero (by rw [bl_length]; exact h0)
    rw [this]; rfl
  have h1 : s.toList = [] := by rw [Lib.toList_data]; exact List.eq_nil_of_length_eq_zero (by rw [← bl_length] at h0; exact h0)
  have h2 : ¬ 0 < s.size := by omega
  clear h0
  go_enter Try.func33, Try.ntmps33
  go_wp2
  go_ret
  exact ⟨ret_int' HF.out.symm, rfl⟩

set_option maxHeartbeats 1000000 in
set_option maxRecDepth 100000 in
theorem check_zero (s : ByteArray) (w : World) (hl : s.size ≤ 9223372036854775807) (h1 : 1 < s.size) (h0 : s[0] = 48) :
    Calls Try.prog 33 #[.string s] w fun e w' => e = .returned (.int .i64 (intErr (bl s))) ∧ w = w' := by
  have HF : Hid (intErr (bl s) = 12) := by
    have e := bl_cons s (by omega)
    rw [h0] at e
    have hn : (bl s).tail ≠ [] := fun hh => by have := congrArg List.length e; rw [hh, bl_length] at this; simp at this; omega
    rw [e]
    cases ht : (bl s).tail with
    | nil => exact absurd ht hn
    | cons a b => show _ = _; simp [intErr, canonI, body, isNeg, canonD]
  have h2 : s.toList.isEmpty = false := toList_ne s (by omega)
  have h4 : (0 : Nat) < s.size := by omega
  go_enter Try.func33, Try.ntmps33
  go_wp2
  go_ret
  exact ⟨ret_int' HF.out.symm, rfl⟩

set_option maxHeartbeats 1000000 in
set_option maxRecDepth 100000 in
theorem check_digits (s : ByteArray) (w : World) (hl : s.size ≤ 9223372036854775807) (h1 : 0 < s.size) (hm : s[0] ≠ 45) (h0 : s[0] ≠ 48 ∨ s.size = 1) :
    Calls Try.prog 33 #[.string s] w fun e w' => e = .returned (.int .i64 (intErr (bl s))) ∧ w = w' := by
  have HC : Hid (intErr (bl s) = if (bl s).all isDig = true then (if 1000 < s.size then 14 else 0) else 12) := by
    show _ = _
    have e := bl_cons s h1
    rw [intErr_pos (by rw [e]; simpa using hm), canonD, ← bl_length]
    have a1 : (bl s).isEmpty = false := by rw [e]; rfl
    have a2 : ((bl s).head? == some 48 && (decide (1 < (bl s).length) || false)) = false := by
      rcases h0 with h0 | h0
      · rw [e]; simp; intro hh; exact absurd hh h0
      · rw [bl_length, h0]; simp
    rw [a1, a2]; simp
  obtain ⟨c0, hc0⟩ : ∃ c, s[0] = c := ⟨_, rfl⟩
  have hm1 : ((c0.toNat : Int) == 45) = false := by rw [hc0] at hm; simpa using fun hh : (c0.toNat : Int) = 45 => hm (UInt8.toNat_inj.1 (by simpa using (by omega : c0.toNat = 45)))
  have h2 : s.toList.isEmpty = false := toList_ne s h1
  rw [hc0] at h0 hm
  have H0 := Lib.hid h0; clear h0 hm
  have hpre : (((c0.toNat : Int) == 48) = false) ∨ (((c0.toNat : Int) == 48) = true ∧ ¬ 1 < s.size) := by
    rcases H0.out with h | h
    · exact .inl (by simpa using fun hh : (c0.toNat : Int) = 48 => h (UInt8.toNat_inj.1 (by simpa using (by omega : c0.toNat = 48))))
    · cases hb : ((c0.toNat : Int) == 48)
      · exact .inl rfl
      · exact .inr ⟨rfl, by omega⟩
  rcases hpre with hp | ⟨hp, hq⟩
  · go_enter Try.func33, Try.ntmps33
    go_wp2_with fail
    go_loopw [32] (fun i wr => ∃ k : Nat, k ≤ s.size ∧ i = .int .i64 k ∧ Hid (((bl s).take k).all isDig = true) ∧ wr = w)
      (fun i _ => s.size - (intOf i).toNat)
    case atStart => exact ⟨0, Nat.zero_le _, rfl, rfl, rfl⟩
    case round =>
      obtain ⟨k, hk, rfl, Hk, rfl⟩ := hrel
      by_cases hlt : k < s.size
      · obtain ⟨c, hc⟩ : ∃ c, s[k] = c := ⟨_, rfl⟩
        have hcb : c.toNat < 256 := c.toNat_lt
        have Hcl := Lib.hid (take_succ_all isDig s k hlt)
        rw [hc] at Hcl
        by_cases h1 : c.toNat < 48
        · have HF : Hid (intErr (bl s) = 12) := by
            show _ = _
            rw [HC.out, if_neg]
            intro hall
            have := all_take_of_all isDig (bl s) (k + 1) hall
            rw [Hcl.out] at this
            simp [isDig] at this
            omega
          have d1 : decide (((c.toNat : Nat) : Int) < 48) = true := by rw [decide_eq_true_eq]; omega
          have d1' : ¬ ((48 : Int) ≤ ((c.toNat : Nat) : Int)) := by omega
          go_wp2
          go_ret
          exact ⟨ret_int' HF.out.symm, rfl⟩
        · have d1 : decide (((c.toNat : Nat) : Int) < 48) = false := by rw [decide_eq_false_iff_not]; omega
          by_cases h2 : c.toNat ≤ 57
          · have d2 : decide ((57 : Int) < ((c.toNat : Nat) : Int)) = false := by rw [decide_eq_false_iff_not]; omega
            have Hk2 : Hid (((bl s).take (k + 1)).all isDig = true) := by
              show _ = true
              rw [Hcl.out, Hk.out]
              simp [isDig]; omega
            clear Hcl Hk
            go_wp2
            go_roundw
            case rel => exact ⟨k + 1, by omega, by go_num, Hk2, by trivial⟩
            case measure => simp [intOf]; omega
          · have d2 : decide ((57 : Int) < ((c.toNat : Nat) : Int)) = true := by rw [decide_eq_true_eq]; omega
            have d2' : ¬ (((c.toNat : Nat) : Int) ≤ 57) := by omega
            have HF : Hid (intErr (bl s) = 12) := by
              show _ = _
              rw [HC.out, if_neg]
              intro hall
              have := all_take_of_all isDig (bl s) (k + 1) hall
              rw [Hcl.out] at this
              simp [isDig] at this
              omega
            clear Hcl Hk
            go_wp2
            go_ret
            exact ⟨ret_int' HF.out.symm, rfl⟩
      · obtain rfl : k = s.size := by omega
        have hall : (bl s).all isDig = true := by
          have := Hk.out
          rw [List.take_of_length_le (by rw [bl_length]; exact Nat.le_refl _)] at this
          exact this
        have Hall := Lib.hid hall; clear hall
        by_cases hbig : 1000 < s.size
        · have HF : Hid (intErr (bl s) = 14) := by show _ = _; rw [HC.out, if_pos Hall.out, if_pos hbig]
          have d3 : decide ((1000 : Int) < ((s.size : Nat) : Int)) = true := by rw [decide_eq_true_eq]; omega
          have d3' : ¬ (((s.size : Nat) : Int) ≤ 1000) := by omega
          go_wp2
          go_ret
          exact ⟨ret_int' HF.out.symm, rfl⟩
        · have HF : Hid (intErr (bl s) = 0) := by show _ = _; rw [HC.out, if_pos Hall.out, if_neg hbig]
          have d3 : decide ((1000 : Int) < ((s.size : Nat) : Int)) = false := by rw [decide_eq_false_iff_not]; omega
          go_wp2
          go_ret
          exact ⟨ret_int' HF.out.symm, rfl⟩
  · go_enter Try.func33, Try.ntmps33
    go_wp2_with fail
    go_loopw [32] (fun i wr => ∃ k : Nat, k ≤ s.size ∧ i = .int .i64 k ∧ Hid (((bl s).take k).all isDig = true) ∧ wr = w)
      (fun i _ => s.size - (intOf i).toNat)
    case atStart => exact ⟨0, Nat.zero_le _, rfl, rfl, rfl⟩
    case round =>
      obtain ⟨k, hk, rfl, Hk, rfl⟩ := hrel
      by_cases hlt : k < s.size
      · obtain ⟨c, hc⟩ : ∃ c, s[k] = c := ⟨_, rfl⟩
        have hcb : c.toNat < 256 := c.toNat_lt
        have Hcl := Lib.hid (take_succ_all isDig s k hlt)
        rw [hc] at Hcl
        by_cases h1 : c.toNat < 48
        · have HF : Hid (intErr (bl s) = 12) := by
            show _ = _
            rw [HC.out, if_neg]
            intro hall
            have := all_take_of_all isDig (bl s) (k + 1) hall
            rw [Hcl.out] at this
            simp [isDig] at this
            omega
          have d1 : decide (((c.toNat : Nat) : Int) < 48) = true := by rw [decide_eq_true_eq]; omega
          have d1' : ¬ ((48 : Int) ≤ ((c.toNat : Nat) : Int)) := by omega
          go_wp2
          go_ret
          exact ⟨ret_int' HF.out.symm, rfl⟩
        · have d1 : decide (((c.toNat : Nat) : Int) < 48) = false := by rw [decide_eq_false_iff_not]; omega
          by_cases h2 : c.toNat ≤ 57
          · have d2 : decide ((57 : Int) < ((c.toNat : Nat) : Int)) = false := by rw [decide_eq_false_iff_not]; omega
            have Hk2 : Hid (((bl s).take (k + 1)).all isDig = true) := by
              show _ = true
              rw [Hcl.out, Hk.out]
              simp [isDig]; omega
            clear Hcl Hk
            go_wp2
            go_roundw
            case rel => exact ⟨k + 1, by omega, by go_num, Hk2, by trivial⟩
            case measure => simp [intOf]; omega
          · have d2 : decide ((57 : Int) < ((c.toNat : Nat) : Int)) = true := by rw [decide_eq_true_eq]; omega
            have d2' : ¬ (((c.toNat : Nat) : Int) ≤ 57) := by omega
            have HF : Hid (intErr (bl s) = 12) := by
              show _ = _
              rw [HC.out, if_neg]
              intro hall
              have := all_take_of_all isDig (bl s) (k + 1) hall
              rw [Hcl.out] at this
              simp [isDig] at this
              omega
            clear Hcl Hk
            go_wp2
            go_ret
            exact ⟨ret_int' HF.out.symm, rfl⟩
      · obtain rfl : k = s.size := by omega
        have hall : (bl s).all isDig = true := by
          have := Hk.out
          rw [List.take_of_length_le (by rw [bl_length]; exact Nat.le_refl _)] at this
          exact this
        have Hall := Lib.hid hall; clear hall
        by_cases hbig : 1000 < s.size
        · have HF : Hid (intErr (bl s) = 14) := by show _ = _; rw [HC.out, if_pos Hall.out, if_pos hbig]
          have d3 : decide ((1000 : Int) < ((s.size : Nat) : Int)) = true := by rw [decide_eq_true_eq]; omega
          have d3' : ¬ (((s.size : Nat) : Int) ≤ 1000) := by omega
          go_wp2
          go_ret
          exact ⟨ret_int' HF.out.symm, rfl⟩
        · have HF : Hid (intErr (bl s) = 0) := by show _ = _; rw [HC.out, if_pos Hall.out, if_neg hbig]
          have d3 : decide ((1000 : Int) < ((s.size : Nat) : Int)) = false := by rw [decide_eq_false_iff_not]; omega
          go_wp2
          go_ret
          exact ⟨ret_int' HF.out.symm, rfl⟩

set_option maxHeartbeats 1000000 in
set_option maxRecDepth 100000 in
theorem check_neg_bad (s : ByteArray) (w : World) (hl : s.size ≤ 9223372036854775807) (h1 : 0 < s.size) (hm : s[0] = 45) (t : ByteArray) (ht : s.extract 1 s.size = t) (hb : t.size = 0 ∨ ∃ h : 0 < t.size, t[0] = 48) :
    Calls Try.prog 33 #[.string s] w fun e w' => e = .returned (.int .i64 (intErr (bl s))) ∧ w = w' := by
  have e := bl_cons s h1
  have et := bl_tail s h1
  rw [ht] at et
  have HF : Hid (intErr (bl s) = 12) := by
    show _ = _
    rw [e, hm, ← et, intErr_cons_neg, if_neg]
    rcases hb with hb | ⟨hb, hc⟩
    · have : bl t = [] := List.eq_nil_of_length_eq_zero (by rw [bl_length]; exact hb)
      rw [this]; decide
    · rw [bl_cons t hb, hc]; simp [canonD]
  have hsz : s.size - 1 = t.size := by rw [← bl_length, ← bl_length, et]; simp
  have hme : t.size ≤ 9223372036854775807 := by omega
  clear e et
  have Hsz := Lib.hid hsz; clear hsz
  rcases hb with hb | ⟨hb, hc⟩
  · have h2 : t.toList = [] := by rw [Lib.toList_data]; exact List.eq_nil_of_length_eq_zero (by rw [← bl_length] at hb; exact hb)
    have h3 : (t.toList == [48]) = false := by rw [h2]; rfl
    have h4 : ¬ 0 < t.size := by omega
    clear hb
    go_enter Try.func33, Try.ntmps33
    go_wp2
    go_ret
    exact ⟨ret_int' HF.out.symm, rfl⟩
  · by_cases h5 : t.size = 1
    · have h3 : (t.toList == [48]) = true := by
        rw [Lib.toList_data]
        have := bl_cons t hb
        have hn : (bl t).tail = [] := List.eq_nil_of_length_eq_zero (by rw [List.length_tail, bl_length]; omega)
        rw [hn, hc] at this
        show ((bl t) == [48]) = true
        rw [this]; rfl
      clear h5
      go_enter Try.func33, Try.ntmps33
      go_wp2
      go_ret
      exact ⟨ret_int' HF.out.symm, rfl⟩
    · have h2 : t.toList.isEmpty = false := toList_ne t hb
      have h3 : (t.toList == [48]) = false := by
        rw [Lib.toList_data, Bool.eq_false_iff]
        intro hh
        have := congrArg List.length (eq_of_beq hh)
        have h6 : (bl t).length = t.size := bl_length t
        simp [bl] at h6
        simp at this
        omega
      have h6 : 1 < t.size := by omega
      clear h5
      go_enter Try.func33, Try.ntmps33
      go_wp2
      go_ret
      exact ⟨ret_int' HF.out.symm, rfl⟩

set_option maxHeartbeats 1000000 in
set_option maxRecDepth 100000 in
theorem check_neg (s : ByteArray) (w : World) (hl : s.size ≤ 9223372036854775807) (h1 : 0 < s.size) (hm : s[0] = 45) (t : ByteArray) (ht : s.extract 1 s.size = t) (h2 : 0 < t.size) (h0 : t[0] ≠ 48) :
    Calls Try.prog 33 #[.string s] w fun e w' => e = .returned (.int .i64 (intErr (bl s))) ∧ w = w' := by
  have e := bl_cons s h1
  have et := bl_tail s h1
  rw [ht] at et
  have HC : Hid (intErr (bl s) = if (bl t).all isDig = true then (if 1000 < t.size then 14 else 0) else 12) := by
    show _ = _
    rw [e, hm, ← et, intErr_cons_neg, canonD, ← bl_length]
    have a1 : (bl t).isEmpty = false := by rw [bl_cons t h2]; rfl
    have a2 : ((bl t).head? == some 48 && (decide (1 < (bl t).length) || true)) = false := by rw [bl_cons t h2]; simpa using h0
    rw [a1, a2]; simp
  have hsz : s.size - 1 = t.size := by rw [← bl_length, ← bl_length, et]; simp
  have hme : t.size ≤ 9223372036854775807 := by omega
  clear e et
  have Hsz := Lib.hid hsz; clear hsz
  obtain ⟨c0, hc0⟩ : ∃ c, t[0] = c := ⟨_, rfl⟩
  have h5 : t.toList.isEmpty = false := toList_ne t h2
  have h3 : (t.toList == [48]) = false := by
    rw [Lib.toList_data, Bool.eq_false_iff]
    intro hh
    have h6 := bl_cons t h2
    have h7 : bl t = [48] := eq_of_beq hh
    rw [h7] at h6
    exact h0 (List.cons.inj h6).1.symm
  rw [hc0] at h0
  have hp : ((c0.toNat : Int) == 48) = false := by simpa using fun hh : (c0.toNat : Int) = 48 => h0 (UInt8.toNat_inj.1 (by simpa using (by omega : c0.toNat = 48)))
  clear h0
  go_enter Try.func33, Try.ntmps33
  go_wp2_with fail
  go_loopw [32] (fun i wr => ∃ k : Nat, k ≤ t.size ∧ i = .int .i64 k ∧ Hid (((bl t).take k).all isDig = true) ∧ wr = w)
    (fun i _ => t.size - (intOf i).toNat)
  case atStart => exact ⟨0, Nat.zero_le _, rfl, rfl, rfl⟩
  case round =>
    obtain ⟨k, hk, rfl, Hk, rfl⟩ := hrel
    by_cases hlt : k < t.size
    · obtain ⟨c, hc⟩ : ∃ c, t[k] = c := ⟨_, rfl⟩
      have hcb : c.toNat < 256 := c.toNat_lt
      have Hcl := Lib.hid (take_succ_all isDig t k hlt)
      rw [hc] at Hcl
      by_cases h1 : c.toNat < 48
      · have HF : Hid (intErr (bl s) = 12) := by
          show _ = _
          rw [HC.out, if_neg]
          intro hall
          have := all_take_of_all isDig (bl t) (k + 1) hall
          rw [Hcl.out] at this
          simp [isDig] at this
          omega
        have d1 : decide (((c.toNat : Nat) : Int) < 48) = true := by rw [decide_eq_true_eq]; omega
        have d1' : ¬ ((48 : Int) ≤ ((c.toNat : Nat) : Int)) := by omega
        go_wp2
        go_ret
        exact ⟨ret_int' HF.out.symm, rfl⟩
      · have d1 : decide (((c.toNat : Nat) : Int) < 48) = false := by rw [decide_eq_false_iff_not]; omega
        by_cases h2 : c.toNat ≤ 57
        · have d2 : decide ((57 : Int) < ((c.toNat : Nat) : Int)) = false := by rw [decide_eq_false_iff_not]; omega
          have Hk2 : Hid (((bl t).take (k + 1)).all isDig = true) := by
            show _ = true
            rw [Hcl.out, Hk.out]
            simp [isDig]; omega
          clear Hcl Hk
          go_wp2
          go_roundw
          case rel => exact ⟨k + 1, by omega, by go_num, Hk2, by trivial⟩
          case measure => simp [intOf]; omega
        · have d2 : decide ((57 : Int) < ((c.toNat : Nat) : Int)) = true := by rw [decide_eq_true_eq]; omega
          have d2' : ¬ (((c.toNat : Nat) : Int) ≤ 57) := by omega
          have HF : Hid (intErr (bl s) = 12) := by
            show _ = _
            rw [HC.out, if_neg]
            intro hall
            have := all_take_of_all isDig (bl t) (k + 1) hall
            rw [Hcl.out] at this
            simp [isDig] at this
            omega
          clear Hcl Hk
          go_wp2
          go_ret
          exact ⟨ret_int' HF.out.symm, rfl⟩
    · obtain rfl : k = t.size := by omega
      have hall : (bl t).all isDig = true := by
        have := Hk.out
        rw [List.take_of_length_le (by rw [bl_length]; exact Nat.le_refl _)] at this
        exact this
      have Hall := Lib.hid hall; clear hall
      by_cases hbig : 1000 < t.size
      · have HF : Hid (intErr (bl s) = 14) := by show _ = _; rw [HC.out, if_pos Hall.out, if_pos hbig]
        have d3 : decide ((1000 : Int) < ((t.size : Nat) : Int)) = true := by rw [decide_eq_true_eq]; omega
        have d3' : ¬ (((t.size : Nat) : Int) ≤ 1000) := by omega
        go_wp2
        go_ret
        exact ⟨ret_int' HF.out.symm, rfl⟩
      · have HF : Hid (intErr (bl s) = 0) := by show _ = _; rw [HC.out, if_pos Hall.out, if_neg hbig]
        have d3 : decide ((1000 : Int) < ((t.size : Nat) : Int)) = false := by rw [decide_eq_false_iff_not]; omega
        go_wp2
        go_ret
        exact ⟨ret_int' HF.out.symm, rfl⟩

/-- integer.Check. -/
theorem check_any (s : ByteArray) (w : World) (hl : s.size ≤ 9223372036854775807) :
    Calls Try.prog 33 #[.string s] w fun e w' => e = .returned (.int .i64 (intErr (bl s))) ∧ w = w' := by
  by_cases h1 : 0 < s.size
  · by_cases hm : s[0] = 45
    · by_cases h2 : 0 < (s.extract 1 s.size).size
      · by_cases h0 : (s.extract 1 s.size)[0] = 48
        · exact check_neg_bad s w hl h1 hm _ rfl (.inr ⟨h2, h0⟩)
        · exact check_neg s w hl h1 hm _ rfl h2 h0
      · exact check_neg_bad s w hl h1 hm _ rfl (.inl (by omega))
    · by_cases h0 : s[0] = 48
      · by_cases h2 : 1 < s.size
        · exact check_zero s w hl h2 h0
        · exact check_digits s w hl h1 hm (.inr (by omega))
      · exact check_digits s w hl h1 hm (.inl h0)
  · exact check_empty s w hl (by omega)
end Go.Proofs.Ytofbngpckllkoab

namespace Go.Proofs.Ytofbngpckllkoab
open Go.RowKit

theorem intErr_cases (l : List UInt8) : intErr l = 0 ∨ intErr l = 12 ∨ intErr l = 14 := by
  unfold intErr
  split
  · split
    · exact .inr (.inr rfl)
    · exact .inl rfl
  · exact .inr (.inl rfl)

set_option maxHeartbeats 400000 in
set_option maxRecDepth 100000 in
theorem form_any (s : ByteArray) (w : World) (hl : s.size ≤ 9223372036854775807) :
    Calls Try.prog 32 #[.string s] w fun e w' => e = .returned (.int .i64 (formErr (bl s))) ∧ w = w' := by
  have C := check_any s w hl
  have HF : Hid (formErr (bl s) = if intErr (bl s) = 14 then 0 else intErr (bl s)) := by
    show _ = _
    unfold formErr intErr
    split <;> split <;> simp_all
  obtain ⟨E, hE⟩ : ∃ E, intErr (bl s) = E := ⟨_, rfl⟩
  obtain ⟨F, hF⟩ : ∃ F, formErr (bl s) = F := ⟨_, rfl⟩
  rw [hE] at C HF
  rw [hF] at HF ⊢
  have HC := Lib.hid C
  clear C hE hF hl
  by_cases h : E = 14
  · subst h
    have e : F = 0 := HF.out
    subst e
    clear HF
    go_enter Try.func32, Try.ntmps32
    go_wp2_with fail
    refine HC.out.mono ?_
    rintro e w' ⟨rfl, rfl⟩
    go_wp2
    go_ret
    exact ⟨rfl, rfl⟩
  · have e : F = E := by have := HF.out; rw [if_neg h] at this; exact this
    subst e
    clear HF
    have d1 : (F != 14) = true := by simpa using h
    have d2 : (F == 14) = false := by simpa using h
    go_enter Try.func32, Try.ntmps32
    go_wp2_with fail
    refine HC.out.mono ?_
    rintro e w' ⟨rfl, rfl⟩
    go_wp2
    go_ret
    exact ⟨rfl, rfl⟩
end Go.Proofs.Ytofbngpckllkoab

namespace Go.Proofs.Ytofbngpckllkoab
open Go.RowKit

theorem intErr_zero {l : List UInt8} (h : intErr l = 0) : canonI l = true ∧ (body l).length ≤ 1000 := by
  unfold intErr at h
  by_cases hc : canonI l = true
  · rw [if_pos hc] at h
    by_cases hb : 1000 < (body l).length
    · rw [if_pos hb] at h; omega
    · exact ⟨hc, by omega⟩
  · rw [if_neg hc] at h; omega
theorem body_len (l : List UInt8) : l.length ≤ (body l).length + 1 := by
  unfold body; split <;> simp; omega

/-- Numbers that can be read are not a variable that holds a bool and a slice: they stay while that is written. -/
theorem sl_keep_box {w W' : World} {v : Value} {k : IntKind} {xs : List Nat} {B : Nat} {t : TypeId} {u : Bool} {a : Option Addr} {n c : Nat} (h : Sl w v 1 xs.length (nums k xs)) (hb : Boxed2 w B t (.bool u) (.slice a n c))
    (hW : ∀ j, j ≠ B → W'.heap[j]? = w.heap[j]?) : Sl W' v 1 xs.length (nums k xs) := by
  obtain ⟨ad, cap, rfl, h1, h2, h3⟩ := h
  refine ⟨ad, cap, rfl, h1, h2, ?_⟩
  rcases h3 with h3 | ⟨b, off, rfl, h3⟩
  · exact .inl h3
  · by_cases h0 : xs.length = 0
    · exact .inl h0
    · refine .inr ⟨b, off, rfl, fun j x hj => ?_⟩
      have hne : b ≠ B := by
        intro e
        subst e
        have e1 := h3 0 _ (nums_at k xs 0 (by omega))
        have e2 : w.cell? ⟨b, off + 0, none⟩ = #[Value.bool u, Value.slice a n c][off + 0]? := by simp [World.cell?, show w.heap[b]? = _ from hb]
        rw [e2] at e1
        match off, e1 with
        | 0, e1 => simp at e1
        | 1, e1 => simp at e1
        | off + 2, e1 => simp at e1
      rw [World.cell?_of_block (w := w) (hW b hne)]
      exact h3 j x hj

def zeroNum : Value := .agg #[.bool false, .slice none 0 0]

def PairErr (w : World) (er : Int) (e : Ending) (w' : World) : Prop := e = .returned (.tuple #[.agg #[.bool false, .slice none 0 0], .agg #[.bool false, .slice none 0 0], .int .i64 er]) ∧ Below w.heap.size w w'

set_option maxHeartbeats 1000000 in
set_option maxRecDepth 100000 in
theorem pair_err1 (a b : ByteArray) (w : World) (ha : a.size ≤ 9223372036854775807) (h : intErr (bl a) ≠ 0) :
    Calls Try.prog 41 #[.string a, .string b] w (PairErr w (intErr (bl a))) := by
  have C := fun W => check_any a W ha
  obtain ⟨er, her⟩ : ∃ er, intErr (bl a) = er := ⟨_, rfl⟩
  rw [her] at h ⊢
  simp only [her] at C
  have HC := Lib.hid C
  clear C her
  have h1 : (er == 0) = false := by rw [beq_eq_false_iff_ne]; exact h
  have h2 : (er != 0) = true := by rw [bne_iff_ne]; exact h
  clear h
  go_enter Try.func41, Try.ntmps41
  go_wp2_with fail
  refine (HC.out _).mono ?_
  rintro e w' ⟨rfl, rfl⟩
  go_wp2_with fail
  go_region
  all_goals (try go_wp2)
  all_goals refine bodyPost_ret (v := .tuple #[.agg #[.bool false, .slice none 0 0], .agg #[.bool false, .slice none 0 0], .int .i64 er]) (by simp [results, Try.results41, go_sem]) rfl ⟨rfl, ?_⟩
  all_goals exact (((Below.refl _ _).alloc (Nat.le_refl _) _).alloc (by simp) _).drew

set_option maxHeartbeats 1000000 in
set_option maxRecDepth 100000 in
theorem pair_err2 (a b : ByteArray) (w : World) (ha : a.size ≤ 9223372036854775807) (hb : b.size ≤ 9223372036854775807) (h0 : intErr (bl a) = 0) (h : intErr (bl b) ≠ 0) :
    Calls Try.prog 41 #[.string a, .string b] w (PairErr w (intErr (bl b))) := by
  have CA := fun W => check_any a W ha
  simp only [h0] at CA
  have C := fun W => check_any b W hb
  obtain ⟨er, her⟩ : ∃ er, intErr (bl b) = er := ⟨_, rfl⟩
  rw [her] at h ⊢
  simp only [her] at C
  have HC := Lib.hid C
  have HCA := Lib.hid CA
  clear C CA her h0
  have h1 : (er == 0) = false := by rw [beq_eq_false_iff_ne]; exact h
  have h2 : (er != 0) = true := by rw [bne_iff_ne]; exact h
  clear h
  go_enter Try.func41, Try.ntmps41
  go_wp2_with fail
  refine (HCA.out _).mono ?_
  rintro e w' ⟨rfl, rfl⟩
  go_wp2_with fail
  refine (HC.out _).mono ?_
  rintro e w' ⟨rfl, rfl⟩
  go_wp2_with fail
  go_region
  all_goals (try go_wp2)
  all_goals refine bodyPost_ret (v := .tuple #[.agg #[.bool false, .slice none 0 0], .agg #[.bool false, .slice none 0 0], .int .i64 er]) (by simp [results, Try.results41, go_sem]) rfl ⟨rfl, ?_⟩
  all_goals exact (((Below.refl _ _).alloc (Nat.le_refl _) _).alloc (by simp) _).drew

def PairOk (w : World) (a b : List UInt8) (e : Ending) (w' : World) : Prop :=
  ∃ va vb xs ys, e = .returned (.tuple #[.agg #[.bool (isNeg a), va], .agg #[.bool (isNeg b), vb], .int .i64 0]) ∧ Sl w' va 1 xs.length (nums .u32 xs) ∧ Sl w' vb 1 ys.length (nums .u32 ys) ∧
    Nrm 1000000000 xs ∧ Nrm 1000000000 ys ∧ val 1000000000 xs = dval (body a) ∧ val 1000000000 ys = dval (body b) ∧ Below w.heap.size w w'

set_option maxHeartbeats 1000000 in
set_option maxRecDepth 100000 in
theorem pair_ok (a b : ByteArray) (w : World) (ha : a.size ≤ 9223372036854775807) (hb : b.size ≤ 9223372036854775807) (h0 : intErr (bl a) = 0) (h : intErr (bl b) = 0) :
    Calls Try.prog 41 #[.string a, .string b] w (PairOk w (bl a) (bl b)) := by
  have CA := fun W => check_any a W ha
  simp only [h0] at CA
  have CB := fun W => check_any b W hb
  simp only [h] at CB
  have HCA := Lib.hid CA
  have HCB := Lib.hid CB
  have la : a.size ≤ 100000 := by have := body_len (bl a); have := (intErr_zero h0).2; have := bl_length a; omega
  have lb : b.size ≤ 100000 := by have := body_len (bl b); have := (intErr_zero h).2; have := bl_length b; omega
  have RA := fun W => read_any a W la (intErr_zero h0).1
  have RB := fun W => read_any b W lb (intErr_zero h).1
  obtain ⟨na, hna⟩ : ∃ na, isNeg (bl a) = na := ⟨_, rfl⟩
  obtain ⟨nb, hnb⟩ : ∃ nb, isNeg (bl b) = nb := ⟨_, rfl⟩
  simp only [hna] at RA
  simp only [hnb] at RB
  have HRA := Lib.hid RA
  have HRB := Lib.hid RB
  have Hna := Lib.hid hna
  have Hnb := Lib.hid hnb
  clear CA CB RA RB h0 h la lb hna hnb
  go_enter Try.func41, Try.ntmps41
  go_wp2_with fail
  refine (HCA.out _).mono ?_
  rintro e w' ⟨rfl, rfl⟩
  go_wp2_with fail
  refine (HCB.out _).mono ?_
  rintro e w' ⟨rfl, rfl⟩
  go_wp2_with fail
  obtain ⟨W0, hW0⟩ : ∃ W0, W0 = ((w.alloc (.cells #[.bool false, .slice none 0 0] 75)).alloc (.cells #[.bool false, .slice none 0 0] 75)) := ⟨_, rfl⟩
  rw [← hW0]
  have hsz : W0.heap.size = w.heap.size + 2 := by rw [hW0]; simp
  have b0 : Boxed2 W0 w.heap.size 75 (.bool false) (.slice none 0 0) := by
    rw [hW0]
    show ((w.heap.push _).push _)[w.heap.size]? = _
    rw [Array.getElem?_push, if_neg (by simp), Array.getElem?_push, if_pos rfl]
  have b1 : Boxed2 W0 (w.heap.size + 1) 75 (.bool false) (.slice none 0 0) := by
    rw [hW0]
    show ((w.heap.push _).push _)[w.heap.size + 1]? = _
    rw [Array.getElem?_push, if_pos (by simp)]
  have hb0 : Below w.heap.size w W0 := by rw [hW0]; exact ((Below.refl _ _).alloc (Nat.le_refl _) _).alloc (by simp) _
  clear hW0
  refine (HRA.out _).mono ?_
  rintro e w1 ⟨va, xs, rfl, sa, nxs, vxs, hb1⟩
  go_wp2_with fail
  refine (HRB.out _).mono ?_
  rintro e w2 ⟨vb, ys, rfl, sb, nys, vys, hb2⟩
  have sa2 := sa.below hb2
  have c0 := b0.of_block ((hb2.block _ (by have := hb1.size; omega)).trans (hb1.block _ (by omega)))
  have c1 := b1.of_block ((hb2.block _ (by have := hb1.size; omega)).trans (hb1.block _ (by omega)))
  obtain ⟨aa, ca, rfl, _⟩ := id sa2
  obtain ⟨ab, cb, rfl, _⟩ := id sb
  have k1 := c0.cell0
  have k2 := c0.cell1
  have k3 := c1.cell0
  have k4 := c1.cell1
  have f1 := c0.frozen 0
  have f2 := c0.frozen 1
  have f3 := c1.frozen 0
  have f4 := c1.frozen 1
  have Hsa := Lib.hid sa2
  have Hsb := Lib.hid sb
  clear sa sa2 sb
  go_wp2
  obtain ⟨W3, hW3⟩ : ∃ W3, W3 = (w2.setCell ⟨w.heap.size, 0, none⟩ (.bool na)).setCell ⟨w.heap.size, 1, none⟩ (.slice aa xs.length ca) := ⟨_, rfl⟩
  rw [← hW3]
  have d0 : Boxed2 W3 w.heap.size 75 (.bool na) (.slice aa xs.length ca) := by rw [hW3]; exact (c0.set0 _).set1 _
  have d1 : Boxed2 W3 (w.heap.size + 1) 75 (.bool false) (.slice none 0 0) := by
    rw [hW3]
    exact c1.of_block ((Below.heap_setCell _ _ _ _ (by simp)).trans (Below.heap_setCell _ _ _ _ (by simp)))
  have oth3 : ∀ j, j ≠ w.heap.size → W3.heap[j]? = w2.heap[j]? := fun j hj => by
    rw [hW3]; exact (Below.heap_setCell _ _ _ _ hj).trans (Below.heap_setCell _ _ _ _ hj)
  have ta := sl_keep_box Hsa.out c0 oth3
  have tb := sl_keep_box Hsb.out c0 oth3
  obtain ⟨W4, hW4⟩ : ∃ W4, W4 = (W3.setCell ⟨w.heap.size + 1, 0, none⟩ (.bool nb)).setCell ⟨w.heap.size + 1, 1, none⟩ (.slice ab ys.length cb) := ⟨_, rfl⟩
  rw [← hW4]
  have e1 : Boxed2 W4 (w.heap.size + 1) 75 (.bool nb) (.slice ab ys.length cb) := by rw [hW4]; exact (d1.set0 _).set1 _
  have oth4 : ∀ j, j ≠ w.heap.size + 1 → W4.heap[j]? = W3.heap[j]? := fun j hj => by
    rw [hW4]; exact (Below.heap_setCell _ _ _ _ hj).trans (Below.heap_setCell _ _ _ _ hj)
  have e0 : Boxed2 W4 w.heap.size 75 (.bool na) (.slice aa xs.length ca) := d0.of_block (oth4 _ (by omega))
  have ta4 := sl_keep_box ta d1 oth4
  have tb4 := sl_keep_box tb d1 oth4
  have hbel : Below w.heap.size w W4 := by
    refine hb0.trans ((hb1.mono (by omega)).trans ((hb2.mono (by have := hb1.size; omega)).trans ?_))
    rw [hW4, hW3]
    exact ((((Below.refl _ w2).setCell (p := ⟨w.heap.size, 0, none⟩) (Nat.le_refl _) _).setCell (p := ⟨w.heap.size, 1, none⟩) (Nat.le_refl _) _).setCell (p := ⟨w.heap.size + 1, 0, none⟩) (by simp) _).setCell (p := ⟨w.heap.size + 1, 1, none⟩) (by simp) _
  refine bodyPost_ret (v := .tuple #[.agg #[.bool na, .slice aa xs.length ca], .agg #[.bool nb, .slice ab ys.length cb], .int .i64 0]) (by simp [results, Try.results41, go_sem, e0.cell0, e0.cell1, e1.cell0, e1.cell1]) rfl ?_
  exact ⟨_, _, xs, ys, by rw [Hna.out, Hnb.out], ta4, tb4, nxs, nys, vxs, vys, hbel⟩
end Go.Proofs.Ytofbngpckllkoab

namespace Go.Proofs.Ytofbngpckllkoab
open Go.RowKit

def RevInv (ds cur : List Nat) (k : Nat) : Prop :=
  cur.length = ds.length ∧ ∀ i, i < ds.length → cur.getD i 0 = if i < k ∨ ds.length ≤ i + k then ds.getD (ds.length - 1 - i) 0 else ds.getD i 0

theorem RevInv.start (ds : List Nat) : RevInv ds ds 0 := ⟨rfl, fun i hi => by rw [if_neg (by omega)]⟩

theorem getD_set (l : List Nat) (i j v : Nat) (hi : i < l.length) : (l.set i v).getD j 0 = if i = j then v else l.getD j 0 := by
  by_cases h : i = j
  · subst h; simp [List.getD, hi]
  · rw [if_neg h]; simp only [List.getD]; rw [List.getElem?_set_ne h]

theorem RevInv.step {ds cur : List Nat} {k : Nat} (h : RevInv ds cur k) (hk : k + k + 1 < ds.length) :
    RevInv ds ((cur.set k (cur.getD (ds.length - 1 - k) 0)).set (ds.length - 1 - k) (cur.getD k 0)) (k + 1) := by
  obtain ⟨h1, h2⟩ := h
  refine ⟨by simpa using h1, fun i hi => ?_⟩
  rw [getD_set _ _ _ _ (by simp; omega), getD_set _ _ _ _ (by omega)]
  have a1 := h2 k (by omega)
  have a2 := h2 (ds.length - 1 - k) (by omega)
  rw [if_neg (by omega)] at a1 a2
  by_cases c1 : ds.length - 1 - k = i
  · rw [if_pos c1, if_pos (by omega), a1, ← c1]; congr 1; omega
  · rw [if_neg c1]
    by_cases c2 : k = i
    · rw [if_pos c2, if_pos (by omega), a2, ← c2]
    · rw [if_neg c2, h2 i hi]
      by_cases c3 : i < k ∨ ds.length ≤ i + k
      · rw [if_pos c3, if_pos (by omega)]
      · rw [if_neg c3, if_neg (by omega)]

theorem RevInv.fin {ds cur : List Nat} {k : Nat} (h : RevInv ds cur k) (hk : ds.length ≤ k + k + 1) : cur = ds.reverse := by
  obtain ⟨h1, h2⟩ := h
  apply List.ext_getElem?
  intro i
  by_cases hi : i < ds.length
  · have a := h2 i hi
    have e : ds.reverse[i]? = some (ds.getD (ds.length - 1 - i) 0) := by
      rw [List.getElem?_reverse hi]
      simp [List.getD, show ds.length - 1 - i < ds.length by omega]
    rw [e]
    have e2 : cur[i]? = some (cur.getD i 0) := by simp [List.getD, show i < cur.length by omega]
    rw [e2, a]
    by_cases c : i < k ∨ ds.length ≤ i + k
    · rw [if_pos c]
    · rw [if_neg c]
      have : ds.length - 1 - i = i := by omega
      rw [this]
  · rw [List.getElem?_eq_none (by omega), List.getElem?_eq_none (by simp; omega)]

theorem own_shape {w : World} {base size n : Nat} {e : TypeId} {v : Value} {xs : List Value} (h : w.ownsRow base e size v n xs) (hn : 0 < n) : ∃ g cap, v = .slice (some ⟨g, 0, none⟩) n cap ∧ base ≤ g ∧ g < w.heap.size ∧ n ≤ cap := by
  rcases h.2 with ⟨_, h0⟩ | ⟨g, cap, cur, rfl, hb, hg, hc, _⟩
  · omega
  · exact ⟨g, cap, rfl, hb, (Array.getElem?_eq_some_iff.1 hg).1, hc⟩
theorem grown_trans {a b c : World} {row : Option Nat} (h : a.grownBy b row) (k : b.grownBy c row) : a.grownBy c row :=
  ⟨k.os.trans h.os, k.tape.trans h.tape, k.output.trans h.output, Nat.le_trans h.size k.size, fun j hj hr => (k.block j (Nat.lt_of_lt_of_le hj h.size) hr).trans (h.block j hj hr)⟩
theorem grown_drew {a b : World} {row : Option Nat} (h : a.grownBy b row) : a.grownBy b.drew row := ⟨h.os, h.tape, h.output, h.size, h.block⟩

set_option maxHeartbeats 1000000 in
set_option maxRecDepth 100000 in
theorem reverse_any (g cap base : Nat) (ds : List Nat) (w : World) (hown : w.ownsRow base 5 1 (.slice (some ⟨g, 0, none⟩) ds.length cap) ds.length (nums .u8 ds)) (hl : ds.length ≤ 10000000) :
    Calls Try.prog 59 #[.slice (some ⟨g, 0, none⟩) ds.length cap] w fun e w' => e = .returned (.tuple #[]) ∧
      w'.ownsRow base 5 1 (.slice (some ⟨g, 0, none⟩) ds.length cap) ds.length (nums .u8 ds.reverse) ∧ w.grownBy w' (some g) := by
  obtain ⟨n, hn⟩ : ∃ n, ds.length = n := ⟨_, rfl⟩
  have Hn := Lib.hid hn
  rw [hn] at hown hl ⊢
  clear hn
  go_enter Try.func59, Try.ntmps59
  go_wp2_with fail
  go_loopw [2, 3] (fun i j wr => ∃ (k : Nat) (cur : List Nat), k ≤ n ∧ i = .int .i64 k ∧ j = .int .i64 ((n : Int) - 1 - k) ∧
      wr.ownsRow base 5 1 (.slice (some ⟨g, 0, none⟩) n cap) n (nums .u8 cur) ∧ Hid (RevInv ds cur k) ∧ Hid (w.grownBy wr (some g)))
    (fun i _ _ => n - (intOf i).toNat)
  case atStart => exact ⟨0, ds, Nat.zero_le _, rfl, by go_num, hown, RevInv.start ds, World.grownBy.refl _ _⟩
  case round =>
    clear hown
    obtain ⟨k, cur, hk, rfl, rfl, hown, Hinv, Hg⟩ := hrel
    have hcl : cur.length = n := by rw [← Hn.out]; exact Hinv.out.1
    have Hcl := Lib.hid hcl
    by_cases hlt : k + k + 1 < n
    · have c1 := (hown.cellAt k (by omega)).trans (nums_at .u8 cur k (by omega))
      have c2 := (hown.cellAt (n - 1 - k) (by omega)).trans (nums_at .u8 cur (n - 1 - k) (by omega))
      have f1 := hown.frozenAt k
      have f2 := hown.frozenAt (n - 1 - k)
      have HR := Hinv.out.step (by rw [Hn.out]; exact hlt)
      rw [Hn.out] at HR
      obtain ⟨x, hx⟩ : ∃ x, cur.getD k 0 = x := ⟨_, rfl⟩
      obtain ⟨y, hy⟩ : ∃ y, cur.getD (n - 1 - k) 0 = y := ⟨_, rfl⟩
      rw [hx, hy] at HR
      rw [hx] at c1
      rw [hy] at c2
      have hR := Lib.hid HR
      clear HR hx hy hcl
      have e1 := hown.stored k (.int .u8 (y : Int))
      rw [nums_set] at e1
      have e2 := e1.1.stored (n - 1 - k) (.int .u8 (x : Int))
      rw [nums_set] at e2
      have HE := Lib.hid (And.intro e2.1 (And.intro e1.2 e2.2))
      clear e1 e2 hown
      have t1 : ((n : Int) - 1 - (k : Int)).toNat = n - 1 - k := by omega
      have i1 : (0 : Int) ≤ (n : Int) - 1 - (k : Int) := by omega
      have i2 : (n : Int) - 1 - (k : Int) < (n : Int) := by omega
      have i3 : (k : Int) < (n : Int) - 1 - (k : Int) := by omega
      go_wp2_with fail
      go_region
      all_goals (try go_wp2)
      all_goals go_roundw
      case rel => exact ⟨k + 1, _, by omega, by go_num, by go_num, HE.out.1.drew, hR, grown_drew (grown_trans Hg.out (grown_trans HE.out.2.1 HE.out.2.2))⟩
      case measure => simp [intOf]; omega
    · have HF := Hinv.out.fin (by rw [Hn.out]; omega)
      have hF : Hid (wr.ownsRow base 5 1 (.slice (some ⟨g, 0, none⟩) n cap) n (nums .u8 ds.reverse) ∧ w.grownBy wr (some g)) := ⟨by rw [← HF]; exact hown, Hg.out⟩
      have i3 : ¬ (k : Int) < (n : Int) - 1 - (k : Int) := by omega
      clear HF hown hcl
      go_wp2
      go_end0
      exact ⟨rfl, hF.out.1, hF.out.2⟩
end Go.Proofs.Ytofbngpckllkoab
