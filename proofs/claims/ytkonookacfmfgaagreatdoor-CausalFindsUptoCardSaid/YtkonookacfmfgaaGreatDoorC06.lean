/-
  contract.bare, within, days. A region that draws its order, whose operations read and whose calls at most make memory: one walk in the order of the text. novationref08.Name.  Printed by tools/genrefname.py.
-/
import Derived.Test.YtkonookacfmfgaaGreatDoorC02
import Derived.Test.YtkonookacfmfgaaGreatDoorC04
import Derived.Test.YtkonookacfmfgaaGreatDoorC01
import Derived.Deep.Quiet
namespace Go.Proofs.YtkonookacfmfgaaGreatDoor
open Go.RowKit
theorem sz_nil (s : ByteArray) : s.size = 0 ↔ s.toList = [] := by
 rw [Lib.toList_data]
 obtain ⟨⟨l⟩⟩ := s
 cases l <;> simp [ByteArray.size]
theorem emp_nil (s : ByteArray) : s = ByteArray.empty ↔ s.toList = [] := by
 rw [← sz_nil]; simp
theorem len_nil {α : Type} (l : List α) [Decidable (l = [])] : ((l.length : Int) == 0) = decide (l = []) := by
 cases l with
 | nil => simp
 | cons x l => rw [Bool.eq_iff_iff]; simp; omega
set_option maxHeartbeats 1000000 in
set_option maxRecDepth 100000 in
theorem bare_any (x : Ex) (s : Value) (w : World) (hs : RdE w x.sub s) :
  Calls Tryz.prog 83 #[x.val s] w fun e w' => e = .returned (.bool x.bare) ∧ Below w.heap.size w w' := by
 obtain ⟨ad, cap, rfl⟩ := hs.len
 clear hs
 unfold Ex.val
 go_enter Tryz.func83, Tryz.ntmps83
 go_wp2_with fail
 all_goals
  go_ret
  exact ⟨ret_bool' (by simp [Ex.bare, emp_nil, len_nil, *]), below_a1 _ _⟩
set_option maxRecDepth 100000 in
theorem cwithin_any (d : Int) (w : World) : Calls Tryz.prog 93 #[.int .i64 d] w fun e w' => e = .returned (.bool (isDay d)) ∧ w = w' := by
 go_enter Tryz.func93, Tryz.ntmps93
 go_wp2
 all_goals
  go_ret
  refine ⟨ret_bool' ?_, rfl⟩
  rw [Bool.eq_iff_iff]; simp [isDay]; omega
def risen (l : List Int) (k : Nat) : Prop := ∀ j, j < k → ∃ d, l[j]? = some d ∧ isDay d = true ∧ ∀ i c, j = i + 1 → l[i]? = some c → c < d
theorem risen_lt {l : List Int} {n : Nat} (h : risen l n) : ∀ (j i : Nat) (c d : Int), i < j → j < n → l[i]? = some c → l[j]? = some d → c < d := by
 intro j
 induction j with
 | zero => intro i c d hi; omega
 | succ j ih =>
  intro i c d hi hj hc hd
  obtain ⟨d', h1, _, h3⟩ := h (j + 1) hj
  obtain rfl := Option.some.inj (hd.symm.trans h1)
  obtain ⟨e, h4, _, _⟩ := h j (by omega)
  have h5 := h3 j e rfl h4
  rcases Nat.lt_or_ge i j with hij | hij
  ·have := ih i c e hij (by omega) hc h4
   omega
  ·obtain rfl : i = j := by omega
   obtain rfl := Option.some.inj (hc.symm.trans h4)
   exact h5
theorem isDays_iff (l : List Int) : isDays l = true ↔ 1 ≤ l.length ∧ l.length ≤ 100 ∧ risen l l.length := by
 unfold isDays
 simp only [Bool.and_eq_true, decide_eq_true_eq, List.all_eq_true]
 constructor
 ·rintro ⟨h1, h2, h3, h4⟩
  refine ⟨h1, h2, fun j hj => ⟨l[j], List.getElem?_eq_getElem hj, h3 _ (List.getElem_mem hj), fun i c e hc => ?_⟩⟩
  subst e
  have hi : i < l.length := by omega
  rw [List.getElem?_eq_getElem hi] at hc
  obtain rfl := Option.some.inj hc
  exact List.pairwise_iff_getElem.1 h4 i (i + 1) hi hj (by omega)
 ·rintro ⟨h1, h2, h3⟩
  refine ⟨h1, h2, fun x hx => ?_, ?_⟩
  ·obtain ⟨j, hj, rfl⟩ := List.mem_iff_getElem.1 hx
   obtain ⟨d, h4, h5, _⟩ := h3 j hj
   rw [List.getElem?_eq_getElem hj] at h4
   obtain rfl := Option.some.inj h4
   exact h5
  ·rw [List.pairwise_iff_getElem]
   intro i j hi hj hij
   exact risen_lt h3 j i _ _ hij hj (List.getElem?_eq_getElem hi) (List.getElem?_eq_getElem hj)
theorem isDays_no {l : List Int} {k : Nat} {d : Int} (hd : l[k]? = some d) (h : isDay d = false ∨ ∃ i c, k = i + 1 ∧ l[i]? = some c ∧ d ≤ c) : isDays l = false := by
 rw [Bool.eq_false_iff]
 intro hh
 have hk : k < l.length := (List.getElem?_eq_some_iff.1 hd).1
 obtain ⟨d', h1, h2, h3⟩ := ((isDays_iff l).1 hh).2.2 k hk
 obtain rfl := Option.some.inj (hd.symm.trans h1)
 rcases h with h | ⟨i, c, e, hc, hle⟩
 ·rw [h] at h2; cases h2
 ·have := h3 i c e hc; omega
theorem risen_succ {l : List Int} {k : Nat} {d : Int} (h : risen l k) (hd : l[k]? = some d) (h1 : isDay d = true) (h2 : ∀ i c, k = i + 1 → l[i]? = some c → c < d) : risen l (k + 1) := by
 intro j hj
 rcases Nat.lt_or_ge j k with hjk | hjk
 ·exact h j hjk
 ·obtain rfl : j = k := by omega
  exact ⟨d, hd, h1, h2⟩
set_option maxHeartbeats 1000000 in
set_option maxRecDepth 100000 in
theorem days_any (l : List Int) (v : Value) (w : World) (hn : l.length ≤ 2000000) (hr : RdI w l v) :
  Calls Tryz.prog 94 #[v] w fun e w' => e = .returned (.bool (isDays l)) ∧ w = w' := by
 obtain ⟨ad, cap, rfl, _, hr⟩ := hr
 have HR := Lib.hid hr
 clear hr
 by_cases h0 : l.length = 0
 ·have HF : Hid (isDays l = false) := by
   show _ = _
   rw [Bool.eq_false_iff]
   intro h
   have := ((isDays_iff l).1 h).1
   omega
  rw [h0]
  go_enter Tryz.func94, Tryz.ntmps94
  go_wp2_with fail
  go_ret
  exact ⟨ret_bool' HF.out.symm, rfl⟩
 by_cases h1 : 100 < l.length
 ·have HF : Hid (isDays l = false) := by
   show _ = _
   rw [Bool.eq_false_iff]
   intro h
   have := ((isDays_iff l).1 h).2.1
   omega
  have t1 : decide ((l.length : Int) < 1) = false := by rw [decide_eq_false_iff_not]; omega
  have t2 : ¬ l.length < 1 := by omega
  have t3 : (100 : Int) < (l.length : Int) := by omega
  go_enter Tryz.func94, Tryz.ntmps94
  go_wp2_with fail
  go_ret
  exact ⟨ret_bool' HF.out.symm, rfl⟩
 have t1 : decide ((l.length : Int) < 1) = false := by rw [decide_eq_false_iff_not]; omega
 have t2 : ¬ l.length < 1 := by omega
 have t3 : decide ((100 : Int) < (l.length : Int)) = false := by rw [decide_eq_false_iff_not]; omega
 have t4 : decide (100 < l.length) = false := by rw [decide_eq_false_iff_not]; omega
 go_enter Tryz.func94, Tryz.ntmps94
 go_wp2_with fail
 go_loopw [15] (fun i wr => ∃ (k : Nat), k ≤ l.length ∧ i = .int .i64 (k : Int) ∧ Hid (risen l k) ∧ wr = w) (fun i _ => l.length - (intOf i).toNat)
 case atStart => exact ⟨0, Nat.zero_le _, rfl, Lib.hid (fun j hj => by omega), rfl⟩
 case round =>
  obtain ⟨k, hk, rfl, HRi, rfl⟩ := hrel
  by_cases hlt : k < l.length
  ·obtain ⟨d, hd⟩ : ∃ d, l[k]? = some d := ⟨_, List.getElem?_eq_getElem hlt⟩
   obtain ⟨b, off, rfl, c0⟩ := HR.out k d hd
   have hk1 : (0 : Int) ≤ (k : Int) := by omega
   have hk2 : (k : Int) < (l.length : Int) := by omega
   have HW := Lib.hid (fun W => cwithin_any d W)
   cases hday : isDay d with
   | false =>
    rw [hday] at HW
    have HF : Hid (isDays l = false) := Lib.hid (isDays_no hd (.inl hday))
    clear hd hday
    go_wp2_with fail
    refine (HW.out _).mono ?_
    rintro e w1 ⟨rfl, rfl⟩
    go_wp2
    go_ret
    exact ⟨ret_bool' HF.out.symm, rfl⟩
   | true =>
    rw [hday] at HW
    cases k with
    | zero =>
     rw [Nat.add_zero] at c0
     have HN : Hid (risen l (0 + 1)) := Lib.hid (risen_succ HRi.out hd hday (fun i c e => by omega))
     clear hd hday
     go_wp2_with fail
     refine (HW.out _).mono ?_
     rintro e w1 ⟨rfl, rfl⟩
     go_wp2
     go_roundw
     case rel => exact ⟨1, by omega, by go_num, HN, by first | rfl | trivial⟩
     case measure => simp [intOf]; omega
    | succ j =>
     obtain ⟨c, hc⟩ : ∃ c, l[j]? = some c := ⟨_, List.getElem?_eq_getElem (by omega)⟩
     have c1 : wr.cell? ⟨b, off + j, none⟩ = some (.int .i64 c) := by
      obtain ⟨b', off', e, h⟩ := HR.out j c hc
      cases e
      exact h
     have e1 : IntKind.i64.wrap (((j + 1 : Nat) : Int) - 1) = (j : Int) := by rw [IntWalk.i64_in _ (by omega)]; omega
     have hj0 : (0 : Int) < ((j + 1 : Nat) : Int) := by omega
     have hj2 : (j : Int) < (l.length : Int) := by omega
     have hj3 : j < l.length := by omega
     by_cases hcd : d ≤ c
     ·have HF : Hid (isDays l = false) := Lib.hid (isDays_no hd (.inr ⟨j, c, rfl, hc, hcd⟩))
      clear hd hday hc
      go_wp2_with fail
      refine (HW.out _).mono ?_
      rintro e w1 ⟨rfl, rfl⟩
      go_wp2
      go_ret
      exact ⟨ret_bool' HF.out.symm, rfl⟩
     ·have HN : Hid (risen l (j + 1 + 1)) := Lib.hid (risen_succ HRi.out hd hday (fun i c' e hc' => by
       obtain rfl : i = j := by omega
       obtain rfl := Option.some.inj (hc.symm.trans hc')
       omega))
      have hcd' : decide (d ≤ c) = false := by rw [decide_eq_false_iff_not]; exact hcd
      clear hd hday hc
      go_wp2_with fail
      refine (HW.out _).mono ?_
      rintro e w1 ⟨rfl, rfl⟩
      go_wp2
      go_roundw
      case rel => exact ⟨j + 1 + 1, by omega, by go_num, HN, by first | rfl | trivial⟩
      case measure => simp [intOf]; omega
  ·obtain rfl : k = l.length := by omega
   have HF : Hid (isDays l = true) := Lib.hid ((isDays_iff l).2 ⟨by omega, by omega, HRi.out⟩)
   go_wp2
   go_ret
   exact ⟨ret_bool' HF.out.symm, rfl⟩
end Go.Proofs.YtkonookacfmfgaaGreatDoor

namespace Go.Proofs.YtkonookacfmfgaaGreatDoor
open Go.RowKit
def Ext (w W : World) : Prop := Below w.heap.size w W
theorem Ext.cell {w W : World} (h : Ext w W) {b o : Nat} {v : Value} (hc : w.cell? ⟨b, o, none⟩ = some v) : W.cell? ⟨b, o, none⟩ = some v := by
 rw [Below.cell h (p := ⟨b, o, none⟩) (World.block_lt_of_cell? w _ hc)]; exact hc
theorem Ext.below {w W : World} (h : Ext w W) : Below w.heap.size w W := h
theorem ext_calls {P : Program} {f : FuncId} {args : Array Value} {v : Value} {w : World} (h : ∀ W, Calls P f args W fun e w' => e = .returned v ∧ Below W.heap.size W w') (W : World) (hW : Ext w W) :
  Calls P f args W fun e w'' => e = .returned v ∧ Ext w w'' :=
 (h W).mono fun _ _ ⟨he, hb⟩ => ⟨he, Below.trans hW (hb.mono (Below.size hW))⟩
theorem ext_callsE {P : Program} {f : FuncId} {args : Array Value} {v : Value} {w : World} (h : ∀ W, Ext w W → Calls P f args W fun e w' => e = .returned v ∧ Below W.heap.size W w') (W : World) (hW : Ext w W) :
  Calls P f args W fun e w'' => e = .returned v ∧ Ext w w'' :=
 (h W hW).mono fun _ _ ⟨he, hb⟩ => ⟨he, Below.trans hW (hb.mono (Below.size hW))⟩
theorem ext_same {P : Program} {f : FuncId} {args : Array Value} {v : Value} {w : World} (h : ∀ W, Calls P f args W fun e w' => e = .returned v ∧ W = w') (W : World) (hW : Ext w W) :
  Calls P f args W fun e w'' => e = .returned v ∧ Ext w w'' :=
 (h W).mono fun _ _ ⟨he, hb⟩ => ⟨he, hb ▸ hW⟩
theorem wp_region_ext {P : Program} {id : Nat} {Q : Exit → Act → World → Prop} {a : Act} {w : World} {l : List Oper} (F : World → Prop) (hF : ∀ W, Ext w W → F W)
  (hm : P.follows .mixedOrders = true) (hB : Region.lexB .any l.toArray = true)
  (h : (∀ W, Ext w W → F W) → wpQuiet P l.toArray (Ext w) (fun a' => ∀ w', Ext w w' → Q .normal a' w') l a) : (Code.region id l.toArray true).wp P Q a w :=
 wp_region_quiet (C := Ext w) hm hB (Below.drew (Below.refl _ _)) (by simpa using h hF)
end Go.Proofs.YtkonookacfmfgaaGreatDoor

namespace Go.Proofs.YtkonookacfmfgaaGreatDoor
open Go.RowKit
theorem isNm_of {l : List UInt8} (h1 : 0 < l.length) (h2 : l.length ≤ 40) (h3 : l.head?.any isLet = true) (h4 : l.all isNmc = true) : isNm l = true := by
 have a1 : decide (1 ≤ l.length) = true := by rw [decide_eq_true_eq]; omega
 have a2 : decide (l.length ≤ 40) = true := by rw [decide_eq_true_eq]; omega
 rw [isNm, a1, a2, h3, h4]; rfl
theorem isNm_no_all {l : List UInt8} (h : l.all isNmc = false) : isNm l = false := by simp [isNm, h]
theorem isNm_no_head {l : List UInt8} (h : l.head?.any isLet = false) : isNm l = false := by simp [isNm, h]
theorem oth_true {c : UInt8} (h : (48 ≤ c.toNat ∧ c.toNat ≤ 57) ∨ c.toNat = 95 ∨ c.toNat = 45) : isOth c = true := by
 rw [isOth, isDig]; simp only [Bool.or_eq_true, decide_eq_true_eq]; exact h
theorem oth_false {c : UInt8} (h : ¬ (48 ≤ c.toNat ∧ c.toNat ≤ 57)) (h1 : c.toNat ≠ 95) (h2 : c.toNat ≠ 45) : isOth c = false := by
 rw [isOth, isDig]; simp only [Bool.or_eq_false_iff, decide_eq_false_iff_not]; exact ⟨h, h1, h2⟩
theorem byte_cases (c : UInt8) : c.toNat < 45 ∨ c.toNat = 45 ∨ (45 < c.toNat ∧ c.toNat < 48) ∨ (48 ≤ c.toNat ∧ c.toNat ≤ 57) ∨ (57 < c.toNat ∧ c.toNat < 65) ∨ (65 ≤ c.toNat ∧ c.toNat ≤ 90) ∨ (90 < c.toNat ∧ c.toNat < 95) ∨ c.toNat = 95 ∨ c.toNat = 96 ∨ (97 ≤ c.toNat ∧ c.toNat ≤ 122) ∨ 122 < c.toNat := by
 have := c.toNat_lt
 omega
set_option maxRecDepth 100000 in
theorem rname_no (s : ByteArray) (w : World) (h : s.size = 0 ∨ 40 < s.size) (hl : s.size ≤ 9223372036854775807) :
  Calls Tryz.prog 109 #[.string s] w fun e w' => e = .returned (.bool (isNm (bl s))) ∧ w = w' := by
 have HR : Hid (isNm (bl s) = false) := by
  show _ = _
  rcases h with h | h
  ·exact isNm_short (by rw [bl_length]; exact h)
  ·exact isNm_long (by rw [bl_length]; exact h)
 rcases h with h | h
 ·have d1 : ((s.size : Int) == 0) = true := by simp [h]
  clear h
  go_enter Tryz.func109, Tryz.ntmps109
  go_wp2
  go_ret
  exact ⟨ret_bool' HR.out.symm, rfl⟩
 ·have d1 : ((s.size : Int) == 0) = false := by rw [beq_eq_false_iff_ne]; omega
  have d2 : decide ((40 : Int) < (s.size : Int)) = true := by rw [decide_eq_true_eq]; omega
  clear hl
  go_enter Tryz.func109, Tryz.ntmps109
  go_wp2
  go_ret
  exact ⟨ret_bool' HR.out.symm, rfl⟩
set_option maxHeartbeats 2000000 in
set_option maxRecDepth 100000 in
theorem rname_loop (s : ByteArray) (w : World) (h1 : 0 < s.size) (h2 : s.size ≤ 40) :
  Calls Tryz.prog 109 #[.string s] w fun e w' => e = .returned (.bool (isNm (bl s))) ∧ w = w' := by
 have d1 : ((s.size : Int) == 0) = false := by rw [beq_eq_false_iff_ne]; omega
 have d2 : decide ((40 : Int) < (s.size : Int)) = false := by rw [decide_eq_false_iff_not]; omega
 go_enter Tryz.func109, Tryz.ntmps109
 go_wp2
 go_loop [3] (fun i => ∃ k : Nat, k ≤ s.size ∧ i = .int .i64 k ∧ Hid (((bl s).take k).all isNmc = true ∧ (0 < k → (bl s).head?.any isLet = true))) (fun i => s.size - (intOf i).toNat)
 case atStart => exact ⟨0, Nat.zero_le _, rfl, ⟨rfl, fun h => absurd h (Nat.lt_irrefl _)⟩⟩
 case round =>
  obtain ⟨k, hk, rfl, Hall⟩ := hrel
  clear d1 d2
  by_cases hlt : k < s.size
  ·have Hs := Lib.hid (take_succ_all isNmc s k hlt)
   have Hh : Hid (k = 0 → (bl s).head?.any isLet = isLet s[k]) := by
    intro h; subst h; rw [bl_cons s h1]; rfl
   obtain ⟨c, hc⟩ : ∃ c, s[k] = c := ⟨_, rfl⟩
   rw [hc] at Hs Hh
   rcases byte_cases c with h | h | h | h | h | h | h | h | h | h | h
   ·have hl : isLet c = false := by rw [isLet]; simp; omega
    have ho : isOth c = false := oth_false (by omega) (by omega) (by omega)
    have t1 : decide ((97 : Int) ≤ ((c.toNat : Nat) : Int)) = false := by rw [decide_eq_false_iff_not]; omega
    have t3 : decide ((65 : Int) ≤ ((c.toNat : Nat) : Int)) = false := by rw [decide_eq_false_iff_not]; omega
    have t5 : decide ((48 : Int) ≤ ((c.toNat : Nat) : Int)) = false := by rw [decide_eq_false_iff_not]; omega
    have t7 : (((c.toNat : Nat) : Int) == 95) = false := by rw [beq_eq_false_iff_ne]; omega
    have t8 : (((c.toNat : Nat) : Int) == 45) = false := by rw [beq_eq_false_iff_ne]; omega
    clear h
    have HL := Lib.hid hl
    have HO := Lib.hid ho
    by_cases hk0 : k = 0
    ·have t9 : ((k : Int) == 0) = true := by rw [beq_iff_eq]; omega
     have HK := Lib.hid hk0
     clear hk0
     have Hno : Hid (isNm (bl s) = false) := by show _ = _; exact isNm_no_head (by rw [Hh.out HK.out]; exact HL.out)
     clear hl ho
     go_wp2
     go_ret
     exact ⟨ret_bool' Hno.out.symm, rfl⟩
    ·have t9 : ((k : Int) == 0) = false := by rw [beq_eq_false_iff_ne]; omega
     have Hno : Hid (isNm (bl s) = false) := by show _ = _; exact isNm_no_all (all_false_of_take (k := k + 1) (by rw [Hs.out, isNmc, HL.out, HO.out]; simp))
     clear hl ho
     go_wp2
     go_ret
     exact ⟨ret_bool' Hno.out.symm, rfl⟩
   ·have hl : isLet c = false := by rw [isLet]; simp; omega
    have ho : isOth c = true := oth_true (by omega)
    have t1 : decide ((97 : Int) ≤ ((c.toNat : Nat) : Int)) = false := by rw [decide_eq_false_iff_not]; omega
    have t3 : decide ((65 : Int) ≤ ((c.toNat : Nat) : Int)) = false := by rw [decide_eq_false_iff_not]; omega
    have t5 : decide ((48 : Int) ≤ ((c.toNat : Nat) : Int)) = false := by rw [decide_eq_false_iff_not]; omega
    have t7 : (((c.toNat : Nat) : Int) == 95) = false := by rw [beq_eq_false_iff_ne]; omega
    have t8 : (((c.toNat : Nat) : Int) == 45) = true := by rw [beq_iff_eq]; omega
    clear h
    have HL := Lib.hid hl
    have HO := Lib.hid ho
    by_cases hk0 : k = 0
    ·have t9 : ((k : Int) == 0) = true := by rw [beq_iff_eq]; omega
     have HK := Lib.hid hk0
     clear hk0
     have Hno : Hid (isNm (bl s) = false) := by show _ = _; exact isNm_no_head (by rw [Hh.out HK.out]; exact HL.out)
     clear hl ho
     go_wp2
     go_ret
     exact ⟨ret_bool' Hno.out.symm, rfl⟩
    ·have t9 : ((k : Int) == 0) = false := by rw [beq_eq_false_iff_ne]; omega
     clear hl ho
     have Hok : Hid (((bl s).take (k + 1)).all isNmc = true ∧ (0 < k + 1 → (bl s).head?.any isLet = true)) := ⟨by rw [Hs.out, Hall.out.1, isNmc, HL.out, HO.out]; rfl, fun _ => Hall.out.2 (by omega)⟩
     go_wp2
     go_round
     case rel => exact ⟨k + 1, by omega, by go_num, Hok⟩
     case measure => simp [intOf]; omega
   ·have hl : isLet c = false := by rw [isLet]; simp; omega
    have ho : isOth c = false := oth_false (by omega) (by omega) (by omega)
    have t1 : decide ((97 : Int) ≤ ((c.toNat : Nat) : Int)) = false := by rw [decide_eq_false_iff_not]; omega
    have t3 : decide ((65 : Int) ≤ ((c.toNat : Nat) : Int)) = false := by rw [decide_eq_false_iff_not]; omega
    have t5 : decide ((48 : Int) ≤ ((c.toNat : Nat) : Int)) = false := by rw [decide_eq_false_iff_not]; omega
    have t7 : (((c.toNat : Nat) : Int) == 95) = false := by rw [beq_eq_false_iff_ne]; omega
    have t8 : (((c.toNat : Nat) : Int) == 45) = false := by rw [beq_eq_false_iff_ne]; omega
    clear h
    have HL := Lib.hid hl
    have HO := Lib.hid ho
    by_cases hk0 : k = 0
    ·have t9 : ((k : Int) == 0) = true := by rw [beq_iff_eq]; omega
     have HK := Lib.hid hk0
     clear hk0
     have Hno : Hid (isNm (bl s) = false) := by show _ = _; exact isNm_no_head (by rw [Hh.out HK.out]; exact HL.out)
     clear hl ho
     go_wp2
     go_ret
     exact ⟨ret_bool' Hno.out.symm, rfl⟩
    ·have t9 : ((k : Int) == 0) = false := by rw [beq_eq_false_iff_ne]; omega
     have Hno : Hid (isNm (bl s) = false) := by show _ = _; exact isNm_no_all (all_false_of_take (k := k + 1) (by rw [Hs.out, isNmc, HL.out, HO.out]; simp))
     clear hl ho
     go_wp2
     go_ret
     exact ⟨ret_bool' Hno.out.symm, rfl⟩
   ·have hl : isLet c = false := by rw [isLet]; simp; omega
    have ho : isOth c = true := oth_true (by omega)
    have t1 : decide ((97 : Int) ≤ ((c.toNat : Nat) : Int)) = false := by rw [decide_eq_false_iff_not]; omega
    have t3 : decide ((65 : Int) ≤ ((c.toNat : Nat) : Int)) = false := by rw [decide_eq_false_iff_not]; omega
    have t5 : decide ((48 : Int) ≤ ((c.toNat : Nat) : Int)) = true := by rw [decide_eq_true_eq]; omega
    have t6 : decide (((c.toNat : Nat) : Int) ≤ 57) = true := by rw [decide_eq_true_eq]; omega
    clear h
    have HL := Lib.hid hl
    have HO := Lib.hid ho
    by_cases hk0 : k = 0
    ·have t9 : ((k : Int) == 0) = true := by rw [beq_iff_eq]; omega
     have HK := Lib.hid hk0
     clear hk0
     have Hno : Hid (isNm (bl s) = false) := by show _ = _; exact isNm_no_head (by rw [Hh.out HK.out]; exact HL.out)
     clear hl ho
     go_wp2
     go_ret
     exact ⟨ret_bool' Hno.out.symm, rfl⟩
    ·have t9 : ((k : Int) == 0) = false := by rw [beq_eq_false_iff_ne]; omega
     clear hl ho
     have Hok : Hid (((bl s).take (k + 1)).all isNmc = true ∧ (0 < k + 1 → (bl s).head?.any isLet = true)) := ⟨by rw [Hs.out, Hall.out.1, isNmc, HL.out, HO.out]; rfl, fun _ => Hall.out.2 (by omega)⟩
     go_wp2
     go_round
     case rel => exact ⟨k + 1, by omega, by go_num, Hok⟩
     case measure => simp [intOf]; omega
   ·have hl : isLet c = false := by rw [isLet]; simp; omega
    have ho : isOth c = false := oth_false (by omega) (by omega) (by omega)
    have t1 : decide ((97 : Int) ≤ ((c.toNat : Nat) : Int)) = false := by rw [decide_eq_false_iff_not]; omega
    have t3 : decide ((65 : Int) ≤ ((c.toNat : Nat) : Int)) = false := by rw [decide_eq_false_iff_not]; omega
    have t5 : decide ((48 : Int) ≤ ((c.toNat : Nat) : Int)) = true := by rw [decide_eq_true_eq]; omega
    have t6 : decide (((c.toNat : Nat) : Int) ≤ 57) = false := by rw [decide_eq_false_iff_not]; omega
    have t7 : (((c.toNat : Nat) : Int) == 95) = false := by rw [beq_eq_false_iff_ne]; omega
    have t8 : (((c.toNat : Nat) : Int) == 45) = false := by rw [beq_eq_false_iff_ne]; omega
    clear h
    have HL := Lib.hid hl
    have HO := Lib.hid ho
    by_cases hk0 : k = 0
    ·have t9 : ((k : Int) == 0) = true := by rw [beq_iff_eq]; omega
     have HK := Lib.hid hk0
     clear hk0
     have Hno : Hid (isNm (bl s) = false) := by show _ = _; exact isNm_no_head (by rw [Hh.out HK.out]; exact HL.out)
     clear hl ho
     go_wp2
     go_ret
     exact ⟨ret_bool' Hno.out.symm, rfl⟩
    ·have t9 : ((k : Int) == 0) = false := by rw [beq_eq_false_iff_ne]; omega
     have Hno : Hid (isNm (bl s) = false) := by show _ = _; exact isNm_no_all (all_false_of_take (k := k + 1) (by rw [Hs.out, isNmc, HL.out, HO.out]; simp))
     clear hl ho
     go_wp2
     go_ret
     exact ⟨ret_bool' Hno.out.symm, rfl⟩
   ·have hl : isLet c = true := by rw [isLet]; simp; omega
    have ho : isOth c = false := oth_false (by omega) (by omega) (by omega)
    have t1 : decide ((97 : Int) ≤ ((c.toNat : Nat) : Int)) = false := by rw [decide_eq_false_iff_not]; omega
    have t3 : decide ((65 : Int) ≤ ((c.toNat : Nat) : Int)) = true := by rw [decide_eq_true_eq]; omega
    have t4 : decide (((c.toNat : Nat) : Int) ≤ 90) = true := by rw [decide_eq_true_eq]; omega
    have t5 : decide ((48 : Int) ≤ ((c.toNat : Nat) : Int)) = true := by rw [decide_eq_true_eq]; omega
    have t6 : decide (((c.toNat : Nat) : Int) ≤ 57) = false := by rw [decide_eq_false_iff_not]; omega
    have t7 : (((c.toNat : Nat) : Int) == 95) = false := by rw [beq_eq_false_iff_ne]; omega
    have t8 : (((c.toNat : Nat) : Int) == 45) = false := by rw [beq_eq_false_iff_ne]; omega
    clear h
    have HL := Lib.hid hl
    clear hl ho
    have Hok : Hid (((bl s).take (k + 1)).all isNmc = true ∧ (0 < k + 1 → (bl s).head?.any isLet = true)) := ⟨by rw [Hs.out, Hall.out.1, isNmc, HL.out]; rfl, fun _ => by
     rcases Nat.eq_zero_or_pos k with h0 | h0
     ·rw [Hh.out h0]; exact HL.out
     ·exact Hall.out.2 h0⟩
    go_wp2
    go_round
    case rel => exact ⟨k + 1, by omega, by go_num, Hok⟩
    case measure => simp [intOf]; omega
   ·have hl : isLet c = false := by rw [isLet]; simp; omega
    have ho : isOth c = false := oth_false (by omega) (by omega) (by omega)
    have t1 : decide ((97 : Int) ≤ ((c.toNat : Nat) : Int)) = false := by rw [decide_eq_false_iff_not]; omega
    have t3 : decide ((65 : Int) ≤ ((c.toNat : Nat) : Int)) = true := by rw [decide_eq_true_eq]; omega
    have t4 : decide (((c.toNat : Nat) : Int) ≤ 90) = false := by rw [decide_eq_false_iff_not]; omega
    have t5 : decide ((48 : Int) ≤ ((c.toNat : Nat) : Int)) = true := by rw [decide_eq_true_eq]; omega
    have t6 : decide (((c.toNat : Nat) : Int) ≤ 57) = false := by rw [decide_eq_false_iff_not]; omega
    have t7 : (((c.toNat : Nat) : Int) == 95) = false := by rw [beq_eq_false_iff_ne]; omega
    have t8 : (((c.toNat : Nat) : Int) == 45) = false := by rw [beq_eq_false_iff_ne]; omega
    clear h
    have HL := Lib.hid hl
    have HO := Lib.hid ho
    by_cases hk0 : k = 0
    ·have t9 : ((k : Int) == 0) = true := by rw [beq_iff_eq]; omega
     have HK := Lib.hid hk0
     clear hk0
     have Hno : Hid (isNm (bl s) = false) := by show _ = _; exact isNm_no_head (by rw [Hh.out HK.out]; exact HL.out)
     clear hl ho
     go_wp2
     go_ret
     exact ⟨ret_bool' Hno.out.symm, rfl⟩
    ·have t9 : ((k : Int) == 0) = false := by rw [beq_eq_false_iff_ne]; omega
     have Hno : Hid (isNm (bl s) = false) := by show _ = _; exact isNm_no_all (all_false_of_take (k := k + 1) (by rw [Hs.out, isNmc, HL.out, HO.out]; simp))
     clear hl ho
     go_wp2
     go_ret
     exact ⟨ret_bool' Hno.out.symm, rfl⟩
   ·have hl : isLet c = false := by rw [isLet]; simp; omega
    have ho : isOth c = true := oth_true (by omega)
    have t1 : decide ((97 : Int) ≤ ((c.toNat : Nat) : Int)) = false := by rw [decide_eq_false_iff_not]; omega
    have t3 : decide ((65 : Int) ≤ ((c.toNat : Nat) : Int)) = true := by rw [decide_eq_true_eq]; omega
    have t4 : decide (((c.toNat : Nat) : Int) ≤ 90) = false := by rw [decide_eq_false_iff_not]; omega
    have t5 : decide ((48 : Int) ≤ ((c.toNat : Nat) : Int)) = true := by rw [decide_eq_true_eq]; omega
    have t6 : decide (((c.toNat : Nat) : Int) ≤ 57) = false := by rw [decide_eq_false_iff_not]; omega
    have t7 : (((c.toNat : Nat) : Int) == 95) = true := by rw [beq_iff_eq]; omega
    clear h
    have HL := Lib.hid hl
    have HO := Lib.hid ho
    by_cases hk0 : k = 0
    ·have t9 : ((k : Int) == 0) = true := by rw [beq_iff_eq]; omega
     have HK := Lib.hid hk0
     clear hk0
     have Hno : Hid (isNm (bl s) = false) := by show _ = _; exact isNm_no_head (by rw [Hh.out HK.out]; exact HL.out)
     clear hl ho
     go_wp2
     go_ret
     exact ⟨ret_bool' Hno.out.symm, rfl⟩
    ·have t9 : ((k : Int) == 0) = false := by rw [beq_eq_false_iff_ne]; omega
     clear hl ho
     have Hok : Hid (((bl s).take (k + 1)).all isNmc = true ∧ (0 < k + 1 → (bl s).head?.any isLet = true)) := ⟨by rw [Hs.out, Hall.out.1, isNmc, HL.out, HO.out]; rfl, fun _ => Hall.out.2 (by omega)⟩
     go_wp2
     go_round
     case rel => exact ⟨k + 1, by omega, by go_num, Hok⟩
     case measure => simp [intOf]; omega
   ·have hl : isLet c = false := by rw [isLet]; simp; omega
    have ho : isOth c = false := oth_false (by omega) (by omega) (by omega)
    have t1 : decide ((97 : Int) ≤ ((c.toNat : Nat) : Int)) = false := by rw [decide_eq_false_iff_not]; omega
    have t3 : decide ((65 : Int) ≤ ((c.toNat : Nat) : Int)) = true := by rw [decide_eq_true_eq]; omega
    have t4 : decide (((c.toNat : Nat) : Int) ≤ 90) = false := by rw [decide_eq_false_iff_not]; omega
    have t5 : decide ((48 : Int) ≤ ((c.toNat : Nat) : Int)) = true := by rw [decide_eq_true_eq]; omega
    have t6 : decide (((c.toNat : Nat) : Int) ≤ 57) = false := by rw [decide_eq_false_iff_not]; omega
    have t7 : (((c.toNat : Nat) : Int) == 95) = false := by rw [beq_eq_false_iff_ne]; omega
    have t8 : (((c.toNat : Nat) : Int) == 45) = false := by rw [beq_eq_false_iff_ne]; omega
    clear h
    have HL := Lib.hid hl
    have HO := Lib.hid ho
    by_cases hk0 : k = 0
    ·have t9 : ((k : Int) == 0) = true := by rw [beq_iff_eq]; omega
     have HK := Lib.hid hk0
     clear hk0
     have Hno : Hid (isNm (bl s) = false) := by show _ = _; exact isNm_no_head (by rw [Hh.out HK.out]; exact HL.out)
     clear hl ho
     go_wp2
     go_ret
     exact ⟨ret_bool' Hno.out.symm, rfl⟩
    ·have t9 : ((k : Int) == 0) = false := by rw [beq_eq_false_iff_ne]; omega
     have Hno : Hid (isNm (bl s) = false) := by show _ = _; exact isNm_no_all (all_false_of_take (k := k + 1) (by rw [Hs.out, isNmc, HL.out, HO.out]; simp))
     clear hl ho
     go_wp2
     go_ret
     exact ⟨ret_bool' Hno.out.symm, rfl⟩
   ·have hl : isLet c = true := by rw [isLet]; simp; omega
    have ho : isOth c = false := oth_false (by omega) (by omega) (by omega)
    have t1 : decide ((97 : Int) ≤ ((c.toNat : Nat) : Int)) = true := by rw [decide_eq_true_eq]; omega
    have t2 : decide (((c.toNat : Nat) : Int) ≤ 122) = true := by rw [decide_eq_true_eq]; omega
    have t5 : decide ((48 : Int) ≤ ((c.toNat : Nat) : Int)) = true := by rw [decide_eq_true_eq]; omega
    have t6 : decide (((c.toNat : Nat) : Int) ≤ 57) = false := by rw [decide_eq_false_iff_not]; omega
    have t7 : (((c.toNat : Nat) : Int) == 95) = false := by rw [beq_eq_false_iff_ne]; omega
    have t8 : (((c.toNat : Nat) : Int) == 45) = false := by rw [beq_eq_false_iff_ne]; omega
    clear h
    have HL := Lib.hid hl
    clear hl ho
    have Hok : Hid (((bl s).take (k + 1)).all isNmc = true ∧ (0 < k + 1 → (bl s).head?.any isLet = true)) := ⟨by rw [Hs.out, Hall.out.1, isNmc, HL.out]; rfl, fun _ => by
     rcases Nat.eq_zero_or_pos k with h0 | h0
     ·rw [Hh.out h0]; exact HL.out
     ·exact Hall.out.2 h0⟩
    go_wp2
    go_round
    case rel => exact ⟨k + 1, by omega, by go_num, Hok⟩
    case measure => simp [intOf]; omega
   ·have hl : isLet c = false := by rw [isLet]; simp; omega
    have ho : isOth c = false := oth_false (by omega) (by omega) (by omega)
    have t1 : decide ((97 : Int) ≤ ((c.toNat : Nat) : Int)) = true := by rw [decide_eq_true_eq]; omega
    have t2 : decide (((c.toNat : Nat) : Int) ≤ 122) = false := by rw [decide_eq_false_iff_not]; omega
    have t3 : decide ((65 : Int) ≤ ((c.toNat : Nat) : Int)) = true := by rw [decide_eq_true_eq]; omega
    have t4 : decide (((c.toNat : Nat) : Int) ≤ 90) = false := by rw [decide_eq_false_iff_not]; omega
    have t5 : decide ((48 : Int) ≤ ((c.toNat : Nat) : Int)) = true := by rw [decide_eq_true_eq]; omega
    have t6 : decide (((c.toNat : Nat) : Int) ≤ 57) = false := by rw [decide_eq_false_iff_not]; omega
    have t7 : (((c.toNat : Nat) : Int) == 95) = false := by rw [beq_eq_false_iff_ne]; omega
    have t8 : (((c.toNat : Nat) : Int) == 45) = false := by rw [beq_eq_false_iff_ne]; omega
    clear h
    have HL := Lib.hid hl
    have HO := Lib.hid ho
    by_cases hk0 : k = 0
    ·have t9 : ((k : Int) == 0) = true := by rw [beq_iff_eq]; omega
     have HK := Lib.hid hk0
     clear hk0
     have Hno : Hid (isNm (bl s) = false) := by show _ = _; exact isNm_no_head (by rw [Hh.out HK.out]; exact HL.out)
     clear hl ho
     go_wp2
     go_ret
     exact ⟨ret_bool' Hno.out.symm, rfl⟩
    ·have t9 : ((k : Int) == 0) = false := by rw [beq_eq_false_iff_ne]; omega
     have Hno : Hid (isNm (bl s) = false) := by show _ = _; exact isNm_no_all (all_false_of_take (k := k + 1) (by rw [Hs.out, isNmc, HL.out, HO.out]; simp))
     clear hl ho
     go_wp2
     go_ret
     exact ⟨ret_bool' Hno.out.symm, rfl⟩
  ·obtain rfl : k = s.size := by omega
   have HY : Hid (isNm (bl s) = true) := by
    show _ = _
    exact isNm_of (by rw [bl_length]; exact h1) (by rw [bl_length]; exact h2) (Hall.out.2 h1) (by rw [← Hall.out.1, List.take_of_length_le (by rw [bl_length]; exact Nat.le_refl _)])
   go_wp2
   go_ret
   exact ⟨ret_bool' HY.out.symm, rfl⟩
theorem rname_any (s : ByteArray) (w : World) (hl : s.size ≤ 9223372036854775807) :
  Calls Tryz.prog 109 #[.string s] w fun e w' => e = .returned (.bool (isNm (bl s))) ∧ w = w' := by
 by_cases h1 : 0 < s.size
 ·by_cases h2 : s.size ≤ 40
  ·exact rname_loop s w h1 h2
  ·exact rname_no s w (.inr (by omega)) hl
 ·exact rname_no s w (.inl (by omega)) hl
end Go.Proofs.YtkonookacfmfgaaGreatDoor
