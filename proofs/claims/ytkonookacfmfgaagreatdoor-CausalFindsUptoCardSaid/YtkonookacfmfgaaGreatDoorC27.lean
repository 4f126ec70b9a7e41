/-
  novationref02.Check.  Printed by tools/genrefrat.py. novationref08.Sort: what is no kind.
-/
import Derived.Test.YtkonookacfmfgaaGreatDoorC26
import Derived.Test.YtkonookacfmfgaaGreatDoorC02
import Derived.Test.YtkonookacfmfgaaGreatDoorC07
import Derived.Test.YtkonookacfmfgaaGreatDoorC06
namespace Go.Proofs.YtkonookacfmfgaaGreatDoor
open Go.RowKit
theorem head_neg {l : List UInt8} : isNeg l = true ↔ l.head? = some 45 := by simp [isNeg]
theorem big_of {l : List UInt8} (h : canonI l = true) (h0 : intErr l ≠ 0) : 1000 < (body l).length := by
 rw [intErr, if_pos h] at h0
 by_cases hb : 1000 < (body l).length
 ·exact hb
 ·rw [if_neg hb] at h0; exact absurd rfl h0
set_option maxHeartbeats 1000000 in
set_option maxRecDepth 100000 in
theorem rfrac_a_ok (s a b : ByteArray) (w : World) (o : Nat) (HS : Hid (∀ W, Calls Tryz.prog 157 #[.string s] W (TwoPost W a b)))
  (HL : Hid (∀ W, Calls Tryz.prog 159 #[.string s] W fun e w' => e = .returned (.int .i64 (o : Int)) ∧ W = w')) (ha : a.size ≤ 1100000) (hb : b.size ≤ 1100000)
  (hca : canonI (bl a) = false) (hcb : canonI (bl b) = true) :
  Calls Tryz.prog 152 #[.string s] w (RatPost w 12) := by
 have HLo := HL
 have do0 : decide ((0 : Int) ≤ (o : Int)) = true := by rw [decide_eq_true_eq]; omega
 have DA := Lib.hid (fun W => digits_bad a W ha hca)
 obtain ⟨nb, hneg⟩ : ∃ nb, isNeg (bl b) = nb := ⟨_, rfl⟩
 have DB := Lib.hid (fun W => by have k := digits_ok b W hb hcb; rw [show isNeg (bl b) = nb from hneg] at k; exact k)
 go_enter Tryz.func152, Tryz.ntmps152
 go_wp2_with fail
 refine (HS.out _).mono ?_
 rintro e w' ⟨rfl, n, rfl⟩
 have hb0 : Below w.heap.size w (w.drewN n) := below_drewN (Below.refl _ _) _
 go_wp2_with fail
 refine (DA.out _).mono ?_
 rintro e w1 ⟨rfl, hb1⟩
 go_wp2_with fail
 refine (DB.out _).mono ?_
 rintro e w2 ⟨v2, rfl, s2, hb2⟩
 obtain ⟨ad2, cap2, rfl, _⟩ := s2
 have HB : Hid (Below w.heap.size w w2) := hb0.trans ((hb1.trans (hb2.mono hb1.size)).mono hb0.size)
 go_wp2
 go_ret
 exact ⟨rfl, HB.out⟩
set_option maxHeartbeats 1000000 in
set_option maxRecDepth 100000 in
theorem rfrac_a_bad (s a b : ByteArray) (w : World) (o : Nat) (HS : Hid (∀ W, Calls Tryz.prog 157 #[.string s] W (TwoPost W a b)))
  (HL : Hid (∀ W, Calls Tryz.prog 159 #[.string s] W fun e w' => e = .returned (.int .i64 (o : Int)) ∧ W = w')) (ha : a.size ≤ 1100000) (hb : b.size ≤ 1100000)
  (hca : canonI (bl a) = false) (hcb : canonI (bl b) = false) :
  Calls Tryz.prog 152 #[.string s] w (RatPost w 12) := by
 have HLo := HL
 have do0 : decide ((0 : Int) ≤ (o : Int)) = true := by rw [decide_eq_true_eq]; omega
 have DA := Lib.hid (fun W => digits_bad a W ha hca)
 have DB := Lib.hid (fun W => digits_bad b W hb hcb)
 go_enter Tryz.func152, Tryz.ntmps152
 go_wp2_with fail
 refine (HS.out _).mono ?_
 rintro e w' ⟨rfl, n, rfl⟩
 have hb0 : Below w.heap.size w (w.drewN n) := below_drewN (Below.refl _ _) _
 go_wp2_with fail
 refine (DA.out _).mono ?_
 rintro e w1 ⟨rfl, hb1⟩
 go_wp2_with fail
 refine (DB.out _).mono ?_
 rintro e w2 ⟨rfl, hb2⟩
 have HB : Hid (Below w.heap.size w w2) := hb0.trans ((hb1.trans (hb2.mono hb1.size)).mono hb0.size)
 go_wp2
 go_ret
 exact ⟨rfl, HB.out⟩
set_option maxHeartbeats 1000000 in
set_option maxRecDepth 100000 in
theorem rfrac_b (s a b : ByteArray) (w : World) (o : Nat) (HS : Hid (∀ W, Calls Tryz.prog 157 #[.string s] W (TwoPost W a b)))
  (HL : Hid (∀ W, Calls Tryz.prog 159 #[.string s] W fun e w' => e = .returned (.int .i64 (o : Int)) ∧ W = w')) (ha : a.size ≤ 1100000) (hb : b.size ≤ 1100000)
  (hca : canonI (bl a) = true) (hcb : canonI (bl b) = false) :
  Calls Tryz.prog 152 #[.string s] w (RatPost w 12) := by
 have HLo := HL
 have do0 : decide ((0 : Int) ≤ (o : Int)) = true := by rw [decide_eq_true_eq]; omega
 have DA := Lib.hid (fun W => digits_ok a W ha hca)
 have DB := Lib.hid (fun W => digits_bad b W hb hcb)
 go_enter Tryz.func152, Tryz.ntmps152
 go_wp2_with fail
 refine (HS.out _).mono ?_
 rintro e w' ⟨rfl, n, rfl⟩
 have hb0 : Below w.heap.size w (w.drewN n) := below_drewN (Below.refl _ _) _
 go_wp2_with fail
 refine (DA.out _).mono ?_
 rintro e w1 ⟨v1, rfl, s1, hb1⟩
 obtain ⟨ad1, cap1, rfl, _⟩ := s1
 go_wp2_with fail
 refine (DB.out _).mono ?_
 rintro e w2 ⟨rfl, hb2⟩
 have HB : Hid (Below w.heap.size w w2) := hb0.trans ((hb1.trans (hb2.mono hb1.size)).mono hb0.size)
 go_wp2
 go_ret
 exact ⟨rfl, HB.out⟩
set_option maxHeartbeats 1000000 in
set_option maxRecDepth 100000 in
theorem rfrac_neg (s a b : ByteArray) (w : World) (o : Nat) (HS : Hid (∀ W, Calls Tryz.prog 157 #[.string s] W (TwoPost W a b)))
  (HL : Hid (∀ W, Calls Tryz.prog 159 #[.string s] W fun e w' => e = .returned (.int .i64 (o : Int)) ∧ W = w')) (ha : a.size ≤ 1100000) (hb : b.size ≤ 1100000)
  (hca : canonI (bl a) = true) (hcb : canonI (bl b) = true) (h45 : (bl b).head? = some 45) :
  Calls Tryz.prog 152 #[.string s] w (RatPost w 12) := by
 have HLo := HL
 have do0 : decide ((0 : Int) ≤ (o : Int)) = true := by rw [decide_eq_true_eq]; omega
 have hneg := head_neg.2 h45
 have DA := Lib.hid (fun W => digits_ok a W ha hca)
 have DB := Lib.hid (fun W => by have k := digits_ok b W hb hcb; rw [show isNeg (bl b) = true from hneg] at k; exact k)
 go_enter Tryz.func152, Tryz.ntmps152
 go_wp2_with fail
 refine (HS.out _).mono ?_
 rintro e w' ⟨rfl, n, rfl⟩
 have hb0 : Below w.heap.size w (w.drewN n) := below_drewN (Below.refl _ _) _
 go_wp2_with fail
 refine (DA.out _).mono ?_
 rintro e w1 ⟨v1, rfl, s1, hb1⟩
 obtain ⟨ad1, cap1, rfl, _⟩ := s1
 go_wp2_with fail
 refine (DB.out _).mono ?_
 rintro e w2 ⟨v2, rfl, s2, hb2⟩
 obtain ⟨ad2, cap2, rfl, _⟩ := s2
 have HB : Hid (Below w.heap.size w w2) := hb0.trans ((hb1.trans (hb2.mono hb1.size)).mono hb0.size)
 go_wp2
 go_ret
 exact ⟨rfl, HB.out⟩
set_option maxHeartbeats 1000000 in
set_option maxRecDepth 100000 in
theorem rfrac_zero (s a b : ByteArray) (w : World) (o : Nat) (HS : Hid (∀ W, Calls Tryz.prog 157 #[.string s] W (TwoPost W a b)))
  (HL : Hid (∀ W, Calls Tryz.prog 159 #[.string s] W fun e w' => e = .returned (.int .i64 (o : Int)) ∧ W = w')) (ha : a.size ≤ 1100000) (hb : b.size ≤ 1100000)
  (hca : canonI (bl a) = true) (hcb : canonI (bl b) = true) (hl : bl b = [48]) :
  Calls Tryz.prog 152 #[.string s] w (RatPost w 12) := by
 have HLo := HL
 have do0 : decide ((0 : Int) ≤ (o : Int)) = true := by rw [decide_eq_true_eq]; omega
 have hneg : isNeg (bl b) = false := by rw [hl]; rfl
 have DA := Lib.hid (fun W => digits_ok a W ha hca)
 have DB := Lib.hid (fun W => by have k := digits_ok b W hb hcb; rw [show isNeg (bl b) = false from hneg] at k; exact k)
 have e := eq_lit hl
 subst e
 clear hl
 go_enter Tryz.func152, Tryz.ntmps152
 go_wp2_with fail
 refine (HS.out _).mono ?_
 rintro e w' ⟨rfl, n, rfl⟩
 have hb0 : Below w.heap.size w (w.drewN n) := below_drewN (Below.refl _ _) _
 go_wp2_with fail
 refine (DA.out _).mono ?_
 rintro e w1 ⟨v1, rfl, s1, hb1⟩
 obtain ⟨ad1, cap1, rfl, _⟩ := s1
 go_wp2_with fail
 refine (DB.out _).mono ?_
 rintro e w2 ⟨v2, rfl, s2, hb2⟩
 obtain ⟨ad2, cap2, rfl, _⟩ := s2
 have HB : Hid (Below w.heap.size w w2) := hb0.trans ((hb1.trans (hb2.mono hb1.size)).mono hb0.size)
 go_wp2
 go_ret
 exact ⟨rfl, HB.out⟩
set_option maxHeartbeats 1000000 in
set_option maxRecDepth 100000 in
theorem rfrac_one (s a b : ByteArray) (w : World) (o : Nat) (HS : Hid (∀ W, Calls Tryz.prog 157 #[.string s] W (TwoPost W a b)))
  (HL : Hid (∀ W, Calls Tryz.prog 159 #[.string s] W fun e w' => e = .returned (.int .i64 (o : Int)) ∧ W = w')) (ha : a.size ≤ 1100000) (hb : b.size ≤ 1100000)
  (hca : canonI (bl a) = true) (hcb : canonI (bl b) = true) (hl : bl b = [49]) :
  Calls Tryz.prog 152 #[.string s] w (RatPost w 12) := by
 have HLo := HL
 have do0 : decide ((0 : Int) ≤ (o : Int)) = true := by rw [decide_eq_true_eq]; omega
 have hneg : isNeg (bl b) = false := by rw [hl]; rfl
 have DA := Lib.hid (fun W => digits_ok a W ha hca)
 have DB := Lib.hid (fun W => by have k := digits_ok b W hb hcb; rw [show isNeg (bl b) = false from hneg] at k; exact k)
 have e := eq_lit hl
 subst e
 clear hl
 go_enter Tryz.func152, Tryz.ntmps152
 go_wp2_with fail
 refine (HS.out _).mono ?_
 rintro e w' ⟨rfl, n, rfl⟩
 have hb0 : Below w.heap.size w (w.drewN n) := below_drewN (Below.refl _ _) _
 go_wp2_with fail
 refine (DA.out _).mono ?_
 rintro e w1 ⟨v1, rfl, s1, hb1⟩
 obtain ⟨ad1, cap1, rfl, _⟩ := s1
 go_wp2_with fail
 refine (DB.out _).mono ?_
 rintro e w2 ⟨v2, rfl, s2, hb2⟩
 obtain ⟨ad2, cap2, rfl, _⟩ := s2
 go_wp2_with fail
 refine (HL.out _).mono ?_
 rintro e w9 ⟨rfl, rfl⟩
 have HB : Hid (Below w.heap.size w w2) := hb0.trans ((hb1.trans (hb2.mono hb1.size)).mono hb0.size)
 go_wp2
 go_ret
 exact ⟨rfl, HB.out⟩
set_option maxHeartbeats 1000000 in
set_option maxRecDepth 100000 in
theorem rfrac_big_a (s a b : ByteArray) (w : World) (o : Nat) (HS : Hid (∀ W, Calls Tryz.prog 157 #[.string s] W (TwoPost W a b)))
  (HL : Hid (∀ W, Calls Tryz.prog 159 #[.string s] W fun e w' => e = .returned (.int .i64 (o : Int)) ∧ W = w')) (ha : a.size ≤ 1100000) (hb : b.size ≤ 1100000)
  (hca : canonI (bl a) = true) (hcb : canonI (bl b) = true) (h45 : (bl b).head? ≠ some 45) (h0 : bl b ≠ [48]) (h1 : bl b ≠ [49]) (hi : intErr (bl a) ≠ 0) :
  Calls Tryz.prog 152 #[.string s] w (RatPost w 14) := by
 have HLo := HL
 have do0 : decide ((0 : Int) ≤ (o : Int)) = true := by rw [decide_eq_true_eq]; omega
 have hneg : isNeg (bl b) = false := by rw [Bool.eq_false_iff]; exact fun e => h45 (head_neg.1 e)
 have n0 := ne_lit h0
 have n1 := ne_lit h1
 have DA := Lib.hid (fun W => digits_ok a W ha hca)
 have DB := Lib.hid (fun W => by have k := digits_ok b W hb hcb; rw [show isNeg (bl b) = false from hneg] at k; exact k)
 obtain ⟨La, hLa⟩ : ∃ L, (rdig (body (bl a))).length = L := ⟨_, rfl⟩
 have HLa := Lib.hid hLa
 rw [rdig_length] at hLa
 have gLa : 1000 < La := by rw [← hLa]; exact big_of (by assumption) (by assumption)
 have dLa : decide ((1000 : Int) < (La : Int)) = true := by rw [decide_eq_true_eq]; omega
 clear hLa
 go_enter Tryz.func152, Tryz.ntmps152
 go_wp2_with fail
 refine (HS.out _).mono ?_
 rintro e w' ⟨rfl, n, rfl⟩
 have hb0 : Below w.heap.size w (w.drewN n) := below_drewN (Below.refl _ _) _
 go_wp2_with fail
 refine (DA.out _).mono ?_
 rintro e w1 ⟨v1, rfl, s1, hb1⟩
 obtain ⟨ad1, cap1, rfl, _⟩ := s1
 rw [HLa.out]
 go_wp2_with fail
 refine (DB.out _).mono ?_
 rintro e w2 ⟨v2, rfl, s2, hb2⟩
 obtain ⟨ad2, cap2, rfl, _⟩ := s2
 go_wp2_with fail
 refine (HL.out _).mono ?_
 rintro e w9 ⟨rfl, rfl⟩
 have HB : Hid (Below w.heap.size w w2) := hb0.trans ((hb1.trans (hb2.mono hb1.size)).mono hb0.size)
 go_wp2
 go_ret
 exact ⟨rfl, HB.out⟩
set_option maxHeartbeats 1000000 in
set_option maxRecDepth 100000 in
theorem rfrac_big_b (s a b : ByteArray) (w : World) (o : Nat) (HS : Hid (∀ W, Calls Tryz.prog 157 #[.string s] W (TwoPost W a b)))
  (HL : Hid (∀ W, Calls Tryz.prog 159 #[.string s] W fun e w' => e = .returned (.int .i64 (o : Int)) ∧ W = w')) (ha : a.size ≤ 1100000) (hb : b.size ≤ 1100000)
  (hca : canonI (bl a) = true) (hcb : canonI (bl b) = true) (h45 : (bl b).head? ≠ some 45) (h0 : bl b ≠ [48]) (h1 : bl b ≠ [49]) (hi : intErr (bl a) = 0) (hj : intErr (bl b) ≠ 0) :
  Calls Tryz.prog 152 #[.string s] w (RatPost w 14) := by
 have HLo := HL
 have do0 : decide ((0 : Int) ≤ (o : Int)) = true := by rw [decide_eq_true_eq]; omega
 have hneg : isNeg (bl b) = false := by rw [Bool.eq_false_iff]; exact fun e => h45 (head_neg.1 e)
 have n0 := ne_lit h0
 have n1 := ne_lit h1
 have DA := Lib.hid (fun W => digits_ok a W ha hca)
 have DB := Lib.hid (fun W => by have k := digits_ok b W hb hcb; rw [show isNeg (bl b) = false from hneg] at k; exact k)
 obtain ⟨La, hLa⟩ : ∃ L, (rdig (body (bl a))).length = L := ⟨_, rfl⟩
 have HLa := Lib.hid hLa
 rw [rdig_length] at hLa
 have gLa : La ≤ 1000 := by rw [← hLa]; exact (intErr_zero (by assumption)).2
 have dLa : decide ((1000 : Int) < (La : Int)) = false := by rw [decide_eq_false_iff_not]; omega
 clear hLa
 obtain ⟨Lb, hLb⟩ : ∃ L, (rdig (body (bl b))).length = L := ⟨_, rfl⟩
 have HLb := Lib.hid hLb
 rw [rdig_length] at hLb
 have gLb : 1000 < Lb := by rw [← hLb]; exact big_of (by assumption) (by assumption)
 have dLb : decide ((1000 : Int) < (Lb : Int)) = true := by rw [decide_eq_true_eq]; omega
 clear hLb
 go_enter Tryz.func152, Tryz.ntmps152
 go_wp2_with fail
 refine (HS.out _).mono ?_
 rintro e w' ⟨rfl, n, rfl⟩
 have hb0 : Below w.heap.size w (w.drewN n) := below_drewN (Below.refl _ _) _
 go_wp2_with fail
 refine (DA.out _).mono ?_
 rintro e w1 ⟨v1, rfl, s1, hb1⟩
 obtain ⟨ad1, cap1, rfl, _⟩ := s1
 rw [HLa.out]
 go_wp2_with fail
 refine (DB.out _).mono ?_
 rintro e w2 ⟨v2, rfl, s2, hb2⟩
 obtain ⟨ad2, cap2, rfl, _⟩ := s2
 rw [HLb.out]
 go_wp2_with fail
 refine (HL.out _).mono ?_
 rintro e w9 ⟨rfl, rfl⟩
 have HB : Hid (Below w.heap.size w w2) := hb0.trans ((hb1.trans (hb2.mono hb1.size)).mono hb0.size)
 go_wp2
 go_ret
 exact ⟨rfl, HB.out⟩
set_option maxHeartbeats 1000000 in
set_option maxRecDepth 100000 in
theorem rfrac_gcd (s a b : ByteArray) (w : World) (o : Nat) (HS : Hid (∀ W, Calls Tryz.prog 157 #[.string s] W (TwoPost W a b)))
  (HL : Hid (∀ W, Calls Tryz.prog 159 #[.string s] W fun e w' => e = .returned (.int .i64 (o : Int)) ∧ W = w')) (ha : a.size ≤ 1100000) (hb : b.size ≤ 1100000)
  (hca : canonI (bl a) = true) (hcb : canonI (bl b) = true) (h45 : (bl b).head? ≠ some 45) (h0 : bl b ≠ [48]) (h1 : bl b ≠ [49]) (hi : intErr (bl a) = 0) (hj : intErr (bl b) = 0) (hg : Nat.gcd (dval (body (bl a))) (dval (body (bl b))) ≠ 1) :
  Calls Tryz.prog 152 #[.string s] w (RatPost w 12) := by
 have HLo := HL
 have do0 : decide ((0 : Int) ≤ (o : Int)) = true := by rw [decide_eq_true_eq]; omega
 have hneg : isNeg (bl b) = false := by rw [Bool.eq_false_iff]; exact fun e => h45 (head_neg.1 e)
 have n0 := ne_lit h0
 have n1 := ne_lit h1
 have DA := Lib.hid (fun W => digits_ok a W ha hca)
 have DB := Lib.hid (fun W => by have k := digits_ok b W hb hcb; rw [show isNeg (bl b) = false from hneg] at k; exact k)
 have GC := Lib.hid (fun W => rgcd_ok a b W ha hb hi hj)
 have Hg := Lib.hid hg
 obtain ⟨La, hLa⟩ : ∃ L, (rdig (body (bl a))).length = L := ⟨_, rfl⟩
 have HLa := Lib.hid hLa
 rw [rdig_length] at hLa
 have gLa : La ≤ 1000 := by rw [← hLa]; exact (intErr_zero (by assumption)).2
 have dLa : decide ((1000 : Int) < (La : Int)) = false := by rw [decide_eq_false_iff_not]; omega
 clear hLa
 obtain ⟨Lb, hLb⟩ : ∃ L, (rdig (body (bl b))).length = L := ⟨_, rfl⟩
 have HLb := Lib.hid hLb
 rw [rdig_length] at hLb
 have gLb : Lb ≤ 1000 := by rw [← hLb]; exact (intErr_zero (by assumption)).2
 have dLb : decide ((1000 : Int) < (Lb : Int)) = false := by rw [decide_eq_false_iff_not]; omega
 clear hLb
 go_enter Tryz.func152, Tryz.ntmps152
 go_wp2_with fail
 refine (HS.out _).mono ?_
 rintro e w' ⟨rfl, n, rfl⟩
 have hb0 : Below w.heap.size w (w.drewN n) := below_drewN (Below.refl _ _) _
 go_wp2_with fail
 refine (DA.out _).mono ?_
 rintro e w1 ⟨v1, rfl, s1, hb1⟩
 obtain ⟨ad1, cap1, rfl, _⟩ := s1
 rw [HLa.out]
 go_wp2_with fail
 refine (DB.out _).mono ?_
 rintro e w2 ⟨v2, rfl, s2, hb2⟩
 obtain ⟨ad2, cap2, rfl, _⟩ := s2
 rw [HLb.out]
 go_wp2_with fail
 refine (HL.out _).mono ?_
 rintro e w9 ⟨rfl, rfl⟩
 go_wp2_with fail
 refine (GC.out _).mono ?_
 rintro e w3 ⟨t, rfl, ht, hb3⟩
 have nt : (t.toList != [49]) = true := by rw [bne, ne_lit (b := t) (x := 49) (by rw [ht]; exact fun e => Hg.out ((istr_one _).1 e))]; rfl
 have nt2 := ne_lit (b := t) (x := 49) (by rw [ht]; exact fun e => Hg.out ((istr_one _).1 e))
 go_wp2_with fail
 refine (HL.out _).mono ?_
 rintro e w9 ⟨rfl, rfl⟩
 have HB : Hid (Below w.heap.size w w3) := hb0.trans ((hb1.trans ((hb2.trans (hb3.mono hb2.size)).mono hb1.size)).mono hb0.size)
 go_wp2
 go_ret
 exact ⟨rfl, HB.out⟩
set_option maxHeartbeats 1000000 in
set_option maxRecDepth 100000 in
theorem rfrac_good (s a b : ByteArray) (w : World) (o : Nat) (HS : Hid (∀ W, Calls Tryz.prog 157 #[.string s] W (TwoPost W a b)))
  (HL : Hid (∀ W, Calls Tryz.prog 159 #[.string s] W fun e w' => e = .returned (.int .i64 (o : Int)) ∧ W = w')) (ha : a.size ≤ 1100000) (hb : b.size ≤ 1100000)
  (hca : canonI (bl a) = true) (hcb : canonI (bl b) = true) (h45 : (bl b).head? ≠ some 45) (h0 : bl b ≠ [48]) (h1 : bl b ≠ [49]) (hi : intErr (bl a) = 0) (hj : intErr (bl b) = 0) (hg : Nat.gcd (dval (body (bl a))) (dval (body (bl b))) = 1) :
  Calls Tryz.prog 152 #[.string s] w (RatPost w 0) := by
 have HLo := HL
 have do0 : decide ((0 : Int) ≤ (o : Int)) = true := by rw [decide_eq_true_eq]; omega
 have hneg : isNeg (bl b) = false := by rw [Bool.eq_false_iff]; exact fun e => h45 (head_neg.1 e)
 have n0 := ne_lit h0
 have n1 := ne_lit h1
 have DA := Lib.hid (fun W => digits_ok a W ha hca)
 have DB := Lib.hid (fun W => by have k := digits_ok b W hb hcb; rw [show isNeg (bl b) = false from hneg] at k; exact k)
 have GC := Lib.hid (fun W => rgcd_ok a b W ha hb hi hj)
 have Hg := Lib.hid hg
 obtain ⟨La, hLa⟩ : ∃ L, (rdig (body (bl a))).length = L := ⟨_, rfl⟩
 have HLa := Lib.hid hLa
 rw [rdig_length] at hLa
 have gLa : La ≤ 1000 := by rw [← hLa]; exact (intErr_zero (by assumption)).2
 have dLa : decide ((1000 : Int) < (La : Int)) = false := by rw [decide_eq_false_iff_not]; omega
 clear hLa
 obtain ⟨Lb, hLb⟩ : ∃ L, (rdig (body (bl b))).length = L := ⟨_, rfl⟩
 have HLb := Lib.hid hLb
 rw [rdig_length] at hLb
 have gLb : Lb ≤ 1000 := by rw [← hLb]; exact (intErr_zero (by assumption)).2
 have dLb : decide ((1000 : Int) < (Lb : Int)) = false := by rw [decide_eq_false_iff_not]; omega
 clear hLb
 go_enter Tryz.func152, Tryz.ntmps152
 go_wp2_with fail
 refine (HS.out _).mono ?_
 rintro e w' ⟨rfl, n, rfl⟩
 have hb0 : Below w.heap.size w (w.drewN n) := below_drewN (Below.refl _ _) _
 go_wp2_with fail
 refine (DA.out _).mono ?_
 rintro e w1 ⟨v1, rfl, s1, hb1⟩
 obtain ⟨ad1, cap1, rfl, _⟩ := s1
 rw [HLa.out]
 go_wp2_with fail
 refine (DB.out _).mono ?_
 rintro e w2 ⟨v2, rfl, s2, hb2⟩
 obtain ⟨ad2, cap2, rfl, _⟩ := s2
 rw [HLb.out]
 go_wp2_with fail
 refine (HL.out _).mono ?_
 rintro e w9 ⟨rfl, rfl⟩
 go_wp2_with fail
 refine (GC.out _).mono ?_
 rintro e w3 ⟨t, rfl, ht, hb3⟩
 have et := eq_lit (b := t) (x := 49) (by rw [ht]; exact (istr_one _).2 Hg.out)
 subst et
 go_wp2_with fail
 refine (HL.out _).mono ?_
 rintro e w9 ⟨rfl, rfl⟩
 have HB : Hid (Below w.heap.size w w3) := hb0.trans ((hb1.trans ((hb2.trans (hb3.mono hb2.size)).mono hb1.size)).mono hb0.size)
 go_wp2
 go_ret
 exact ⟨rfl, HB.out⟩
set_option maxHeartbeats 1000000 in
set_option maxRecDepth 100000 in
theorem rnone_bad (a : ByteArray) (w : World) (HS : Hid (∀ W, Calls Tryz.prog 157 #[.string a] W (TwoPost W a ⟨#[49]⟩)))
  (HL : Hid (∀ W, Calls Tryz.prog 159 #[.string a] W fun e w' => e = .returned (.int .i64 (-1)) ∧ W = w')) (ha : a.size ≤ 1100000)
  (hca : canonI (bl a) = false) :
  Calls Tryz.prog 152 #[.string a] w (RatPost w 12) := by
 have HLo := HL
 obtain ⟨b, hbe⟩ : ∃ b : ByteArray, b = ⟨#[49]⟩ := ⟨_, rfl⟩
 have hcb : canonI (bl b) = true := by rw [hbe]; rfl
 have hneg : isNeg (bl b) = false := by rw [hbe]; rfl
 have hj : intErr (bl b) = 0 := by rw [hbe]; rfl
 have hb : b.size ≤ 1100000 := by rw [hbe]; decide
 have DA := Lib.hid (fun W => digits_bad a W ha hca)
 have DB := Lib.hid (fun W => by have k := digits_ok b W hb hcb; rw [show isNeg (bl b) = false from hneg] at k; exact k)
 subst hbe
 go_enter Tryz.func152, Tryz.ntmps152
 go_wp2_with fail
 refine (HS.out _).mono ?_
 rintro e w' ⟨rfl, n, rfl⟩
 have hb0 : Below w.heap.size w (w.drewN n) := below_drewN (Below.refl _ _) _
 go_wp2_with fail
 refine (DA.out _).mono ?_
 rintro e w1 ⟨rfl, hb1⟩
 go_wp2_with fail
 refine (DB.out _).mono ?_
 rintro e w2 ⟨v2, rfl, s2, hb2⟩
 obtain ⟨ad2, cap2, rfl, _⟩ := s2
 have HB : Hid (Below w.heap.size w w2) := hb0.trans ((hb1.trans (hb2.mono hb1.size)).mono hb0.size)
 go_wp2
 go_ret
 exact ⟨rfl, HB.out⟩
set_option maxHeartbeats 1000000 in
set_option maxRecDepth 100000 in
theorem rnone_big (a : ByteArray) (w : World) (HS : Hid (∀ W, Calls Tryz.prog 157 #[.string a] W (TwoPost W a ⟨#[49]⟩)))
  (HL : Hid (∀ W, Calls Tryz.prog 159 #[.string a] W fun e w' => e = .returned (.int .i64 (-1)) ∧ W = w')) (ha : a.size ≤ 1100000)
  (hca : canonI (bl a) = true) (hi : intErr (bl a) ≠ 0) :
  Calls Tryz.prog 152 #[.string a] w (RatPost w 14) := by
 have HLo := HL
 obtain ⟨b, hbe⟩ : ∃ b : ByteArray, b = ⟨#[49]⟩ := ⟨_, rfl⟩
 have hcb : canonI (bl b) = true := by rw [hbe]; rfl
 have hneg : isNeg (bl b) = false := by rw [hbe]; rfl
 have hj : intErr (bl b) = 0 := by rw [hbe]; rfl
 have hb : b.size ≤ 1100000 := by rw [hbe]; decide
 have DA := Lib.hid (fun W => digits_ok a W ha hca)
 have DB := Lib.hid (fun W => by have k := digits_ok b W hb hcb; rw [show isNeg (bl b) = false from hneg] at k; exact k)
 obtain ⟨La, hLa⟩ : ∃ L, (rdig (body (bl a))).length = L := ⟨_, rfl⟩
 have HLa := Lib.hid hLa
 rw [rdig_length] at hLa
 have gLa : 1000 < La := by rw [← hLa]; exact big_of (by assumption) (by assumption)
 have dLa : decide ((1000 : Int) < (La : Int)) = true := by rw [decide_eq_true_eq]; omega
 clear hLa
 subst hbe
 go_enter Tryz.func152, Tryz.ntmps152
 go_wp2_with fail
 refine (HS.out _).mono ?_
 rintro e w' ⟨rfl, n, rfl⟩
 have hb0 : Below w.heap.size w (w.drewN n) := below_drewN (Below.refl _ _) _
 go_wp2_with fail
 refine (DA.out _).mono ?_
 rintro e w1 ⟨v1, rfl, s1, hb1⟩
 obtain ⟨ad1, cap1, rfl, _⟩ := s1
 rw [HLa.out]
 go_wp2_with fail
 refine (DB.out _).mono ?_
 rintro e w2 ⟨v2, rfl, s2, hb2⟩
 obtain ⟨ad2, cap2, rfl, _⟩ := s2
 go_wp2_with fail
 refine (HL.out _).mono ?_
 rintro e w9 ⟨rfl, rfl⟩
 have HB : Hid (Below w.heap.size w w2) := hb0.trans ((hb1.trans (hb2.mono hb1.size)).mono hb0.size)
 go_wp2
 go_ret
 exact ⟨rfl, HB.out⟩
set_option maxHeartbeats 1000000 in
set_option maxRecDepth 100000 in
theorem rnone_good (a : ByteArray) (w : World) (HS : Hid (∀ W, Calls Tryz.prog 157 #[.string a] W (TwoPost W a ⟨#[49]⟩)))
  (HL : Hid (∀ W, Calls Tryz.prog 159 #[.string a] W fun e w' => e = .returned (.int .i64 (-1)) ∧ W = w')) (ha : a.size ≤ 1100000)
  (hca : canonI (bl a) = true) (hi : intErr (bl a) = 0) :
  Calls Tryz.prog 152 #[.string a] w (RatPost w 0) := by
 have HLo := HL
 obtain ⟨b, hbe⟩ : ∃ b : ByteArray, b = ⟨#[49]⟩ := ⟨_, rfl⟩
 have hcb : canonI (bl b) = true := by rw [hbe]; rfl
 have hneg : isNeg (bl b) = false := by rw [hbe]; rfl
 have hj : intErr (bl b) = 0 := by rw [hbe]; rfl
 have hb : b.size ≤ 1100000 := by rw [hbe]; decide
 have DA := Lib.hid (fun W => digits_ok a W ha hca)
 have DB := Lib.hid (fun W => by have k := digits_ok b W hb hcb; rw [show isNeg (bl b) = false from hneg] at k; exact k)
 have GC := Lib.hid (fun W => rgcd_ok a b W ha hb hi hj)
 obtain ⟨La, hLa⟩ : ∃ L, (rdig (body (bl a))).length = L := ⟨_, rfl⟩
 have HLa := Lib.hid hLa
 rw [rdig_length] at hLa
 have gLa : La ≤ 1000 := by rw [← hLa]; exact (intErr_zero (by assumption)).2
 have dLa : decide ((1000 : Int) < (La : Int)) = false := by rw [decide_eq_false_iff_not]; omega
 clear hLa
 obtain ⟨Lb, hLb⟩ : ∃ L, (rdig (body (bl b))).length = L := ⟨_, rfl⟩
 have HLb := Lib.hid hLb
 rw [rdig_length] at hLb
 have gLb : Lb ≤ 1000 := by rw [← hLb]; exact (intErr_zero (by assumption)).2
 have dLb : decide ((1000 : Int) < (Lb : Int)) = false := by rw [decide_eq_false_iff_not]; omega
 clear hLb
 subst hbe
 go_enter Tryz.func152, Tryz.ntmps152
 go_wp2_with fail
 refine (HS.out _).mono ?_
 rintro e w' ⟨rfl, n, rfl⟩
 have hb0 : Below w.heap.size w (w.drewN n) := below_drewN (Below.refl _ _) _
 go_wp2_with fail
 refine (DA.out _).mono ?_
 rintro e w1 ⟨v1, rfl, s1, hb1⟩
 obtain ⟨ad1, cap1, rfl, _⟩ := s1
 rw [HLa.out]
 go_wp2_with fail
 refine (DB.out _).mono ?_
 rintro e w2 ⟨v2, rfl, s2, hb2⟩
 obtain ⟨ad2, cap2, rfl, _⟩ := s2
 rw [HLb.out]
 go_wp2_with fail
 refine (HL.out _).mono ?_
 rintro e w9 ⟨rfl, rfl⟩
 go_wp2_with fail
 refine (GC.out _).mono ?_
 rintro e w3 ⟨t, rfl, ht, hb3⟩
 go_wp2_with fail
 refine (HL.out _).mono ?_
 rintro e w9 ⟨rfl, rfl⟩
 have HB : Hid (Below w.heap.size w w3) := hb0.trans ((hb1.trans ((hb2.trans (hb3.mono hb2.size)).mono hb1.size)).mono hb0.size)
 go_wp2
 go_ret
 exact ⟨rfl, HB.out⟩
theorem rfrac_any (s a b : ByteArray) (w : World) (o : Nat) (HS : Hid (∀ W, Calls Tryz.prog 157 #[.string s] W (TwoPost W a b)))
  (HL : Hid (∀ W, Calls Tryz.prog 159 #[.string s] W fun e w' => e = .returned (.int .i64 (o : Int)) ∧ W = w')) (ha : a.size ≤ 1100000) (hb : b.size ≤ 1100000) :
  Calls Tryz.prog 152 #[.string s] w (RatPost w (fracErr (bl a) (bl b))) := by
 unfold fracErr
 split
 ·next h =>
  by_cases hcb : canonI (bl b) = true
  ·exact rfrac_a_ok s a b w o HS HL ha hb h hcb
  ·exact rfrac_a_bad s a b w o HS HL ha hb h (by simpa using hcb)
 next h1 =>
 have hca : canonI (bl a) = true := by simpa using h1
 split
 ·next h => exact rfrac_b s a b w o HS HL ha hb hca h
 next h2 =>
 have hcb : canonI (bl b) = true := by simpa using h2
 split
 ·next h => exact rfrac_neg s a b w o HS HL ha hb hca hcb h
 next h3 =>
 split
 ·next h => exact rfrac_zero s a b w o HS HL ha hb hca hcb h
 next h4 =>
 split
 ·next h => exact rfrac_one s a b w o HS HL ha hb hca hcb h
 next h5 =>
 split
 ·next h => exact rfrac_big_a s a b w o HS HL ha hb hca hcb h3 h4 h5 h
 next h6 =>
 have hi : intErr (bl a) = 0 := by simpa using h6
 split
 ·next h => exact rfrac_big_b s a b w o HS HL ha hb hca hcb h3 h4 h5 hi h
 next h7 =>
 have hj : intErr (bl b) = 0 := by simpa using h7
 split
 ·next h => exact rfrac_good s a b w o HS HL ha hb hca hcb h3 h4 h5 hi hj h
 next h8 => exact rfrac_gcd s a b w o HS HL ha hb hca hcb h3 h4 h5 hi hj h8
theorem refrat_any (s : ByteArray) (w : World) (hs : s.size ≤ 1100000) :
  Calls Tryz.prog 152 #[.string s] w (RatPost w (ratErr s)) := by
 have hL := fun W => rslash_any s W (by omega)
 rcases slash_cases s with h | ⟨o, h, ho⟩
 ·rw [h] at hL
  have HS := Lib.hid (fun W => written_none s W (by omega) h)
  rw [ratErr, if_pos h]
  by_cases hca : canonI (bl s) = true
  ·by_cases hi : intErr (bl s) = 0
   ·rw [hi]; exact rnone_good s w HS (Lib.hid hL) hs hca hi
   ·rw [intErr_of hca hi]; exact rnone_big s w HS (Lib.hid hL) hs hca hi
  ·have hf : canonI (bl s) = false := by simpa using hca
   rw [intErr_of_not hf]; exact rnone_bad s w HS (Lib.hid hL) hs hf
 ·rw [h] at hL
  have e : ratErr s = fracErr (bl (s.extract 0 o)) (bl (s.extract (o + 1) s.size)) := by
   rw [ratErr, if_neg (by rw [h]; omega), h, bl_drop, bl_extract]
   rfl
  rw [e]
  refine rfrac_any s _ _ w o (Lib.hid (fun W => written_some s W o h ho (by omega))) (Lib.hid hL) ?_ ?_
  ·rw [← bl_length, bl_extract, List.length_take]; omega
  ·rw [← bl_length, bl_drop, List.length_drop, bl_length]; omega
end Go.Proofs.YtkonookacfmfgaaGreatDoor

namespace Go.Proofs.YtkonookacfmfgaaGreatDoor
open Go.RowKit
theorem ul_int_list : Tryz.prog.underlying 26 = some (.slice 3) := by kernel_rfl
theorem info_int_1 : (Tryz.prog.info? 3).map (fun i => (i.zero, i.size, i.bytes)) = some (some (.int .i64 0), 1, 8) := by kernel_rfl
theorem one_cell_int (n : Int) : ∀ u ∈ [Value.int .i64 n], u.oneCell' = true := by intro u hu; simp at hu; subst hu; rfl
theorem sortOf_leaf_yes {k : Nat} {ra nm : ByteArray} {d : Int} {l : List Nat} (hs : shapeOf k = none) (h : leafOk k ra nm d l.length) : sortOf k ra nm d l = 1 := by
 unfold sortOf leafSort
 rw [hs]
 exact @if_pos _ (Classical.propDecidable _) h _ _ _
theorem sortOf_leaf_no {k : Nat} {ra nm : ByteArray} {d : Int} {l : List Nat} (hs : shapeOf k = none) (h : ¬ leafOk k ra nm d l.length) : sortOf k ra nm d l = 0 := by
 unfold sortOf leafSort
 rw [hs]
 exact @if_neg _ (Classical.propDecidable _) h _ _ _
theorem sortOf_part_yes {k : Nat} {ra nm : ByteArray} {d : Int} {l ps : List Nat} {own : Nat} (hs : shapeOf k = some (ps, own)) (h : ra.size = 0 ∧ nm.size = 0 ∧ d = 0 ∧ l = ps) : sortOf k ra nm d l = own := by
 unfold sortOf
 rw [hs]
 exact if_pos h
theorem sortOf_part_no {k : Nat} {ra nm : ByteArray} {d : Int} {l ps : List Nat} {own : Nat} (hs : shapeOf k = some (ps, own)) (h : ¬ (ra.size = 0 ∧ nm.size = 0 ∧ d = 0 ∧ l = ps)) : sortOf k ra nm d l = 0 := by
 unfold sortOf
 rw [hs]
 exact if_neg h
def RSrt (w : World) (x : Ex) (s : Value) (v : Value) (wc : World) : Prop := wc.ownsRow (w.heap.size + 1) 3 1 v x.sub.length (nums .i64 (Ex.sorts x.sub)) ∧ Below w.heap.size w wc ∧ EBox wc w.heap.size x s
set_option maxHeartbeats 4000000 in
set_option maxRecDepth 100000 in
theorem rs_none (x : Ex) (s : Value) (w : World) (hB : x.bulk ≤ 1100000) (hk : x.k = 0 ∨ x.k = 10 ∨ 16 ≤ x.k) (_hk8 : x.k < 256) (HI : Hid (∀ y, y ∈ x.sub → ∀ (s : Value) (W : World), y.k < 256 → RdE W y.sub s → Calls Tryz.prog 140 #[y.val s] W fun e w' => e = .returned (.int .i64 ((y.sort : Nat) : Int)) ∧ Below W.heap.size W w')) (hs : RdE w x.sub s) :
  Calls Tryz.prog 140 #[x.val s] w fun e w' => e = .returned (.int .i64 ((x.sort : Nat) : Int)) ∧ Below w.heap.size w w' := by
 obtain ⟨ad, cap, rfl⟩ := hs.len
 obtain ⟨i0, hi, hz0, hz1, hz2⟩ := info_parts info_int_1
 have HS := Lib.hid hs
 have hlen := Ex.bulks_len x.sub
 have hlt0 := x.sub_lt
 have hbq := x.bulk_eq
 have hn : x.sub.length ≤ 1100000 := by omega
 have hra : x.ra.size ≤ 1100000 := by omega
 have hnm : x.nm.size ≤ 1100000 := by omega
 have hb0 := below_a1 w (.cells #[.int .u8 x.k, .string x.ra, .string x.nm, .int .i64 x.d, .slice ad x.sub.length cap] 25)
 have HX0 := Lib.hid (EBox.new w x (.slice ad x.sub.length cap) 25)
 obtain ⟨B, HBB⟩ : ∃ B : Bool, Hid (B = (decide (x.ra.size = 0) && (decide (x.nm.size = 0) && decide (x.d = 0)))) := ⟨_, rfl⟩
 have HR : Hid (x.sort = sortOf x.k x.ra x.nm x.d (Ex.sorts x.sub)) := Lib.hid x.sort_eq
 generalize x.sort = R at HR ⊢
 have HK := Lib.hid hk
 clear hk
 clear hs hbq
 unfold Ex.val
 go_enter Tryz.func140, Tryz.ntmps140
 go_upto_region 1 with fail
 go_cut [3] from 7 to 19 (fun b wc => b = .bool B ∧ wc = w.alloc (.cells #[.int .u8 x.k, .string x.ra, .string x.nm, .int .i64 x.d, .slice ad x.sub.length cap] 25))
 case first =>
  go_wp2_with fail
  all_goals
   go_meet
   refine ⟨?_, rfl⟩
   rw [HBB.out]
   simp [*, emp_nil] <;> rfl
 case rest =>
  obtain ⟨rfl, rfl⟩ := hcut
  go_upto_block 0 with fail
  go_cut [4, 5] from 20 to 35 (fun v _ wc => RSrt w x (.slice ad x.sub.length cap) v wc)
  case first =>
   go_wp2_with fail
   go_loopw [4, 5] (fun v i wr => ∃ (k : Nat) (adb : Option Addr) (capb : Nat), k ≤ x.sub.length ∧ i = .int .i64 (k : Int) ∧ v = .slice adb k capb ∧ wr.ownsRow (w.heap.size + 1) 3 1 (.slice adb k capb) k (nums .i64 ((Ex.sorts x.sub).take k)) ∧ Below w.heap.size w wr ∧ EBox wr w.heap.size x (.slice ad x.sub.length cap)) (fun _ i _ => x.sub.length - (intOf i).toNat)
   case atStart => exact ⟨0, none, 0, Nat.zero_le _, rfl, rfl, World.ownsRow_nil _ _ _ _, hb0, HX0.out⟩
   case round =>
    clear hb0 HX0
    obtain ⟨k, adb, capb, hk, rfl, rfl, hown, hbel, hbox⟩ := hrel
    have HBX := Lib.hid hbox
    by_cases hlt : k < x.sub.length
    ·obtain ⟨y, hy⟩ : ∃ y, x.sub[k]? = some y := ⟨_, List.getElem?_eq_getElem hlt⟩
     obtain ⟨b, off, s', rfl, c0, c1, c2, c3, c4, hs', hy8⟩ := (HS.out.frame hbel).at hy
     obtain ⟨_, _, _, _, q4⟩ := hbox
     have hblk : b < wr.heap.size := World.block_lt_of_cell? wr _ c0
     have hbx : w.heap.size < wr.heap.size := World.block_lt_of_cell? wr _ q4
     have hzw := hbel.size
     have hk1 : (0 : Int) ≤ (k : Int) := by omega
     have hk2 : (k : Int) < (x.sub.length : Int) := by omega
     have HSn : Hid (nums .i64 ((Ex.sorts x.sub).take (k + 1)) = nums .i64 ((Ex.sorts x.sub).take k) ++ [.int .i64 ((y.sort : Nat) : Int)]) := Lib.hid (by
      rw [take_snoc_get (show (Ex.sorts x.sub)[k]? = some y.sort by rw [Ex.sorts_eq, List.getElem?_map, hy]; rfl), nums_snoc])
     have HC := Lib.hid (HI.out y (List.mem_of_getElem? hy) s' wr hy8 hs')
     unfold Ex.val at HC
     generalize y.sort = Y at HC HSn
     clear hy hs'
     go_wp2_with fail
     refine HC.out.mono ?_
     rintro e w1 ⟨rfl, hb1⟩
     have hown1 := ownsRow_below' hown hb1
     have hbel1 := hbel.trans (hb1.mono hzw)
     have hbox1 := HBX.out.low hb1
     have hy1 := hb1.size
     clear hown hbel hb1 c0 c1 c2 c3 c4 HC
     have hlt1 := hown1.lt
     go_wp2_with (at_builtin; refine wpList_append_own _ rfl _ _ 26 rfl (w.heap.size + 1) 3 i0 (.int .i64 0) 1 8 ul_int_list hi hz0 hz1 hz2 rfl (by decide) _ _ _ rfl (hown1.alloc _) ⟨w1.heap.size, 0, none⟩ 1 1 [_] rfl rfl (cell_one_new _ _ _) (one_cell_int _) ?d1 ?d2 ?d3 ?_)
     case d1 => unfold maxLen; omega
     case d2 => omega
     case d3 => simp; omega
     intro v2 w2 hown2 hgrow2 _
     have hbel2 : Below w.heap.size w w2 := (hbel1.alloc (by omega) _).grown hgrow2 (by simp; omega) (fun k hk => by have := (hlt1 k hk).1; omega)
     have hbox2 : EBox w2 w.heap.size x (.slice (some ⟨b, off, none⟩) x.sub.length cap) := (hbox1.low (below_a1 _ _)).kept fun o u hc => by
      rw [World.cell?_of_block (w := w1.alloc (.cells #[.int .i64 (Y : Int)] 3)) (hgrow2.block w.heap.size (by simp; omega) (fun e => by have := (hlt1 _ e.symm).1; omega))]; exact hc
     obtain ⟨ad3, cap3, rfl, _⟩ := Sl.of_owns hown2
     rw [← HSn.out] at hown2
     clear hgrow2 hown1 hbel1 hlt1 hbox1
     go_wp2
     go_roundw
     case rel => exact ⟨k + 1, ad3, cap3, by omega, by go_num, rfl, hown2, hbel2, hbox2⟩
     case measure => simp [intOf]; omega
    ·obtain rfl : k = x.sub.length := by omega
     have HR : Hid (RSrt w x (.slice ad x.sub.length cap) (.slice adb x.sub.length capb) wr) := by
      rw [List.take_of_length_le (by rw [Ex.sorts_length]; exact Nat.le_refl _)] at hown
      exact ⟨hown, hbel, hbox⟩
     obtain ⟨_, _, _, _, q4⟩ := hbox
     clear hown hbel
     go_wp2
     go_meet
     exact HR.out
  case rest =>
   obtain ⟨hown, hbel, hbox⟩ := hcut
   obtain ⟨adv, capv, rfl, hcl, _, hsl⟩ := Sl.of_owns hown
   have hLl := Ex.sorts_length x.sub
   obtain ⟨c0, c1, c2, c3, _⟩ := hbox
   have hbx : w.heap.size < wc.heap.size := World.block_lt_of_cell? wc _ c0
   have HSL := Lib.hid hsl
   have hk := HK.out
   clear HK
   generalize Ex.sorts x.sub = L at *
   clear HS HI hb0 HX0 hown hsl hlen hlt0 hB
   have hS : shapeOf x.k = none := by
    unfold shapeOf
    rw [if_neg (by omega), if_neg (by omega), if_neg (by omega), if_neg (by omega), if_neg (by omega)]
   have HF : Hid (R = 0) := Lib.hid (by rw [HR.out]; exact sortOf_leaf_no hS (by unfold leafOk; omega))
   clear HR HSL hS
   rcases hk with hk | hk | hk
   ·rw [hk] at c0
    replace c0 : wc.cell? ⟨w.heap.size, 0, none⟩ = some (.int .u8 0) := c0
    clear hk
    go_wp2_with fail
    go_ret
    exact ⟨by rw [HF.out]; rfl, hbel⟩
   ·rw [hk] at c0
    replace c0 : wc.cell? ⟨w.heap.size, 0, none⟩ = some (.int .u8 10) := c0
    clear hk
    go_wp2_with fail
    go_ret
    exact ⟨by rw [HF.out]; rfl, hbel⟩
   ·
    have t1 : ((x.k : Int) == 1) = false := by simp; omega
    have t2 : ((x.k : Int) == 2) = false := by simp; omega
    have t3 : ((x.k : Int) == 3) = false := by simp; omega
    have t4 : decide ((4 : Int) ≤ (x.k : Int)) = true := by simp; omega
    have t8 : decide ((x.k : Int) ≤ 8) = false := by simp; omega
    have t9 : ((x.k : Int) == 9) = false := by simp; omega
    have t11 : ((x.k : Int) == 11) = false := by simp; omega
    have t12 : ((x.k : Int) == 12) = false := by simp; omega
    have t13 : ((x.k : Int) == 13) = false := by simp; omega
    have t14 : ((x.k : Int) == 14) = false := by simp; omega
    have t15 : ((x.k : Int) == 15) = false := by simp; omega
    go_wp2_with fail
    go_ret
    exact ⟨by rw [HF.out]; rfl, hbel⟩
end Go.Proofs.YtkonookacfmfgaaGreatDoor
