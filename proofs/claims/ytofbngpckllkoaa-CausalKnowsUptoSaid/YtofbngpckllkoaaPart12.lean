/-
  novationref02.Check.  Printed by tools/genrefrat.py.
-/
import Derived.Test.YtofbngpckllkoaaPart11
import Derived.Test.YtofbngpckllkoaaPart06
namespace Go.Proofs.Ytofbngpckllkoaa
open Go.RowKit

theorem head_neg {l : List UInt8} : isNeg l = true ↔ l.head? = some 45 := by simp [isNeg]
theorem big_of {l : List UInt8} (h : canonI l = true) (h0 : intErr l ≠ 0) : 1000 < (body l).length := by
  rw [intErr, if_pos h] at h0
  by_cases hb : 1000 < (body l).length
  · exact hb
  · rw [if_neg hb] at h0; exact absurd rfl h0

set_option maxHeartbeats 1000000 in
set_option maxRecDepth 100000 in
theorem rfrac_a_ok (s a b : ByteArray) (w : World) (o : Nat) (HS : Hid (∀ W, Calls Try.prog 45 #[.string s] W (TwoPost W a b)))
    (HL : Hid (∀ W, Calls Try.prog 47 #[.string s] W fun e w' => e = .returned (.int .i64 (o : Int)) ∧ W = w')) (ha : a.size ≤ 1100000) (hb : b.size ≤ 1100000)
    (hca : canonI (bl a) = false) (hcb : canonI (bl b) = true) :
    Calls Try.prog 32 #[.string s] w (RatPost w 12) := by
  have HLo := HL
  have do0 : decide ((0 : Int) ≤ (o : Int)) = true := by rw [decide_eq_true_eq]; omega
  have DA := Lib.hid (fun W => digits_bad a W ha hca)
  obtain ⟨nb, hneg⟩ : ∃ nb, isNeg (bl b) = nb := ⟨_, rfl⟩
  have DB := Lib.hid (fun W => by have k := digits_ok b W hb hcb; rw [show isNeg (bl b) = nb from hneg] at k; exact k)

  go_enter Try.func32, Try.ntmps32
  go_wp2_with fail
  refine (HS.out _).mono ?_
  rintro e w' ⟨rfl, n, rfl⟩
  have hb0 : Below w.heap.size w (w.drewN n) := below_drewN (Below.refl _ _) _
  go_wp2_with fail
  refine (DA.out _).mono ?_
  rintro e w1 ⟨rfl, hb1⟩
  go_wp2_with fail
  refine (DB.out _).mono ?_
  rintro e w2 ⟨v2, rfl, s2, hb2⟩
  obtain ⟨ad2, cap2, rfl, _⟩ := s2
  have HB : Hid (Below w.heap.size w w2) := hb0.trans ((hb1.trans (hb2.mono hb1.size)).mono hb0.size)
  go_wp2
  go_ret
  exact ⟨rfl, HB.out⟩

set_option maxHeartbeats 1000000 in
set_option maxRecDepth 100000 in
theorem rfrac_a_bad (s a b : ByteArray) (w : World) (o : Nat) (HS : Hid (∀ W, Calls Try.prog 45 #[.string s] W (TwoPost W a b)))
    (HL : Hid (∀ W, Calls Try.prog 47 #[.string s] W fun e w' => e = .returned (.int .i64 (o : Int)) ∧ W = w')) (ha : a.size ≤ 1100000) (hb : b.size ≤ 1100000)
    (hca : canonI (bl a) = false) (hcb : canonI (bl b) = false) :
    Calls Try.prog 32 #[.string s] w (RatPost w 12) := by
  have HLo := HL
  have do0 : decide ((0 : Int) ≤ (o : Int)) = true := by rw [decide_eq_true_eq]; omega
  have DA := Lib.hid (fun W => digits_bad a W ha hca)
  have DB := Lib.hid (fun W => digits_bad b W hb hcb)

  go_enter Try.func32, Try.ntmps32
  go_wp2_with fail
  refine (HS.out _).mono ?_
  rintro e w' ⟨rfl, n, rfl⟩
  have hb0 : Below w.heap.size w (w.drewN n) := below_drewN (Below.refl _ _) _
  go_wp2_with fail
  refine (DA.out _).mono ?_
  rintro e w1 ⟨rfl, hb1⟩
  go_wp2_with fail
  refine (DB.out _).mono ?_
  rintro e w2 ⟨rfl, hb2⟩
  have HB : Hid (Below w.heap.size w w2) := hb0.trans ((hb1.trans (hb2.mono hb1.size)).mono hb0.size)
  go_wp2
  go_ret
  exact ⟨rfl, HB.out⟩

set_option maxHeartbeats 1000000 in
set_option maxRecDepth 100000 in
theorem rfrac_b (s a b : ByteArray) (w : World) (o : Nat) (HS : Hid (∀ W, Calls Try.prog 45 #[.string s] W (TwoPost W a b)))
    (HL : Hid (∀ W, Calls Try.prog 47 #[.string s] W fun e w' => e = .returned (.int .i64 (o : Int)) ∧ W = w')) (ha : a.size ≤ 1100000) (hb : b.size ≤ 1100000)
    (hca : canonI (bl a) = true) (hcb : canonI (bl b) = false) :
    Calls Try.prog 32 #[.string s] w (RatPost w 12) := by
  have HLo := HL
  have do0 : decide ((0 : Int) ≤ (o : Int)) = true := by rw [decide_eq_true_eq]; omega
  have DA := Lib.hid (fun W => digits_ok a W ha hca)
  have DB := Lib.hid (fun W => digits_bad b W hb hcb)

  go_enter Try.func32, Try.ntmps32
  go_wp2_with fail
  refine (HS.out _).mono ?_
  rintro e w' ⟨rfl, n, rfl⟩
  have hb0 : Below w.heap.size w (w.drewN n) := below_drewN (Below.refl _ _) _
  go_wp2_with fail
  refine (DA.out _).mono ?_
  rintro e w1 ⟨v1, rfl, s1, hb1⟩
  obtain ⟨ad1, cap1, rfl, _⟩ := s1
  go_wp2_with fail
  refine (DB.out _).mono ?_
  rintro e w2 ⟨rfl, hb2⟩
  have HB : Hid (Below w.heap.size w w2) := hb0.trans ((hb1.trans (hb2.mono hb1.size)).mono hb0.size)
  go_wp2
  go_ret
  exact ⟨rfl, HB.out⟩

set_option maxHeartbeats 1000000 in
set_option maxRecDepth 100000 in
theorem rfrac_neg (s a b : ByteArray) (w : World) (o : Nat) (HS : Hid (∀ W, Calls Try.prog 45 #[.string s] W (TwoPost W a b)))
    (HL : Hid (∀ W, Calls Try.prog 47 #[.string s] W fun e w' => e = .returned (.int .i64 (o : Int)) ∧ W = w')) (ha : a.size ≤ 1100000) (hb : b.size ≤ 1100000)
    (hca : canonI (bl a) = true) (hcb : canonI (bl b) = true) (h45 : (bl b).head? = some 45) :
    Calls Try.prog 32 #[.string s] w (RatPost w 12) := by
  have HLo := HL
  have do0 : decide ((0 : Int) ≤ (o : Int)) = true := by rw [decide_eq_true_eq]; omega
  have hneg := head_neg.2 h45
  have DA := Lib.hid (fun W => digits_ok a W ha hca)
  have DB := Lib.hid (fun W => by have k := digits_ok b W hb hcb; rw [show isNeg (bl b) = true from hneg] at k; exact k)

  go_enter Try.func32, Try.ntmps32
  go_wp2_with fail
  refine (HS.out _).mono ?_
  rintro e w' ⟨rfl, n, rfl⟩
  have hb0 : Below w.heap.size w (w.drewN n) := below_drewN (Below.refl _ _) _
  go_wp2_with fail
  refine (DA.out _).mono ?_
  rintro e w1 ⟨v1, rfl, s1, hb1⟩
  obtain ⟨ad1, cap1, rfl, _⟩ := s1
  go_wp2_with fail
  refine (DB.out _).mono ?_
  rintro e w2 ⟨v2, rfl, s2, hb2⟩
  obtain ⟨ad2, cap2, rfl, _⟩ := s2
  have HB : Hid (Below w.heap.size w w2) := hb0.trans ((hb1.trans (hb2.mono hb1.size)).mono hb0.size)
  go_wp2
  go_ret
  exact ⟨rfl, HB.out⟩

set_option maxHeartbeats 1000000 in
set_option maxRecDepth 100000 in
theorem rfrac_zero (s a b : ByteArray) (w : World) (o : Nat) (HS : Hid (∀ W, Calls Try.prog 45 #[.string s] W (TwoPost W a b)))
    (HL : Hid (∀ W, Calls Try.prog 47 #[.string s] W fun e w' => e = .returned (.int .i64 (o : Int)) ∧ W = w')) (ha : a.size ≤ 1100000) (hb : b.size ≤ 1100000)
    (hca : canonI (bl a) = true) (hcb : canonI (bl b) = true) (hl : bl b = [48]) :
    Calls Try.prog 32 #[.string s] w (RatPost w 12) := by
  have HLo := HL
  have do0 : decide ((0 : Int) ≤ (o : Int)) = true := by rw [decide_eq_true_eq]; omega
  have hneg : isNeg (bl b) = false := by rw [hl]; rfl
  have DA := Lib.hid (fun W => digits_ok a W ha hca)
  have DB := Lib.hid (fun W => by have k := digits_ok b W hb hcb; rw [show isNeg (bl b) = false from hneg] at k; exact k)
  have e := eq_lit hl
  subst e
  clear hl

  go_enter Try.func32, Try.ntmps32
  go_wp2_with fail
  refine (HS.out _).mono ?_
  rintro e w' ⟨rfl, n, rfl⟩
  have hb0 : Below w.heap.size w (w.drewN n) := below_drewN (Below.refl _ _) _
  go_wp2_with fail
  refine (DA.out _).mono ?_
  rintro e w1 ⟨v1, rfl, s1, hb1⟩
  obtain ⟨ad1, cap1, rfl, _⟩ := s1
  go_wp2_with fail
  refine (DB.out _).mono ?_
  rintro e w2 ⟨v2, rfl, s2, hb2⟩
  obtain ⟨ad2, cap2, rfl, _⟩ := s2
  have HB : Hid (Below w.heap.size w w2) := hb0.trans ((hb1.trans (hb2.mono hb1.size)).mono hb0.size)
  go_wp2
  go_ret
  exact ⟨rfl, HB.out⟩

set_option maxHeartbeats 1000000 in
set_option maxRecDepth 100000 in
theorem rfrac_one (s a b : ByteArray) (w : World) (o : Nat) (HS : Hid (∀ W, Calls Try.prog 45 #[.string s] W (TwoPost W a b)))
    (HL : Hid (∀ W, Calls Try.prog 47 #[.string s] W fun e w' => e = .returned (.int .i64 (o : Int)) ∧ W = w')) (ha : a.size ≤ 1100000) (hb : b.size ≤ 1100000)
    (hca : canonI (bl a) = true) (hcb : canonI (bl b) = true) (hl : bl b = [49]) :
    Calls Try.prog 32 #[.string s] w (RatPost w 12) := by
  have HLo := HL
  have do0 : decide ((0 : Int) ≤ (o : Int)) = true := by rw [decide_eq_true_eq]; omega
  have hneg : isNeg (bl b) = false := by rw [hl]; rfl
  have DA := Lib.hid (fun W => digits_ok a W ha hca)
  have DB := Lib.hid (fun W => by have k := digits_ok b W hb hcb; rw [show isNeg (bl b) = false from hneg] at k; exact k)
  have e := eq_lit hl
  subst e
  clear hl

  go_enter Try.func32, Try.ntmps32
  go_wp2_with fail
  refine (HS.out _).mono ?_
  rintro e w' ⟨rfl, n, rfl⟩
  have hb0 : Below w.heap.size w (w.drewN n) := below_drewN (Below.refl _ _) _
  go_wp2_with fail
  refine (DA.out _).mono ?_
  rintro e w1 ⟨v1, rfl, s1, hb1⟩
  obtain ⟨ad1, cap1, rfl, _⟩ := s1
  go_wp2_with fail
  refine (DB.out _).mono ?_
  rintro e w2 ⟨v2, rfl, s2, hb2⟩
  obtain ⟨ad2, cap2, rfl, _⟩ := s2
  go_wp2_with fail
  refine (HL.out _).mono ?_
  rintro e w9 ⟨rfl, rfl⟩
  have HB : Hid (Below w.heap.size w w2) := hb0.trans ((hb1.trans (hb2.mono hb1.size)).mono hb0.size)
  go_wp2
  go_ret
  exact ⟨rfl, HB.out⟩

set_option maxHeartbeats 1000000 in
set_option maxRecDepth 100000 in
theorem rfrac_big_a (s a b : ByteArray) (w : World) (o : Nat) (HS : Hid (∀ W, Calls Try.prog 45 #[.string s] W (TwoPost W a b)))
    (HL : Hid (∀ W, Calls Try.prog 47 #[.string s] W fun e w' => e = .returned (.int .i64 (o : Int)) ∧ W = w')) (ha : a.size ≤ 1100000) (hb : b.size ≤ 1100000)
    (hca : canonI (bl a) = true) (hcb : canonI (bl b) = true) (h45 : (bl b).head? ≠ some 45) (h0 : bl b ≠ [48]) (h1 : bl b ≠ [49]) (hi : intErr (bl a) ≠ 0) :
    Calls Try.prog 32 #[.string s] w (RatPost w 14) := by
  have HLo := HL
  have do0 : decide ((0 : Int) ≤ (o : Int)) = true := by rw [decide_eq_true_eq]; omega
  have hneg : isNeg (bl b) = false := by rw [Bool.eq_false_iff]; exact fun e => h45 (head_neg.1 e)
  have n0 := ne_lit h0
  have n1 := ne_lit h1
  have DA := Lib.hid (fun W => digits_ok a W ha hca)
  have DB := Lib.hid (fun W => by have k := digits_ok b W hb hcb; rw [show isNeg (bl b) = false from hneg] at k; exact k)
  obtain ⟨La, hLa⟩ : ∃ L, (rdig (body (bl a))).length = L := ⟨_, rfl⟩
  have HLa := Lib.hid hLa
  rw [rdig_length] at hLa
  have gLa : 1000 < La := by rw [← hLa]; exact big_of (by assumption) (by assumption)
  have dLa : decide ((1000 : Int) < (La : Int)) = true := by rw [decide_eq_true_eq]; omega
  clear hLa

  go_enter Try.func32, Try.ntmps32
  go_wp2_with fail
  refine (HS.out _).mono ?_
  rintro e w' ⟨rfl, n, rfl⟩
  have hb0 : Below w.heap.size w (w.drewN n) := below_drewN (Below.refl _ _) _
  go_wp2_with fail
  refine (DA.out _).mono ?_
  rintro e w1 ⟨v1, rfl, s1, hb1⟩
  obtain ⟨ad1, cap1, rfl, _⟩ := s1
  rw [HLa.out]
  go_wp2_with fail
  refine (DB.out _).mono ?_
  rintro e w2 ⟨v2, rfl, s2, hb2⟩
  obtain ⟨ad2, cap2, rfl, _⟩ := s2
  go_wp2_with fail
  refine (HL.out _).mono ?_
  rintro e w9 ⟨rfl, rfl⟩
  have HB : Hid (Below w.heap.size w w2) := hb0.trans ((hb1.trans (hb2.mono hb1.size)).mono hb0.size)
  go_wp2
  go_ret
  exact ⟨rfl, HB.out⟩

set_option maxHeartbeats 1000000 in
set_option maxRecDepth 100000 in
theorem rfrac_big_b (s a b : ByteArray) (w : World) (o : Nat) (HS : Hid (∀ W, Calls Try.prog 45 #[.string s] W (TwoPost W a b)))
    (HL : Hid (∀ W, Calls Try.prog 47 #[.string s] W fun e w' => e = .returned (.int .i64 (o : Int)) ∧ W = w')) (ha : a.size ≤ 1100000) (hb : b.size ≤ 1100000)
    (hca : canonI (bl a) = true) (hcb : canonI (bl b) = true) (h45 : (bl b).head? ≠ some 45) (h0 : bl b ≠ [48]) (h1 : bl b ≠ [49]) (hi : intErr (bl a) = 0) (hj : intErr (bl b) ≠ 0) :
    Calls Try.prog 32 #[.string s] w (RatPost w 14) := by
  have HLo := HL
  have do0 : decide ((0 : Int) ≤ (o : Int)) = true := by rw [decide_eq_true_eq]; omega
  have hneg : isNeg (bl b) = false := by rw [Bool.eq_false_iff]; exact fun e => h45 (head_neg.1 e)
  have n0 := ne_lit h0
  have n1 := ne_lit h1
  have DA := Lib.hid (fun W => digits_ok a W ha hca)
  have DB := Lib.hid (fun W => by have k := digits_ok b W hb hcb; rw [show isNeg (bl b) = false from hneg] at k; exact k)
  obtain ⟨La, hLa⟩ : ∃ L, (rdig (body (bl a))).length = L := ⟨_, rfl⟩
  have HLa := Lib.hid hLa
  rw [rdig_length] at hLa
  have gLa : La ≤ 1000 := by rw [← hLa]; exact (intErr_zero (by assumption)).2
  have dLa : decide ((1000 : Int) < (La : Int)) = false := by rw [decide_eq_false_iff_not]; omega
  clear hLa
  obtain ⟨Lb, hLb⟩ : ∃ L, (rdig (body (bl b))).length = L := ⟨_, rfl⟩
  have HLb := Lib.hid hLb
  rw [rdig_length] at hLb
  have gLb : 1000 < Lb := by rw [← hLb]; exact big_of (by assumption) (by assumption)
  have dLb : decide ((1000 : Int) < (Lb : Int)) = true := by rw [decide_eq_true_eq]; omega
  clear hLb

  go_enter Try.func32, Try.ntmps32
  go_wp2_with fail
  refine (HS.out _).mono ?_
  rintro e w' ⟨rfl, n, rfl⟩
  have hb0 : Below w.heap.size w (w.drewN n) := below_drewN (Below.refl _ _) _
  go_wp2_with fail
  refine (DA.out _).mono ?_
  rintro e w1 ⟨v1, rfl, s1, hb1⟩
  obtain ⟨ad1, cap1, rfl, _⟩ := s1
  rw [HLa.out]
  go_wp2_with fail
  refine (DB.out _).mono ?_
  rintro e w2 ⟨v2, rfl, s2, hb2⟩
  obtain ⟨ad2, cap2, rfl, _⟩ := s2
  rw [HLb.out]
  go_wp2_with fail
  refine (HL.out _).mono ?_
  rintro e w9 ⟨rfl, rfl⟩
  have HB : Hid (Below w.heap.size w w2) := hb0.trans ((hb1.trans (hb2.mono hb1.size)).mono hb0.size)
  go_wp2
  go_ret
  exact ⟨rfl, HB.out⟩

set_option maxHeartbeats 1000000 in
set_option maxRecDepth 100000 in
theorem rfrac_gcd (s a b : ByteArray) (w : World) (o : Nat) (HS : Hid (∀ W, Calls Try.prog 45 #[.string s] W (TwoPost W a b)))
    (HL : Hid (∀ W, Calls Try.prog 47 #[.string s] W fun e w' => e = .returned (.int .i64 (o : Int)) ∧ W = w')) (ha : a.size ≤ 1100000) (hb : b.size ≤ 1100000)
    (hca : canonI (bl a) = true) (hcb : canonI (bl b) = true) (h45 : (bl b).head? ≠ some 45) (h0 : bl b ≠ [48]) (h1 : bl b ≠ [49]) (hi : intErr (bl a) = 0) (hj : intErr (bl b) = 0) (hg : Nat.gcd (dval (body (bl a))) (dval (body (bl b))) ≠ 1) :
    Calls Try.prog 32 #[.string s] w (RatPost w 12) := by
  have HLo := HL
  have do0 : decide ((0 : Int) ≤ (o : Int)) = true := by rw [decide_eq_true_eq]; omega
  have hneg : isNeg (bl b) = false := by rw [Bool.eq_false_iff]; exact fun e => h45 (head_neg.1 e)
  have n0 := ne_lit h0
  have n1 := ne_lit h1
  have DA := Lib.hid (fun W => digits_ok a W ha hca)
  have DB := Lib.hid (fun W => by have k := digits_ok b W hb hcb; rw [show isNeg (bl b) = false from hneg] at k; exact k)
  have GC := Lib.hid (fun W => rgcd_ok a b W ha hb hi hj)
  have Hg := Lib.hid hg
  obtain ⟨La, hLa⟩ : ∃ L, (rdig (body (bl a))).length = L := ⟨_, rfl⟩
  have HLa := Lib.hid hLa
  rw [rdig_length] at hLa
  have gLa : La ≤ 1000 := by rw [← hLa]; exact (intErr_zero (by assumption)).2
  have dLa : decide ((1000 : Int) < (La : Int)) = false := by rw [decide_eq_false_iff_not]; omega
  clear hLa
  obtain ⟨Lb, hLb⟩ : ∃ L, (rdig (body (bl b))).length = L := ⟨_, rfl⟩
  have HLb := Lib.hid hLb
  rw [rdig_length] at hLb
  have gLb : Lb ≤ 1000 := by rw [← hLb]; exact (intErr_zero (by assumption)).2
  have dLb : decide ((1000 : Int) < (Lb : Int)) = false := by rw [decide_eq_false_iff_not]; omega
  clear hLb

  go_enter Try.func32, Try.ntmps32
  go_wp2_with fail
  refine (HS.out _).mono ?_
  rintro e w' ⟨rfl, n, rfl⟩
  have hb0 : Below w.heap.size w (w.drewN n) := below_drewN (Below.refl _ _) _
  go_wp2_with fail
  refine (DA.out _).mono ?_
  rintro e w1 ⟨v1, rfl, s1, hb1⟩
  obtain ⟨ad1, cap1, rfl, _⟩ := s1
  rw [HLa.out]
  go_wp2_with fail
  refine (DB.out _).mono ?_
  rintro e w2 ⟨v2, rfl, s2, hb2⟩
  obtain ⟨ad2, cap2, rfl, _⟩ := s2
  rw [HLb.out]
  go_wp2_with fail
  refine (HL.out _).mono ?_
  rintro e w9 ⟨rfl, rfl⟩
  go_wp2_with fail
  refine (GC.out _).mono ?_
  rintro e w3 ⟨t, rfl, ht, hb3⟩
  have nt : (t.toList != [49]) = true := by rw [bne, ne_lit (b := t) (x := 49) (by rw [ht]; exact fun e => Hg.out ((istr_one _).1 e))]; rfl
  have nt2 := ne_lit (b := t) (x := 49) (by rw [ht]; exact fun e => Hg.out ((istr_one _).1 e))
  go_wp2_with fail
  refine (HL.out _).mono ?_
  rintro e w9 ⟨rfl, rfl⟩
  have HB : Hid (Below w.heap.size w w3) := hb0.trans ((hb1.trans ((hb2.trans (hb3.mono hb2.size)).mono hb1.size)).mono hb0.size)
  go_wp2
  go_ret
  exact ⟨rfl, HB.out⟩

set_option maxHeartbeats 1000000 in
set_option maxRecDepth 100000 in
theorem rfrac_good (s a b : ByteArray) (w : World) (o : Nat) (HS : Hid (∀ W, Calls Try.prog 45 #[.string s] W (TwoPost W a b)))
    (HL : Hid (∀ W, Calls Try.prog 47 #[.string s] W fun e w' => e = .returned (.int .i64 (o : Int)) ∧ W = w')) (ha : a.size ≤ 1100000) (hb : b.size ≤ 1100000)
    (hca : canonI (bl a) = true) (hcb : canonI (bl b) = true) (h45 : (bl b).head? ≠ some 45) (h0 : bl b ≠ [48]) (h1 : bl b ≠ [49]) (hi : intErr (bl a) = 0) (hj : intErr (bl b) = 0) (hg : Nat.gcd (dval (body (bl a))) (dval (body (bl b))) = 1) :
    Calls Try.prog 32 #[.string s] w (RatPost w 0) := by
  have HLo := HL
  have do0 : decide ((0 : Int) ≤ (o : Int)) = true := by rw [decide_eq_true_eq]; omega
  have hneg : isNeg (bl b) = false := by rw [Bool.eq_false_iff]; exact fun e => h45 (head_neg.1 e)
  have n0 := ne_lit h0
  have n1 := ne_lit h1
  have DA := Lib.hid (fun W => digits_ok a W ha hca)
  have DB := Lib.hid (fun W => by have k := digits_ok b W hb hcb; rw [show isNeg (bl b) = false from hneg] at k; exact k)
  have GC := Lib.hid (fun W => rgcd_ok a b W ha hb hi hj)
  have Hg := Lib.hid hg
  obtain ⟨La, hLa⟩ : ∃ L, (rdig (body (bl a))).length = L := ⟨_, rfl⟩
  have HLa := Lib.hid hLa
  rw [rdig_length] at hLa
  have gLa : La ≤ 1000 := by rw [← hLa]; exact (intErr_zero (by assumption)).2
  have dLa : decide ((1000 : Int) < (La : Int)) = false := by rw [decide_eq_false_iff_not]; omega
  clear hLa
  obtain ⟨Lb, hLb⟩ : ∃ L, (rdig (body (bl b))).length = L := ⟨_, rfl⟩
  have HLb := Lib.hid hLb
  rw [rdig_length] at hLb
  have gLb : Lb ≤ 1000 := by rw [← hLb]; exact (intErr_zero (by assumption)).2
  have dLb : decide ((1000 : Int) < (Lb : Int)) = false := by rw [decide_eq_false_iff_not]; omega
  clear hLb

  go_enter Try.func32, Try.ntmps32
  go_wp2_with fail
  refine (HS.out _).mono ?_
  rintro e w' ⟨rfl, n, rfl⟩
  have hb0 : Below w.heap.size w (w.drewN n) := below_drewN (Below.refl _ _) _
  go_wp2_with fail
  refine (DA.out _).mono ?_
  rintro e w1 ⟨v1, rfl, s1, hb1⟩
  obtain ⟨ad1, cap1, rfl, _⟩ := s1
  rw [HLa.out]
  go_wp2_with fail
  refine (DB.out _).mono ?_
  rintro e w2 ⟨v2, rfl, s2, hb2⟩
  obtain ⟨ad2, cap2, rfl, _⟩ := s2
  rw [HLb.out]
  go_wp2_with fail
  refine (HL.out _).mono ?_
  rintro e w9 ⟨rfl, rfl⟩
  go_wp2_with fail
  refine (GC.out _).mono ?_
  rintro e w3 ⟨t, rfl, ht, hb3⟩
  have et := eq_lit (b := t) (x := 49) (by rw [ht]; exact (istr_one _).2 Hg.out)
  subst et
  go_wp2_with fail
  refine (HL.out _).mono ?_
  rintro e w9 ⟨rfl, rfl⟩
  have HB : Hid (Below w.heap.size w w3) := hb0.trans ((hb1.trans ((hb2.trans (hb3.mono hb2.size)).mono hb1.size)).mono hb0.size)
  go_wp2
  go_ret
  exact ⟨rfl, HB.out⟩

set_option maxHeartbeats 1000000 in
set_option maxRecDepth 100000 in
theorem rnone_bad (a : ByteArray) (w : World) (HS : Hid (∀ W, Calls Try.prog 45 #[.string a] W (TwoPost W a ⟨#[49]⟩)))
    (HL : Hid (∀ W, Calls Try.prog 47 #[.string a] W fun e w' => e = .returned (.int .i64 (-1)) ∧ W = w')) (ha : a.size ≤ 1100000)
    (hca : canonI (bl a) = false) :
    Calls Try.prog 32 #[.string a] w (RatPost w 12) := by
  have HLo := HL
  obtain ⟨b, hbe⟩ : ∃ b : ByteArray, b = ⟨#[49]⟩ := ⟨_, rfl⟩
  have hcb : canonI (bl b) = true := by rw [hbe]; rfl
  have hneg : isNeg (bl b) = false := by rw [hbe]; rfl
  have hj : intErr (bl b) = 0 := by rw [hbe]; rfl
  have hb : b.size ≤ 1100000 := by rw [hbe]; decide
  have DA := Lib.hid (fun W => digits_bad a W ha hca)
  have DB := Lib.hid (fun W => by have k := digits_ok b W hb hcb; rw [show isNeg (bl b) = false from hneg] at k; exact k)
  subst hbe

  go_enter Try.func32, Try.ntmps32
  go_wp2_with fail
  refine (HS.out _).mono ?_
  rintro e w' ⟨rfl, n, rfl⟩
  have hb0 : Below w.heap.size w (w.drewN n) := below_drewN (Below.refl _ _) _
  go_wp2_with fail
  refine (DA.out _).mono ?_
  rintro e w1 ⟨rfl, hb1⟩
  go_wp2_with fail
  refine (DB.out _).mono ?_
  rintro e w2 ⟨v2, rfl, s2, hb2⟩
  obtain ⟨ad2, cap2, rfl, _⟩ := s2
  have HB : Hid (Below w.heap.size w w2) := hb0.trans ((hb1.trans (hb2.mono hb1.size)).mono hb0.size)
  go_wp2
  go_ret
  exact ⟨rfl, HB.out⟩

set_option maxHeartbeats 1000000 in
set_option maxRecDepth 100000 in
theorem rnone_big (a : ByteArray) (w : World) (HS : Hid (∀ W, Calls Try.prog 45 #[.string a] W (TwoPost W a ⟨#[49]⟩)))
    (HL : Hid (∀ W, Calls Try.prog 47 #[.string a] W fun e w' => e = .returned (.int .i64 (-1)) ∧ W = w')) (ha : a.size ≤ 1100000)
    (hca : canonI (bl a) = true) (hi : intErr (bl a) ≠ 0) :
    Calls Try.prog 32 #[.string a] w (RatPost w 14) := by
  have HLo := HL
  obtain ⟨b, hbe⟩ : ∃ b : ByteArray, b = ⟨#[49]⟩ := ⟨_, rfl⟩
  have hcb : canonI (bl b) = true := by rw [hbe]; rfl
  have hneg : isNeg (bl b) = false := by rw [hbe]; rfl
  have hj : intErr (bl b) = 0 := by rw [hbe]; rfl
  have hb : b.size ≤ 1100000 := by rw [hbe]; decide
  have DA := Lib.hid (fun W => digits_ok a W ha hca)
  have DB := Lib.hid (fun W => by have k := digits_ok b W hb hcb; rw [show isNeg (bl b) = false from hneg] at k; exact k)
  obtain ⟨La, hLa⟩ : ∃ L, (rdig (body (bl a))).length = L := ⟨_, rfl⟩
  have HLa := Lib.hid hLa
  rw [rdig_length] at hLa
  have gLa : 1000 < La := by rw [← hLa]; exact big_of (by assumption) (by assumption)
  have dLa : decide ((1000 : Int) < (La : Int)) = true := by rw [decide_eq_true_eq]; omega
  clear hLa
  subst hbe

  go_enter Try.func32, Try.ntmps32
  go_wp2_with fail
  refine (HS.out _).mono ?_
  rintro e w' ⟨rfl, n, rfl⟩
  have hb0 : Below w.heap.size w (w.drewN n) := below_drewN (Below.refl _ _) _
  go_wp2_with fail
  refine (DA.out _).mono ?_
  rintro e w1 ⟨v1, rfl, s1, hb1⟩
  obtain ⟨ad1, cap1, rfl, _⟩ := s1
  rw [HLa.out]
  go_wp2_with fail
  refine (DB.out _).mono ?_
  rintro e w2 ⟨v2, rfl, s2, hb2⟩
  obtain ⟨ad2, cap2, rfl, _⟩ := s2
  go_wp2_with fail
  refine (HL.out _).mono ?_
  rintro e w9 ⟨rfl, rfl⟩
  have HB : Hid (Below w.heap.size w w2) := hb0.trans ((hb1.trans (hb2.mono hb1.size)).mono hb0.size)
  go_wp2
  go_ret
  exact ⟨rfl, HB.out⟩

set_option maxHeartbeats 1000000 in
set_option maxRecDepth 100000 in
theorem rnone_good (a : ByteArray) (w : World) (HS : Hid (∀ W, Calls Try.prog 45 #[.string a] W (TwoPost W a ⟨#[49]⟩)))
    (HL : Hid (∀ W, Calls Try.prog 47 #[.string a] W fun e w' => e = .returned (.int .i64 (-1)) ∧ W = w')) (ha : a.size ≤ 1100000)
    (hca : canonI (bl a) = true) (hi : intErr (bl a) = 0) :
    Calls Try.prog 32 #[.string a] w (RatPost w 0) := by
  have HLo := HL
  obtain ⟨b, hbe⟩ : ∃ b : ByteArray, b = ⟨#[49]⟩ := ⟨_, rfl⟩
  have hcb : canonI (bl b) = true := by rw [hbe]; rfl
  have hneg : isNeg (bl b) = false := by rw [hbe]; rfl
  have hj : intErr (bl b) = 0 := by rw [hbe]; rfl
  have hb : b.size ≤ 1100000 := by rw [hbe]; decide
  have DA := Lib.hid (fun W => digits_ok a W ha hca)
  have DB := Lib.hid (fun W => by have k := digits_ok b W hb hcb; rw [show isNeg (bl b) = false from hneg] at k; exact k)
  have GC := Lib.hid (fun W => rgcd_ok a b W ha hb hi hj)
  obtain ⟨La, hLa⟩ : ∃ L, (rdig (body (bl a))).length = L := ⟨_, rfl⟩
  have HLa := Lib.hid hLa
  rw [rdig_length] at hLa
  have gLa : La ≤ 1000 := by rw [← hLa]; exact (intErr_zero (by assumption)).2
  have dLa : decide ((1000 : Int) < (La : Int)) = false := by rw [decide_eq_false_iff_not]; omega
  clear hLa
  obtain ⟨Lb, hLb⟩ : ∃ L, (rdig (body (bl b))).length = L := ⟨_, rfl⟩
  have HLb := Lib.hid hLb
  rw [rdig_length] at hLb
  have gLb : Lb ≤ 1000 := by rw [← hLb]; exact (intErr_zero (by assumption)).2
  have dLb : decide ((1000 : Int) < (Lb : Int)) = false := by rw [decide_eq_false_iff_not]; omega
  clear hLb
  subst hbe

  go_enter Try.func32, Try.ntmps32
  go_wp2_with fail
  refine (HS.out _).mono ?_
  rintro e w' ⟨rfl, n, rfl⟩
  have hb0 : Below w.heap.size w (w.drewN n) := below_drewN (Below.refl _ _) _
  go_wp2_with fail
  refine (DA.out _).mono ?_
  rintro e w1 ⟨v1, rfl, s1, hb1⟩
  obtain ⟨ad1, cap1, rfl, _⟩ := s1
  rw [HLa.out]
  go_wp2_with fail
  refine (DB.out _).mono ?_
  rintro e w2 ⟨v2, rfl, s2, hb2⟩
  obtain ⟨ad2, cap2, rfl, _⟩ := s2
  rw [HLb.out]
  go_wp2_with fail
  refine (HL.out _).mono ?_
  rintro e w9 ⟨rfl, rfl⟩
  go_wp2_with fail
  refine (GC.out _).mono ?_
  rintro e w3 ⟨t, rfl, ht, hb3⟩
  go_wp2_with fail
  refine (HL.out _).mono ?_
  rintro e w9 ⟨rfl, rfl⟩
  have HB : Hid (Below w.heap.size w w3) := hb0.trans ((hb1.trans ((hb2.trans (hb3.mono hb2.size)).mono hb1.size)).mono hb0.size)
  go_wp2
  go_ret
  exact ⟨rfl, HB.out⟩

theorem rfrac_any (s a b : ByteArray) (w : World) (o : Nat) (HS : Hid (∀ W, Calls Try.prog 45 #[.string s] W (TwoPost W a b)))
    (HL : Hid (∀ W, Calls Try.prog 47 #[.string s] W fun e w' => e = .returned (.int .i64 (o : Int)) ∧ W = w')) (ha : a.size ≤ 1100000) (hb : b.size ≤ 1100000) :
    Calls Try.prog 32 #[.string s] w (RatPost w (fracErr (bl a) (bl b))) := by
  unfold fracErr
  split
  · next h =>
    by_cases hcb : canonI (bl b) = true
    · exact rfrac_a_ok s a b w o HS HL ha hb h hcb
    · exact rfrac_a_bad s a b w o HS HL ha hb h (by simpa using hcb)
  next h1 =>
  have hca : canonI (bl a) = true := by simpa using h1
  split
  · next h => exact rfrac_b s a b w o HS HL ha hb hca h
  next h2 =>
  have hcb : canonI (bl b) = true := by simpa using h2
  split
  · next h => exact rfrac_neg s a b w o HS HL ha hb hca hcb h
  next h3 =>
  split
  · next h => exact rfrac_zero s a b w o HS HL ha hb hca hcb h
  next h4 =>
  split
  · next h => exact rfrac_one s a b w o HS HL ha hb hca hcb h
  next h5 =>
  split
  · next h => exact rfrac_big_a s a b w o HS HL ha hb hca hcb h3 h4 h5 h
  next h6 =>
  have hi : intErr (bl a) = 0 := by simpa using h6
  split
  · next h => exact rfrac_big_b s a b w o HS HL ha hb hca hcb h3 h4 h5 hi h
  next h7 =>
  have hj : intErr (bl b) = 0 := by simpa using h7
  split
  · next h => exact rfrac_good s a b w o HS HL ha hb hca hcb h3 h4 h5 hi hj h
  next h8 => exact rfrac_gcd s a b w o HS HL ha hb hca hcb h3 h4 h5 hi hj h8

/-- novationref02.Check. -/
theorem refrat_any (s : ByteArray) (w : World) (hs : s.size ≤ 1100000) :
    Calls Try.prog 32 #[.string s] w (RatPost w (ratErr s)) := by
  have hL := fun W => rslash_any s W (by omega)
  rcases slash_cases s with h | ⟨o, h, ho⟩
  · rw [h] at hL
    have HS := Lib.hid (fun W => written_none s W (by omega) h)
    rw [ratErr, if_pos h]
    by_cases hca : canonI (bl s) = true
    · by_cases hi : intErr (bl s) = 0
      · rw [hi]; exact rnone_good s w HS (Lib.hid hL) hs hca hi
      · rw [intErr_of hca hi]; exact rnone_big s w HS (Lib.hid hL) hs hca hi
    · have hf : canonI (bl s) = false := by simpa using hca
      rw [intErr_of_not hf]; exact rnone_bad s w HS (Lib.hid hL) hs hf
  · rw [h] at hL
    have e : ratErr s = fracErr (bl (s.extract 0 o)) (bl (s.extract (o + 1) s.size)) := by
      rw [ratErr, if_neg (by rw [h]; omega), h, bl_drop, bl_extract]
      rfl
    rw [e]
    refine rfrac_any s _ _ w o (Lib.hid (fun W => written_some s W o h ho (by omega))) (Lib.hid hL) ?_ ?_
    · rw [← bl_length, bl_extract, List.length_take]; omega
    · rw [← bl_length, bl_drop, List.length_drop, bl_length]; omega
end Go.Proofs.Ytofbngpckllkoaa
