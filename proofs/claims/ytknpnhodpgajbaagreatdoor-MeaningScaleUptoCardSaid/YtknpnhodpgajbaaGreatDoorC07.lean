/-
  rational.Check where there is a slash.  Written by tools/genratb.py. Fixings and choices as lists: reading; the closures of observable.CheckEnv, slices.IndexFunc and ContainsFunc, ordered. slices.IndexFunc, slices.ContainsFunc and observable.ordered at fixings and at choices.  Printed by tools/genidx.py. Facts of the types of knowledge; what a call that hands back knowledge of its own answers. Arguments opened: knowledge as lists of records that can be read, with what the bound on the bulk gives. Size and depth of expressions: plain.
-/
import Derived.Test.YtknpnhodpgajbaaGreatDoorC06
import Derived.Test.YtknpnhodpgajbaaGreatDoorC02
import Derived.Test.YtknpnhodpgajbaaGreatDoorC01
import Derived.Test.YtknpnhodpgajbaaGreatDoorC03
import Derived.Maps.AppendAt
import Derived.Deep.Slices
import Derived.Deep.Fields
import Derived.Lib.SmallJoins
import Derived.Carry
namespace Go.Proofs.YtknpnhodpgajbaaGreatDoor
open Go.RowKit
theorem canonI_pos {b : ByteArray} (h : canonI (bl b) = true) : 0 < b.size := by
 rcases Nat.eq_zero_or_pos b.size with h0 | h0
 ·have e : bl b = [] := List.eq_nil_of_length_eq_zero (by rw [bl_length]; exact h0)
  rw [e] at h
  exact absurd h (by decide)
 ·exact h0
theorem ne_lit {b : ByteArray} {x : UInt8} (h : bl b ≠ [x]) : (b.toList == [x]) = false := by
 rw [Lib.toList_data]; show (bl b == [x]) = false; simpa using h
theorem eq_lit {b : ByteArray} {x : UInt8} (h : bl b = [x]) : b = ⟨#[x]⟩ := bl_inj h
set_option maxHeartbeats 1000000 in
set_option maxRecDepth 100000 in
theorem frac_a (s a b : ByteArray) (w : World) (HS : Hid (∀ W, Calls Tryz.prog 57 #[.string s] W (CutPost W a b true))) (ha : a.size ≤ 4611686018427387904) (_hb : b.size ≤ 4611686018427387904)
  (hca : canonI (bl a) = false) :
  Calls Tryz.prog 21 #[.string s] w (RatPost w 12) := by
 have FA := Lib.hid (fun W => form_any a W (by omega))
 have RA : Hid (formErr (bl a) = 12) := by show _ = _; rw [formErr, if_neg (by simp [hca])]
 clear ha hca
 go_enter Tryz.func21, Tryz.ntmps21
 go_wp2_with fail
 refine (HS.out _).mono ?_
 rintro e w' ⟨rfl, n, rfl⟩
 go_wp2_with fail
 refine (FA.out _).mono ?_
 rintro e w' ⟨rfl, rfl⟩
 rw [RA.out]
 go_wp2
 go_ret
 exact ⟨rfl, below_drewN (Below.refl _ _) _⟩
set_option maxHeartbeats 1000000 in
set_option maxRecDepth 100000 in
theorem frac_b (s a b : ByteArray) (w : World) (HS : Hid (∀ W, Calls Tryz.prog 57 #[.string s] W (CutPost W a b true))) (ha : a.size ≤ 4611686018427387904) (hb : b.size ≤ 4611686018427387904)
  (hca : canonI (bl a) = true) (hcb : canonI (bl b) = false) :
  Calls Tryz.prog 21 #[.string s] w (RatPost w 12) := by
 have FA := Lib.hid (fun W => form_any a W (by omega))
 have FB := Lib.hid (fun W => form_any b W (by omega))
 have RA : Hid (formErr (bl a) = 0) := by show _ = _; rw [formErr, if_pos hca]
 have RB : Hid (formErr (bl b) = 12) := by show _ = _; rw [formErr, if_neg (by simp [hcb])]
 clear ha hb hca hcb
 go_enter Tryz.func21, Tryz.ntmps21
 go_wp2_with fail
 refine (HS.out _).mono ?_
 rintro e w' ⟨rfl, n, rfl⟩
 go_wp2_with fail
 refine (FA.out _).mono ?_
 rintro e w' ⟨rfl, rfl⟩
 rw [RA.out]
 go_wp2_with fail
 refine (FB.out _).mono ?_
 rintro e w' ⟨rfl, rfl⟩
 rw [RB.out]
 go_wp2
 go_ret
 exact ⟨rfl, below_drewN (Below.refl _ _) _⟩
set_option maxHeartbeats 1000000 in
set_option maxRecDepth 100000 in
theorem frac_neg (s a b : ByteArray) (w : World) (HS : Hid (∀ W, Calls Tryz.prog 57 #[.string s] W (CutPost W a b true))) (ha : a.size ≤ 4611686018427387904) (hb : b.size ≤ 4611686018427387904)
  (hca : canonI (bl a) = true) (hcb : canonI (bl b) = true) (h45 : (bl b).head? = some 45) :
  Calls Tryz.prog 21 #[.string s] w (RatPost w 12) := by
 have FA := Lib.hid (fun W => form_any a W (by omega))
 have FB := Lib.hid (fun W => form_any b W (by omega))
 have RA : Hid (formErr (bl a) = 0) := by show _ = _; rw [formErr, if_pos hca]
 have RB : Hid (formErr (bl b) = 0) := by show _ = _; rw [formErr, if_pos hcb]
 have hp := canonI_pos hcb
 obtain ⟨c, hc⟩ : ∃ c, b[0] = c := ⟨_, rfl⟩
 have h4 : ((c.toNat : Int) == 45) = true := by
  rw [bl_cons b hp, hc] at h45
  have : c = 45 := by simpa using h45
  rw [this]; rfl
 clear ha hca hcb h45
 go_enter Tryz.func21, Tryz.ntmps21
 go_wp2_with fail
 refine (HS.out _).mono ?_
 rintro e w' ⟨rfl, n, rfl⟩
 go_wp2_with fail
 refine (FA.out _).mono ?_
 rintro e w' ⟨rfl, rfl⟩
 rw [RA.out]
 go_wp2_with fail
 refine (FB.out _).mono ?_
 rintro e w' ⟨rfl, rfl⟩
 rw [RB.out]
 go_wp2
 go_ret
 exact ⟨rfl, below_drewN (Below.refl _ _) _⟩
set_option maxHeartbeats 1000000 in
set_option maxRecDepth 100000 in
theorem frac_zero (s a b : ByteArray) (w : World) (HS : Hid (∀ W, Calls Tryz.prog 57 #[.string s] W (CutPost W a b true))) (ha : a.size ≤ 4611686018427387904) (hb : b.size ≤ 4611686018427387904)
  (hca : canonI (bl a) = true) (hcb : canonI (bl b) = true) (hl : bl b = [48]) :
  Calls Tryz.prog 21 #[.string s] w (RatPost w 12) := by
 have FA := Lib.hid (fun W => form_any a W (by omega))
 have FB := Lib.hid (fun W => form_any b W (by omega))
 have RA : Hid (formErr (bl a) = 0) := by show _ = _; rw [formErr, if_pos hca]
 have RB : Hid (formErr (bl b) = 0) := by show _ = _; rw [formErr, if_pos hcb]
 have e := eq_lit hl
 subst e
 have hp : 0 < (⟨#[48]⟩ : ByteArray).size := by decide
 have hc : (⟨#[48]⟩ : ByteArray)[0] = 48 := rfl
 clear ha hca hcb hl
 go_enter Tryz.func21, Tryz.ntmps21
 go_wp2_with fail
 refine (HS.out _).mono ?_
 rintro e w' ⟨rfl, n, rfl⟩
 go_wp2_with fail
 refine (FA.out _).mono ?_
 rintro e w' ⟨rfl, rfl⟩
 rw [RA.out]
 go_wp2_with fail
 refine (FB.out _).mono ?_
 rintro e w' ⟨rfl, rfl⟩
 rw [RB.out]
 go_wp2
 go_ret
 exact ⟨rfl, below_drewN (Below.refl _ _) _⟩
set_option maxHeartbeats 1000000 in
set_option maxRecDepth 100000 in
theorem frac_one (s a b : ByteArray) (w : World) (HS : Hid (∀ W, Calls Tryz.prog 57 #[.string s] W (CutPost W a b true))) (ha : a.size ≤ 4611686018427387904) (hb : b.size ≤ 4611686018427387904)
  (hca : canonI (bl a) = true) (hcb : canonI (bl b) = true) (hl : bl b = [49]) :
  Calls Tryz.prog 21 #[.string s] w (RatPost w 12) := by
 have FA := Lib.hid (fun W => form_any a W (by omega))
 have FB := Lib.hid (fun W => form_any b W (by omega))
 have RA : Hid (formErr (bl a) = 0) := by show _ = _; rw [formErr, if_pos hca]
 have RB : Hid (formErr (bl b) = 0) := by show _ = _; rw [formErr, if_pos hcb]
 have e := eq_lit hl
 subst e
 have hp : 0 < (⟨#[49]⟩ : ByteArray).size := by decide
 have hc : (⟨#[49]⟩ : ByteArray)[0] = 49 := rfl
 clear ha hca hcb hl
 go_enter Tryz.func21, Tryz.ntmps21
 go_wp2_with fail
 refine (HS.out _).mono ?_
 rintro e w' ⟨rfl, n, rfl⟩
 go_wp2_with fail
 refine (FA.out _).mono ?_
 rintro e w' ⟨rfl, rfl⟩
 rw [RA.out]
 go_wp2_with fail
 refine (FB.out _).mono ?_
 rintro e w' ⟨rfl, rfl⟩
 rw [RB.out]
 go_wp2
 go_ret
 exact ⟨rfl, below_drewN (Below.refl _ _) _⟩
set_option maxHeartbeats 1000000 in
set_option maxRecDepth 100000 in
theorem frac_big_a (s a b : ByteArray) (w : World) (HS : Hid (∀ W, Calls Tryz.prog 57 #[.string s] W (CutPost W a b true))) (ha : a.size ≤ 4611686018427387904) (hb : b.size ≤ 4611686018427387904)
  (hca : canonI (bl a) = true) (hcb : canonI (bl b) = true) (h45 : (bl b).head? ≠ some 45) (h0 : bl b ≠ [48]) (h1 : bl b ≠ [49]) (hi : intErr (bl a) ≠ 0) :
  Calls Tryz.prog 21 #[.string s] w (RatPost w 14) := by
 have FA := Lib.hid (fun W => form_any a W (by omega))
 have FB := Lib.hid (fun W => form_any b W (by omega))
 have CA := Lib.hid (fun W => check_any a W (by omega))
 have RA : Hid (formErr (bl a) = 0) := by show _ = _; rw [formErr, if_pos hca]
 have RB : Hid (formErr (bl b) = 0) := by show _ = _; rw [formErr, if_pos hcb]
 have hp := canonI_pos hcb
 obtain ⟨c, hc⟩ : ∃ c, b[0] = c := ⟨_, rfl⟩
 have h4 : ((c.toNat : Int) == 45) = false := by
  rw [bl_cons b hp, hc] at h45
  simpa using fun hh : (c.toNat : Int) = 45 => h45 (by rw [UInt8.toNat_inj.1 (by simpa using (by omega : c.toNat = 45) : c.toNat = (45 : UInt8).toNat)]; rfl)
 have n0 := ne_lit h0
 have n1 := ne_lit h1
 have IA := Lib.hid (intErr_of hca hi)
 clear hca hcb h45 h0 h1 ha hi
 go_enter Tryz.func21, Tryz.ntmps21
 go_wp2_with fail
 refine (HS.out _).mono ?_
 rintro e w' ⟨rfl, n, rfl⟩
 go_wp2_with fail
 refine (FA.out _).mono ?_
 rintro e w' ⟨rfl, rfl⟩
 rw [RA.out]
 go_wp2_with fail
 refine (FB.out _).mono ?_
 rintro e w' ⟨rfl, rfl⟩
 rw [RB.out]
 go_wp2_with fail
 refine (CA.out _).mono ?_
 rintro e w' ⟨rfl, rfl⟩
 rw [IA.out]
 go_wp2
 go_ret
 exact ⟨rfl, below_drewN (Below.refl _ _) _⟩
set_option maxHeartbeats 1000000 in
set_option maxRecDepth 100000 in
theorem frac_big_b (s a b : ByteArray) (w : World) (HS : Hid (∀ W, Calls Tryz.prog 57 #[.string s] W (CutPost W a b true))) (ha : a.size ≤ 4611686018427387904) (hb : b.size ≤ 4611686018427387904)
  (hca : canonI (bl a) = true) (hcb : canonI (bl b) = true) (h45 : (bl b).head? ≠ some 45) (h0 : bl b ≠ [48]) (h1 : bl b ≠ [49]) (hi : intErr (bl a) = 0) (hj : intErr (bl b) ≠ 0) :
  Calls Tryz.prog 21 #[.string s] w (RatPost w 14) := by
 have FA := Lib.hid (fun W => form_any a W (by omega))
 have FB := Lib.hid (fun W => form_any b W (by omega))
 have CA := Lib.hid (fun W => check_any a W (by omega))
 have CB := Lib.hid (fun W => check_any b W (by omega))
 have RA : Hid (formErr (bl a) = 0) := by show _ = _; rw [formErr, if_pos hca]
 have RB : Hid (formErr (bl b) = 0) := by show _ = _; rw [formErr, if_pos hcb]
 have hp := canonI_pos hcb
 obtain ⟨c, hc⟩ : ∃ c, b[0] = c := ⟨_, rfl⟩
 have h4 : ((c.toNat : Int) == 45) = false := by
  rw [bl_cons b hp, hc] at h45
  simpa using fun hh : (c.toNat : Int) = 45 => h45 (by rw [UInt8.toNat_inj.1 (by simpa using (by omega : c.toNat = 45) : c.toNat = (45 : UInt8).toNat)]; rfl)
 have n0 := ne_lit h0
 have n1 := ne_lit h1
 have IA := Lib.hid hi
 have IB := Lib.hid (intErr_of hcb hj)
 clear hca hcb h45 h0 h1 ha hi hj
 go_enter Tryz.func21, Tryz.ntmps21
 go_wp2_with fail
 refine (HS.out _).mono ?_
 rintro e w' ⟨rfl, n, rfl⟩
 go_wp2_with fail
 refine (FA.out _).mono ?_
 rintro e w' ⟨rfl, rfl⟩
 rw [RA.out]
 go_wp2_with fail
 refine (FB.out _).mono ?_
 rintro e w' ⟨rfl, rfl⟩
 rw [RB.out]
 go_wp2_with fail
 refine (CA.out _).mono ?_
 rintro e w' ⟨rfl, rfl⟩
 rw [IA.out]
 go_wp2_with fail
 refine (CB.out _).mono ?_
 rintro e w' ⟨rfl, rfl⟩
 rw [IB.out]
 go_wp2
 go_ret
 exact ⟨rfl, below_drewN (Below.refl _ _) _⟩
set_option maxHeartbeats 1000000 in
set_option maxRecDepth 100000 in
theorem frac_gcd (s a b : ByteArray) (w : World) (HS : Hid (∀ W, Calls Tryz.prog 57 #[.string s] W (CutPost W a b true))) (ha : a.size ≤ 4611686018427387904) (hb : b.size ≤ 4611686018427387904)
  (hca : canonI (bl a) = true) (hcb : canonI (bl b) = true) (h45 : (bl b).head? ≠ some 45) (h0 : bl b ≠ [48]) (h1 : bl b ≠ [49]) (hi : intErr (bl a) = 0) (hj : intErr (bl b) = 0) (hg : Nat.gcd (dval (body (bl a))) (dval (body (bl b))) ≠ 1) :
  Calls Tryz.prog 21 #[.string s] w (RatPost w 12) := by
 have FA := Lib.hid (fun W => form_any a W (by omega))
 have FB := Lib.hid (fun W => form_any b W (by omega))
 have CA := Lib.hid (fun W => check_any a W (by omega))
 have CB := Lib.hid (fun W => check_any b W (by omega))
 have GC := Lib.hid (fun W => gcd_ok a b W (by omega) (by omega) hi hj)
 have RA : Hid (formErr (bl a) = 0) := by show _ = _; rw [formErr, if_pos hca]
 have RB : Hid (formErr (bl b) = 0) := by show _ = _; rw [formErr, if_pos hcb]
 have hp := canonI_pos hcb
 obtain ⟨c, hc⟩ : ∃ c, b[0] = c := ⟨_, rfl⟩
 have h4 : ((c.toNat : Int) == 45) = false := by
  rw [bl_cons b hp, hc] at h45
  simpa using fun hh : (c.toNat : Int) = 45 => h45 (by rw [UInt8.toNat_inj.1 (by simpa using (by omega : c.toNat = 45) : c.toNat = (45 : UInt8).toNat)]; rfl)
 have n0 := ne_lit h0
 have n1 := ne_lit h1
 have IA := Lib.hid hi
 have IB := Lib.hid hj
 have Hg := Lib.hid hg
 clear hca hcb h45 h0 h1 ha hi hj hg
 go_enter Tryz.func21, Tryz.ntmps21
 go_wp2_with fail
 refine (HS.out _).mono ?_
 rintro e w' ⟨rfl, n, rfl⟩
 go_wp2_with fail
 refine (FA.out _).mono ?_
 rintro e w' ⟨rfl, rfl⟩
 rw [RA.out]
 go_wp2_with fail
 refine (FB.out _).mono ?_
 rintro e w' ⟨rfl, rfl⟩
 rw [RB.out]
 go_wp2_with fail
 refine (CA.out _).mono ?_
 rintro e w' ⟨rfl, rfl⟩
 rw [IA.out]
 go_wp2_with fail
 refine (CB.out _).mono ?_
 rintro e w' ⟨rfl, rfl⟩
 rw [IB.out]
 go_wp2_with fail
 refine (GC.out _).mono ?_
 rintro e w' ⟨t, rfl, ht, hbel⟩
 have nt := ne_lit (b := t) (x := 49) (by rw [ht]; exact fun e => Hg.out ((istr_one _).1 e))
 clear ht
 have HB : Hid (Below w.heap.size w w') := (below_drewN (Below.refl _ _) _).trans hbel
 clear hbel
 go_wp2
 go_ret
 exact ⟨rfl, HB.out⟩
set_option maxHeartbeats 1000000 in
set_option maxRecDepth 100000 in
theorem frac_good (s a b : ByteArray) (w : World) (HS : Hid (∀ W, Calls Tryz.prog 57 #[.string s] W (CutPost W a b true))) (ha : a.size ≤ 4611686018427387904) (hb : b.size ≤ 4611686018427387904)
  (hca : canonI (bl a) = true) (hcb : canonI (bl b) = true) (h45 : (bl b).head? ≠ some 45) (h0 : bl b ≠ [48]) (h1 : bl b ≠ [49]) (hi : intErr (bl a) = 0) (hj : intErr (bl b) = 0) (hg : Nat.gcd (dval (body (bl a))) (dval (body (bl b))) = 1) :
  Calls Tryz.prog 21 #[.string s] w (RatPost w 0) := by
 have FA := Lib.hid (fun W => form_any a W (by omega))
 have FB := Lib.hid (fun W => form_any b W (by omega))
 have CA := Lib.hid (fun W => check_any a W (by omega))
 have CB := Lib.hid (fun W => check_any b W (by omega))
 have GC := Lib.hid (fun W => gcd_ok a b W (by omega) (by omega) hi hj)
 have RA : Hid (formErr (bl a) = 0) := by show _ = _; rw [formErr, if_pos hca]
 have RB : Hid (formErr (bl b) = 0) := by show _ = _; rw [formErr, if_pos hcb]
 have hp := canonI_pos hcb
 obtain ⟨c, hc⟩ : ∃ c, b[0] = c := ⟨_, rfl⟩
 have h4 : ((c.toNat : Int) == 45) = false := by
  rw [bl_cons b hp, hc] at h45
  simpa using fun hh : (c.toNat : Int) = 45 => h45 (by rw [UInt8.toNat_inj.1 (by simpa using (by omega : c.toNat = 45) : c.toNat = (45 : UInt8).toNat)]; rfl)
 have n0 := ne_lit h0
 have n1 := ne_lit h1
 have IA := Lib.hid hi
 have IB := Lib.hid hj
 have Hg := Lib.hid hg
 clear hca hcb h45 h0 h1 ha hi hj hg
 go_enter Tryz.func21, Tryz.ntmps21
 go_wp2_with fail
 refine (HS.out _).mono ?_
 rintro e w' ⟨rfl, n, rfl⟩
 go_wp2_with fail
 refine (FA.out _).mono ?_
 rintro e w' ⟨rfl, rfl⟩
 rw [RA.out]
 go_wp2_with fail
 refine (FB.out _).mono ?_
 rintro e w' ⟨rfl, rfl⟩
 rw [RB.out]
 go_wp2_with fail
 refine (CA.out _).mono ?_
 rintro e w' ⟨rfl, rfl⟩
 rw [IA.out]
 go_wp2_with fail
 refine (CB.out _).mono ?_
 rintro e w' ⟨rfl, rfl⟩
 rw [IB.out]
 go_wp2_with fail
 refine (GC.out _).mono ?_
 rintro e w' ⟨t, rfl, ht, hbel⟩
 have et := eq_lit (b := t) (x := 49) (by rw [ht]; exact (istr_one _).2 Hg.out)
 subst et
 clear ht
 have HB : Hid (Below w.heap.size w w') := (below_drewN (Below.refl _ _) _).trans hbel
 clear hbel
 go_wp2
 go_ret
 exact ⟨rfl, HB.out⟩
theorem frac_any (s a b : ByteArray) (w : World) (HS : Hid (∀ W, Calls Tryz.prog 57 #[.string s] W (CutPost W a b true))) (ha : a.size ≤ 4611686018427387904) (hb : b.size ≤ 4611686018427387904) :
  Calls Tryz.prog 21 #[.string s] w (RatPost w (fracErr (bl a) (bl b))) := by
 unfold fracErr
 split
 ·next h => exact frac_a s a b w HS ha hb h
 next h1 =>
 have hca : canonI (bl a) = true := by simpa using h1
 split
 ·next h => exact frac_b s a b w HS ha hb hca h
 next h2 =>
 have hcb : canonI (bl b) = true := by simpa using h2
 split
 ·next h => exact frac_neg s a b w HS ha hb hca hcb h
 next h3 =>
 split
 ·next h => exact frac_zero s a b w HS ha hb hca hcb h
 next h4 =>
 split
 ·next h => exact frac_one s a b w HS ha hb hca hcb h
 next h5 =>
 split
 ·next h => exact frac_big_a s a b w HS ha hb hca hcb h3 h4 h5 h
 next h6 =>
 have hi : intErr (bl a) = 0 := by simpa using h6
 split
 ·next h => exact frac_big_b s a b w HS ha hb hca hcb h3 h4 h5 hi h
 next h7 =>
 have hj : intErr (bl b) = 0 := by simpa using h7
 split
 ·next h => exact frac_good s a b w HS ha hb hca hcb h3 h4 h5 hi hj h
 next h8 => exact frac_gcd s a b w HS ha hb hca hcb h3 h4 h5 hi hj h8
theorem rat_any (s : ByteArray) (w : World) (hs : s.size ≤ 4611686018427387904) :
  Calls Tryz.prog 21 #[.string s] w (RatPost w (ratErr s)) := by
 rcases slash_cases s with h | ⟨o, h, ho⟩
 ·exact rat_none s w hs h
 ·have e : ratErr s = fracErr (bl (s.extract 0 o)) (bl (s.extract (o + 1) s.size)) := by
   rw [ratErr, if_neg (by rw [h]; omega), h, bl_drop, bl_extract]
   rfl
  rw [e]
  refine frac_any s _ _ w (Lib.hid (fun W => split_some s W o h ho hs)) ?_ ?_
  ·rw [← bl_length, bl_extract, List.length_take]; omega
  ·rw [← bl_length, bl_drop, List.length_drop, bl_length]; omega
end Go.Proofs.YtknpnhodpgajbaaGreatDoor

namespace Go.Proofs.YtknpnhodpgajbaaGreatDoor
open Go.RowKit
structure Fx where
 nm : ByteArray
 d : Int
 vl : ByteArray
structure Ch where
 pt : ByteArray
 nm : ByteArray
 d : Int
 first : Bool
def Fx.val (f : Fx) : Value := fxV f.nm f.d f.vl
def Ch.val (c : Ch) : Value := chV c.pt c.nm c.d c.first
def Fx.cells (f : Fx) : List Value := [.string f.nm, .int .i64 f.d, .string f.vl]
def Ch.cells (c : Ch) : List Value := [.string c.pt, .string c.nm, .int .i64 c.d, .bool c.first]
theorem Rd.fx {w : World} {ad : Option Addr} {l : List Fx} (h : Rd Fx.cells 3 w ad l) {j : Nat} {f : Fx} (hj : l[j]? = some f) :
  ∃ b off, ad = some ⟨b, off, none⟩ ∧ w.cell? ⟨b, off + j * 3, none⟩ = some (.string f.nm) ∧ w.cell? ⟨b, off + j * 3 + 1, none⟩ = some (.int .i64 f.d) ∧ w.cell? ⟨b, off + j * 3 + 2, none⟩ = some (.string f.vl) := by
 obtain ⟨b, off, rfl, h3⟩ := h j f hj
 exact ⟨b, off, rfl, h3 0 _ rfl, h3 1 _ rfl, h3 2 _ rfl⟩
theorem Rd.ch {w : World} {ad : Option Addr} {l : List Ch} (h : Rd Ch.cells 4 w ad l) {j : Nat} {f : Ch} (hj : l[j]? = some f) :
  ∃ b off, ad = some ⟨b, off, none⟩ ∧ w.cell? ⟨b, off + j * 4, none⟩ = some (.string f.pt) ∧ w.cell? ⟨b, off + j * 4 + 1, none⟩ = some (.string f.nm) ∧ w.cell? ⟨b, off + j * 4 + 2, none⟩ = some (.int .i64 f.d) ∧ w.cell? ⟨b, off + j * 4 + 3, none⟩ = some (.bool f.first) := by
 obtain ⟨b, off, rfl, h3⟩ := h j f hj
 exact ⟨b, off, rfl, h3 0 _ rfl, h3 1 _ rfl, h3 2 _ rfl, h3 3 _ rfl⟩
def fxBad (f : Fx) : Bool := !(isNm (bl f.nm) && (isDay f.d && decide (ratErr f.vl = 0)))
def chBad (c : Ch) : Bool := !(isNm (bl c.pt) && (isNm (bl c.nm) && isDay c.d))
set_option maxHeartbeats 1000000 in
set_option maxRecDepth 100000 in
theorem fixCl_any (f : Fx) (w : World) (h1 : f.nm.size ≤ 1100000) (h2 : f.vl.size ≤ 1100000) :
  Calls Tryz.prog 66 #[f.val] w fun e w' => e = .returned (.bool (fxBad f)) ∧ Below w.heap.size w w' := by
 have HN := Lib.hid (fun W => name_any f.nm W (by omega))
 have HW := Lib.hid (fun W => within_any f.d W)
 have HR := Lib.hid (fun W => rat_any f.vl W (by omega))
 unfold Fx.val fxV fxBad
 obtain ⟨nm, d, vl⟩ := f
 dsimp only at HN HW HR ⊢
 clear h1 h2
 generalize isNm (bl nm) = a at HN ⊢
 generalize isDay d = b at HW ⊢
 generalize ratErr vl = E at HR ⊢
 cases a with
 | false =>
  go_enter Tryz.func66, Tryz.ntmps66
  go_wp2_with (go_at_call 67; refine (HN.out _).mono ?_; rintro e w' ⟨rfl, rfl⟩)
  go_ret
  exact ⟨rfl, below_a1 _ _⟩
 | true =>
  cases b with
  | false =>
   go_enter Tryz.func66, Tryz.ntmps66
   go_wp2_with (first | (go_at_call 67; refine (HN.out _).mono ?_; rintro e w' ⟨rfl, rfl⟩) | (go_at_call 68; refine (HW.out _).mono ?_; rintro e w' ⟨rfl, rfl⟩))
   go_ret
   exact ⟨rfl, below_a1 _ _⟩
  | true =>
   have HE : Hid (decide (E = 0) = !(E != 0)) := by show _ = _; rw [Bool.eq_iff_iff]; simp
   go_enter Tryz.func66, Tryz.ntmps66
   go_wp2_with (first | (go_at_call 67; refine (HN.out _).mono ?_; rintro e w' ⟨rfl, rfl⟩) | (go_at_call 68; refine (HW.out _).mono ?_; rintro e w' ⟨rfl, rfl⟩) | (go_at_call 21; refine (HR.out _).mono ?_; rintro e w1 ⟨rfl, hb1⟩))
   go_ret
   refine ⟨ret_bool' ?_, (below_a1 _ _).trans (hb1.mono (by simp))⟩
   rw [HE.out]; simp
set_option maxHeartbeats 1000000 in
set_option maxRecDepth 100000 in
theorem pickCl_any (c : Ch) (w : World) (h1 : c.pt.size ≤ 1100000) (h2 : c.nm.size ≤ 1100000) :
  Calls Tryz.prog 69 #[c.val] w fun e w' => e = .returned (.bool (chBad c)) ∧ Below w.heap.size w w' := by
 have HP := Lib.hid (fun W => name_any c.pt W (by omega))
 have HN := Lib.hid (fun W => name_any c.nm W (by omega))
 have HW := Lib.hid (fun W => within_any c.d W)
 unfold Ch.val chV chBad
 obtain ⟨pt, nm, d, first⟩ := c
 dsimp only at HN HW HP ⊢
 clear h1 h2
 generalize isNm (bl pt) = a0 at HP ⊢
 generalize isNm (bl nm) = a at HN ⊢
 generalize isDay d = b at HW ⊢
 cases a0 with
 | false =>
  go_enter Tryz.func69, Tryz.ntmps69
  go_wp2_with (go_at_call 67; refine (HP.out _).mono ?_; rintro e w' ⟨rfl, rfl⟩)
  go_ret
  exact ⟨rfl, below_a1 _ _⟩
 | true =>
  cases a with
  | false =>
   go_enter Tryz.func69, Tryz.ntmps69
   go_wp2_with fail
   refine (HP.out _).mono ?_
   rintro e w' ⟨rfl, rfl⟩
   go_wp2_with fail
   refine (HN.out _).mono ?_
   rintro e w' ⟨rfl, rfl⟩
   go_wp2
   go_ret
   exact ⟨rfl, below_a1 _ _⟩
  | true =>
   go_enter Tryz.func69, Tryz.ntmps69
   go_wp2_with fail
   refine (HP.out _).mono ?_
   rintro e w' ⟨rfl, rfl⟩
   go_wp2_with fail
   refine (HN.out _).mono ?_
   rintro e w' ⟨rfl, rfl⟩
   go_wp2_with (go_at_call 68; refine (HW.out _).mono ?_; rintro e w' ⟨rfl, rfl⟩)
   go_ret
   refine ⟨ret_bool' ?_, below_a1 _ _⟩
   simp
end Go.Proofs.YtknpnhodpgajbaaGreatDoor

namespace Go.Proofs.YtknpnhodpgajbaaGreatDoor
open Go.RowKit
def idxR : Option Nat → Int
 | some k => (k : Int)
 | none => -1
theorem idxR_any {α : Type} (p : α → Bool) (l : List α) : decide ((0 : Int) ≤ idxR (l.findIdx? p)) = l.any p := by
 rw [Bool.eq_iff_iff, decide_eq_true_eq, List.any_eq_true]
 constructor
 ·intro h
  cases hf : l.findIdx? p with
  | none => rw [hf] at h; simp [idxR] at h
  | some k =>
   obtain ⟨hk, h1, _⟩ := List.findIdx?_eq_some_iff_getElem.1 hf
   exact ⟨_, List.getElem_mem hk, h1⟩
 ·intro ⟨x, hx, hp⟩
  cases hf : l.findIdx? p with
  | none => exact absurd hp (by simpa using List.findIdx?_eq_none_iff.1 hf x hx)
  | some k => simp [idxR]
theorem findIdx_some {α : Type} {p : α → Bool} {l : List α} {k : Nat} {x : α} (hk : l[k]? = some x) (hp : p x = true) (ha : ∀ y ∈ l.take k, p y = false) : l.findIdx? p = some k := by
 obtain ⟨hlt, rfl⟩ := List.getElem?_eq_some_iff.1 hk
 refine List.findIdx?_eq_some_iff_getElem.2 ⟨hlt, hp, fun j hj => ?_⟩
 have := ha l[j] (List.mem_take_iff_getElem.2 ⟨j, by omega, rfl⟩)
 simpa using this
theorem findIdx_none {α : Type} {p : α → Bool} {l : List α} (ha : ∀ y ∈ l, p y = false) : l.findIdx? p = none := List.findIdx?_eq_none_iff.2 ha
theorem all_take_succ {α : Type} {p : α → Bool} {l : List α} {k : Nat} {x : α} (hk : l[k]? = some x) (hp : p x = false) (ha : ∀ y ∈ l.take k, p y = false) : ∀ y ∈ l.take (k + 1), p y = false := by
 intro y hy
 rw [List.take_add_one, hk] at hy
 rcases List.mem_append.1 hy with h | h
 ·exact ha y h
 ·simp at h; subst h; exact hp
def incB {α : Type} (lt : α → α → Bool) : List α → Bool
 | x :: y :: l => lt x y && incB lt (y :: l)
 | _ => true
theorem incB_take {α : Type} {lt : α → α → Bool} : ∀ {l : List α} {k : Nat}, incB lt l = true → incB lt (l.take k) = true
 | [], k, _ => by cases k <;> rfl
 | [x], k, _ => by cases k with | zero => rfl | succ k => cases k <;> rfl
 | x :: y :: l, 0, _ => rfl
 | x :: y :: l, 1, _ => rfl
 | x :: y :: l, k + 2, h => by
  rw [incB, Bool.and_eq_true] at h
  show (lt x y && incB lt ((y :: l).take (k + 1))) = true
  rw [h.1, incB_take h.2]; rfl
theorem incB_snoc {α : Type} {lt : α → α → Bool} : ∀ {l : List α} {k : Nat} {x y : α}, l[k]? = some x → l[k + 1]? = some y → incB lt (l.take (k + 2)) = (incB lt (l.take (k + 1)) && lt x y)
 | [], k, x, y, h, _ => by simp at h
 | [a], 0, x, y, h, h2 => by simp at h2
 | [a], k + 1, x, y, h, _ => by simp at h
 | a :: b :: l, 0, x, y, h, h2 => by
  simp at h h2; subst h h2
  show (lt a b && incB lt [b]) = (incB lt [a] && lt a b)
  simp [incB]
 | a :: b :: l, k + 1, x, y, h, h2 => by
  show (lt a b && incB lt ((b :: l).take (k + 2))) = ((lt a b && incB lt ((b :: l).take (k + 1))) && lt x y)
  rw [incB_snoc (l := b :: l) (k := k) (by simpa using h) (by simpa using h2), Bool.and_assoc]
theorem incB_le_one {α : Type} {lt : α → α → Bool} {l : List α} (h : l.length ≤ 1) : incB lt l = true := by
 match l, h with
 | [], _ => rfl
 | [_], _ => rfl
theorem incB_false_of_take {α : Type} {lt : α → α → Bool} {l : List α} {k : Nat} (h : incB lt (l.take k) = false) : incB lt l = false := by
 rw [Bool.eq_false_iff] at h ⊢
 exact fun hh => h (incB_take hh)
def Fx.lt (a b : Fx) : Bool := fxLt a.nm a.d b.nm b.d
def Ch.lt (a b : Ch) : Bool := chLt a.pt a.nm a.d b.pt b.nm b.d
def Fx.small (f : Fx) : Prop := f.nm.size ≤ 1100000 ∧ f.vl.size ≤ 1100000
def Ch.small (c : Ch) : Prop := c.pt.size ≤ 1100000 ∧ c.nm.size ≤ 1100000
set_option maxHeartbeats 1000000 in
set_option maxRecDepth 100000 in
theorem indexFx_any (l : List Fx) (ad : Option Addr) (cap : Nat) (w : World) (hn : l.length ≤ 1100000) (hr : Rd Fx.cells 3 w ad l) (hsm : ∀ f ∈ l, f.small) :
  Calls Tryz.prog 128 #[.slice ad l.length cap, .func (.func 66) #[] #[]] w fun e w' => e = .returned (.int .i64 (idxR (l.findIdx? fxBad))) ∧ Below w.heap.size w w' := by
 have HS := Lib.hid hsm
 have HD := Lib.hid hr
 clear hsm hr
 go_enter Tryz.func128, Tryz.ntmps128
 go_wp2
 go_loopw [8] (fun i wr => ∃ k : Nat, k ≤ l.length ∧ i = .int .i64 k ∧ Hid (∀ y ∈ l.take k, fxBad y = false) ∧ Below w.heap.size w wr) (fun i _ => l.length - (intOf i).toNat)
 case atStart => exact ⟨0, Nat.zero_le _, rfl, Lib.hid (by simp), Below.refl _ _⟩
 case round =>
  obtain ⟨k, hk, rfl, Hall, hbel⟩ := hrel
  by_cases hlt : k < l.length
  ·obtain ⟨f, hf⟩ : ∃ f, l[k]? = some f := ⟨_, List.getElem?_eq_getElem hlt⟩
   have hfm : f ∈ l := List.mem_of_getElem? hf
   have HRf : Hid (∃ b off, ad = some ⟨b, off, none⟩ ∧ _) := ((HD.out.below hbel).fx hf)
   have HC := Lib.hid (fun W => fixCl_any f W (HS.out f hfm).1 (HS.out f hfm).2)
   have HF := Lib.hid hf
   clear hf hfm
   obtain ⟨b, off, rfl, hc1, hc2, hc3⟩ := HRf
   have hsz := hbel.size
   simp only [Fx.val, fxV] at HC
   cases hp : fxBad f with
   | true =>
    have HR : Hid (l.findIdx? fxBad = some k) := findIdx_some HF.out hp Hall.out
    rw [hp] at HC
    clear hp
    go_wp2_with (go_at_call 66; refine (HC.out _).mono ?_; rintro e w1 ⟨rfl, hb1⟩)
    go_ret
    exact ⟨by rw [HR.out]; rfl, hbel.trans (hb1.mono hsz)⟩
   | false =>
    have Hall2 : Hid (∀ y ∈ l.take (k + 1), fxBad y = false) := all_take_succ HF.out hp Hall.out
    rw [hp] at HC
    clear hp
    go_wp2_with (go_at_call 66; refine (HC.out _).mono ?_; rintro e w1 ⟨rfl, hb1⟩)
    go_roundw
    case rel => exact ⟨k + 1, by omega, by go_num, Hall2, hbel.trans (hb1.mono hsz)⟩
    case measure => simp [intOf]; omega
  ·obtain rfl : k = l.length := by omega
   have HR : Hid (l.findIdx? fxBad = none) := findIdx_none (by have := Hall.out; rwa [List.take_length] at this)
   go_wp2
   go_ret
   exact ⟨by rw [HR.out]; rfl, hbel⟩
set_option maxRecDepth 100000 in
theorem containsFx_any (l : List Fx) (ad : Option Addr) (cap : Nat) (w : World) (hn : l.length ≤ 1100000) (hr : Rd Fx.cells 3 w ad l) (hsm : ∀ f ∈ l, f.small) :
  Calls Tryz.prog 70 #[.slice ad l.length cap, .func (.func 66) #[] #[]] w fun e w' => e = .returned (.bool (l.any fxBad)) ∧ Below w.heap.size w w' := by
 have HI := Lib.hid (indexFx_any l ad cap w hn hr hsm)
 have HE := Lib.hid (idxR_any fxBad l)
 clear hsm hr
 go_enter Tryz.func70, Tryz.ntmps70
 go_wp2_with (go_at_call 128; refine HI.out.mono ?_; rintro e w1 ⟨rfl, hb1⟩)
 go_ret
 exact ⟨ret_bool' HE.out, hb1⟩
set_option maxHeartbeats 1000000 in
set_option maxRecDepth 100000 in
theorem orderedFx_any (l : List Fx) (ad : Option Addr) (cap : Nat) (w : World) (hn : l.length ≤ 1100000) (hr : Rd Fx.cells 3 w ad l) :
  Calls Tryz.prog 72 #[.slice ad l.length cap, .func (.func 73) #[] #[]] w fun e w' => e = .returned (.bool (incB Fx.lt l)) ∧ Below w.heap.size w w' := by
 have HD := Lib.hid hr
 clear hr
 go_enter Tryz.func72, Tryz.ntmps72
 go_wp2
 go_loopw [5] (fun i wr => ∃ k : Nat, (k + 1 ≤ l.length ∨ k = 0) ∧ i = .int .i64 ((k : Int) + 1) ∧ Hid (incB Fx.lt (l.take (k + 1)) = true) ∧ Below w.heap.size w wr) (fun i _ => l.length + 1 - (intOf i).toNat)
 case atStart => exact ⟨0, .inr rfl, by go_num, incB_le_one (by rw [List.length_take]; omega), Below.refl _ _⟩
 case round =>
  obtain ⟨k, hk, rfl, Hall, hbel⟩ := hrel
  by_cases hlt : k + 1 < l.length
  ·obtain ⟨f, hf⟩ : ∃ f, l[k]? = some f := ⟨_, List.getElem?_eq_getElem (by omega)⟩
   obtain ⟨g, hg⟩ : ∃ g, l[k + 1]? = some g := ⟨_, List.getElem?_eq_getElem hlt⟩
   have HRf := ((HD.out.below hbel).fx hf)
   have HRg := ((HD.out.below hbel).fx hg)
   have HI := Lib.hid (incB_snoc (lt := Fx.lt) hf hg)
   clear hf hg
   obtain ⟨b, off, rfl, hc1, hc2, hc3⟩ := HRf
   obtain ⟨b', off', he, hd1, hd2, hd3⟩ := HRg
   obtain ⟨rfl, rfl⟩ : b = b' ∧ off = off' := by simpa using he
   clear he
   have hsz := hbel.size
   have HC : Hid (∀ W, Calls Tryz.prog 73 #[f.val, g.val] W fun e w' => e = .returned (.int .i64 (fxCmp f.nm f.d g.nm g.d)) ∧ Below W.heap.size W w') := fun W => fixings_any _ _ _ _ _ _ _
   simp only [Fx.val, fxV] at HC
   have HL := Lib.hid (fxCmp_lt f.nm g.nm f.d g.d)
   have e1 : (k : Int) + 1 - 1 = (k : Int) := by omega
   have e2 : IntKind.i64.wrap ((k : Int) + 1 - 1) = (k : Int) := by rw [IntWalk.i64_in _ (by omega)]; omega
   have e3 : IntKind.i64.wrap (k : Int) = (k : Int) := IntWalk.i64_in _ (by omega)
   have e4 : ((k : Int) + 1).toNat = k + 1 := by omega
   have hk2 : (0 : Int) ≤ (k : Int) + 1 := by omega
   have hk3 : (k : Int) + 1 < (l.length : Int) := by omega
   have hk0 : (0 : Int) ≤ (k : Int) := by omega
   have hbl : b < wr.heap.size := World.block_lt_of_cell? wr _ hc1
   have hk1 : (k : Int) < (l.length : Int) := by omega
   obtain ⟨C, hC⟩ : ∃ C, fxCmp f.nm f.d g.nm g.d = C := ⟨_, rfl⟩
   rw [hC] at HC HL
   clear hC
   cases hp : Fx.lt f g with
   | true =>
    have Hall2 : Hid (incB Fx.lt (l.take (k + 1 + 1)) = true) := by show _ = _; rw [HI.out, Hall.out, hp]; rfl
    have t1 : decide ((0 : Int) ≤ C) = false := by
     have h := HL.out
     rw [show fxLt f.nm f.d g.nm g.d = true from hp, decide_eq_true_eq] at h
     rw [decide_eq_false_iff_not]; omega
    have Hall2 : Hid (incB Fx.lt (l.take (k + 1 + 1)) = true) := by show _ = _; rw [HI.out, Hall.out, hp]; rfl
    clear hp
    go_wp2
    go_region_held3 (fun w' => w'.cell? ⟨b, off + k * 3, none⟩ = some (.string f.nm) ∧ w'.cell? ⟨b, off + k * 3 + 1, none⟩ = some (.int .i64 f.d) ∧ w'.cell? ⟨b, off + k * 3 + 2, none⟩ = some (.string f.vl) ∧ w'.cell? ⟨b, off + (k + 1) * 3, none⟩ = some (.string g.nm) ∧ w'.cell? ⟨b, off + (k + 1) * 3 + 1, none⟩ = some (.int .i64 g.d) ∧ w'.cell? ⟨b, off + (k + 1) * 3 + 2, none⟩ = some (.string g.vl)) (first | go_keep | (simp only [kc]; go_keep))
     (first | (go_at_call 73; refine (HC.out _).mono ?_; rintro e w1 ⟨rfl, hb1⟩; have kc := fun o => hb1.cell (p := ⟨b, o, none⟩) hbl))
    go_wp2
    go_roundw
    case rel =>
     exact ⟨k + 1, .inl (by omega), by go_num, Hall2, hbel.drew.trans (hb1.mono hsz)⟩
    case measure => simp [intOf]; omega
   | false =>
    have HR : Hid (incB Fx.lt l = false) := incB_false_of_take (k := k + 1 + 1) (by rw [HI.out, Hall.out, hp]; rfl)
    have t1 : decide ((0 : Int) ≤ C) = true := by
     have h := HL.out
     rw [show fxLt f.nm f.d g.nm g.d = false from hp, decide_eq_false_iff_not] at h
     rw [decide_eq_true_eq]; omega
    clear hp
    go_wp2
    go_region_held3 (fun w' => w'.cell? ⟨b, off + k * 3, none⟩ = some (.string f.nm) ∧ w'.cell? ⟨b, off + k * 3 + 1, none⟩ = some (.int .i64 f.d) ∧ w'.cell? ⟨b, off + k * 3 + 2, none⟩ = some (.string f.vl) ∧ w'.cell? ⟨b, off + (k + 1) * 3, none⟩ = some (.string g.nm) ∧ w'.cell? ⟨b, off + (k + 1) * 3 + 1, none⟩ = some (.int .i64 g.d) ∧ w'.cell? ⟨b, off + (k + 1) * 3 + 2, none⟩ = some (.string g.vl)) (first | go_keep | (simp only [kc]; go_keep))
     (first | (go_at_call 73; refine (HC.out _).mono ?_; rintro e w1 ⟨rfl, hb1⟩; have kc := fun o => hb1.cell (p := ⟨b, o, none⟩) hbl))
    go_wp2
    go_ret
    exact ⟨ret_bool' HR.out.symm, hbel.drew.trans (hb1.mono hsz)⟩
  ·have HR : Hid (incB Fx.lt l = true) := by
    show _ = _
    have := Hall.out
    rwa [List.take_of_length_le (by omega)] at this
   have t1 : ¬ ((k : Int) + 1 < (l.length : Int)) := by omega
   go_wp2
   go_ret
   exact ⟨ret_bool' HR.out.symm, hbel⟩
set_option maxHeartbeats 1000000 in
set_option maxRecDepth 100000 in
theorem indexCh_any (l : List Ch) (ad : Option Addr) (cap : Nat) (w : World) (hn : l.length ≤ 1100000) (hr : Rd Ch.cells 4 w ad l) (hsm : ∀ f ∈ l, f.small) :
  Calls Tryz.prog 129 #[.slice ad l.length cap, .func (.func 69) #[] #[]] w fun e w' => e = .returned (.int .i64 (idxR (l.findIdx? chBad))) ∧ Below w.heap.size w w' := by
 have HS := Lib.hid hsm
 have HD := Lib.hid hr
 clear hsm hr
 go_enter Tryz.func129, Tryz.ntmps129
 go_wp2
 go_loopw [8] (fun i wr => ∃ k : Nat, k ≤ l.length ∧ i = .int .i64 k ∧ Hid (∀ y ∈ l.take k, chBad y = false) ∧ Below w.heap.size w wr) (fun i _ => l.length - (intOf i).toNat)
 case atStart => exact ⟨0, Nat.zero_le _, rfl, Lib.hid (by simp), Below.refl _ _⟩
 case round =>
  obtain ⟨k, hk, rfl, Hall, hbel⟩ := hrel
  by_cases hlt : k < l.length
  ·obtain ⟨f, hf⟩ : ∃ f, l[k]? = some f := ⟨_, List.getElem?_eq_getElem hlt⟩
   have hfm : f ∈ l := List.mem_of_getElem? hf
   have HRf : Hid (∃ b off, ad = some ⟨b, off, none⟩ ∧ _) := ((HD.out.below hbel).ch hf)
   have HC := Lib.hid (fun W => pickCl_any f W (HS.out f hfm).1 (HS.out f hfm).2)
   have HF := Lib.hid hf
   clear hf hfm
   obtain ⟨b, off, rfl, hc1, hc2, hc3, hc4⟩ := HRf
   have hsz := hbel.size
   simp only [Ch.val, chV] at HC
   cases hp : chBad f with
   | true =>
    have HR : Hid (l.findIdx? chBad = some k) := findIdx_some HF.out hp Hall.out
    rw [hp] at HC
    clear hp
    go_wp2_with (go_at_call 69; refine (HC.out _).mono ?_; rintro e w1 ⟨rfl, hb1⟩)
    go_ret
    exact ⟨by rw [HR.out]; rfl, hbel.trans (hb1.mono hsz)⟩
   | false =>
    have Hall2 : Hid (∀ y ∈ l.take (k + 1), chBad y = false) := all_take_succ HF.out hp Hall.out
    rw [hp] at HC
    clear hp
    go_wp2_with (go_at_call 69; refine (HC.out _).mono ?_; rintro e w1 ⟨rfl, hb1⟩)
    go_roundw
    case rel => exact ⟨k + 1, by omega, by go_num, Hall2, hbel.trans (hb1.mono hsz)⟩
    case measure => simp [intOf]; omega
  ·obtain rfl : k = l.length := by omega
   have HR : Hid (l.findIdx? chBad = none) := findIdx_none (by have := Hall.out; rwa [List.take_length] at this)
   go_wp2
   go_ret
   exact ⟨by rw [HR.out]; rfl, hbel⟩
set_option maxRecDepth 100000 in
theorem containsCh_any (l : List Ch) (ad : Option Addr) (cap : Nat) (w : World) (hn : l.length ≤ 1100000) (hr : Rd Ch.cells 4 w ad l) (hsm : ∀ f ∈ l, f.small) :
  Calls Tryz.prog 71 #[.slice ad l.length cap, .func (.func 69) #[] #[]] w fun e w' => e = .returned (.bool (l.any chBad)) ∧ Below w.heap.size w w' := by
 have HI := Lib.hid (indexCh_any l ad cap w hn hr hsm)
 have HE := Lib.hid (idxR_any chBad l)
 clear hsm hr
 go_enter Tryz.func71, Tryz.ntmps71
 go_wp2_with (go_at_call 129; refine HI.out.mono ?_; rintro e w1 ⟨rfl, hb1⟩)
 go_ret
 exact ⟨ret_bool' HE.out, hb1⟩
set_option maxHeartbeats 1000000 in
set_option maxRecDepth 100000 in
theorem orderedCh_any (l : List Ch) (ad : Option Addr) (cap : Nat) (w : World) (hn : l.length ≤ 1100000) (hr : Rd Ch.cells 4 w ad l) :
  Calls Tryz.prog 74 #[.slice ad l.length cap, .func (.func 75) #[] #[]] w fun e w' => e = .returned (.bool (incB Ch.lt l)) ∧ Below w.heap.size w w' := by
 have HD := Lib.hid hr
 clear hr
 go_enter Tryz.func74, Tryz.ntmps74
 go_wp2
 go_loopw [5] (fun i wr => ∃ k : Nat, (k + 1 ≤ l.length ∨ k = 0) ∧ i = .int .i64 ((k : Int) + 1) ∧ Hid (incB Ch.lt (l.take (k + 1)) = true) ∧ Below w.heap.size w wr) (fun i _ => l.length + 1 - (intOf i).toNat)
 case atStart => exact ⟨0, .inr rfl, by go_num, incB_le_one (by rw [List.length_take]; omega), Below.refl _ _⟩
 case round =>
  obtain ⟨k, hk, rfl, Hall, hbel⟩ := hrel
  by_cases hlt : k + 1 < l.length
  ·obtain ⟨f, hf⟩ : ∃ f, l[k]? = some f := ⟨_, List.getElem?_eq_getElem (by omega)⟩
   obtain ⟨g, hg⟩ : ∃ g, l[k + 1]? = some g := ⟨_, List.getElem?_eq_getElem hlt⟩
   have HRf := ((HD.out.below hbel).ch hf)
   have HRg := ((HD.out.below hbel).ch hg)
   have HI := Lib.hid (incB_snoc (lt := Ch.lt) hf hg)
   clear hf hg
   obtain ⟨b, off, rfl, hc1, hc2, hc3, hc4⟩ := HRf
   obtain ⟨b', off', he, hd1, hd2, hd3, hd4⟩ := HRg
   obtain ⟨rfl, rfl⟩ : b = b' ∧ off = off' := by simpa using he
   clear he
   have hsz := hbel.size
   have HC : Hid (∀ W, Calls Tryz.prog 75 #[f.val, g.val] W fun e w' => e = .returned (.int .i64 (chCmp f.pt f.nm f.d g.pt g.nm g.d)) ∧ Below W.heap.size W w') := fun W => choices_any _ _ _ _ _ _ _ _ _
   simp only [Ch.val, chV] at HC
   have HL := Lib.hid (chCmp_lt f.pt g.pt f.nm g.nm f.d g.d)
   have e1 : (k : Int) + 1 - 1 = (k : Int) := by omega
   have e2 : IntKind.i64.wrap ((k : Int) + 1 - 1) = (k : Int) := by rw [IntWalk.i64_in _ (by omega)]; omega
   have e3 : IntKind.i64.wrap (k : Int) = (k : Int) := IntWalk.i64_in _ (by omega)
   have e4 : ((k : Int) + 1).toNat = k + 1 := by omega
   have hk2 : (0 : Int) ≤ (k : Int) + 1 := by omega
   have hk3 : (k : Int) + 1 < (l.length : Int) := by omega
   have hk0 : (0 : Int) ≤ (k : Int) := by omega
   have hbl : b < wr.heap.size := World.block_lt_of_cell? wr _ hc1
   have hk1 : (k : Int) < (l.length : Int) := by omega
   obtain ⟨C, hC⟩ : ∃ C, chCmp f.pt f.nm f.d g.pt g.nm g.d = C := ⟨_, rfl⟩
   rw [hC] at HC HL
   clear hC
   cases hp : Ch.lt f g with
   | true =>
    have Hall2 : Hid (incB Ch.lt (l.take (k + 1 + 1)) = true) := by show _ = _; rw [HI.out, Hall.out, hp]; rfl
    have t1 : decide ((0 : Int) ≤ C) = false := by
     have h := HL.out
     rw [show chLt f.pt f.nm f.d g.pt g.nm g.d = true from hp, decide_eq_true_eq] at h
     rw [decide_eq_false_iff_not]; omega
    have Hall2 : Hid (incB Ch.lt (l.take (k + 1 + 1)) = true) := by show _ = _; rw [HI.out, Hall.out, hp]; rfl
    clear hp
    go_wp2
    go_region_held3 (fun w' => w'.cell? ⟨b, off + k * 4, none⟩ = some (.string f.pt) ∧ w'.cell? ⟨b, off + k * 4 + 1, none⟩ = some (.string f.nm) ∧ w'.cell? ⟨b, off + k * 4 + 2, none⟩ = some (.int .i64 f.d) ∧ w'.cell? ⟨b, off + k * 4 + 3, none⟩ = some (.bool f.first) ∧ w'.cell? ⟨b, off + (k + 1) * 4, none⟩ = some (.string g.pt) ∧ w'.cell? ⟨b, off + (k + 1) * 4 + 1, none⟩ = some (.string g.nm) ∧ w'.cell? ⟨b, off + (k + 1) * 4 + 2, none⟩ = some (.int .i64 g.d) ∧ w'.cell? ⟨b, off + (k + 1) * 4 + 3, none⟩ = some (.bool g.first)) (first | go_keep | (simp only [kc]; go_keep))
     (first | (go_at_call 75; refine (HC.out _).mono ?_; rintro e w1 ⟨rfl, hb1⟩; have kc := fun o => hb1.cell (p := ⟨b, o, none⟩) hbl))
    go_wp2
    go_roundw
    case rel =>
     exact ⟨k + 1, .inl (by omega), by go_num, Hall2, hbel.drew.trans (hb1.mono hsz)⟩
    case measure => simp [intOf]; omega
   | false =>
    have HR : Hid (incB Ch.lt l = false) := incB_false_of_take (k := k + 1 + 1) (by rw [HI.out, Hall.out, hp]; rfl)
    have t1 : decide ((0 : Int) ≤ C) = true := by
     have h := HL.out
     rw [show chLt f.pt f.nm f.d g.pt g.nm g.d = false from hp, decide_eq_false_iff_not] at h
     rw [decide_eq_true_eq]; omega
    clear hp
    go_wp2
    go_region_held3 (fun w' => w'.cell? ⟨b, off + k * 4, none⟩ = some (.string f.pt) ∧ w'.cell? ⟨b, off + k * 4 + 1, none⟩ = some (.string f.nm) ∧ w'.cell? ⟨b, off + k * 4 + 2, none⟩ = some (.int .i64 f.d) ∧ w'.cell? ⟨b, off + k * 4 + 3, none⟩ = some (.bool f.first) ∧ w'.cell? ⟨b, off + (k + 1) * 4, none⟩ = some (.string g.pt) ∧ w'.cell? ⟨b, off + (k + 1) * 4 + 1, none⟩ = some (.string g.nm) ∧ w'.cell? ⟨b, off + (k + 1) * 4 + 2, none⟩ = some (.int .i64 g.d) ∧ w'.cell? ⟨b, off + (k + 1) * 4 + 3, none⟩ = some (.bool g.first)) (first | go_keep | (simp only [kc]; go_keep))
     (first | (go_at_call 75; refine (HC.out _).mono ?_; rintro e w1 ⟨rfl, hb1⟩; have kc := fun o => hb1.cell (p := ⟨b, o, none⟩) hbl))
    go_wp2
    go_ret
    exact ⟨ret_bool' HR.out.symm, hbel.drew.trans (hb1.mono hsz)⟩
  ·have HR : Hid (incB Ch.lt l = true) := by
    show _ = _
    have := Hall.out
    rwa [List.take_of_length_le (by omega)] at this
   have t1 : ¬ ((k : Int) + 1 < (l.length : Int)) := by omega
   go_wp2
   go_ret
   exact ⟨ret_bool' HR.out.symm, hbel⟩
end Go.Proofs.YtknpnhodpgajbaaGreatDoor

namespace Go.Proofs.YtknpnhodpgajbaaGreatDoor
open Go.RowKit
def Ch.fits (f : Ch) : Prop := (Lit.int .i64 f.d).wf = true
def Fx.fits (f : Fx) : Prop := (Lit.int .i64 f.d).wf = true
end Go.Proofs.YtknpnhodpgajbaaGreatDoor

namespace Go.Proofs.YtknpnhodpgajbaaGreatDoor
open Go.RowKit Go.ChangeShapes Go.WideShapes Go.Deep
section
variable {H : Type} {enc : TypeId × Value → H} {w : World} {sp : Nat → Bool} {held : Bool}
theorem dec_fx {n : Nat} {cs : List Value} {z : DataW H × List MemPlace} (hl : cs.length = 3) (h : DataW.trod enc Tryz.prog w 0 sp held n 94 cs = some z) :
  ∃ f : Fx, cs = f.cells ∧ f.fits ∧ (Rows.uptoBulk z.1 ≤ 1048576 → f.small) := by
 obtain ⟨c0, c1, c2, rfl⟩ := arr3 hl
 obtain ⟨xs, n', _, hz, _, hxl, hf⟩ := DataW.trod_struct Tryz.underlying94 h
 obtain ⟨y0, y1, y2, rfl⟩ := arr3 hxl
 have h0 := hf 0 _ rfl
 have h1 := hf 1 _ rfl
 have h2 := hf 2 _ rfl
 simp [cells_string, cells_int, cells_rat] at h0 h1 h2
 obtain ⟨s, hs, rfl, _⟩ := DataW.trod_string Tryz.underlying9 h0
 obtain ⟨d, hd, rfl, hw⟩ := DataW.trod_int Tryz.underlying3 h1
 obtain ⟨v, hv, rfl, _⟩ := DataW.trod_string Tryz.underlying22 h2
 simp at hs hd hv
 subst hs hd hv
 refine ⟨⟨s, d, v⟩, rfl, hw, fun hb => ?_⟩
 rw [hz] at hb
 have b0 := bulk_agg (H := H) (d := .lit (.string s.data.toList)) (l := [.lit (.string s.data.toList), .lit (.int .i64 d), .lit (.string v.data.toList)]) (by simp)
 have b2 := bulk_agg (H := H) (d := .lit (.string v.data.toList)) (l := [.lit (.string s.data.toList), .lit (.int .i64 d), .lit (.string v.data.toList)]) (by simp)
 have q0 := bulk_text (H := H) s
 have q2 := bulk_text (H := H) v
 have hb' : Rows.uptoBulk (DataW.agg (H := H) [.lit (.string s.data.toList), .lit (.int .i64 d), .lit (.string v.data.toList)]) ≤ 1048576 := hb
 exact ⟨by show s.size ≤ _; omega, by show v.size ≤ _; omega⟩
theorem dec_ch {n : Nat} {cs : List Value} {z : DataW H × List MemPlace} (hl : cs.length = 4) (h : DataW.trod enc Tryz.prog w 0 sp held n 67 cs = some z) :
  ∃ f : Ch, cs = f.cells ∧ f.fits ∧ (Rows.uptoBulk z.1 ≤ 1048576 → f.small) := by
 obtain ⟨c0, c1, c2, c3, rfl⟩ := arr4 hl
 obtain ⟨xs, n', _, hz, _, hxl, hf⟩ := DataW.trod_struct Tryz.underlying67 h
 obtain ⟨y0, y1, y2, y3, rfl⟩ := arr4 hxl
 have h0 := hf 0 _ rfl
 have h1 := hf 1 _ rfl
 have h2 := hf 2 _ rfl
 have h3 := hf 3 _ rfl
 simp [cells_string, cells_int, cells_bool] at h0 h1 h2 h3
 obtain ⟨s, hs, rfl, _⟩ := DataW.trod_string Tryz.underlying9 h0
 obtain ⟨v, hv, rfl, _⟩ := DataW.trod_string Tryz.underlying9 h1
 obtain ⟨d, hd, rfl, hw⟩ := DataW.trod_int Tryz.underlying3 h2
 obtain ⟨b, hb, rfl⟩ := DataW.trod_bool Tryz.underlying4 h3
 simp at hs hd hv hb
 subst hs hd hv hb
 refine ⟨⟨s, v, d, b⟩, rfl, hw, fun hb => ?_⟩
 rw [hz] at hb
 have b0 := bulk_agg (H := H) (d := .lit (.string s.data.toList)) (l := [.lit (.string s.data.toList), .lit (.string v.data.toList), .lit (.int .i64 d), .lit (.bool b)]) (by simp)
 have b2 := bulk_agg (H := H) (d := .lit (.string v.data.toList)) (l := [.lit (.string s.data.toList), .lit (.string v.data.toList), .lit (.int .i64 d), .lit (.bool b)]) (by simp)
 have q0 := bulk_text (H := H) s
 have q2 := bulk_text (H := H) v
 have hb' : Rows.uptoBulk (DataW.agg (H := H) [.lit (.string s.data.toList), .lit (.string v.data.toList), .lit (.int .i64 d), .lit (.bool b)]) ≤ 1048576 := hb
 exact ⟨by show s.size ≤ _; omega, by show v.size ≤ _; omega⟩
end
end Go.Proofs.YtknpnhodpgajbaaGreatDoor

namespace Go.Proofs.YtknpnhodpgajbaaGreatDoor
open Go.RowKit
mutual
def Ex.size : Ex → Nat
 | .mk _ _ _ _ l => 1 + Ex.sizes l
def Ex.sizes : List Ex → Nat
 | [] => 0
 | x :: l => Ex.size x + Ex.sizes l
end
mutual
def Ex.depth : Ex → Nat
 | .mk _ _ _ _ l => Ex.depths l + 1
def Ex.depths : List Ex → Nat
 | [] => 0
 | x :: l => max (Ex.depth x) (Ex.depths l)
end
theorem Ex.size_eq (x : Ex) : x.size = 1 + Ex.sizes x.sub := by cases x; rw [Ex.size]; rfl
theorem Ex.depth_eq (x : Ex) : x.depth = Ex.depths x.sub + 1 := by cases x; rw [Ex.depth]; rfl
theorem Ex.sizes_append (l m : List Ex) : Ex.sizes (l ++ m) = Ex.sizes l + Ex.sizes m := by
 induction l with
 | nil => simp [Ex.sizes]
 | cons x l ih => rw [List.cons_append, Ex.sizes, Ex.sizes, ih]; omega
theorem Ex.sizes_snoc {l : List Ex} {k : Nat} {x : Ex} (h : l[k]? = some x) : Ex.sizes (l.take (k + 1)) = Ex.sizes (l.take k) + x.size := by
 rw [take_snoc_get h, Ex.sizes_append, Ex.sizes, Ex.sizes]; omega
theorem Ex.depths_append (l m : List Ex) : Ex.depths (l ++ m) = max (Ex.depths l) (Ex.depths m) := by
 induction l with
 | nil => simp [Ex.depths]
 | cons x l ih => rw [List.cons_append, Ex.depths, Ex.depths, ih]; omega
theorem Ex.depths_snoc {l : List Ex} {k : Nat} {x : Ex} (h : l[k]? = some x) : Ex.depths (l.take (k + 1)) = max (Ex.depths (l.take k)) x.depth := by
 rw [take_snoc_get h, Ex.depths_append, Ex.depths, Ex.depths]; omega
mutual
theorem Ex.size_le : ∀ x : Ex, x.size ≤ x.bulk
 | .mk _ r n _ l => by rw [Ex.size, Ex.bulk]; have := Ex.sizes_le l; omega
theorem Ex.sizes_le : ∀ l : List Ex, Ex.sizes l ≤ Ex.bulks l
 | [] => by simp [Ex.sizes]
 | x :: l => by rw [Ex.sizes, Ex.bulks]; have := Ex.size_le x; have := Ex.sizes_le l; omega
end
mutual
theorem Ex.depth_le : ∀ x : Ex, x.depth ≤ x.size
 | .mk _ r n _ l => by rw [Ex.depth, Ex.size]; have := Ex.depths_le l; omega
theorem Ex.depths_le : ∀ l : List Ex, Ex.depths l ≤ Ex.sizes l
 | [] => by simp [Ex.depths]
 | x :: l => by rw [Ex.depths, Ex.sizes]; have := Ex.depth_le x; have := Ex.depths_le l; omega
end
theorem Ex.sizes_take (l : List Ex) (k : Nat) : Ex.sizes (l.take k) ≤ Ex.sizes l := by
 have h := Ex.sizes_append (l.take k) (l.drop k)
 rw [List.take_append_drop] at h
 omega
theorem Ex.depths_take (l : List Ex) (k : Nat) : Ex.depths (l.take k) ≤ Ex.depths l := by
 have h := Ex.depths_append (l.take k) (l.drop k)
 rw [List.take_append_drop] at h
 omega
theorem Ex.bulks_append (l m : List Ex) : Ex.bulks (l ++ m) = Ex.bulks l + Ex.bulks m := by
 induction l with
 | nil => simp [Ex.bulks]
 | cons x l ih => rw [List.cons_append, Ex.bulks, Ex.bulks, ih]; omega
theorem Ex.bulks_snoc {l : List Ex} {k : Nat} {x : Ex} (h : l[k]? = some x) : Ex.bulks (l.take (k + 1)) = Ex.bulks (l.take k) + x.bulk := by
 rw [take_snoc_get h, Ex.bulks_append, Ex.bulks, Ex.bulks]; omega
theorem Ex.bulks_take (l : List Ex) (k : Nat) : Ex.bulks (l.take k) ≤ Ex.bulks l := by
 have h := Ex.bulks_append (l.take k) (l.drop k)
 rw [List.take_append_drop] at h
 omega
end Go.Proofs.YtknpnhodpgajbaaGreatDoor
