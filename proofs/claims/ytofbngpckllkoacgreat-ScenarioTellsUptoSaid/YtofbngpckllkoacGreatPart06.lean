/-
  rational.Check where there is a slash.  Written by tools/genratb.py. Fixings and choices as lists: reading; the closures of observable.CheckEnv, slices.IndexFunc and ContainsFunc, ordered. slices.IndexFunc, slices.ContainsFunc and observable.ordered at fixings and at choices.  Printed by tools/genidx.py. Facts of the types of knowledge; what a call that hands back knowledge of its own answers. Arguments opened: what the bound on the bulk gives; a list of structs as a list of records that can be read. Arguments opened: knowledge as lists of records that can be read, with what the bound on the bulk gives. A region that draws its order, whose operations read and whose calls at most make memory: one walk in the order of the text.
-/
import Derived.Test.YtofbngpckllkoacGreatPart05
import Derived.Test.YtofbngpckllkoacGreatPart01
import Derived.Test.YtofbngpckllkoacGreatPart02
import Derived.Maps.AppendAt
import Derived.Test.YtofbngpckllkoacGreatRows
import Derived.Deep.Slices
import Derived.Deep.Fields
import Derived.Lib.SmallJoins
import Derived.Carry
import Derived.Deep.Quiet
namespace Go.Proofs.YtofbngpckllkoacGreat
open Go.RowKit

theorem canonI_pos {b : ByteArray} (h : canonI (bl b) = true) : 0 < b.size := by
  rcases Nat.eq_zero_or_pos b.size with h0 | h0
  · have e : bl b = [] := List.eq_nil_of_length_eq_zero (by rw [bl_length]; exact h0)
    rw [e] at h
    exact absurd h (by decide)
  · exact h0

theorem ne_lit {b : ByteArray} {x : UInt8} (h : bl b ≠ [x]) : (b.toList == [x]) = false := by
  rw [Lib.toList_data]; show (bl b == [x]) = false; simpa using h
theorem eq_lit {b : ByteArray} {x : UInt8} (h : bl b = [x]) : b = ⟨#[x]⟩ := bl_inj h

set_option maxHeartbeats 1000000 in
set_option maxRecDepth 100000 in
theorem frac_a (s a b : ByteArray) (w : World) (HS : Hid (∀ W, Calls Tryz.prog 55 #[.string s] W (CutPost W a b true))) (ha : a.size ≤ 4611686018427387904) (_hb : b.size ≤ 4611686018427387904)
    (hca : canonI (bl a) = false) :
    Calls Tryz.prog 29 #[.string s] w (RatPost w 12) := by
  have FA := Lib.hid (fun W => form_any a W (by omega))
  have RA : Hid (formErr (bl a) = 12) := by show _ = _; rw [formErr, if_neg (by simp [hca])]
  clear ha hca
  go_enter Tryz.func29, Tryz.ntmps29
  go_wp2_with fail
  refine (HS.out _).mono ?_
  rintro e w' ⟨rfl, n, rfl⟩
  go_wp2_with fail
  refine (FA.out _).mono ?_
  rintro e w' ⟨rfl, rfl⟩
  rw [RA.out]
  go_wp2
  go_ret
  exact ⟨rfl, below_drewN (Below.refl _ _) _⟩

set_option maxHeartbeats 1000000 in
set_option maxRecDepth 100000 in
theorem frac_b (s a b : ByteArray) (w : World) (HS : Hid (∀ W, Calls Tryz.prog 55 #[.string s] W (CutPost W a b true))) (ha : a.size ≤ 4611686018427387904) (hb : b.size ≤ 4611686018427387904)
    (hca : canonI (bl a) = true) (hcb : canonI (bl b) = false) :
    Calls Tryz.prog 29 #[.string s] w (RatPost w 12) := by
  have FA := Lib.hid (fun W => form_any a W (by omega))
  have FB := Lib.hid (fun W => form_any b W (by omega))
  have RA : Hid (formErr (bl a) = 0) := by show _ = _; rw [formErr, if_pos hca]
  have RB : Hid (formErr (bl b) = 12) := by show _ = _; rw [formErr, if_neg (by simp [hcb])]
  clear ha hb hca hcb
  go_enter Tryz.func29, Tryz.ntmps29
  go_wp2_with fail
  refine (HS.out _).mono ?_
  rintro e w' ⟨rfl, n, rfl⟩
  go_wp2_with fail
  refine (FA.out _).mono ?_
  rintro e w' ⟨rfl, rfl⟩
  rw [RA.out]
  go_wp2_with fail
  refine (FB.out _).mono ?_
  rintro e w' ⟨rfl, rfl⟩
  rw [RB.out]
  go_wp2
  go_ret
  exact ⟨rfl, below_drewN (Below.refl _ _) _⟩

set_option maxHeartbeats 1000000 in
set_option maxRecDepth 100000 in
theorem frac_neg (s a b : ByteArray) (w : World) (HS : Hid (∀ W, Calls Tryz.prog 55 #[.string s] W (CutPost W a b true))) (ha : a.size ≤ 4611686018427387904) (hb : b.size ≤ 4611686018427387904)
    (hca : canonI (bl a) = true) (hcb : canonI (bl b) = true) (h45 : (bl b).head? = some 45) :
    Calls Tryz.prog 29 #[.string s] w (RatPost w 12) := by
  have FA := Lib.hid (fun W => form_any a W (by omega))
  have FB := Lib.hid (fun W => form_any b W (by omega))
  have RA : Hid (formErr (bl a) = 0) := by show _ = _; rw [formErr, if_pos hca]
  have RB : Hid (formErr (bl b) = 0) := by show _ = _; rw [formErr, if_pos hcb]
  have hp := canonI_pos hcb
  obtain ⟨c, hc⟩ : ∃ c, b[0] = c := ⟨_, rfl⟩
  have h4 : ((c.toNat : Int) == 45) = true := by
    rw [bl_cons b hp, hc] at h45
    have : c = 45 := by simpa using h45
    rw [this]; rfl
  clear ha hca hcb h45
  go_enter Tryz.func29, Tryz.ntmps29
  go_wp2_with fail
  refine (HS.out _).mono ?_
  rintro e w' ⟨rfl, n, rfl⟩
  go_wp2_with fail
  refine (FA.out _).mono ?_
  rintro e w' ⟨rfl, rfl⟩
  rw [RA.out]
  go_wp2_with fail
  refine (FB.out _).mono ?_
  rintro e w' ⟨rfl, rfl⟩
  rw [RB.out]
  go_wp2
  go_ret
  exact ⟨rfl, below_drewN (Below.refl _ _) _⟩

set_option maxHeartbeats 1000000 in
set_option maxRecDepth 100000 in
theorem frac_zero (s a b : ByteArray) (w : World) (HS : Hid (∀ W, Calls Tryz.prog 55 #[.string s] W (CutPost W a b true))) (ha : a.size ≤ 4611686018427387904) (hb : b.size ≤ 4611686018427387904)
    (hca : canonI (bl a) = true) (hcb : canonI (bl b) = true) (hl : bl b = [48]) :
    Calls Tryz.prog 29 #[.string s] w (RatPost w 12) := by
  have FA := Lib.hid (fun W => form_any a W (by omega))
  have FB := Lib.hid (fun W => form_any b W (by omega))
  have RA : Hid (formErr (bl a) = 0) := by show _ = _; rw [formErr, if_pos hca]
  have RB : Hid (formErr (bl b) = 0) := by show _ = _; rw [formErr, if_pos hcb]
  have e := eq_lit hl
  subst e
  have hp : 0 < (⟨#[48]⟩ : ByteArray).size := by decide
  have hc : (⟨#[48]⟩ : ByteArray)[0] = 48 := rfl
  clear ha hca hcb hl
  go_enter Tryz.func29, Tryz.ntmps29
  go_wp2_with fail
  refine (HS.out _).mono ?_
  rintro e w' ⟨rfl, n, rfl⟩
  go_wp2_with fail
  refine (FA.out _).mono ?_
  rintro e w' ⟨rfl, rfl⟩
  rw [RA.out]
  go_wp2_with fail
  refine (FB.out _).mono ?_
  rintro e w' ⟨rfl, rfl⟩
  rw [RB.out]
  go_wp2
  go_ret
  exact ⟨rfl, below_drewN (Below.refl _ _) _⟩

set_option maxHeartbeats 1000000 in
set_option maxRecDepth 100000 in
theorem frac_one (s a b : ByteArray) (w : World) (HS : Hid (∀ W, Calls Tryz.prog 55 #[.string s] W (CutPost W a b true))) (ha : a.size ≤ 4611686018427387904) (hb : b.size ≤ 4611686018427387904)
    (hca : canonI (bl a) = true) (hcb : canonI (bl b) = true) (hl : bl b = [49]) :
    Calls Tryz.prog 29 #[.string s] w (RatPost w 12) := by
  have FA := Lib.hid (fun W => form_any a W (by omega))
  have FB := Lib.hid (fun W => form_any b W (by omega))
  have RA : Hid (formErr (bl a) = 0) := by show _ = _; rw [formErr, if_pos hca]
  have RB : Hid (formErr (bl b) = 0) := by show _ = _; rw [formErr, if_pos hcb]
  have e := eq_lit hl
  subst e
  have hp : 0 < (⟨#[49]⟩ : ByteArray).size := by decide
  have hc : (⟨#[49]⟩ : ByteArray)[0] = 49 := rfl
  clear ha hca hcb hl
  go_enter Tryz.func29, Tryz.ntmps29
  go_wp2_with fail
  refine (HS.out _).mono ?_
  rintro e w' ⟨rfl, n, rfl⟩
  go_wp2_with fail
  refine (FA.out _).mono ?_
  rintro e w' ⟨rfl, rfl⟩
  rw [RA.out]
  go_wp2_with fail
  refine (FB.out _).mono ?_
  rintro e w' ⟨rfl, rfl⟩
  rw [RB.out]
  go_wp2
  go_ret
  exact ⟨rfl, below_drewN (Below.refl _ _) _⟩

set_option maxHeartbeats 1000000 in
set_option maxRecDepth 100000 in
theorem frac_big_a (s a b : ByteArray) (w : World) (HS : Hid (∀ W, Calls Tryz.prog 55 #[.string s] W (CutPost W a b true))) (ha : a.size ≤ 4611686018427387904) (hb : b.size ≤ 4611686018427387904)
    (hca : canonI (bl a) = true) (hcb : canonI (bl b) = true) (h45 : (bl b).head? ≠ some 45) (h0 : bl b ≠ [48]) (h1 : bl b ≠ [49]) (hi : intErr (bl a) ≠ 0) :
    Calls Tryz.prog 29 #[.string s] w (RatPost w 14) := by
  have FA := Lib.hid (fun W => form_any a W (by omega))
  have FB := Lib.hid (fun W => form_any b W (by omega))
  have CA := Lib.hid (fun W => check_any a W (by omega))
  have RA : Hid (formErr (bl a) = 0) := by show _ = _; rw [formErr, if_pos hca]
  have RB : Hid (formErr (bl b) = 0) := by show _ = _; rw [formErr, if_pos hcb]
  have hp := canonI_pos hcb
  obtain ⟨c, hc⟩ : ∃ c, b[0] = c := ⟨_, rfl⟩
  have h4 : ((c.toNat : Int) == 45) = false := by
    rw [bl_cons b hp, hc] at h45
    simpa using fun hh : (c.toNat : Int) = 45 => h45 (by rw [UInt8.toNat_inj.1 (by simpa using (by omega : c.toNat = 45) : c.toNat = (45 : UInt8).toNat)]; rfl)
  have n0 := ne_lit h0
  have n1 := ne_lit h1
  have IA := Lib.hid (intErr_of hca hi)
  clear hca hcb h45 h0 h1 ha hi
  go_enter Tryz.func29, Tryz.ntmps29
  go_wp2_with fail
  refine (HS.out _).mono ?_
  rintro e w' ⟨rfl, n, rfl⟩
  go_wp2_with fail
  refine (FA.out _).mono ?_
  rintro e w' ⟨rfl, rfl⟩
  rw [RA.out]
  go_wp2_with fail
  refine (FB.out _).mono ?_
  rintro e w' ⟨rfl, rfl⟩
  rw [RB.out]
  go_wp2_with fail
  refine (CA.out _).mono ?_
  rintro e w' ⟨rfl, rfl⟩
  rw [IA.out]
  go_wp2
  go_ret
  exact ⟨rfl, below_drewN (Below.refl _ _) _⟩

set_option maxHeartbeats 1000000 in
set_option maxRecDepth 100000 in
theorem frac_big_b (s a b : ByteArray) (w : World) (HS : Hid (∀ W, Calls Tryz.prog 55 #[.string s] W (CutPost W a b true))) (ha : a.size ≤ 4611686018427387904) (hb : b.size ≤ 4611686018427387904)
    (hca : canonI (bl a) = true) (hcb : canonI (bl b) = true) (h45 : (bl b).head? ≠ some 45) (h0 : bl b ≠ [48]) (h1 : bl b ≠ [49]) (hi : intErr (bl a) = 0) (hj : intErr (bl b) ≠ 0) :
    Calls Tryz.prog 29 #[.string s] w (RatPost w 14) := by
  have FA := Lib.hid (fun W => form_any a W (by omega))
  have FB := Lib.hid (fun W => form_any b W (by omega))
  have CA := Lib.hid (fun W => check_any a W (by omega))
  have CB := Lib.hid (fun W => check_any b W (by omega))
  have RA : Hid (formErr (bl a) = 0) := by show _ = _; rw [formErr, if_pos hca]
  have RB : Hid (formErr (bl b) = 0) := by show _ = _; rw [formErr, if_pos hcb]
  have hp := canonI_pos hcb
  obtain ⟨c, hc⟩ : ∃ c, b[0] = c := ⟨_, rfl⟩
  have h4 : ((c.toNat : Int) == 45) = false := by
    rw [bl_cons b hp, hc] at h45
    simpa using fun hh : (c.toNat : Int) = 45 => h45 (by rw [UInt8.toNat_inj.1 (by simpa using (by omega : c.toNat = 45) : c.toNat = (45 : UInt8).toNat)]; rfl)
  have n0 := ne_lit h0
  have n1 := ne_lit h1
  have IA := Lib.hid hi
  have IB := Lib.hid (intErr_of hcb hj)
  clear hca hcb h45 h0 h1 ha hi hj
  go_enter Tryz.func29, Tryz.ntmps29
  go_wp2_with fail
  refine (HS.out _).mono ?_
  rintro e w' ⟨rfl, n, rfl⟩
  go_wp2_with fail
  refine (FA.out _).mono ?_
  rintro e w' ⟨rfl, rfl⟩
  rw [RA.out]
  go_wp2_with fail
  refine (FB.out _).mono ?_
  rintro e w' ⟨rfl, rfl⟩
  rw [RB.out]
  go_wp2_with fail
  refine (CA.out _).mono ?_
  rintro e w' ⟨rfl, rfl⟩
  rw [IA.out]
  go_wp2_with fail
  refine (CB.out _).mono ?_
  rintro e w' ⟨rfl, rfl⟩
  rw [IB.out]
  go_wp2
  go_ret
  exact ⟨rfl, below_drewN (Below.refl _ _) _⟩

set_option maxHeartbeats 1000000 in
set_option maxRecDepth 100000 in
theorem frac_gcd (s a b : ByteArray) (w : World) (HS : Hid (∀ W, Calls Tryz.prog 55 #[.string s] W (CutPost W a b true))) (ha : a.size ≤ 4611686018427387904) (hb : b.size ≤ 4611686018427387904)
    (hca : canonI (bl a) = true) (hcb : canonI (bl b) = true) (h45 : (bl b).head? ≠ some 45) (h0 : bl b ≠ [48]) (h1 : bl b ≠ [49]) (hi : intErr (bl a) = 0) (hj : intErr (bl b) = 0) (hg : Nat.gcd (dval (body (bl a))) (dval (body (bl b))) ≠ 1) :
    Calls Tryz.prog 29 #[.string s] w (RatPost w 12) := by
  have FA := Lib.hid (fun W => form_any a W (by omega))
  have FB := Lib.hid (fun W => form_any b W (by omega))
  have CA := Lib.hid (fun W => check_any a W (by omega))
  have CB := Lib.hid (fun W => check_any b W (by omega))
  have GC := Lib.hid (fun W => gcd_ok a b W (by omega) (by omega) hi hj)
  have RA : Hid (formErr (bl a) = 0) := by show _ = _; rw [formErr, if_pos hca]
  have RB : Hid (formErr (bl b) = 0) := by show _ = _; rw [formErr, if_pos hcb]
  have hp := canonI_pos hcb
  obtain ⟨c, hc⟩ : ∃ c, b[0] = c := ⟨_, rfl⟩
  have h4 : ((c.toNat : Int) == 45) = false := by
    rw [bl_cons b hp, hc] at h45
    simpa using fun hh : (c.toNat : Int) = 45 => h45 (by rw [UInt8.toNat_inj.1 (by simpa using (by omega : c.toNat = 45) : c.toNat = (45 : UInt8).toNat)]; rfl)
  have n0 := ne_lit h0
  have n1 := ne_lit h1
  have IA := Lib.hid hi
  have IB := Lib.hid hj
  have Hg := Lib.hid hg
  clear hca hcb h45 h0 h1 ha hi hj hg
  go_enter Tryz.func29, Tryz.ntmps29
  go_wp2_with fail
  refine (HS.out _).mono ?_
  rintro e w' ⟨rfl, n, rfl⟩
  go_wp2_with fail
  refine (FA.out _).mono ?_
  rintro e w' ⟨rfl, rfl⟩
  rw [RA.out]
  go_wp2_with fail
  refine (FB.out _).mono ?_
  rintro e w' ⟨rfl, rfl⟩
  rw [RB.out]
  go_wp2_with fail
  refine (CA.out _).mono ?_
  rintro e w' ⟨rfl, rfl⟩
  rw [IA.out]
  go_wp2_with fail
  refine (CB.out _).mono ?_
  rintro e w' ⟨rfl, rfl⟩
  rw [IB.out]
  go_wp2_with fail
  refine (GC.out _).mono ?_
  rintro e w' ⟨t, rfl, ht, hbel⟩
  have nt := ne_lit (b := t) (x := 49) (by rw [ht]; exact fun e => Hg.out ((istr_one _).1 e))
  clear ht
  have HB : Hid (Below w.heap.size w w') := (below_drewN (Below.refl _ _) _).trans hbel
  clear hbel
  go_wp2
  go_ret
  exact ⟨rfl, HB.out⟩

set_option maxHeartbeats 1000000 in
set_option maxRecDepth 100000 in
theorem frac_good (s a b : ByteArray) (w : World) (HS : Hid (∀ W, Calls Tryz.prog 55 #[.string s] W (CutPost W a b true))) (ha : a.size ≤ 4611686018427387904) (hb : b.size ≤ 4611686018427387904)
    (hca : canonI (bl a) = true) (hcb : canonI (bl b) = true) (h45 : (bl b).head? ≠ some 45) (h0 : bl b ≠ [48]) (h1 : bl b ≠ [49]) (hi : intErr (bl a) = 0) (hj : intErr (bl b) = 0) (hg : Nat.gcd (dval (body (bl a))) (dval (body (bl b))) = 1) :
    Calls Tryz.prog 29 #[.string s] w (RatPost w 0) := by
  have FA := Lib.hid (fun W => form_any a W (by omega))
  have FB := Lib.hid (fun W => form_any b W (by omega))
  have CA := Lib.hid (fun W => check_any a W (by omega))
  have CB := Lib.hid (fun W => check_any b W (by omega))
  have GC := Lib.hid (fun W => gcd_ok a b W (by omega) (by omega) hi hj)
  have RA : Hid (formErr (bl a) = 0) := by show _ = _; rw [formErr, if_pos hca]
  have RB : Hid (formErr (bl b) = 0) := by show _ = _; rw [formErr, if_pos hcb]
  have hp := canonI_pos hcb
  obtain ⟨c, hc⟩ : ∃ c, b[0] = c := ⟨_, rfl⟩
  have h4 : ((c.toNat : Int) == 45) = false := by
    rw [bl_cons b hp, hc] at h45
    simpa using fun hh : (c.toNat : Int) = 45 => h45 (by rw [UInt8.toNat_inj.1 (by simpa using (by omega : c.toNat = 45) : c.toNat = (45 : UInt8).toNat)]; rfl)
  have n0 := ne_lit h0
  have n1 := ne_lit h1
  have IA := Lib.hid hi
  have IB := Lib.hid hj
  have Hg := Lib.hid hg
  clear hca hcb h45 h0 h1 ha hi hj hg
  go_enter Tryz.func29, Tryz.ntmps29
  go_wp2_with fail
  refine (HS.out _).mono ?_
  rintro e w' ⟨rfl, n, rfl⟩
  go_wp2_with fail
  refine (FA.out _).mono ?_
  rintro e w' ⟨rfl, rfl⟩
  rw [RA.out]
  go_wp2_with fail
  refine (FB.out _).mono ?_
  rintro e w' ⟨rfl, rfl⟩
  rw [RB.out]
  go_wp2_with fail
  refine (CA.out _).mono ?_
  rintro e w' ⟨rfl, rfl⟩
  rw [IA.out]
  go_wp2_with fail
  refine (CB.out _).mono ?_
  rintro e w' ⟨rfl, rfl⟩
  rw [IB.out]
  go_wp2_with fail
  refine (GC.out _).mono ?_
  rintro e w' ⟨t, rfl, ht, hbel⟩
  have et := eq_lit (b := t) (x := 49) (by rw [ht]; exact (istr_one _).2 Hg.out)
  subst et
  clear ht
  have HB : Hid (Below w.heap.size w w') := (below_drewN (Below.refl _ _) _).trans hbel
  clear hbel
  go_wp2
  go_ret
  exact ⟨rfl, HB.out⟩

theorem frac_any (s a b : ByteArray) (w : World) (HS : Hid (∀ W, Calls Tryz.prog 55 #[.string s] W (CutPost W a b true))) (ha : a.size ≤ 4611686018427387904) (hb : b.size ≤ 4611686018427387904) :
    Calls Tryz.prog 29 #[.string s] w (RatPost w (fracErr (bl a) (bl b))) := by
  unfold fracErr
  split
  · next h => exact frac_a s a b w HS ha hb h
  next h1 =>
  have hca : canonI (bl a) = true := by simpa using h1
  split
  · next h => exact frac_b s a b w HS ha hb hca h
  next h2 =>
  have hcb : canonI (bl b) = true := by simpa using h2
  split
  · next h => exact frac_neg s a b w HS ha hb hca hcb h
  next h3 =>
  split
  · next h => exact frac_zero s a b w HS ha hb hca hcb h
  next h4 =>
  split
  · next h => exact frac_one s a b w HS ha hb hca hcb h
  next h5 =>
  split
  · next h => exact frac_big_a s a b w HS ha hb hca hcb h3 h4 h5 h
  next h6 =>
  have hi : intErr (bl a) = 0 := by simpa using h6
  split
  · next h => exact frac_big_b s a b w HS ha hb hca hcb h3 h4 h5 hi h
  next h7 =>
  have hj : intErr (bl b) = 0 := by simpa using h7
  split
  · next h => exact frac_good s a b w HS ha hb hca hcb h3 h4 h5 hi hj h
  next h8 => exact frac_gcd s a b w HS ha hb hca hcb h3 h4 h5 hi hj h8

/-- rational.Check. -/
theorem rat_any (s : ByteArray) (w : World) (hs : s.size ≤ 4611686018427387904) :
    Calls Tryz.prog 29 #[.string s] w (RatPost w (ratErr s)) := by
  rcases slash_cases s with h | ⟨o, h, ho⟩
  · exact rat_none s w hs h
  · have e : ratErr s = fracErr (bl (s.extract 0 o)) (bl (s.extract (o + 1) s.size)) := by
      rw [ratErr, if_neg (by rw [h]; omega), h, bl_drop, bl_extract]
      rfl
    rw [e]
    refine frac_any s _ _ w (Lib.hid (fun W => split_some s W o h ho hs)) ?_ ?_
    · rw [← bl_length, bl_extract, List.length_take]; omega
    · rw [← bl_length, bl_drop, List.length_drop, bl_length]; omega
end Go.Proofs.YtofbngpckllkoacGreat

namespace Go.Proofs.YtofbngpckllkoacGreat
open Go.RowKit

structure Fx where
  nm : ByteArray
  d : Int
  vl : ByteArray
structure Ch where
  pt : ByteArray
  nm : ByteArray
  d : Int
  first : Bool
def Fx.val (f : Fx) : Value := fxV f.nm f.d f.vl
def Ch.val (c : Ch) : Value := chV c.pt c.nm c.d c.first
def Fx.cells (f : Fx) : List Value := [.string f.nm, .int .i64 f.d, .string f.vl]
def Ch.cells (c : Ch) : List Value := [.string c.pt, .string c.nm, .int .i64 c.d, .bool c.first]

theorem Rd.fx {w : World} {ad : Option Addr} {l : List Fx} (h : Rd Fx.cells 3 w ad l) {j : Nat} {f : Fx} (hj : l[j]? = some f) :
    ∃ b off, ad = some ⟨b, off, none⟩ ∧ w.cell? ⟨b, off + j * 3, none⟩ = some (.string f.nm) ∧ w.cell? ⟨b, off + j * 3 + 1, none⟩ = some (.int .i64 f.d) ∧ w.cell? ⟨b, off + j * 3 + 2, none⟩ = some (.string f.vl) := by
  obtain ⟨b, off, rfl, h3⟩ := h j f hj
  exact ⟨b, off, rfl, h3 0 _ rfl, h3 1 _ rfl, h3 2 _ rfl⟩
theorem Rd.ch {w : World} {ad : Option Addr} {l : List Ch} (h : Rd Ch.cells 4 w ad l) {j : Nat} {f : Ch} (hj : l[j]? = some f) :
    ∃ b off, ad = some ⟨b, off, none⟩ ∧ w.cell? ⟨b, off + j * 4, none⟩ = some (.string f.pt) ∧ w.cell? ⟨b, off + j * 4 + 1, none⟩ = some (.string f.nm) ∧ w.cell? ⟨b, off + j * 4 + 2, none⟩ = some (.int .i64 f.d) ∧ w.cell? ⟨b, off + j * 4 + 3, none⟩ = some (.bool f.first) := by
  obtain ⟨b, off, rfl, h3⟩ := h j f hj
  exact ⟨b, off, rfl, h3 0 _ rfl, h3 1 _ rfl, h3 2 _ rfl, h3 3 _ rfl⟩

/-- Is a fixing, a choice, well-formed? -/
def fxBad (f : Fx) : Bool := !(isNm (bl f.nm) && (isDay f.d && decide (ratErr f.vl = 0)))
def chBad (c : Ch) : Bool := !(isNm (bl c.pt) && (isNm (bl c.nm) && isDay c.d))

set_option maxHeartbeats 1000000 in
set_option maxRecDepth 100000 in
theorem fixCl_any (f : Fx) (w : World) (h1 : f.nm.size ≤ 1100000) (h2 : f.vl.size ≤ 1100000) :
    Calls Tryz.prog 33 #[f.val] w fun e w' => e = .returned (.bool (fxBad f)) ∧ Below w.heap.size w w' := by
  have HN := Lib.hid (fun W => name_any f.nm W (by omega))
  have HW := Lib.hid (fun W => within_any f.d W)
  have HR := Lib.hid (fun W => rat_any f.vl W (by omega))
  unfold Fx.val fxV fxBad
  obtain ⟨nm, d, vl⟩ := f
  dsimp only at HN HW HR ⊢
  clear h1 h2
  generalize isNm (bl nm) = a at HN ⊢
  generalize isDay d = b at HW ⊢
  generalize ratErr vl = E at HR ⊢
  cases a with
  | false =>
    go_enter Tryz.func33, Tryz.ntmps33
    go_wp2_with (go_at_call 28; refine (HN.out _).mono ?_; rintro e w' ⟨rfl, rfl⟩)
    go_ret
    exact ⟨rfl, below_a1 _ _⟩
  | true =>
    cases b with
    | false =>
      go_enter Tryz.func33, Tryz.ntmps33
      go_wp2_with (first | (go_at_call 28; refine (HN.out _).mono ?_; rintro e w' ⟨rfl, rfl⟩) | (go_at_call 34; refine (HW.out _).mono ?_; rintro e w' ⟨rfl, rfl⟩))
      go_ret
      exact ⟨rfl, below_a1 _ _⟩
    | true =>
      have HE : Hid (decide (E = 0) = !(E != 0)) := by show _ = _; rw [Bool.eq_iff_iff]; simp
      go_enter Tryz.func33, Tryz.ntmps33
      go_wp2_with (first | (go_at_call 28; refine (HN.out _).mono ?_; rintro e w' ⟨rfl, rfl⟩) | (go_at_call 34; refine (HW.out _).mono ?_; rintro e w' ⟨rfl, rfl⟩) | (go_at_call 29; refine (HR.out _).mono ?_; rintro e w1 ⟨rfl, hb1⟩))
      go_ret
      refine ⟨ret_bool' ?_, (below_a1 _ _).trans (hb1.mono (by simp))⟩
      rw [HE.out]; simp

set_option maxHeartbeats 1000000 in
set_option maxRecDepth 100000 in
theorem pickCl_any (c : Ch) (w : World) (h1 : c.pt.size ≤ 1100000) (h2 : c.nm.size ≤ 1100000) :
    Calls Tryz.prog 35 #[c.val] w fun e w' => e = .returned (.bool (chBad c)) ∧ Below w.heap.size w w' := by
  have HP := Lib.hid (fun W => name_any c.pt W (by omega))
  have HN := Lib.hid (fun W => name_any c.nm W (by omega))
  have HW := Lib.hid (fun W => within_any c.d W)
  unfold Ch.val chV chBad
  obtain ⟨pt, nm, d, first⟩ := c
  dsimp only at HN HW HP ⊢
  clear h1 h2
  generalize isNm (bl pt) = a0 at HP ⊢
  generalize isNm (bl nm) = a at HN ⊢
  generalize isDay d = b at HW ⊢
  cases a0 with
  | false =>
    go_enter Tryz.func35, Tryz.ntmps35
    go_wp2_with (go_at_call 28; refine (HP.out _).mono ?_; rintro e w' ⟨rfl, rfl⟩)
    go_ret
    exact ⟨rfl, below_a1 _ _⟩
  | true =>
    cases a with
    | false =>
      go_enter Tryz.func35, Tryz.ntmps35
      go_wp2_with fail
      refine (HP.out _).mono ?_
      rintro e w' ⟨rfl, rfl⟩
      go_wp2_with fail
      refine (HN.out _).mono ?_
      rintro e w' ⟨rfl, rfl⟩
      go_wp2
      go_ret
      exact ⟨rfl, below_a1 _ _⟩
    | true =>
      go_enter Tryz.func35, Tryz.ntmps35
      go_wp2_with fail
      refine (HP.out _).mono ?_
      rintro e w' ⟨rfl, rfl⟩
      go_wp2_with fail
      refine (HN.out _).mono ?_
      rintro e w' ⟨rfl, rfl⟩
      go_wp2_with (go_at_call 34; refine (HW.out _).mono ?_; rintro e w' ⟨rfl, rfl⟩)
      go_ret
      refine ⟨ret_bool' ?_, below_a1 _ _⟩
      simp
end Go.Proofs.YtofbngpckllkoacGreat

namespace Go.Proofs.YtofbngpckllkoacGreat
open Go.RowKit

def idxR : Option Nat → Int
  | some k => (k : Int)
  | none => -1
theorem idxR_any {α : Type} (p : α → Bool) (l : List α) : decide ((0 : Int) ≤ idxR (l.findIdx? p)) = l.any p := by
  rw [Bool.eq_iff_iff, decide_eq_true_eq, List.any_eq_true]
  constructor
  · intro h
    cases hf : l.findIdx? p with
    | none => rw [hf] at h; simp [idxR] at h
    | some k =>
      obtain ⟨hk, h1, _⟩ := List.findIdx?_eq_some_iff_getElem.1 hf
      exact ⟨_, List.getElem_mem hk, h1⟩
  · intro ⟨x, hx, hp⟩
    cases hf : l.findIdx? p with
    | none => exact absurd hp (by simpa using List.findIdx?_eq_none_iff.1 hf x hx)
    | some k => simp [idxR]
theorem findIdx_some {α : Type} {p : α → Bool} {l : List α} {k : Nat} {x : α} (hk : l[k]? = some x) (hp : p x = true) (ha : ∀ y ∈ l.take k, p y = false) : l.findIdx? p = some k := by
  obtain ⟨hlt, rfl⟩ := List.getElem?_eq_some_iff.1 hk
  refine List.findIdx?_eq_some_iff_getElem.2 ⟨hlt, hp, fun j hj => ?_⟩
  have := ha l[j] (List.mem_take_iff_getElem.2 ⟨j, by omega, rfl⟩)
  simpa using this
theorem findIdx_none {α : Type} {p : α → Bool} {l : List α} (ha : ∀ y ∈ l, p y = false) : l.findIdx? p = none := List.findIdx?_eq_none_iff.2 ha
theorem all_take_succ {α : Type} {p : α → Bool} {l : List α} {k : Nat} {x : α} (hk : l[k]? = some x) (hp : p x = false) (ha : ∀ y ∈ l.take k, p y = false) : ∀ y ∈ l.take (k + 1), p y = false := by
  intro y hy
  rw [List.take_add_one, hk] at hy
  rcases List.mem_append.1 hy with h | h
  · exact ha y h
  · simp at h; subst h; exact hp
/-- Each element is before the next. -/
def incB {α : Type} (lt : α → α → Bool) : List α → Bool
  | x :: y :: l => lt x y && incB lt (y :: l)
  | _ => true
theorem incB_take {α : Type} {lt : α → α → Bool} : ∀ {l : List α} {k : Nat}, incB lt l = true → incB lt (l.take k) = true
  | [], k, _ => by cases k <;> rfl
  | [x], k, _ => by cases k with | zero => rfl | succ k => cases k <;> rfl
  | x :: y :: l, 0, _ => rfl
  | x :: y :: l, 1, _ => rfl
  | x :: y :: l, k + 2, h => by
    rw [incB, Bool.and_eq_true] at h
    show (lt x y && incB lt ((y :: l).take (k + 1))) = true
    rw [h.1, incB_take h.2]; rfl
theorem incB_snoc {α : Type} {lt : α → α → Bool} : ∀ {l : List α} {k : Nat} {x y : α}, l[k]? = some x → l[k + 1]? = some y → incB lt (l.take (k + 2)) = (incB lt (l.take (k + 1)) && lt x y)
  | [], k, x, y, h, _ => by simp at h
  | [a], 0, x, y, h, h2 => by simp at h2
  | [a], k + 1, x, y, h, _ => by simp at h
  | a :: b :: l, 0, x, y, h, h2 => by
    simp at h h2; subst h h2
    show (lt a b && incB lt [b]) = (incB lt [a] && lt a b)
    simp [incB]
  | a :: b :: l, k + 1, x, y, h, h2 => by
    show (lt a b && incB lt ((b :: l).take (k + 2))) = ((lt a b && incB lt ((b :: l).take (k + 1))) && lt x y)
    rw [incB_snoc (l := b :: l) (k := k) (by simpa using h) (by simpa using h2), Bool.and_assoc]
theorem incB_le_one {α : Type} {lt : α → α → Bool} {l : List α} (h : l.length ≤ 1) : incB lt l = true := by
  match l, h with
  | [], _ => rfl
  | [_], _ => rfl
theorem incB_false_of_take {α : Type} {lt : α → α → Bool} {l : List α} {k : Nat} (h : incB lt (l.take k) = false) : incB lt l = false := by
  rw [Bool.eq_false_iff] at h ⊢
  exact fun hh => h (incB_take hh)
def Fx.lt (a b : Fx) : Bool := fxLt a.nm a.d b.nm b.d
def Ch.lt (a b : Ch) : Bool := chLt a.pt a.nm a.d b.pt b.nm b.d
def Fx.small (f : Fx) : Prop := f.nm.size ≤ 1100000 ∧ f.vl.size ≤ 1100000
def Ch.small (c : Ch) : Prop := c.pt.size ≤ 1100000 ∧ c.nm.size ≤ 1100000

set_option maxHeartbeats 1000000 in
set_option maxRecDepth 100000 in
theorem indexFx_any (l : List Fx) (ad : Option Addr) (cap : Nat) (w : World) (hn : l.length ≤ 1100000) (hr : Rd Fx.cells 3 w ad l) (hsm : ∀ f ∈ l, f.small) :
    Calls Tryz.prog 63 #[.slice ad l.length cap, .func (.func 33) #[] #[]] w fun e w' => e = .returned (.int .i64 (idxR (l.findIdx? fxBad))) ∧ Below w.heap.size w w' := by
  have HS := Lib.hid hsm
  have HD := Lib.hid hr
  clear hsm hr
  go_enter Tryz.func63, Tryz.ntmps63
  go_wp2
  go_loopw [8] (fun i wr => ∃ k : Nat, k ≤ l.length ∧ i = .int .i64 k ∧ Hid (∀ y ∈ l.take k, fxBad y = false) ∧ Below w.heap.size w wr) (fun i _ => l.length - (intOf i).toNat)
  case atStart => exact ⟨0, Nat.zero_le _, rfl, Lib.hid (by simp), Below.refl _ _⟩
  case round =>
    obtain ⟨k, hk, rfl, Hall, hbel⟩ := hrel
    by_cases hlt : k < l.length
    · obtain ⟨f, hf⟩ : ∃ f, l[k]? = some f := ⟨_, List.getElem?_eq_getElem hlt⟩
      have hfm : f ∈ l := List.mem_of_getElem? hf
      have HRf : Hid (∃ b off, ad = some ⟨b, off, none⟩ ∧ _) := ((HD.out.below hbel).fx hf)
      have HC := Lib.hid (fun W => fixCl_any f W (HS.out f hfm).1 (HS.out f hfm).2)
      have HF := Lib.hid hf
      clear hf hfm
      obtain ⟨b, off, rfl, hc1, hc2, hc3⟩ := HRf
      have hsz := hbel.size
      simp only [Fx.val, fxV] at HC
      cases hp : fxBad f with
      | true =>
        have HR : Hid (l.findIdx? fxBad = some k) := findIdx_some HF.out hp Hall.out
        rw [hp] at HC
        clear hp
        go_wp2_with (go_at_call 33; refine (HC.out _).mono ?_; rintro e w1 ⟨rfl, hb1⟩)
        go_ret
        exact ⟨by rw [HR.out]; rfl, hbel.trans (hb1.mono hsz)⟩
      | false =>
        have Hall2 : Hid (∀ y ∈ l.take (k + 1), fxBad y = false) := all_take_succ HF.out hp Hall.out
        rw [hp] at HC
        clear hp
        go_wp2_with (go_at_call 33; refine (HC.out _).mono ?_; rintro e w1 ⟨rfl, hb1⟩)
        go_roundw
        case rel => exact ⟨k + 1, by omega, by go_num, Hall2, hbel.trans (hb1.mono hsz)⟩
        case measure => simp [intOf]; omega
    · obtain rfl : k = l.length := by omega
      have HR : Hid (l.findIdx? fxBad = none) := findIdx_none (by have := Hall.out; rwa [List.take_length] at this)
      go_wp2
      go_ret
      exact ⟨by rw [HR.out]; rfl, hbel⟩

set_option maxRecDepth 100000 in
theorem containsFx_any (l : List Fx) (ad : Option Addr) (cap : Nat) (w : World) (hn : l.length ≤ 1100000) (hr : Rd Fx.cells 3 w ad l) (hsm : ∀ f ∈ l, f.small) :
    Calls Tryz.prog 36 #[.slice ad l.length cap, .func (.func 33) #[] #[]] w fun e w' => e = .returned (.bool (l.any fxBad)) ∧ Below w.heap.size w w' := by
  have HI := Lib.hid (indexFx_any l ad cap w hn hr hsm)
  have HE := Lib.hid (idxR_any fxBad l)
  clear hsm hr
  go_enter Tryz.func36, Tryz.ntmps36
  go_wp2_with (go_at_call 63; refine HI.out.mono ?_; rintro e w1 ⟨rfl, hb1⟩)
  go_ret
  exact ⟨ret_bool' HE.out, hb1⟩

set_option maxHeartbeats 1000000 in
set_option maxRecDepth 100000 in
theorem orderedFx_any (l : List Fx) (ad : Option Addr) (cap : Nat) (w : World) (hn : l.length ≤ 1100000) (hr : Rd Fx.cells 3 w ad l) :
    Calls Tryz.prog 38 #[.slice ad l.length cap, .func (.func 39) #[] #[]] w fun e w' => e = .returned (.bool (incB Fx.lt l)) ∧ Below w.heap.size w w' := by
  have HD := Lib.hid hr
  clear hr
  go_enter Tryz.func38, Tryz.ntmps38
  go_wp2
  go_loopw [5] (fun i wr => ∃ k : Nat, (k + 1 ≤ l.length ∨ k = 0) ∧ i = .int .i64 ((k : Int) + 1) ∧ Hid (incB Fx.lt (l.take (k + 1)) = true) ∧ Below w.heap.size w wr) (fun i _ => l.length + 1 - (intOf i).toNat)
  case atStart => exact ⟨0, .inr rfl, by go_num, incB_le_one (by rw [List.length_take]; omega), Below.refl _ _⟩
  case round =>
    obtain ⟨k, hk, rfl, Hall, hbel⟩ := hrel
    by_cases hlt : k + 1 < l.length
    · obtain ⟨f, hf⟩ : ∃ f, l[k]? = some f := ⟨_, List.getElem?_eq_getElem (by omega)⟩
      obtain ⟨g, hg⟩ : ∃ g, l[k + 1]? = some g := ⟨_, List.getElem?_eq_getElem hlt⟩
      have HRf := ((HD.out.below hbel).fx hf)
      have HRg := ((HD.out.below hbel).fx hg)
      have HI := Lib.hid (incB_snoc (lt := Fx.lt) hf hg)
      clear hf hg
      obtain ⟨b, off, rfl, hc1, hc2, hc3⟩ := HRf
      obtain ⟨b', off', he, hd1, hd2, hd3⟩ := HRg
      obtain ⟨rfl, rfl⟩ : b = b' ∧ off = off' := by simpa using he
      clear he
      have hsz := hbel.size
      have HC : Hid (∀ W, Calls Tryz.prog 39 #[f.val, g.val] W fun e w' => e = .returned (.int .i64 (fxCmp f.nm f.d g.nm g.d)) ∧ Below W.heap.size W w') := fun W => fixings_any _ _ _ _ _ _ _
      simp only [Fx.val, fxV] at HC
      have HL := Lib.hid (fxCmp_lt f.nm g.nm f.d g.d)
      have e1 : (k : Int) + 1 - 1 = (k : Int) := by omega
      have e2 : IntKind.i64.wrap ((k : Int) + 1 - 1) = (k : Int) := by rw [IntWalk.i64_in _ (by omega)]; omega
      have e3 : IntKind.i64.wrap (k : Int) = (k : Int) := IntWalk.i64_in _ (by omega)
      have e4 : ((k : Int) + 1).toNat = k + 1 := by omega
      have hk2 : (0 : Int) ≤ (k : Int) + 1 := by omega
      have hk3 : (k : Int) + 1 < (l.length : Int) := by omega
      have hk0 : (0 : Int) ≤ (k : Int) := by omega
      have hbl : b < wr.heap.size := World.block_lt_of_cell? wr _ hc1
      have hk1 : (k : Int) < (l.length : Int) := by omega
      obtain ⟨C, hC⟩ : ∃ C, fxCmp f.nm f.d g.nm g.d = C := ⟨_, rfl⟩
      rw [hC] at HC HL
      clear hC
      cases hp : Fx.lt f g with
      | true =>
        have Hall2 : Hid (incB Fx.lt (l.take (k + 1 + 1)) = true) := by show _ = _; rw [HI.out, Hall.out, hp]; rfl
        have t1 : decide ((0 : Int) ≤ C) = false := by
          have h := HL.out
          rw [show fxLt f.nm f.d g.nm g.d = true from hp, decide_eq_true_eq] at h
          rw [decide_eq_false_iff_not]; omega
        have Hall2 : Hid (incB Fx.lt (l.take (k + 1 + 1)) = true) := by show _ = _; rw [HI.out, Hall.out, hp]; rfl
        clear hp
        go_wp2
        go_region_held3 (fun w' => w'.cell? ⟨b, off + k * 3, none⟩ = some (.string f.nm) ∧ w'.cell? ⟨b, off + k * 3 + 1, none⟩ = some (.int .i64 f.d) ∧ w'.cell? ⟨b, off + k * 3 + 2, none⟩ = some (.string f.vl) ∧ w'.cell? ⟨b, off + (k + 1) * 3, none⟩ = some (.string g.nm) ∧ w'.cell? ⟨b, off + (k + 1) * 3 + 1, none⟩ = some (.int .i64 g.d) ∧ w'.cell? ⟨b, off + (k + 1) * 3 + 2, none⟩ = some (.string g.vl)) (first | go_keep | (simp only [kc]; go_keep))
          (first | (go_at_call 39; refine (HC.out _).mono ?_; rintro e w1 ⟨rfl, hb1⟩; have kc := fun o => hb1.cell (p := ⟨b, o, none⟩) hbl))
        go_wp2
        go_roundw
        case rel =>
          exact ⟨k + 1, .inl (by omega), by go_num, Hall2, hbel.drew.trans (hb1.mono hsz)⟩
        case measure => simp [intOf]; omega
      | false =>
        have HR : Hid (incB Fx.lt l = false) := incB_false_of_take (k := k + 1 + 1) (by rw [HI.out, Hall.out, hp]; rfl)
        have t1 : decide ((0 : Int) ≤ C) = true := by
          have h := HL.out
          rw [show fxLt f.nm f.d g.nm g.d = false from hp, decide_eq_false_iff_not] at h
          rw [decide_eq_true_eq]; omega
        clear hp
        go_wp2
        go_region_held3 (fun w' => w'.cell? ⟨b, off + k * 3, none⟩ = some (.string f.nm) ∧ w'.cell? ⟨b, off + k * 3 + 1, none⟩ = some (.int .i64 f.d) ∧ w'.cell? ⟨b, off + k * 3 + 2, none⟩ = some (.string f.vl) ∧ w'.cell? ⟨b, off + (k + 1) * 3, none⟩ = some (.string g.nm) ∧ w'.cell? ⟨b, off + (k + 1) * 3 + 1, none⟩ = some (.int .i64 g.d) ∧ w'.cell? ⟨b, off + (k + 1) * 3 + 2, none⟩ = some (.string g.vl)) (first | go_keep | (simp only [kc]; go_keep))
          (first | (go_at_call 39; refine (HC.out _).mono ?_; rintro e w1 ⟨rfl, hb1⟩; have kc := fun o => hb1.cell (p := ⟨b, o, none⟩) hbl))
        go_wp2
        go_ret
        exact ⟨ret_bool' HR.out.symm, hbel.drew.trans (hb1.mono hsz)⟩
    · have HR : Hid (incB Fx.lt l = true) := by
        show _ = _
        have := Hall.out
        rwa [List.take_of_length_le (by omega)] at this
      have t1 : ¬ ((k : Int) + 1 < (l.length : Int)) := by omega
      go_wp2
      go_ret
      exact ⟨ret_bool' HR.out.symm, hbel⟩

set_option maxHeartbeats 1000000 in
set_option maxRecDepth 100000 in
theorem indexCh_any (l : List Ch) (ad : Option Addr) (cap : Nat) (w : World) (hn : l.length ≤ 1100000) (hr : Rd Ch.cells 4 w ad l) (hsm : ∀ f ∈ l, f.small) :
    Calls Tryz.prog 64 #[.slice ad l.length cap, .func (.func 35) #[] #[]] w fun e w' => e = .returned (.int .i64 (idxR (l.findIdx? chBad))) ∧ Below w.heap.size w w' := by
  have HS := Lib.hid hsm
  have HD := Lib.hid hr
  clear hsm hr
  go_enter Tryz.func64, Tryz.ntmps64
  go_wp2
  go_loopw [8] (fun i wr => ∃ k : Nat, k ≤ l.length ∧ i = .int .i64 k ∧ Hid (∀ y ∈ l.take k, chBad y = false) ∧ Below w.heap.size w wr) (fun i _ => l.length - (intOf i).toNat)
  case atStart => exact ⟨0, Nat.zero_le _, rfl, Lib.hid (by simp), Below.refl _ _⟩
  case round =>
    obtain ⟨k, hk, rfl, Hall, hbel⟩ := hrel
    by_cases hlt : k < l.length
    · obtain ⟨f, hf⟩ : ∃ f, l[k]? = some f := ⟨_, List.getElem?_eq_getElem hlt⟩
      have hfm : f ∈ l := List.mem_of_getElem? hf
      have HRf : Hid (∃ b off, ad = some ⟨b, off, none⟩ ∧ _) := ((HD.out.below hbel).ch hf)
      have HC := Lib.hid (fun W => pickCl_any f W (HS.out f hfm).1 (HS.out f hfm).2)
      have HF := Lib.hid hf
      clear hf hfm
      obtain ⟨b, off, rfl, hc1, hc2, hc3, hc4⟩ := HRf
      have hsz := hbel.size
      simp only [Ch.val, chV] at HC
      cases hp : chBad f with
      | true =>
        have HR : Hid (l.findIdx? chBad = some k) := findIdx_some HF.out hp Hall.out
        rw [hp] at HC
        clear hp
        go_wp2_with (go_at_call 35; refine (HC.out _).mono ?_; rintro e w1 ⟨rfl, hb1⟩)
        go_ret
        exact ⟨by rw [HR.out]; rfl, hbel.trans (hb1.mono hsz)⟩
      | false =>
        have Hall2 : Hid (∀ y ∈ l.take (k + 1), chBad y = false) := all_take_succ HF.out hp Hall.out
        rw [hp] at HC
        clear hp
        go_wp2_with (go_at_call 35; refine (HC.out _).mono ?_; rintro e w1 ⟨rfl, hb1⟩)
        go_roundw
        case rel => exact ⟨k + 1, by omega, by go_num, Hall2, hbel.trans (hb1.mono hsz)⟩
        case measure => simp [intOf]; omega
    · obtain rfl : k = l.length := by omega
      have HR : Hid (l.findIdx? chBad = none) := findIdx_none (by have := Hall.out; rwa [List.take_length] at this)
      go_wp2
      go_ret
      exact ⟨by rw [HR.out]; rfl, hbel⟩

set_option maxRecDepth 100000 in
theorem containsCh_any (l : List Ch) (ad : Option Addr) (cap : Nat) (w : World) (hn : l.length ≤ 1100000) (hr : Rd Ch.cells 4 w ad l) (hsm : ∀ f ∈ l, f.small) :
    Calls Tryz.prog 37 #[.slice ad l.length cap, .func (.func 35) #[] #[]] w fun e w' => e = .returned (.bool (l.any chBad)) ∧ Below w.heap.size w w' := by
  have HI := Lib.hid (indexCh_any l ad cap w hn hr hsm)
  have HE := Lib.hid (idxR_any chBad l)
  clear hsm hr
  go_enter Tryz.func37, Tryz.ntmps37
  go_wp2_with (go_at_call 64; refine HI.out.mono ?_; rintro e w1 ⟨rfl, hb1⟩)
  go_ret
  exact ⟨ret_bool' HE.out, hb1⟩

set_option maxHeartbeats 1000000 in
set_option maxRecDepth 100000 in
theorem orderedCh_any (l : List Ch) (ad : Option Addr) (cap : Nat) (w : World) (hn : l.length ≤ 1100000) (hr : Rd Ch.cells 4 w ad l) :
    Calls Tryz.prog 40 #[.slice ad l.length cap, .func (.func 41) #[] #[]] w fun e w' => e = .returned (.bool (incB Ch.lt l)) ∧ Below w.heap.size w w' := by
  have HD := Lib.hid hr
  clear hr
  go_enter Tryz.func40, Tryz.ntmps40
  go_wp2
  go_loopw [5] (fun i wr => ∃ k : Nat, (k + 1 ≤ l.length ∨ k = 0) ∧ i = .int .i64 ((k : Int) + 1) ∧ Hid (incB Ch.lt (l.take (k + 1)) = true) ∧ Below w.heap.size w wr) (fun i _ => l.length + 1 - (intOf i).toNat)
  case atStart => exact ⟨0, .inr rfl, by go_num, incB_le_one (by rw [List.length_take]; omega), Below.refl _ _⟩
  case round =>
    obtain ⟨k, hk, rfl, Hall, hbel⟩ := hrel
    by_cases hlt : k + 1 < l.length
    · obtain ⟨f, hf⟩ : ∃ f, l[k]? = some f := ⟨_, List.getElem?_eq_getElem (by omega)⟩
      obtain ⟨g, hg⟩ : ∃ g, l[k + 1]? = some g := ⟨_, List.getElem?_eq_getElem hlt⟩
      have HRf := ((HD.out.below hbel).ch hf)
      have HRg := ((HD.out.below hbel).ch hg)
      have HI := Lib.hid (incB_snoc (lt := Ch.lt) hf hg)
      clear hf hg
      obtain ⟨b, off, rfl, hc1, hc2, hc3, hc4⟩ := HRf
      obtain ⟨b', off', he, hd1, hd2, hd3, hd4⟩ := HRg
      obtain ⟨rfl, rfl⟩ : b = b' ∧ off = off' := by simpa using he
      clear he
      have hsz := hbel.size
      have HC : Hid (∀ W, Calls Tryz.prog 41 #[f.val, g.val] W fun e w' => e = .returned (.int .i64 (chCmp f.pt f.nm f.d g.pt g.nm g.d)) ∧ Below W.heap.size W w') := fun W => choices_any _ _ _ _ _ _ _ _ _
      simp only [Ch.val, chV] at HC
      have HL := Lib.hid (chCmp_lt f.pt g.pt f.nm g.nm f.d g.d)
      have e1 : (k : Int) + 1 - 1 = (k : Int) := by omega
      have e2 : IntKind.i64.wrap ((k : Int) + 1 - 1) = (k : Int) := by rw [IntWalk.i64_in _ (by omega)]; omega
      have e3 : IntKind.i64.wrap (k : Int) = (k : Int) := IntWalk.i64_in _ (by omega)
      have e4 : ((k : Int) + 1).toNat = k + 1 := by omega
      have hk2 : (0 : Int) ≤ (k : Int) + 1 := by omega
      have hk3 : (k : Int) + 1 < (l.length : Int) := by omega
      have hk0 : (0 : Int) ≤ (k : Int) := by omega
      have hbl : b < wr.heap.size := World.block_lt_of_cell? wr _ hc1
      have hk1 : (k : Int) < (l.length : Int) := by omega
      obtain ⟨C, hC⟩ : ∃ C, chCmp f.pt f.nm f.d g.pt g.nm g.d = C := ⟨_, rfl⟩
      rw [hC] at HC HL
      clear hC
      cases hp : Ch.lt f g with
      | true =>
        have Hall2 : Hid (incB Ch.lt (l.take (k + 1 + 1)) = true) := by show _ = _; rw [HI.out, Hall.out, hp]; rfl
        have t1 : decide ((0 : Int) ≤ C) = false := by
          have h := HL.out
          rw [show chLt f.pt f.nm f.d g.pt g.nm g.d = true from hp, decide_eq_true_eq] at h
          rw [decide_eq_false_iff_not]; omega
        have Hall2 : Hid (incB Ch.lt (l.take (k + 1 + 1)) = true) := by show _ = _; rw [HI.out, Hall.out, hp]; rfl
        clear hp
        go_wp2
        go_region_held3 (fun w' => w'.cell? ⟨b, off + k * 4, none⟩ = some (.string f.pt) ∧ w'.cell? ⟨b, off + k * 4 + 1, none⟩ = some (.string f.nm) ∧ w'.cell? ⟨b, off + k * 4 + 2, none⟩ = some (.int .i64 f.d) ∧ w'.cell? ⟨b, off + k * 4 + 3, none⟩ = some (.bool f.first) ∧ w'.cell? ⟨b, off + (k + 1) * 4, none⟩ = some (.string g.pt) ∧ w'.cell? ⟨b, off + (k + 1) * 4 + 1, none⟩ = some (.string g.nm) ∧ w'.cell? ⟨b, off + (k + 1) * 4 + 2, none⟩ = some (.int .i64 g.d) ∧ w'.cell? ⟨b, off + (k + 1) * 4 + 3, none⟩ = some (.bool g.first)) (first | go_keep | (simp only [kc]; go_keep))
          (first | (go_at_call 41; refine (HC.out _).mono ?_; rintro e w1 ⟨rfl, hb1⟩; have kc := fun o => hb1.cell (p := ⟨b, o, none⟩) hbl))
        go_wp2
        go_roundw
        case rel =>
          exact ⟨k + 1, .inl (by omega), by go_num, Hall2, hbel.drew.trans (hb1.mono hsz)⟩
        case measure => simp [intOf]; omega
      | false =>
        have HR : Hid (incB Ch.lt l = false) := incB_false_of_take (k := k + 1 + 1) (by rw [HI.out, Hall.out, hp]; rfl)
        have t1 : decide ((0 : Int) ≤ C) = true := by
          have h := HL.out
          rw [show chLt f.pt f.nm f.d g.pt g.nm g.d = false from hp, decide_eq_false_iff_not] at h
          rw [decide_eq_true_eq]; omega
        clear hp
        go_wp2
        go_region_held3 (fun w' => w'.cell? ⟨b, off + k * 4, none⟩ = some (.string f.pt) ∧ w'.cell? ⟨b, off + k * 4 + 1, none⟩ = some (.string f.nm) ∧ w'.cell? ⟨b, off + k * 4 + 2, none⟩ = some (.int .i64 f.d) ∧ w'.cell? ⟨b, off + k * 4 + 3, none⟩ = some (.bool f.first) ∧ w'.cell? ⟨b, off + (k + 1) * 4, none⟩ = some (.string g.pt) ∧ w'.cell? ⟨b, off + (k + 1) * 4 + 1, none⟩ = some (.string g.nm) ∧ w'.cell? ⟨b, off + (k + 1) * 4 + 2, none⟩ = some (.int .i64 g.d) ∧ w'.cell? ⟨b, off + (k + 1) * 4 + 3, none⟩ = some (.bool g.first)) (first | go_keep | (simp only [kc]; go_keep))
          (first | (go_at_call 41; refine (HC.out _).mono ?_; rintro e w1 ⟨rfl, hb1⟩; have kc := fun o => hb1.cell (p := ⟨b, o, none⟩) hbl))
        go_wp2
        go_ret
        exact ⟨ret_bool' HR.out.symm, hbel.drew.trans (hb1.mono hsz)⟩
    · have HR : Hid (incB Ch.lt l = true) := by
        show _ = _
        have := Hall.out
        rwa [List.take_of_length_le (by omega)] at this
      have t1 : ¬ ((k : Int) + 1 < (l.length : Int)) := by omega
      go_wp2
      go_ret
      exact ⟨ret_bool' HR.out.symm, hbel⟩
end Go.Proofs.YtofbngpckllkoacGreat

namespace Go.Proofs.YtofbngpckllkoacGreat
open Go.RowKit

theorem cell_three_new (w : World) (a b c : Value) (t : TypeId) : ∀ j u, [a, b, c][j]? = some u → (w.alloc (.cells #[a, b, c] t)).cell? ((⟨w.heap.size, 0, none⟩ : Addr).add j) = some u := by
  intro j u hj
  match j, hj with
  | 0, hj => simp at hj; subst hj; simp [Addr.add]
  | 1, hj => simp at hj; subst hj; simp [Addr.add]
  | 2, hj => simp at hj; subst hj; simp [Addr.add]
theorem cell_four_new (w : World) (a b c d : Value) (t : TypeId) : ∀ j u, [a, b, c, d][j]? = some u → (w.alloc (.cells #[a, b, c, d] t)).cell? ((⟨w.heap.size, 0, none⟩ : Addr).add j) = some u := by
  intro j u hj
  match j, hj with
  | 0, hj => simp at hj; subst hj; simp [Addr.add]
  | 1, hj => simp at hj; subst hj; simp [Addr.add]
  | 2, hj => simp at hj; subst hj; simp [Addr.add]
  | 3, hj => simp at hj; subst hj; simp [Addr.add]
theorem fx_oneCell (f : Fx) : ∀ u ∈ f.cells, u.oneCell' = true := by
  intro u hu
  simp [Fx.cells] at hu
  rcases hu with rfl | rfl | rfl <;> rfl
theorem ch_oneCell (f : Ch) : ∀ u ∈ f.cells, u.oneCell' = true := by
  intro u hu
  simp [Ch.cells] at hu
  rcases hu with rfl | rfl | rfl | rfl <;> rfl
theorem filter_take_true {α : Type} {p : α → Bool} {l : List α} {k : Nat} {f : α} (hf : l[k]? = some f) (hp : p f = true) : (l.take (k + 1)).filter p = (l.take k).filter p ++ [f] := by
  rw [List.take_add_one, hf, List.filter_append]; simp [hp]
theorem filter_take_false {α : Type} {p : α → Bool} {l : List α} {k : Nat} {f : α} (hf : l[k]? = some f) (hp : p f = false) : (l.take (k + 1)).filter p = (l.take k).filter p := by
  rw [List.take_add_one, hf, List.filter_append]; simp [hp]
theorem filter_take_le {α : Type} (p : α → Bool) (l : List α) (k : Nat) : ((l.take k).filter p).length ≤ k :=
  Nat.le_trans (List.length_filter_le _ _) (List.length_take_le _ _)
/-- A slice of the call's own comes back. -/
def OwnPost {α : Type} (enc : α → List Value) (E : TypeId) (m : Nat) (w : World) (l : List α) (e : Ending) (w' : World) : Prop :=
  ∃ ad cap, e = .returned (.slice ad l.length cap) ∧ w'.ownsRow w.heap.size E m (.slice ad l.length cap) l.length (l.flatMap enc) ∧ Below w.heap.size w w'
theorem cells_string : Tryz.prog.cellsOf 9 = 1 := by kernel_rfl
theorem cells_int : Tryz.prog.cellsOf 3 = 1 := by kernel_rfl
theorem cells_bool : Tryz.prog.cellsOf 4 = 1 := by kernel_rfl
def Ch.fits (f : Ch) : Prop := (Lit.int .i64 f.d).wf = true
def Fx.fits (f : Fx) : Prop := (Lit.int .i64 f.d).wf = true
theorem ul_fixings : Tryz.prog.underlying 25 = some (.slice 46) := by kernel_rfl
theorem ul_choices : Tryz.prog.underlying 26 = some (.slice 48) := by kernel_rfl
theorem info_fixing : (Tryz.prog.info? 46).map (fun i => (i.zero, i.size, i.bytes)) = some (some (.agg #[.string ⟨#[]⟩, .int .i64 0, .string ⟨#[]⟩]), 3, 40) := by kernel_rfl
theorem info_choice : (Tryz.prog.info? 48).map (fun i => (i.zero, i.size, i.bytes)) = some (some (.agg #[.string ⟨#[]⟩, .string ⟨#[]⟩, .int .i64 0, .bool false]), 4, 48) := by kernel_rfl

/-- What a call hands back that makes knowledge. -/
def EnvPost (w : World) (er : Int) (fs : List Fx) (cs : List Ch) (e : Ending) (w' : World) : Prop :=
  ∃ a1 c1 a2 c2, e = .returned (.tuple #[.agg #[.slice a1 fs.length c1, .slice a2 cs.length c2], .int .i64 er]) ∧
    w'.ownsRow w.heap.size 46 3 (.slice a1 fs.length c1) fs.length (fs.flatMap Fx.cells) ∧
    w'.ownsRow w.heap.size 48 4 (.slice a2 cs.length c2) cs.length (cs.flatMap Ch.cells) ∧ Below w.heap.size w w'
theorem envPost_none {w w' : World} {er : Int} (hb : Below w.heap.size w w') : EnvPost w er [] [] (.returned (.tuple #[.agg #[.slice none 0 0, .slice none 0 0], .int .i64 er])) w' :=
  ⟨none, 0, none, 0, rfl, World.ownsRow_nil _ _ _ _, World.ownsRow_nil _ _ _ _, hb⟩
end Go.Proofs.YtofbngpckllkoacGreat

namespace Go.Proofs.YtofbngpckllkoacGreat
open Go.RowKit Go.ChangeShapes Go.WideShapes Go.Deep

theorem bulk_one {H : Type} (d : DataW H) : 1 ≤ Rows.uptoBulk d := by
  cases d with
  | lit l => cases l <;> simp [Rows.uptoBulk]
  | _ => simp [Rows.uptoBulk]
theorem bulk_part {H : Type} {d : DataW H} {l : List (DataW H)} (h : d ∈ l) : Rows.uptoBulk d ≤ Rows.uptoBulkAll l := by
  induction l with
  | nil => cases h
  | cons x r ih =>
    simp only [Rows.uptoBulkAll]
    rcases List.mem_cons.1 h with e | e
    · subst e; omega
    · have := ih e; omega
theorem bulk_length {H : Type} (l : List (DataW H)) : l.length ≤ Rows.uptoBulkAll l := by
  induction l with
  | nil => simp [Rows.uptoBulkAll]
  | cons x r ih => have := bulk_one x; simp only [Rows.uptoBulkAll, List.length_cons]; omega
theorem bulk_agg {H : Type} {d : DataW H} {l : List (DataW H)} (h : d ∈ l) : Rows.uptoBulk d ≤ Rows.uptoBulk (.agg l) := by
  have := bulk_part h
  simp only [Rows.uptoBulk]; omega
theorem bulk_text {H : Type} (s : ByteArray) : s.size ≤ Rows.uptoBulk (DataW.lit (H := H) (.string s.data.toList)) := by
  simp only [Rows.uptoBulk, Array.length_toList]
  show s.data.size ≤ _
  omega

theorem list_of {α : Type} {Q : Nat → α → Prop} : ∀ n : Nat, (∀ i, i < n → ∃ x, Q i x) → ∃ l : List α, l.length = n ∧ ∀ i x, l[i]? = some x → Q i x
  | 0, _ => ⟨[], rfl, by simp⟩
  | n + 1, h => by
    obtain ⟨l, hl, hq⟩ := list_of n (fun i hi => h i (by omega))
    obtain ⟨x, hx⟩ := h n (by omega)
    refine ⟨l ++ [x], by simp [hl], fun i y hy => ?_⟩
    by_cases hi : i < l.length
    · rw [List.getElem?_append_left hi] at hy
      exact hq i y hy
    · have hi2 := (List.getElem?_eq_some_iff.1 hy).1
      simp at hi2
      obtain rfl : i = l.length := by omega
      simp at hy
      rw [hl, ← hy]; exact hx

theorem flat_inv {α : Type} (enc : α → List Value) (m : Nat) (hm : ∀ x, (enc x).length = m) (hm0 : 0 < m) : ∀ (l : List α) (j : Nat) (u : Value), (l.flatMap enc)[j]? = some u → ∃ i k x, j = i * m + k ∧ k < m ∧ l[i]? = some x ∧ (enc x)[k]? = some u
  | [], j, u, h => by simp at h
  | y :: l, j, u, h => by
    rw [List.flatMap_cons] at h
    by_cases hj : j < m
    · rw [List.getElem?_append_left (by rw [hm]; exact hj)] at h
      exact ⟨0, j, y, by simp, hj, rfl, h⟩
    · rw [List.getElem?_append_right (by rw [hm]; omega), hm] at h
      obtain ⟨i, k, x, h1, h2, h3, h4⟩ := flat_inv enc m hm hm0 l (j - m) u h
      exact ⟨i + 1, k, x, by rw [Nat.add_mul, Nat.one_mul]; omega, h2, by simpa using h3, h4⟩

section
variable {H : Type} {enc : TypeId × Value → H} {P : Program} {w : World} {sp : Nat → Bool} {held : Bool}

theorem open_list {α : Type} (en : α → List Value) (m : Nat) (hm : ∀ x, (en x).length = m) (hm0 : 0 < m) (good : α → DataW H → Prop) {t e : TypeId} {fuel : Nat} {v : Value} {y : DataW H × List MemPlace}
    (ht : P.underlying t = some (.slice e)) (hc : P.cellsOf e = m)
    (dec : ∀ (n : Nat) (cs : List Value) (z : DataW H × List MemPlace), cs.length = m → DataW.trod enc P w 0 sp held n e cs = some z → ∃ x, cs = en x ∧ good x z.1)
    (h : DataW.trod enc P w 0 sp held fuel t [v] = some y) :
    ∃ (ad : Option Addr) (cap : Nat) (l : List α), v = .slice ad l.length cap ∧ (ad = none → cap = 0) ∧ Sl w (.slice ad l.length cap) m l.length (l.flatMap en) ∧
      l.length ≤ Rows.uptoBulk y.1 ∧ ∀ x ∈ l, ∃ d, good x d ∧ Rows.uptoBulk d ≤ Rows.uptoBulk y.1 := by
  rcases open_slice ht h with ⟨h0, hy⟩ | ⟨a, len, cap, mm, n, D, Pl, hcs, hb, hl, hmx, hmm, hx, hi⟩
  · simp at h0
    exact ⟨none, 0, [], h0, fun _ => rfl, Sl.empty w none 0 m, Nat.zero_le _, by simp⟩
  · have hlm : len ≤ mm := by rw [hmm]; split <;> omega
    obtain ⟨l, hll, hq⟩ := list_of (Q := fun i x => w.cells? 0 (a.add (i * m)) m = some (en x) ∧ good x (D i)) len (fun i hil => by
      obtain ⟨cs', h1, h2⟩ := hi i (by omega)
      rw [hc] at h1
      obtain ⟨x, hx, hg⟩ := dec n cs' _ (World.cells?_some h1).2.1 h2
      exact ⟨x, by rw [← hx]; exact h1, hg⟩)
    have hspot : 0 < len → a.spot = none := fun h0 => by
      obtain ⟨x, hx⟩ : ∃ x, l[0]? = some x := ⟨_, List.getElem?_eq_getElem (by omega)⟩
      have h1 := (World.cells?_some (hq 0 x hx).1).2.2 0 hm0
      rw [Nat.zero_mul] at h1
      have h2 : w.cell? a = (en x)[0]? := h1
      rw [List.getElem?_eq_getElem (by rw [hm]; exact hm0)] at h2
      simp only [World.cell?] at h2
      cases hsp : a.spot with
      | none => rfl
      | some k => rw [hsp] at h2; simp at h2; split at h2 <;> simp at h2
    simp at hcs
    have hbulk : ∀ i, i < len → Rows.uptoBulk (D i) ≤ Rows.uptoBulk y.1 := fun i hil => by
      have := bulk_part (H := H) (d := D i) (l := (List.range len).map D) (List.mem_map.2 ⟨i, by simpa using hil, rfl⟩)
      rw [hx]
      simp only [Rows.uptoBulk]
      omega
    refine ⟨some a, cap, l, by rw [hll]; exact hcs, fun h => (by cases h), ?_, ?_, ?_⟩
    · refine ⟨some a, cap, rfl, by omega, flat_length en m hm l, ?_⟩
      by_cases h0 : l.length = 0
      · exact .inl h0
      · right
        have hs := hspot (by omega)
        obtain ⟨b, off, sp⟩ := a
        simp at hs
        subst hs
        refine ⟨b, off, rfl, fun j u hj => ?_⟩
        obtain ⟨i, k, x, rfl, hk, h3, h4⟩ := flat_inv en m hm hm0 l j u hj
        have h5 := (World.cells?_some (hq i x h3).1).2.2 k hk
        rw [h4] at h5
        rw [← h5]
        congr 1
        simp only [Addr.add]
        split <;> split <;> simp_all <;> omega
    · have h1 := bulk_length ((List.range len).map D)
      rw [List.length_map, List.length_range] at h1
      rw [hx]
      simp only [Rows.uptoBulk]
      omega
    · intro x hxl
      obtain ⟨i, hix⟩ := List.getElem?_of_mem hxl
      have hil := (List.getElem?_eq_some_iff.1 hix).1
      exact ⟨D i, (hq i x hix).2, hbulk i (by omega)⟩

theorem arr2 {α : Type} {l : List α} (h : l.length = 2) : ∃ a b, l = [a, b] := by
  match l, h with
  | [a, b], _ => exact ⟨a, b, rfl⟩
theorem arr3 {α : Type} {l : List α} (h : l.length = 3) : ∃ a b c, l = [a, b, c] := by
  match l, h with
  | [a, b, c], _ => exact ⟨a, b, c, rfl⟩
theorem arr4 {α : Type} {l : List α} (h : l.length = 4) : ∃ a b c d, l = [a, b, c, d] := by
  match l, h with
  | [a, b, c, d], _ => exact ⟨a, b, c, d, rfl⟩
end
end Go.Proofs.YtofbngpckllkoacGreat

namespace Go.Proofs.YtofbngpckllkoacGreat
open Go.RowKit Go.ChangeShapes Go.WideShapes Go.Deep

section
variable {H : Type} {enc : TypeId × Value → H} {w : World} {sp : Nat → Bool} {held : Bool}

theorem cells_rat : Tryz.prog.cellsOf 44 = 1 := by kernel_rfl

theorem dec_fx {n : Nat} {cs : List Value} {z : DataW H × List MemPlace} (hl : cs.length = 3) (h : DataW.trod enc Tryz.prog w 0 sp held n 46 cs = some z) :
    ∃ f : Fx, cs = f.cells ∧ f.fits ∧ (Rows.uptoBulk z.1 ≤ 1048576 → f.small) := by
  obtain ⟨c0, c1, c2, rfl⟩ := arr3 hl
  obtain ⟨xs, n', _, hz, _, hxl, hf⟩ := DataW.trod_struct Tryz.underlying46 h
  obtain ⟨y0, y1, y2, rfl⟩ := arr3 hxl
  have h0 := hf 0 _ rfl
  have h1 := hf 1 _ rfl
  have h2 := hf 2 _ rfl
  simp [cells_string, cells_int, cells_rat] at h0 h1 h2
  obtain ⟨s, hs, rfl, _⟩ := DataW.trod_string Tryz.underlying9 h0
  obtain ⟨d, hd, rfl, hw⟩ := DataW.trod_int Tryz.underlying3 h1
  obtain ⟨v, hv, rfl, _⟩ := DataW.trod_string Tryz.underlying44 h2
  simp at hs hd hv
  subst hs hd hv
  refine ⟨⟨s, d, v⟩, rfl, hw, fun hb => ?_⟩
  rw [hz] at hb
  have b0 := bulk_agg (H := H) (d := .lit (.string s.data.toList)) (l := [.lit (.string s.data.toList), .lit (.int .i64 d), .lit (.string v.data.toList)]) (by simp)
  have b2 := bulk_agg (H := H) (d := .lit (.string v.data.toList)) (l := [.lit (.string s.data.toList), .lit (.int .i64 d), .lit (.string v.data.toList)]) (by simp)
  have q0 := bulk_text (H := H) s
  have q2 := bulk_text (H := H) v
  have hb' : Rows.uptoBulk (DataW.agg (H := H) [.lit (.string s.data.toList), .lit (.int .i64 d), .lit (.string v.data.toList)]) ≤ 1048576 := hb
  exact ⟨by show s.size ≤ _; omega, by show v.size ≤ _; omega⟩
theorem dec_ch {n : Nat} {cs : List Value} {z : DataW H × List MemPlace} (hl : cs.length = 4) (h : DataW.trod enc Tryz.prog w 0 sp held n 48 cs = some z) :
    ∃ f : Ch, cs = f.cells ∧ f.fits ∧ (Rows.uptoBulk z.1 ≤ 1048576 → f.small) := by
  obtain ⟨c0, c1, c2, c3, rfl⟩ := arr4 hl
  obtain ⟨xs, n', _, hz, _, hxl, hf⟩ := DataW.trod_struct Tryz.underlying48 h
  obtain ⟨y0, y1, y2, y3, rfl⟩ := arr4 hxl
  have h0 := hf 0 _ rfl
  have h1 := hf 1 _ rfl
  have h2 := hf 2 _ rfl
  have h3 := hf 3 _ rfl
  simp [cells_string, cells_int, cells_bool] at h0 h1 h2 h3
  obtain ⟨s, hs, rfl, _⟩ := DataW.trod_string Tryz.underlying9 h0
  obtain ⟨v, hv, rfl, _⟩ := DataW.trod_string Tryz.underlying9 h1
  obtain ⟨d, hd, rfl, hw⟩ := DataW.trod_int Tryz.underlying3 h2
  obtain ⟨b, hb, rfl⟩ := DataW.trod_bool Tryz.underlying4 h3
  simp at hs hd hv hb
  subst hs hd hv hb
  refine ⟨⟨s, v, d, b⟩, rfl, hw, fun hb => ?_⟩
  rw [hz] at hb
  have b0 := bulk_agg (H := H) (d := .lit (.string s.data.toList)) (l := [.lit (.string s.data.toList), .lit (.string v.data.toList), .lit (.int .i64 d), .lit (.bool b)]) (by simp)
  have b2 := bulk_agg (H := H) (d := .lit (.string v.data.toList)) (l := [.lit (.string s.data.toList), .lit (.string v.data.toList), .lit (.int .i64 d), .lit (.bool b)]) (by simp)
  have q0 := bulk_text (H := H) s
  have q2 := bulk_text (H := H) v
  have hb' : Rows.uptoBulk (DataW.agg (H := H) [.lit (.string s.data.toList), .lit (.string v.data.toList), .lit (.int .i64 d), .lit (.bool b)]) ≤ 1048576 := hb
  exact ⟨by show s.size ≤ _; omega, by show v.size ≤ _; omega⟩
end
end Go.Proofs.YtofbngpckllkoacGreat

namespace Go.Proofs.YtofbngpckllkoacGreat
open Go.RowKit

/-- W is w but for new memory. -/
def Ext (w W : World) : Prop := Below w.heap.size w W
theorem Ext.cell {w W : World} (h : Ext w W) {b o : Nat} {v : Value} (hc : w.cell? ⟨b, o, none⟩ = some v) : W.cell? ⟨b, o, none⟩ = some v := by
  rw [Below.cell h (p := ⟨b, o, none⟩) (World.block_lt_of_cell? w _ hc)]; exact hc
theorem Ext.below {w W : World} (h : Ext w W) : Below w.heap.size w W := h
theorem ext_calls {P : Program} {f : FuncId} {args : Array Value} {v : Value} {w : World} (h : ∀ W, Calls P f args W fun e w' => e = .returned v ∧ Below W.heap.size W w') (W : World) (hW : Ext w W) :
    Calls P f args W fun e w'' => e = .returned v ∧ Ext w w'' :=
  (h W).mono fun _ _ ⟨he, hb⟩ => ⟨he, Below.trans hW (hb.mono (Below.size hW))⟩
theorem ext_same {P : Program} {f : FuncId} {args : Array Value} {v : Value} {w : World} (h : ∀ W, Calls P f args W fun e w' => e = .returned v ∧ W = w') (W : World) (hW : Ext w W) :
    Calls P f args W fun e w'' => e = .returned v ∧ Ext w w'' :=
  (h W).mono fun _ _ ⟨he, hb⟩ => ⟨he, hb ▸ hW⟩
theorem wp_region_ext {P : Program} {id : Nat} {Q : Exit → Act → World → Prop} {a : Act} {w : World} {l : List Oper} (F : World → Prop) (hF : ∀ W, Ext w W → F W)
    (hm : P.follows .mixedOrders = true) (hB : Region.lexB .any l.toArray = true)
    (h : (∀ W, Ext w W → F W) → wpQuiet P l.toArray (Ext w) (fun a' => ∀ w', Ext w w' → Q .normal a' w') l a) : (Code.region id l.toArray true).wp P Q a w :=
  wp_region_quiet (C := Ext w) hm hB (Below.drew (Below.refl _ _)) (by simpa using h hF)
end Go.Proofs.YtofbngpckllkoacGreat
