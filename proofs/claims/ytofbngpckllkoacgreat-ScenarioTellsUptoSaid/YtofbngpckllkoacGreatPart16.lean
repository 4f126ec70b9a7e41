/-
  novationref02.fraction, Four, Cross.  Printed by tools/genrefratops.py. novationref02.Mul, Div.  Printed by tools/genrefratmd.py. Variables of any number of cells. novationref32.Inverse. A world whose blocks of one's own are turned; rows of one's own as lists that can be read. A round that writes into one element of a row of the call's own. (*scenario.keeper).got.
-/
import Derived.Test.YtofbngpckllkoacGreatPart15
import Derived.Test.YtofbngpckllkoacGreatPart13
import Derived.Test.YtofbngpckllkoacGreatPart12
import Derived.Test.YtofbngpckllkoacGreatPart02
import Derived.Test.YtofbngpckllkoacGreatPart06
import Derived.Maps.AppendAt
namespace Go.Proofs.YtofbngpckllkoacGreat
open Go.RowKit

theorem written_any (s : ByteArray) (w : World) (hs : s.size ≤ 1100000) : Calls Tryz.prog 59 #[.string s] w (TwoPost w (numS s) (denS s)) := by
  rcases slash_cases s with h1 | ⟨o, h1, ho⟩
  · have := written_none s w (by omega) h1
    unfold numS denS
    rw [if_pos h1, if_pos h1]
    exact this
  · have := written_some s w o h1 ho (by omega)
    unfold numS denS
    have hne : ¬ slashI s = -1 := by rw [h1]; omega
    rw [if_neg hne, if_neg hne, h1]
    exact this

set_option maxHeartbeats 1000000 in
set_option maxRecDepth 100000 in
theorem fraction_err (a b : ByteArray) (e f : Int) (w : World) (h : e ≠ 0 ∨ f ≠ 0) :
    Calls Tryz.prog 53 #[.string a, .string b, .int .i64 e, .int .i64 f] w (GcdErr w 14) := by
  by_cases he : e = 0
  · have hf : f ≠ 0 := h.resolve_left (fun k => k he)
    have t1 : (e != 0) = false := by rw [he]; rfl
    have t2 : (f != 0) = true := by rw [bne_iff_ne]; exact hf
    clear h he hf
    go_enter Tryz.func53, Tryz.ntmps53
    go_wp2
    go_ret2
    exact ⟨rfl, Below.refl _ _⟩
  · have t1 : (e != 0) = true := by rw [bne_iff_ne]; exact he
    clear h he
    go_enter Tryz.func53, Tryz.ntmps53
    go_wp2
    go_ret2
    exact ⟨rfl, Below.refl _ _⟩
set_option maxHeartbeats 1000000 in
set_option maxRecDepth 100000 in
theorem fraction_ok (a b : ByteArray) (l : List UInt8) (w : World) (HM : Hid (∀ W, Calls Tryz.prog 81 #[.string a, .string b] W (MakeOk W l))) :
    Calls Tryz.prog 53 #[.string a, .string b, .int .i64 0, .int .i64 0] w (MakeOk w l) := by
  go_enter Tryz.func53, Tryz.ntmps53
  go_wp2_with fail
  refine (HM.out _).mono ?_
  rintro e w1 ⟨t, rfl, ht, hb⟩
  have Ht := Lib.hid ht
  clear ht
  go_wp2
  go_ret2
  exact ⟨t, rfl, Ht.out, hb⟩

def FourPost (w : World) (n d m c : ByteArray) (er : Int) (e : Ending) (w' : World) : Prop := e = .returned (.tuple #[.string n, .string d, .string m, .string c, .int .i64 er]) ∧ Below w.heap.size w w'

set_option maxHeartbeats 1000000 in
set_option maxRecDepth 100000 in
theorem four_err1 (a b : ByteArray) (w : World) (ha : a.size ≤ 1100000) (h : ratErr a ≠ 0) :
    Calls Tryz.prog 51 #[.string a, .string b] w (FourPost w ⟨#[]⟩ ⟨#[]⟩ ⟨#[]⟩ ⟨#[]⟩ (ratErr a)) := by
  have HA := Lib.hid (fun W => refrat_any a W ha)
  generalize ratErr a = er at HA h ⊢
  have t1 : (er != 0) = true := by rw [bne_iff_ne]; exact h
  clear h ha
  go_enter Tryz.func51, Tryz.ntmps51
  go_wp2_with fail
  refine (HA.out _).mono ?_
  rintro e w1 ⟨rfl, hb1⟩
  go_wp2_with fail
  refine (HA.out _).mono ?_
  rintro e w2 ⟨rfl, hb2⟩
  have hb := hb1.trans (hb2.mono hb1.size)
  clear hb1 hb2
  go_wp2
  refine bodyPost_ret (v := .tuple #[.string ⟨#[]⟩, .string ⟨#[]⟩, .string ⟨#[]⟩, .string ⟨#[]⟩, .int .i64 er]) (by simp [results, Tryz.results51, go_sem]) rfl ⟨rfl, hb⟩
set_option maxHeartbeats 1000000 in
set_option maxRecDepth 100000 in
theorem four_err2 (a b : ByteArray) (w : World) (ha : a.size ≤ 1100000) (hb : b.size ≤ 1100000) (h0 : ratErr a = 0) (h : ratErr b ≠ 0) :
    Calls Tryz.prog 51 #[.string a, .string b] w (FourPost w ⟨#[]⟩ ⟨#[]⟩ ⟨#[]⟩ ⟨#[]⟩ (ratErr b)) := by
  have HA := Lib.hid (fun W => refrat_any a W ha)
  have HB := Lib.hid (fun W => refrat_any b W hb)
  rw [h0] at HA
  generalize ratErr b = er at HB h ⊢
  have t1 : (er != 0) = true := by rw [bne_iff_ne]; exact h
  clear h ha hb h0
  go_enter Tryz.func51, Tryz.ntmps51
  go_wp2_with fail
  refine (HA.out _).mono ?_
  rintro e w1 ⟨rfl, hb1⟩
  go_wp2_with fail
  refine (HB.out _).mono ?_
  rintro e w2 ⟨rfl, hb2⟩
  go_wp2_with fail
  refine (HB.out _).mono ?_
  rintro e w3 ⟨rfl, hb3⟩
  have hb := hb1.trans ((hb2.trans (hb3.mono hb2.size)).mono hb1.size)
  clear hb1 hb2 hb3
  go_wp2
  refine bodyPost_ret (v := .tuple #[.string ⟨#[]⟩, .string ⟨#[]⟩, .string ⟨#[]⟩, .string ⟨#[]⟩, .int .i64 er]) (by simp [results, Tryz.results51, go_sem]) rfl ⟨rfl, hb⟩
set_option maxHeartbeats 1000000 in
set_option maxRecDepth 100000 in
theorem four_ok (a b : ByteArray) (w : World) (ha : a.size ≤ 1100000) (hb : b.size ≤ 1100000) (h0 : ratErr a = 0) (h : ratErr b = 0) :
    Calls Tryz.prog 51 #[.string a, .string b] w (FourPost w (numS a) (denS a) (numS b) (denS b) 0) := by
  have HA := Lib.hid (fun W => refrat_any a W ha)
  have HB := Lib.hid (fun W => refrat_any b W hb)
  have WA := Lib.hid (fun W => written_any a W ha)
  have WB := Lib.hid (fun W => written_any b W hb)
  rw [h0] at HA
  rw [h] at HB
  generalize numS a = n at *
  generalize numS b = m at *
  generalize denS a = d at *
  generalize denS b = c at *
  clear ha hb h0 h
  go_enter Tryz.func51, Tryz.ntmps51
  go_wp2_with fail
  refine (HA.out _).mono ?_
  rintro e w1 ⟨rfl, hb1⟩
  go_wp2_with fail
  refine (HB.out _).mono ?_
  rintro e w2 ⟨rfl, hb2⟩
  go_wp2_with fail
  refine (WA.out _).mono ?_
  rintro e w3 ⟨rfl, n3, rfl⟩
  go_wp2_with fail
  refine (WB.out _).mono ?_
  rintro e w4 ⟨rfl, n4, rfl⟩
  have hb := below_drewN (below_drewN (hb1.trans (hb2.mono hb1.size)) n3) n4
  rw [World.drewN_drewN] at hb
  clear hb1 hb2
  go_wp2
  refine bodyPost_ret (v := .tuple #[.string n, .string d, .string m, .string c, .int .i64 0]) (by simp [results, Tryz.results51, go_sem]) rfl ⟨rfl, hb⟩
theorem four_any (a b : ByteArray) (w : World) (ha : a.size ≤ 1100000) (hb : b.size ≤ 1100000) :
    Calls Tryz.prog 51 #[.string a, .string b] w (if bE a b = 0 then FourPost w (pN a) (pD a) (pN b) (pD b) 0 else FourPost w ⟨#[]⟩ ⟨#[]⟩ ⟨#[]⟩ ⟨#[]⟩ (bE a b)) := by
  by_cases he : bE a b = 0
  · obtain ⟨ra, rb, _, _, e1, e2, e3, e4⟩ := bE_zero he
    rw [if_pos he, e1, e2, e3, e4]
    exact four_ok a b w ha hb ra rb
  · rw [if_neg he]
    by_cases h0 : ratErr a = 0
    · have e : bE a b = ratErr b := by rw [bE, if_pos h0]
      rw [e] at he ⊢
      exact four_err2 a b w ha hb h0 he
    · have e : bE a b = ratErr a := by rw [bE, if_neg h0]
      rw [e]
      exact four_err1 a b w ha h0

def TwoErr (w : World) (er : Int) (e : Ending) (w' : World) : Prop := e = .returned (.tuple #[.string ⟨#[]⟩, .string ⟨#[]⟩, .int .i64 er]) ∧ Below w.heap.size w w'
def TwoOk (w : World) (x y : List UInt8) (e : Ending) (w' : World) : Prop := ∃ t u, e = .returned (.tuple #[.string t, .string u, .int .i64 0]) ∧ bl t = x ∧ bl u = y ∧ Below w.heap.size w w'

set_option maxHeartbeats 1000000 in
set_option maxRecDepth 100000 in
theorem cross_err (a b : ByteArray) (w : World) (ha : a.size ≤ 1000000) (hb : b.size ≤ 1000000) (h : bE a b ≠ 0) :
    Calls Tryz.prog 75 #[.string a, .string b] w (TwoErr w (bE a b)) := by
  have HF := four_any a b w (by omega) (by omega)
  rw [if_neg h] at HF
  generalize bE a b = er at HF h ⊢
  have t1 : (er != 0) = true := by rw [bne_iff_ne]; exact h
  have HF := Lib.hid HF
  clear h ha hb
  go_enter Tryz.func75, Tryz.ntmps75
  go_wp2_with fail
  refine HF.out.mono ?_
  rintro e w1 ⟨rfl, hb1⟩
  go_wp2
  go_ret3
  exact ⟨rfl, hb1⟩

set_option maxHeartbeats 1000000 in
set_option maxRecDepth 100000 in
theorem cross_big (a b : ByteArray) (w : World) (ha : a.size ≤ 1000000) (hb : b.size ≤ 1000000) (h : bE a b = 0) (hz : zErr (ival (bl (pN a)) * ival (bl (pD b))) ≠ 0 ∨ zErr (ival (bl (pN b)) * ival (bl (pD a))) ≠ 0) :
    Calls Tryz.prog 75 #[.string a, .string b] w (TwoErr w 14) := by
  have HF := four_any a b w (by omega) (by omega)
  rw [if_pos h] at HF
  obtain ⟨ra, rb, _, _, e1, e2, e3, e4⟩ := bE_zero h
  obtain ⟨q1, q2, q3, q4⟩ := part_sizes a b ha hb
  obtain ⟨_, _, eN, eD, _⟩ := bE_zero h
  rw [eN] at q2
  rw [eD] at q4
  obtain ⟨na, da, _, _⟩ := rat_parts ra
  obtain ⟨nb, db, _, _⟩ := rat_parts rb
  rw [← e1] at na
  rw [← e2] at da
  rw [← e3] at nb
  rw [← e4] at db
  have HX := Lib.hid (fun W => rmul_ok (pN a) (pD b) W q1 q4 na db)
  have HY := Lib.hid (fun W => rmul_ok (pN b) (pD a) W q2 q3 nb da)
  generalize ival (bl (pN a)) * ival (bl (pD b)) = z1 at *
  generalize ival (bl (pN b)) * ival (bl (pD a)) = z2 at *
  have HF := Lib.hid HF
  clear ra rb e1 e2 e3 e4 q1 q2 q3 q4 eN eD na da nb db ha hb h
  generalize pN a = n at HF HX
  generalize pN b = m at HF HY
  generalize pD a = d at HF HY
  generalize pD b = c at HF HX
  unfold IntPost at HX HY
  generalize zErr z1 = f1 at *
  generalize zErr z2 = f2 at *
  by_cases hf : f1 = 0
  · have hf2 : f2 ≠ 0 := hz.resolve_left (fun k => k hf)
    have t1 : (f1 != 0) = false := by rw [hf]; rfl
    have t2 : (f2 != 0) = true := by rw [bne_iff_ne]; exact hf2
    clear hf hf2 hz
    go_enter Tryz.func75, Tryz.ntmps75
    go_wp2_with fail
    refine HF.out.mono ?_
    rintro e w1 ⟨rfl, hb1⟩
    go_wp2_with fail
    refine (HX.out _).mono ?_
    rintro e w2 ⟨x, rfl, hx, hb2⟩
    go_wp2_with fail
    refine (HY.out _).mono ?_
    rintro e w3 ⟨y, rfl, hy, hb3⟩
    have hbz := hb1.trans ((hb2.trans (hb3.mono hb2.size)).mono hb1.size)
    have Hx := Lib.hid hx
    have Hy := Lib.hid hy
    clear hx hy hb1 hb2 hb3 HF HX HY
    go_wp2
    go_ret3
    exact ⟨rfl, hbz⟩
  · have t1 : (f1 != 0) = true := by rw [bne_iff_ne]; exact hf
    clear hf hz
    go_enter Tryz.func75, Tryz.ntmps75
    go_wp2_with fail
    refine HF.out.mono ?_
    rintro e w1 ⟨rfl, hb1⟩
    go_wp2_with fail
    refine (HX.out _).mono ?_
    rintro e w2 ⟨x, rfl, hx, hb2⟩
    go_wp2_with fail
    refine (HY.out _).mono ?_
    rintro e w3 ⟨y, rfl, hy, hb3⟩
    have hbz := hb1.trans ((hb2.trans (hb3.mono hb2.size)).mono hb1.size)
    have Hx := Lib.hid hx
    have Hy := Lib.hid hy
    clear hx hy hb1 hb2 hb3 HF HX HY
    go_wp2
    go_ret3
    exact ⟨rfl, hbz⟩
set_option maxHeartbeats 1000000 in
set_option maxRecDepth 100000 in
theorem cross_ok (a b : ByteArray) (w : World) (ha : a.size ≤ 1000000) (hb : b.size ≤ 1000000) (h : bE a b = 0) (h1 : zErr (ival (bl (pN a)) * ival (bl (pD b))) = 0) (h2 : zErr (ival (bl (pN b)) * ival (bl (pD a))) = 0) :
    Calls Tryz.prog 75 #[.string a, .string b] w (TwoOk w (zStr (ival (bl (pN a)) * ival (bl (pD b)))) (zStr (ival (bl (pN b)) * ival (bl (pD a))))) := by
  have HF := four_any a b w (by omega) (by omega)
  rw [if_pos h] at HF
  obtain ⟨ra, rb, _, _, e1, e2, e3, e4⟩ := bE_zero h
  obtain ⟨q1, q2, q3, q4⟩ := part_sizes a b ha hb
  obtain ⟨_, _, eN, eD, _⟩ := bE_zero h
  rw [eN] at q2
  rw [eD] at q4
  obtain ⟨na, da, _, _⟩ := rat_parts ra
  obtain ⟨nb, db, _, _⟩ := rat_parts rb
  rw [← e1] at na
  rw [← e2] at da
  rw [← e3] at nb
  rw [← e4] at db
  have HX := Lib.hid (fun W => rmul_ok (pN a) (pD b) W q1 q4 na db)
  have HY := Lib.hid (fun W => rmul_ok (pN b) (pD a) W q2 q3 nb da)
  generalize ival (bl (pN a)) * ival (bl (pD b)) = z1 at *
  generalize ival (bl (pN b)) * ival (bl (pD a)) = z2 at *
  have HF := Lib.hid HF
  clear ra rb e1 e2 e3 e4 q1 q2 q3 q4 eN eD na da nb db ha hb h
  generalize pN a = n at HF HX
  generalize pN b = m at HF HY
  generalize pD a = d at HF HY
  generalize pD b = c at HF HX
  unfold IntPost at HX HY
  rw [h1] at HX
  rw [h2] at HY
  clear h1 h2
  go_enter Tryz.func75, Tryz.ntmps75
  go_wp2_with fail
  refine HF.out.mono ?_
  rintro e w1 ⟨rfl, hb1⟩
  go_wp2_with fail
  refine (HX.out _).mono ?_
  rintro e w2 ⟨x, rfl, hx, hb2⟩
  go_wp2_with fail
  refine (HY.out _).mono ?_
  rintro e w3 ⟨y, rfl, hy, hb3⟩
  have hbz := hb1.trans ((hb2.trans (hb3.mono hb2.size)).mono hb1.size)
  have Hx := Lib.hid hx
  have Hy := Lib.hid hy
  clear hx hy hb1 hb2 hb3 HF HX HY
  go_wp2
  go_ret3
  exact ⟨x, y, rfl, Hx.out, Hy.out, hbz⟩
end Go.Proofs.YtofbngpckllkoacGreat

namespace Go.Proofs.YtofbngpckllkoacGreat
open Go.RowKit

theorem zStr_sizeR {t : ByteArray} {z : Int} (h : bl t = zStr z) : t.size ≤ 1002 := by rw [← bl_length, h]; exact zStr_len z
theorem fraction_md (a b n m : ByteArray) (z y : Int) (w : World) (h : bE a b = 0) (hy : y ≠ 0) (hn : bl n = zStr z) (hm : bl m = zStr y) :
    Calls Tryz.prog 53 #[.string n, .string m, .int .i64 (zErr z), .int .i64 (zErr y)] w (RatPost2 w (frS a b z y) (frE a b z y)) := by
  by_cases hz : zErr z ≠ 0 ∨ zErr y ≠ 0
  · have hE := frE_big h hz
    rw [frS, hE, if_neg (by decide)]
    refine (fraction_err n m _ _ w hz).mono ?_
    rintro e w' ⟨rfl, hb⟩
    exact ⟨_, rfl, rfl, hb⟩
  · have k3 : zErr z = 0 := by
      rcases Int.decEq (zErr z) 0 with k | k
      · exact absurd (.inl k) hz
      · exact k
    have k4 : zErr y = 0 := by
      rcases Int.decEq (zErr y) 0 with k | k
      · exact absurd (.inr k) hz
      · exact k
    have hE := frE_ok h k3 k4
    obtain ⟨j3, i3, v3⟩ := zStr_ok k3
    obtain ⟨j4, i4, v4⟩ := zStr_ok k4
    have hyn : y.natAbs ≠ 0 := by omega
    have HM := Lib.hid (fun W => rmake_all n m W (by have := zStr_sizeR hn; omega) (by have := zStr_sizeR hm; omega) (by rw [hn]; exact i3) (by rw [hm]; exact i4) (by rw [hm, j4, dval_istr]; exact hyn))
    rw [k3, k4]
    refine (fraction_ok n m _ w HM).mono ?_
    rintro e w' ⟨t, rfl, ht, hb⟩
    refine ⟨t, by rw [hE], ?_, hb⟩
    rw [ht, frS, if_pos hE, hm, hn, j3, j4, dval_istr, dval_istr, isNeg_istr, isNeg_istr, decide_eq_true hyn, Bool.and_true]
    by_cases h0 : z.natAbs = 0
    · rw [h0]; exact ratTxt_zero _ _ _
    · rw [decide_eq_true h0, Bool.and_true]

set_option maxHeartbeats 1000000 in
set_option maxRecDepth 100000 in
theorem rratmul_bad (a b : ByteArray) (w : World) (ha : a.size ≤ 1000000) (hb : b.size ≤ 1000000) (h : bE a b ≠ 0) :
    Calls Tryz.prog 27 #[.string a, .string b] w (RatPost2 w (mulS a b) (mulE a b)) := by
  have hE : mulE a b = bE a b := by rw [mulE, frE_bad h]
  have hS : mulS a b = [] := by rw [mulS, frS_err (by rw [frE_bad h]; exact h)]
  rw [hE, hS]
  have HF := four_any a b w (by omega) (by omega)
  rw [if_neg h] at HF
  clear hE hS
  generalize bE a b = er at HF h ⊢
  have t1 : (er != 0) = true := by rw [bne_iff_ne]; exact h
  have HF := Lib.hid HF
  clear h ha hb
  go_enter Tryz.func27, Tryz.ntmps27
  go_wp2_with fail
  refine HF.out.mono ?_
  rintro e w1 ⟨rfl, hb1⟩
  go_wp2
  go_ret2
  exact ⟨_, rfl, rfl, hb1⟩

set_option maxHeartbeats 2000000 in
set_option maxRecDepth 100000 in
theorem rratmul_ok (a b : ByteArray) (w : World) (ha : a.size ≤ 1000000) (hb : b.size ≤ 1000000) (h : bE a b = 0) :
    Calls Tryz.prog 27 #[.string a, .string b] w (RatPost2 w (mulS a b) (mulE a b)) := by
  have HF := four_any a b w (by omega) (by omega)
  rw [if_pos h] at HF
  obtain ⟨ra, rb, eN, eD, e1, e2, e3, e4⟩ := bE_zero h
  obtain ⟨q1, q2, q3, q4⟩ := part_sizes a b ha hb
  rw [eN] at q2
  rw [eD] at q4
  obtain ⟨na, da, _, _⟩ := rat_parts ra
  obtain ⟨nb, db, _, _⟩ := rat_parts rb
  have pa := ival_den ra
  have pb := ival_den rb
  rw [← e1] at na
  rw [← e2] at da pa
  rw [← e3] at nb
  rw [← e4] at db pb
  have HX := Lib.hid (fun W => rmul_ok (pN a) (pN b) W q1 q2 na nb)
  have HY := Lib.hid (fun W => rmul_ok (pD a) (pD b) W q3 q4 da db)
  have hy : ival (bl (pD a)) * ival (bl (pD b)) ≠ 0 := Int.mul_ne_zero (by omega) (by omega)
  have HFr := Lib.hid (fun W n m hn hm => fraction_md a b n m (ival (bl (pN a)) * ival (bl (pN b))) (ival (bl (pD a)) * ival (bl (pD b))) W h hy hn hm)
  have hE : mulE a b = frE a b (ival (bl (pN a)) * ival (bl (pN b))) (ival (bl (pD a)) * ival (bl (pD b))) := by rfl
  have hS : mulS a b = frS a b (ival (bl (pN a)) * ival (bl (pN b))) (ival (bl (pD a)) * ival (bl (pD b))) := by rfl
  rw [hE, hS]
  skip
  unfold IntPost at HX HY
  have HF := Lib.hid HF
  clear ra rb eN eD e1 e2 e3 e4 q1 q2 q3 q4 na da nb db pa pb hy hE hS h ha hb
  generalize frS a b (ival (bl (pN a)) * ival (bl (pN b))) (ival (bl (pD a)) * ival (bl (pD b))) = S at *
  generalize frE a b (ival (bl (pN a)) * ival (bl (pN b))) (ival (bl (pD a)) * ival (bl (pD b))) = E at *
  generalize ival (bl (pN a)) * ival (bl (pN b)) = z1 at *
  generalize ival (bl (pD a)) * ival (bl (pD b)) = z2 at *
  generalize pN a = n at *
  generalize pN b = m at *
  generalize pD a = d at *
  generalize pD b = c at *
  generalize zErr z1 = f1 at *
  generalize zErr z2 = f2 at *
  generalize zStr z1 = s1 at *
  generalize zStr z2 = s2 at *
  go_enter Tryz.func27, Tryz.ntmps27
  go_wp2_with fail
  refine HF.out.mono ?_
  rintro e w1 ⟨rfl, hb1⟩
  go_wp2_with fail
  refine (HX.out _).mono ?_
  rintro e w2 ⟨x, rfl, hx, hb2⟩
  go_wp2_with fail
  refine (HY.out _).mono ?_
  rintro e w3 ⟨y, rfl, hy, hb3⟩
  have HFr2 := Lib.hid (fun W => HFr.out W x y hx hy)
  have hbz := hb1.trans ((hb2.trans (hb3.mono hb2.size)).mono hb1.size)
  clear hx hy HFr HX HY HF hb1 hb2 hb3
  go_wp2_with fail
  refine (HFr2.out _).mono ?_
  rintro e w5 ⟨t, rfl, ht, hb5⟩
  have hbf := hbz.trans (hb5.mono hbz.size)
  have Ht := Lib.hid ht
  clear ht hbz hb5
  go_wp2
  go_ret2
  exact ⟨t, rfl, Ht.out, hbf⟩

theorem rratmul_any (a b : ByteArray) (w : World) (ha : a.size ≤ 1000000) (hb : b.size ≤ 1000000) :
    Calls Tryz.prog 27 #[.string a, .string b] w (RatPost2 w (mulS a b) (mulE a b)) := by
  by_cases h : bE a b = 0
  · exact rratmul_ok a b w ha hb h
  · exact rratmul_bad a b w ha hb h

set_option maxHeartbeats 1000000 in
set_option maxRecDepth 100000 in
theorem rratdiv_bad (a b : ByteArray) (w : World) (ha : a.size ≤ 1000000) (hb : b.size ≤ 1000000) (h : bE a b ≠ 0) :
    Calls Tryz.prog 26 #[.string a, .string b] w (RatPost2 w (divS a b) (divE a b)) := by
  have hE : divE a b = bE a b := by rw [divE, if_neg (fun k => h k.1), frE_bad h]
  have hS : divS a b = [] := by rw [divS, if_neg (fun k => h k.1), frS_err (by rw [frE_bad h]; exact h)]
  rw [hE, hS]
  have HF := four_any a b w (by omega) (by omega)
  rw [if_neg h] at HF
  clear hE hS
  generalize bE a b = er at HF h ⊢
  have t1 : (er != 0) = true := by rw [bne_iff_ne]; exact h
  have HF := Lib.hid HF
  clear h ha hb
  go_enter Tryz.func26, Tryz.ntmps26
  go_wp2_with fail
  refine HF.out.mono ?_
  rintro e w1 ⟨rfl, hb1⟩
  go_wp2
  go_ret2
  exact ⟨_, rfl, rfl, hb1⟩

set_option maxHeartbeats 1000000 in
set_option maxRecDepth 100000 in
theorem rratdiv_zero (a b : ByteArray) (w : World) (ha : a.size ≤ 1000000) (hb : b.size ≤ 1000000) (h : bE a b = 0) (hn0 : bl (pN b) = [48]) :
    Calls Tryz.prog 26 #[.string a, .string b] w (RatPost2 w (divS a b) (divE a b)) := by
  have hE : divE a b = 16 := by rw [divE, if_pos ⟨h, hn0⟩]
  have hS : divS a b = [] := by rw [divS, if_pos ⟨h, hn0⟩]
  rw [hE, hS]
  have HF := four_any a b w (by omega) (by omega)
  rw [if_pos h, eq_lit hn0] at HF
  have HF := Lib.hid HF
  clear hE hS h hn0 ha hb
  go_enter Tryz.func26, Tryz.ntmps26
  go_wp2_with fail
  refine HF.out.mono ?_
  rintro e w1 ⟨rfl, hb1⟩
  go_wp2
  go_ret2
  exact ⟨_, rfl, rfl, hb1⟩

set_option maxHeartbeats 2000000 in
set_option maxRecDepth 100000 in
theorem rratdiv_ok (a b : ByteArray) (w : World) (ha : a.size ≤ 1000000) (hb : b.size ≤ 1000000) (h : bE a b = 0) (hn0 : bl (pN b) ≠ [48]) :
    Calls Tryz.prog 26 #[.string a, .string b] w (RatPost2 w (divS a b) (divE a b)) := by
  have HF := four_any a b w (by omega) (by omega)
  rw [if_pos h] at HF
  obtain ⟨ra, rb, eN, eD, e1, e2, e3, e4⟩ := bE_zero h
  obtain ⟨q1, q2, q3, q4⟩ := part_sizes a b ha hb
  rw [eN] at q2
  rw [eD] at q4
  obtain ⟨na, da, _, _⟩ := rat_parts ra
  obtain ⟨nb, db, _, _⟩ := rat_parts rb
  have pa := ival_den ra
  have pb := ival_num rb (by rw [← e3]; exact hn0)
  rw [← e1] at na
  rw [← e2] at da pa
  rw [← e3] at nb pb
  rw [← e4] at db
  have HX := Lib.hid (fun W => rmul_ok (pN a) (pD b) W q1 q4 na db)
  have HY := Lib.hid (fun W => rmul_ok (pD a) (pN b) W q3 q2 da nb)
  have hy : ival (bl (pD a)) * ival (bl (pN b)) ≠ 0 := Int.mul_ne_zero (by omega) pb
  have HFr := Lib.hid (fun W n m hn hm => fraction_md a b n m (ival (bl (pN a)) * ival (bl (pD b))) (ival (bl (pD a)) * ival (bl (pN b))) W h hy hn hm)
  have hE : divE a b = frE a b (ival (bl (pN a)) * ival (bl (pD b))) (ival (bl (pD a)) * ival (bl (pN b))) := by rw [divE, if_neg (fun k => hn0 k.2)]
  have hS : divS a b = frS a b (ival (bl (pN a)) * ival (bl (pD b))) (ival (bl (pD a)) * ival (bl (pN b))) := by rw [divS, if_neg (fun k => hn0 k.2)]
  rw [hE, hS]
  have tn := ne_lit hn0
  unfold IntPost at HX HY
  have HF := Lib.hid HF
  clear ra rb eN eD e1 e2 e3 e4 q1 q2 q3 q4 na da nb db pa pb hy hE hS h ha hb hn0
  generalize frS a b (ival (bl (pN a)) * ival (bl (pD b))) (ival (bl (pD a)) * ival (bl (pN b))) = S at *
  generalize frE a b (ival (bl (pN a)) * ival (bl (pD b))) (ival (bl (pD a)) * ival (bl (pN b))) = E at *
  generalize ival (bl (pN a)) * ival (bl (pD b)) = z1 at *
  generalize ival (bl (pD a)) * ival (bl (pN b)) = z2 at *
  generalize pN a = n at *
  generalize pN b = m at *
  generalize pD a = d at *
  generalize pD b = c at *
  generalize zErr z1 = f1 at *
  generalize zErr z2 = f2 at *
  generalize zStr z1 = s1 at *
  generalize zStr z2 = s2 at *
  go_enter Tryz.func26, Tryz.ntmps26
  go_wp2_with fail
  refine HF.out.mono ?_
  rintro e w1 ⟨rfl, hb1⟩
  go_wp2_with fail
  refine (HX.out _).mono ?_
  rintro e w2 ⟨x, rfl, hx, hb2⟩
  go_wp2_with fail
  refine (HY.out _).mono ?_
  rintro e w3 ⟨y, rfl, hy, hb3⟩
  have HFr2 := Lib.hid (fun W => HFr.out W x y hx hy)
  have hbz := hb1.trans ((hb2.trans (hb3.mono hb2.size)).mono hb1.size)
  clear hx hy HFr HX HY HF hb1 hb2 hb3
  go_wp2_with fail
  refine (HFr2.out _).mono ?_
  rintro e w5 ⟨t, rfl, ht, hb5⟩
  have hbf := hbz.trans (hb5.mono hbz.size)
  have Ht := Lib.hid ht
  clear ht hbz hb5
  go_wp2
  go_ret2
  exact ⟨t, rfl, Ht.out, hbf⟩

theorem rratdiv_any (a b : ByteArray) (w : World) (ha : a.size ≤ 1000000) (hb : b.size ≤ 1000000) :
    Calls Tryz.prog 26 #[.string a, .string b] w (RatPost2 w (divS a b) (divE a b)) := by
  by_cases h : bE a b = 0
  · by_cases hn0 : bl (pN b) = [48]
    · exact rratdiv_zero a b w ha hb h hn0
    · exact rratdiv_ok a b w ha hb h hn0
  · exact rratdiv_bad a b w ha hb h
end Go.Proofs.YtofbngpckllkoacGreat

namespace Go.Proofs.YtofbngpckllkoacGreat
open Go.RowKit

def BoxN (W : World) (B : Nat) (t : TypeId) (cs : List Value) : Prop := W.heap[B]? = some (.cells cs.toArray t (0, 0))
section
variable {W W' : World} {B : Nat} {t : TypeId} {cs : List Value}
theorem BoxN.lt (h : BoxN W B t cs) : B < W.heap.size := (Array.getElem?_eq_some_iff.1 h).1
theorem BoxN.cell (h : BoxN W B t cs) {j : Nat} {u : Value} (hj : cs[j]? = some u) : W.cell? ⟨B, j, none⟩ = some u := by
  simp [World.cell?, show W.heap[B]? = _ from h, hj]
theorem BoxN.frozen (h : BoxN W B t cs) (o : Nat) : W.frozen? ⟨B, o, none⟩ = false := by simp [World.frozen?, show W.heap[B]? = _ from h]
theorem BoxN.of_block (h : BoxN W B t cs) (e : W'.heap[B]? = W.heap[B]?) : BoxN W' B t cs := e.trans h
theorem BoxN.new (w : World) (cs : List Value) (t : TypeId) : BoxN (w.alloc (.cells cs.toArray t)) w.heap.size t cs := by
  show (w.heap.push _)[w.heap.size]? = _
  simp
theorem BoxN.alloc (h : BoxN W B t cs) (o : Obj) : BoxN (W.alloc o) B t cs := h.of_block (Below.heap_alloc _ _ _ h.lt)
theorem BoxN.below {B0 : Nat} (h : BoxN W B t cs) (hb : Below B0 W W') (hB : B < B0) : BoxN W' B t cs := h.of_block (hb.block _ hB)
theorem BoxN.set (h : BoxN W B t cs) (j : Nat) (x : Value) : BoxN (W.setCell ⟨B, j, none⟩ x) B t (cs.set j x) := by
  have e := heap_set_same h j x
  unfold BoxN
  rw [e]
  simp
theorem BoxN.far (h : BoxN W B t cs) {a : Addr} (ha : B ≠ a.block) (x : Value) : BoxN (W.setCell a x) B t cs := h.of_block (Below.heap_setCell _ _ _ _ ha)
end
theorem Boxed2.far {W : World} {B : Nat} {t : TypeId} {u v : Value} (h : Boxed2 W B t u v) {a : Addr} (ha : B ≠ a.block) (x : Value) : Boxed2 (W.setCell a x) B t u v := h.of_block (Below.heap_setCell _ _ _ _ ha)
theorem Boxed2.low {W W' : World} {B B0 : Nat} {t : TypeId} {u v : Value} (h : Boxed2 W B t u v) (hb : Below B0 W W') (hB : B < B0) : Boxed2 W' B t u v := h.of_block (hb.block _ hB)
theorem Boxed2.n {W : World} {B : Nat} {t : TypeId} {u v : Value} (h : Boxed2 W B t u v) : BoxN W B t [u, v] := h
theorem BoxN.two {W : World} {B : Nat} {t : TypeId} {u v : Value} (h : BoxN W B t [u, v]) : Boxed2 W B t u v := h
end Go.Proofs.YtofbngpckllkoacGreat

namespace Go.Proofs.YtofbngpckllkoacGreat
open Go.RowKit

/-- A scenario and an error: a row of its own. -/
def ScnPost (w : World) (er : Int) (l : List Sh) (e : Ending) (w' : World) : Prop :=
  ∃ ad cap, e = .returned (.tuple #[.agg #[.slice ad l.length cap], .int .i64 er]) ∧ w'.ownsRow w.heap.size 50 4 (.slice ad l.length cap) l.length (l.flatMap Sh.cells) ∧ Below w.heap.size w w'
theorem scnPost_none {w w' : World} {er : Int} (hb : Below w.heap.size w w') : ScnPost w er [] (.returned (.tuple #[.agg #[.slice none 0 0], .int .i64 er])) w' :=
  ⟨none, 0, rfl, World.ownsRow_nil _ _ _ _, hb⟩
theorem rd_sh {w : World} {base n c : Nat} {e : TypeId} {a : Option Addr} {l : List Sh} (h : w.ownsRow base e 4 (.slice a n c) n (l.flatMap Sh.cells)) : Rd Sh.cells 4 w a l := by
  obtain ⟨hl, h2⟩ := h
  have e : n = l.length := by rw [flat_length Sh.cells 4 (fun _ => rfl)] at hl; omega
  subst e
  exact Rd.of_sl (enc := Sh.cells) (m := 4) (fun _ => rfl) (by decide) (Sl.of_owns ⟨hl, h2⟩)
theorem inv_snoc {l : List Sh} {k : Nat} {x : Sh} (hx : l[k]? = some x) : ((l.take (k + 1)).map inv) = ((l.take k).map inv) ++ [inv x] := by
  rw [take_snoc_get hx, List.map_append]; rfl

set_option maxHeartbeats 2000000 in
set_option maxRecDepth 100000 in
theorem rinverse_bad (l : List Sh) (ad : Option Addr) (cap : Nat) (w : World)
    (HV : Hid (∀ W, Below w.heap.size w W → Calls Tryz.prog 14 #[.agg #[.slice ad l.length cap]] W fun e w' => e = .returned (.bool (scnB l)) ∧ Below W.heap.size W w'))
    (hv : scnB l = false) :
    Calls Tryz.prog 10 #[.agg #[.slice ad l.length cap]] w (ScnPost w (inverseE l) (inverseL l)) := by
  obtain ⟨e1, e2⟩ := inverse_bad hv
  rw [hv] at HV
  rw [e1, e2]
  clear e1 e2 hv
  have bx := Lib.hid (fun (o1 : Obj) => BoxN.new (w.alloc o1) [.slice none 0 0] 24)
  go_enter Tryz.func10, Tryz.ntmps10
  go_wp2_with fail
  refine (HV.out _ (below_a2 _ _ _)).mono ?_
  rintro e w1 ⟨rfl, hb1⟩
  have hs1 := hb1.size
  simp at hs1
  have bR := (bx.out _).below hb1 (by simp)
  simp at bR
  have hbel : Below w.heap.size w w1 := (below_a2 _ _ _).trans (hb1.mono (by simp; omega))
  clear hb1 bx HV
  have q0 : w1.cell? ⟨w.heap.size + 1, 0, none⟩ = some (.slice none 0 0) := bR.cell rfl
  have z0 := bR.frozen 0
  have HS := Lib.hid (bR.set 0 (.slice none 0 0))
  have HW := Lib.hid (hbel.setCell (p := ⟨w.heap.size + 1, 0, none⟩) (by show _ ≤ _ + 1; omega) (.slice none 0 0))
  clear bR hbel
  go_wp2
  obtain ⟨W3, hW3⟩ : ∃ W3, W3 = (w1.setCell ⟨w.heap.size + 1, 0, none⟩ (.slice none 0 0)) := ⟨_, rfl⟩
  rw [← hW3]
  rw [← hW3] at HS HW
  have c0 : W3.cell? ⟨w.heap.size + 1, 0, none⟩ = some (.slice none 0 0) := HS.out.cell rfl
  refine bodyPost_ret (v := .tuple #[.agg #[.slice none 0 0], .int .i64 8]) (by simp [results, Tryz.results10, go_sem, c0]) rfl (scnPost_none HW.out)

set_option maxHeartbeats 4000000 in
set_option maxRecDepth 100000 in
theorem rinverse_ok (l : List Sh) (ad : Option Addr) (cap : Nat) (w : World) (hn : l.length ≤ 1100000)
    (HV : Hid (∀ W, Below w.heap.size w W → Calls Tryz.prog 14 #[.agg #[.slice ad l.length cap]] W fun e w' => e = .returned (.bool (scnB l)) ∧ Below W.heap.size W w'))
    (hv : scnB l = true) (hr : Rd Sh.cells 4 w ad l) (hs : ∀ x ∈ l, x.ra.size ≤ 1000000 ∧ x.ex.size ≤ 1000000) :
    Calls Tryz.prog 10 #[.agg #[.slice ad l.length cap]] w (ScnPost w (inverseE l) (inverseL l)) := by
  have HNum : Hid (∀ (k : Nat) (x : Sh), l[k]? = some x → errs ((l.take k).map invE) = 0 → invE x ≠ 0 → inverseE l = invE x ∧ inverseL l = []) := fun k x h h0 hx => inverse_num hv h h0 hx
  have HOk : Hid (errs (l.map invE) = 0 → inverseE l = 0 ∧ inverseL l = l.map inv) := fun h => inverse_ok hv h
  rw [hv] at HV
  have HR := Lib.hid hr
  have HSm := Lib.hid hs
  obtain ⟨i0, ji0, jz0, js0, jb0⟩ := info_parts info_shift
  clear hv hr hs
  have bx := Lib.hid (fun (o1 : Obj) => BoxN.new (w.alloc o1) [.slice none 0 0] 24)
  have bx0 := Lib.hid (fun (o1 : Obj) => (BoxN.new w [.slice ad l.length cap] 24).alloc o1)
  go_enter Tryz.func10, Tryz.ntmps10
  go_wp2_with fail
  refine (HV.out _ (below_a2 _ _ _)).mono ?_
  rintro e w1 ⟨rfl, hb1⟩
  have hs1 := hb1.size
  simp at hs1
  have bR := (bx.out _).below hb1 (by simp)
  have bS := (bx0.out _).below hb1 (by simp; omega)
  simp at bR
  have hbel : Below w.heap.size w w1 := (below_a2 _ _ _).trans (hb1.mono (by simp; omega))
  clear hb1 bx bx0 HV
  have bO := BoxN.new w1 [.slice none 0 0] 24
  have hb4 := below_a1 w1 (.cells #[.slice none 0 0] 24)
  have HbR := Lib.hid bR
  have HbS := Lib.hid bS
  have Hbel := Lib.hid hbel
  clear bR bS hbel
  go_wp2_with fail
  go_loopw [5] (fun i wr => ∃ (k : Nat) (adb : Option Addr) (capb : Nat), k ≤ l.length ∧ i = .int .i64 k ∧ Hid (errs ((l.take k).map invE) = 0) ∧ wr.ownsRow (w1.heap.size + 1) 50 4 (.slice adb k capb) k (((l.take k).map inv).flatMap Sh.cells) ∧ Below w1.heap.size w1 wr ∧ BoxN wr w1.heap.size 24 [.slice adb k capb]) (fun i _ => l.length - (intOf i).toNat)
  case atStart => exact ⟨0, none, 0, Nat.zero_le _, rfl, Lib.hid rfl, World.ownsRow_nil _ _ _ _, hb4, bO⟩
  case round =>
    clear hb4 bO
    obtain ⟨k, adb, capb, hk, rfl, HI, hown, hbr, bO⟩ := hrel
    have bS := HbS.out.below hbr (by omega)
    have bR := HbR.out.below hbr (by omega)
    have k0 : wr.cell? ⟨w.heap.size, 0, none⟩ = some (.slice ad l.length cap) := bS.cell rfl
    have hzr := hbr.size
    have hO := bO.lt
    have hbel := Hbel.out.trans (hbr.mono (by omega))
    have hq0 : w.heap.size < wr.heap.size := by omega
    by_cases hlt : k < l.length
    · obtain ⟨x, hx⟩ : ∃ x, l[k]? = some x := ⟨_, List.getElem?_eq_getElem hlt⟩
      have HRf := ((HR.out.below hbel).sh hx)
      obtain ⟨s1, s2⟩ := HSm.out x (List.mem_of_getElem? hx)
      have HX := Lib.hid hx
      obtain ⟨b, off, rfl, hc1, hc2, hc3, hc4⟩ := HRf
      have hblk : b < wr.heap.size := World.block_lt_of_cell? wr _ hc1
      have hk1 : (0 : Int) ≤ (k : Int) := by omega
      have hk2 : (k : Int) < (l.length : Int) := by omega
      have H1 : Hid (∀ W, Calls Tryz.prog 26 #[.string ⟨#[49]⟩, .string x.ra] W fun e w' => e = .returned (.tuple #[.string (mkB (divS oneB x.ra)), .int .i64 (divE oneB x.ra)]) ∧ Below W.heap.size W w') := fun W => (rratdiv_any oneB x.ra W (by decide) s1).mono fun _ _ h => h.val
      have H2 : Hid (∀ W, Calls Tryz.prog 27 #[.string x.ex, .string ⟨#[45, 49]⟩] W fun e w' => e = .returned (.tuple #[.string (invM x), .int .i64 (mulE x.ex negB)]) ∧ Below W.heap.size W w') := fun W => (rratmul_any x.ex negB W s2 (by decide)).mono fun _ _ h => h.val
      have H3 : Hid (∀ W, Calls Tryz.prog 26 #[.string (invM x), .string x.ra] W fun e w' => e = .returned (.tuple #[.string (mkB (divS (invM x) x.ra)), .int .i64 (divE (invM x) x.ra)]) ∧ Below W.heap.size W w') := fun W => (rratdiv_any (invM x) x.ra W (Nat.le_trans (mulS_size _ _) (by decide)) s1).mono fun _ _ h => h.val
      have bT := Lib.hid (BoxN.new wr [.string x.nm, .int .i64 x.fr, .string x.ra, .string x.ex] 50)
      have HE1 : Hid (divE oneB x.ra ≠ 0 → invE x = divE oneB x.ra) := inv_div
      have HE2 : Hid (divE oneB x.ra = 0 → mulE x.ex negB ≠ 0 → invE x = mulE x.ex negB) := inv_mul
      have HE3 : Hid (divE oneB x.ra = 0 → mulE x.ex negB = 0 → invE x = divE (invM x) x.ra) := inv_last
      have HIx : Hid (inv x = ⟨x.nm, x.fr, mkB (divS oneB x.ra), mkB (divS (invM x) x.ra)⟩) := rfl
      clear hx bS s1 s2
      generalize mkB (divS oneB x.ra) = r1 at H1 HIx
      generalize mkB (divS (invM x) x.ra) = r3 at H3 HIx
      generalize invM x = r2 at H2 H3 HE3
      generalize divE oneB x.ra = n1 at H1 HE1 HE2 HE3
      generalize mulE x.ex negB = n2 at H2 HE2 HE3
      generalize divE r2 x.ra = n3 at H3 HE3
      go_wp2_with fail
      refine (H1.out _).mono ?_
      rintro e w5 ⟨rfl, hb5⟩
      have hs5 := hb5.size
      simp at hs5
      have bT5 := bT.out.below hb5 (by simp)
      have hb6 : Below wr.heap.size wr w5 := (below_a1 _ _).trans (hb5.mono (by simp))
      clear hb5 bT H1 k0 hc1 hc2 hc3 hc4
      have p3 : w5.cell? ⟨wr.heap.size, 3, none⟩ = some (.string x.ex) := bT5.cell rfl
      by_cases g1 : n1 = 0
      · rw [g1]
        go_wp2_with fail
        refine (H2.out _).mono ?_
        rintro e w6 ⟨rfl, hb7⟩
        have hs6 := hb7.size
        have bT6 := bT5.below hb7 (by omega)
        have hb8 : Below wr.heap.size wr w6 := hb6.trans (hb7.mono (by omega))
        clear hb7 hb6 bT5 H2 p3
        have p2 : w6.cell? ⟨wr.heap.size, 2, none⟩ = some (.string x.ra) := bT6.cell rfl
        by_cases g2 : n2 = 0
        · rw [g2]
          go_wp2_with fail
          refine (H3.out _).mono ?_
          rintro e w7 ⟨rfl, hb9⟩
          have hs7 := hb9.size
          have bT7 := bT6.below hb9 (by omega)
          have hb10 : Below wr.heap.size wr w7 := hb8.trans (hb9.mono (by omega))
          clear hb8 hb9 bT6 H3 p2
          have bO7 := bO.below hb10 hO
          have hbr7 : Below w1.heap.size w1 w7 := hbr.trans (hb10.mono (by omega))
          by_cases g3 : n3 = 0
          · rw [g3]
            have hxe : invE x = 0 := by rw [HE3.out g1 g2, g3]
            have HI2 : Hid (errs ((l.take (k + 1)).map invE) = 0) := errs_take_map_snoc HX.out HI.out hxe
            have hown7 := ownsRow_below' hown hb10
            have HSn : Hid (((l.take (k + 1)).map inv) = ((l.take k).map inv) ++ [inv x]) := inv_snoc HX.out
            have p0 : w7.cell? ⟨wr.heap.size, 0, none⟩ = some (.string x.nm) := bT7.cell rfl
            have p1 : w7.cell? ⟨wr.heap.size, 1, none⟩ = some (.int .i64 x.fr) := bT7.cell rfl
            have q0 : w7.cell? ⟨w1.heap.size, 0, none⟩ = some (.slice adb k capb) := bO7.cell rfl
            have hO7 := bO7.lt
            have HO := Lib.hid hown7.lt
            clear g1 g2 g3 hxe hown bO hb10 hbr bT7 bR hbel HE1 HE2 HE3
            go_wp2_with (at_builtin; refine wpList_append_own _ rfl _ _ 22 rfl (w1.heap.size + 1) 50 i0 (.agg #[.string ⟨#[]⟩, .int .i64 0, .string ⟨#[]⟩, .string ⟨#[]⟩]) 4 56 ul_shifts ji0 jz0 js0 jb0 rfl (by decide) _ _ _ rfl (hown7.alloc _) ⟨w7.heap.size, 0, none⟩ 1 1 [.string x.nm, .int .i64 x.fr, .string r1, .string r3] rfl rfl (cell_four_new _ _ _ _ _ _) (sh_oneCell ⟨x.nm, x.fr, r1, r3⟩) ?d1 ?d2 ?d3 ?_)
            case d1 => unfold maxLen; omega
            case d2 => omega
            case d3 => simp; omega
            intro v2 w8 hown8 hgrow8 _
            have bO8 : BoxN w8 w1.heap.size 24 [.slice adb k capb] := (bO7.alloc _).of_block (hgrow8.block _ (by simp; omega) (fun e => by have := (HO.out _ e.symm).1; omega))
            have hbr8 : Below w1.heap.size w1 w8 := (hbr7.alloc (by omega) _).grown hgrow8 (by simp; omega) (fun k hk => by have := (HO.out k hk).1; omega)
            obtain ⟨ad7, cap7, rfl, _⟩ := Sl.of_owns hown8
            have hown9 : w8.ownsRow (w1.heap.size + 1) 50 4 (.slice ad7 (k + 1) cap7) (k + 1) (((l.take (k + 1)).map inv).flatMap Sh.cells) := by
              rw [HSn.out, List.flatMap_append, HIx.out]; simpa [Sh.cells] using hown8
            have rr0 : w8.cell? ⟨w1.heap.size, 0, none⟩ = some (.slice adb k capb) := bO8.cell rfl
            have zz0 := bO8.frozen 0
            clear hgrow8 hown8 hown7 bO7 hbr7 q0
            go_wp2
            go_roundw
            case rel => exact ⟨k + 1, ad7, cap7, by omega, by go_num, HI2, ownsRow_setCell_below hown9 (a := ⟨w1.heap.size, 0, none⟩) (by show w1.heap.size < w1.heap.size + 1; omega) _, hbr8.setCell (p := ⟨w1.heap.size, 0, none⟩) (Nat.le_refl _) _, bO8.set 0 _⟩
            case measure => simp [intOf]; omega
          · have hxe := HE3.out g1 g2
            obtain ⟨e1, e2⟩ := HNum.out k x HX.out HI.out (by rw [hxe]; exact g3)
            have t1 : (n3 != 0) = true := by rw [bne_iff_ne]; exact g3
            have bR7 := bR.below hb10 (by omega)
            have hbel7 := hbel.trans (hb10.mono (by omega))
            clear bR hb10 bO bO7 hbr hbr7 hown bT7 HE1 HE2 HE3 g1 g2 g3
            have q0 : w7.cell? ⟨w.heap.size + 1, 0, none⟩ = some (.slice none 0 0) := bR7.cell rfl
            have z0 := bR7.frozen 0
            have HS := Lib.hid (bR7.set 0 (.slice none 0 0))
            have HW : Hid (ScnPost w (inverseE l) (inverseL l) (.returned (.tuple #[.agg #[.slice none 0 0], .int .i64 n3])) (w7.setCell ⟨w.heap.size + 1, 0, none⟩ (.slice none 0 0))) := by show ScnPost _ _ _ _ _; rw [e1, e2, hxe]; exact scnPost_none (hbel7.setCell (p := ⟨w.heap.size + 1, 0, none⟩) (by show _ ≤ _ + 1; omega) (.slice none 0 0))
            clear bR7 hbel7 e1 e2 hxe
            go_wp2
            obtain ⟨W3, hW3⟩ : ∃ W3, W3 = (w7.setCell ⟨w.heap.size + 1, 0, none⟩ (.slice none 0 0)) := ⟨_, rfl⟩
            rw [← hW3]
            rw [← hW3] at HS HW
            have cz0 : W3.cell? ⟨w.heap.size + 1, 0, none⟩ = some (.slice none 0 0) := HS.out.cell rfl
            refine bodyPost_ret (v := .tuple #[.agg #[.slice none 0 0], .int .i64 n3]) (by simp [results, Tryz.results10, go_sem, cz0]) rfl HW.out
        · have hxe := HE2.out g1 g2
          obtain ⟨e1, e2⟩ := HNum.out k x HX.out HI.out (by rw [hxe]; exact g2)
          have t1 : (n2 != 0) = true := by rw [bne_iff_ne]; exact g2
          have bR7 := bR.below hb8 (by omega)
          have hbel7 := hbel.trans (hb8.mono (by omega))
          clear bR hb8 bO hbr hown bT6 HE1 HE2 HE3 g1 g2
          have q0 : w6.cell? ⟨w.heap.size + 1, 0, none⟩ = some (.slice none 0 0) := bR7.cell rfl
          have z0 := bR7.frozen 0
          have HS := Lib.hid (bR7.set 0 (.slice none 0 0))
          have HW : Hid (ScnPost w (inverseE l) (inverseL l) (.returned (.tuple #[.agg #[.slice none 0 0], .int .i64 n2])) (w6.setCell ⟨w.heap.size + 1, 0, none⟩ (.slice none 0 0))) := by show ScnPost _ _ _ _ _; rw [e1, e2, hxe]; exact scnPost_none (hbel7.setCell (p := ⟨w.heap.size + 1, 0, none⟩) (by show _ ≤ _ + 1; omega) (.slice none 0 0))
          clear bR7 hbel7 e1 e2 hxe
          go_wp2
          obtain ⟨W3, hW3⟩ : ∃ W3, W3 = (w6.setCell ⟨w.heap.size + 1, 0, none⟩ (.slice none 0 0)) := ⟨_, rfl⟩
          rw [← hW3]
          rw [← hW3] at HS HW
          have cz0 : W3.cell? ⟨w.heap.size + 1, 0, none⟩ = some (.slice none 0 0) := HS.out.cell rfl
          refine bodyPost_ret (v := .tuple #[.agg #[.slice none 0 0], .int .i64 n2]) (by simp [results, Tryz.results10, go_sem, cz0]) rfl HW.out
      · have hxe := HE1.out g1
        obtain ⟨e1, e2⟩ := HNum.out k x HX.out HI.out (by rw [hxe]; exact g1)
        have t1 : (n1 != 0) = true := by rw [bne_iff_ne]; exact g1
        have bR7 := bR.below hb6 (by omega)
        have hbel7 := hbel.trans (hb6.mono (by omega))
        clear bR hb6 bO hbr hown bT5 HE1 HE2 HE3 g1
        have q0 : w5.cell? ⟨w.heap.size + 1, 0, none⟩ = some (.slice none 0 0) := bR7.cell rfl
        have z0 := bR7.frozen 0
        have HS := Lib.hid (bR7.set 0 (.slice none 0 0))
        have HW : Hid (ScnPost w (inverseE l) (inverseL l) (.returned (.tuple #[.agg #[.slice none 0 0], .int .i64 n1])) (w5.setCell ⟨w.heap.size + 1, 0, none⟩ (.slice none 0 0))) := by show ScnPost _ _ _ _ _; rw [e1, e2, hxe]; exact scnPost_none (hbel7.setCell (p := ⟨w.heap.size + 1, 0, none⟩) (by show _ ≤ _ + 1; omega) (.slice none 0 0))
        clear bR7 hbel7 e1 e2 hxe
        go_wp2
        obtain ⟨W3, hW3⟩ : ∃ W3, W3 = (w5.setCell ⟨w.heap.size + 1, 0, none⟩ (.slice none 0 0)) := ⟨_, rfl⟩
        rw [← hW3]
        rw [← hW3] at HS HW
        have cz0 : W3.cell? ⟨w.heap.size + 1, 0, none⟩ = some (.slice none 0 0) := HS.out.cell rfl
        refine bodyPost_ret (v := .tuple #[.agg #[.slice none 0 0], .int .i64 n1]) (by simp [results, Tryz.results10, go_sem, cz0]) rfl HW.out
    · obtain rfl : k = l.length := by omega
      have hI := HI.out
      rw [List.take_length] at hI hown
      obtain ⟨e1, e2⟩ := HOk.out hI
      have q0 : wr.cell? ⟨w.heap.size + 1, 0, none⟩ = some (.slice none 0 0) := bR.cell rfl
      have z0 := bR.frozen 0
      have r0 : wr.cell? ⟨w1.heap.size, 0, none⟩ = some (.slice adb l.length capb) := bO.cell rfl
      have HS := Lib.hid (bR.set 0 (.slice adb l.length capb))
      have HW : Hid (ScnPost w (inverseE l) (inverseL l) (.returned (.tuple #[.agg #[.slice adb l.length capb], .int .i64 0])) (wr.setCell ⟨w.heap.size + 1, 0, none⟩ (.slice adb l.length capb))) := by
        show ScnPost _ _ _ _ _
        rw [e1, e2]
        refine ⟨adb, capb, by rw [List.length_map], ?_, hbel.setCell (p := ⟨w.heap.size + 1, 0, none⟩) (by show _ ≤ _ + 1; omega) _⟩
        rw [List.length_map]
        exact ownsRow_base' (ownsRow_setCell_below hown (a := ⟨w.heap.size + 1, 0, none⟩) (by show w.heap.size + 1 < w1.heap.size + 1; omega) _) (by omega)
      clear e1 e2 hI hown hbel bO bR bS
      go_wp2
      obtain ⟨W3, hW3⟩ : ∃ W3, W3 = (wr.setCell ⟨w.heap.size + 1, 0, none⟩ (.slice adb l.length capb)) := ⟨_, rfl⟩
      rw [← hW3]
      rw [← hW3] at HS HW
      have cz0 : W3.cell? ⟨w.heap.size + 1, 0, none⟩ = some (.slice adb l.length capb) := HS.out.cell rfl
      refine bodyPost_ret (v := .tuple #[.agg #[.slice adb l.length capb], .int .i64 0]) (by simp [results, Tryz.results10, go_sem, cz0]) rfl HW.out

theorem rinverse_any (l : List Sh) (ad : Option Addr) (cap : Nat) (w : World) (hl : l.length ≤ 1100000)
    (hr : Rd Sh.cells 4 w ad l) (hs : ∀ x ∈ l, x.small ∧ x.ra.size ≤ 1000000 ∧ x.ex.size ≤ 1000000) :
    Calls Tryz.prog 10 #[.agg #[.slice ad l.length cap]] w (ScnPost w (inverseE l) (inverseL l)) := by
  have HV := Lib.hid (fun W (h : Below w.heap.size w W) => valid_any l ad cap W hl (hr.below h) (fun x hx => (hs x hx).1))
  cases hv : scnB l with
  | false => exact rinverse_bad l ad cap w HV hv
  | true => exact rinverse_ok l ad cap w hl HV hv hr (fun x hx => (hs x hx).2)
end Go.Proofs.YtofbngpckllkoacGreat

namespace Go.Proofs.YtofbngpckllkoacGreat
open Go.RowKit

theorem rd_fx {w : World} {base n c : Nat} {e : TypeId} {a : Option Addr} {l : List Fx} (h : w.ownsRow base e 3 (.slice a n c) n (l.flatMap Fx.cells)) : Rd Fx.cells 3 w a l := by
  obtain ⟨hl, h2⟩ := h
  have e : n = l.length := by rw [flat_length Fx.cells 3 (fun _ => rfl)] at hl; omega
  subst e
  exact Rd.of_sl (enc := Fx.cells) (m := 3) (fun _ => rfl) (by decide) (Sl.of_owns ⟨hl, h2⟩)
theorem rd_ch {w : World} {base n c : Nat} {e : TypeId} {a : Option Addr} {l : List Ch} (h : w.ownsRow base e 4 (.slice a n c) n (l.flatMap Ch.cells)) : Rd Ch.cells 4 w a l := by
  obtain ⟨hl, h2⟩ := h
  have e : n = l.length := by rw [flat_length Ch.cells 4 (fun _ => rfl)] at hl; omega
  subst e
  exact Rd.of_sl (enc := Ch.cells) (m := 4) (fun _ => rfl) (by decide) (Sl.of_owns ⟨hl, h2⟩)

/-- W' is W but for blocks from lo on and below hi. -/
structure Turned (lo hi : Nat) (w w' : World) : Prop where
  os : w'.os = w.os
  tape : w'.tape = w.tape
  output : w'.output = w.output
  size : w'.heap.size = w.heap.size
  block : ∀ k, k < lo ∨ hi ≤ k → w'.heap[k]? = w.heap[k]?
theorem Turned.refl (lo hi : Nat) (w : World) : Turned lo hi w w := ⟨rfl, rfl, rfl, rfl, fun _ _ => rfl⟩
theorem Turned.below {lo hi : Nat} {w w' : World} (h : Turned lo hi w w') : Below lo w w' := ⟨h.os, h.tape, h.output, Nat.le_of_eq h.size.symm, fun k hk => h.block k (.inl hk)⟩
theorem Turned.setCell {lo hi : Nat} {w w' : World} (h : Turned lo hi w w') {a : Addr} (h1 : lo ≤ a.block) (h2 : a.block < hi) (u : Value) : Turned lo hi w (w'.setCell a u) :=
  ⟨h.os, h.tape, h.output, by rw [← h.size]; simp [World.setCell], fun k hk => (Below.heap_setCell _ _ _ _ (by omega)).trans (h.block k hk)⟩
theorem Turned.boxed {lo hi : Nat} {w w' : World} (h : Turned lo hi w w') {B : Nat} {t : TypeId} {u v : Value} (b : Boxed2 w B t u v) (hB : B < lo ∨ hi ≤ B) : Boxed2 w' B t u v := b.of_block (h.block B hB)
theorem owns_some {w : World} {base n c m : Nat} {e : TypeId} {a : Option Addr} {xs : List Value} (h : w.ownsRow base e m (.slice a n c) n xs) (hn : 0 < n) : ∃ g, a = some ⟨g, 0, none⟩ := by
  rcases h.2 with ⟨h', h0⟩ | ⟨g, cap, cur, h', _⟩
  · omega
  · exact ⟨g, (Value.slice.inj h').1⟩

end Go.Proofs.YtofbngpckllkoacGreat

namespace Go.Proofs.YtofbngpckllkoacGreat
open Go.RowKit

structure RSt (wr W : World) (T : TypeId) (m g B0 n cap : Nat) (os : List Value) : Prop where
  gr : wr.grownBy W (some g)
  own : W.ownsRow B0 T m (.slice (some ⟨g, 0, none⟩) n cap) n os
section
variable {wr W W' : World} {T : TypeId} {m g B0 n cap : Nat} {os : List Value}
theorem RSt.start (h : wr.ownsRow B0 T m (.slice (some ⟨g, 0, none⟩) n cap) n os) : RSt wr wr T m g B0 n cap os := ⟨World.grownBy.refl _ _, h⟩
theorem RSt.lt (h : RSt wr W T m g B0 n cap os) : B0 ≤ g ∧ g < W.heap.size := h.own.lt g rfl
theorem RSt.ext (h : RSt wr W T m g B0 n cap os) (hb : Below W.heap.size W W') : RSt wr W' T m g B0 n cap os :=
  ⟨h.gr.trans ⟨hb.os, hb.tape, hb.output, hb.size, fun k hk _ => hb.block k hk⟩, ownsRow_below' h.own hb⟩
theorem RSt.alloc (h : RSt wr W T m g B0 n cap os) (o : Obj) : RSt wr (W.alloc o) T m g B0 n cap os := h.ext (below_a1 _ _)
theorem RSt.set (h : RSt wr W T m g B0 n cap os) (j : Nat) (u : Value) : RSt wr (W.setCell ⟨g, j, none⟩ u) T m g B0 n cap (os.set j u) :=
  ⟨h.gr.trans (h.own.stored j u).2, (h.own.stored j u).1⟩
theorem RSt.but (h : RSt wr W T m g B0 n cap os) {K : Nat} (hK : wr.heap.size ≤ K) (hg : g < wr.heap.size) (hb : Below K W W') (hs : W.heap.size ≤ W'.heap.size) (ho : ∀ b, b ≠ K → W'.heap[b]? = W.heap[b]?) : RSt wr W' T m g B0 n cap os := by
  refine ⟨⟨hb.os.trans h.gr.os, hb.tape.trans h.gr.tape, hb.output.trans h.gr.output, Nat.le_trans h.gr.size hs, fun k hk hne => (ho k (by omega)).trans (h.gr.block k hk hne)⟩, ownsRow_kept h.own fun k hk _ => ho k ?_⟩
  have : g = k := by simpa [Value.ownBlock] using hk
  omega
/-- The frame from an elder world. -/
theorem RSt.below {W0 : World} {B : Nat} (h : RSt wr W T m g B0 n cap os) (h0 : Below B W0 wr) (hB : B ≤ wr.heap.size) (hg : B ≤ g) : Below B W0 W :=
  h0.grown h.gr hB (fun k hk => by obtain rfl := Option.some.inj hk; exact hg)
theorem RSt.box {B : Nat} {t : TypeId} {cs : List Value} (h : RSt wr W T m g B0 n cap os) (hb : BoxN wr B t cs) (hB : B ≠ g) : BoxN W B t cs :=
  hb.of_block (h.gr.block B hb.lt (by simpa using hB))
theorem RSt.box2 {B : Nat} {t : TypeId} {u v : Value} (h : RSt wr W T m g B0 n cap os) (hb : Boxed2 wr B t u v) (hB : B ≠ g) : Boxed2 W B t u v :=
  hb.of_block (h.gr.block B hb.lt (by simpa using hB))
theorem RSt.at (h : RSt wr W T m g B0 n cap os) {j : Nat} {u : Value} (hj : os[j]? = some u) : W.cell? ⟨g, j, none⟩ = some u := by
  have hl : os.length = n * m := h.own.1
  rw [h.own.cellAt j (by rw [← hl]; exact (List.getElem?_eq_some_iff.1 hj).1)]
  exact hj
theorem RSt.ice (h : RSt wr W T m g B0 n cap os) (j : Nat) : W.frozen? ⟨g, j, none⟩ = false := h.own.frozenAt j
end
/-- A list, changed up to k. -/
def upTo {α : Type} (f : α → α) (l : List α) (k : Nat) : List α := (l.take k).map f ++ l.drop k
theorem upTo_zero {α : Type} (f : α → α) (l : List α) : upTo f l 0 = l := by simp [upTo]
theorem upTo_end {α : Type} (f : α → α) (l : List α) : upTo f l l.length = l.map f := by simp [upTo]
theorem upTo_len {α : Type} (f : α → α) (l : List α) (k : Nat) : (upTo f l k).length = l.length := by
  simp [upTo]; omega
theorem drop_get {α : Type} {l : List α} {k : Nat} {x : α} (h : l[k]? = some x) : l.drop k = x :: l.drop (k + 1) := by
  obtain ⟨h1, h2⟩ := List.getElem?_eq_some_iff.1 h
  rw [List.drop_eq_getElem_cons h1, h2]
theorem upTo_split {α : Type} (f : α → α) {l : List α} {k : Nat} {x : α} (h : l[k]? = some x) : upTo f l k = (l.take k).map f ++ (x :: l.drop (k + 1)) := by rw [upTo, drop_get h]
theorem upTo_succ {α : Type} (f : α → α) {l : List α} {k : Nat} {x : α} (h : l[k]? = some x) : upTo f l (k + 1) = (l.take k).map f ++ (f x :: l.drop (k + 1)) := by
  rw [upTo, take_snoc_get h, List.map_append]; simp
theorem upTo_same {α : Type} (f : α → α) {l : List α} {k : Nat} {x : α} (h : l[k]? = some x) (hf : f x = x) : upTo f l (k + 1) = upTo f l k := by rw [upTo_succ f h, upTo_split f h, hf]
theorem set_flat {α : Type} {enc : α → List Value} {m : Nat} (hm : ∀ x, (enc x).length = m) (A B : List α) (x y : α) (k j : Nat) (u : Value) (hA : A.length = k) (hj : j < m) (hs : (enc x).set j u = enc y) :
    ((A ++ (x :: B)).flatMap enc).set (k * m + j) u = (A ++ (y :: B)).flatMap enc := by
  have hl : (A.flatMap enc).length = k * m := by rw [flat_length enc m hm, hA]
  rw [List.flatMap_append, List.flatMap_append, List.flatMap_cons, List.flatMap_cons, List.set_append_right _ _ (by omega), hl]
  rw [show k * m + j - k * m = j by omega, List.set_append_left _ _ (by rw [hm]; exact hj), hs]
theorem get_flat {α : Type} {enc : α → List Value} {m : Nat} (hm : ∀ x, (enc x).length = m) (A B : List α) (x : α) (k j : Nat) (u : Value) (hA : A.length = k) (hs : (enc x)[j]? = some u) :
    ((A ++ (x :: B)).flatMap enc)[k * m + j]? = some u := by
  have hl : (A.flatMap enc).length = k * m := by rw [flat_length enc m hm, hA]
  rw [List.flatMap_append, List.flatMap_cons, List.getElem?_append_right (by omega), hl, show k * m + j - k * m = j by omega, List.getElem?_append_left (List.getElem?_eq_some_iff.1 hs).1, hs]
end Go.Proofs.YtofbngpckllkoacGreat

namespace Go.Proofs.YtofbngpckllkoacGreat
open Go.RowKit

set_option maxHeartbeats 1000000 in
set_option maxRecDepth 100000 in
theorem got_zero (B : Nat) (r : ByteArray) (e : Int) (w : World) (h : BoxN w B 66 [.int .i64 0]) :
    Calls Tryz.prog 23 #[.pointer (some ⟨B, 0, none⟩), .string r, .int .i64 e] w fun x w' => x = .returned (.string r) ∧ w' = w.setCell ⟨B, 0, none⟩ (.int .i64 e) := by
  have hc : w.cell? ⟨B, 0, none⟩ = some (.int .i64 0) := h.cell rfl
  have hf := h.frozen 0
  clear h
  go_enter Tryz.func23, Tryz.ntmps23
  go_wp2
  go_ret
  exact ⟨rfl, rfl⟩

set_option maxHeartbeats 1000000 in
set_option maxRecDepth 100000 in
theorem got_kept (B : Nat) (r : ByteArray) (k e : Int) (w : World) (h : BoxN w B 66 [.int .i64 k]) (hk : k ≠ 0) :
    Calls Tryz.prog 23 #[.pointer (some ⟨B, 0, none⟩), .string r, .int .i64 e] w fun x w' => x = .returned (.string r) ∧ w' = w := by
  have hc : w.cell? ⟨B, 0, none⟩ = some (.int .i64 k) := h.cell rfl
  have t1 : (k == 0) = false := by rw [beq_eq_false_iff_ne]; exact hk
  clear h
  go_enter Tryz.func23, Tryz.ntmps23
  go_wp2
  go_ret
  exact ⟨rfl, rfl⟩

/-- What the keeper keeps of two errors. -/
def kept (k e : Int) : Int := if k = 0 then e else k
theorem got_any (B : Nat) (r : ByteArray) (k e : Int) (w : World) (h : BoxN w B 66 [.int .i64 k]) :
    Calls Tryz.prog 23 #[.pointer (some ⟨B, 0, none⟩), .string r, .int .i64 e] w fun x w' => x = .returned (.string r) ∧ BoxN w' B 66 [.int .i64 (kept k e)] ∧ (∀ b, b ≠ B → w'.heap[b]? = w.heap[b]?) ∧ Below B w w' ∧ w.heap.size ≤ w'.heap.size := by
  by_cases hk : k = 0
  · subst hk
    refine (got_zero B r e w h).mono ?_
    rintro x w' ⟨rfl, rfl⟩
    refine ⟨rfl, ?_, fun b hb => Below.heap_setCell _ _ _ _ (by show b ≠ B; exact hb), (Below.refl _ _).setCell (p := ⟨B, 0, none⟩) (Nat.le_refl _) _, by simp [World.setCell]⟩
    have := h.set 0 (.int .i64 e)
    rw [kept, if_pos rfl]
    exact this
  · refine (got_kept B r k e w h hk).mono ?_
    rintro x w' ⟨rfl, rfl⟩
    exact ⟨rfl, by rw [kept, if_neg hk]; exact h, fun _ _ => rfl, Below.refl _ _, Nat.le_refl _⟩
end Go.Proofs.YtofbngpckllkoacGreat
