/-
  novationref02.fraction, Four, Cross.  Printed by tools/genrefratops.py. novationref02.Add.  Printed by tools/genrefratops.py. novationref02.Negative; subtracting is adding the negative.  Printed by tools/gennegr.py. novationref10.Net.  Printed by tools/gennet.py. append onto an empty slice, from a slice that reads as a list, nil or not. The law MeaningNets itself.  Printed by tools/genlaw10.py.
-/
import Derived.Test.YtofbngpckllkoabPart14
import Derived.Test.YtofbngpckllkoabPart13
import Derived.Test.YtofbngpckllkoabPart12
import Derived.Test.YtofbngpckllkoabPart01
import Derived.Laws.OwnMore
import Derived.Deep.RegionLaw
namespace Go.Proofs.Ytofbngpckllkoab
open Go.RowKit

theorem written_any (s : ByteArray) (w : World) (hs : s.size ≤ 1100000) : Calls Try.prog 35 #[.string s] w (TwoPost w (numS s) (denS s)) := by
  rcases slash_cases s with h1 | ⟨o, h1, ho⟩
  · have := written_none s w (by omega) h1
    unfold numS denS
    rw [if_pos h1, if_pos h1]
    exact this
  · have := written_some s w o h1 ho (by omega)
    unfold numS denS
    have hne : ¬ slashI s = -1 := by rw [h1]; omega
    rw [if_neg hne, if_neg hne, h1]
    exact this

set_option maxHeartbeats 1000000 in
set_option maxRecDepth 100000 in
theorem fraction_err (a b : ByteArray) (e f : Int) (w : World) (h : e ≠ 0 ∨ f ≠ 0) :
    Calls Try.prog 30 #[.string a, .string b, .int .i64 e, .int .i64 f] w (GcdErr w 14) := by
  by_cases he : e = 0
  · have hf : f ≠ 0 := h.resolve_left (fun k => k he)
    have t1 : (e != 0) = false := by rw [he]; rfl
    have t2 : (f != 0) = true := by rw [bne_iff_ne]; exact hf
    clear h he hf
    go_enter Try.func30, Try.ntmps30
    go_wp2
    go_ret2
    exact ⟨rfl, Below.refl _ _⟩
  · have t1 : (e != 0) = true := by rw [bne_iff_ne]; exact he
    clear h he
    go_enter Try.func30, Try.ntmps30
    go_wp2
    go_ret2
    exact ⟨rfl, Below.refl _ _⟩
set_option maxHeartbeats 1000000 in
set_option maxRecDepth 100000 in
theorem fraction_ok (a b : ByteArray) (l : List UInt8) (w : World) (HM : Hid (∀ W, Calls Try.prog 52 #[.string a, .string b] W (MakeOk W l))) :
    Calls Try.prog 30 #[.string a, .string b, .int .i64 0, .int .i64 0] w (MakeOk w l) := by
  go_enter Try.func30, Try.ntmps30
  go_wp2_with fail
  refine (HM.out _).mono ?_
  rintro e w1 ⟨t, rfl, ht, hb⟩
  have Ht := Lib.hid ht
  clear ht
  go_wp2
  go_ret2
  exact ⟨t, rfl, Ht.out, hb⟩

def FourPost (w : World) (n d m c : ByteArray) (er : Int) (e : Ending) (w' : World) : Prop := e = .returned (.tuple #[.string n, .string d, .string m, .string c, .int .i64 er]) ∧ Below w.heap.size w w'

set_option maxHeartbeats 1000000 in
set_option maxRecDepth 100000 in
theorem four_err1 (a b : ByteArray) (w : World) (ha : a.size ≤ 1100000) (h : ratErr a ≠ 0) :
    Calls Try.prog 27 #[.string a, .string b] w (FourPost w ⟨#[]⟩ ⟨#[]⟩ ⟨#[]⟩ ⟨#[]⟩ (ratErr a)) := by
  have HA := Lib.hid (fun W => refrat_any a W ha)
  generalize ratErr a = er at HA h ⊢
  have t1 : (er != 0) = true := by rw [bne_iff_ne]; exact h
  clear h ha
  go_enter Try.func27, Try.ntmps27
  go_wp2_with fail
  refine (HA.out _).mono ?_
  rintro e w1 ⟨rfl, hb1⟩
  go_wp2_with fail
  refine (HA.out _).mono ?_
  rintro e w2 ⟨rfl, hb2⟩
  have hb := hb1.trans (hb2.mono hb1.size)
  clear hb1 hb2
  go_wp2
  refine bodyPost_ret (v := .tuple #[.string ⟨#[]⟩, .string ⟨#[]⟩, .string ⟨#[]⟩, .string ⟨#[]⟩, .int .i64 er]) (by simp [results, Try.results27, go_sem]) rfl ⟨rfl, hb⟩
set_option maxHeartbeats 1000000 in
set_option maxRecDepth 100000 in
theorem four_err2 (a b : ByteArray) (w : World) (ha : a.size ≤ 1100000) (hb : b.size ≤ 1100000) (h0 : ratErr a = 0) (h : ratErr b ≠ 0) :
    Calls Try.prog 27 #[.string a, .string b] w (FourPost w ⟨#[]⟩ ⟨#[]⟩ ⟨#[]⟩ ⟨#[]⟩ (ratErr b)) := by
  have HA := Lib.hid (fun W => refrat_any a W ha)
  have HB := Lib.hid (fun W => refrat_any b W hb)
  rw [h0] at HA
  generalize ratErr b = er at HB h ⊢
  have t1 : (er != 0) = true := by rw [bne_iff_ne]; exact h
  clear h ha hb h0
  go_enter Try.func27, Try.ntmps27
  go_wp2_with fail
  refine (HA.out _).mono ?_
  rintro e w1 ⟨rfl, hb1⟩
  go_wp2_with fail
  refine (HB.out _).mono ?_
  rintro e w2 ⟨rfl, hb2⟩
  go_wp2_with fail
  refine (HB.out _).mono ?_
  rintro e w3 ⟨rfl, hb3⟩
  have hb := hb1.trans ((hb2.trans (hb3.mono hb2.size)).mono hb1.size)
  clear hb1 hb2 hb3
  go_wp2
  refine bodyPost_ret (v := .tuple #[.string ⟨#[]⟩, .string ⟨#[]⟩, .string ⟨#[]⟩, .string ⟨#[]⟩, .int .i64 er]) (by simp [results, Try.results27, go_sem]) rfl ⟨rfl, hb⟩
set_option maxHeartbeats 1000000 in
set_option maxRecDepth 100000 in
theorem four_ok (a b : ByteArray) (w : World) (ha : a.size ≤ 1100000) (hb : b.size ≤ 1100000) (h0 : ratErr a = 0) (h : ratErr b = 0) :
    Calls Try.prog 27 #[.string a, .string b] w (FourPost w (numS a) (denS a) (numS b) (denS b) 0) := by
  have HA := Lib.hid (fun W => refrat_any a W ha)
  have HB := Lib.hid (fun W => refrat_any b W hb)
  have WA := Lib.hid (fun W => written_any a W ha)
  have WB := Lib.hid (fun W => written_any b W hb)
  rw [h0] at HA
  rw [h] at HB
  generalize numS a = n at *
  generalize numS b = m at *
  generalize denS a = d at *
  generalize denS b = c at *
  clear ha hb h0 h
  go_enter Try.func27, Try.ntmps27
  go_wp2_with fail
  refine (HA.out _).mono ?_
  rintro e w1 ⟨rfl, hb1⟩
  go_wp2_with fail
  refine (HB.out _).mono ?_
  rintro e w2 ⟨rfl, hb2⟩
  go_wp2_with fail
  refine (WA.out _).mono ?_
  rintro e w3 ⟨rfl, n3, rfl⟩
  go_wp2_with fail
  refine (WB.out _).mono ?_
  rintro e w4 ⟨rfl, n4, rfl⟩
  have hb := below_drewN (below_drewN (hb1.trans (hb2.mono hb1.size)) n3) n4
  rw [World.drewN_drewN] at hb
  clear hb1 hb2
  go_wp2
  refine bodyPost_ret (v := .tuple #[.string n, .string d, .string m, .string c, .int .i64 0]) (by simp [results, Try.results27, go_sem]) rfl ⟨rfl, hb⟩
theorem four_any (a b : ByteArray) (w : World) (ha : a.size ≤ 1100000) (hb : b.size ≤ 1100000) :
    Calls Try.prog 27 #[.string a, .string b] w (if bE a b = 0 then FourPost w (pN a) (pD a) (pN b) (pD b) 0 else FourPost w ⟨#[]⟩ ⟨#[]⟩ ⟨#[]⟩ ⟨#[]⟩ (bE a b)) := by
  by_cases he : bE a b = 0
  · obtain ⟨ra, rb, _, _, e1, e2, e3, e4⟩ := bE_zero he
    rw [if_pos he, e1, e2, e3, e4]
    exact four_ok a b w ha hb ra rb
  · rw [if_neg he]
    by_cases h0 : ratErr a = 0
    · have e : bE a b = ratErr b := by rw [bE, if_pos h0]
      rw [e] at he ⊢
      exact four_err2 a b w ha hb h0 he
    · have e : bE a b = ratErr a := by rw [bE, if_neg h0]
      rw [e]
      exact four_err1 a b w ha h0

def TwoErr (w : World) (er : Int) (e : Ending) (w' : World) : Prop := e = .returned (.tuple #[.string ⟨#[]⟩, .string ⟨#[]⟩, .int .i64 er]) ∧ Below w.heap.size w w'
def TwoOk (w : World) (x y : List UInt8) (e : Ending) (w' : World) : Prop := ∃ t u, e = .returned (.tuple #[.string t, .string u, .int .i64 0]) ∧ bl t = x ∧ bl u = y ∧ Below w.heap.size w w'

set_option maxHeartbeats 1000000 in
set_option maxRecDepth 100000 in
theorem cross_err (a b : ByteArray) (w : World) (ha : a.size ≤ 1000000) (hb : b.size ≤ 1000000) (h : bE a b ≠ 0) :
    Calls Try.prog 26 #[.string a, .string b] w (TwoErr w (bE a b)) := by
  have HF := four_any a b w (by omega) (by omega)
  rw [if_neg h] at HF
  generalize bE a b = er at HF h ⊢
  have t1 : (er != 0) = true := by rw [bne_iff_ne]; exact h
  have HF := Lib.hid HF
  clear h ha hb
  go_enter Try.func26, Try.ntmps26
  go_wp2_with fail
  refine HF.out.mono ?_
  rintro e w1 ⟨rfl, hb1⟩
  go_wp2
  go_ret3
  exact ⟨rfl, hb1⟩

set_option maxHeartbeats 1000000 in
set_option maxRecDepth 100000 in
theorem cross_big (a b : ByteArray) (w : World) (ha : a.size ≤ 1000000) (hb : b.size ≤ 1000000) (h : bE a b = 0) (hz : zErr (ival (bl (pN a)) * ival (bl (pD b))) ≠ 0 ∨ zErr (ival (bl (pN b)) * ival (bl (pD a))) ≠ 0) :
    Calls Try.prog 26 #[.string a, .string b] w (TwoErr w 14) := by
  have HF := four_any a b w (by omega) (by omega)
  rw [if_pos h] at HF
  obtain ⟨ra, rb, _, _, e1, e2, e3, e4⟩ := bE_zero h
  obtain ⟨q1, q2, q3, q4⟩ := part_sizes a b ha hb
  obtain ⟨_, _, eN, eD, _⟩ := bE_zero h
  rw [eN] at q2
  rw [eD] at q4
  obtain ⟨na, da, _, _⟩ := rat_parts ra
  obtain ⟨nb, db, _, _⟩ := rat_parts rb
  rw [← e1] at na
  rw [← e2] at da
  rw [← e3] at nb
  rw [← e4] at db
  have HX := Lib.hid (fun W => rmul_ok (pN a) (pD b) W q1 q4 na db)
  have HY := Lib.hid (fun W => rmul_ok (pN b) (pD a) W q2 q3 nb da)
  generalize ival (bl (pN a)) * ival (bl (pD b)) = z1 at *
  generalize ival (bl (pN b)) * ival (bl (pD a)) = z2 at *
  have HF := Lib.hid HF
  clear ra rb e1 e2 e3 e4 q1 q2 q3 q4 eN eD na da nb db ha hb h
  generalize pN a = n at HF HX
  generalize pN b = m at HF HY
  generalize pD a = d at HF HY
  generalize pD b = c at HF HX
  unfold IntPost at HX HY
  generalize zErr z1 = f1 at *
  generalize zErr z2 = f2 at *
  by_cases hf : f1 = 0
  · have hf2 : f2 ≠ 0 := hz.resolve_left (fun k => k hf)
    have t1 : (f1 != 0) = false := by rw [hf]; rfl
    have t2 : (f2 != 0) = true := by rw [bne_iff_ne]; exact hf2
    clear hf hf2 hz
    go_enter Try.func26, Try.ntmps26
    go_wp2_with fail
    refine HF.out.mono ?_
    rintro e w1 ⟨rfl, hb1⟩
    go_wp2_with fail
    refine (HX.out _).mono ?_
    rintro e w2 ⟨x, rfl, hx, hb2⟩
    go_wp2_with fail
    refine (HY.out _).mono ?_
    rintro e w3 ⟨y, rfl, hy, hb3⟩
    have hbz := hb1.trans ((hb2.trans (hb3.mono hb2.size)).mono hb1.size)
    have Hx := Lib.hid hx
    have Hy := Lib.hid hy
    clear hx hy hb1 hb2 hb3 HF HX HY
    go_wp2
    go_ret3
    exact ⟨rfl, hbz⟩
  · have t1 : (f1 != 0) = true := by rw [bne_iff_ne]; exact hf
    clear hf hz
    go_enter Try.func26, Try.ntmps26
    go_wp2_with fail
    refine HF.out.mono ?_
    rintro e w1 ⟨rfl, hb1⟩
    go_wp2_with fail
    refine (HX.out _).mono ?_
    rintro e w2 ⟨x, rfl, hx, hb2⟩
    go_wp2_with fail
    refine (HY.out _).mono ?_
    rintro e w3 ⟨y, rfl, hy, hb3⟩
    have hbz := hb1.trans ((hb2.trans (hb3.mono hb2.size)).mono hb1.size)
    have Hx := Lib.hid hx
    have Hy := Lib.hid hy
    clear hx hy hb1 hb2 hb3 HF HX HY
    go_wp2
    go_ret3
    exact ⟨rfl, hbz⟩
set_option maxHeartbeats 1000000 in
set_option maxRecDepth 100000 in
theorem cross_ok (a b : ByteArray) (w : World) (ha : a.size ≤ 1000000) (hb : b.size ≤ 1000000) (h : bE a b = 0) (h1 : zErr (ival (bl (pN a)) * ival (bl (pD b))) = 0) (h2 : zErr (ival (bl (pN b)) * ival (bl (pD a))) = 0) :
    Calls Try.prog 26 #[.string a, .string b] w (TwoOk w (zStr (ival (bl (pN a)) * ival (bl (pD b)))) (zStr (ival (bl (pN b)) * ival (bl (pD a))))) := by
  have HF := four_any a b w (by omega) (by omega)
  rw [if_pos h] at HF
  obtain ⟨ra, rb, _, _, e1, e2, e3, e4⟩ := bE_zero h
  obtain ⟨q1, q2, q3, q4⟩ := part_sizes a b ha hb
  obtain ⟨_, _, eN, eD, _⟩ := bE_zero h
  rw [eN] at q2
  rw [eD] at q4
  obtain ⟨na, da, _, _⟩ := rat_parts ra
  obtain ⟨nb, db, _, _⟩ := rat_parts rb
  rw [← e1] at na
  rw [← e2] at da
  rw [← e3] at nb
  rw [← e4] at db
  have HX := Lib.hid (fun W => rmul_ok (pN a) (pD b) W q1 q4 na db)
  have HY := Lib.hid (fun W => rmul_ok (pN b) (pD a) W q2 q3 nb da)
  generalize ival (bl (pN a)) * ival (bl (pD b)) = z1 at *
  generalize ival (bl (pN b)) * ival (bl (pD a)) = z2 at *
  have HF := Lib.hid HF
  clear ra rb e1 e2 e3 e4 q1 q2 q3 q4 eN eD na da nb db ha hb h
  generalize pN a = n at HF HX
  generalize pN b = m at HF HY
  generalize pD a = d at HF HY
  generalize pD b = c at HF HX
  unfold IntPost at HX HY
  rw [h1] at HX
  rw [h2] at HY
  clear h1 h2
  go_enter Try.func26, Try.ntmps26
  go_wp2_with fail
  refine HF.out.mono ?_
  rintro e w1 ⟨rfl, hb1⟩
  go_wp2_with fail
  refine (HX.out _).mono ?_
  rintro e w2 ⟨x, rfl, hx, hb2⟩
  go_wp2_with fail
  refine (HY.out _).mono ?_
  rintro e w3 ⟨y, rfl, hy, hb3⟩
  have hbz := hb1.trans ((hb2.trans (hb3.mono hb2.size)).mono hb1.size)
  have Hx := Lib.hid hx
  have Hy := Lib.hid hy
  clear hx hy hb1 hb2 hb3 HF HX HY
  go_wp2
  go_ret3
  exact ⟨x, y, rfl, Hx.out, Hy.out, hbz⟩
end Go.Proofs.Ytofbngpckllkoab

namespace Go.Proofs.Ytofbngpckllkoab
open Go.RowKit

theorem zStr_size {t : ByteArray} {z : Int} (h : bl t = zStr z) : t.size ≤ 1002 := by rw [← bl_length, h]; exact zStr_len z

set_option maxHeartbeats 1000000 in
set_option maxRecDepth 100000 in
theorem rratadd_err (a b : ByteArray) (er : Int) (w : World) (h : er ≠ 0) (HC : Hid (∀ W, Calls Try.prog 26 #[.string a, .string b] W (TwoErr W er))) :
    Calls Try.prog 15 #[.string a, .string b] w (RatPost2 w [] er) := by
  have t1 : (er != 0) = true := by rw [bne_iff_ne]; exact h
  clear h
  go_enter Try.func15, Try.ntmps15
  go_wp2_with fail
  refine (HC.out _).mono ?_
  rintro e w1 ⟨rfl, hb1⟩
  go_wp2
  go_ret2
  exact ⟨_, rfl, rfl, hb1⟩

theorem fraction_any (a b n m : ByteArray) (z3 : Int) (w : World) (h : bE a b = 0) (h1 : zErr (ival (bl (pN a)) * ival (bl (pD b))) = 0) (h2 : zErr (ival (bl (pN b)) * ival (bl (pD a))) = 0)
    (hn : bl n = zStr z3) (hm : bl m = zStr (ival (bl (pD a)) * ival (bl (pD b)))) :
    Calls Try.prog 30 #[.string n, .string m, .int .i64 (zErr z3), .int .i64 (zErr (ival (bl (pD a)) * ival (bl (pD b))))] w (RatPost2 w (sumS a b z3) (sumE a b z3)) := by
  by_cases hz : zErr z3 ≠ 0 ∨ zErr (ival (bl (pD a)) * ival (bl (pD b))) ≠ 0
  · have hE : sumE a b z3 = 14 := by
      rw [sumE, if_neg (fun k => k h), if_pos]
      rcases hz with k | k
      · exact .inr (.inr (.inl k))
      · exact .inr (.inr (.inr k))
    rw [sumS, hE, if_neg (by decide)]
    refine (fraction_err n m _ _ w hz).mono ?_
    rintro e w' ⟨rfl, hb⟩
    exact ⟨_, rfl, rfl, hb⟩
  · have k3 : zErr z3 = 0 := by
      rcases Int.decEq (zErr z3) 0 with k | k
      · exact absurd (.inl k) hz
      · exact k
    have k4 : zErr (ival (bl (pD a)) * ival (bl (pD b))) = 0 := by
      rcases Int.decEq (zErr (ival (bl (pD a)) * ival (bl (pD b)))) 0 with k | k
      · exact absurd (.inr k) hz
      · exact k
    have hE : sumE a b z3 = 0 := by
      rw [sumE, if_neg (fun k => k h), if_neg]
      rintro (k | k | k | k) <;> exact k (by assumption)
    obtain ⟨ra, rb, _, _, e1, e2, e3, e4⟩ := bE_zero h
    obtain ⟨_, _, sa, za⟩ := rat_parts ra
    obtain ⟨_, _, sb, zb⟩ := rat_parts rb
    rw [← e2] at sa za
    rw [← e4] at sb zb
    obtain ⟨j3, i3, v3⟩ := zStr_ok k3
    obtain ⟨j4, i4, v4⟩ := zStr_ok k4
    have hpos : 0 < ival (bl (pD a)) * ival (bl (pD b)) := by
      rw [ival, ival, sa, sb]
      simp only [sgnv]
      have := Nat.mul_pos (Nat.pos_of_ne_zero za) (Nat.pos_of_ne_zero zb)
      simp only [Bool.false_eq_true, if_false]
      exact_mod_cast this
    have hdv : dval (body (bl m)) = (ival (bl (pD a)) * ival (bl (pD b))).natAbs := by rw [hm, j4, dval_istr]
    have hng : isNeg (bl m) = false := by rw [hm, j4, isNeg_istr, decide_eq_false (by omega)]; rfl
    have HM := Lib.hid (fun W => rmake_ok n m W (by have := zStr_size hn; omega) (by have := zStr_size hm; omega) (by rw [hn]; exact i3) (by rw [hm]; exact i4) (by rw [hdv]; omega) hng)
    rw [k3, k4]
    refine (fraction_ok n m _ w HM).mono ?_
    rintro e w' ⟨t, rfl, ht, hb⟩
    refine ⟨t, by rw [hE], ?_, hb⟩
    rw [ht, sumS, hE, if_pos rfl, hng, hdv, hn, j3, dval_istr, isNeg_istr]
    by_cases h0 : z3.natAbs = 0
    · have : z3 = 0 := by omega
      subst this
      simp
    · simp [h0]

set_option maxHeartbeats 2000000 in
set_option maxRecDepth 100000 in
theorem rratadd_ok (a b : ByteArray) (w : World) (ha : a.size ≤ 1000000) (hb : b.size ≤ 1000000) (h : bE a b = 0) (h1 : zErr (ival (bl (pN a)) * ival (bl (pD b))) = 0) (h2 : zErr (ival (bl (pN b)) * ival (bl (pD a))) = 0) :
    Calls Try.prog 15 #[.string a, .string b] w (RatPost2 w (sumS a b (ival (bl (pN a)) * ival (bl (pD b)) + ival (bl (pN b)) * ival (bl (pD a)))) (sumE a b (ival (bl (pN a)) * ival (bl (pD b)) + ival (bl (pN b)) * ival (bl (pD a))))) := by
  have HC := Lib.hid (fun W => cross_ok a b W ha hb h h1 h2)
  have HF4 : Hid (∀ W, Calls Try.prog 27 #[.string a, .string b] W (FourPost W (pN a) (pD a) (pN b) (pD b) 0)) := by
    intro W
    have k := four_any a b W (by omega) (by omega)
    rw [if_pos h] at k
    exact k
  have HFr := Lib.hid (fun W n m hn hm => fraction_any a b n m (ival (bl (pN a)) * ival (bl (pD b)) + ival (bl (pN b)) * ival (bl (pD a))) W h h1 h2 hn hm)
  obtain ⟨_, i1, v1⟩ := zStr_ok h1
  obtain ⟨_, i2, v2⟩ := zStr_ok h2
  have HA : Hid (∀ W x y, bl x = zStr (ival (bl (pN a)) * ival (bl (pD b))) → bl y = zStr (ival (bl (pN b)) * ival (bl (pD a))) → Calls Try.prog 28 #[.string x, .string y] W (IntPost W (ival (bl (pN a)) * ival (bl (pD b)) + ival (bl (pN b)) * ival (bl (pD a))))) := by
    intro W x y hx hy
    have k := radd_any x y W (by have := zStr_size hx; omega) (by have := zStr_size hy; omega)
    have hp : pairErr (bl x) (bl y) = 0 := pairErr_ok (by rw [hx]; exact i1) (by rw [hy]; exact i2)
    rw [hx, hy, v1, v2] at k
    rw [hx, hy] at hp
    exact k.mono fun e w' q => by rw [OpPost, if_pos hp] at q; exact q
  obtain ⟨ra, rb, eN, eD, e1, e2, e3, e4⟩ := bE_zero h
  obtain ⟨_, _, q3, q4⟩ := part_sizes a b ha hb
  rw [eD] at q4
  obtain ⟨_, da, _, _⟩ := rat_parts ra
  obtain ⟨_, db, _, _⟩ := rat_parts rb
  rw [← e2] at da
  rw [← e4] at db
  have HMu := Lib.hid (fun W => rmul_ok (pD a) (pD b) W q3 q4 da db)
  unfold IntPost at HA HMu
  clear i1 v1 i2 v2 ra rb eN eD e1 e2 e3 e4 q3 q4 da db ha hb h h1 h2
  generalize sumS a b (ival (bl (pN a)) * ival (bl (pD b)) + ival (bl (pN b)) * ival (bl (pD a))) = S at *
  generalize sumE a b (ival (bl (pN a)) * ival (bl (pD b)) + ival (bl (pN b)) * ival (bl (pD a))) = E at *
  generalize ival (bl (pN a)) * ival (bl (pD b)) + ival (bl (pN b)) * ival (bl (pD a)) = z3 at *
  generalize ival (bl (pD a)) * ival (bl (pD b)) = z4 at *
  generalize ival (bl (pN a)) * ival (bl (pD b)) = z1 at *
  generalize ival (bl (pN b)) * ival (bl (pD a)) = z2 at *
  generalize pN a = n at *
  generalize pN b = m at *
  generalize pD a = d at *
  generalize pD b = c at *
  generalize zErr z3 = f3 at *
  generalize zErr z4 = f4 at *
  generalize zStr z3 = s3 at *
  generalize zStr z4 = s4 at *
  generalize zStr z1 = s1 at *
  generalize zStr z2 = s2 at *
  go_enter Try.func15, Try.ntmps15
  go_wp2_with fail
  refine (HC.out _).mono ?_
  rintro e w1 ⟨x, y, rfl, hx, hy, hb1⟩
  have HA2 := Lib.hid (fun W => HA.out W x y hx hy)
  clear hx hy HA
  go_wp2_with fail
  refine (HF4.out _).mono ?_
  rintro e w2 ⟨rfl, hb2⟩
  go_wp2_with fail
  refine (HA2.out _).mono ?_
  rintro e w3 ⟨p, rfl, hp, hb3⟩
  go_wp2_with fail
  refine (HMu.out _).mono ?_
  rintro e w4 ⟨q, rfl, hq, hb4⟩
  have HFr2 := Lib.hid (fun W => HFr.out W p q hp hq)
  have hbz := hb1.trans ((hb2.trans ((hb3.trans (hb4.mono hb3.size)).mono hb2.size)).mono hb1.size)
  clear hp hq HFr HA2 HMu HF4 HC hb1 hb2 hb3 hb4
  go_wp2_with fail
  refine (HFr2.out _).mono ?_
  rintro e w5 ⟨t, rfl, ht, hb5⟩
  have hbf := hbz.trans (hb5.mono hbz.size)
  have Ht := Lib.hid ht
  clear ht hbz hb5
  go_wp2
  go_ret2
  exact ⟨t, rfl, Ht.out, hbf⟩

theorem rratadd_any (a b : ByteArray) (w : World) (ha : a.size ≤ 1000000) (hb : b.size ≤ 1000000) :
    Calls Try.prog 15 #[.string a, .string b] w (RatPost2 w (sumS a b (ival (bl (pN a)) * ival (bl (pD b)) + ival (bl (pN b)) * ival (bl (pD a)))) (sumE a b (ival (bl (pN a)) * ival (bl (pD b)) + ival (bl (pN b)) * ival (bl (pD a))))) := by
  by_cases h : bE a b = 0
  · by_cases hz : zErr (ival (bl (pN a)) * ival (bl (pD b))) ≠ 0 ∨ zErr (ival (bl (pN b)) * ival (bl (pD a))) ≠ 0
    · have hE : sumE a b (ival (bl (pN a)) * ival (bl (pD b)) + ival (bl (pN b)) * ival (bl (pD a))) = 14 := by
        rw [sumE, if_neg (fun k => k h), if_pos]
        rcases hz with k | k
        · exact .inl k
        · exact .inr (.inl k)
      rw [sumS, hE, if_neg (by decide)]
      exact rratadd_err a b 14 w (by decide) (Lib.hid fun W => cross_big a b W ha hb h hz)
    · have h1 : zErr (ival (bl (pN a)) * ival (bl (pD b))) = 0 := by
        rcases Int.decEq (zErr (ival (bl (pN a)) * ival (bl (pD b)))) 0 with k | k
        · exact absurd (.inl k) hz
        · exact k
      have h2 : zErr (ival (bl (pN b)) * ival (bl (pD a))) = 0 := by
        rcases Int.decEq (zErr (ival (bl (pN b)) * ival (bl (pD a)))) 0 with k | k
        · exact absurd (.inr k) hz
        · exact k
      exact rratadd_ok a b w ha hb h h1 h2
  · have hE : sumE a b (ival (bl (pN a)) * ival (bl (pD b)) + ival (bl (pN b)) * ival (bl (pD a))) = bE a b := by rw [sumE, if_pos h]
    rw [sumS, hE, if_neg h]
    exact rratadd_err a b _ w h (Lib.hid fun W => cross_err a b W ha hb h)
end Go.Proofs.Ytofbngpckllkoab

namespace Go.Proofs.Ytofbngpckllkoab
open Go.RowKit

theorem bl_neg (b : ByteArray) : bl (⟨#[45]⟩ ++ b) = 45 :: bl b := by rw [bl_append]; rfl
theorem canonD_true {d : List UInt8} (h : canonD d false = true) (h48 : d ≠ [48]) : canonD d true = true := by
  unfold canonD at h ⊢
  simp only [Bool.and_eq_true, Bool.not_eq_true', Bool.or_false, Bool.or_true, Bool.and_true] at h ⊢
  refine ⟨h.1, ?_⟩
  cases d with
  | nil => rfl
  | cons c t =>
    by_cases hc : c = 48
    · subst hc
      have := h.2
      simp at this
      exact absurd (by rw [this]) h48
    · simp [hc]
theorem canon_neg {n : List UInt8} (hc : canonI n = true) (hn : isNeg n = false) (h48 : n ≠ [48]) : canonI (45 :: n) = true ∧ body (45 :: n) = body n := by
  have hb : body n = n := by
    unfold body; rw [if_neg]; intro e; rw [isNeg, e] at hn; cases hn
  refine ⟨?_, by rw [hb, body_neg]⟩
  rw [canonI, hb, hn] at hc
  rw [canonI, body_neg, isNeg_neg]
  exact canonD_true hc h48
theorem intErr_neg {n : List UInt8} (hc : canonI n = true) (hn : isNeg n = false) (h48 : n ≠ [48]) : intErr (45 :: n) = intErr n := by
  obtain ⟨h1, h2⟩ := canon_neg hc hn h48
  rw [intErr, intErr, if_pos h1, if_pos hc, h2]
theorem fracErr_neg {n d : List UInt8} (hc : canonI n = true) (hn : isNeg n = false) (h48 : n ≠ [48]) : fracErr (45 :: n) d = fracErr n d := by
  obtain ⟨h1, h2⟩ := canon_neg hc hn h48
  rw [fracErr, fracErr, h1, hc, h2, intErr_neg hc hn h48]
theorem slash_neg (b : ByteArray) : slashI (⟨#[45]⟩ ++ b) = if slashI b = -1 then -1 else slashI b + 1 := by
  unfold slashI
  rw [bl_neg, Lib.indexByte]
  simp
theorem ival_neg {n : List UInt8} (hc : canonI n = true) (hn : isNeg n = false) (h48 : n ≠ [48]) : ival (45 :: n) = -(ival n) := by
  obtain ⟨h1, h2⟩ := canon_neg hc hn h48
  rw [ival, ival, h2, hn, isNeg_neg]; rfl
theorem neg_parts {b : ByteArray} (h : ratErr b = 0) (hz : bl b ≠ [48]) (hn : isNeg (bl b) = false) :
    ratErr (⟨#[45]⟩ ++ b) = 0 ∧ ival (bl (numS (⟨#[45]⟩ ++ b))) = -(ival (bl (numS b))) ∧ bl (denS (⟨#[45]⟩ ++ b)) = bl (denS b) := by
  have hs := slash_neg b
  rcases slash_cases b with h1 | ⟨o, h1, ho⟩
  · rw [if_pos h1] at hs
    have hi : intErr (bl b) = 0 := by rw [ratErr, if_pos h1] at h; exact h
    have hc := (intErr_zero hi).1
    unfold numS denS
    rw [if_pos hs, if_pos hs, if_pos h1, if_pos h1, ratErr, if_pos hs, bl_neg]
    exact ⟨(intErr_neg hc hn hz).trans hi, ival_neg hc hn hz, rfl⟩
  · have hne : ¬ slashI b = -1 := by rw [h1]; omega
    rw [if_neg hne, h1] at hs
    have hne2 : ¬ slashI (⟨#[45]⟩ ++ b) = -1 := by rw [hs]; omega
    have hp := rat_parts h
    unfold numS denS at hp ⊢
    rw [if_neg hne, if_neg hne] at hp
    rw [if_neg hne, if_neg hne, if_neg hne2, if_neg hne2, ratErr, if_neg hne2]
    rw [ratErr, if_neg hne] at h
    rw [h1, Int.toNat_natCast] at hp h ⊢
    have et : (slashI (⟨#[45]⟩ ++ b)).toNat = o + 1 := by rw [hs]; omega
    rw [et, bl_extract, bl_drop, bl_extract, bl_drop, bl_neg, List.drop_zero, List.drop_zero, Nat.sub_zero, Nat.sub_zero, List.take_succ_cons, List.drop_succ_cons]
    rw [bl_extract, bl_drop, List.drop_zero, Nat.sub_zero] at hp
    have hnn : isNeg ((bl b).take o) = false := by
      unfold isNeg at hn ⊢
      rw [beq_eq_false_iff_ne] at hn ⊢
      intro e
      apply hn
      cases hb : bl b with
      | nil => rw [hb] at e; simp at e
      | cons c t =>
        rw [hb] at e
        cases o with
        | zero => simp at e
        | succ o => simpa using e
    generalize (bl b).take o = n at *
    generalize (bl b).drop (o + 1) = d at *
    have hc := (intErr_zero hp.1).1
    have h48 : n ≠ [48] := by
      rintro rfl
      have hcd := (intErr_zero hp.2.1).1
      have ht := canon_text hcd
      rw [hp.2.2.1] at ht
      unfold fracErr at h
      rw [if_neg (by rw [hc]; simp), if_neg (by rw [hcd]; simp)] at h
      split at h
      · cases h
      · split at h
        · cases h
        · rename_i c3 c4
          have c5 : d ≠ [49] := fun e => by rw [if_pos e] at h; cases h
          rw [if_neg c5, if_neg (fun k => k hp.1), if_neg (fun k => k hp.2.1)] at h
          split at h
          · rename_i c6
            have c7 : dval (body d) = 1 := by
              have e0 : dval (body [48]) = 0 := by decide
              rw [e0, Nat.gcd_zero_left] at c6
              exact c6
            rw [c7] at ht
            exact c5 (by rw [← ht]; decide)
          · cases h
    exact ⟨(fracErr_neg hc hnn h48).trans h, ival_neg hc hnn h48, rfl⟩
theorem zErr_neg (z : Int) : zErr (-z) = zErr z := by rw [zErr, zErr, Int.natAbs_neg]
theorem neg_sum (a : ByteArray) {b : ByteArray} (h : ratErr b = 0) (hz : bl b ≠ [48]) (hn : isNeg (bl b) = false) :
    sumE a (⟨#[45]⟩ ++ b) (ival (bl (pN a)) * ival (bl (pD (⟨#[45]⟩ ++ b))) + ival (bl (pN (⟨#[45]⟩ ++ b))) * ival (bl (pD a))) = sumE a b (ival (bl (pN a)) * ival (bl (pD b)) - ival (bl (pN b)) * ival (bl (pD a))) ∧
    sumS a (⟨#[45]⟩ ++ b) (ival (bl (pN a)) * ival (bl (pD (⟨#[45]⟩ ++ b))) + ival (bl (pN (⟨#[45]⟩ ++ b))) * ival (bl (pD a))) = sumS a b (ival (bl (pN a)) * ival (bl (pD b)) - ival (bl (pN b)) * ival (bl (pD a))) := by
  obtain ⟨h1, h2, h3⟩ := neg_parts h hz hn
  have eN : ival (bl (pN (⟨#[45]⟩ ++ b))) = -(ival (bl (pN b))) := by rw [pN, if_pos h1, pN, if_pos h, h2]
  have eD : bl (pD (⟨#[45]⟩ ++ b)) = bl (pD b) := by rw [pD, if_pos h1, pD, if_pos h, h3]
  have eE : bE a (⟨#[45]⟩ ++ b) = bE a b := by rw [bE, bE, h1, h]
  rw [eN, eD, Int.neg_mul, ← Int.sub_eq_add_neg]
  have e1 : ∀ z, sumE a (⟨#[45]⟩ ++ b) z = sumE a b z := fun z => by rw [sumE, sumE, eE, eD, eN, Int.neg_mul, zErr_neg]
  refine ⟨e1 _, ?_⟩
  rw [sumS, sumS, e1, eD]

set_option maxHeartbeats 1000000 in
set_option maxRecDepth 100000 in
theorem rnegr_any (b : ByteArray) (w : World) (hs : b.size ≤ 1100000) (h0 : 0 < b.size) (hz : bl b ≠ [48]) (hn : isNeg (bl b) = false) :
    Calls Try.prog 14 #[.string b] w fun e w' => e = .returned (.string (⟨#[45]⟩ ++ b)) ∧ w = w' := by
  have ez : (b.toList == [48]) = false := ne_lit hz
  have hbc := bl_cons b h0
  obtain ⟨ch, hch⟩ : ∃ c, b[0] = c := ⟨_, rfl⟩
  rw [hch] at hbc
  have em : ((ch.toNat : Int) == 45) = false := by
    rw [hbc] at hn
    simp [isNeg] at hn
    rw [beq_eq_false_iff_ne]; intro e; apply hn; apply UInt8.toNat_inj.1; show ch.toNat = 45; omega
  clear hz hn hbc
  go_enter Try.func14, Try.ntmps14
  go_wp2
  go_ret
  exact ⟨rfl, rfl⟩
end Go.Proofs.Ytofbngpckllkoab

namespace Go.Proofs.Ytofbngpckllkoab
open Go.RowKit

def rnetPost (w : World) (p c : ByteArray) (l : List Fl) (e : Ending) (w' : World) : Prop := e = .returned (.tuple #[.string (netS p c l), .int .i64 (netE p c l)]) ∧ Below w.heap.size w w'

set_option maxHeartbeats 4000000 in
set_option maxRecDepth 100000 in
theorem rnet_any (l : List Fl) (p c : ByteArray) (ad : Option Addr) (cap : Nat) (w : World) (hn : l.length ≤ 1100000) (hr : Rd Fl.cells 5 w ad l) (hs : ∀ f ∈ l, f.small) (hp : p.size ≤ 1100000) (hc : c.size ≤ 1100000) (ham : ∀ f ∈ l, f.am.size ≤ 900000) :
    Calls Try.prog 6 #[.slice ad l.length cap, .string p, .string c] w (rnetPost w p c l) := by
  have HCk := Lib.hid (fun W (hW : Below w.heap.size w W) => rchkFl_any l ad cap W (hr.below hW) hs hn)
  have HNm := Lib.hid (fun W (s : ByteArray) (h : s.size ≤ 1100000) => rname_any s W (by omega))
  have HR := Lib.hid hr
  have HS := Lib.hid hs
  have HAm := Lib.hid ham
  clear hr hs ham
  by_cases he : flowsErr l = 0
  · have HOk := Lib.hid (okP_of_err he)
    rw [he] at HCk
    cases h1 : isNm (bl p)
    · have HE := Lib.hid (netE_arg (p := p) (c := c) he (by rw [h1]; rfl))
      clear he
      go_enter Try.func6, Try.ntmps6
      go_wp2_with fail
      refine (HCk.out _ (Below.refl _ _)).mono ?_
      rintro e w1 ⟨rfl, hb1⟩
      go_wp2_with (first | (go_at_call 13; refine (HNm.out _ _ ?_).mono ?_; (assumption); rintro e w' ⟨rfl, rfl⟩))
      go_ret2
      exact ⟨by rw [HE.out.1, HE.out.2]; rfl, hb1⟩
    cases h2 : isNm (bl c)
    · have HE := Lib.hid (netE_arg (p := p) (c := c) he (by rw [h2]; simp))
      clear he
      go_enter Try.func6, Try.ntmps6
      go_wp2_with fail
      refine (HCk.out _ (Below.refl _ _)).mono ?_
      rintro e w1 ⟨rfl, hb1⟩
      go_wp2_with (first | (go_at_call 13; refine (HNm.out _ _ ?_).mono ?_; (assumption); rintro e w' ⟨rfl, rfl⟩))
      go_ret2
      exact ⟨by rw [HE.out.1, HE.out.2]; rfl, hb1⟩
    have HE := Lib.hid (netE_ok (p := p) (c := c) he (by rw [h1, h2]; rfl))
    clear he
    go_enter Try.func6, Try.ntmps6
    go_wp2_with fail
    refine (HCk.out _ (Below.refl _ _)).mono ?_
    rintro e w1 ⟨rfl, hb1⟩
    go_wp2_with (first | (go_at_call 13; refine (HNm.out _ _ ?_).mono ?_; (assumption); rintro e w' ⟨rfl, rfl⟩))
    clear h1 h2
    go_loopw [8, 9] (fun z i wr => ∃ (k : Nat) (s : ByteArray), k ≤ l.length ∧ i = .int .i64 k ∧ z = .string s ∧ Hid (netAcc p c l k = (s, 0)) ∧ Below w.heap.size w wr) (fun _ i _ => l.length - (intOf i).toNat)
    case atStart => exact ⟨0, _, Nat.zero_le _, rfl, rfl, rfl, hb1⟩
    case round =>
      clear hb1
      obtain ⟨k, s, hk, rfl, rfl, HI, hbel⟩ := hrel
      by_cases hlt : k < l.length
      · obtain ⟨f, hf⟩ : ∃ f, l[k]? = some f := ⟨_, List.getElem?_eq_getElem hlt⟩
        obtain ⟨b, off, rfl, c0, c1, c2, c3, c4⟩ := (HR.out.below hbel).fl hf
        have ham := HAm.out f (List.mem_of_getElem? hf)
        have hgood := (HOk.out k f hf).1
        have HSt : Hid (netAcc p c l (k + 1) = netStep p c (s, 0) f) := by show _ = _; rw [netAcc_succ p c hf, HI.out]
        have hs1 : s.size ≤ 2010 := by have := netAcc_size p c l k; rw [HI.out] at this; exact this
        have hsz := hbel.size
        have hblk : b < wr.heap.size := World.block_lt_of_cell? wr _ c0
        have hk1 : (0 : Int) ≤ (k : Int) := by omega
        have hk2 : (k : Int) < (l.length : Int) := by omega
        have HGd := Lib.hid hgood
        clear hgood hf
        have HA := Lib.hid (fun W => rratadd_any s f.am W (by omega) (by omega))
        have HAn := Lib.hid (fun W => rratadd_any s (⟨#[45]⟩ ++ f.am) W (by omega) (by rw [← bl_length, bl_neg, List.length_cons, bl_length]; omega))
        have hns := neg_sum s HGd.out.2.2.2.2.1 HGd.out.2.2.2.2.2.1 HGd.out.2.2.2.2.2.2.1
        rw [hns.1, hns.2] at HAn
        have HNg := Lib.hid (fun W => rnegr_any f.am W (by omega) (am_pos HGd.out.2.2.2.2.1) HGd.out.2.2.2.2.2.1 HGd.out.2.2.2.2.2.2.1)
        clear hns
        have HS_ := HAn
        have HBL : Hid (Below w.heap.size w wr) := hbel
        have hft : f.fr ≠ f.rc := HGd.out.2.2.2.1
        unfold netStep at HSt
        have HSt2 : Hid (netAcc p c l (k + 1) = if f.cy ≠ c then (s, 0) else if f.rc = p then (mkB (sumS s f.am (addZ s f.am)), sumE s f.am (addZ s f.am)) else if f.fr = p then (mkB (sumS s f.am (subZ s f.am)), sumE s f.am (subZ s f.am)) else (s, 0)) := by
          have h := HSt.out
          rw [if_neg (by simp)] at h
          exact h
        unfold RatPost2 at HA HS_
        change Hid (∀ W, Calls Try.prog 15 _ W fun e w' => ∃ t, e = .returned (.tuple #[.string t, .int .i64 (sumE s f.am (addZ s f.am))]) ∧ bl t = sumS s f.am (addZ s f.am) ∧ Below W.heap.size W w') at HA
        change Hid (∀ W, Calls Try.prog 15 _ W fun e w' => ∃ t, e = .returned (.tuple #[.string t, .int .i64 (sumE s f.am (subZ s f.am))]) ∧ bl t = sumS s f.am (subZ s f.am) ∧ Below W.heap.size W w') at HS_
        have HEa := Lib.hid (fun h => sumS_err (a := s) (b := f.am) (z := addZ s f.am) h)
        have HEs := Lib.hid (fun h => sumS_err (a := s) (b := f.am) (z := subZ s f.am) h)
        generalize sumS s f.am (addZ s f.am) = Sa at *
        generalize sumE s f.am (addZ s f.am) = Ea at *
        generalize sumS s f.am (subZ s f.am) = Ss at *
        generalize sumE s f.am (subZ s f.am) = Es at *
        clear HGd HSt HAn
        generalize f.d = d at *
        generalize f.fr = fr at *
        generalize f.rc = rc at *
        generalize f.cy = cy at *
        generalize f.am = am at *
        by_cases hu1 : cy = c
        · have hu1b := hu1
          have u1 : (cy.toList == c.toList) = true := by rw [hu1]; simp
          have u1' : (cy.toList != c.toList) = false := by rw [hu1]; simp
          by_cases hu2 : rc = p
          · have hu3 : fr ≠ p := fun e => hft (e.trans hu2.symm)
            have u2 : (rc.toList == p.toList) = true := by rw [hu2]; simp
            have u2' : (rc.toList != p.toList) = false := by rw [hu2]; simp
            have u3 : (fr.toList == p.toList) = false := by rw [toList_beq, decide_eq_false hu3]
            have u3' : (fr.toList != p.toList) = true := by rw [bne, toList_beq, decide_eq_false hu3]; rfl
            have Hu := Lib.hid (And.intro hu1 hu2)
            clear hu1 hu2 hu3 hu1b
            have HN : Hid (netAcc p c l (k + 1) = (mkB Sa, Ea)) := by show _ = _; rw [HSt2.out, if_neg (fun k => k Hu.out.1), if_pos Hu.out.2]
            clear HSt2 hft
            by_cases hE : Ea = 0
            · subst hE
              go_wp2_with (first | (go_at_call 15; refine (HA.out _).mono ?_; rintro e w4 ⟨t, rfl, ht, hb4⟩))
              have hbz := HBL.out.trans (hb4.mono (by first | exact HBL.out.size | (have := HBL.out.size; simpa using this)))
              have et := mkB_bl ht
              go_roundw
              case rel => exact ⟨k + 1, t, by omega, by go_num, rfl, by show _ = _; rw [HN.out, et], hbz⟩
              case measure => simp [intOf]; omega
            · have te : (Ea != 0) = true := by rw [bne_iff_ne]; exact hE
              have HF : Hid (netE p c l = Ea ∧ netS p c l = ⟨#[]⟩) := by
                have h := netAcc_err (p := p) (c := c) (l := l) (k := k + 1) (by rw [HN.out]; exact hE)
                exact ⟨by rw [HE.out.1, h, HN.out], by rw [HE.out.2, h, HN.out, HEa.out hE]; rfl⟩
              clear hE
              go_wp2_with (first | (go_at_call 15; refine (HA.out _).mono ?_; rintro e w4 ⟨t, rfl, ht, hb4⟩))
              have hbz := HBL.out.trans (hb4.mono (by first | exact HBL.out.size | (have := HBL.out.size; simpa using this)))
              go_ret2
              exact ⟨by rw [HF.out.1, HF.out.2]; rfl, hbz⟩
          · by_cases hu3 : fr = p
            · have hu2b := hu2
              have u2 : (rc.toList == p.toList) = false := by rw [toList_beq, decide_eq_false hu2]
              have u2' : (rc.toList != p.toList) = true := by rw [bne, toList_beq, decide_eq_false hu2]; rfl
              have u3 : (fr.toList == p.toList) = true := by rw [hu3]; simp
              have u3' : (fr.toList != p.toList) = false := by rw [hu3]; simp
              have Hu := Lib.hid (And.intro hu1 (And.intro hu2 hu3))
              clear hu1 hu2 hu3 hu1b hu2b
              have HN : Hid (netAcc p c l (k + 1) = (mkB Ss, Es)) := by show _ = _; rw [HSt2.out, if_neg (fun k => k Hu.out.1), if_neg Hu.out.2.1, if_pos Hu.out.2.2]
              clear HSt2 hft
              by_cases hE : Es = 0
              · subst hE
                go_wp2_with (first | (go_at_call 14; refine (HNg.out _).mono ?_; rintro e w' ⟨rfl, rfl⟩) | (go_at_call 15; refine (HS_.out _).mono ?_; rintro e w4 ⟨t, rfl, ht, hb4⟩))
                have hbz := HBL.out.trans (hb4.mono (by first | exact HBL.out.size | (have := HBL.out.size; simpa using this)))
                have et := mkB_bl ht
                go_roundw
                case rel => exact ⟨k + 1, t, by omega, by go_num, rfl, by show _ = _; rw [HN.out, et], hbz⟩
                case measure => simp [intOf]; omega
              · have te : (Es != 0) = true := by rw [bne_iff_ne]; exact hE
                have HF : Hid (netE p c l = Es ∧ netS p c l = ⟨#[]⟩) := by
                  have h := netAcc_err (p := p) (c := c) (l := l) (k := k + 1) (by rw [HN.out]; exact hE)
                  exact ⟨by rw [HE.out.1, h, HN.out], by rw [HE.out.2, h, HN.out, HEs.out hE]; rfl⟩
                clear hE
                go_wp2_with (first | (go_at_call 14; refine (HNg.out _).mono ?_; rintro e w' ⟨rfl, rfl⟩) | (go_at_call 15; refine (HS_.out _).mono ?_; rintro e w4 ⟨t, rfl, ht, hb4⟩))
                have hbz := HBL.out.trans (hb4.mono (by first | exact HBL.out.size | (have := HBL.out.size; simpa using this)))
                go_ret2
                exact ⟨by rw [HF.out.1, HF.out.2]; rfl, hbz⟩
            · have hu2b := hu2
              have u2 : (rc.toList == p.toList) = false := by rw [toList_beq, decide_eq_false hu2]
              have u2' : (rc.toList != p.toList) = true := by rw [bne, toList_beq, decide_eq_false hu2]; rfl
              have u3 : (fr.toList == p.toList) = false := by rw [toList_beq, decide_eq_false hu3]
              have u3' : (fr.toList != p.toList) = true := by rw [bne, toList_beq, decide_eq_false hu3]; rfl
              have Hu := Lib.hid (And.intro hu1 (And.intro hu2 hu3))
              clear hu1 hu2 hu3 hu1b hu2b
              have HN : Hid (netAcc p c l (k + 1) = (s, 0)) := by show _ = _; rw [HSt2.out, if_neg (fun k => k Hu.out.1), if_neg Hu.out.2.1, if_neg Hu.out.2.2]
              clear HSt2 hft
              go_wp2
              go_roundw
              case rel => exact ⟨k + 1, s, by omega, by go_num, rfl, HN, HBL.out⟩
              case measure => simp [intOf]; omega
        · have hu1b := hu1
          have u1 : (cy.toList == c.toList) = false := by rw [toList_beq, decide_eq_false hu1]
          have u1' : (cy.toList != c.toList) = true := by rw [bne, toList_beq, decide_eq_false hu1]; rfl
          have Hu := Lib.hid hu1
          clear hu1 hu1b
          have HN : Hid (netAcc p c l (k + 1) = (s, 0)) := by show _ = _; rw [HSt2.out, if_pos Hu.out]
          clear HSt2 hft
          go_wp2
          go_roundw
          case rel => exact ⟨k + 1, s, by omega, by go_num, rfl, HN, HBL.out⟩
          case measure => simp [intOf]; omega
      · obtain rfl : k = l.length := by omega
        have HF : Hid (netE p c l = 0 ∧ netS p c l = s) := ⟨by rw [HE.out.1, HI.out], by rw [HE.out.2, HI.out]⟩
        go_wp2
        go_ret2
        exact ⟨by rw [HF.out.1, HF.out.2]; rfl, hbel⟩
  · have HE := Lib.hid (netE_bad (p := p) (c := c) he)
    generalize flowsErr l = er at *
    have te : (er != 0) = true := by rw [bne_iff_ne]; exact he
    clear he
    go_enter Try.func6, Try.ntmps6
    go_wp2_with fail
    refine (HCk.out _ (Below.refl _ _)).mono ?_
    rintro e w1 ⟨rfl, hb1⟩
    go_wp2_with fail
    refine (HCk.out _ hb1).mono ?_
    rintro e w2 ⟨rfl, hb2⟩
    have hb1 := hb1.trans (hb2.mono hb1.size)
    go_wp2
    go_ret2
    exact ⟨by rw [HE.out.1, HE.out.2]; rfl, hb1⟩
end Go.Proofs.Ytofbngpckllkoab

namespace Go.Proofs.Ytofbngpckllkoab
open Go.RowKit

theorem run_append_empty {P : Program} {w : World} (t ty e : TypeId) (i : TypeInfo) (z : Value) (size bytes : Nat) (ht : P.underlying t = some (.slice e)) (hi : P.info? e = some i) (hz : i.zero = some z)
    (hsize : i.size = size) (hby : i.bytes = bytes) (hsz : 0 < size) (a0 : Addr) (A : Option Addr) (m c : Nat) (news : List Value) (hs : Sl w (.slice A m c) size m news) (hA : A = none → c = 0)
    (h63 : m ≤ 9223372036854775807) (hbytes : m * bytes ≤ 140737488355328) :
    ∃ ad cap w', (Builtin.append_ #[t, t] ty #[.slice (some a0) 0 0, .slice A m c]).run P w = .ok (.slice ad m cap) w' ∧ Sl w' (.slice ad m cap) size m news ∧ (m = 0 ∨ ∃ g, ad = some ⟨g, 0, none⟩ ∧ w.heap.size ≤ g) ∧ w.grownBy w' none := by
  subst hsize
  subst hby
  obtain ⟨ad', cap', he, h1, h2, h3⟩ := hs
  obtain ⟨rfl, _, rfl⟩ := Value.slice.inj he
  rcases Nat.eq_zero_or_pos m with h0 | h0
  · subst h0
    have hn : news = [] := List.eq_nil_of_length_eq_zero (by simpa using h2)
    subst hn
    refine ⟨some a0, 0, w, ?_, ⟨_, _, rfl, Nat.le_refl _, by simp, .inl rfl⟩, .inl rfl, ⟨rfl, rfl, rfl, Nat.le_refl _, fun _ _ _ => rfl⟩⟩
    cases A with
    | none =>
      obtain rfl := hA rfl
      simp [Builtin.append_, run_underlying ht, sizeOf, typeInfo, hi, Builtin.lenOf, Builtin.firstCells, storeCells]
    | some a => simp [Builtin.append_, run_underlying ht, sizeOf, typeInfo, hi, Builtin.lenOf, Builtin.firstCells, storeCells, loadCells, loadCellsFrom]
  · rcases h3 with h3 | ⟨b, off, rfl, h3⟩
    · exfalso; rw [h3] at h2; have := Nat.mul_pos h0 hsz; omega
    · have hr := run_append_grow (P := P) w t ty e i z ht hi hz a0 0 0 [] (by simp) (by simp) ⟨b, off, none⟩ m c news h2 (fun j v hj => by
          have h := h3 j v hj
          by_cases h0 : j = 0
          · subst h0; simpa [Addr.add] using h
          · simpa [Addr.add, h0] using h) (by omega) (by omega)
        (by rw [Nat.zero_add]; exact growslice_fits (by omega) (by omega))
      simp only [Nat.zero_add] at hr
      refine ⟨_, _, _, hr, ?_, .inr ⟨_, rfl, Nat.le_refl _⟩, ⟨rfl, rfl, rfl, by simp, fun k hk _ => Below.heap_alloc w.drew _ k hk⟩⟩
      refine ⟨_, _, rfl, grownCap_ge w m 0 e, h2, .inr ⟨w.heap.size, 0, rfl, fun j u hj => ?_⟩⟩
      rw [Nat.zero_add, cell_of_row _ w.heap.size j _ e (0, 0) (heap_alloc_new w.drew _)]
      have hjl := (List.getElem?_eq_some_iff.1 hj).1
      show (([] : List Value).toArray ++ news.toArray ++ _)[j]? = some u
      rw [Array.getElem?_append_left (by simpa using hjl)]
      simpa using hj

theorem step_append_empty {P : Program} {w : World} {ops : Array Oper} {o : Oper} {a : Act} {K : Act → World → Prop} {Q : Exit → Act → World → Prop} {E : Prop} (hgd : o.guard = none) (s x : Operand) (t : TypeId)
    (ho : o.op = .call { callee := .builtin .append, args := #[s, x], argTypes := #[t, t] }) (e : TypeId) (i : TypeInfo) (z : Value) (size bytes : Nat) (ht : P.underlying t = some (.slice e)) (hi : P.info? e = some i) (hz : i.zero = some z)
    (hsize : i.size = size) (hby : i.bytes = bytes) (hsz : 0 < size) (a0 : Addr) (A : Option Addr) (m c : Nat) (news : List Value) (hs : a.eval s = .slice (some a0) 0 0) (hx : a.eval x = .slice A m c) (hl : Sl w (.slice A m c) size m news) (hA : A = none → c = 0)
    (h63 : m ≤ 9223372036854775807) (hbytes : m * bytes ≤ 140737488355328)
    (h : ∀ ad cap w', Sl w' (.slice ad m cap) size m news → (m = 0 ∨ ∃ g, ad = some ⟨g, 0, none⟩ ∧ w.heap.size ≤ g) → Below w.heap.size w w' → K (a.put o.dst (.slice ad m cap)) w') :
    if Region.wanted o (yielded ops a.tmps) = true then Oper.wp P o a w K Q else E := by
  have hw : Region.wanted o (yielded ops a.tmps) = true := by simp [Region.wanted, hgd]
  rw [if_pos hw]
  obtain ⟨ad, cap, w', hr, h2, h4, h3⟩ := run_append_empty (P := P) (w := w) t o.type e i z size bytes ht hi hz hsize hby hsz a0 A m c news hl hA h63 hbytes
  unfold Oper.wp execOp
  simp only [ho, resolve, invoke, builtin, Sem.run_bind, Sem.run_pure, Result.andThen_ok, List.map_toArray, List.map_cons, List.map_nil, hs, hx, hr]
  exact h ad cap w' h2 h4 ((Below.refl _ _).grown h3 (Nat.le_refl _) (by simp))
theorem Sl.stored {w : World} {ad : Option Addr} {m cap size B : Nat} {cs : List Value} (h : Sl w (.slice ad m cap) size m cs) (hg : m = 0 ∨ ∃ g, ad = some ⟨g, 0, none⟩ ∧ B < g) (x y : Value) :
    Sl ((w.setCell ⟨B, 0, none⟩ x).setCell ⟨B, 1, none⟩ y) (.slice ad m cap) size m cs := by
  rcases hg with rfl | ⟨g, rfl, hB⟩
  · obtain ⟨_, _, _, h1, h2, _⟩ := h
    have : cs = [] := List.eq_nil_of_length_eq_zero (by simpa using h2)
    subst this
    exact Sl.empty _ _ _ _
  · refine h.kept fun k hk _ => ?_
    obtain rfl : g = k := by simpa [Value.ownBlock] using hk
    exact (Below.heap_setCell _ _ _ _ (by simp; omega)).trans (Below.heap_setCell _ _ _ _ (by simp; omega))
theorem wpList_append_empty {P : Program} {w : World} {ops : Array Oper} {rest : List Oper} {o : Oper} {a : Act} {Q : Exit → Act → World → Prop} (hgd : o.guard = none) (s x : Operand) (t : TypeId)
    (ho : o.op = .call { callee := .builtin .append, args := #[s, x], argTypes := #[t, t] }) (e : TypeId) (i : TypeInfo) (z : Value) (size bytes : Nat) (ht : P.underlying t = some (.slice e)) (hi : P.info? e = some i) (hz : i.zero = some z)
    (hsize : i.size = size) (hby : i.bytes = bytes) (hsz : 0 < size) (a0 : Addr) (A : Option Addr) (m c : Nat) (news : List Value) (hs : a.eval s = .slice (some a0) 0 0) (hx : a.eval x = .slice A m c) (hl : Sl w (.slice A m c) size m news) (hA : A = none → c = 0)
    (h63 : m ≤ 9223372036854775807) (hbytes : m * bytes ≤ 140737488355328)
    (h : ∀ ad cap w', Sl w' (.slice ad m cap) size m news → (m = 0 ∨ ∃ g, ad = some ⟨g, 0, none⟩ ∧ w.heap.size ≤ g) → Below w.heap.size w w' → wpList P ops Q rest (a.put o.dst (.slice ad m cap)) w') :
    wpList P ops Q (o :: rest) a w := by
  refine wpList_plain hgd fun K hK => ?_
  obtain ⟨ad, cap, w', hr, h2, h4, h3⟩ := run_append_empty (P := P) (w := w) t o.type e i z size bytes ht hi hz hsize hby hsz a0 A m c news hl hA h63 hbytes
  unfold Oper.wp execOp
  simp only [ho, resolve, invoke, builtin, Sem.run_bind, Sem.run_pure, Result.andThen_ok, List.map_toArray, List.map_cons, List.map_nil, hs, hx, hr]
  exact hK _ _ (h ad cap w' h2 h4 ((Below.refl _ _).grown h3 (Nat.le_refl _) (by simp)))
end Go.Proofs.Ytofbngpckllkoab

namespace Go.Proofs.Ytofbngpckllkoab
open Go.RowKit

theorem info_flow : (Try.prog.info? 35).map (fun i => (i.zero, i.size, i.bytes)) = some (some (.agg #[.int .i64 0, .string ⟨#[]⟩, .string ⟨#[]⟩, .string ⟨#[]⟩, .string ⟨#[]⟩]), 5, 72) := by kernel_rfl
theorem ul_flows : Try.prog.underlying 22 = some (.slice 35) := by kernel_rfl

set_option maxHeartbeats 1000000 in
set_option maxRecDepth 100000 in
theorem law10_great (l : List Fl) (p c : ByteArray) (af : Option Addr) (cf : Nat) (w : World) (hp : p.size ≤ 1100000) (hc : c.size ≤ 1100000)
    (HG : Hid (∀ W, Below w.heap.size w W → Calls Try.prog 4 #[.slice af l.length cf] W fun e w' => e = .returned (.bool (greatFl l)) ∧ Below W.heap.size W w'))
    (hg : greatFl l = true ∨ 2000 < p.size + c.size) :
    Calls Try.prog 3 #[.slice af l.length cf, .string p, .string c] w fun e w' => e = .returned (.bool true) ∧ Below w.heap.size w w' := by
  cases h1 : greatFl l
  · have h2 : 2000 < p.size + c.size := by rcases hg with h | h; (rw [h1] at h; cases h); exact h
    rw [h1] at HG
    have e1 : IntKind.i64.wrap ((p.size : Int) + (c.size : Int)) = (p.size : Int) + (c.size : Int) := IntWalk.i64_in _ (by omega)
    have t1 : decide ((2000 : Int) < (p.size : Int) + (c.size : Int)) = true := by rw [decide_eq_true_eq]; omega
    clear h1 h2 hg
    go_enter Try.func3, Try.ntmps3
    go_wp2_with fail
    refine (HG.out _ (Below.refl _ _)).mono ?_
    rintro e w1 ⟨rfl, hb1⟩
    go_wp2
    go_ret
    exact ⟨rfl, hb1⟩
  · rw [h1] at HG
    clear h1 hg
    go_enter Try.func3, Try.ntmps3
    go_wp2_with fail
    refine (HG.out _ (Below.refl _ _)).mono ?_
    rintro e w1 ⟨rfl, hb1⟩
    go_wp2
    go_ret
    exact ⟨rfl, hb1⟩

set_option maxHeartbeats 4000000 in
set_option maxRecDepth 100000 in
theorem law10_main (l : List Fl) (p c s : ByteArray) (x y : Int) (af : Option Addr) (cf : Nat) (w : World) (hn : l.length ≤ 1100000) (h2 : p.size + c.size ≤ 2000)
    (hsl : Sl w (.slice af l.length cf) 5 l.length (l.flatMap Fl.cells)) (haf : af = none → cf = 0)
    (HG : Hid (∀ W, Below w.heap.size w W → Calls Try.prog 4 #[.slice af l.length cf] W fun e w' => e = .returned (.bool false) ∧ Below W.heap.size W w'))
    (HN : Hid (∀ (W : World) (a : Option Addr) (k : Nat), Rd Fl.cells 5 W a l → Calls Try.prog 5 #[.slice a l.length k, .string p, .string c] W fun e w' => e = .returned (.tuple #[.string s, .int .i64 x]) ∧ Below W.heap.size W w'))
    (HRN : Hid (∀ W, Below w.heap.size w W → Calls Try.prog 6 #[.slice af l.length cf, .string p, .string c] W fun e w' => e = .returned (.tuple #[.string s, .int .i64 x]) ∧ Below W.heap.size W w'))
    (HC : Hid (∀ (W : World) (a : Option Addr) (k : Nat), Rd Fl.cells 5 W a l → Calls Try.prog 7 #[.slice a l.length k] W fun e w' => e = .returned (.int .i64 y) ∧ Below W.heap.size W w'))
    (HRC : Hid (∀ W, Below w.heap.size w W → Calls Try.prog 8 #[.slice af l.length cf] W fun e w' => e = .returned (.int .i64 y) ∧ Below W.heap.size W w'))
    (HSm : Hid (∀ (W : World) (a : Option Addr) (k : Nat), Below w.heap.size w W → Rd Fl.cells 5 W a l → Calls Try.prog 9 #[.slice a l.length k, .slice af l.length cf] W fun e w' => e = .returned (.bool true) ∧ Below W.heap.size W w')) :
    Calls Try.prog 3 #[.slice af l.length cf, .string p, .string c] w fun e w' => e = .returned (.bool true) ∧ Below w.heap.size w w' := by
  obtain ⟨i0, hi0, hz0, hs0, hb0⟩ := info_parts info_flow
  have HSl := Lib.hid hsl
  have Naf := Lib.hid haf
  have e1 : IntKind.i64.wrap ((p.size : Int) + (c.size : Int)) = (p.size : Int) + (c.size : Int) := IntWalk.i64_in _ (by omega)
  have t1 : decide ((2000 : Int) < (p.size : Int) + (c.size : Int)) = false := by rw [decide_eq_false_iff_not]; omega
  have t2 : (y == y) = true := by simp
  have t3 : (x == x) = true := by simp
  have t4 : (s.toList == s.toList) = true := by simp
  clear hsl haf h2
  go_enter Try.func3, Try.ntmps3
  go_wp2_with fail
  refine (HG.out _ (Below.refl _ _)).mono ?_
  rintro e w1 ⟨rfl, hb1⟩
  clear HG
  go_wp2_with (first | (at_builtin; refine wpList_append_empty rfl (.tmp 22) (.tmp 23) 22 rfl 35 i0 _ 5 72 ul_flows hi0 hz0 hs0 hb0 (by decide) _ af l.length cf (l.flatMap Fl.cells) rfl rfl ?_ Naf.out (by omega) (by omega) ?_; (exact HSl.out.below (Below.alloc (by assumption) (Below.size (by assumption)) _)); intro ad2 cap2 w2 hsl2 hg2 hbb2; have qb2 : Below w.heap.size w w2 := Below.trans (Below.alloc hb1 hb1.size _) (hbb2.mono (Below.size (Below.alloc hb1 hb1.size _)))))
  have R2 := Lib.hid (Rd.of_sl (enc := Fl.cells) (m := 5) (fun _ => rfl) (by decide) hsl2)
  clear hsl2 hg2 hbb2 hb1 e1 t1
  refine (HN.out _ _ _ R2.out).mono ?_
  rintro e w3 ⟨rfl, hb3⟩
  have qb3 := qb2.trans (hb3.mono qb2.size)
  go_wp2_with fail
  refine (HRN.out _ qb3).mono ?_
  rintro e w4 ⟨rfl, hb4⟩
  have qb4 := qb3.trans (hb4.mono qb3.size)
  have hb24 := hb3.trans (hb4.mono hb3.size)
  go_wp2_with fail
  refine (HC.out _ _ _ (R2.out.below hb24)).mono ?_
  rintro e w5 ⟨rfl, hb5⟩
  have qb5 := qb4.trans (hb5.mono qb4.size)
  have hb25 := hb24.trans (hb5.mono hb24.size)
  go_wp2_with fail
  refine (HRC.out _ qb5).mono ?_
  rintro e w6 ⟨rfl, hb6⟩
  have qb6 := qb5.trans (hb6.mono qb5.size)
  have hb26 := hb25.trans (hb6.mono hb25.size)
  go_wp2_with fail
  refine (HSm.out _ _ _ qb6 (R2.out.below hb26)).mono ?_
  rintro e w7 ⟨rfl, hb7⟩
  have qb7 := qb6.trans (hb7.mono qb6.size)
  go_wp2
  go_ret
  exact ⟨rfl, qb7⟩

theorem greatFl_sz {l : List Fl} (h : greatFl l = false) {f : Fl} (hf : f ∈ l) : f.sz ≤ 20000 := by
  simp only [greatFl, decide_eq_false_iff_not] at h
  have h1 : l.length ≤ 6000 := by omega
  have h2 := sz_le hf
  rw [List.take_of_length_le h1] at h
  omega
theorem law10_any (l : List Fl) (p c : ByteArray) (af : Option Addr) (cf : Nat) (w : World) (hn : l.length ≤ 1100000) (hp : p.size ≤ 1100000) (hc : c.size ≤ 1100000)
    (hr : Rd Fl.cells 5 w af l) (hsl : Sl w (.slice af l.length cf) 5 l.length (l.flatMap Fl.cells)) (haf : af = none → cf = 0) (hs : ∀ f ∈ l, f.small) :
    Calls Try.prog 3 #[.slice af l.length cf, .string p, .string c] w fun e w' => e = .returned (.bool true) ∧ Below w.heap.size w w' := by
  have HG := Lib.hid (fun W (h : Below w.heap.size w W) => greatFl_any l af cf W hn (hr.below h) hs)
  by_cases hg : greatFl l = true ∨ 2000 < p.size + c.size
  · exact law10_great l p c af cf w hp hc HG hg
  · have hg1 : greatFl l = false := by
      cases h : greatFl l with
      | false => rfl
      | true => exact absurd (.inl h) hg
    have hg2 : p.size + c.size ≤ 2000 := by
      rcases Nat.lt_or_ge 2000 (p.size + c.size) with h | h
      · exact absurd (.inr h) hg
      · exact h
    have ham : ∀ f ∈ l, f.am.size ≤ 900000 := fun f hf => by have := greatFl_sz hg1 hf; unfold Fl.sz at this; omega
    rw [hg1] at HG
    exact law10_main l p c (netS p c l) (netE p c l) (flowsErr l) af cf w hn hg2 hsl haf HG
      (Lib.hid fun W a k h => net_any l p c a k W hn h hs hp hc ham)
      (Lib.hid fun W h => rnet_any l p c af cf W hn (hr.below h) hs hp hc ham)
      (Lib.hid fun W a k h => chkFl_any l a k W hn h hs)
      (Lib.hid fun W h => rchkFl_any l af cf W (hr.below h) hs hn)
      (Lib.hid fun W a k h hx => sameFl_any l a af k cf W hn hx (hr.below h))
end Go.Proofs.Ytofbngpckllkoab
