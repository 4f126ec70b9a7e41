/-
  rational.Div.  Printed by tools/genratmd.py. scenario.Inverse.  Printed by tools/geninverse.py. A map from names to shifts. novationref02.Add.  Printed by tools/genrefratops.py.
-/
import Derived.Test.YtofbngpckllkoacGreatPart12
import Derived.Test.YtofbngpckllkoacGreatPart16
import Derived.Test.YtofbngpckllkoacGreatPart17
import Derived.Test.YtofbngpckllkoacGreatPart15
import Derived.Maps.OwnSet
namespace Go.Proofs.YtofbngpckllkoacGreat
open Go.RowKit

set_option maxHeartbeats 4000000 in
set_option maxRecDepth 100000 in
theorem ratdiv_bad (a b : ByteArray) (w : World) (ha : a.size ≤ 1000000) (hb : b.size ≤ 1000000) (he0 : bE a b ≠ 0) :
    Calls Tryz.prog 24 #[.string a, .string b] w (RatPost2 w (divS a b) (divE a b)) := by
  have Hz := Lib.hid (show ¬ (bE a b = 0 ∧ bl (pN b) = [48]) from fun k => he0 k.1)
  have t0 : (bE a b == 0) = false := by rw [beq_eq_false_iff_ne]; exact he0
  have HB := Lib.hid (both_ab a b w (by omega) (by omega))
  have Hs := Lib.hid (part_sizes a b ha hb)
  clear ha hb
  go_enter Tryz.func24, Tryz.ntmps24
  go_wp2_with fail
  refine HB.out.mono ?_
  rintro e w1 ⟨P, rfl, hP, hp, hb1⟩
  obtain ⟨q0, q1, q2, q3, q4⟩ := hp.cells
  go_wp2_with fail
  refine (keepr_any P 44 w1).mono ?_
  rintro e w2 ⟨rfl, hm, hb2⟩
  clear q0 q1 q2 q3 q4
  clear t0
  skip
  obtain ⟨Bm, hBm⟩ : ∃ B, B = w1.heap.size := ⟨_, rfl⟩
  rw [← hBm] at hm ⊢
  obtain ⟨n0, hn0⟩ : ∃ n, n = pN a := ⟨_, rfl⟩
  obtain ⟨n1, hn1⟩ : ∃ n, n = bN1 a b := ⟨_, rfl⟩
  obtain ⟨d0, hd0⟩ : ∃ n, n = pD a := ⟨_, rfl⟩
  obtain ⟨d1, hd1⟩ : ∃ n, n = bD1 a b := ⟨_, rfl⟩
  rw [← hn0, ← hn1, ← hd0, ← hd1] at hp Hs
  have HN := Lib.hid (And.intro hn0 (And.intro hn1 (And.intro hd0 hd1)))
  clear hn0 hn1 hd0 hd1
  obtain ⟨z0, z1, z2, z3⟩ := Hs.out
  have st0 : PSt w w2.drew P Bm Bm 44 44 n0 n1 d0 d1 (bE a b) := PSt.drew ⟨hp.below hb2, hm, hm, hb1.trans (hb2.mono hb1.size), hP⟩
  have p := hp.below hb2
  obtain ⟨h0, h1, h2, h3, _⟩ := p.cells
  clear p hp hm hb1 hb2 hBm hP HB Hs
  obtain ⟨e0, he⟩ : ∃ e, e = bE a b := ⟨_, rfl⟩
  rw [← he] at st0
  have HE0 := Lib.hid he
  clear he he0
  have HM : Hid (∀ W er x y, PSt w W P Bm Bm 44 44 n0 n1 d0 d1 er → x.size ≤ 1100000 → y.size ≤ 1100000 → Calls Tryz.prog 69 #[.string x, .string y, .pointer (some ⟨Bm, 0, none⟩), .pointer (some ⟨Bm + 1, 0, none⟩)] W fun e w' => ∃ t er', e = .returned (.string t) ∧ Hid (StepR (bl x) (bl y) (ival (bl x) * ival (bl y)) er (bl t) er') ∧ PSt w w' P Bm Bm 44 44 n0 n1 d0 d1 er' ∧ t.size ≤ 1100000 ∧ w'.cell? ⟨P, 0, none⟩ = some (.string n0) ∧ w'.cell? ⟨P, 1, none⟩ = some (.string n1) ∧ w'.cell? ⟨P, 2, none⟩ = some (.string d0) ∧ w'.cell? ⟨P, 3, none⟩ = some (.string d1)) := by
    intro W er x y hst hx hy
    refine (pst_mul hst x y hx hy).mono ?_
    rintro e w' ⟨t, er', rfl, hr, hst'⟩
    obtain ⟨c0, c1, c2, c3, _⟩ := hst'.p.cells
    exact ⟨t, er', rfl, hr, hst', by have := hr.out.len; rw [← bl_length]; omega, c0, c1, c2, c3⟩
  have HD : Hid (∀ W er x y, PSt w W P Bm Bm 44 44 n0 n1 d0 d1 er → x.size ≤ 1100000 → y.size ≤ 1100000 → (er = 0 → intErr (bl x) = 0 ∧ intErr (bl y) = 0 ∧ dval (body (bl y)) ≠ 0) → Calls Tryz.prog 45 #[.pointer (some ⟨P, 0, none⟩), .string x, .string y] W fun e w' => ∃ s er2, e = .returned (.tuple #[.string s, .int .i64 er2]) ∧ Hid (MadeR (bl x) (bl y) er (bl s) er2) ∧ Below w.heap.size w w' ∧ w'.cell? ⟨P, 0, none⟩ = some (.string n0) ∧ w'.cell? ⟨P, 1, none⟩ = some (.string n1) ∧ w'.cell? ⟨P, 2, none⟩ = some (.string d0) ∧ w'.cell? ⟨P, 3, none⟩ = some (.string d1)) := by
    intro W er x y hst hx hy hpre
    have hcc := fun W' (hb : Below W.heap.size W W') => (hst.p.below hb).cells
    by_cases he : er = 0
    · subst he
      obtain ⟨i1, i2, i3⟩ := hpre rfl
      refine (made_ok x y P n0 n1 d0 d1 W hst.p _ (Lib.hid fun W' => make_ok x y W' hx hy i1 i2 i3)).mono ?_
      rintro e w' ⟨s, rfl, hs, hb⟩
      obtain ⟨c0, c1, c2, c3, _⟩ := hcc _ hb
      exact ⟨s, 0, rfl, .inr ⟨rfl, rfl, hs⟩, hst.b.trans (hb.mono hst.b.size), c0, c1, c2, c3⟩
    · refine (made_err x y P n0 n1 d0 d1 er W hst.p he).mono ?_
      rintro e w' ⟨rfl, hb⟩
      obtain ⟨c0, c1, c2, c3, _⟩ := hcc _ hb
      exact ⟨_, er, rfl, .inl ⟨he, rfl, rfl⟩, hst.b.trans (hb.mono hst.b.size), c0, c1, c2, c3⟩
  have HC : Hid (∀ t1 t2 e1 e2, StepR (bl n0) (bl d1) (ival (bl n0) * ival (bl d1)) e0 t1 e1 → StepR (bl d0) (bl n1) (ival (bl d0) * ival (bl n1)) e1 t2 e2 → e2 = divE a b ∧ (e2 = 0 → intErr t1 = 0 ∧ intErr t2 = 0 ∧ dval (body t2) ≠ 0 ∧ ratTxt (!(isNeg t1 == isNeg t2)) (dval (body t1)) (dval (body t2)) = divS a b)) := by
    obtain ⟨q1, q2, q3, q4⟩ := HN.out
    have q5 := HE0.out
    subst q1 q2 q3 q4 q5
    exact fun _ _ _ _ r1 r2 => div_done ⟨r1, r2⟩ Hz.out
  have HS : Hid (divE a b ≠ 0 → divS a b = []) := fun k => by have h := k; rw [divE, if_neg Hz.out] at h; rw [divS, if_neg Hz.out]; exact frS_err h
  clear HN HE0 Hz
  go_wp2_with fail
  go_region_held3 (fun w' => w'.cell? ⟨P, 0, none⟩ = some (.string n0) ∧ w'.cell? ⟨P, 1, none⟩ = some (.string n1) ∧ w'.cell? ⟨P, 2, none⟩ = some (.string d0) ∧ w'.cell? ⟨P, 3, none⟩ = some (.string d1))
    (first | assumption | exact ⟨by assumption, by assumption, by assumption, by assumption⟩ | go_keep)
    (first | (go_at_call 69; first | (refine (HM.out _ _ _ _ st1 z2 z1).mono ?_; rintro e w5 ⟨t2, e2, rfl, r2, st2, l2, p0, p1, p2, p3⟩) | (refine (HM.out _ _ _ _ st0 z0 z3).mono ?_; rintro e w4 ⟨t1, e1, rfl, r1, st1, l1, p0, p1, p2, p3⟩)) | (go_at_call 45; refine (HD.out _ _ _ _ st2 l1 l2 (fun h => by obtain ⟨h1, h2, h3, _⟩ := (HC.out _ _ _ _ r1.out r2.out).2 h; exact ⟨h1, h2, h3⟩)).mono ?_; rintro e w8 ⟨s, e5, rfl, r5, hbz, p0, p1, p2, p3⟩))
  have HF : Hid (RatPost2 w (divS a b) (divE a b) (.returned (.tuple #[.string s, .int .i64 e5])) w8) := by
    have hc := HC.out _ _ _ _ r1.out r2.out
    rcases r5.out with ⟨h1, h2, rfl⟩ | ⟨h1, rfl, h2⟩
    · have hne : divE a b ≠ 0 := by rw [← hc.1]; exact h1
      refine ⟨s, ?_, ?_, hbz⟩
      · rw [hc.1]
      · rw [HS.out hne]; exact h2
    · refine ⟨s, ?_, ?_, hbz⟩
      · rw [← hc.1, h1]
      · rw [h2]; exact (hc.2 h1).2.2.2
  clear HC HD HM HS r1 r2 r5 st0 st1 st2
  go_wp2
  go_ret2
  exact HF.out

set_option maxHeartbeats 4000000 in
set_option maxRecDepth 100000 in
theorem ratdiv_ok (a b : ByteArray) (w : World) (ha : a.size ≤ 1000000) (hb : b.size ≤ 1000000) (he0 : bE a b = 0) (hn0 : bl (pN b) ≠ [48]) :
    Calls Tryz.prog 24 #[.string a, .string b] w (RatPost2 w (divS a b) (divE a b)) := by
  have Hz := Lib.hid (show ¬ (bE a b = 0 ∧ bl (pN b) = [48]) from fun k => hn0 k.2)
  have tn : ((bN1 a b).toList == [48]) = false := ne_lit (by rw [(bE_zero he0).2.2.1]; exact hn0)
  clear hn0
  have HB := Lib.hid (both_ab a b w (by omega) (by omega))
  have Hs := Lib.hid (part_sizes a b ha hb)
  clear ha hb
  go_enter Tryz.func24, Tryz.ntmps24
  go_wp2_with fail
  refine HB.out.mono ?_
  rintro e w1 ⟨P, rfl, hP, hp, hb1⟩
  obtain ⟨q0, q1, q2, q3, q4⟩ := hp.cells
  rw [he0] at q4
  go_wp2_with fail
  refine (keepr_any P 44 w1).mono ?_
  rintro e w2 ⟨rfl, hm, hb2⟩
  clear q0 q1 q2 q3 q4
  skip
  clear tn
  obtain ⟨Bm, hBm⟩ : ∃ B, B = w1.heap.size := ⟨_, rfl⟩
  rw [← hBm] at hm ⊢
  obtain ⟨n0, hn0⟩ : ∃ n, n = pN a := ⟨_, rfl⟩
  obtain ⟨n1, hn1⟩ : ∃ n, n = bN1 a b := ⟨_, rfl⟩
  obtain ⟨d0, hd0⟩ : ∃ n, n = pD a := ⟨_, rfl⟩
  obtain ⟨d1, hd1⟩ : ∃ n, n = bD1 a b := ⟨_, rfl⟩
  rw [← hn0, ← hn1, ← hd0, ← hd1] at hp Hs
  have HN := Lib.hid (And.intro hn0 (And.intro hn1 (And.intro hd0 hd1)))
  clear hn0 hn1 hd0 hd1
  obtain ⟨z0, z1, z2, z3⟩ := Hs.out
  have st0 : PSt w w2.drew P Bm Bm 44 44 n0 n1 d0 d1 (bE a b) := PSt.drew ⟨hp.below hb2, hm, hm, hb1.trans (hb2.mono hb1.size), hP⟩
  have p := hp.below hb2
  obtain ⟨h0, h1, h2, h3, _⟩ := p.cells
  clear p hp hm hb1 hb2 hBm hP HB Hs
  obtain ⟨e0, he⟩ : ∃ e, e = bE a b := ⟨_, rfl⟩
  rw [← he] at st0
  have HE0 := Lib.hid he
  clear he he0
  have HM : Hid (∀ W er x y, PSt w W P Bm Bm 44 44 n0 n1 d0 d1 er → x.size ≤ 1100000 → y.size ≤ 1100000 → Calls Tryz.prog 69 #[.string x, .string y, .pointer (some ⟨Bm, 0, none⟩), .pointer (some ⟨Bm + 1, 0, none⟩)] W fun e w' => ∃ t er', e = .returned (.string t) ∧ Hid (StepR (bl x) (bl y) (ival (bl x) * ival (bl y)) er (bl t) er') ∧ PSt w w' P Bm Bm 44 44 n0 n1 d0 d1 er' ∧ t.size ≤ 1100000 ∧ w'.cell? ⟨P, 0, none⟩ = some (.string n0) ∧ w'.cell? ⟨P, 1, none⟩ = some (.string n1) ∧ w'.cell? ⟨P, 2, none⟩ = some (.string d0) ∧ w'.cell? ⟨P, 3, none⟩ = some (.string d1)) := by
    intro W er x y hst hx hy
    refine (pst_mul hst x y hx hy).mono ?_
    rintro e w' ⟨t, er', rfl, hr, hst'⟩
    obtain ⟨c0, c1, c2, c3, _⟩ := hst'.p.cells
    exact ⟨t, er', rfl, hr, hst', by have := hr.out.len; rw [← bl_length]; omega, c0, c1, c2, c3⟩
  have HD : Hid (∀ W er x y, PSt w W P Bm Bm 44 44 n0 n1 d0 d1 er → x.size ≤ 1100000 → y.size ≤ 1100000 → (er = 0 → intErr (bl x) = 0 ∧ intErr (bl y) = 0 ∧ dval (body (bl y)) ≠ 0) → Calls Tryz.prog 45 #[.pointer (some ⟨P, 0, none⟩), .string x, .string y] W fun e w' => ∃ s er2, e = .returned (.tuple #[.string s, .int .i64 er2]) ∧ Hid (MadeR (bl x) (bl y) er (bl s) er2) ∧ Below w.heap.size w w' ∧ w'.cell? ⟨P, 0, none⟩ = some (.string n0) ∧ w'.cell? ⟨P, 1, none⟩ = some (.string n1) ∧ w'.cell? ⟨P, 2, none⟩ = some (.string d0) ∧ w'.cell? ⟨P, 3, none⟩ = some (.string d1)) := by
    intro W er x y hst hx hy hpre
    have hcc := fun W' (hb : Below W.heap.size W W') => (hst.p.below hb).cells
    by_cases he : er = 0
    · subst he
      obtain ⟨i1, i2, i3⟩ := hpre rfl
      refine (made_ok x y P n0 n1 d0 d1 W hst.p _ (Lib.hid fun W' => make_ok x y W' hx hy i1 i2 i3)).mono ?_
      rintro e w' ⟨s, rfl, hs, hb⟩
      obtain ⟨c0, c1, c2, c3, _⟩ := hcc _ hb
      exact ⟨s, 0, rfl, .inr ⟨rfl, rfl, hs⟩, hst.b.trans (hb.mono hst.b.size), c0, c1, c2, c3⟩
    · refine (made_err x y P n0 n1 d0 d1 er W hst.p he).mono ?_
      rintro e w' ⟨rfl, hb⟩
      obtain ⟨c0, c1, c2, c3, _⟩ := hcc _ hb
      exact ⟨_, er, rfl, .inl ⟨he, rfl, rfl⟩, hst.b.trans (hb.mono hst.b.size), c0, c1, c2, c3⟩
  have HC : Hid (∀ t1 t2 e1 e2, StepR (bl n0) (bl d1) (ival (bl n0) * ival (bl d1)) e0 t1 e1 → StepR (bl d0) (bl n1) (ival (bl d0) * ival (bl n1)) e1 t2 e2 → e2 = divE a b ∧ (e2 = 0 → intErr t1 = 0 ∧ intErr t2 = 0 ∧ dval (body t2) ≠ 0 ∧ ratTxt (!(isNeg t1 == isNeg t2)) (dval (body t1)) (dval (body t2)) = divS a b)) := by
    obtain ⟨q1, q2, q3, q4⟩ := HN.out
    have q5 := HE0.out
    subst q1 q2 q3 q4 q5
    exact fun _ _ _ _ r1 r2 => div_done ⟨r1, r2⟩ Hz.out
  have HS : Hid (divE a b ≠ 0 → divS a b = []) := fun k => by have h := k; rw [divE, if_neg Hz.out] at h; rw [divS, if_neg Hz.out]; exact frS_err h
  clear HN HE0 Hz
  go_wp2_with fail
  go_region_held3 (fun w' => w'.cell? ⟨P, 0, none⟩ = some (.string n0) ∧ w'.cell? ⟨P, 1, none⟩ = some (.string n1) ∧ w'.cell? ⟨P, 2, none⟩ = some (.string d0) ∧ w'.cell? ⟨P, 3, none⟩ = some (.string d1))
    (first | assumption | exact ⟨by assumption, by assumption, by assumption, by assumption⟩ | go_keep)
    (first | (go_at_call 69; first | (refine (HM.out _ _ _ _ st1 z2 z1).mono ?_; rintro e w5 ⟨t2, e2, rfl, r2, st2, l2, p0, p1, p2, p3⟩) | (refine (HM.out _ _ _ _ st0 z0 z3).mono ?_; rintro e w4 ⟨t1, e1, rfl, r1, st1, l1, p0, p1, p2, p3⟩)) | (go_at_call 45; refine (HD.out _ _ _ _ st2 l1 l2 (fun h => by obtain ⟨h1, h2, h3, _⟩ := (HC.out _ _ _ _ r1.out r2.out).2 h; exact ⟨h1, h2, h3⟩)).mono ?_; rintro e w8 ⟨s, e5, rfl, r5, hbz, p0, p1, p2, p3⟩))
  have HF : Hid (RatPost2 w (divS a b) (divE a b) (.returned (.tuple #[.string s, .int .i64 e5])) w8) := by
    have hc := HC.out _ _ _ _ r1.out r2.out
    rcases r5.out with ⟨h1, h2, rfl⟩ | ⟨h1, rfl, h2⟩
    · have hne : divE a b ≠ 0 := by rw [← hc.1]; exact h1
      refine ⟨s, ?_, ?_, hbz⟩
      · rw [hc.1]
      · rw [HS.out hne]; exact h2
    · refine ⟨s, ?_, ?_, hbz⟩
      · rw [← hc.1, h1]
      · rw [h2]; exact (hc.2 h1).2.2.2
  clear HC HD HM HS r1 r2 r5 st0 st1 st2
  go_wp2
  go_ret2
  exact HF.out

set_option maxHeartbeats 4000000 in
set_option maxRecDepth 100000 in
theorem ratdiv_zero (a b : ByteArray) (w : World) (ha : a.size ≤ 1000000) (hb : b.size ≤ 1000000) (he0 : bE a b = 0) (hn0 : bl (pN b) = [48]) :
    Calls Tryz.prog 24 #[.string a, .string b] w (RatPost2 w (divS a b) (divE a b)) := by
  have hE : divE a b = 16 := by rw [divE, if_pos ⟨he0, hn0⟩]
  have hS : divS a b = [] := by rw [divS, if_pos ⟨he0, hn0⟩]
  rw [hE, hS]
  have HB := Lib.hid (both_ab a b w (by omega) (by omega))
  have tn : bN1 a b = ⟨#[48]⟩ := by rw [(bE_zero he0).2.2.1]; exact eq_lit hn0
  have Htn := Lib.hid tn
  have He0 := Lib.hid he0
  clear ha hb hE hS he0 hn0 tn
  go_enter Tryz.func24, Tryz.ntmps24
  go_wp2_with fail
  refine HB.out.mono ?_
  rintro e w1 ⟨P, rfl, hP, hp, hb1⟩
  rw [Htn.out, He0.out] at hp
  obtain ⟨q0, q1, q2, q3, q4⟩ := hp.cells
  clear hp
  go_wp2
  go_ret2
  exact ⟨_, rfl, rfl, hb1⟩
theorem ratdiv_any (a b : ByteArray) (w : World) (ha : a.size ≤ 1000000) (hb : b.size ≤ 1000000) :
    Calls Tryz.prog 24 #[.string a, .string b] w (RatPost2 w (divS a b) (divE a b)) := by
  by_cases he0 : bE a b = 0
  · by_cases hn0 : bl (pN b) = [48]
    · exact ratdiv_zero a b w ha hb he0 hn0
    · exact ratdiv_ok a b w ha hb he0 hn0
  · exact ratdiv_bad a b w ha hb he0
end Go.Proofs.YtofbngpckllkoacGreat

namespace Go.Proofs.YtofbngpckllkoacGreat
open Go.RowKit

/-- The state of a round. -/
structure ISt (wr W : World) (g X K B0 n cap : Nat) (x : Sh) (e : Int) (os : List Value) : Prop where
  r : RSt wr W 50 4 g B0 n cap os
  bx : BoxN W X 50 x.cells
  bk : BoxN W K 66 [.int .i64 e]
section
variable {wr W W' : World} {g X K B0 n cap : Nat} {x : Sh} {e : Int} {os : List Value}
theorem ISt.ext (h : ISt wr W g X K B0 n cap x e os) (hb : Below W.heap.size W W') : ISt wr W' g X K B0 n cap x e os :=
  ⟨h.r.ext hb, h.bx.below hb h.bx.lt, h.bk.below hb h.bk.lt⟩
theorem ISt.set (h : ISt wr W g X K B0 n cap x e os) (hX : X ≠ g) (hK : K ≠ g) (j : Nat) (u : Value) : ISt wr (W.setCell ⟨g, j, none⟩ u) g X K B0 n cap x e (os.set j u) :=
  ⟨h.r.set j u, h.bx.far hX u, h.bk.far hK u⟩
theorem ISt.got (h : ISt wr W g X K B0 n cap x e os) (hK : wr.heap.size ≤ K) (hg : g < wr.heap.size) (hX : X ≠ K) {e' : Int} (b : BoxN W' K 66 [.int .i64 e']) (ho : ∀ b, b ≠ K → W'.heap[b]? = W.heap[b]?) (hb : Below K W W') (hs : W.heap.size ≤ W'.heap.size) :
    ISt wr W' g X K B0 n cap x e' os := ⟨h.r.but hK hg hb hs ho, h.bx.of_block (ho X hX), b⟩
end
theorem kept_zero (n : Int) : kept 0 n = n := by rw [kept, if_pos rfl]
theorem inv_kept {x : Sh} (h : kept (divE oneB x.ra) (mulE x.ex negB) ≠ 0) : invE x = kept (divE oneB x.ra) (mulE x.ex negB) := by
  unfold kept at h ⊢
  by_cases h1 : divE oneB x.ra = 0
  · rw [if_pos h1] at h ⊢
    exact inv_mul h1 h
  · rw [if_neg h1]
    exact inv_div h1
theorem inv_kept_zero {x : Sh} (h : kept (divE oneB x.ra) (mulE x.ex negB) = 0) : invE x = divE (invM x) x.ra := by
  unfold kept at h
  by_cases h1 : divE oneB x.ra = 0
  · rw [if_pos h1] at h
    exact inv_last h1 h
  · rw [if_neg h1] at h
    exact absurd h h1

set_option maxHeartbeats 2000000 in
set_option maxRecDepth 100000 in
theorem inverse_no (l : List Sh) (ad : Option Addr) (cap : Nat) (w : World)
    (HV : Hid (∀ W, Below w.heap.size w W → Calls Tryz.prog 13 #[.agg #[.slice ad l.length cap]] W fun e w' => e = .returned (.int .i64 (scnE (scnB l))) ∧ Below W.heap.size W w'))
    (hv : scnB l = false) :
    Calls Tryz.prog 9 #[.agg #[.slice ad l.length cap]] w (ScnPost w (inverseE l) (inverseL l)) := by
  obtain ⟨e1, e2⟩ := inverse_bad hv
  rw [hv] at HV
  change Hid (∀ W, Below w.heap.size w W → Calls Tryz.prog 13 #[.agg #[.slice ad l.length cap]] W fun e w' => e = .returned (.int .i64 8) ∧ Below W.heap.size W w') at HV
  rw [e1, e2]
  clear e1 e2 hv
  have bx := Lib.hid (fun (o1 : Obj) => BoxN.new (w.alloc o1) [.slice none 0 0] 24)
  go_enter Tryz.func9, Tryz.ntmps9
  go_wp2_with fail
  refine (HV.out _ (below_a2 _ _ _)).mono ?_
  rintro e w1 ⟨rfl, hb1⟩
  have hs1 := hb1.size
  simp at hs1
  have bR := (bx.out _).below hb1 (by simp)
  simp at bR
  have hbel : Below w.heap.size w w1 := (below_a2 _ _ _).trans (hb1.mono (by simp; omega))
  clear hb1 bx HV
  have q0 : w1.cell? ⟨w.heap.size + 1, 0, none⟩ = some (.slice none 0 0) := bR.cell rfl
  have z0 := bR.frozen 0
  have HS := Lib.hid (bR.set 0 (.slice none 0 0))
  have HW := Lib.hid (hbel.setCell (p := ⟨w.heap.size + 1, 0, none⟩) (by show _ ≤ _ + 1; omega) (.slice none 0 0))
  clear bR hbel
  go_wp2
  obtain ⟨W3, hW3⟩ : ∃ W3, W3 = (w1.setCell ⟨w.heap.size + 1, 0, none⟩ (.slice none 0 0)) := ⟨_, rfl⟩
  rw [← hW3]
  rw [← hW3] at HS HW
  have c0 : W3.cell? ⟨w.heap.size + 1, 0, none⟩ = some (.slice none 0 0) := HS.out.cell rfl
  refine bodyPost_ret (v := .tuple #[.agg #[.slice none 0 0], .int .i64 8]) (by simp [results, Tryz.results9, go_sem, c0]) rfl (scnPost_none HW.out)

set_option maxHeartbeats 8000000 in
set_option maxRecDepth 100000 in
theorem inverse_yes (l : List Sh) (ad : Option Addr) (cap : Nat) (w : World) (hn : l.length ≤ 1100000)
    (HV : Hid (∀ W, Below w.heap.size w W → Calls Tryz.prog 13 #[.agg #[.slice ad l.length cap]] W fun e w' => e = .returned (.int .i64 (scnE (scnB l))) ∧ Below W.heap.size W w'))
    (HCl : Hid (∀ W, Below w.heap.size w W → Calls Tryz.prog 22 #[.slice ad l.length cap] W (ClonePost Sh.cells 50 4 W l)))
    (hv : scnB l = true) (hr : Rd Sh.cells 4 w ad l) (hs : ∀ x ∈ l, x.ra.size ≤ 1000000 ∧ x.ex.size ≤ 1000000) :
    Calls Tryz.prog 9 #[.agg #[.slice ad l.length cap]] w (ScnPost w (inverseE l) (inverseL l)) := by
  have HNum : Hid (∀ (k : Nat) (x : Sh), l[k]? = some x → errs ((l.take k).map invE) = 0 → invE x ≠ 0 → inverseE l = invE x ∧ inverseL l = []) := fun k x h h0 hx => inverse_num hv h h0 hx
  have HOk : Hid (errs (l.map invE) = 0 → inverseE l = 0 ∧ inverseL l = l.map inv) := fun h => inverse_ok hv h
  rw [hv] at HV
  change Hid (∀ W, Below w.heap.size w W → Calls Tryz.prog 13 #[.agg #[.slice ad l.length cap]] W fun e w' => e = .returned (.int .i64 0) ∧ Below W.heap.size W w') at HV
  have HR := Lib.hid hr
  have HSm := Lib.hid hs
  clear hv hr hs
  have bx := Lib.hid (fun (o1 : Obj) => BoxN.new (w.alloc o1) [.slice none 0 0] 24)
  have bx0 := Lib.hid (fun (o1 : Obj) => (BoxN.new w [.slice ad l.length cap] 24).alloc o1)
  go_enter Tryz.func9, Tryz.ntmps9
  go_wp2_with fail
  refine (HV.out _ (below_a2 _ _ _)).mono ?_
  rintro e w1 ⟨rfl, hb1⟩
  have hs1 := hb1.size
  simp at hs1
  have bR := (bx.out _).below hb1 (by simp)
  have bS := (bx0.out _).below hb1 (by simp; omega)
  simp at bR
  have hbel : Below w.heap.size w w1 := (below_a2 _ _ _).trans (hb1.mono (by simp; omega))
  clear hb1 bx bx0 HV
  have k0 : w1.cell? ⟨w.heap.size, 0, none⟩ = some (.slice ad l.length cap) := bS.cell rfl
  go_wp2_with fail
  refine (HCl.out _ hbel).mono ?_
  rintro e w2 ⟨adC, capC, rfl, own2, hb2⟩
  have hs2 := hb2.size
  have bR2 := bR.below hb2 (by omega)
  have bS2 := bS.below hb2 (by omega)
  clear k0 bR bS HCl
  have HL : Hid (∀ g, adC = some ⟨g, 0, none⟩ → g < w2.heap.size) := fun g hg => (own2.lt g (by rw [hg]; rfl)).2
  obtain ⟨B0, hB0⟩ : ∃ n, n = w1.heap.size := ⟨_, rfl⟩
  rw [← hB0] at own2 hb2 hs2
  have hB1 : w.heap.size + 2 ≤ B0 := by omega
  have own3 := own2.alloc (.cells #[.slice adC l.length capC] 24)
  have bO := BoxN.new w2 [.slice adC l.length capC] 24
  have hb3 := hb2.alloc hs2 (.cells #[.slice adC l.length capC] 24)
  have bS3 := bS2.alloc (.cells #[.slice adC l.length capC] 24)
  have bR3 := bR2.alloc (.cells #[.slice adC l.length capC] 24)
  have k0 : (w2.alloc (.cells #[.slice adC l.length capC] 24)).cell? ⟨w.heap.size, 0, none⟩ = some (.slice ad l.length cap) := bS3.cell rfl
  have HbR := Lib.hid bR3
  have Hbel := Lib.hid hbel
  clear own2 hb2 bS2 bR2 bR3 bS3 hbel
  go_wp2_with fail
  clear k0
  go_loopw [24] (fun i wr => ∃ k : Nat, k ≤ l.length ∧ i = .int .i64 k ∧ Hid (errs ((l.take k).map invE) = 0) ∧ wr.ownsRow B0 50 4 (.slice adC l.length capC) l.length ((upTo inv l k).flatMap Sh.cells) ∧ Below B0 w1 wr ∧ BoxN wr w2.heap.size 24 [.slice adC l.length capC] ∧ BoxN wr (w.heap.size + 1) 24 [.slice none 0 0]) (fun i _ => l.length - (intOf i).toNat)
  case atStart => exact ⟨0, Nat.zero_le _, rfl, Lib.hid rfl, by rw [upTo_zero]; exact own3, hb3, bO, HbR.out⟩
  case round =>
    clear own3 bO hb3
    obtain ⟨k, hk, rfl, HI, hown, hbr, bO, bR⟩ := hrel
    have hzr := bO.lt
    have hbel := Hbel.out.trans (hbr.mono (by omega))
    by_cases hlt : k < l.length
    · obtain ⟨x, hx⟩ : ∃ x, l[k]? = some x := ⟨_, List.getElem?_eq_getElem hlt⟩
      have HRf := ((HR.out.below hbel).sh hx)
      obtain ⟨s1, s2⟩ := HSm.out x (List.mem_of_getElem? hx)
      have HX := Lib.hid hx
      obtain ⟨b, off, rfl, hc1, hc2, hc3, hc4⟩ := HRf
      obtain ⟨g, rfl⟩ := owns_some hown (by omega)
      have hgl := HL.out g rfl
      have hg0 := (hown.lt g rfl).1
      have hblk : b < wr.heap.size := World.block_lt_of_cell? wr _ hc1
      have hk1 : (0 : Int) ≤ (k : Int) := by omega
      have hk2 : (k : Int) < (l.length : Int) := by omega
      have HOs : Hid ((((upTo inv l k).flatMap Sh.cells).set (k * 4 + 2) (.string (mkB (divS oneB x.ra)))).set (k * 4 + 3) (.string (mkB (divS (invM x) x.ra))) = (upTo inv l (k + 1)).flatMap Sh.cells) := by
        show _ = _
        rw [upTo_split inv HX.out, upTo_succ inv HX.out]
        rw [set_flat (enc := Sh.cells) (m := 4) (fun _ => rfl) _ _ x ⟨x.nm, x.fr, mkB (divS oneB x.ra), x.ex⟩ k 2 _ (by simp; omega) (by decide) rfl]
        exact set_flat (enc := Sh.cells) (m := 4) (fun _ => rfl) _ _ ⟨x.nm, x.fr, mkB (divS oneB x.ra), x.ex⟩ (inv x) k 3 (.string (mkB (divS (invM x) x.ra))) (by simp; omega) (by decide) rfl
      have hst : RSt wr wr 50 4 g B0 l.length capC ((upTo inv l k).flatMap Sh.cells) := RSt.start hown
      obtain ⟨os0, hos0⟩ : ∃ os, os = (upTo inv l k).flatMap Sh.cells := ⟨_, rfl⟩
      have hol : os0.length = l.length * 4 := by rw [hos0, flat_length Sh.cells 4 (fun _ => rfl), upTo_len]
      rw [← hos0] at hst HOs
      clear hos0 hown
      have HEk : Hid (kept (divE oneB x.ra) (mulE x.ex negB) ≠ 0 → invE x = kept (divE oneB x.ra) (mulE x.ex negB)) := inv_kept
      have HEz : Hid (kept (divE oneB x.ra) (mulE x.ex negB) = 0 → invE x = divE (invM x) x.ra) := inv_kept_zero
      have hm3 := Nat.le_trans (mulS_size x.ex negB) (show 2010 ≤ 1000000 by decide)
      have C1 : Hid (∀ W, Calls Tryz.prog 24 #[.string ⟨#[49]⟩, .string x.ra] W fun e w' => e = .returned (.tuple #[.string (mkB (divS oneB x.ra)), .int .i64 (divE oneB x.ra)]) ∧ Below W.heap.size W w') := fun W => (ratdiv_any oneB x.ra W (by decide) s1).mono fun _ _ h => h.val
      have C2 : Hid (∀ W, Calls Tryz.prog 18 #[.string x.ex, .string ⟨#[45, 49]⟩] W fun e w' => e = .returned (.tuple #[.string (invM x), .int .i64 (mulE x.ex negB)]) ∧ Below W.heap.size W w') := fun W => (ratmul_any x.ex negB W s2 (by decide)).mono fun _ _ h => h.val
      have C3 : Hid (∀ W, Calls Tryz.prog 24 #[.string (invM x), .string x.ra] W fun e w' => e = .returned (.tuple #[.string (mkB (divS (invM x) x.ra)), .int .i64 (divE (invM x) x.ra)]) ∧ Below W.heap.size W w') := fun W => (ratdiv_any (invM x) x.ra W hm3 s1).mono fun _ _ h => h.val
      clear hx s1 s2 hm3
      generalize mkB (divS oneB x.ra) = r1 at C1 HOs
      generalize mkB (divS (invM x) x.ra) = r3 at C3 HOs
      generalize invM x = r2 at C2 C3 HEz
      generalize divE oneB x.ra = n1 at C1 HEk HEz
      generalize mulE x.ex negB = n2 at C2 HEk HEz
      generalize divE r2 x.ra = n3 at C3 HEz
      have HO1 : Hid (∀ W e os, ISt wr W g (wr.heap.size) (wr.heap.size + 1) B0 l.length capC x e os → Calls Tryz.prog 25 #[.int .i64 1] W fun y w' => y = .returned (.string ⟨#[49]⟩) ∧ ISt wr w' g (wr.heap.size) (wr.heap.size + 1) B0 l.length capC x e os ∧ w'.cell? ⟨wr.heap.size, 2, none⟩ = some (.string x.ra) ∧ w'.cell? ⟨wr.heap.size, 3, none⟩ = some (.string x.ex)) := by
        intro W e os hst
        refine (rof_one W).mono ?_
        rintro y w' ⟨rfl, hb⟩
        have h := hst.ext hb
        exact ⟨rfl, h, h.bx.cell rfl, h.bx.cell rfl⟩
      have HO2 : Hid (∀ W e os, ISt wr W g (wr.heap.size) (wr.heap.size + 1) B0 l.length capC x e os → Calls Tryz.prog 25 #[.int .i64 (-1)] W fun y w' => y = .returned (.string ⟨#[45, 49]⟩) ∧ ISt wr w' g (wr.heap.size) (wr.heap.size + 1) B0 l.length capC x e os ∧ w'.cell? ⟨wr.heap.size, 2, none⟩ = some (.string x.ra) ∧ w'.cell? ⟨wr.heap.size, 3, none⟩ = some (.string x.ex)) := by
        intro W e os hst
        refine (rof_neg W).mono ?_
        rintro y w' ⟨rfl, hb⟩
        have h := hst.ext hb
        exact ⟨rfl, h, h.bx.cell rfl, h.bx.cell rfl⟩
      have HD1 : Hid (∀ W e os, ISt wr W g (wr.heap.size) (wr.heap.size + 1) B0 l.length capC x e os → Calls Tryz.prog 24 #[.string ⟨#[49]⟩, .string x.ra] W fun y w' => y = .returned (.tuple #[.string r1, .int .i64 n1]) ∧ ISt wr w' g (wr.heap.size) (wr.heap.size + 1) B0 l.length capC x e os ∧ w'.cell? ⟨wr.heap.size, 2, none⟩ = some (.string x.ra) ∧ w'.cell? ⟨wr.heap.size, 3, none⟩ = some (.string x.ex)) := by
        intro W e os hst
        refine (C1.out W).mono ?_
        rintro y w' ⟨rfl, hb⟩
        have h := hst.ext hb
        exact ⟨rfl, h, h.bx.cell rfl, h.bx.cell rfl⟩
      have HM2 : Hid (∀ W e os, ISt wr W g (wr.heap.size) (wr.heap.size + 1) B0 l.length capC x e os → Calls Tryz.prog 18 #[.string x.ex, .string ⟨#[45, 49]⟩] W fun y w' => y = .returned (.tuple #[.string r2, .int .i64 n2]) ∧ ISt wr w' g (wr.heap.size) (wr.heap.size + 1) B0 l.length capC x e os ∧ w'.cell? ⟨wr.heap.size, 2, none⟩ = some (.string x.ra) ∧ w'.cell? ⟨wr.heap.size, 3, none⟩ = some (.string x.ex)) := by
        intro W e os hst
        refine (C2.out W).mono ?_
        rintro y w' ⟨rfl, hb⟩
        have h := hst.ext hb
        exact ⟨rfl, h, h.bx.cell rfl, h.bx.cell rfl⟩
      have HD3 : Hid (∀ W e os, ISt wr W g (wr.heap.size) (wr.heap.size + 1) B0 l.length capC x e os → Calls Tryz.prog 24 #[.string r2, .string x.ra] W fun y w' => y = .returned (.tuple #[.string r3, .int .i64 n3]) ∧ ISt wr w' g (wr.heap.size) (wr.heap.size + 1) B0 l.length capC x e os ∧ w'.cell? ⟨wr.heap.size, 2, none⟩ = some (.string x.ra) ∧ w'.cell? ⟨wr.heap.size, 3, none⟩ = some (.string x.ex)) := by
        intro W e os hst
        refine (C3.out W).mono ?_
        rintro y w' ⟨rfl, hb⟩
        have h := hst.ext hb
        exact ⟨rfl, h, h.bx.cell rfl, h.bx.cell rfl⟩
      have HG : Hid (∀ W e os r n, os.length = l.length * 4 → ISt wr W g (wr.heap.size) (wr.heap.size + 1) B0 l.length capC x e os → Calls Tryz.prog 23 #[.pointer (some ⟨wr.heap.size + 1, 0, none⟩), .string r, .int .i64 n] W fun y w' => y = .returned (.string r) ∧ ISt wr w' g (wr.heap.size) (wr.heap.size + 1) B0 l.length capC x (kept e n) os ∧ w'.cell? ⟨wr.heap.size, 2, none⟩ = some (.string x.ra) ∧ w'.cell? ⟨wr.heap.size, 3, none⟩ = some (.string x.ex) ∧ (∃ u2, w'.cell? ⟨g, k * 4 + 2, none⟩ = some u2) ∧ (∃ u3, w'.cell? ⟨g, k * 4 + 3, none⟩ = some u3) ∧ w'.frozen? ⟨g, k * 4 + 2, none⟩ = false ∧ w'.frozen? ⟨g, k * 4 + 3, none⟩ = false) := by
        intro W e os r n hl hst
        refine (got_any (wr.heap.size + 1) r e n W hst.bk).mono ?_
        rintro y w' ⟨rfl, hb, ho, hbe, hsz⟩
        have h := hst.got (by omega) (by omega) (by omega) hb ho hbe hsz
        exact ⟨rfl, h, h.bx.cell rfl, h.bx.cell rfl, ⟨_, h.r.at (List.getElem?_eq_getElem (by omega))⟩, ⟨_, h.r.at (List.getElem?_eq_getElem (by omega))⟩, h.r.ice _, h.r.ice _⟩
      have s0 : ISt wr ((wr.alloc (.cells #[.string x.nm, .int .i64 x.fr, .string x.ra, .string x.ex] 50)).alloc (.cells #[.int .i64 0] 66)) g wr.heap.size (wr.heap.size + 1) B0 l.length capC x 0 os0 := by
        refine ⟨(hst.alloc _).alloc _, (BoxN.new wr x.cells 50).alloc _, ?_⟩
        have h := BoxN.new (wr.alloc (.cells #[.string x.nm, .int .i64 x.fr, .string x.ra, .string x.ex] 50)) [.int .i64 0] 66
        simp at h
        exact h
      have k1 : wr.cell? ⟨w2.heap.size, 0, none⟩ = some (.slice (some ⟨g, 0, none⟩) l.length capC) := bO.cell rfl
      have hgr : g < wr.heap.size := by omega
      clear hst C1 C2 C3
      go_upto_region 9 with fail
      obtain ⟨Wt, hWt⟩ : ∃ Wt, Wt = ((wr.alloc (.cells #[.string x.nm, .int .i64 x.fr, .string x.ra, .string x.ex] 50)).alloc (.cells #[.int .i64 0] 66)) := ⟨_, rfl⟩
      rw [← hWt] at s0 ⊢
      clear hWt hc1 hc2 hc3 hc4 k1
      have s1 := s0.ext (W' := Wt.drew) ((Below.refl _ _).drew)
      have p2 : Wt.drew.cell? ⟨wr.heap.size, 2, none⟩ = some (.string x.ra) := s1.bx.cell rfl
      clear s0
      go_region_held3 (fun w' => w'.cell? ⟨wr.heap.size, 2, none⟩ = some (.string x.ra))
        (first | assumption | go_keep | (rw [World.cell?_setCell_far _ _ _ _ (by show g ≠ wr.heap.size; omega)]; assumption))
        (first | (go_at_call 25; refine (HO1.out _ _ _ s1).mono ?_; rintro y w4 ⟨rfl, s4, a2, a3⟩) | (go_at_call 24; refine (HD1.out _ _ _ s4).mono ?_; rintro y w5 ⟨rfl, s5, b2, b3⟩) | (go_at_call 23; refine (HG.out _ _ _ _ _ hol s5).mono ?_; rintro y w6 ⟨rfl, s6, d2, d3, ⟨u2, d4⟩, ⟨u3, d5⟩, d6, d7⟩))
      have t1 := s6.set (by omega) (by omega) (k * 4 + 2) (.string r1)
      obtain ⟨W9, hW9⟩ : ∃ W9, W9 = w6.setCell ⟨g, k * 4 + 2, none⟩ (.string r1) := ⟨_, rfl⟩
      rw [← hW9] at t1 ⊢
      clear hW9 s1 s4 s5 s6 d2 d3 d4 d5 d6 d7 a2 a3 b2 b3 p2
      have hol1 : (os0.set (k * 4 + 2) (.string r1)).length = l.length * 4 := by rw [List.length_set]; exact hol
      obtain ⟨os1, hos1⟩ : ∃ os1, os1 = os0.set (k * 4 + 2) (.string r1) := ⟨_, rfl⟩
      rw [← hos1] at t1 hol1 HOs
      clear hos1 hol
      rw [kept_zero] at t1
      go_wp2
      have s1 := t1.ext (W' := W9.drew) ((Below.refl _ _).drew)
      have p3 : W9.drew.cell? ⟨wr.heap.size, 3, none⟩ = some (.string x.ex) := s1.bx.cell rfl
      clear t1
      go_region_held3 (fun w' => w'.cell? ⟨wr.heap.size, 3, none⟩ = some (.string x.ex))
        (first | assumption | go_keep)
        (first | (go_at_call 25; refine (HO2.out _ _ _ s1).mono ?_; rintro y w4 ⟨rfl, s4, a2, a3⟩) | (go_at_call 18; refine (HM2.out _ _ _ s4).mono ?_; rintro y w5 ⟨rfl, s5, b2, b3⟩) | (go_at_call 23; refine (HG.out _ _ _ _ _ hol1 s5).mono ?_; rintro y w6 ⟨rfl, s6, d2, d3, ⟨u2, d4⟩, ⟨u3, d5⟩, d6, d7⟩))
      clear s1 s4 s5 a2 a3 b2 b3 p3 d4 d5 d6 d7 HO1 HO2 HD1 HM2
      have d8 : w6.cell? ⟨wr.heap.size + 1, 0, none⟩ = some (.int .i64 (kept n1 n2)) := s6.bk.cell rfl
      by_cases hE : kept n1 n2 = 0
      · rw [hE] at s6 d8
        go_wp2_with fail
        refine (HD3.out _ _ _ s6).mono ?_
        rintro y w7 ⟨rfl, s7, b2, b3⟩
        clear d8 d2 d3
        go_wp2_with fail
        refine (HG.out _ _ _ _ _ hol1 s7).mono ?_
        rintro y w8 ⟨rfl, s8, d2, d3, ⟨u2, d4⟩, ⟨u3, d5⟩, d6, d7⟩
        rw [kept_zero] at s8
        have t8 := s8.set (by omega) (by omega) (k * 4 + 3) (.string r3)
        have d8 : (w8.setCell ⟨g, k * 4 + 3, none⟩ (.string r3)).cell? ⟨wr.heap.size + 1, 0, none⟩ = some (.int .i64 n3) := t8.bk.cell rfl
        have HT := Lib.hid t8
        clear s6 s7 s8 t8 b2 b3 HD3 HG
        by_cases h3 : n3 = 0
        · have hxe : invE x = 0 := (HEz.out hE).trans h3
          have HI2 : Hid (errs ((l.take (k + 1)).map invE) = 0) := errs_take_map_snoc HX.out HI.out hxe
          have t1 : (n3 != 0) = false := by rw [h3]; rfl
          have HTt := HT.out
          rw [HOs.out] at HTt
          have bO2 := HTt.r.box bO (by omega)
          have bR2 := HTt.r.box bR (by omega)
          have hbr2 := HTt.r.below hbr (by omega) hg0
          have own2 := HTt.r.own
          clear hxe h3 hE bO bR hbr hbel HTt HT
          go_wp2
          go_roundw
          case rel => exact ⟨k + 1, by omega, by go_num, HI2, own2, hbr2, bO2, bR2⟩
          case measure => simp [intOf]; omega
        · have hxe := HEz.out hE
          obtain ⟨e1, e2⟩ := HNum.out k x HX.out HI.out (by rw [hxe]; exact h3)
          have t1 : (n3 != 0) = true := by rw [bne_iff_ne]; exact h3
          obtain ⟨W8, hW8⟩ : ∃ W8, W8 = w8.setCell ⟨g, k * 4 + 3, none⟩ (.string r3) := ⟨_, rfl⟩
          have HT8 := HT
          have d9 := d8
          rw [← hW8] at HT8 d9
          have bRz := HT8.out.r.box bR (by omega)
          have hbz := HT8.out.r.below hbel (by omega) (by omega)
          have q0 : W8.cell? ⟨w.heap.size + 1, 0, none⟩ = some (.slice none 0 0) := bRz.cell rfl
          have z0 := bRz.frozen 0
          have HS : Hid (BoxN ((W8.setCell ⟨w.heap.size + 1, 0, none⟩ (.slice none 0 0)).drew) (w.heap.size + 1) 24 [.slice none 0 0]) := BoxN.of_block (bRz.set 0 (.slice none 0 0)) rfl
          have HW : Hid (ScnPost w (inverseE l) (inverseL l) (.returned (.tuple #[.agg #[.slice none 0 0], .int .i64 n3])) ((W8.setCell ⟨w.heap.size + 1, 0, none⟩ (.slice none 0 0)).drew)) := by
            show ScnPost _ _ _ _ _
            rw [e1, e2, hxe]
            exact scnPost_none (hbz.setCell (p := ⟨w.heap.size + 1, 0, none⟩) (by show _ ≤ _ + 1; omega) (.slice none 0 0)).drew
          clear bR bRz hbz bO hbr hbel HT8 HT h3 hE hxe e1 e2
          go_wp2
          rw [← hW8]
          clear hW8
          go_region
          go_wp2
          obtain ⟨W3, hW3⟩ : ∃ W3, W3 = ((W8.setCell ⟨w.heap.size + 1, 0, none⟩ (.slice none 0 0)).drew) := ⟨_, rfl⟩
          rw [← hW3]
          rw [← hW3] at HS HW
          have cz0 : W3.cell? ⟨w.heap.size + 1, 0, none⟩ = some (.slice none 0 0) := HS.out.cell rfl
          refine bodyPost_ret (v := .tuple #[.agg #[.slice none 0 0], .int .i64 n3]) (by simp [results, Tryz.results9, go_sem, cz0]) rfl HW.out
      · have hxe := HEk.out hE
        obtain ⟨e1, e2⟩ := HNum.out k x HX.out HI.out (by rw [hxe]; exact hE)
        generalize kept n1 n2 = nE at *
        have t1 : (nE == 0) = false := by rw [beq_eq_false_iff_ne]; exact hE
        have t2 : (nE != 0) = true := by rw [bne_iff_ne]; exact hE
        have bRz := s6.r.box bR (by omega)
        have hbz := s6.r.below hbel (by omega) (by omega)
        have q0 : w6.cell? ⟨w.heap.size + 1, 0, none⟩ = some (.slice none 0 0) := bRz.cell rfl
        have z0 := bRz.frozen 0
        have HS : Hid (BoxN ((w6.setCell ⟨w.heap.size + 1, 0, none⟩ (.slice none 0 0)).drew) (w.heap.size + 1) 24 [.slice none 0 0]) := BoxN.of_block (bRz.set 0 (.slice none 0 0)) rfl
        have HW : Hid (ScnPost w (inverseE l) (inverseL l) (.returned (.tuple #[.agg #[.slice none 0 0], .int .i64 nE])) ((w6.setCell ⟨w.heap.size + 1, 0, none⟩ (.slice none 0 0)).drew)) := by
          show ScnPost _ _ _ _ _
          rw [e1, e2, hxe]
          exact scnPost_none (hbz.setCell (p := ⟨w.heap.size + 1, 0, none⟩) (by show _ ≤ _ + 1; omega) (.slice none 0 0)).drew
        clear bR bRz hbz bO hbr hbel s6 hE hxe e1 e2
        go_wp2
        go_region
        go_wp2
        obtain ⟨W3, hW3⟩ : ∃ W3, W3 = ((w6.setCell ⟨w.heap.size + 1, 0, none⟩ (.slice none 0 0)).drew) := ⟨_, rfl⟩
        rw [← hW3]
        rw [← hW3] at HS HW
        have cz0 : W3.cell? ⟨w.heap.size + 1, 0, none⟩ = some (.slice none 0 0) := HS.out.cell rfl
        refine bodyPost_ret (v := .tuple #[.agg #[.slice none 0 0], .int .i64 nE]) (by simp [results, Tryz.results9, go_sem, cz0]) rfl HW.out
    · obtain rfl : k = l.length := by omega
      have hI := HI.out
      rw [List.take_length] at hI
      rw [upTo_end] at hown
      obtain ⟨e1, e2⟩ := HOk.out hI
      have q0 : wr.cell? ⟨w.heap.size + 1, 0, none⟩ = some (.slice none 0 0) := bR.cell rfl
      have z0 := bR.frozen 0
      have r0 : wr.cell? ⟨w2.heap.size, 0, none⟩ = some (.slice adC l.length capC) := bO.cell rfl
      have HS := Lib.hid (bR.set 0 (.slice adC l.length capC))
      have HW : Hid (ScnPost w (inverseE l) (inverseL l) (.returned (.tuple #[.agg #[.slice adC l.length capC], .int .i64 0])) (wr.setCell ⟨w.heap.size + 1, 0, none⟩ (.slice adC l.length capC))) := by
        show ScnPost _ _ _ _ _
        rw [e1, e2]
        refine ⟨adC, capC, by rw [List.length_map], ?_, hbel.setCell (p := ⟨w.heap.size + 1, 0, none⟩) (by show _ ≤ _ + 1; omega) _⟩
        rw [List.length_map]
        exact ownsRow_base' (ownsRow_setCell_below hown (a := ⟨w.heap.size + 1, 0, none⟩) (by show w.heap.size + 1 < B0; omega) _) (by omega)
      clear e1 e2 hI hown hbel bO bR
      go_wp2
      obtain ⟨W3, hW3⟩ : ∃ W3, W3 = (wr.setCell ⟨w.heap.size + 1, 0, none⟩ (.slice adC l.length capC)) := ⟨_, rfl⟩
      rw [← hW3]
      rw [← hW3] at HS HW
      have cz0 : W3.cell? ⟨w.heap.size + 1, 0, none⟩ = some (.slice adC l.length capC) := HS.out.cell rfl
      refine bodyPost_ret (v := .tuple #[.agg #[.slice adC l.length capC], .int .i64 0]) (by simp [results, Tryz.results9, go_sem, cz0]) rfl HW.out

theorem inverse_any (l : List Sh) (ad : Option Addr) (cap : Nat) (w : World) (hl : l.length ≤ 1100000)
    (hr : Rd Sh.cells 4 w ad l) (sr : Sl w (.slice ad l.length cap) 4 l.length (l.flatMap Sh.cells)) (had : ad = none → cap = 0) (hs : ∀ x ∈ l, x.small ∧ x.ra.size ≤ 1000000 ∧ x.ex.size ≤ 1000000) :
    Calls Tryz.prog 9 #[.agg #[.slice ad l.length cap]] w (ScnPost w (inverseE l) (inverseL l)) := by
  have HV := Lib.hid (fun W (h : Below w.heap.size w W) => scnChk_any l ad cap W hl (hr.below h) (fun x hx => (hs x hx).1))
  have HC := Lib.hid (fun W (h : Below w.heap.size w W) => cloneSh_any l ad cap W hl (sr.below h) had)
  cases hv : scnB l with
  | false => exact inverse_no l ad cap w HV hv
  | true => exact inverse_yes l ad cap w hl HV HC hv hr (fun x hx => (hs x hx).2)
end Go.Proofs.YtofbngpckllkoacGreat

namespace Go.Proofs.YtofbngpckllkoacGreat
open Go.RowKit

def shV4 (nm : ByteArray) (fr : Int) (ra ex : ByteArray) : Value := .agg #[.string nm, .int .i64 fr, .string ra, .string ex]
def Sh.val (f : Sh) : Value := shV4 f.nm f.fr f.ra f.ex
def shZero : Value := .agg #[.string ⟨#[]⟩, .int .i64 0, .string ⟨#[]⟩, .string ⟨#[]⟩]
/-- An element reads as itself. -/
def heldElem (v : Value) : Option (DataW Value × List MemPlace) := some (.held v, [])
def litS (n : ByteArray) : Lit := .string n.data.toList
theorem litS_ne {a b : ByteArray} (h : a ≠ b) : litS a ≠ litS b := fun e => h (by
  have e1 : a.data.toList = b.data.toList := Lit.string.inj e
  exact ByteArray.ext (Array.toList_inj.1 e1))
def putSh (m : DataW Value) (x : Sh) : DataW Value := m.put (litS x.nm) (.held x.val)
def mapSh (l : List Sh) : DataW Value := l.foldl putSh (.map [])
theorem mapSh_snoc (l : List Sh) (x : Sh) : mapSh (l ++ [x]) = putSh (mapSh l) x := by rw [mapSh, List.foldl_append]; rfl
theorem litS_key (n : ByteArray) : WideAt.IsKeyLit (litS n) := trivial
theorem fold_miss (n : ByteArray) (z : DataW Value) : ∀ (l : List Sh) (m : DataW Value), (∀ x ∈ l, x.nm ≠ n) → Maps.has (l.foldl putSh m) (litS n) = Maps.has m (litS n) ∧ (l.foldl putSh m).atKey (litS n) z = m.atKey (litS n) z
  | [], _, _ => ⟨rfl, rfl⟩
  | y :: l, m, h => by
    have hy : litS n ≠ litS y.nm := (litS_ne (h y (by simp))).symm
    obtain ⟨h1, h2⟩ := fold_miss n z l (putSh m y) (fun x hx => h x (by simp [hx]))
    rw [List.foldl_cons]
    exact ⟨h1.trans (Maps.has_put_other hy _), h2.trans (Maps.atKey_put_other hy _ _)⟩
theorem fold_hit (x : Sh) (z : DataW Value) : ∀ (l : List Sh) (m : DataW Value), Maps.IsMap m → l.Pairwise (fun a b => a.nm ≠ b.nm) → x ∈ l → Maps.has (l.foldl putSh m) (litS x.nm) = true ∧ (l.foldl putSh m).atKey (litS x.nm) z = .held x.val
  | [], _, _, _, h => by cases h
  | y :: l, m, hm, hp, h => by
    rw [List.foldl_cons]
    obtain ⟨hp1, hp2⟩ := List.pairwise_cons.1 hp
    rcases List.mem_cons.1 h with rfl | h
    · obtain ⟨h1, h2⟩ := fold_miss x.nm z l (putSh m x) (fun y hy e => hp1 y hy e.symm)
      exact ⟨h1.trans (Maps.has_put_same hm (litS_key _) _), h2.trans (Maps.atKey_put_same hm (litS_key _) _ _)⟩
    · exact fold_hit x z l (putSh m y) (hm.put _ _) hp2 h
theorem mapSh_miss {l : List Sh} {n : ByteArray} (h : ∀ x ∈ l, x.nm ≠ n) (z : DataW Value) : Maps.has (mapSh l) (litS n) = false ∧ (mapSh l).atKey (litS n) z = z := by
  obtain ⟨h1, h2⟩ := fold_miss n z l (.map []) h
  exact ⟨h1, h2⟩
theorem mapSh_hit {l : List Sh} {x : Sh} (hp : l.Pairwise (fun a b => a.nm ≠ b.nm)) (h : x ∈ l) (z : DataW Value) : Maps.has (mapSh l) (litS x.nm) = true ∧ (mapSh l).atKey (litS x.nm) z = .held x.val :=
  fold_hit x z l (.map []) Maps.isMap_empty hp h

/-- What stands under a name. -/
theorem find_name {l : List Sh} (n : ByteArray) : (∀ x ∈ l, x.nm ≠ n) ∨ ∃ x ∈ l, x.nm = n := by
  by_cases h : ∃ x ∈ l, x.nm = n
  · exact .inr h
  · exact .inl fun x hx e => h ⟨x, hx, e⟩
theorem find_none {l : List Sh} {f : Fx} (h : ∀ x ∈ l, x.nm ≠ f.nm) : l.find? (hits f) = none := by
  rw [List.find?_eq_none]
  intro x hx
  rw [hits, decide_eq_false (h x hx)]; simp
theorem hits_name {f : Fx} {x : Sh} (h : x.nm ≠ f.nm) : ¬ hits f x = true := by rw [hits, decide_eq_false h]; simp
theorem hits_early {f : Fx} {x : Sh} (h : f.d < x.fr) : ¬ hits f x = true := by rw [hits, decide_eq_false (p := x.fr ≤ f.d) (by omega)]; simp
theorem find_early {f : Fx} {x : Sh} : ∀ {l : List Sh}, l.Pairwise (fun a b => a.nm ≠ b.nm) → x ∈ l → x.nm = f.nm → f.d < x.fr → l.find? (hits f) = none
  | [], _, h, _, _ => by cases h
  | y :: l, hp, h, hn, hd => by
    obtain ⟨hp1, hp2⟩ := List.pairwise_cons.1 hp
    rcases List.mem_cons.1 h with rfl | h
    · rw [List.find?_cons_of_neg (hits_early hd)]
      exact find_none fun z hz e => hp1 z hz (hn.trans e.symm)
    · rw [List.find?_cons_of_neg (hits_name fun e => hp1 x h (e.trans hn.symm))]
      exact find_early hp2 h hn hd
theorem find_there {f : Fx} {x : Sh} : ∀ {l : List Sh}, l.Pairwise (fun a b => a.nm ≠ b.nm) → x ∈ l → x.nm = f.nm → ¬ f.d < x.fr → l.find? (hits f) = some x
  | [], _, h, _, _ => by cases h
  | y :: l, hp, h, hn, hd => by
    obtain ⟨hp1, hp2⟩ := List.pairwise_cons.1 hp
    rcases List.mem_cons.1 h with rfl | h
    · rw [List.find?_cons_of_pos]
      rw [hits, decide_eq_true hn, decide_eq_true (show x.fr ≤ f.d by omega)]; rfl
    · rw [List.find?_cons_of_neg (hits_name fun e => hp1 x h (e.trans hn.symm))]
      exact find_there hp2 h hn hd
/-- The reference's loop: at the k-th shift. -/
theorem find_take_miss {l : List Sh} {k : Nat} {x : Sh} {f : Fx} (hx : l[k]? = some x) (h0 : (l.take k).find? (hits f) = none) (h : ¬ hits f x = true) : (l.take (k + 1)).find? (hits f) = none := by
  rw [take_snoc_get hx, List.find?_append, h0]
  rw [List.find?_cons_of_neg h]; rfl
theorem find_take_hit {f : Fx} {x : Sh} : ∀ {l : List Sh} {k : Nat}, l[k]? = some x → (l.take k).find? (hits f) = none → hits f x = true → l.find? (hits f) = some x
  | [], k, h, _, _ => by simp at h
  | y :: l, 0, h, _, hx => by simp at h; subst h; rw [List.find?_cons_of_pos hx]
  | y :: l, k + 1, h, h0, hx => by
    rw [List.take_succ_cons] at h0
    by_cases hy : hits f y = true
    · rw [List.find?_cons_of_pos hy] at h0; cases h0
    · rw [List.find?_cons_of_neg hy] at h0 ⊢
      exact find_take_hit (by simpa using h) h0 hx

/-! At the operation. -/
theorem wpList_lookup_held {P : Program} (w : World) {ops : Array Oper} {rest : List Oper} {o : Oper} {a : Act} {Q : Exit → Act → World → Prop} (hg : o.guard = none) (m x : Operand) (t : TypeId) (hop : o.op = Op.lookup t m x true)
    (k e : TypeId) (K : Maps.Keyed P k) (ht : P.underlying t = some (.map k e)) (z : Value) (hz : (zeroValue e).run P w = .ok z w) (b n : Nat) (D : DataW Value)
    (hm : a.eval m = .map (some b)) (hown : w.ownsMap P k heldElem b n D) (key : Value) (kl : Lit) (hx : a.eval x = key) (hkey : keyOf P k key = some kl) (u : Value) (c : Bool) (hc : Maps.has D kl = c) (hu : D.atKey kl (.held z) = .held u)
    (hK : wpList P ops Q rest (a.put o.dst (.tuple #[u, .bool c])) w) :
    wpList P ops Q (o :: rest) a w :=
  wpList_lookup_own_ok w hg m x t hop k e K ht heldElem hz (.held z) [] rfl b n D hm hown key kl hx hkey (fun v ps hv => by
    rw [hu] at hv
    obtain rfl : v = u := by simpa [heldElem] using (Prod.mk.inj (Option.some.inj hv)).1
    rw [hc]
    exact hK)
theorem ul_shmap : Tryz.prog.underlying 53 = some (.map 9 50) := by kernel_rfl
theorem zero_shift (w : World) : (zeroValue 50).run Tryz.prog w = .ok shZero w := by kernel_rfl
theorem law_str : Maps.Keyed Tryz.prog 9 := Maps.string_keyed Tryz.underlying9
theorem key_str {n : ByteArray} (h : n.size ≤ 1100000) : keyOf Tryz.prog 9 (.string n) = some (litS n) :=
  Go.WideMaps.keyOf_string_mk Tryz.underlying9 (by unfold maxLen; omega)
end Go.Proofs.YtofbngpckllkoacGreat

namespace Go.Proofs.YtofbngpckllkoacGreat
open Go.RowKit

theorem zStr_size {t : ByteArray} {z : Int} (h : bl t = zStr z) : t.size ≤ 1002 := by rw [← bl_length, h]; exact zStr_len z

set_option maxHeartbeats 1000000 in
set_option maxRecDepth 100000 in
theorem rratadd_err (a b : ByteArray) (er : Int) (w : World) (h : er ≠ 0) (HC : Hid (∀ W, Calls Tryz.prog 75 #[.string a, .string b] W (TwoErr W er))) :
    Calls Tryz.prog 49 #[.string a, .string b] w (RatPost2 w [] er) := by
  have t1 : (er != 0) = true := by rw [bne_iff_ne]; exact h
  clear h
  go_enter Tryz.func49, Tryz.ntmps49
  go_wp2_with fail
  refine (HC.out _).mono ?_
  rintro e w1 ⟨rfl, hb1⟩
  go_wp2
  go_ret2
  exact ⟨_, rfl, rfl, hb1⟩

theorem fraction_any (a b n m : ByteArray) (z3 : Int) (w : World) (h : bE a b = 0) (h1 : zErr (ival (bl (pN a)) * ival (bl (pD b))) = 0) (h2 : zErr (ival (bl (pN b)) * ival (bl (pD a))) = 0)
    (hn : bl n = zStr z3) (hm : bl m = zStr (ival (bl (pD a)) * ival (bl (pD b)))) :
    Calls Tryz.prog 53 #[.string n, .string m, .int .i64 (zErr z3), .int .i64 (zErr (ival (bl (pD a)) * ival (bl (pD b))))] w (RatPost2 w (sumS a b z3) (sumE a b z3)) := by
  by_cases hz : zErr z3 ≠ 0 ∨ zErr (ival (bl (pD a)) * ival (bl (pD b))) ≠ 0
  · have hE : sumE a b z3 = 14 := by
      rw [sumE, if_neg (fun k => k h), if_pos]
      rcases hz with k | k
      · exact .inr (.inr (.inl k))
      · exact .inr (.inr (.inr k))
    rw [sumS, hE, if_neg (by decide)]
    refine (fraction_err n m _ _ w hz).mono ?_
    rintro e w' ⟨rfl, hb⟩
    exact ⟨_, rfl, rfl, hb⟩
  · have k3 : zErr z3 = 0 := by
      rcases Int.decEq (zErr z3) 0 with k | k
      · exact absurd (.inl k) hz
      · exact k
    have k4 : zErr (ival (bl (pD a)) * ival (bl (pD b))) = 0 := by
      rcases Int.decEq (zErr (ival (bl (pD a)) * ival (bl (pD b)))) 0 with k | k
      · exact absurd (.inr k) hz
      · exact k
    have hE : sumE a b z3 = 0 := by
      rw [sumE, if_neg (fun k => k h), if_neg]
      rintro (k | k | k | k) <;> exact k (by assumption)
    obtain ⟨ra, rb, _, _, e1, e2, e3, e4⟩ := bE_zero h
    obtain ⟨_, _, sa, za⟩ := rat_parts ra
    obtain ⟨_, _, sb, zb⟩ := rat_parts rb
    rw [← e2] at sa za
    rw [← e4] at sb zb
    obtain ⟨j3, i3, v3⟩ := zStr_ok k3
    obtain ⟨j4, i4, v4⟩ := zStr_ok k4
    have hpos : 0 < ival (bl (pD a)) * ival (bl (pD b)) := by
      rw [ival, ival, sa, sb]
      simp only [sgnv]
      have := Nat.mul_pos (Nat.pos_of_ne_zero za) (Nat.pos_of_ne_zero zb)
      simp only [Bool.false_eq_true, if_false]
      exact_mod_cast this
    have hdv : dval (body (bl m)) = (ival (bl (pD a)) * ival (bl (pD b))).natAbs := by rw [hm, j4, dval_istr]
    have hng : isNeg (bl m) = false := by rw [hm, j4, isNeg_istr, decide_eq_false (by omega)]; rfl
    have HM := Lib.hid (fun W => rmake_ok n m W (by have := zStr_size hn; omega) (by have := zStr_size hm; omega) (by rw [hn]; exact i3) (by rw [hm]; exact i4) (by rw [hdv]; omega) hng)
    rw [k3, k4]
    refine (fraction_ok n m _ w HM).mono ?_
    rintro e w' ⟨t, rfl, ht, hb⟩
    refine ⟨t, by rw [hE], ?_, hb⟩
    rw [ht, sumS, hE, if_pos rfl, hng, hdv, hn, j3, dval_istr, isNeg_istr]
    by_cases h0 : z3.natAbs = 0
    · have : z3 = 0 := by omega
      subst this
      simp
    · simp [h0]

set_option maxHeartbeats 2000000 in
set_option maxRecDepth 100000 in
theorem rratadd_ok (a b : ByteArray) (w : World) (ha : a.size ≤ 1000000) (hb : b.size ≤ 1000000) (h : bE a b = 0) (h1 : zErr (ival (bl (pN a)) * ival (bl (pD b))) = 0) (h2 : zErr (ival (bl (pN b)) * ival (bl (pD a))) = 0) :
    Calls Tryz.prog 49 #[.string a, .string b] w (RatPost2 w (sumS a b (ival (bl (pN a)) * ival (bl (pD b)) + ival (bl (pN b)) * ival (bl (pD a)))) (sumE a b (ival (bl (pN a)) * ival (bl (pD b)) + ival (bl (pN b)) * ival (bl (pD a))))) := by
  have HC := Lib.hid (fun W => cross_ok a b W ha hb h h1 h2)
  have HF4 : Hid (∀ W, Calls Tryz.prog 51 #[.string a, .string b] W (FourPost W (pN a) (pD a) (pN b) (pD b) 0)) := by
    intro W
    have k := four_any a b W (by omega) (by omega)
    rw [if_pos h] at k
    exact k
  have HFr := Lib.hid (fun W n m hn hm => fraction_any a b n m (ival (bl (pN a)) * ival (bl (pD b)) + ival (bl (pN b)) * ival (bl (pD a))) W h h1 h2 hn hm)
  obtain ⟨_, i1, v1⟩ := zStr_ok h1
  obtain ⟨_, i2, v2⟩ := zStr_ok h2
  have HA : Hid (∀ W x y, bl x = zStr (ival (bl (pN a)) * ival (bl (pD b))) → bl y = zStr (ival (bl (pN b)) * ival (bl (pD a))) → Calls Tryz.prog 76 #[.string x, .string y] W (IntPost W (ival (bl (pN a)) * ival (bl (pD b)) + ival (bl (pN b)) * ival (bl (pD a))))) := by
    intro W x y hx hy
    have k := radd_any x y W (by have := zStr_size hx; omega) (by have := zStr_size hy; omega)
    have hp : pairErr (bl x) (bl y) = 0 := pairErr_ok (by rw [hx]; exact i1) (by rw [hy]; exact i2)
    rw [hx, hy, v1, v2] at k
    rw [hx, hy] at hp
    exact k.mono fun e w' q => by rw [OpPost, if_pos hp] at q; exact q
  obtain ⟨ra, rb, eN, eD, e1, e2, e3, e4⟩ := bE_zero h
  obtain ⟨_, _, q3, q4⟩ := part_sizes a b ha hb
  rw [eD] at q4
  obtain ⟨_, da, _, _⟩ := rat_parts ra
  obtain ⟨_, db, _, _⟩ := rat_parts rb
  rw [← e2] at da
  rw [← e4] at db
  have HMu := Lib.hid (fun W => rmul_ok (pD a) (pD b) W q3 q4 da db)
  unfold IntPost at HA HMu
  clear i1 v1 i2 v2 ra rb eN eD e1 e2 e3 e4 q3 q4 da db ha hb h h1 h2
  generalize sumS a b (ival (bl (pN a)) * ival (bl (pD b)) + ival (bl (pN b)) * ival (bl (pD a))) = S at *
  generalize sumE a b (ival (bl (pN a)) * ival (bl (pD b)) + ival (bl (pN b)) * ival (bl (pD a))) = E at *
  generalize ival (bl (pN a)) * ival (bl (pD b)) + ival (bl (pN b)) * ival (bl (pD a)) = z3 at *
  generalize ival (bl (pD a)) * ival (bl (pD b)) = z4 at *
  generalize ival (bl (pN a)) * ival (bl (pD b)) = z1 at *
  generalize ival (bl (pN b)) * ival (bl (pD a)) = z2 at *
  generalize pN a = n at *
  generalize pN b = m at *
  generalize pD a = d at *
  generalize pD b = c at *
  generalize zErr z3 = f3 at *
  generalize zErr z4 = f4 at *
  generalize zStr z3 = s3 at *
  generalize zStr z4 = s4 at *
  generalize zStr z1 = s1 at *
  generalize zStr z2 = s2 at *
  go_enter Tryz.func49, Tryz.ntmps49
  go_wp2_with fail
  refine (HC.out _).mono ?_
  rintro e w1 ⟨x, y, rfl, hx, hy, hb1⟩
  have HA2 := Lib.hid (fun W => HA.out W x y hx hy)
  clear hx hy HA
  go_wp2_with fail
  refine (HF4.out _).mono ?_
  rintro e w2 ⟨rfl, hb2⟩
  go_wp2_with fail
  refine (HA2.out _).mono ?_
  rintro e w3 ⟨p, rfl, hp, hb3⟩
  go_wp2_with fail
  refine (HMu.out _).mono ?_
  rintro e w4 ⟨q, rfl, hq, hb4⟩
  have HFr2 := Lib.hid (fun W => HFr.out W p q hp hq)
  have hbz := hb1.trans ((hb2.trans ((hb3.trans (hb4.mono hb3.size)).mono hb2.size)).mono hb1.size)
  clear hp hq HFr HA2 HMu HF4 HC hb1 hb2 hb3 hb4
  go_wp2_with fail
  refine (HFr2.out _).mono ?_
  rintro e w5 ⟨t, rfl, ht, hb5⟩
  have hbf := hbz.trans (hb5.mono hbz.size)
  have Ht := Lib.hid ht
  clear ht hbz hb5
  go_wp2
  go_ret2
  exact ⟨t, rfl, Ht.out, hbf⟩

theorem rratadd_any (a b : ByteArray) (w : World) (ha : a.size ≤ 1000000) (hb : b.size ≤ 1000000) :
    Calls Tryz.prog 49 #[.string a, .string b] w (RatPost2 w (sumS a b (ival (bl (pN a)) * ival (bl (pD b)) + ival (bl (pN b)) * ival (bl (pD a)))) (sumE a b (ival (bl (pN a)) * ival (bl (pD b)) + ival (bl (pN b)) * ival (bl (pD a))))) := by
  by_cases h : bE a b = 0
  · by_cases hz : zErr (ival (bl (pN a)) * ival (bl (pD b))) ≠ 0 ∨ zErr (ival (bl (pN b)) * ival (bl (pD a))) ≠ 0
    · have hE : sumE a b (ival (bl (pN a)) * ival (bl (pD b)) + ival (bl (pN b)) * ival (bl (pD a))) = 14 := by
        rw [sumE, if_neg (fun k => k h), if_pos]
        rcases hz with k | k
        · exact .inl k
        · exact .inr (.inl k)
      rw [sumS, hE, if_neg (by decide)]
      exact rratadd_err a b 14 w (by decide) (Lib.hid fun W => cross_big a b W ha hb h hz)
    · have h1 : zErr (ival (bl (pN a)) * ival (bl (pD b))) = 0 := by
        rcases Int.decEq (zErr (ival (bl (pN a)) * ival (bl (pD b)))) 0 with k | k
        · exact absurd (.inl k) hz
        · exact k
      have h2 : zErr (ival (bl (pN b)) * ival (bl (pD a))) = 0 := by
        rcases Int.decEq (zErr (ival (bl (pN b)) * ival (bl (pD a)))) 0 with k | k
        · exact absurd (.inr k) hz
        · exact k
      exact rratadd_ok a b w ha hb h h1 h2
  · have hE : sumE a b (ival (bl (pN a)) * ival (bl (pD b)) + ival (bl (pN b)) * ival (bl (pD a))) = bE a b := by rw [sumE, if_pos h]
    rw [sumS, hE, if_neg h]
    exact rratadd_err a b _ w h (Lib.hid fun W => cross_err a b W ha hb h)
end Go.Proofs.YtofbngpckllkoacGreat
