/-
  causal.Causal's visitor; causal.Causal. What novationref15 finds is what causal finds: plain. novationref09.Check; novationref15.Find, Causal, Needs, Deadlines, Days. novationref15.Causal, Needs, Deadlines, Days.
-/
import Derived.Test.YtkonookacfmfgaaGreatDoorC39
import Derived.Test.YtkonookacfmfgaaGreatDoorC17
import Derived.Test.YtkonookacfmfgaaGreatDoorC19
import Derived.Test.YtkonookacfmfgaaGreatDoorC33
namespace Go.Proofs.YtkonookacfmfgaaGreatDoor
open Go.RowKit
set_option maxHeartbeats 2000000 in
set_option maxRecDepth 100000 in
theorem latex_any (w0 : World) (D Bo : Nat) (b0 : Bool) (x : Ex) (s : Value) (ds : List Int) (v : Value) (W : World) (hBo : w0.heap.size ≤ Bo) (hBD : Bo < D) (hB : x.bulk ≤ 2000000)
  (hR : Boxed W Bo 4 (.bool b0)) (hbW : Below w0.heap.size w0 W) (hDW : D ≤ W.heap.size) (hs : RdE w0 x.sub s) (hdv : DaysAt w0.heap.size D Bo W ds v) :
  Calls Tryz.prog 37 #[x.val s, v, .pointer (some ⟨Bo, 0, none⟩)] W fun e W' => e = .returned (.tuple #[]) ∧ Boxed W' Bo 4 (.bool (b0 || x.nodes.any (xLate ds))) ∧ KeptO w0.heap.size D Bo W W' := by
 obtain ⟨ad, cap, rfl⟩ := hs.len
 obtain ⟨adv, capv, rfl⟩ := hdv.1.len
 have hbo := hR.lt
 have hb1 := below_a1 W (.cells #[.int .u8 x.k, .string x.ra, .string x.nm, .int .i64 x.d, .slice ad x.sub.length cap] 25)
 have hb2 := below_a2 W (.cells #[.int .u8 x.k, .string x.ra, .string x.nm, .int .i64 x.d, .slice ad x.sub.length cap] 25) (.cells #[.slice adv ds.length capv] 26)
 have hR1 := Boxed.low hR hb1
 have hR2 := Boxed.low hR hb2
 have hk2 : KeptO w0.heap.size D Bo W ((W.alloc (.cells #[.int .u8 x.k, .string x.ra, .string x.nm, .int .i64 x.d, .slice ad x.sub.length cap] 25)).alloc (.cells #[.slice adv ds.length capv] 26)) := KeptO.of_below hbW.size hbo hb2
 have hpd := Prv.new (D := D) (W := W.alloc (.cells #[.int .u8 x.k, .string x.ra, .string x.nm, .int .i64 x.d, .slice ad x.sub.length cap] 25)) (by rw [World.size_alloc]; omega) hR1.lt (fun b hb => absurd hb (notOwn_bool hR1 b)) (.cells #[.slice adv ds.length capv] 26)
 rw [World.size_alloc] at hpd
 have hcd : ((W.alloc (.cells #[.int .u8 x.k, .string x.ra, .string x.nm, .int .i64 x.d, .slice ad x.sub.length cap] 25)).alloc (.cells #[.slice adv ds.length capv] 26)).cell? ⟨W.heap.size + 1, 0, none⟩ = some (.slice adv ds.length capv) := by go_simp
 have hK0 : LKey w0 D Bo (W.heap.size + 1) b0 ds (.slice adv ds.length capv) [] ((W.alloc (.cells #[.int .u8 x.k, .string x.ra, .string x.nm, .int .i64 x.d, .slice ad x.sub.length cap] 25)).alloc (.cells #[.slice adv ds.length capv] 26)) := by
  refine ⟨?_, hcd, hpd, hdv.kept hk2⟩
  rw [List.any_nil, Bool.or_false]; exact hR2
 have hL : LeafOk w0 D Bo x.nodes (fun pre W' => LKey w0 D Bo (W.heap.size + 1) b0 ds (.slice adv ds.length capv) pre W' ∧ w0.heap.size ≤ W'.heap.size) 38 #[.pointer (some ⟨Bo, 0, none⟩), .pointer (some ⟨W.heap.size + 1, 0, none⟩)] :=
  { frame := fun pre W1 W2 h hb => ⟨h.1.frame h.2 hb, Nat.le_trans h.2 hb.size⟩
    own := fun pre W1 h b hb => absurd hb (notOwn_bool h.1.1 b)
    box := fun pre W1 h => h.1.1.lt
    ef := enters_of Tryz.func38 (by kernel_rfl) rfl
    call := fun pre y sy W1 h hbw hD hsy hp => by
     exact (latef_any w0 D Bo (W.heap.size + 1) b0 ds _ pre y sy W1 hBo hBD h.1 hbw hsy).mono fun e W2 ⟨he, h2, h3⟩ => ⟨he, ⟨h2, Nat.le_trans h.2 h3.below.size⟩, h3⟩ }
 have hLv := leaves_any w0 D Bo x.nodes _ 38 _ hL x.bulk x (.slice ad x.sub.length cap) [] _ (Nat.le_refl _) hB hs (hbW.trans hk2.below) (Nat.le_trans hDW hb2.size) ⟨hK0, Nat.le_trans hbW.size hb2.size⟩ (by simp)
 have HLv := Lib.hid hLv
 have HK := Lib.hid hk2
 unfold Ex.val at HLv ⊢
 clear hLv hL hK0 hcd hpd hk2 hR2 hR1 hR hdv hs
 go_enter Tryz.func37, Tryz.ntmps37
 go_wp2_with fail
 refine HLv.out.mono ?_
 rintro e W3 ⟨rfl, ⟨⟨h3, _⟩, _⟩, hk3⟩
 have HF : Hid (Boxed W3 Bo 4 (.bool (b0 || x.nodes.any (xLate ds))) ∧ KeptO w0.heap.size D Bo W W3) := Lib.hid ⟨by simpa using h3, HK.out.trans hk3⟩
 clear h3 hk3 HLv
 go_wp2_with fail
 go_end0
 exact ⟨rfl, HF.out.1, HF.out.2⟩
theorem late_vis (w0 : World) (D Bo : Nat) (c : Con) (day : Int) (hBo : w0.heap.size ≤ Bo) (hBD : Bo < D) :
  VisOk w0 D Bo (c.evs [day]) (fun evs W => Boxed W Bo 4 (.bool (evLt evs)) ∧ w0.heap.size ≤ W.heap.size) 37 44 45 #[.pointer (some ⟨Bo, 0, none⟩)] #[] #[] where
 frame := fun pre W1 W2 h hb => ⟨Boxed.low h.1 hb, Nat.le_trans h.2 hb.size⟩
 own := fun pre W h b hb => absurd hb (notOwn_bool h.1 b)
 box := fun pre W h => h.1.lt
 ee := enters_of Tryz.func37 (by kernel_rfl) rfl
 ec := enters_of Tryz.func44 (by kernel_rfl) rfl
 ep := enters_of Tryz.func45 (by kernel_rfl) rfl
 expr := fun pre x s ds v W h hbW hDW hs hxb hdl hdv hp => by
  have e1 : evLt (pre ++ [.expr x ds]) = (evLt pre || x.nodes.any (xLate ds)) := by rw [evLt_append]; simp [evLt, evLate]
  rw [e1]
  exact (latex_any w0 D Bo (evLt pre) x s ds v W hBo hBD hxb h.1 hbW hDW hs hdv).mono fun e W' ⟨he, h1, h2⟩ => ⟨he, ⟨h1, Nat.le_trans h.2 h2.below.size⟩, h2⟩
 choice := fun pre p n ds v W h hbW hDW hdl hdv hp => by
  have e1 : evLt (pre ++ [.choice p n ds]) = evLt pre := by rw [evLt_append]; simp [evLt, evLate]
  rw [e1]
  exact (silent2_any p n v W).mono fun e W' ⟨he, hw⟩ => ⟨he, hw ▸ h, hw ▸ KeptO.refl W⟩
 pay := fun pre ds v W h hbW hDW hdl hdv hp => by
  have e1 : evLt (pre ++ [.pay ds]) = evLt pre := by rw [evLt_append]; simp [evLt, evLate]
  rw [e1]
  exact (silent3_any v W).mono fun e W' ⟨he, hw⟩ => ⟨he, hw ▸ h, hw ▸ KeptO.refl W⟩
noncomputable def causErr (c : Con) (day : Int) : Int := if visErr c day = 0 then (if evLt (visEvs c day) = true then 34 else 0) else visErr c day
set_option maxHeartbeats 4000000 in
set_option maxRecDepth 100000 in
theorem causal_any (c : Con) (es dd ss : Value) (day : Int) (W : World) (hB : c.bulk ≤ 2000000) (hr : RdN W c es dd ss) (hS : LookS W) (hP : LookP W) :
  Calls Tryz.prog 15 #[c.val es dd ss, .int .i64 day] W fun e W' => e = .returned (.int .i64 (causErr c day)) ∧ Below W.heap.size W W' := by
 obtain ⟨ad, cap, rfl⟩ := hr.2.2.1.len
 obtain ⟨ad1, cap1, rfl⟩ := hr.1.len
 obtain ⟨ad2, cap2, rfl⟩ := hr.2.1.len
 have hV := late_vis W (W.heap.size + 1 + 1) (W.heap.size + 1) c day (by omega) (by omega)
 have HVis := Lib.hid fun (W2 : World) => visit_any W (W.heap.size + 1 + 1) (W.heap.size + 1) c _ _ _ day _ _ _ _ _ _ _ hV W2 hB hr hS hP
 unfold Con.val at HVis ⊢
 clear hr hS hP hV
 go_enter Tryz.func15, Tryz.ntmps15
 go_wp2_with fail
 refine (silent_any _).mono ?_
 rintro e w1 ⟨rfl, hb1⟩
 have hz1 := hb1.size
 simp only [World.size_alloc] at hz1
 have hl0 : W.heap.size < w1.heap.size := by omega
 have hb2 := below_a2 W (.cells #[.int .u8 c.k, .string c.fr, .string c.rc, .string c.nm, .int .u8 c.ex.k, .string c.ex.ra, .string c.ex.nm, .int .i64 c.ex.d, .slice ad1 c.ex.sub.length cap1, .int .i64 c.d, .slice ad2 c.ds.length cap2, .slice ad c.sub.length cap] 29) (.cells #[.bool false] 4)
 obtain ⟨c0, c1, c2, c3, c4, c5, c6, c7, c8, c9, c10, c11⟩ := ((CBox.new W c (.slice ad1 c.ex.sub.length cap1) (.slice ad2 c.ds.length cap2) (.slice ad c.sub.length cap) 29).low (below_a1 _ (.cells #[.bool false] 4))).low hb1
 have hrow0 : Boxed ((W.alloc (.cells #[.int .u8 c.k, .string c.fr, .string c.rc, .string c.nm, .int .u8 c.ex.k, .string c.ex.ra, .string c.ex.nm, .int .i64 c.ex.d, .slice ad1 c.ex.sub.length cap1, .int .i64 c.d, .slice ad2 c.ds.length cap2, .slice ad c.sub.length cap] 29)).alloc (.cells #[.bool false] 4)) (W.heap.size + 1) 4 (.bool (evLt [])) := by
  have := Boxed.new (W.alloc (.cells #[.int .u8 c.k, .string c.fr, .string c.rc, .string c.nm, .int .u8 c.ex.k, .string c.ex.ra, .string c.ex.nm, .int .i64 c.ex.d, .slice ad1 c.ex.sub.length cap1, .int .i64 c.d, .slice ad2 c.ds.length cap2, .slice ad c.sub.length cap] 29)) 4 (.bool false)
  rwa [World.size_alloc] at this
 have hb3 := below_a1 w1 (.cells #[.func (.func 37) #[] #[.pointer (some ⟨W.heap.size + 1, 0, none⟩)], .func (.func 44) #[] #[], .func (.func 45) #[] #[]] 62)
 have hrow3 := Boxed.low (Boxed.low hrow0 hb1) hb3
 have hbA := (hb2.trans (hb1.mono (by simp; omega))).trans (hb3.mono (by omega))
 have HBA := Lib.hid hbA
 have HV := Lib.hid (HVis.out _ hbA (by rw [World.size_alloc]; omega) ⟨hrow3, by rw [World.size_alloc]; omega⟩)
 clear hb1 hb2 hb3 hrow0 hrow3 hbA hz1 HVis
 go_wp2_with fail
 refine HV.out.mono ?_
 rintro e w3 ⟨rfl, hJ, hk⟩
 obtain ⟨hbv, _⟩ := hJ
 have hcv := hbv.cell
 have HBF := Lib.hid (HBA.out.trans hk.below)
 obtain ⟨ve, hve⟩ : ∃ ve, visErr c day = ve := ⟨_, rfl⟩
 obtain ⟨lt, hlt⟩ : ∃ lt, evLt (visEvs c day) = lt := ⟨_, rfl⟩
 have HE : Hid (causErr c day = if ve = 0 then (if lt = true then 34 else 0) else ve) := Lib.hid (by unfold causErr; rw [hve, hlt])
 rw [hlt] at hcv
 rw [hve]
 clear hbv hk HV HBA hve hlt
 by_cases hE : ve = 0
 ·subst hE
  cases lt with
  | true =>
   go_wp2
   go_ret
   exact ⟨ret_int' HE.out.symm, HBF.out⟩
  | false =>
   go_wp2
   go_ret
   exact ⟨ret_int' HE.out.symm, HBF.out⟩
 ·have HN : Hid (causErr c day = ve) := Lib.hid (by rw [HE.out, if_neg hE])
  clear HE
  go_wp2
  go_ret
  exact ⟨ret_int' HN.out.symm, HBF.out⟩
end Go.Proofs.YtkonookacfmfgaaGreatDoor

namespace Go.Proofs.YtkonookacfmfgaaGreatDoor
open Go.RowKit
noncomputable def fndN (c : Con) (day : Int) : List NdP := insA ndLt 1000 [] (evNs (visEvs c day))
noncomputable def fndC (c : Con) (day : Int) : List ChP := insA chxLt 1000 [] (evCs (visEvs c day))
noncomputable def fndD (c : Con) (day : Int) : List Int := dayInsA [] (evDs (visEvs c day))
theorem fnd_set {α : Type} [DecidableEq α] {lt : α → α → Bool} (h : STO lt) (e : Int) (ns : List α) :
  fewErr e (insA lt 1000 [] ns).length = fewErr e (uniq lt ns).length ∧ (fewErr e (uniq lt ns).length = 0 → insA lt 1000 [] ns = uniq lt ns) := by
 obtain ⟨h1, h2⟩ := insA_set h 1000 (uniq_srt h ns) (uniq_mem lt ns)
 by_cases hl : (uniq lt ns).length ≤ 1000
 ·rw [h1 hl]; exact ⟨rfl, fun _ => rfl⟩
 ·have h3 := h2 (by omega)
  by_cases he : e = 0
  ·rw [fewErr_many he hl, fewErr_many he (by omega)]
   exact ⟨rfl, fun h => by cases h⟩
  ·rw [fewErr_err he, fewErr_err he]
   exact ⟨rfl, fun h => absurd h he⟩
theorem fndN_err (c : Con) (day : Int) : fewErr (visErr c day) (fndN c day).length = nErr c day := (fnd_set nd_sto (visErr c day) (evNs (visEvs c day))).1
theorem fndN_set (c : Con) (day : Int) (h : nErr c day = 0) : fndN c day = nSet c day := by
 unfold nSet
 rw [if_pos h]
 exact (fnd_set nd_sto (visErr c day) (evNs (visEvs c day))).2 h
theorem fndC_err (c : Con) (day : Int) : fewErr (visErr c day) (fndC c day).length = dErr c day := (fnd_set chx_sto (visErr c day) (evCs (visEvs c day))).1
theorem fndC_set (c : Con) (day : Int) (h : dErr c day = 0) : fndC c day = dSet c day := by
 unfold dSet
 rw [if_pos h]
 exact (fnd_set chx_sto (visErr c day) (evCs (visEvs c day))).2 h
theorem fndD_set (c : Con) (day : Int) (h : visErr c day = 0) : fndD c day = ySet c day := by
 unfold ySet
 rw [if_pos h]
 obtain ⟨h1, h2⟩ := dayInsA_law (evDs (visEvs c day)) [] (Srt.nil dayLt)
 refine srt_ext day_sto h1 (uniq_srt day_sto _) fun z => ?_
 show z ∈ dayInsA [] _ ↔ _
 rw [h2, uniq_mem]
 exact ⟨fun h => by rcases h with h | h; cases h; exact h, .inr⟩
theorem nSet_err {c : Con} {day : Int} (h : nErr c day ≠ 0) : nSet c day = [] := if_neg h
theorem dSet_err {c : Con} {day : Int} (h : dErr c day ≠ 0) : dSet c day = [] := if_neg h
theorem ySet_err {c : Con} {day : Int} (h : visErr c day ≠ 0) : ySet c day = [] := if_neg h
end Go.Proofs.YtkonookacfmfgaaGreatDoor

namespace Go.Proofs.YtkonookacfmfgaaGreatDoor
open Go.RowKit
theorem cerr_big {x : Con} (h : 500 < x.size ∨ 60 < x.depth) : x.err = 4 := by unfold Con.err; rw [if_pos h]
theorem cerr_bad {x : Con} (h : ¬ (500 < x.size ∨ 60 < x.depth)) (h0 : x.formed = false) : x.err = 8 := by unfold Con.err; rw [if_neg h, h0]; rfl
theorem cerr_ok {x : Con} (h : ¬ (500 < x.size ∨ 60 < x.depth)) (h0 : x.formed = true) : x.err = 0 := by unfold Con.err; rw [if_neg h, h0]; rfl
set_option maxHeartbeats 1000000 in
set_option maxRecDepth 100000 in
theorem r9check_any (x : Con) (es dd ss : Value) (w : World) (hM : x.bulk ≤ 1100000) (hs : RdN w x es dd ss) :
  Calls Tryz.prog 55 #[x.val es dd ss] w fun e w' => e = .returned (.int .i64 x.err) ∧ Below w.heap.size w w' := by
 obtain ⟨ad, cap, rfl⟩ := hs.2.2.1.len
 obtain ⟨ad1, cap1, rfl⟩ := hs.1.len
 obtain ⟨ad2, cap2, rfl⟩ := hs.2.1.len
 have HS := Lib.hid hs
 have H1 := Lib.hid fun (V : World) (h : Below w.heap.size w V) => rcsize_any x.bulk x _ _ _ V (Nat.le_refl _) (by omega) (hs.frame h)
 have H2 := Lib.hid fun (V : World) (h : Below w.heap.size w V) => rcdepth_any x.bulk x _ _ _ V (Nat.le_refl _) (by omega) (hs.frame h)
 have H3 := Lib.hid fun (V : World) (h : Below w.heap.size w V) => rformed_any x.bulk x _ _ _ V (Nat.le_refl _) hM (hs.frame h)
 have hx0 : ∃ W0, w.alloc (.cells #[.int .u8 x.k, .string x.fr, .string x.rc, .string x.nm, .int .u8 x.ex.k, .string x.ex.ra, .string x.ex.nm, .int .i64 x.ex.d, .slice ad1 x.ex.sub.length cap1, .int .i64 x.d, .slice ad2 x.ds.length cap2, .slice ad x.sub.length cap] 29) = W0 ∧ CBox W0 w.heap.size x (.slice ad1 x.ex.sub.length cap1) (.slice ad2 x.ds.length cap2) (.slice ad x.sub.length cap) ∧ Below w.heap.size w W0 := ⟨_, rfl, CBox.new _ _ _ _ _ _, below_a1 _ _⟩
 obtain ⟨W0, hW0, bx, hb0⟩ := hx0
 have HX0 := Lib.hid bx
 obtain ⟨c0, c1, c2, c3, c4, c5, c6, c7, c8, c9, c10, c11⟩ := bx
 unfold Con.val at H1 H2 H3 ⊢
 clear hs
 go_enter Tryz.func55, Tryz.ntmps55
 go_upto_region 1 with fail
 clear hW0
 go_wp2_with fail
 refine (H1.out _ hb0).mono ?_
 rintro e w1 ⟨rfl, hb1⟩
 have HX1 := Lib.hid (HX0.out.low hb1)
 have hw1 := hb0.trans (hb1.mono hb0.size)
 clear c0 c1 c2 c3 c4 c5 c6 c7 c8 c9 c10 c11 hb1
 obtain ⟨c0, c1, c2, c3, c4, c5, c6, c7, c8, c9, c10, c11⟩ := HX1.out
 by_cases h1 : 500 < x.size
 ·have g1 : decide ((500 : Int) < (x.size : Int)) = true := by rw [decide_eq_true_eq]; omega
  have HE := Lib.hid (cerr_big (x := x) (.inl h1))
  clear h1
  go_wp2
  go_ret
  exact ⟨by rw [HE.out]; rfl, hw1⟩
 ·have g1 : decide ((500 : Int) < (x.size : Int)) = false := by rw [decide_eq_false_iff_not]; omega
  go_wp2_with fail
  refine (H2.out _ hw1).mono ?_
  rintro e w2 ⟨rfl, hb2⟩
  have HX2 := Lib.hid (HX1.out.low hb2)
  have hw2 := hw1.trans (hb2.mono hw1.size)
  clear c0 c1 c2 c3 c4 c5 c6 c7 c8 c9 c10 c11 hb2
  obtain ⟨c0, c1, c2, c3, c4, c5, c6, c7, c8, c9, c10, c11⟩ := HX2.out
  by_cases h2 : 60 < x.depth
  ·have g2 : decide ((60 : Int) < (x.depth : Int)) = true := by rw [decide_eq_true_eq]; omega
   have HE := Lib.hid (cerr_big (x := x) (.inr h2))
   clear h2
   go_wp2
   go_ret
   exact ⟨by rw [HE.out]; rfl, hw2⟩
  ·have g2 : decide ((60 : Int) < (x.depth : Int)) = false := by rw [decide_eq_false_iff_not]; omega
   have hn : ¬ (500 < x.size ∨ 60 < x.depth) := by omega
   have HNn := Lib.hid hn
   clear h1 h2 hn
   go_wp2_with fail
   refine (H3.out _ hw2).mono ?_
   rintro e w3 ⟨rfl, hb3⟩
   have hw3 := hw2.trans (hb3.mono hw2.size)
   clear c0 c1 c2 c3 c4 c5 c6 c7 c8 c9 c10 c11 hb3
   cases h3 : x.formed with
   | false =>
    have HE := Lib.hid (cerr_bad HNn.out h3)
    clear h3
    go_wp2
    go_ret
    exact ⟨by rw [HE.out]; rfl, hw3⟩
   | true =>
    have HE := Lib.hid (cerr_ok HNn.out h3)
    clear h3
    go_wp2
    go_ret
    exact ⟨by rw [HE.out]; rfl, hw3⟩
def FndPost (x : Con) (day : Int) (W : World) (e : Ending) (W' : World) : Prop := ∃ a1 c1 a2 c2 a3 c3,
 e = .returned (.tuple #[.agg #[.slice a1 (fndN x day).length c1, .slice a2 (fndC x day).length c2, .slice a3 (fndD x day).length c3, .bool (evLt (visEvs x day))], .int .i64 (visErr x day)]) ∧
 RdNd W' (fndN x day) (.slice a1 (fndN x day).length c1) ∧ RdCx W' (fndC x day) (.slice a2 (fndC x day).length c2) ∧ RdDy W' (fndD x day) (.slice a3 (fndD x day).length c3) ∧ Below W.heap.size W W'
set_option maxHeartbeats 4000000 in
set_option maxRecDepth 100000 in
theorem rfind_any (x : Con) (es dd ss : Value) (day : Int) (W : World) (hM : x.bulk ≤ 1100000) (hs : RdN W x es dd ss) :
  Calls Tryz.prog 29 #[x.val es dd ss, .int .i64 day] W (FndPost x day W) := by
 obtain ⟨ad, cap, rfl⟩ := hs.2.2.1.len
 obtain ⟨ad1, cap1, rfl⟩ := hs.1.len
 obtain ⟨ad2, cap2, rfl⟩ := hs.2.1.len
 have HS := Lib.hid hs
 have HCk := Lib.hid fun (V : World) (h : Below W.heap.size W V) => r9check_any x _ _ _ V hM (hs.frame h)
 have HDy := Lib.hid fun (V : World) => rday_any day V
 have hx0 : ∃ W0, ((W.alloc (.cells #[.int .u8 x.k, .string x.fr, .string x.rc, .string x.nm, .int .u8 x.ex.k, .string x.ex.ra, .string x.ex.nm, .int .i64 x.ex.d, .slice ad1 x.ex.sub.length cap1, .int .i64 x.d, .slice ad2 x.ds.length cap2, .slice ad x.sub.length cap] 29)).alloc (.cells #[.slice none 0 0, .slice none 0 0, .slice none 0 0, .bool false] 76)).alloc (.cells #[.slice none 0 0, .slice none 0 0, .slice none 0 0, .bool false] 76) = W0 ∧
   CBox W0 W.heap.size x (.slice ad1 x.ex.sub.length cap1) (.slice ad2 x.ds.length cap2) (.slice ad x.sub.length cap) ∧ BoxN W0 (W.heap.size + 1) 76 [.slice none 0 0, .slice none 0 0, .slice none 0 0, .bool false] ∧ FSt W0 (W.heap.size + 1 + 1) [] [] [] false ∧ Below W.heap.size W W0 := by
  refine ⟨_, rfl, ((CBox.new W x (.slice ad1 x.ex.sub.length cap1) (.slice ad2 x.ds.length cap2) (.slice ad x.sub.length cap) _).low (below_a1 _ _)).low (below_a1 _ _), ?_, ?_, below_a3 _ _ _ _⟩
  ·have h := BoxN.new (W.alloc (.cells #[.int .u8 x.k, .string x.fr, .string x.rc, .string x.nm, .int .u8 x.ex.k, .string x.ex.ra, .string x.ex.nm, .int .i64 x.ex.d, .slice ad1 x.ex.sub.length cap1, .int .i64 x.d, .slice ad2 x.ds.length cap2, .slice ad x.sub.length cap] 29)) [.slice none 0 0, .slice none 0 0, .slice none 0 0, .bool false] 76
   rw [World.size_alloc] at h
   exact h.alloc _
  ·have h := BoxN.new ((W.alloc (.cells #[.int .u8 x.k, .string x.fr, .string x.rc, .string x.nm, .int .u8 x.ex.k, .string x.ex.ra, .string x.ex.nm, .int .i64 x.ex.d, .slice ad1 x.ex.sub.length cap1, .int .i64 x.d, .slice ad2 x.ds.length cap2, .slice ad x.sub.length cap] 29)).alloc (.cells #[.slice none 0 0, .slice none 0 0, .slice none 0 0, .bool false] 76)) [.slice none 0 0, .slice none 0 0, .slice none 0 0, .bool false] 76
   rw [World.size_alloc, World.size_alloc] at h
   exact ⟨none, 0, none, 0, none, 0, h, ⟨none, 0, rfl, fun k x hk => by simp at hk⟩, ⟨none, 0, rfl, fun k x hk => by simp at hk⟩, ⟨none, 0, rfl, fun k x hk => by simp at hk⟩⟩
 obtain ⟨W0, hW0, bx, br, bf, hb0⟩ := hx0
 have HX0 := Lib.hid bx
 obtain ⟨c0, c1, c2, c3, c4, c5, c6, c7, c8, c9, c10, c11⟩ := bx
 unfold Con.val at HCk ⊢
 clear hs
 go_enter Tryz.func29, Tryz.ntmps29
 go_upto_region 2 with fail
 clear hW0
 go_wp2_with fail
 refine (HCk.out _ hb0).mono ?_
 rintro e w1 ⟨rfl, hb1⟩
 have HX1 := Lib.hid (HX0.out.low hb1)
 have hw1 := hb0.trans (hb1.mono hb0.size)
 have HR1 := Lib.hid (br.below hb1 br.lt)
 have HF1 := Lib.hid (bf.low hb1)
 have hz1 := HF1.out.lt
 clear c0 c1 c2 c3 c4 c5 c6 c7 c8 c9 c10 c11 hb1 br bf
 obtain ⟨c0, c1, c2, c3, c4, c5, c6, c7, c8, c9, c10, c11⟩ := HX1.out
 have HEnd : Hid (∀ (w2 : World) (N : List NdP) (C : List ChP) (D : List Int) (late : Bool), FSt w2 (W.heap.size + 1 + 1) N C D late → BoxN w2 (W.heap.size + 1) 76 [.slice none 0 0, .slice none 0 0, .slice none 0 0, .bool false] → Below W.heap.size W w2 →
   ∃ a1 c1 a2 c2 a3 c3, (w2.cell? ⟨W.heap.size + 1 + 1, 0, none⟩ = some (.slice a1 N.length c1) ∧ w2.cell? ⟨W.heap.size + 1 + 1, 1, none⟩ = some (.slice a2 C.length c2) ∧ w2.cell? ⟨W.heap.size + 1 + 1, 2, none⟩ = some (.slice a3 D.length c3) ∧ w2.cell? ⟨W.heap.size + 1 + 1, 3, none⟩ = some (.bool late)) ∧
    ∃ W3, (((w2.setCell ⟨W.heap.size + 1, 0, none⟩ (.slice a1 N.length c1)).setCell ⟨W.heap.size + 1, 1, none⟩ (.slice a2 C.length c2)).setCell ⟨W.heap.size + 1, 2, none⟩ (.slice a3 D.length c3)).setCell ⟨W.heap.size + 1, 3, none⟩ (.bool late) = W3 ∧
     (W3.cell? ⟨W.heap.size + 1, 0, none⟩ = some (.slice a1 N.length c1) ∧ W3.cell? ⟨W.heap.size + 1, 1, none⟩ = some (.slice a2 C.length c2) ∧ W3.cell? ⟨W.heap.size + 1, 2, none⟩ = some (.slice a3 D.length c3) ∧ W3.cell? ⟨W.heap.size + 1, 3, none⟩ = some (.bool late)) ∧
     RdNd W3 N (.slice a1 N.length c1) ∧ RdCx W3 C (.slice a2 C.length c2) ∧ RdDy W3 D (.slice a3 D.length c3) ∧ Below W.heap.size W W3) := Lib.hid (by
  intro w2 N C D late hf hr hb
  obtain ⟨a1, c1, a2, c2, a3, c3, h0, h1, h2, h3⟩ := hf
  refine ⟨a1, c1, a2, c2, a3, c3, ⟨h0.cell rfl, h0.cell rfl, h0.cell rfl, h0.cell rfl⟩, _, rfl, ?_⟩
  have hr4 := (((hr.set 0 (.slice a1 N.length c1)).set 1 (.slice a2 C.length c2)).set 2 (.slice a3 D.length c3)).set 3 (.bool late)
  have hg : w2.grownBy ((((w2.setCell ⟨W.heap.size + 1, 0, none⟩ (.slice a1 N.length c1)).setCell ⟨W.heap.size + 1, 1, none⟩ (.slice a2 C.length c2)).setCell ⟨W.heap.size + 1, 2, none⟩ (.slice a3 D.length c3)).setCell ⟨W.heap.size + 1, 3, none⟩ (.bool late)) (some (W.heap.size + 1)) :=
   (((grown_set (Below.refl _ _)).trans (grown_set (Below.refl _ _))).trans (grown_set (Below.refl _ _))).trans (grown_set (Below.refl _ _))
  exact ⟨⟨hr4.cell rfl, hr4.cell rfl, hr4.cell rfl, hr4.cell rfl⟩, h1.box hr (by simp) hg, h2.box hr (by simp) hg, h3.box hr (by simp) hg, hb.grown hg hb.size (fun k hk => by cases hk; omega)⟩)
 obtain ⟨E, hE⟩ : ∃ E, x.err = E := ⟨_, rfl⟩
 have HEr := Lib.hid hE
 have hnone : visErr x day ≠ 0 → Hid (fndN x day = [] ∧ fndC x day = [] ∧ fndD x day = [] ∧ evLt (visEvs x day) = false) := fun h => Lib.hid (by
  have e : visEvs x day = [] := if_neg h
  unfold fndN fndC fndD
  rw [e]
  exact ⟨rfl, rfl, rfl, rfl⟩)
 have HNone := Lib.hid hnone
 rw [hE]
 clear hE hnone
 by_cases hE0 : E = 0
 ·subst hE0
  go_wp2_with fail
  refine (HDy.out _).mono ?_
  rintro e w2 ⟨rfl, rfl⟩
  cases hd : isDay day with
  | true =>
   have HV : Hid (visErr x day = 0) := Lib.hid (by unfold visErr; rw [if_pos HEr.out, if_pos hd])
   clear hd
   have hx3 : ∃ W3, w1.alloc (.cells #[.int .i64 day] 3) = W3 ∧ CBox W3 W.heap.size x (.slice ad1 x.ex.sub.length cap1) (.slice ad2 x.ds.length cap2) (.slice ad x.sub.length cap) ∧ BoxN W3 (W.heap.size + 1) 76 [.slice none 0 0, .slice none 0 0, .slice none 0 0, .bool false] ∧ FSt W3 (W.heap.size + 1 + 1) [] [] [] false ∧ Below W.heap.size W W3 ∧ RdDy W3 [day] (.slice (some ⟨w1.heap.size, 0, none⟩) 1 1) :=
    ⟨_, rfl, HX1.out.low (below_a1 _ _), HR1.out.alloc _, HF1.out.low (below_a1 _ _), hw1.alloc hw1.size _, rdDy_one _ _ _⟩
   obtain ⟨W3, hW3, bx3, br3, bf3, hw3, hd3⟩ := hx3
   have HP := Lib.hid (fpart_any x.bulk x _ _ _ _ (W.heap.size + 1 + 1) [] [] [] false [day] W3 (Nat.le_refl _) (by omega) (by simp) (by simp) (by simp) (by
    have h := (Con.found_len x day (by omega) (List.prefix_refl _)).2.2
    simpa using h) (HS.out.frame hw3) hd3 bf3)
   have HR3 := Lib.hid br3
   unfold Con.val at HP
   clear bx3 br3 bf3 hd3
   go_wp2_with fail
   refine HP.out.mono ?_
   rintro e w4 ⟨rfl, hg4, hf4⟩
   have hn4 : W.heap.size + 1 ≠ W.heap.size + 1 + 1 := by omega
   have hw4 : Below W.heap.size W w4 := hw3.grown hg4 hw3.size fun k hk => by cases hk; omega
   obtain ⟨a1, e1, a2, e2, a3, e3, ⟨k0, k1, k2, k3⟩, W5, hW5, ⟨l0, l1, l2, l3⟩, hh⟩ := HEnd.out w4 _ _ _ _ hf4 (HR3.out.grown hg4 hn4) hw4
   have HQ : Hid (FndPost x day W (.returned (.tuple #[.agg #[.slice a1 (insA ndLt 1000 [] (evNs (x.evs [day]))).length e1, .slice a2 (insA chxLt 1000 [] (evCs (x.evs [day]))).length e2, .slice a3 (dayInsA [] (evDs (x.evs [day]))).length e3, .bool (false || evLt (x.evs [day]))], .int .i64 0])) W5) := Lib.hid (by
    have e : visEvs x day = x.evs [day] := if_pos HV.out
    refine ⟨a1, e1, a2, e2, a3, e3, ?_, ?_⟩
    ·rw [HV.out]; unfold fndN fndC fndD; rw [e, Bool.false_or]
    ·unfold fndN fndC fndD; rw [e]; exact hh)
   have HRf := Lib.hid (HR3.out.grown hg4 hn4)
   have r0 : w4.cell? ⟨W.heap.size + 1, 0, none⟩ = some (.slice none 0 0) := HRf.out.cell rfl
   have r1 : w4.cell? ⟨W.heap.size + 1, 1, none⟩ = some (.slice none 0 0) := HRf.out.cell rfl
   have r2 : w4.cell? ⟨W.heap.size + 1, 2, none⟩ = some (.slice none 0 0) := HRf.out.cell rfl
   have r3 : w4.cell? ⟨W.heap.size + 1, 3, none⟩ = some (.bool false) := HRf.out.cell rfl
   have f0 := HRf.out.frozen 0
   have f1 := HRf.out.frozen 1
   have f2 := HRf.out.frozen 2
   have f3 := HRf.out.frozen 3
   clear hh hf4 hg4 HP c0 c1 c2 c3 c4 c5 c6 c7 c8 c9 c10 c11 hW3
   generalize insA ndLt 1000 [] (evNs (x.evs [day])) = N5 at *
   generalize insA chxLt 1000 [] (evCs (x.evs [day])) = C5 at *
   generalize dayInsA [] (evDs (x.evs [day])) = D5 at *
   generalize (false || evLt (x.evs [day])) = L5 at *
   go_wp2_with fail
   refine bodyPost_ret (v := .tuple #[.agg #[.slice a1 N5.length e1, .slice a2 C5.length e2, .slice a3 D5.length e3, .bool L5], .int .i64 0]) (by simp [results, Tryz.results29, go_sem, l0, l1, l2, l3]) rfl HQ.out
  | false =>
   have HV : Hid (visErr x day = 2) := Lib.hid (by unfold visErr; rw [if_pos HEr.out, if_neg (by rw [hd]; exact Bool.false_ne_true)])
   clear hd
   obtain ⟨a1, e1, a2, e2, a3, e3, ⟨k0, k1, k2, k3⟩, W5, hW5, ⟨l0, l1, l2, l3⟩, hh⟩ := HEnd.out w1 [] [] [] false HF1.out HR1.out hw1
   simp only [List.length_nil] at k0 k1 k2 hW5 l0 l1 l2
   have HQ : Hid (FndPost x day W (.returned (.tuple #[.agg #[.slice a1 0 e1, .slice a2 0 e2, .slice a3 0 e3, .bool false], .int .i64 2])) W5) := Lib.hid (by
    obtain ⟨n1, n2, n3, n4⟩ := (HNone.out (by rw [HV.out]; exact by decide)).out
    refine ⟨a1, e1, a2, e2, a3, e3, ?_, ?_⟩
    ·rw [HV.out, n1, n2, n3, n4]; rfl
    ·rw [n1, n2, n3]; exact hh)
   have r0 : w1.cell? ⟨W.heap.size + 1, 0, none⟩ = some (.slice none 0 0) := HR1.out.cell rfl
   have r1 : w1.cell? ⟨W.heap.size + 1, 1, none⟩ = some (.slice none 0 0) := HR1.out.cell rfl
   have r2 : w1.cell? ⟨W.heap.size + 1, 2, none⟩ = some (.slice none 0 0) := HR1.out.cell rfl
   have r3 : w1.cell? ⟨W.heap.size + 1, 3, none⟩ = some (.bool false) := HR1.out.cell rfl
   have f0 := HR1.out.frozen 0
   have f1 := HR1.out.frozen 1
   have f2 := HR1.out.frozen 2
   have f3 := HR1.out.frozen 3
   clear hh c0 c1 c2 c3 c4 c5 c6 c7 c8 c9 c10 c11
   go_wp2_with fail
   refine bodyPost_ret (v := .tuple #[.agg #[.slice a1 0 e1, .slice a2 0 e2, .slice a3 0 e3, .bool false], .int .i64 2]) (by simp [results, Tryz.results29, go_sem, l0, l1, l2, l3]) rfl HQ.out
 ·have HV : Hid (visErr x day = E) := Lib.hid (by unfold visErr; rw [HEr.out, if_neg hE0])
  have HN0 := Lib.hid hE0
  have t1 : (E == 0) = false := by rw [beq_eq_false_iff_ne]; exact hE0
  clear hE0
  obtain ⟨a1, e1, a2, e2, a3, e3, ⟨k0, k1, k2, k3⟩, W5, hW5, ⟨l0, l1, l2, l3⟩, hh⟩ := HEnd.out w1 [] [] [] false HF1.out HR1.out hw1
  simp only [List.length_nil] at k0 k1 k2 hW5 l0 l1 l2
  have HQ : Hid (FndPost x day W (.returned (.tuple #[.agg #[.slice a1 0 e1, .slice a2 0 e2, .slice a3 0 e3, .bool false], .int .i64 E])) W5) := Lib.hid (by
   obtain ⟨n1, n2, n3, n4⟩ := (HNone.out (by rw [HV.out]; exact HN0.out)).out
   refine ⟨a1, e1, a2, e2, a3, e3, ?_, ?_⟩
   ·rw [HV.out, n1, n2, n3, n4]; rfl
   ·rw [n1, n2, n3]; exact hh)
  have r0 : w1.cell? ⟨W.heap.size + 1, 0, none⟩ = some (.slice none 0 0) := HR1.out.cell rfl
  have r1 : w1.cell? ⟨W.heap.size + 1, 1, none⟩ = some (.slice none 0 0) := HR1.out.cell rfl
  have r2 : w1.cell? ⟨W.heap.size + 1, 2, none⟩ = some (.slice none 0 0) := HR1.out.cell rfl
  have r3 : w1.cell? ⟨W.heap.size + 1, 3, none⟩ = some (.bool false) := HR1.out.cell rfl
  have f0 := HR1.out.frozen 0
  have f1 := HR1.out.frozen 1
  have f2 := HR1.out.frozen 2
  have f3 := HR1.out.frozen 3
  clear hh c0 c1 c2 c3 c4 c5 c6 c7 c8 c9 c10 c11
  go_wp2_with fail
  refine bodyPost_ret (v := .tuple #[.agg #[.slice a1 0 e1, .slice a2 0 e2, .slice a3 0 e3, .bool false], .int .i64 E]) (by simp [results, Tryz.results29, go_sem, l0, l1, l2, l3]) rfl HQ.out
end Go.Proofs.YtkonookacfmfgaaGreatDoor

namespace Go.Proofs.YtkonookacfmfgaaGreatDoor
open Go.RowKit
set_option maxHeartbeats 2000000 in
set_option maxRecDepth 100000 in
theorem rneeds_any (x : Con) (es dd ss : Value) (day : Int) (W : World) (hM : x.bulk ≤ 1100000) (hs : RdN W x es dd ss) :
  Calls Tryz.prog 7 #[x.val es dd ss, .int .i64 day] W fun e W' => ∃ ad cap, e = .returned (.tuple #[.slice ad (nSet x day).length cap, .int .i64 (nErr x day)]) ∧ RdNd W' (nSet x day) (.slice ad (nSet x day).length cap) ∧ Below W.heap.size W W' := by
 obtain ⟨ad, cap, rfl⟩ := hs.2.2.1.len
 obtain ⟨ad1, cap1, rfl⟩ := hs.1.len
 obtain ⟨ad2, cap2, rfl⟩ := hs.2.1.len
 have HS := Lib.hid hs
 have HFd := Lib.hid fun (V : World) (h : Below W.heap.size W V) => rfind_any x _ _ _ day V hM (hs.frame h)
 have hx0 : ∃ W0, W.alloc (.cells #[.int .u8 x.k, .string x.fr, .string x.rc, .string x.nm, .int .u8 x.ex.k, .string x.ex.ra, .string x.ex.nm, .int .i64 x.ex.d, .slice ad1 x.ex.sub.length cap1, .int .i64 x.d, .slice ad2 x.ds.length cap2, .slice ad x.sub.length cap] 29) = W0 ∧ CBox W0 W.heap.size x (.slice ad1 x.ex.sub.length cap1) (.slice ad2 x.ds.length cap2) (.slice ad x.sub.length cap) ∧ Below W.heap.size W W0 := ⟨_, rfl, CBox.new _ _ _ _ _ _, below_a1 _ _⟩
 obtain ⟨W0, hW0, bx, hb0⟩ := hx0
 obtain ⟨c0, c1, c2, c3, c4, c5, c6, c7, c8, c9, c10, c11⟩ := bx
 unfold Con.val at HFd ⊢
 clear hs
 go_enter Tryz.func7, Tryz.ntmps7
 go_upto_region 1 with fail
 clear hW0
 go_wp2_with fail
 refine (HFd.out _ hb0).mono ?_
 rintro e w1 ⟨a1, e1, a2, e2, a3, e3, rfl, h1, h2, h3, hb1⟩
 have hw1 := hb0.trans (hb1.mono hb0.size)
 have HH := Lib.hid (And.intro h1 (And.intro h2 h3))
 clear c0 c1 c2 c3 c4 c5 c6 c7 c8 c9 c10 c11 hb1 h1 h2 h3
 obtain ⟨E, hE⟩ : ∃ E, visErr x day = E := ⟨_, rfl⟩
 have HEr := Lib.hid hE
 rw [hE]
 obtain ⟨mN, hmN⟩ : ∃ m, (fndN x day).length = m := ⟨_, rfl⟩
 obtain ⟨mC, hmC⟩ : ∃ m, (fndC x day).length = m := ⟨_, rfl⟩
 obtain ⟨mD, hmD⟩ : ∃ m, (fndD x day).length = m := ⟨_, rfl⟩
 have HMs := Lib.hid (And.intro hmN (And.intro hmC hmD))
 rw [hmN, hmC, hmD] at HH ⊢
 have hbF := hw1.trans ((below_a1 w1 (.cells #[.slice a1 mN e1, .slice a2 mC e2, .slice a3 mD e3, .bool (evLt (visEvs x day))] 76)).mono hw1.size)
 have HLo := Lib.hid (below_a1 w1 (.cells #[.slice a1 mN e1, .slice a2 mC e2, .slice a3 mD e3, .bool (evLt (visEvs x day))] 76))
 clear hE hmN hmC hmD
 by_cases hE0 : E = 0
 ·subst hE0
  by_cases hl : mN ≤ 1000
  ·have g1 : decide ((1000 : Int) < (mN : Int)) = false := by rw [decide_eq_false_iff_not]; omega
   have HQ : Hid (nErr x day = 0 ∧ nSet x day = fndN x day) := Lib.hid (by have h1 : nErr x day = 0 := (by rw [← fndN_err, HEr.out, HMs.out.1]; exact fewErr_ok rfl hl); exact ⟨h1, (fndN_set x day h1).symm⟩)
   clear hl
   go_wp2
   go_ret2
   exact ⟨a1, e1, by rw [HQ.out.1, HQ.out.2, HMs.out.1]; rfl, by rw [HQ.out.2, HMs.out.1]; exact HH.out.1.low HLo.out, hbF⟩
  ·have g1 : decide ((1000 : Int) < (mN : Int)) = true := by rw [decide_eq_true_eq]; omega
   have HQ : Hid (nErr x day = 4 ∧ nSet x day = []) := Lib.hid (by have h1 : nErr x day = 4 := (by rw [← fndN_err, HEr.out, HMs.out.1]; exact fewErr_many rfl hl); exact ⟨h1, nSet_err (by rw [h1]; decide)⟩)
   clear hl
   go_wp2
   go_ret2
   exact ⟨none, 0, by rw [HQ.out.1, HQ.out.2]; rfl, by rw [HQ.out.2]; exact ⟨none, 0, rfl, fun k x hk => by simp at hk⟩, hbF⟩
 ·have t1 : (E == 0) = false := by rw [beq_eq_false_iff_ne]; exact hE0
  have t2 : (E != 0) = true := by rw [bne_iff_ne]; exact hE0
  have HQ : Hid (nErr x day = E ∧ nSet x day = []) := Lib.hid (by have h1 : nErr x day = E := (by rw [← fndN_err, HEr.out]; exact fewErr_err hE0); exact ⟨h1, nSet_err (by rw [h1]; exact hE0)⟩)
  clear hE0
  go_wp2
  go_ret2
  exact ⟨none, 0, by rw [HQ.out.1, HQ.out.2]; rfl, by rw [HQ.out.2]; exact ⟨none, 0, rfl, fun k x hk => by simp at hk⟩, hbF⟩
set_option maxHeartbeats 2000000 in
set_option maxRecDepth 100000 in
theorem rdeadlines_any (x : Con) (es dd ss : Value) (day : Int) (W : World) (hM : x.bulk ≤ 1100000) (hs : RdN W x es dd ss) :
  Calls Tryz.prog 9 #[x.val es dd ss, .int .i64 day] W fun e W' => ∃ ad cap, e = .returned (.tuple #[.slice ad (dSet x day).length cap, .int .i64 (dErr x day)]) ∧ RdCx W' (dSet x day) (.slice ad (dSet x day).length cap) ∧ Below W.heap.size W W' := by
 obtain ⟨ad, cap, rfl⟩ := hs.2.2.1.len
 obtain ⟨ad1, cap1, rfl⟩ := hs.1.len
 obtain ⟨ad2, cap2, rfl⟩ := hs.2.1.len
 have HS := Lib.hid hs
 have HFd := Lib.hid fun (V : World) (h : Below W.heap.size W V) => rfind_any x _ _ _ day V hM (hs.frame h)
 have hx0 : ∃ W0, W.alloc (.cells #[.int .u8 x.k, .string x.fr, .string x.rc, .string x.nm, .int .u8 x.ex.k, .string x.ex.ra, .string x.ex.nm, .int .i64 x.ex.d, .slice ad1 x.ex.sub.length cap1, .int .i64 x.d, .slice ad2 x.ds.length cap2, .slice ad x.sub.length cap] 29) = W0 ∧ CBox W0 W.heap.size x (.slice ad1 x.ex.sub.length cap1) (.slice ad2 x.ds.length cap2) (.slice ad x.sub.length cap) ∧ Below W.heap.size W W0 := ⟨_, rfl, CBox.new _ _ _ _ _ _, below_a1 _ _⟩
 obtain ⟨W0, hW0, bx, hb0⟩ := hx0
 obtain ⟨c0, c1, c2, c3, c4, c5, c6, c7, c8, c9, c10, c11⟩ := bx
 unfold Con.val at HFd ⊢
 clear hs
 go_enter Tryz.func9, Tryz.ntmps9
 go_upto_region 1 with fail
 clear hW0
 go_wp2_with fail
 refine (HFd.out _ hb0).mono ?_
 rintro e w1 ⟨a1, e1, a2, e2, a3, e3, rfl, h1, h2, h3, hb1⟩
 have hw1 := hb0.trans (hb1.mono hb0.size)
 have HH := Lib.hid (And.intro h1 (And.intro h2 h3))
 clear c0 c1 c2 c3 c4 c5 c6 c7 c8 c9 c10 c11 hb1 h1 h2 h3
 obtain ⟨E, hE⟩ : ∃ E, visErr x day = E := ⟨_, rfl⟩
 have HEr := Lib.hid hE
 rw [hE]
 obtain ⟨mN, hmN⟩ : ∃ m, (fndN x day).length = m := ⟨_, rfl⟩
 obtain ⟨mC, hmC⟩ : ∃ m, (fndC x day).length = m := ⟨_, rfl⟩
 obtain ⟨mD, hmD⟩ : ∃ m, (fndD x day).length = m := ⟨_, rfl⟩
 have HMs := Lib.hid (And.intro hmN (And.intro hmC hmD))
 rw [hmN, hmC, hmD] at HH ⊢
 have hbF := hw1.trans ((below_a1 w1 (.cells #[.slice a1 mN e1, .slice a2 mC e2, .slice a3 mD e3, .bool (evLt (visEvs x day))] 76)).mono hw1.size)
 have HLo := Lib.hid (below_a1 w1 (.cells #[.slice a1 mN e1, .slice a2 mC e2, .slice a3 mD e3, .bool (evLt (visEvs x day))] 76))
 clear hE hmN hmC hmD
 by_cases hE0 : E = 0
 ·subst hE0
  by_cases hl : mC ≤ 1000
  ·have g1 : decide ((1000 : Int) < (mC : Int)) = false := by rw [decide_eq_false_iff_not]; omega
   have HQ : Hid (dErr x day = 0 ∧ dSet x day = fndC x day) := Lib.hid (by have h1 : dErr x day = 0 := (by rw [← fndC_err, HEr.out, HMs.out.2.1]; exact fewErr_ok rfl hl); exact ⟨h1, (fndC_set x day h1).symm⟩)
   clear hl
   go_wp2
   go_ret2
   exact ⟨a2, e2, by rw [HQ.out.1, HQ.out.2, HMs.out.2.1]; rfl, by rw [HQ.out.2, HMs.out.2.1]; exact HH.out.2.1.low HLo.out, hbF⟩
  ·have g1 : decide ((1000 : Int) < (mC : Int)) = true := by rw [decide_eq_true_eq]; omega
   have HQ : Hid (dErr x day = 4 ∧ dSet x day = []) := Lib.hid (by have h1 : dErr x day = 4 := (by rw [← fndC_err, HEr.out, HMs.out.2.1]; exact fewErr_many rfl hl); exact ⟨h1, dSet_err (by rw [h1]; decide)⟩)
   clear hl
   go_wp2
   go_ret2
   exact ⟨none, 0, by rw [HQ.out.1, HQ.out.2]; rfl, by rw [HQ.out.2]; exact ⟨none, 0, rfl, fun k x hk => by simp at hk⟩, hbF⟩
 ·have t1 : (E == 0) = false := by rw [beq_eq_false_iff_ne]; exact hE0
  have t2 : (E != 0) = true := by rw [bne_iff_ne]; exact hE0
  have HQ : Hid (dErr x day = E ∧ dSet x day = []) := Lib.hid (by have h1 : dErr x day = E := (by rw [← fndC_err, HEr.out]; exact fewErr_err hE0); exact ⟨h1, dSet_err (by rw [h1]; exact hE0)⟩)
  clear hE0
  go_wp2
  go_ret2
  exact ⟨none, 0, by rw [HQ.out.1, HQ.out.2]; rfl, by rw [HQ.out.2]; exact ⟨none, 0, rfl, fun k x hk => by simp at hk⟩, hbF⟩
set_option maxHeartbeats 2000000 in
set_option maxRecDepth 100000 in
theorem rdays15_any (x : Con) (es dd ss : Value) (day : Int) (W : World) (hM : x.bulk ≤ 1100000) (hs : RdN W x es dd ss) :
  Calls Tryz.prog 11 #[x.val es dd ss, .int .i64 day] W fun e W' => ∃ ad cap, e = .returned (.tuple #[.slice ad (ySet x day).length cap, .int .i64 (visErr x day)]) ∧ RdDy W' (ySet x day) (.slice ad (ySet x day).length cap) ∧ Below W.heap.size W W' := by
 obtain ⟨ad, cap, rfl⟩ := hs.2.2.1.len
 obtain ⟨ad1, cap1, rfl⟩ := hs.1.len
 obtain ⟨ad2, cap2, rfl⟩ := hs.2.1.len
 have HS := Lib.hid hs
 have HFd := Lib.hid fun (V : World) (h : Below W.heap.size W V) => rfind_any x _ _ _ day V hM (hs.frame h)
 have hx0 : ∃ W0, W.alloc (.cells #[.int .u8 x.k, .string x.fr, .string x.rc, .string x.nm, .int .u8 x.ex.k, .string x.ex.ra, .string x.ex.nm, .int .i64 x.ex.d, .slice ad1 x.ex.sub.length cap1, .int .i64 x.d, .slice ad2 x.ds.length cap2, .slice ad x.sub.length cap] 29) = W0 ∧ CBox W0 W.heap.size x (.slice ad1 x.ex.sub.length cap1) (.slice ad2 x.ds.length cap2) (.slice ad x.sub.length cap) ∧ Below W.heap.size W W0 := ⟨_, rfl, CBox.new _ _ _ _ _ _, below_a1 _ _⟩
 obtain ⟨W0, hW0, bx, hb0⟩ := hx0
 obtain ⟨c0, c1, c2, c3, c4, c5, c6, c7, c8, c9, c10, c11⟩ := bx
 unfold Con.val at HFd ⊢
 clear hs
 go_enter Tryz.func11, Tryz.ntmps11
 go_upto_region 1 with fail
 clear hW0
 go_wp2_with fail
 refine (HFd.out _ hb0).mono ?_
 rintro e w1 ⟨a1, e1, a2, e2, a3, e3, rfl, h1, h2, h3, hb1⟩
 have hw1 := hb0.trans (hb1.mono hb0.size)
 have HH := Lib.hid (And.intro h1 (And.intro h2 h3))
 clear c0 c1 c2 c3 c4 c5 c6 c7 c8 c9 c10 c11 hb1 h1 h2 h3
 obtain ⟨E, hE⟩ : ∃ E, visErr x day = E := ⟨_, rfl⟩
 have HEr := Lib.hid hE
 rw [hE]
 obtain ⟨mN, hmN⟩ : ∃ m, (fndN x day).length = m := ⟨_, rfl⟩
 obtain ⟨mC, hmC⟩ : ∃ m, (fndC x day).length = m := ⟨_, rfl⟩
 obtain ⟨mD, hmD⟩ : ∃ m, (fndD x day).length = m := ⟨_, rfl⟩
 have HMs := Lib.hid (And.intro hmN (And.intro hmC hmD))
 rw [hmN, hmC, hmD] at HH ⊢
 have hbF := hw1.trans ((below_a1 w1 (.cells #[.slice a1 mN e1, .slice a2 mC e2, .slice a3 mD e3, .bool (evLt (visEvs x day))] 76)).mono hw1.size)
 have HLo := Lib.hid (below_a1 w1 (.cells #[.slice a1 mN e1, .slice a2 mC e2, .slice a3 mD e3, .bool (evLt (visEvs x day))] 76))
 clear hE hmN hmC hmD
 by_cases hE0 : E = 0
 ·subst hE0
  have HQ : Hid (visErr x day = 0 ∧ ySet x day = fndD x day) := Lib.hid (by exact ⟨HEr.out, (fndD_set x day HEr.out).symm⟩)
  skip
  go_wp2
  go_ret2
  exact ⟨a3, e3, by rw [HQ.out.1, HQ.out.2, HMs.out.2.2]; rfl, by rw [HQ.out.2, HMs.out.2.2]; exact HH.out.2.2.low HLo.out, hbF⟩
 ·have t1 : (E == 0) = false := by rw [beq_eq_false_iff_ne]; exact hE0
  have t2 : (E != 0) = true := by rw [bne_iff_ne]; exact hE0
  have HQ : Hid (visErr x day = E ∧ ySet x day = []) := Lib.hid (by exact ⟨HEr.out, ySet_err (by rw [HEr.out]; exact hE0)⟩)
  clear hE0
  go_wp2
  go_ret2
  exact ⟨none, 0, by rw [HQ.out.1, HQ.out.2]; rfl, by rw [HQ.out.2]; exact ⟨none, 0, rfl, fun k x hk => by simp at hk⟩, hbF⟩
set_option maxHeartbeats 2000000 in
set_option maxRecDepth 100000 in
theorem rcausal_any (x : Con) (es dd ss : Value) (day : Int) (W : World) (hM : x.bulk ≤ 1100000) (hs : RdN W x es dd ss) :
  Calls Tryz.prog 16 #[x.val es dd ss, .int .i64 day] W fun e W' => e = .returned (.int .i64 (causErr x day)) ∧ Below W.heap.size W W' := by
 obtain ⟨ad, cap, rfl⟩ := hs.2.2.1.len
 obtain ⟨ad1, cap1, rfl⟩ := hs.1.len
 obtain ⟨ad2, cap2, rfl⟩ := hs.2.1.len
 have HS := Lib.hid hs
 have HFd := Lib.hid fun (V : World) (h : Below W.heap.size W V) => rfind_any x _ _ _ day V hM (hs.frame h)
 have hx0 : ∃ W0, W.alloc (.cells #[.int .u8 x.k, .string x.fr, .string x.rc, .string x.nm, .int .u8 x.ex.k, .string x.ex.ra, .string x.ex.nm, .int .i64 x.ex.d, .slice ad1 x.ex.sub.length cap1, .int .i64 x.d, .slice ad2 x.ds.length cap2, .slice ad x.sub.length cap] 29) = W0 ∧ CBox W0 W.heap.size x (.slice ad1 x.ex.sub.length cap1) (.slice ad2 x.ds.length cap2) (.slice ad x.sub.length cap) ∧ Below W.heap.size W W0 := ⟨_, rfl, CBox.new _ _ _ _ _ _, below_a1 _ _⟩
 obtain ⟨W0, hW0, bx, hb0⟩ := hx0
 obtain ⟨c0, c1, c2, c3, c4, c5, c6, c7, c8, c9, c10, c11⟩ := bx
 unfold Con.val at HFd ⊢
 clear hs
 go_enter Tryz.func16, Tryz.ntmps16
 go_upto_region 1 with fail
 clear hW0
 go_wp2_with fail
 refine (HFd.out _ hb0).mono ?_
 rintro e w1 ⟨a1, e1, a2, e2, a3, e3, rfl, h1, h2, h3, hb1⟩
 have hw1 := hb0.trans (hb1.mono hb0.size)
 have HH := Lib.hid (And.intro h1 (And.intro h2 h3))
 clear c0 c1 c2 c3 c4 c5 c6 c7 c8 c9 c10 c11 hb1 h1 h2 h3
 obtain ⟨E, hE⟩ : ∃ E, visErr x day = E := ⟨_, rfl⟩
 have HEr := Lib.hid hE
 rw [hE]
 obtain ⟨mN, hmN⟩ : ∃ m, (fndN x day).length = m := ⟨_, rfl⟩
 obtain ⟨mC, hmC⟩ : ∃ m, (fndC x day).length = m := ⟨_, rfl⟩
 obtain ⟨mD, hmD⟩ : ∃ m, (fndD x day).length = m := ⟨_, rfl⟩
 have HMs := Lib.hid (And.intro hmN (And.intro hmC hmD))
 rw [hmN, hmC, hmD] at HH ⊢
 have hbF := hw1.trans ((below_a1 w1 (.cells #[.slice a1 mN e1, .slice a2 mC e2, .slice a3 mD e3, .bool (evLt (visEvs x day))] 76)).mono hw1.size)
 have HLo := Lib.hid (below_a1 w1 (.cells #[.slice a1 mN e1, .slice a2 mC e2, .slice a3 mD e3, .bool (evLt (visEvs x day))] 76))
 clear hE hmN hmC hmD
 obtain ⟨L, hL⟩ : ∃ L, evLt (visEvs x day) = L := ⟨_, rfl⟩
 rw [hL] at hbF HLo ⊢
 have HL := Lib.hid hL
 clear hL
 by_cases hE0 : E = 0
 ·subst hE0
  cases L with
  | true =>
   have HQ : Hid (causErr x day = 34) := Lib.hid (by unfold causErr; rw [if_pos HEr.out, if_pos HL.out])
   go_wp2
   go_ret
   exact ⟨by rw [HQ.out]; rfl, hbF⟩
  | false =>
   have HQ : Hid (causErr x day = 0) := Lib.hid (by unfold causErr; rw [if_pos HEr.out, if_neg (by rw [HL.out]; exact Bool.false_ne_true)])
   go_wp2
   go_ret
   exact ⟨by rw [HQ.out]; rfl, hbF⟩
 ·have t1 : (E == 0) = false := by rw [beq_eq_false_iff_ne]; exact hE0
  have HQ : Hid (causErr x day = E) := Lib.hid (by unfold causErr; rw [if_neg (by rw [HEr.out]; exact hE0), HEr.out])
  clear hE0
  go_wp2
  go_ret
  exact ⟨by rw [HQ.out]; rfl, hbF⟩
end Go.Proofs.YtkonookacfmfgaaGreatDoor
