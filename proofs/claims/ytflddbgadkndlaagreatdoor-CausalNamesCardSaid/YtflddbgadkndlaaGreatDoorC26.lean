/-
  causal.Deadlines. The two contracts of law 15's examples: plain. novationlaw15.fix and pay. novationref15.SameNeeds. novationref15.SameChoices (printed by tools/gensame.py C). novationref15.SameDays (printed by tools/gensame.py I).
-/
import Derived.Test.YtflddbgadkndlaaGreatDoorC25
import Derived.Test.YtflddbgadkndlaaGreatDoorC24
import Derived.Test.YtflddbgadkndlaaGreatDoorC14
namespace Go.Proofs.YtflddbgadkndlaaGreatDoor
open Go.RowKit

theorem Con.found_lenM (c : Con) (day : Int) (M : Nat) (hM : 1 ≤ M) (hB : c.bulk ≤ M) {pre : List Ev} (hp : pre <+: c.evs [day]) :
    (evNs pre).length ≤ M * M ∧ (evCs pre).length ≤ M * M ∧ (evDs pre).length ≤ M * M := by
  obtain ⟨r, hr⟩ := hp
  have hm : ∀ e ∈ pre, evMost M e := fun e he => Con.evs_most M hM c [day] hB (by simpa using hM) e (by rw [← hr]; simp [he])
  have hw : evWs pre ≤ M := by
    have h1 := Con.evs_w c [day]
    rw [← hr, evWs_append] at h1
    omega
  have h1 := flat_most evNeeds M (fun _ => evNeeds_len) pre hm
  have h2 := flat_most evChs M (fun _ => evChs_len) pre hm
  have h3 := flat_most evDays M (fun _ => evDays_len) pre hm
  have h4 := Nat.mul_le_mul_right M hw
  exact ⟨Nat.le_trans h1 h4, Nat.le_trans h2 h4, Nat.le_trans h3 h4⟩

set_option maxRecDepth 100000 in
theorem fewC_any (ad : Option Addr) (n cap : Nat) (e : Int) (w : World) : Calls Tryz.prog 41 #[.slice ad n cap, .int .i64 e] w fun r w' => r = .returned (.tuple #[fewV e (.slice ad n cap) n, .int .i64 (fewErr e n)]) ∧ w = w' := by
  by_cases he : e = 0
  · by_cases hn : n ≤ 1000
    · have HF := Lib.hid (fewErr_ok he hn)
      subst he
      have h1 : decide ((1000 : Int) < (n : Int)) = false := by rw [decide_eq_false_iff_not]; omega
      go_enter Tryz.func41, Tryz.ntmps41
      go_wp2
      go_ret2
      rw [fewV_ok HF.out, HF.out]
      exact ⟨rfl, rfl⟩
    · have HF := Lib.hid (fewErr_many he hn)
      subst he
      have h1 : decide ((1000 : Int) < (n : Int)) = true := by rw [decide_eq_true_eq]; omega
      go_enter Tryz.func41, Tryz.ntmps41
      go_wp2
      go_ret2
      rw [fewV_err (by rw [HF.out]; decide), HF.out]
      exact ⟨rfl, rfl⟩
  · have HF := Lib.hid (fewErr_err (n := n) he)
    have He := Lib.hid he
    go_enter Tryz.func41, Tryz.ntmps41
    go_wp2
    go_ret2
    rw [fewV_err (by rw [HF.out]; exact He.out), HF.out]
    exact ⟨rfl, rfl⟩

/-- The visitor of Deadlines. -/
theorem dead_vis (w0 : World) (D Bo : Nat) (c : Con) (day : Int) (hB : c.bulk ≤ 1100000) (hBo : w0.heap.size ≤ Bo) (hBD : Bo < D) :
    VisOk w0 D Bo (c.evs [day]) (fun evs W => CRow w0.heap.size Bo (evCs evs) W ∧ w0.heap.size ≤ W.heap.size) 60 40 62 #[] #[.pointer (some ⟨Bo, 0, none⟩)] #[] where
  frame := fun pre W1 W2 h hb => ⟨h.1.frame hb, Nat.le_trans h.2 hb.size⟩
  own := fun pre W h => h.1.own
  box := fun pre W h => h.1.box
  ee := enters_of Tryz.func60 (by kernel_rfl) rfl
  ec := enters_of Tryz.func40 (by kernel_rfl) rfl
  ep := enters_of Tryz.func62 (by kernel_rfl) rfl
  expr := fun pre x s ds v W h hbW hDW hs hxb hdl hdv hp => by
    have e1 : evCs (pre ++ [.expr x ds]) = evCs pre := by rw [evCs_append]; simp [evCs, evChs]
    rw [e1]
    exact (silent1_any x s v W W (hs.frame hbW)).mono fun e W' ⟨he, hw⟩ => ⟨he, ⟨h.1.frame hw, Nat.le_trans h.2 hw.size⟩, KeptO.of_below hbW.size h.1.box hw⟩
  choice := fun pre p n ds v W h hbW hDW hdl hdv hp => by
    have hlen := (Con.found_lenM c day 1100000 (by omega) hB hp).2.1
    have e1 : evCs (pre ++ [.choice p n ds]) = evCs pre ++ ds.map fun d => (p, n, d) := by rw [evCs_append]; simp [evCs, evChs]
    rw [e1] at hlen ⊢
    exact (dead_any w0 D Bo (evCs pre) p n ds v W hBo hBD hlen h.1 hbW hdv).mono fun e W' ⟨he, h1, h2⟩ => ⟨he, ⟨h1, Nat.le_trans h.2 h2.below.size⟩, h2⟩
  pay := fun pre ds v W h hbW hDW hdl hdv hp => by
    have e1 : evCs (pre ++ [.pay ds]) = evCs pre := by rw [evCs_append]; simp [evCs, evChs]
    rw [e1]
    exact (silent3_any v W).mono fun e W' ⟨he, hw⟩ => ⟨he, hw ▸ h, hw ▸ KeptO.refl W⟩

/-- What Deadlines answers. -/
noncomputable def dErr (c : Con) (day : Int) : Int := fewErr (visErr c day) (uniq chxLt (evCs (visEvs c day))).length
noncomputable def dSet (c : Con) (day : Int) : List ChP := if dErr c day = 0 then uniq chxLt (evCs (visEvs c day)) else []

set_option maxHeartbeats 4000000 in
set_option maxRecDepth 100000 in
theorem deadlines_any (c : Con) (es dd ss : Value) (day : Int) (W : World) (hB : c.bulk ≤ 1100000) (hr : RdN W c es dd ss) (hS : LookS W) (hP : LookP W) :
    Calls Tryz.prog 11 #[c.val es dd ss, .int .i64 day] W fun e W' => ∃ v, e = .returned (.tuple #[v, .int .i64 (dErr c day)]) ∧
      W'.ownsRow W.heap.size 60 4 v (dSet c day).length ((dSet c day).flatMap cxCells) ∧ Below W.heap.size W W' := by
  obtain ⟨ad, cap, rfl⟩ := hr.2.2.1.len
  obtain ⟨ad1, cap1, rfl⟩ := hr.1.len
  obtain ⟨ad2, cap2, rfl⟩ := hr.2.1.len
  have hV := dead_vis W (W.heap.size + 1 + 1) (W.heap.size + 1) c day hB (by omega) (by omega)
  have HVis := Lib.hid fun (W2 : World) => visit_any W (W.heap.size + 1 + 1) (W.heap.size + 1) c _ _ _ day _ _ _ _ _ _ _ hV W2 (by omega) hr hS hP
  unfold Con.val at HVis ⊢
  clear hr hS hP hV
  go_enter Tryz.func11, Tryz.ntmps11
  go_wp2_with fail
  refine (silent_any _).mono ?_
  rintro e w1 ⟨rfl, hb1⟩
  have hz1 := hb1.size
  simp only [World.size_alloc] at hz1
  have hl0 : W.heap.size < w1.heap.size := by omega
  have hb2 := below_a2 W (.cells #[.int .u8 c.k, .string c.fr, .string c.rc, .string c.nm, .int .u8 c.ex.k, .string c.ex.ra, .string c.ex.nm, .int .i64 c.ex.d, .slice ad1 c.ex.sub.length cap1, .int .i64 c.d, .slice ad2 c.ds.length cap2, .slice ad c.sub.length cap] 29) (.cells #[.slice none 0 0] 38)
  obtain ⟨c0, c1, c2, c3, c4, c5, c6, c7, c8, c9, c10, c11⟩ := ((CBox.new W c (.slice ad1 c.ex.sub.length cap1) (.slice ad2 c.ds.length cap2) (.slice ad c.sub.length cap) 29).low (below_a1 _ (.cells #[.slice none 0 0] 38))).low hb1
  have hrow0 : CRow W.heap.size (W.heap.size + 1) [] ((W.alloc (.cells #[.int .u8 c.k, .string c.fr, .string c.rc, .string c.nm, .int .u8 c.ex.k, .string c.ex.ra, .string c.ex.nm, .int .i64 c.ex.d, .slice ad1 c.ex.sub.length cap1, .int .i64 c.d, .slice ad2 c.ds.length cap2, .slice ad c.sub.length cap] 29)).alloc (.cells #[.slice none 0 0] 38)) :=
    ⟨.slice none 0 0, by have := Boxed.new (W.alloc (.cells #[.int .u8 c.k, .string c.fr, .string c.rc, .string c.nm, .int .u8 c.ex.k, .string c.ex.ra, .string c.ex.nm, .int .i64 c.ex.d, .slice ad1 c.ex.sub.length cap1, .int .i64 c.d, .slice ad2 c.ds.length cap2, .slice ad c.sub.length cap] 29)) 38 (.slice none 0 0); rwa [World.size_alloc] at this, World.ownsRow_nil _ _ _ _⟩
  have hb3 := below_a1 w1 (.cells #[.func (.func 60) #[] #[], .func (.func 40) #[] #[.pointer (some ⟨W.heap.size + 1, 0, none⟩)], .func (.func 62) #[] #[]] 80)
  have hrow3 := (hrow0.frame hb1).frame hb3
  have hbA := (hb2.trans (hb1.mono (by simp; omega))).trans (hb3.mono (by omega))
  have HBA := Lib.hid hbA
  have HV := Lib.hid (HVis.out _ hbA (by rw [World.size_alloc]; omega) ⟨hrow3, by rw [World.size_alloc]; omega⟩)
  clear hb1 hb2 hb3 hrow0 hrow3 hbA hz1 HVis
  go_wp2_with fail
  refine HV.out.mono ?_
  rintro e w3 ⟨rfl, hJ, hk⟩
  obtain ⟨⟨v, hbv, hown⟩, hz3⟩ := hJ
  have hlen : (evCs (visEvs c day)).length ≤ 4000000000000 := Nat.le_trans (Con.found_lenM c day 1100000 (by omega) hB (visEvs_prefix c day)).2.1 (by omega)
  have hcv := hbv.cell
  have hbF : Below W.heap.size W w3 := HBA.out.trans hk.below
  have HC := Lib.hid fun (w4 : World) (hb : Below w3.drew.heap.size w3.drew w4) => (hb.cell (p := ⟨W.heap.size + 1, 0, none⟩) hbv.lt).trans hcv
  have HO := Lib.hid fun (w4 : World) (hb : Below w3.drew.heap.size w3.drew w4) => (ownsRow_below' (hown.drew) hb)
  have HZ := Lib.hid fun (w4 : World) (hb : Below w3.drew.heap.size w3.drew w4) => Nat.le_trans hz3 hb.size
  have HB := Lib.hid fun (w4 : World) (hb : Below w3.drew.heap.size w3.drew w4) => hbF.drew.trans (hb.mono hz3)
  have HL := Lib.hid hlen
  obtain ⟨LN, hLN⟩ : ∃ LN, evCs (visEvs c day) = LN := ⟨_, rfl⟩
  obtain ⟨ve, hve⟩ : ∃ ve, visErr c day = ve := ⟨_, rfl⟩
  have HE : Hid (dErr c day = fewErr ve (uniq chxLt LN).length ∧ dSet c day = if fewErr ve (uniq chxLt LN).length = 0 then uniq chxLt LN else []) := Lib.hid (by
    unfold dSet
    have : dErr c day = fewErr ve (uniq chxLt LN).length := by unfold dErr; rw [hLN, hve]
    rw [this, hLN]
    exact ⟨rfl, rfl⟩)
  rw [hLN] at HL HO
  rw [hve]
  clear hbv hown hk hz3 hlen hbF hLN hve HV HBA
  go_wp2_with fail
  go_region_with (first
    | (go_at_call 43; refine (cxOrder_any _).mono ?_; rintro e w4 ⟨rfl, hb4⟩; have hc4 := HC.out w4 hb4; have ho4 := HO.out w4 hb4)
    | (go_at_call 42; refine (uniqC_any W.heap.size LN _ _ ho4 HL.out (HZ.out _ hb4)).mono ?_; rintro e w5 ⟨v5, rfl, h5, hb5⟩; obtain ⟨adU, capU, rfl⟩ := ownsRow_shape h5)
    | (go_at_call 41; refine (fewC_any _ _ _ _ _).mono ?_; rintro e w6 ⟨rfl, rfl⟩))
  all_goals
    go_wp2
    go_ret2
    rw [HE.out.1, HE.out.2]
    refine ⟨_, rfl, ?_, (HB.out _ hb4).trans hb5⟩
    by_cases hf : fewErr ve (uniq chxLt LN).length = 0
    · rw [if_pos hf, fewV_ok hf]; exact h5
    · rw [if_neg hf, fewV_err hf]; exact World.ownsRow_nil _ _ _ _
end Go.Proofs.YtflddbgadkndlaaGreatDoor

namespace Go.Proofs.YtflddbgadkndlaaGreatDoor
open Go.RowKit

def bE : ByteArray := ⟨#[]⟩
def bX : ByteArray := ⟨#[88]⟩
def bY : ByteArray := ⟨#[89]⟩
def bAnn : ByteArray := ⟨#[65, 110, 110]⟩
def bBob : ByteArray := ⟨#[66, 111, 98]⟩
def bUSD : ByteArray := ⟨#[85, 83, 68]⟩
def bc : ByteArray := ⟨#[99]⟩
def exZ : Ex := .mk 0 bE bE 0 []
def fX : Ex := .mk 2 bE bX 5 []
def fY : Ex := .mk 2 bE bY 9 []
def xAdd : Ex := .mk 4 bE bE 0 [fX, fY]
def payC : Con := .mk 2 bAnn bBob bUSD xAdd 0 [] []
def atC : Con := .mk 6 bE bE bE exZ 5 [] [payC]
def zeroC : Con := .mk 1 bE bE bE exZ 0 [] []
def callC : Con := .mk 8 bAnn bE bc exZ 0 [1, 3, 7] [zeroC]

theorem fX_sort : fX.sort = 1 := by
  rw [fX, Ex.sort]
  have h : leafOk 2 bE bX 5 0 := ⟨rfl, .inr (.inl ⟨rfl, rfl, by decide, by decide⟩)⟩
  simp [sortOf, shapeOf, leafSort, Ex.sorts, h]
theorem fY_sort : fY.sort = 1 := by
  rw [fY, Ex.sort]
  have h : leafOk 2 bE bY 9 0 := ⟨rfl, .inr (.inl ⟨rfl, rfl, by decide, by decide⟩)⟩
  simp [sortOf, shapeOf, leafSort, Ex.sorts, h]
theorem xAdd_sort : xAdd.sort = 1 := by
  rw [xAdd, Ex.sort]
  simp [sortOf, shapeOf, partSort, Ex.sorts, fX_sort, fY_sort, bE, ByteArray.size]
theorem xAdd_isA : xAdd.isA 1 = true := by
  have h1 : ¬ (500 < xAdd.size ∨ 60 < xAdd.depth) := by decide
  have h2 : xAdd.err = 0 := by rw [Ex.err, if_neg h1, xAdd_sort, if_neg (by decide)]
  simp [Ex.isA, h2, xAdd_sort]
theorem payC_ok : nodeOk payC = true := by
  have e : nodeOk payC = (decide (payC.sub.length = 0) && (isNm (bl payC.fr) && (isNm (bl payC.rc) && (!decide (payC.fr = payC.rc) && (isNm (bl payC.nm) && (xAdd.isA 1 && (decide (payC.d = 0) && decide (payC.ds.length = 0)))))))) := by
    unfold nodeOk; rw [if_neg (by decide), if_pos (by decide)]; rfl
  rw [e, xAdd_isA]; decide
theorem atC_ok : nodeOk atC = true := by unfold nodeOk; rw [if_neg (by decide), if_neg (by decide), if_neg (by decide), if_neg (by decide), if_neg (by decide), if_pos (by decide)]; decide
theorem zeroC_ok : nodeOk zeroC = true := by unfold nodeOk; rw [if_pos (by decide)]; decide
theorem callC_ok : nodeOk callC = true := by unfold nodeOk; rw [if_neg (by decide), if_neg (by decide), if_neg (by decide), if_neg (by decide), if_neg (by decide), if_neg (by decide), if_neg (by decide), if_pos (by decide)]; decide
theorem atC_err : atC.err = 0 := by
  have h1 : ¬ (500 < atC.size ∨ 60 < atC.depth) := by decide
  have h2 : atC.formed = true := by
    have h3 : payC.formed = true := by rw [payC, Con.formed, ← payC, payC_ok]; rfl
    rw [atC, Con.formed, ← atC, atC_ok, Con.formeds, h3]; rfl
  rw [Con.err, if_neg h1, if_pos h2]
theorem callC_err : callC.err = 0 := by
  have h1 : ¬ (500 < callC.size ∨ 60 < callC.depth) := by decide
  have h2 : callC.formed = true := by
    have h3 : zeroC.formed = true := by rw [zeroC, Con.formed, ← zeroC, zeroC_ok]; rfl
    rw [callC, Con.formed, ← callC, callC_ok, Con.formeds, h3]; rfl
  rw [Con.err, if_neg h1, if_pos h2]
theorem atC_vis : visErr atC 2 = 0 := by unfold visErr; rw [if_pos atC_err, if_pos (by decide)]
theorem callC_vis : visErr callC 2 = 0 := by unfold visErr; rw [if_pos callC_err, if_pos (by decide)]
theorem atC_evs : visEvs atC 2 = [.pay [5], .expr xAdd [5]] := by
  unfold visEvs; rw [if_pos atC_vis]; rfl
theorem callC_evs : visEvs callC 2 = [.choice bAnn bc [3, 7]] := by
  unfold visEvs; rw [if_pos callC_vis]; rfl
/-- A list that is in order is what unique makes of it. -/
theorem uniq_fix {α : Type} [DecidableEq α] {lt : α → α → Bool} (h : STO lt) {l : List α} (hl : Srt lt l) : uniq lt l = l := srt_ext h (uniq_srt h l) hl fun z => uniq_mem lt l z
theorem atC_ns : evNs (visEvs atC 2) = [(bX, 5), (bY, 9)] := by rw [atC_evs]; rfl
theorem atC_ds : evDs (visEvs atC 2) = [5] := by rw [atC_evs]; rfl
theorem callC_cs : evCs (visEvs callC 2) = [(bAnn, bc, 3), (bAnn, bc, 7)] := by rw [callC_evs]; rfl
theorem atC_uniq : uniq ndLt [(bX, 5), (bY, 9)] = [(bX, 5), (bY, 9)] := uniq_fix nd_sto (by unfold Srt; simp; decide)
theorem atC_nErr : nErr atC 2 = 0 := by unfold nErr; rw [atC_vis, atC_ns, atC_uniq]; rfl
theorem atC_nSet : nSet atC 2 = [(bX, 5), (bY, 9)] := by unfold nSet; rw [if_pos atC_nErr, atC_ns, atC_uniq]
theorem atC_ySet : ySet atC 2 = [5] := by unfold ySet; rw [if_pos atC_vis, atC_ds]; exact uniq_fix day_sto (by unfold Srt; simp)
theorem callC_uniq : uniq chxLt [(bAnn, bc, (3 : Int)), (bAnn, bc, 7)] = [(bAnn, bc, 3), (bAnn, bc, 7)] := uniq_fix chx_sto (by unfold Srt; simp; decide)
theorem callC_dErr : dErr callC 2 = 0 := by unfold dErr; rw [callC_vis, callC_cs, callC_uniq]; rfl
theorem callC_dSet : dSet callC 2 = [(bAnn, bc, 3), (bAnn, bc, 7)] := by unfold dSet; rw [if_pos callC_dErr, callC_cs, callC_uniq]
theorem atC_caus : causErr atC 2 = 34 := by unfold causErr; rw [if_pos atC_vis, atC_evs]; rfl
theorem callC_caus : causErr callC 2 = 0 := by unfold causErr; rw [if_pos callC_vis, callC_evs]; rfl
end Go.Proofs.YtflddbgadkndlaaGreatDoor

namespace Go.Proofs.YtflddbgadkndlaaGreatDoor
open Go.RowKit

set_option maxRecDepth 100000 in
theorem fix_any (n : ByteArray) (d : Int) (w : World) : Calls Tryz.prog 24 #[.string n, .int .i64 d] w fun e w' => e = .returned (.agg #[.int .u8 2, .string ⟨#[]⟩, .string n, .int .i64 d, .slice none 0 0]) ∧ Below w.heap.size w w' := by
  go_enter Tryz.func24, Tryz.ntmps24
  go_wp2
  refine bodyPost_ret (v := .agg #[.int .u8 2, .string ⟨#[]⟩, .string n, .int .i64 d, .slice none 0 0]) (by simp [results, Tryz.results24, go_sem]) rfl ?_
  exact ⟨rfl, below_a1 _ _⟩

set_option maxRecDepth 100000 in
theorem pay_any (k : Int) (r n : ByteArray) (d : Int) (ad : Option Addr) (m cap : Nat) (w : World) : Calls Tryz.prog 25 #[.agg #[.int .u8 k, .string r, .string n, .int .i64 d, .slice ad m cap]] w fun e w' =>
    e = .returned (.agg #[.int .u8 2, .string ⟨#[65, 110, 110]⟩, .string ⟨#[66, 111, 98]⟩, .string ⟨#[85, 83, 68]⟩, .int .u8 k, .string r, .string n, .int .i64 d, .slice ad m cap, .int .i64 0, .slice none 0 0, .slice none 0 0]) ∧ Below w.heap.size w w' := by
  go_enter Tryz.func25, Tryz.ntmps25
  go_wp2
  refine bodyPost_ret (v := .agg #[.int .u8 2, .string ⟨#[65, 110, 110]⟩, .string ⟨#[66, 111, 98]⟩, .string ⟨#[85, 83, 68]⟩, .int .u8 k, .string r, .string n, .int .i64 d, .slice ad m cap, .int .i64 0, .slice none 0 0, .slice none 0 0]) (by simp [results, Tryz.results25, go_sem]) rfl ?_
  exact ⟨rfl, below_a2 _ _ _⟩
end Go.Proofs.YtflddbgadkndlaaGreatDoor

namespace Go.Proofs.YtflddbgadkndlaaGreatDoor
open Go.RowKit

/-- A list of needs that can be read. -/
def RdNd (w : World) (l : List NdP) (v : Value) : Prop := ∃ ad cap, v = .slice ad l.length cap ∧ ∀ k x, l[k]? = some x → ∃ b off, ad = some ⟨b, off, none⟩ ∧ w.cell? ⟨b, off + k * 2, none⟩ = some (.string x.1) ∧ w.cell? ⟨b, off + k * 2 + 1, none⟩ = some (.int .i64 x.2)
theorem RdNd.low {w w' : World} {l : List NdP} {v : Value} (h : RdNd w l v) (hb : Below w.heap.size w w') : RdNd w' l v := by
  obtain ⟨ad, cap, rfl, h⟩ := h
  refine ⟨ad, cap, rfl, fun k x hk => ?_⟩
  obtain ⟨b, off, e, h0, h1⟩ := h k x hk
  have hl : b < w.heap.size := World.block_lt_of_cell? w _ h0
  exact ⟨b, off, e, by rw [hb.cell (p := ⟨b, off + k * 2, none⟩) hl]; exact h0, by rw [hb.cell (p := ⟨b, off + k * 2 + 1, none⟩) hl]; exact h1⟩
theorem RdNd.own {w : World} {base : Nat} {l : List NdP} {v : Value} (h : w.ownsRow base 58 2 v l.length (l.flatMap ndCells)) : RdNd w l v := by
  rcases h.2 with ⟨rfl, h0⟩ | ⟨g, cap, cur, rfl, _⟩
  · refine ⟨none, 0, by rw [h0], fun k x hk => ?_⟩
    rw [List.eq_nil_of_length_eq_zero h0] at hk
    simp at hk
  · refine ⟨_, cap, rfl, fun k x hk => ⟨g, 0, rfl, ?_⟩⟩
    have hfl := flat_length ndCells 2 nd_len l
    have hkl := (List.getElem?_eq_some_iff.1 hk).1
    have h0 := flat_at nd_len hk 0 _ rfl
    have h1 := flat_at nd_len hk 1 _ rfl
    refine ⟨?_, ?_⟩
    · rw [Nat.zero_add, h.cellAt (k * 2) (by omega)]; exact h0
    · rw [Nat.zero_add, h.cellAt (k * 2 + 1) (by omega)]; exact h1

theorem same_step {α : Type} {a b : List α} {k : Nat} (h : ∀ j, j < k → a[j]? = b[j]?) (hk : a[k]? = b[k]?) : ∀ j, j < k + 1 → a[j]? = b[j]? := by
  intro j hj
  rcases Nat.lt_or_ge j k with h1 | h1
  · exact h j h1
  · have : j = k := by omega
    rw [this]; exact hk

set_option maxHeartbeats 4000000 in
set_option maxRecDepth 100000 in
theorem sameNeeds_any (a b : List NdP) (va vb : Value) (W : World) (ha : RdNd W a va) (hb : RdNd W b vb) (hla : a.length ≤ 4000000000000) (hlb : b.length ≤ 4000000000000) :
    Calls Tryz.prog 15 #[va, vb] W fun e W' => e = .returned (.bool (decide (a = b))) ∧ Below W.heap.size W W' := by
  obtain ⟨ad, cap, rfl, hra⟩ := ha
  obtain ⟨bd, bcap, rfl, hrb⟩ := hb
  obtain ⟨n, hn⟩ : ∃ n, a.length = n := ⟨_, rfl⟩
  obtain ⟨m, hm⟩ : ∃ m, b.length = m := ⟨_, rfl⟩
  have Hn := Lib.hid hn
  have Hm := Lib.hid hm
  have HA := Lib.hid hra
  have HB := Lib.hid hrb
  rw [hn] at hla ⊢
  rw [hm] at hlb ⊢
  clear hra hrb hn hm
  by_cases hnm : n = m
  · subst hnm
    obtain ⟨r, hr⟩ : ∃ r, decide (a = b) = r := ⟨_, rfl⟩
    have HR := Lib.hid hr
    rw [hr]
    clear hr
    go_enter Tryz.func15, Tryz.ntmps15
    go_wp2
    go_loopw [5] (fun i wr => ∃ k : Nat, k ≤ n ∧ i = .int .i64 (k : Int) ∧ Hid (∀ j, j < k → a[j]? = b[j]?) ∧ ∃ q, wr = W.drewN q) (fun i _ => n - (intOf i).toNat)
    case atStart => exact ⟨0, Nat.zero_le _, rfl, Lib.hid fun j hj => absurd hj (Nat.not_lt_zero _), 0, rfl⟩
    case round =>
      obtain ⟨k, hk, rfl, Hc, q, rfl⟩ := hrel
      by_cases hlt : k < n
      · obtain ⟨x, hx⟩ : ∃ x, a[k]? = some x := ⟨_, List.getElem?_eq_getElem (by rw [Hn.out]; exact hlt)⟩
        obtain ⟨y, hy⟩ : ∃ y, b[k]? = some y := ⟨_, List.getElem?_eq_getElem (by rw [Hm.out]; exact hlt)⟩
        obtain ⟨xn, xd⟩ := x
        obtain ⟨yn, yd⟩ := y
        obtain ⟨ba, oa, rfl, x0, x1⟩ := HA.out k _ hx
        obtain ⟨bb, ob, rfl, y0, y1⟩ := HB.out k _ hy
        have HX := Lib.hid hx
        have HY := Lib.hid hy
        have Hxy := Lib.hid (toList_beq xn yn)
        have hl0 : (k : Int) < (n : Int) := by omega
        clear hx hy
        go_wp2_with fail
        cases t1 : (xn.toList == yn.toList) with
        | false =>
          have HF : Hid (false = r) := Lib.hid (by
            rw [← HR.out, eq_comm, decide_eq_false_iff_not]
            rintro rfl
            rw [Hxy.out, decide_eq_false_iff_not] at t1
            have h := HX.out.symm.trans HY.out
            exact t1 (Prod.mk.inj (Option.some.inj h)).1)
          go_quiet (fail)
          go_wp2
          go_ret
          exact ⟨ret_bool' HF.out, below_drewN (below_drewN (Below.refl _ _) _) _⟩
        | true =>
          by_cases t2 : xd = yd
          · have HE : Hid (a[k]? = b[k]?) := Lib.hid (by rw [HX.out, HY.out]; rw [Hxy.out, decide_eq_true_eq] at t1; rw [t1, t2])
            go_quiet (fail)
            go_wp2
            go_roundw
            case rel => exact ⟨k + 1, by omega, by go_num, Lib.hid (same_step Hc.out HE.out), _, rfl⟩
            case measure => simp [intOf]; omega
          · have HF : Hid (false = r) := Lib.hid (by
              rw [← HR.out, eq_comm, decide_eq_false_iff_not]
              rintro rfl
              have h := HX.out.symm.trans HY.out
              exact t2 (Prod.mk.inj (Option.some.inj h)).2)
            go_quiet (fail)
            go_wp2
            go_ret
            exact ⟨ret_bool' HF.out, below_drewN (below_drewN (Below.refl _ _) _) _⟩
      · have HF : Hid (true = r) := Lib.hid (by
          rw [← HR.out, eq_comm, decide_eq_true_eq]
          apply List.ext_getElem?
          intro j
          rcases Nat.lt_or_ge j k with h | h
          · exact Hc.out j h
          · rw [List.getElem?_eq_none (by rw [Hn.out]; omega), List.getElem?_eq_none (by rw [Hm.out]; omega)])
        go_wp2
        go_ret
        exact ⟨ret_bool' HF.out, below_drewN (Below.refl _ _) _⟩
  · have HF : Hid (false = decide (a = b)) := Lib.hid (by
      rw [eq_comm, decide_eq_false_iff_not]
      rintro rfl
      exact hnm (Hn.out.symm.trans Hm.out))
    go_enter Tryz.func15, Tryz.ntmps15
    go_wp2
    go_ret
    exact ⟨ret_bool' HF.out, Below.refl _ _⟩
end Go.Proofs.YtflddbgadkndlaaGreatDoor

namespace Go.Proofs.YtflddbgadkndlaaGreatDoor
open Go.RowKit

/-- A list that can be read. -/
def RdCx (w : World) (l : List ChP) (v : Value) : Prop := ∃ ad cap, v = .slice ad l.length cap ∧ ∀ k x, l[k]? = some x → ∃ b off, ad = some ⟨b, off, none⟩ ∧ w.cell? ⟨b, off + k * 4, none⟩ = some (.string x.1) ∧ w.cell? ⟨b, off + k * 4 + 1, none⟩ = some (.string x.2.1) ∧ w.cell? ⟨b, off + k * 4 + 2, none⟩ = some (.int .i64 x.2.2) ∧ w.cell? ⟨b, off + k * 4 + 3, none⟩ = some (.bool false)
theorem RdCx.low {w w' : World} {l : List ChP} {v : Value} (h : RdCx w l v) (hb : Below w.heap.size w w') : RdCx w' l v := by
  obtain ⟨ad, cap, rfl, h⟩ := h
  refine ⟨ad, cap, rfl, fun k x hk => ?_⟩
  obtain ⟨b, off, e, h0, h1, h2, h3⟩ := h k x hk
  have hl : b < w.heap.size := World.block_lt_of_cell? w _ h0
  exact ⟨b, off, e, by rw [hb.cell (p := ⟨b, off + k * 4, none⟩) hl]; exact h0, by rw [hb.cell (p := ⟨b, off + k * 4 + 1, none⟩) hl]; exact h1, by rw [hb.cell (p := ⟨b, off + k * 4 + 2, none⟩) hl]; exact h2, by rw [hb.cell (p := ⟨b, off + k * 4 + 3, none⟩) hl]; exact h3⟩
theorem RdCx.own {w : World} {base : Nat} {l : List ChP} {v : Value} (h : w.ownsRow base 60 4 v l.length (l.flatMap cxCells)) : RdCx w l v := by
  rcases h.2 with ⟨rfl, h0⟩ | ⟨g, cap, cur, rfl, _⟩
  · refine ⟨none, 0, by rw [h0], fun k x hk => ?_⟩
    rw [List.eq_nil_of_length_eq_zero h0] at hk
    simp at hk
  · refine ⟨_, cap, rfl, fun k x hk => ⟨g, 0, rfl, ?_⟩⟩
    have hfl := flat_length cxCells 4 cxCells_len l
    have hkl := (List.getElem?_eq_some_iff.1 hk).1
    have h0 := flat_at cxCells_len hk 0 _ rfl
    have h1 := flat_at cxCells_len hk 1 _ rfl
    have h2 := flat_at cxCells_len hk 2 _ rfl
    have h3 := flat_at cxCells_len hk 3 _ rfl
    refine ⟨?_, ?_, ?_, ?_⟩
    · rw [Nat.zero_add, h.cellAt (k * 4) (by omega)]; exact h0
    · rw [Nat.zero_add, h.cellAt (k * 4 + 1) (by omega)]; exact h1
    · rw [Nat.zero_add, h.cellAt (k * 4 + 2) (by omega)]; exact h2
    · rw [Nat.zero_add, h.cellAt (k * 4 + 3) (by omega)]; exact h3

set_option maxHeartbeats 4000000 in
set_option maxRecDepth 100000 in
theorem sameChoices_any (a b : List ChP) (va vb : Value) (W : World) (ha : RdCx W a va) (hb : RdCx W b vb) (hla : a.length ≤ 4000000000000) (hlb : b.length ≤ 4000000000000) :
    Calls Tryz.prog 16 #[va, vb] W fun e W' => e = .returned (.bool (decide (a = b))) ∧ Below W.heap.size W W' := by
  obtain ⟨ad, cap, rfl, hra⟩ := ha
  obtain ⟨bd, bcap, rfl, hrb⟩ := hb
  obtain ⟨n, hn⟩ : ∃ n, a.length = n := ⟨_, rfl⟩
  obtain ⟨m, hm⟩ : ∃ m, b.length = m := ⟨_, rfl⟩
  have Hn := Lib.hid hn
  have Hm := Lib.hid hm
  have HA := Lib.hid hra
  have HB := Lib.hid hrb
  rw [hn] at hla ⊢
  rw [hm] at hlb ⊢
  clear hra hrb hn hm
  by_cases hnm : n = m
  · subst hnm
    obtain ⟨r, hr⟩ : ∃ r, decide (a = b) = r := ⟨_, rfl⟩
    have HR := Lib.hid hr
    rw [hr]
    clear hr
    go_enter Tryz.func16, Tryz.ntmps16
    go_wp2
    go_loopw [5] (fun i wr => ∃ k : Nat, k ≤ n ∧ i = .int .i64 (k : Int) ∧ Hid (∀ j, j < k → a[j]? = b[j]?) ∧ ∃ q, wr = W.drewN q) (fun i _ => n - (intOf i).toNat)
    case atStart => exact ⟨0, Nat.zero_le _, rfl, Lib.hid fun j hj => absurd hj (Nat.not_lt_zero _), 0, rfl⟩
    case round =>
      obtain ⟨k, hk, rfl, Hc, q, rfl⟩ := hrel
      by_cases hlt : k < n
      · obtain ⟨x, hx⟩ : ∃ x, a[k]? = some x := ⟨_, List.getElem?_eq_getElem (by rw [Hn.out]; exact hlt)⟩
        obtain ⟨y, hy⟩ : ∃ y, b[k]? = some y := ⟨_, List.getElem?_eq_getElem (by rw [Hm.out]; exact hlt)⟩
        obtain ⟨xp, xn, xd⟩ := x
        obtain ⟨yp, yn, yd⟩ := y
        obtain ⟨ba, oa, rfl, x0, x1, x2, x3⟩ := HA.out k _ hx
        obtain ⟨bb, ob, rfl, y0, y1, y2, y3⟩ := HB.out k _ hy
        have HX := Lib.hid hx
        have HY := Lib.hid hy
        have hl0 : (k : Int) < (n : Int) := by omega
        clear hx hy
        go_wp2_with fail
        have HT0 := Lib.hid (toList_beq xp yp)
        cases t0 : (xp.toList == yp.toList) with
        | false =>
          have HF : Hid (false = r) := Lib.hid (by
            rw [← HR.out, eq_comm, decide_eq_false_iff_not]
            rintro rfl
            rw [HT0.out, decide_eq_false_iff_not] at t0
            have e := Option.some.inj (HX.out.symm.trans HY.out)
            exact t0 ((Prod.mk.inj e).1))
          go_quiet (fail)
          go_wp2
          go_ret
          exact ⟨ret_bool' HF.out, below_drewN (below_drewN (Below.refl _ _) _) _⟩
        | true =>
          have HT1 := Lib.hid (toList_beq xn yn)
          cases t1 : (xn.toList == yn.toList) with
          | false =>
            have HF : Hid (false = r) := Lib.hid (by
              rw [← HR.out, eq_comm, decide_eq_false_iff_not]
              rintro rfl
              rw [HT1.out, decide_eq_false_iff_not] at t1
              have e := Option.some.inj (HX.out.symm.trans HY.out)
              exact t1 ((Prod.mk.inj (Prod.mk.inj e).2).1))
            go_quiet (fail)
            go_wp2
            go_ret
            exact ⟨ret_bool' HF.out, below_drewN (below_drewN (Below.refl _ _) _) _⟩
          | true =>
            by_cases t2 : xd = yd
            · have HE : Hid (a[k]? = b[k]?) := Lib.hid (by rw [HX.out, HY.out]; rw [HT0.out, decide_eq_true_eq] at t0; rw [HT1.out, decide_eq_true_eq] at t1; rw [t0, t1, t2])
              go_quiet (fail)
              go_wp2
              go_roundw
              case rel => exact ⟨k + 1, by omega, by go_num, Lib.hid (same_step Hc.out HE.out), _, rfl⟩
              case measure => simp [intOf]; omega
            · have HF : Hid (false = r) := Lib.hid (by
                rw [← HR.out, eq_comm, decide_eq_false_iff_not]
                rintro rfl
                skip
                have e := Option.some.inj (HX.out.symm.trans HY.out)
                exact t2 ((Prod.mk.inj (Prod.mk.inj e).2).2))
              go_quiet (fail)
              go_wp2
              go_ret
              exact ⟨ret_bool' HF.out, below_drewN (below_drewN (Below.refl _ _) _) _⟩
      · have HF : Hid (true = r) := Lib.hid (by
          rw [← HR.out, eq_comm, decide_eq_true_eq]
          apply List.ext_getElem?
          intro j
          rcases Nat.lt_or_ge j k with h | h
          · exact Hc.out j h
          · rw [List.getElem?_eq_none (by rw [Hn.out]; omega), List.getElem?_eq_none (by rw [Hm.out]; omega)])
        go_wp2
        go_ret
        exact ⟨ret_bool' HF.out, below_drewN (Below.refl _ _) _⟩
  · have HF : Hid (false = decide (a = b)) := Lib.hid (by
      rw [eq_comm, decide_eq_false_iff_not]
      rintro rfl
      exact hnm (Hn.out.symm.trans Hm.out))
    go_enter Tryz.func16, Tryz.ntmps16
    go_wp2
    go_ret
    exact ⟨ret_bool' HF.out, Below.refl _ _⟩
end Go.Proofs.YtflddbgadkndlaaGreatDoor

namespace Go.Proofs.YtflddbgadkndlaaGreatDoor
open Go.RowKit

/-- A list that can be read. -/
def RdDy (w : World) (l : List Int) (v : Value) : Prop := ∃ ad cap, v = .slice ad l.length cap ∧ ∀ k x, l[k]? = some x → ∃ b off, ad = some ⟨b, off, none⟩ ∧ w.cell? ⟨b, off + k, none⟩ = some (.int .i64 x)
theorem RdDy.low {w w' : World} {l : List Int} {v : Value} (h : RdDy w l v) (hb : Below w.heap.size w w') : RdDy w' l v := by
  obtain ⟨ad, cap, rfl, h⟩ := h
  refine ⟨ad, cap, rfl, fun k x hk => ?_⟩
  obtain ⟨b, off, e, h0⟩ := h k x hk
  have hl : b < w.heap.size := World.block_lt_of_cell? w _ h0
  exact ⟨b, off, e, by rw [hb.cell (p := ⟨b, off + k, none⟩) hl]; exact h0⟩
theorem RdDy.own {w : World} {base : Nat} {l : List Int} {v : Value} (h : w.ownsRow base 3 1 v l.length (l.flatMap dyCells)) : RdDy w l v := by
  rcases h.2 with ⟨rfl, h0⟩ | ⟨g, cap, cur, rfl, _⟩
  · refine ⟨none, 0, by rw [h0], fun k x hk => ?_⟩
    rw [List.eq_nil_of_length_eq_zero h0] at hk
    simp at hk
  · refine ⟨_, cap, rfl, fun k x hk => ⟨g, 0, rfl, ?_⟩⟩
    have hfl := flat_length dyCells 1 dyCells_len l
    have hkl := (List.getElem?_eq_some_iff.1 hk).1
    have h0 := flat_at dyCells_len hk 0 _ rfl
    simp only [Nat.mul_one, Nat.add_zero] at h0
    rw [Nat.zero_add, h.cellAt k (by omega)]; exact h0

set_option maxHeartbeats 4000000 in
set_option maxRecDepth 100000 in
theorem sameDays_any (a b : List Int) (va vb : Value) (W : World) (ha : RdDy W a va) (hb : RdDy W b vb) (hla : a.length ≤ 4000000000000) (hlb : b.length ≤ 4000000000000) :
    Calls Tryz.prog 17 #[va, vb] W fun e W' => e = .returned (.bool (decide (a = b))) ∧ Below W.heap.size W W' := by
  obtain ⟨ad, cap, rfl, hra⟩ := ha
  obtain ⟨bd, bcap, rfl, hrb⟩ := hb
  obtain ⟨n, hn⟩ : ∃ n, a.length = n := ⟨_, rfl⟩
  obtain ⟨m, hm⟩ : ∃ m, b.length = m := ⟨_, rfl⟩
  have Hn := Lib.hid hn
  have Hm := Lib.hid hm
  have HA := Lib.hid hra
  have HB := Lib.hid hrb
  rw [hn] at hla ⊢
  rw [hm] at hlb ⊢
  clear hra hrb hn hm
  by_cases hnm : n = m
  · subst hnm
    obtain ⟨r, hr⟩ : ∃ r, decide (a = b) = r := ⟨_, rfl⟩
    have HR := Lib.hid hr
    rw [hr]
    clear hr
    go_enter Tryz.func17, Tryz.ntmps17
    go_wp2
    go_loopw [5] (fun i wr => ∃ k : Nat, k ≤ n ∧ i = .int .i64 (k : Int) ∧ Hid (∀ j, j < k → a[j]? = b[j]?) ∧ ∃ q, wr = W.drewN q) (fun i _ => n - (intOf i).toNat)
    case atStart => exact ⟨0, Nat.zero_le _, rfl, Lib.hid fun j hj => absurd hj (Nat.not_lt_zero _), 0, rfl⟩
    case round =>
      obtain ⟨k, hk, rfl, Hc, q, rfl⟩ := hrel
      by_cases hlt : k < n
      · obtain ⟨x, hx⟩ : ∃ x, a[k]? = some x := ⟨_, List.getElem?_eq_getElem (by rw [Hn.out]; exact hlt)⟩
        obtain ⟨y, hy⟩ : ∃ y, b[k]? = some y := ⟨_, List.getElem?_eq_getElem (by rw [Hm.out]; exact hlt)⟩
        have ⟨xd, hxd⟩ : ∃ xd, x = xd := ⟨_, rfl⟩
        have ⟨yd, hyd⟩ : ∃ yd, y = yd := ⟨_, rfl⟩
        rw [hxd] at hx
        rw [hyd] at hy
        clear hxd hyd
        obtain ⟨ba, oa, rfl, x0⟩ := HA.out k _ hx
        obtain ⟨bb, ob, rfl, y0⟩ := HB.out k _ hy
        have HX := Lib.hid hx
        have HY := Lib.hid hy
        have hl0 : (k : Int) < (n : Int) := by omega
        clear hx hy
        go_wp2_with fail
        by_cases t0 : xd = yd
        · have HE : Hid (a[k]? = b[k]?) := Lib.hid (by rw [HX.out, HY.out]; rw [t0])
          go_quiet (fail)
          go_wp2
          go_roundw
          case rel => exact ⟨k + 1, by omega, by go_num, Lib.hid (same_step Hc.out HE.out), _, rfl⟩
          case measure => simp [intOf]; omega
        · have HF : Hid (false = r) := Lib.hid (by
            rw [← HR.out, eq_comm, decide_eq_false_iff_not]
            rintro rfl
            skip
            have e := Option.some.inj (HX.out.symm.trans HY.out)
            exact t0 (e))
          go_quiet (fail)
          go_wp2
          go_ret
          exact ⟨ret_bool' HF.out, below_drewN (below_drewN (Below.refl _ _) _) _⟩
      · have HF : Hid (true = r) := Lib.hid (by
          rw [← HR.out, eq_comm, decide_eq_true_eq]
          apply List.ext_getElem?
          intro j
          rcases Nat.lt_or_ge j k with h | h
          · exact Hc.out j h
          · rw [List.getElem?_eq_none (by rw [Hn.out]; omega), List.getElem?_eq_none (by rw [Hm.out]; omega)])
        go_wp2
        go_ret
        exact ⟨ret_bool' HF.out, below_drewN (Below.refl _ _) _⟩
  · have HF : Hid (false = decide (a = b)) := Lib.hid (by
      rw [eq_comm, decide_eq_false_iff_not]
      rintro rfl
      exact hnm (Hn.out.symm.trans Hm.out))
    go_enter Tryz.func17, Tryz.ntmps17
    go_wp2
    go_ret
    exact ⟨ret_bool' HF.out, Below.refl _ _⟩
end Go.Proofs.YtflddbgadkndlaaGreatDoor
