/-
  Law 15's order: which days a valid contract's parts have: plain. novationlaw15.CausalOrder. CausalOrder: what causal.Needs, Deadlines and Days answer is in order and without repetitions, and no day of payment and no open choice is before the day, for every contract and day that together hold at most 1048576 values and letters; the arguments read afterwards as before; the tables contract.parts and observable.shapes as the program's text lays them.
-/
import Derived.Test.YtflddbgadkndlaaGreatDoorC26
import Derived.Test.YtflddbgadkndlaaGreatDoorC27
import Derived.Test.YtflddbgadkndlaaGreatDoorC28
import Derived.Deep.CutBlock
import Derived.Test.YtflddbgadkndlaaGreatDoorCards
import Derived.Test.YtflddbgadkndlaaGreatDoorTie
import Derived.WalkKit
import Derived.ProofKit
import Derived.OpenShut
import Derived.Deep.DeepHandedRow
import Derived.Deep.DeepWitnessRowRef
import Derived.LaidMore
namespace Go.Proofs.YtflddbgadkndlaaGreatDoor
open Go.RowKit

/-- The dates of the fixings in an expression are days. -/
def fixOk (y : Ex) : Prop := y.k = 2 → isDay y.d = true
theorem shapeOf_pos {k : Nat} {ps : List Nat} {own : Nat} (h : shapeOf k = some (ps, own)) : k ≠ 2 ∧ ∀ p ∈ ps, p ≠ 0 := by
  unfold shapeOf at h
  repeat' split at h
  all_goals first
    | (cases h; done)
    | (cases h; refine ⟨by omega, by simp⟩)
mutual
theorem Ex.fixes : ∀ x : Ex, x.sort ≠ 0 → ∀ y ∈ x.nodes, fixOk y
  | .mk k r n d l, h, y, hy => by
    rw [Ex.sort, sortOf] at h
    rw [Ex.nodes] at hy
    split at h
    · have hl : leafOk k r n d (Ex.sorts l).length := by
        refine Classical.byContradiction fun hn => h ?_
        unfold leafSort; rw [if_neg hn]
      obtain ⟨h0, h1⟩ := hl
      rw [Ex.sorts_length] at h0
      have hl0 : l = [] := List.eq_nil_of_length_eq_zero h0
      subst hl0
      rcases List.mem_cons.1 hy with rfl | hy
      · intro hk
        have hk2 : k = 2 := hk
        rcases h1 with ⟨e, _⟩ | ⟨_, _, _, e⟩ | ⟨e, _⟩
        · omega
        · exact e
        · omega
      · rw [Ex.nodess] at hy; cases hy
    · next ps own hs =>
      obtain ⟨hk, hp⟩ := shapeOf_pos hs
      have hl : Ex.sorts l = ps := by
        refine Classical.byContradiction fun hn => h ?_
        unfold partSort; rw [if_neg (fun e => hn e.2.2.2)]
      rcases List.mem_cons.1 hy with rfl | hy
      · exact fun e => absurd e hk
      · exact Ex.fixess l (fun p hm => hp p (hl ▸ hm)) y hy
theorem Ex.fixess : ∀ l : List Ex, (∀ p ∈ Ex.sorts l, p ≠ 0) → ∀ y ∈ Ex.nodess l, fixOk y
  | [], _, _, hy => by rw [Ex.nodess] at hy; cases hy
  | x :: l, h, y, hy => by
    rw [Ex.nodess] at hy
    rw [Ex.sorts] at h
    rcases List.mem_append.1 hy with hy | hy
    · exact Ex.fixes x (h _ (List.mem_cons_self ..)) y hy
    · exact Ex.fixess l (fun p hm => h p (List.mem_cons_of_mem _ hm)) y hy
end
theorem Ex.isA_fixes {x : Ex} {t : Nat} (h : x.isA t = true) : ∀ y ∈ x.nodes, fixOk y := by
  refine x.fixes fun h0 => ?_
  unfold Ex.isA Ex.err at h
  simp only [Bool.and_eq_true, decide_eq_true_eq] at h
  have := h.1
  rw [if_pos h0] at this
  split at this <;> omega

/-- A day that may be found. -/
def DayOk (day d : Int) : Prop := day ≤ d ∧ isDay d = true
def evOk (day : Int) : Ev → Prop
  | .expr x ds => (∀ d ∈ ds, DayOk day d) ∧ ∀ y ∈ x.nodes, fixOk y
  | .choice _ _ ds => ∀ d ∈ ds, DayOk day d
  | .pay ds => ∀ d ∈ ds, DayOk day d
theorem isDays_all {l : List Int} (h : isDays l = true) : ∀ d ∈ l, isDay d = true := by
  unfold isDays at h
  simp only [Bool.and_eq_true, List.all_eq_true] at h
  exact h.2.2.1
theorem later_ok {day d0 : Int} {l : List Int} (hl : ∀ d ∈ l, isDay d = true) (h0 : day ≤ d0) : ∀ d ∈ laterD l d0, DayOk day d := by
  intro d hd
  unfold laterD at hd
  rw [List.mem_filter, decide_eq_true_eq] at hd
  exact ⟨by omega, hl d hd.1⟩
theorem headEv_ok {day : Int} (c : Con) (hn : nodeOk c = true) (d0 : Int) (ds : List Int) (hd : ∀ d ∈ ds, DayOk day d) (h0 : day ≤ d0) : ∀ e ∈ headEv c ds d0, evOk day e := by
  intro e he
  unfold headEv at he
  unfold nodeOk at hn
  by_cases k2 : c.k = 2
  · rw [if_pos k2] at he
    rw [if_neg (by omega), if_pos k2] at hn
    simp only [Bool.and_eq_true] at hn
    have hx := Ex.isA_fixes hn.2.2.2.2.2.1
    simp at he
    rcases he with rfl | rfl
    · exact hd
    · exact ⟨hd, hx⟩
  · rw [if_neg k2] at he
    by_cases k45 : c.k = 4 ∨ c.k = 5
    · rw [if_pos k45] at he
      simp at he
      subst he
      refine ⟨hd, ?_⟩
      rcases k45 with k | k
      · rw [if_neg (by omega), if_neg (by omega), if_neg (by omega), if_pos k] at hn
        simp only [Bool.and_eq_true] at hn
        exact Ex.isA_fixes hn.2.2.2.2.2.2
      · rw [if_neg (by omega), if_neg (by omega), if_neg (by omega), if_neg (by omega), if_pos k] at hn
        simp only [Bool.and_eq_true] at hn
        exact Ex.isA_fixes hn.2.2.2.2.2.2
    · rw [if_neg k45] at he
      by_cases k7 : c.k = 7
      · rw [if_pos k7] at he
        simp at he
        subst he
        exact hd
      · rw [if_neg k7] at he
        by_cases k8 : c.k = 8
        · rw [if_pos k8] at he
          rw [if_neg (by omega), if_neg (by omega), if_neg (by omega), if_neg (by omega), if_neg (by omega), if_neg (by omega), if_neg (by omega), if_pos k8] at hn
          simp only [Bool.and_eq_true] at hn
          simp at he
          subst he
          exact later_ok (isDays_all hn.2.2.2.2.2.1) h0
        · rw [if_neg k8] at he
          by_cases k9 : c.k = 9 ∨ c.k = 10
          · rw [if_pos k9] at he
            rw [if_neg (by omega), if_neg (by omega), if_neg (by omega), if_neg (by omega), if_neg (by omega), if_neg (by omega), if_neg (by omega), if_neg (by omega), if_pos k9] at hn
            simp only [Bool.and_eq_true] at hn
            simp at he
            subst he
            exact ⟨later_ok (isDays_all hn.2.2.2.2.2.1) h0, Ex.isA_fixes hn.2.2.2.2.2.2⟩
          · rw [if_neg k9] at he; cases he
theorem innerD_ok {day : Int} (c : Con) (hn : nodeOk c = true) (d0 : Int) (ds : List Int) (hd : ∀ d ∈ ds, DayOk day d) (h0 : day ≤ d0) : ∀ d ∈ innerD c ds d0, DayOk day d := by
  unfold innerD
  unfold nodeOk at hn
  by_cases k6 : c.k = 6
  · rw [if_pos k6]
    rw [if_neg (by omega), if_neg (by omega), if_neg (by omega), if_neg (by omega), if_neg (by omega), if_pos k6] at hn
    simp only [Bool.and_eq_true] at hn
    split
    · intro d hm
      rw [List.mem_singleton] at hm
      subst hm
      exact ⟨by omega, hn.2.2.2.2.1⟩
    · intro d hm; cases hm
  · rw [if_neg k6]
    split
    · next h =>
      rcases h with k | k
      · rw [if_neg (by omega), if_neg (by omega), if_neg (by omega), if_neg (by omega), if_neg (by omega), if_neg (by omega), if_neg (by omega), if_pos k] at hn
        simp only [Bool.and_eq_true] at hn
        exact later_ok (isDays_all hn.2.2.2.2.2.1) h0
      · rw [if_neg (by omega), if_neg (by omega), if_neg (by omega), if_neg (by omega), if_neg (by omega), if_neg (by omega), if_neg (by omega), if_neg (by omega), if_pos (.inr k)] at hn
        simp only [Bool.and_eq_true] at hn
        exact later_ok (isDays_all hn.2.2.2.2.2.1) h0
    · exact hd
mutual
theorem Con.evs_ok (day : Int) : ∀ (c : Con) (ds : List Int), c.formed = true → (∀ d ∈ ds, DayOk day d) → ∀ e ∈ c.evs ds, evOk day e
  | .mk k f t n x d dd s, [], _, _, e, he => by rw [Con.evs_nil] at he; cases he
  | .mk k f t n x d dd s, d0 :: r, hf, hd, e, he => by
    rw [Con.formed, Bool.and_eq_true] at hf
    have h0 : day ≤ d0 := (hd d0 (List.mem_cons_self ..)).1
    rw [Con.evs_cons] at he
    rcases List.mem_append.1 he with he | he
    · exact headEv_ok _ hf.1 d0 _ hd h0 e he
    · exact Con.evss_ok day s _ hf.2 (innerD_ok _ hf.1 d0 _ hd h0) e he
theorem Con.evss_ok (day : Int) : ∀ (s : List Con) (ds : List Int), Con.formeds s = true → (∀ d ∈ ds, DayOk day d) → ∀ e ∈ Con.evss s ds, evOk day e
  | [], _, _, _, _, he => by rw [Con.evss] at he; cases he
  | c :: s, ds, hf, hd, e, he => by
    rw [Con.formeds, Bool.and_eq_true] at hf
    rw [Con.evss] at he
    rcases List.mem_append.1 he with he | he
    · exact Con.evs_ok day c ds hf.1 hd e he
    · exact Con.evss_ok day s ds hf.2 hd e he
end
/-- A valid contract's events. -/
theorem visEvs_ok (c : Con) (day : Int) (h : visErr c day = 0) : ∀ e ∈ visEvs c day, evOk day e := by
  have hE : c.err = 0 := by
    unfold visErr at h
    by_cases e : c.err = 0
    · exact e
    · rw [if_neg e] at h; exact absurd h e
  have hd : isDay day = true := by
    unfold visErr at h
    rw [if_pos hE] at h
    by_cases e : isDay day = true
    · exact e
    · rw [if_neg e] at h; omega
  have hf : c.formed = true := by
    unfold Con.err at hE
    split at hE
    · omega
    · by_cases e : c.formed = true
      · exact e
      · rw [if_neg e] at hE; omega
  unfold visEvs
  rw [if_pos h]
  exact Con.evs_ok day c [day] hf fun d hm => by rw [List.mem_singleton] at hm; subst hm; exact ⟨by omega, hd⟩
theorem evDs_ok {day : Int} {l : List Ev} (h : ∀ e ∈ l, evOk day e) : ∀ d ∈ evDs l, DayOk day d := by
  intro d hd
  obtain ⟨e, he, hm⟩ := List.mem_flatMap.1 hd
  cases e with
  | expr x ds => cases hm
  | choice p n ds => cases hm
  | pay ds => exact h _ he d hm
theorem evCs_ok {day : Int} {l : List Ev} (h : ∀ e ∈ l, evOk day e) : ∀ x ∈ evCs l, DayOk day x.2.2 := by
  intro x hx
  obtain ⟨e, he, hm⟩ := List.mem_flatMap.1 hx
  cases e with
  | expr x ds => cases hm
  | pay ds => cases hm
  | choice p n ds =>
    obtain ⟨d, hd, rfl⟩ := List.mem_map.1 hm
    exact h _ he d hd
theorem evNs_ok {day : Int} {l : List Ev} (h : ∀ e ∈ l, evOk day e) : ∀ x ∈ evNs l, isDay x.2 = true := by
  intro x hx
  obtain ⟨e, he, hm⟩ := List.mem_flatMap.1 hx
  cases e with
  | choice p n ds => cases hm
  | pay ds => cases hm
  | expr y ds =>
    obtain ⟨h1, h2⟩ := h _ he
    obtain ⟨z, hz, hm⟩ := List.mem_flatMap.1 hm
    unfold xNeed at hm
    split at hm
    · cases hm
    · split at hm
      · next hk => rw [List.mem_singleton] at hm; subst hm; exact h2 z hz hk
      · split at hm
        · obtain ⟨d, hd, rfl⟩ := List.mem_map.1 hm
          exact (h1 d hd).2
        · cases hm
end Go.Proofs.YtflddbgadkndlaaGreatDoor

namespace Go.Proofs.YtflddbgadkndlaaGreatDoor
open Go.RowKit

theorem uniq_len {α : Type} [DecidableEq α] (lt : α → α → Bool) (l : List α) : (uniq lt l).length ≤ l.length := by
  rw [uniq]; exact Nat.le_trans (cmpct_len _) (by rw [List.length_mergeSort]; exact Nat.le_refl _)
theorem srt_adj {α : Type} {lt : α → α → Bool} {L : List α} (h : Srt lt L) {k : Nat} (hk : 1 ≤ k) {x y : α} (hx : L[k - 1]? = some x) (hy : L[k]? = some y) : lt x y = true := by
  obtain ⟨h1, e1⟩ := List.getElem?_eq_some_iff.1 hx
  obtain ⟨h2, e2⟩ := List.getElem?_eq_some_iff.1 hy
  rw [← e1, ← e2]
  exact List.pairwise_iff_getElem.1 h (k - 1) k h1 h2 (by omega)

theorem bytesLess_asym {a b : ByteArray} (h : slt a b = true) : slt b a = false := by
  cases h2 : slt b a with
  | false => rfl
  | true => have := slt_trans h h2; rw [slt_irrefl] at this; cases this
theorem nd_tests {yn xn : ByteArray} {yd xd : Int} (h : ndLt (yn, yd) (xn, xd) = true) : ((yn.toList == xn.toList) = false → Op.bytesLess yn.toList xn.toList = true) ∧ ((yn.toList == xn.toList) = true → decide (xd ≤ yd) = false) := by
  rw [toList_beq]
  simp only [ndLt, fxLt, Bool.or_eq_true, Bool.and_eq_true, decide_eq_true_eq] at h
  rw [toList_bl, toList_bl]
  rcases h with h | ⟨rfl, h⟩
  · exact ⟨fun _ => h, fun e => by rw [decide_eq_true_eq] at e; subst e; rw [slt_irrefl] at h; cases h⟩
  · exact ⟨fun e => by simp at e, fun _ => by rw [decide_eq_false_iff_not]; omega⟩
/-- The tests of two neighbours among the choices. -/
theorem ch_tests {yp yn xp xn : ByteArray} {yd xd : Int} (h : chxLt (yp, yn, yd) (xp, xn, xd) = true) :
    ((yp.toList == xp.toList) = false → Op.bytesLess yp.toList xp.toList = true) ∧ ((yp.toList == xp.toList) = true → ((yn.toList == xn.toList) = false → Op.bytesLess yn.toList xn.toList = true) ∧ ((yn.toList == xn.toList) = true → decide (xd ≤ yd) = false)) := by
  rw [toList_beq]
  have h' : (if yp = xp then ndLt (yn, yd) (xn, xd) else slt yp xp) = true := h
  by_cases e : yp = xp
  · rw [if_pos e] at h'
    exact ⟨fun f => by rw [decide_eq_false_iff_not] at f; exact absurd e f, fun _ => nd_tests h'⟩
  · rw [if_neg e] at h'
    exact ⟨fun _ => by rw [toList_bl, toList_bl]; exact h', fun f => by rw [decide_eq_true_eq] at f; exact absurd f e⟩

set_option maxHeartbeats 8000000 in
set_option maxRecDepth 100000 in
theorem order_any (c : Con) (es dd ss : Value) (day : Int) (W : World) (hB : c.bulk ≤ 1100000) (hr : RdN W c es dd ss) (hS : LookS W) (hP : LookP W) :
    Calls Tryz.prog 5 #[c.val es dd ss, .int .i64 day] W fun e W' => e = .returned (.bool true) ∧ Below W.heap.size W W' := by
  obtain ⟨ad, cap, rfl⟩ := hr.2.2.1.len
  obtain ⟨ad1, cap1, rfl⟩ := hr.1.len
  obtain ⟨ad2, cap2, rfl⟩ := hr.2.1.len
  have hb0 := below_a1 W (.cells #[.int .u8 c.k, .string c.fr, .string c.rc, .string c.nm, .int .u8 c.ex.k, .string c.ex.ra, .string c.ex.nm, .int .i64 c.ex.d, .slice ad1 c.ex.sub.length cap1, .int .i64 c.d, .slice ad2 c.ds.length cap2, .slice ad c.sub.length cap] 29)
  have hbx := CBox.new W c (.slice ad1 c.ex.sub.length cap1) (.slice ad2 c.ds.length cap2) (.slice ad c.sub.length cap) 29
  have HAl := Lib.hid (alive_any _ (hS.frame hb0) (hP.frame hb0))
  have HG := Lib.hid fun (V : World) (h : Below W.heap.size W V) => cgreat_any c _ _ _ V (by omega) (hr.frame h)
  have HN := Lib.hid fun (V : World) (h : Below W.heap.size W V) => needs_any c _ _ _ day V (by omega) (hr.frame h) (hS.frame h) (hP.frame h)
  have HD := Lib.hid fun (V : World) (h : Below W.heap.size W V) => deadlines_any c _ _ _ day V hB (hr.frame h) (hS.frame h) (hP.frame h)
  have HY := Lib.hid fun (V : World) (h : Below W.heap.size W V) => causalDays_any c _ _ _ day V (by omega) (hr.frame h) (hS.frame h) (hP.frame h)
  unfold Con.val at HG HN HD HY ⊢
  clear hr hS hP
  go_enter Tryz.func5, Tryz.ntmps5
  go_wp2_with fail
  refine HAl.out.mono ?_
  rintro e w1 ⟨rfl, hb1⟩
  have hw1 := hb0.trans (hb1.mono (by simp))
  have HX1 := Lib.hid (hbx.low hb1)
  obtain ⟨c0, c1, c2, c3, c4, c5, c6, c7, c8, c9, c10, c11⟩ := HX1.out
  clear hbx hb0 hb1 HAl
  go_wp2_with fail
  refine (HG.out _ hw1).mono ?_
  rintro e w2 ⟨⟨gr, rfl⟩, hb2⟩
  have hw2 := hw1.trans (hb2.mono hw1.size)
  have HX2 := Lib.hid (HX1.out.low hb2)
  clear c0 c1 c2 c3 c4 c5 c6 c7 c8 c9 c10 c11
  cases gr with
  | true =>
    go_wp2_with fail
    go_ret
    exact ⟨ret_bool' rfl, hw2⟩
  | false =>
    obtain ⟨c0, c1, c2, c3, c4, c5, c6, c7, c8, c9, c10, c11⟩ := HX2.out
    go_wp2_with fail
    refine (HN.out _ hw2).mono ?_
    rintro e w3 ⟨vn, rfl, hn3, hb3⟩
    have hw3 := hw2.trans (hb3.mono hw2.size)
    have HX3 := Lib.hid (HX2.out.low hb3)
    clear c0 c1 c2 c3 c4 c5 c6 c7 c8 c9 c10 c11
    obtain ⟨c0, c1, c2, c3, c4, c5, c6, c7, c8, c9, c10, c11⟩ := HX3.out
    obtain ⟨an, capn, rfl⟩ := ownsRow_shape hn3
    have Hn3 := Lib.hid (RdNd.own hn3)
    clear hn3
    go_wp2_with fail
    refine (HD.out _ hw3).mono ?_
    rintro e w4 ⟨vd, rfl, hd4, hb4⟩
    have hw4 := hw3.trans (hb4.mono hw3.size)
    have HX4 := Lib.hid (HX3.out.low hb4)
    clear c0 c1 c2 c3 c4 c5 c6 c7 c8 c9 c10 c11
    obtain ⟨c0, c1, c2, c3, c4, c5, c6, c7, c8, c9, c10, c11⟩ := HX4.out
    obtain ⟨av, capv, rfl⟩ := ownsRow_shape hd4
    have Hd4 := Lib.hid (RdCx.own hd4)
    clear hd4
    go_wp2_with fail
    refine (HY.out _ hw4).mono ?_
    rintro e w5 ⟨vy, rfl, hy5, hb5⟩
    have hw5 := hw4.trans (hb5.mono hw4.size)
    obtain ⟨ay, capy, rfl⟩ := ownsRow_shape hy5
    have Hy5 := Lib.hid (RdDy.own hy5)
    have Hn5 := Lib.hid ((Hn3.out.low hb4).low hb5)
    have Hd5 := Lib.hid (Hd4.out.low hb5)
    clear hy5 c0 c1 c2 c3 c4 c5 c6 c7 c8 c9 c10 c11 Hn3 Hd4
    obtain ⟨en, hen⟩ : ∃ en, nErr c day = en := ⟨_, rfl⟩
    obtain ⟨ed, hed⟩ : ∃ ed, dErr c day = ed := ⟨_, rfl⟩
    obtain ⟨ey, hey⟩ : ∃ ey, visErr c day = ey := ⟨_, rfl⟩
    have HE := Lib.hid (And.intro hen (And.intro hed hey))
    rw [hey]
    clear hen hed hey
    by_cases zn : en = 0
    · by_cases zd : ed = 0
      · by_cases zy : ey = 0
        · subst zn zd zy
          obtain ⟨LN, hLN⟩ : ∃ LN, nSet c day = LN := ⟨_, rfl⟩
          obtain ⟨LD, hLD⟩ : ∃ LD, dSet c day = LD := ⟨_, rfl⟩
          obtain ⟨LY, hLY⟩ : ∃ LY, ySet c day = LY := ⟨_, rfl⟩
          rw [hLN] at Hn5
          rw [hLD] at Hd5
          rw [hLY] at Hy5
          rw [HE.out.1, HE.out.2.1, hLN, hLD, hLY]
          have HLy : Hid (Srt dayLt LY ∧ (∀ d ∈ LY, day ≤ d) ∧ LY.length ≤ 4000000000000) := Lib.hid (by
            rw [← hLY]
            unfold ySet
            rw [if_pos HE.out.2.2]
            exact ⟨uniq_srt day_sto _, fun d hd => (evDs_ok (visEvs_ok c day HE.out.2.2) d ((uniq_mem _ _ _).1 hd)).1, Nat.le_trans (uniq_len _ _) (Con.found_len c day (by omega) (visEvs_prefix c day)).2.2⟩)
          have HLn : Hid (Srt ndLt LN ∧ (∀ x ∈ LN, isDay x.2 = true) ∧ LN.length ≤ 4000000000000) := Lib.hid (by
            rw [← hLN]
            unfold nSet
            rw [if_pos HE.out.1]
            exact ⟨uniq_srt nd_sto _, fun d hd => evNs_ok (visEvs_ok c day HE.out.2.2) d ((uniq_mem _ _ _).1 hd), Nat.le_trans (uniq_len _ _) (Con.found_len c day (by omega) (visEvs_prefix c day)).1⟩)
          have HLd : Hid (Srt chxLt LD ∧ (∀ x ∈ LD, DayOk day x.2.2) ∧ LD.length ≤ 4000000000000) := Lib.hid (by
            rw [← hLD]
            unfold dSet
            rw [if_pos HE.out.2.1]
            exact ⟨uniq_srt chx_sto _, fun d hd => evCs_ok (visEvs_ok c day HE.out.2.2) d ((uniq_mem _ _ _).1 hd), Nat.le_trans (uniq_len _ _) (Con.found_len c day (by omega) (visEvs_prefix c day)).2.1⟩)
          clear hLN hLD hLY
          go_upto_block 0 with fail
          go_cut [12] from 55 to 120 (fun _ wc => Below w5.heap.size w5 wc)
          case first =>
            obtain ⟨m, hm⟩ : ∃ m, LN.length = m := ⟨_, rfl⟩
            have Hm := Lib.hid hm
            have hml : m ≤ 4000000000000 := by rw [← hm]; exact HLn.out.2.2
            obtain ⟨adN, cpN, hvN, hrN⟩ := Hn5.out
            obtain ⟨rfl, _, rfl⟩ := Value.slice.inj hvN
            rw [hm]
            have HrN := Lib.hid hrN
            clear hrN hvN hm
            go_wp2_with fail
            go_loopw [12] (fun i wr => ∃ k : Nat, k ≤ m ∧ i = .int .i64 (k : Int) ∧ ∃ q, wr = w5.drewN q) (fun i _ => m - (intOf i).toNat)
            case atStart => exact ⟨0, Nat.zero_le _, rfl, 0, rfl⟩
            case round =>
              obtain ⟨k, hk, rfl, q, rfl⟩ := hrel
              by_cases hlt : k < m
              · obtain ⟨x, hx⟩ : ∃ x, LN[k]? = some x := ⟨_, List.getElem?_eq_getElem (by rw [Hm.out]; exact hlt)⟩
                obtain ⟨xn, xd⟩ := x
                obtain ⟨b, off, rfl, cx0, cx1⟩ := HrN.out k _ hx
                have hl0 : (k : Int) < (m : Int) := by omega
                have hday := HLn.out.2.1 _ (List.mem_of_getElem? hx)
                have g1 : decide (xd < 0) = false := by
                  rw [decide_eq_false_iff_not]; unfold isDay at hday; simp at hday; omega
                have g2 : decide ((99999 : Int) < xd) = false := by
                  rw [decide_eq_false_iff_not]; unfold isDay at hday; simp at hday; omega
                clear hday
                by_cases hk0 : k = 0
                · subst hk0
                  clear hx
                  rw [Nat.zero_mul, Nat.add_zero] at cx0 cx1
                  go_wp2_with fail
                  go_quiet (fail)
                  go_wp2
                  go_roundw
                  case rel => exact ⟨1, by omega, by go_num, _, rfl⟩
                  case measure => simp [intOf]; omega
                · obtain ⟨y, hy⟩ : ∃ y, LN[k - 1]? = some y := ⟨_, List.getElem?_eq_getElem (by rw [Hm.out]; omega)⟩
                  obtain ⟨yn, yd⟩ := y
                  obtain ⟨b2, off2, e2, cy0, cy1⟩ := HrN.out (k - 1) _ hy
                  cases e2
                  have g3 : decide ((0 : Int) < (k : Int)) = true := by rw [decide_eq_true_eq]; omega
                  have g4 : 0 < k := by omega
                  have g5 : decide (0 < k) = true := by rw [decide_eq_true_eq]; omega
                  have e1 : IntKind.i64.wrap ((k : Int) - 1) = ((k - 1 : Nat) : Int) := by rw [IntWalk.i64_in _ (by omega)]; omega
                  have hl1 : ((k - 1 : Nat) : Int) < (m : Int) := by omega
                  have hadj := srt_adj HLn.out.1 (by omega) hy hx
                  have HG7 := Lib.hid (nd_tests hadj)
                  clear hx hy hadj
                  cases t1 : (yn.toList == xn.toList) with
                  | false =>
                    have g7 : Op.bytesLess yn.toList xn.toList = true := HG7.out.1 t1
                    go_wp2_with fail
                    go_quiet (fail)
                    go_wp2
                    go_roundw
                    case rel => exact ⟨k + 1, by omega, by go_num, _, rfl⟩
                    case measure => simp [intOf]; omega
                  | true =>
                    have g7 : decide (xd ≤ yd) = false := HG7.out.2 t1
                    go_wp2_with fail
                    go_quiet (fail)
                    go_wp2
                    go_roundw
                    case rel => exact ⟨k + 1, by omega, by go_num, _, rfl⟩
                    case measure => simp [intOf]; omega
              · obtain rfl := Hm.out
                go_wp2
                go_meet
                exact below_drewN (Below.refl _ _) _
          case rest =>
            go_upto_block 2 with fail
            go_cut [13, 14, 15, 16] from 121 to 191 (fun _ _ _ _ wd => Below w5.heap.size w5 wd)
            case first =>
              obtain ⟨m, hm⟩ : ∃ m, LD.length = m := ⟨_, rfl⟩
              have Hm := Lib.hid hm
              have hml : m ≤ 4000000000000 := by rw [← hm]; exact HLd.out.2.2
              obtain ⟨adD, cpD, hvD, hrD⟩ := Hd5.out.low hcut
              obtain ⟨rfl, _, rfl⟩ := Value.slice.inj hvD
              rw [hm]
              have HrD := Lib.hid hrD
              clear hrD hvD hm
              go_wp2_with fail
              go_loopw [13, 14, 15, 16] (fun i _ _ _ wr => ∃ k : Nat, k ≤ m ∧ i = .int .i64 (k : Int) ∧ Below wc.heap.size wc wr) (fun i _ _ _ _ => m - (intOf i).toNat)
              case atStart => exact ⟨0, Nat.zero_le _, rfl, Below.refl _ _⟩
              case round =>
                obtain ⟨k, hk, rfl, hbr⟩ := hrel
                by_cases hlt : k < m
                · obtain ⟨x, hx⟩ : ∃ x, LD[k]? = some x := ⟨_, List.getElem?_eq_getElem (by rw [Hm.out]; exact hlt)⟩
                  obtain ⟨y, hy⟩ : ∃ y, LD[k - 1]? = some y := ⟨_, List.getElem?_eq_getElem (by rw [Hm.out]; omega)⟩
                  obtain ⟨xp, xn, xd⟩ := x
                  obtain ⟨yp, yn, yd⟩ := y
                  obtain ⟨b, off, rfl, x0, x1, x2, x3⟩ := HrD.out k _ hx
                  obtain ⟨b2, off2, e2, y0, y1, y2, y3⟩ := HrD.out (k - 1) _ hy
                  cases e2
                  have HX := Lib.hid hx
                  have HY := Lib.hid hy
                  have hkn : ∀ o u, wc.cell? ⟨b, o, none⟩ = some u → wr.cell? ⟨b, o, none⟩ = some u := fun o u hu => by
                    rw [hbr.cell (p := ⟨b, o, none⟩) (World.block_lt_of_cell? wc _ hu)]; exact hu
                  replace x0 := hkn _ _ x0
                  replace x1 := hkn _ _ x1
                  replace x2 := hkn _ _ x2
                  replace x3 := hkn _ _ x3
                  replace y0 := hkn _ _ y0
                  replace y1 := hkn _ _ y1
                  replace y2 := hkn _ _ y2
                  replace y3 := hkn _ _ y3
                  have hl0 : (k : Int) < (m : Int) := by omega
                  have hl1 : ((k - 1 : Nat) : Int) < (m : Int) := by omega
                  have e1 : IntKind.i64.wrap ((k : Int) - 1) = (k : Int) - 1 := IntWalk.i64_in _ (by omega)
                  have e2 : max ((k : Int) - 1) 0 = ((k - 1 : Nat) : Int) := by omega
                  have hbl : b < wr.heap.size := World.block_lt_of_cell? wr _ x0
                  clear hx hy hkn
                  go_upto_region 17 with fail
                  go_cut [14, 15] from 127 to 136 (fun v14 v15 wd => ∃ B C, v14 = .pointer (some ⟨B, 0, none⟩) ∧ v15 = .pointer (some ⟨C, 0, none⟩) ∧ Below wr.heap.size wr wd ∧
                    (wd.cell? ⟨B, 0, none⟩ = some (.string yp) ∧ wd.cell? ⟨B, 1, none⟩ = some (.string yn) ∧ wd.cell? ⟨B, 2, none⟩ = some (.int .i64 yd)) ∧
                    (wd.cell? ⟨C, 0, none⟩ = some (.string xp) ∧ wd.cell? ⟨C, 1, none⟩ = some (.string xn) ∧ wd.cell? ⟨C, 2, none⟩ = some (.int .i64 xd) ∧ wd.cell? ⟨C, 3, none⟩ = some (.bool false)))
                  case first =>
                    clear HrD HLn HLd HLy Hn5 Hd5 Hy5
                    go_region
                    all_goals go_wp2
                    all_goals go_meet
                    all_goals refine ⟨_, _, rfl, rfl, ?_, ⟨?_, ?_, ?_⟩, ?_, ?_, ?_, ?_⟩
                    all_goals first
                      | exact (below_a2 _ _ _).drew
                      | go_simp
                  case rest =>
                    obtain ⟨B, C, rfl, rfl, hbd, ⟨p0, p1, p2⟩, q0, q1, q2, q3⟩ := hcut
                    have hbr2 := hbr.trans (hbd.mono hbr.size)
                    have g1 : decide (xd < day) = false := by
                      rw [decide_eq_false_iff_not]
                      have := (HLd.out.2.1 _ (List.mem_of_getElem? HX.out)).1
                      have h2 : day ≤ xd := this
                      omega
                    clear x0 x1 x2 x3 y0 y1 y2 y3 hbl hbr hbd e1 e2
                    by_cases hk0 : k = 0
                    · subst hk0
                      have hxy := HX.out.symm.trans HY.out
                      simp only [Option.some.injEq, Prod.mk.injEq] at hxy
                      obtain ⟨rfl, rfl, rfl⟩ := hxy
                      clear HX HY
                      go_wp2
                      go_roundw
                      case rel => exact ⟨1, by omega, by go_num, hbr2⟩
                      case measure => simp [intOf]; omega
                    · have g3 : decide ((0 : Int) < (k : Int)) = true := by rw [decide_eq_true_eq]; omega
                      have g4 : 0 < k := by omega
                      have g5 : decide (0 < k) = true := by rw [decide_eq_true_eq]; omega
                      have HG7 := Lib.hid (ch_tests (srt_adj HLd.out.1 (by omega) HY.out HX.out))
                      clear HX HY
                      cases t1 : (yp.toList == xp.toList) with
                      | false =>
                        have g7 : Op.bytesLess yp.toList xp.toList = true := HG7.out.1 t1
                        go_wp2
                        go_roundw
                        case rel => exact ⟨k + 1, by omega, by go_num, hbr2⟩
                        case measure => simp [intOf]; omega
                      | true =>
                        cases t2 : (yn.toList == xn.toList) with
                        | false =>
                          have g7 : Op.bytesLess yn.toList xn.toList = true := (HG7.out.2 t1).1 t2
                          go_wp2
                          go_roundw
                          case rel => exact ⟨k + 1, by omega, by go_num, hbr2⟩
                          case measure => simp [intOf]; omega
                        | true =>
                          have g7 : decide (xd ≤ yd) = false := (HG7.out.2 t1).2 t2
                          go_wp2
                          go_roundw
                          case rel => exact ⟨k + 1, by omega, by go_num, hbr2⟩
                          case measure => simp [intOf]; omega
                · obtain rfl := Hm.out
                  go_wp2
                  go_meet
                  exact hcut.trans (hbr.mono hcut.size)
            case rest =>
              obtain ⟨m, hm⟩ : ∃ m, LY.length = m := ⟨_, rfl⟩
              have Hm := Lib.hid hm
              have hml : m ≤ 4000000000000 := by rw [← hm]; exact HLy.out.2.2
              have hwd := hw5.trans (hcut.mono hw5.size)
              obtain ⟨adY, cpY, hvY, hrY⟩ := Hy5.out.low hcut
              obtain ⟨rfl, _, rfl⟩ := Value.slice.inj hvY
              rw [hm]
              have HrY := Lib.hid hrY
              clear hrY hvY hm
              go_wp2_with fail
              go_loopw [17] (fun i wr => ∃ k : Nat, k ≤ m ∧ i = .int .i64 (k : Int) ∧ ∃ q, wr = wc.drewN q) (fun i _ => m - (intOf i).toNat)
              case atStart => exact ⟨0, Nat.zero_le _, rfl, 0, rfl⟩
              case round =>
                obtain ⟨k, hk, rfl, q, rfl⟩ := hrel
                by_cases hlt : k < m
                · obtain ⟨x, hx⟩ : ∃ x, LY[k]? = some x := ⟨_, List.getElem?_eq_getElem (by rw [Hm.out]; exact hlt)⟩
                  obtain ⟨b, off, rfl, cx⟩ := HrY.out k x hx
                  have hl0 : (k : Int) < (m : Int) := by omega
                  have g1 : decide (x < day) = false := by
                    rw [decide_eq_false_iff_not]
                    have := HLy.out.2.1 x (List.mem_of_getElem? hx)
                    omega
                  by_cases hk0 : k = 0
                  · subst hk0
                    clear hx
                    rw [Nat.add_zero] at cx
                    go_wp2_with fail
                    go_quiet (fail)
                    go_wp2
                    go_roundw
                    case rel => exact ⟨1, by omega, by go_num, _, rfl⟩
                    case measure => simp [intOf]; omega
                  · obtain ⟨y, hy⟩ : ∃ y, LY[k - 1]? = some y := ⟨_, List.getElem?_eq_getElem (by rw [Hm.out]; omega)⟩
                    obtain ⟨b2, off2, e2, cy⟩ := HrY.out (k - 1) y hy
                    cases e2
                    have g2 : decide ((0 : Int) < (k : Int)) = true := by rw [decide_eq_true_eq]; omega
                    have g4 : 0 < k := by omega
                    have g5 : decide (0 < k) = true := by rw [decide_eq_true_eq]; omega
                    have e1 : IntKind.i64.wrap ((k : Int) - 1) = ((k - 1 : Nat) : Int) := by rw [IntWalk.i64_in _ (by omega)]; omega
                    have hl1 : ((k - 1 : Nat) : Int) < (m : Int) := by omega
                    have g3 : decide (x ≤ y) = false := by
                      rw [decide_eq_false_iff_not]
                      have := srt_adj HLy.out.1 (by omega) hy hx
                      simp [dayLt] at this
                      omega
                    clear hx hy
                    go_wp2_with fail
                    go_quiet (fail)
                    go_wp2
                    go_roundw
                    case rel => exact ⟨k + 1, by omega, by go_num, _, rfl⟩
                    case measure => simp [intOf]; omega
                · go_wp2
                  go_ret
                  exact ⟨ret_bool' rfl, below_drewN hwd _⟩
        · have q1 : (ey == 0) = false := by simp [zy]
          have q2 : (ey != 0) = true := by simp [zy]
          subst zn zd
          rw [HE.out.1, HE.out.2.1]
          clear HE
          go_wp2
          all_goals
            go_ret
            exact ⟨ret_bool' rfl, hw5⟩
      · have q1 : (ed == 0) = false := by simp [zd]
        have q2 : (ed != 0) = true := by simp [zd]
        subst zn
        rw [HE.out.1, HE.out.2.1]
        clear HE
        go_wp2
        all_goals
          go_ret
          exact ⟨ret_bool' rfl, hw5⟩
    · have q1 : (en == 0) = false := by simp [zn]
      have q2 : (en != 0) = true := by simp [zn]
      rw [HE.out.1, HE.out.2.1]
      clear HE
      go_wp2
      all_goals
        go_ret
        exact ⟨ret_bool' rfl, hw5⟩
end Go.Proofs.YtflddbgadkndlaaGreatDoor

namespace Go.Proofs.YtflddbgadkndlaaGreatDoor
open Go.ChangeShapes Go.WideShapes Go.ChangeAt Go.RowKit Go.Joins Go.Deep

theorem own15 : ownKnob Tryz.prog.godebug = none := by kernel_rfl
theorem laidOut15 : laidOutB Tryz.prog = true := by kernel_rfl
set_option maxRecDepth 100000 in
/-- A contract that came in. -/
theorem open_con {H : Type} {enc : TypeId × Value → H} {W : World} {base : Nat} {sp : Nat → Bool} {held : Bool} {v : Value} {d : DataW H} {p : List MemPlace}
    (hv : Value.okWide Tryz.prog W .any base 29 v) (h : DataW.Trod enc Tryz.prog W 0 sp held 29 v d p) :
    ∃ (c : Con) (es dd ss : Value), v = c.val es dd ss ∧ RdN W c es dd ss ∧ c.bulk ≤ Rows.uptoBulk d := by
  obtain ⟨n, h⟩ := h
  obtain ⟨cs, rfl⟩ : ∃ cs, v = .agg cs := by
    unfold Value.okWide at hv
    cases v with
    | agg cs => exact ⟨cs, rfl⟩
    | _ => simp [Tryz.underlying29] at hv
  have hl : (Value.agg cs).cells.toList.length = 12 := by
    obtain ⟨_, _, _, _, hl, _⟩ := DataW.trod_struct Tryz.underlying29 h
    rw [hl]; exact cells_con
  obtain ⟨c, es, dd, ss, hc, hr, hb⟩ := dec_con n _ _ hl h
  refine ⟨c, es, dd, ss, ?_, hr, hb⟩
  have : cs = (c.cells es dd ss).toArray := by
    cases cs
    simp [Value.cells] at hc
    rw [hc]
  rw [this]
  rfl

set_option maxRecDepth 100000 in
theorem contractO (H : Type) (enc : TypeId × Value → H) (W : World) (base : Nat) (args : Array Value) (ds gs : List (DataW H)) (before : List MemPlace)
    (hval : ∀ (j : Nat) t v, Tryz.f5.params[j]? = some t → args[j]? = some v → Value.okWide Tryz.prog W .any base t v)
    (hW : DataW.Whole enc Tryz.prog Tryz.f5.params.toList Rows.causalOrderSpec.vars false W args.toList ds gs before) (hk : Rows.uptoSmall H (ds ++ gs) = true)
    (hL : laidMetH Tryz.prog Rows.causalOrderUptoRow.laid W) :
    Calls Tryz.prog 5 args W fun e W' => ∃ v, e = .returned v ∧ Rows.causalOrderSpec.post enc Tryz.prog Tryz.f5 false true false false W args v W' := by
  have hW' := hW
  obtain ⟨p, q, hA0, hV, rfl, hfz, hnd⟩ := hW
  have hA : DataW.TrodAll enc Tryz.prog W 0 (fun _ => true) true Tryz.f5.params.toList args.toList ds p := hA0
  rw [Tryz.params5] at hA hval
  obtain ⟨v0, vs0, d0, ds0, p0, q0, hargs, rfl, rfl, h0, r0⟩ := trodAll_cons hA
  obtain ⟨v1, vs1, d1, ds1, p1, q1, rfl, rfl, rfl, h1, r1⟩ := trodAll_cons r0
  obtain ⟨rfl, rfl, rfl⟩ := trodAll_nil r1
  obtain rfl : args = #[v0, v1] := by cases args; simp_all
  obtain ⟨rfl, rfl⟩ := trodVars_none hV
  have l0 : ∀ x ∈ p0, x.block < W.heap.size := by obtain ⟨m, hm⟩ := h0; exact DataW.trod_lt m _ _ _ hm
  have hb : Rows.uptoBulkAll [d0, d1] ≤ 1048576 := by
    have h : Rows.uptoBulkAll ([d0, d1] ++ []) ≤ 1048576 := of_decide_eq_true hk
    rw [List.append_nil] at h
    exact h
  have b0 : Rows.uptoBulk d0 ≤ 1048576 := Nat.le_trans (bulk_part (by simp)) hb
  obtain ⟨c, es, dd, ss, rfl, hr, hc⟩ := open_con (hval 0 _ v0 rfl rfl) h0
  obtain ⟨day, rfl, rfl, rfl, w1⟩ := open_int Tryz.underlying3 (hval 1 3 v1 rfl rfl) h1
  obtain ⟨hS, hP⟩ := laid_look hL
  clear hA0
  refine (order_any c es dd ss day W (by omega) hr hS hP).mono fun e W' ⟨he, bel⟩ => ?_
  subst he
  exact ⟨_, rfl, _, _, _, [], _, [], hW', trodAll_mk1 (shut_bool Tryz.underlying4 _),
    trodAll_cons_mk (Below.trod laidOut15 (by kernel_rfl) (of_decide_eq_true (by kernel_rfl)) h0 bel l0) (trodAll_cons_mk (shut_int Tryz.underlying3 w1) trodAll_mk0),
    rfl, bel.frame _, fun h => by cases h⟩

def argO : Array Value := #[.agg #[.int .u8 0, .string ⟨#[]⟩, .string ⟨#[]⟩, .string ⟨#[]⟩, .int .u8 0, .string ⟨#[]⟩, .string ⟨#[]⟩, .int .i64 0, .slice none 0 0, .int .i64 0, .slice none 0 0, .slice none 0 0], .int .i64 0]
theorem metO (os : Os) : laidMetH Tryz.prog Rows.causalOrderUptoRow.laid ((World.doorLaid Tryz.prog 146 os).forCall (fun _ _ => 0) ⟨#[], argO, []⟩).memory :=
  laidMetH_of_parts3 (fuel := 8) (laidMet_of_run' 8 (by kernel_rfl) (by kernel_rfl)) (by kernel_rfl) (by kernel_rfl)
theorem readsO (os : Os) {H : Type} (enc : TypeId × Value → H) : ∃ places, DataW.whole enc Tryz.prog ((World.doorLaid Tryz.prog 146 os).forCall (fun _ _ => 0) ⟨#[], argO, []⟩).memory Tryz.f5.params.toList Rows.causalOrderSpec.vars false argO.toList 8 =
    some ([.agg [.lit (.int .u8 0), .lit (.string []), .lit (.string []), .lit (.string []), .agg [.lit (.int .u8 0), .lit (.string []), .lit (.string []), .lit (.int .i64 0), .nil], .lit (.int .i64 0), .nil, .nil], .lit (.int .i64 0)], [], places) :=
  ⟨[], by kernel_rfl⟩

set_option maxRecDepth 100000 in
theorem liftedO (os : Os) (started : os.Started) (H : Type) (enc : TypeId × Value → H) (F : Stop.Interp) :
    ReturnsInHanded {} Tryz.checked os 5 .any ((Rows.OpenSpec.upto Rows.causalOrderSpec).preRow enc Tryz.prog Tryz.f5 Rows.causalOrderUptoRow.domain false Rows.causalOrderUptoRow.laid) (((Rows.OpenSpec.upto Rows.causalOrderSpec).at F).post enc Tryz.prog Tryz.f5 false true false false) := by
  obtain ⟨places, hx⟩ := readsO os enc
  refine returnsInHanded_of_row (C := Tryz.checked) (s := Rows.OpenSpec.upto Rows.causalOrderSpec) own15 started (by kernel_rfl) Tryz.func5
    (witness_row_atRef (enc := enc) (C := Tryz.checked) false (World.doorLaid Tryz.prog 146 os) argO rfl (by kernel_rfl) (by kernel_rfl) (by kernel_rfl)
      (OpenSpec.preRow_of_cond 8 hx (by kernel_rfl) (fun k hk => by cases hk; kernel_rfl) (by kernel_rfl) (metO os))) ?_
  intro W base args ds gs before hval hW _ hcond _ hL _ _
  exact contractO H enc W base args ds gs before hval hW (hcond _ rfl) hL

theorem causalOrder_upto : Rows.CausalOrderUptoSaid :=
  OpenClaim.holds_of_cond 5 Tryz.f5 rfl rfl rfl rfl rfl rfl rfl ⟨rfl, rfl, rfl, rfl, rfl⟩ rfl rfl rfl rfl rfl (by kernel_rfl) Tryz.func5 (by kernel_rfl)
    (of_decide_eq_true (by kernel_rfl)) (by unfold Func.isWrapper; first | (rw [if_pos (by decide +kernel)]; kernel_rfl) | (rw [if_neg (by decide +kernel)]; exact ⟨rfl, rfl⟩))
    (fun os started H enc _ F => by rw [OpenClaim.pre_eq_preRow]; exact liftedO os started H enc F)

theorem plainO (f : FuncId) (fn : Func) (hf : Tryz.pinned.checked.prog.funcNamed "novation/novationlaw15.CausalOrder" = some f) (hfn : Tryz.pinned.checked.prog.funcs[f]? = some fn) :
    false = Tryz.pinned.checked.prog.looks [] ∧ ∀ (j : Nat) t, fn.params[j]? = some t → Tryz.pinned.checked.prog.wantsStandIn t = false := by
  obtain rfl : f = 5 := Option.some.inj ((show Tryz.prog.funcNamed "novation/novationlaw15.CausalOrder" = some 5 by kernel_rfl).symm.trans hf) |>.symm
  obtain rfl : fn = Tryz.f5 := (Option.some.inj (Tryz.func5.symm.trans hfn)).symm
  refine ⟨by kernel_rfl, fun j t ht => ?_⟩
  rw [Tryz.params5] at ht
  have hm : t ∈ [29, 3] := by simpa using Array.mem_of_getElem? ht
  have hall : ([29, 3].all fun u => !Tryz.prog.wantsStandIn u) = true := by kernel_rfl
  exact (show Tryz.prog.wantsStandIn t = false by simpa using List.all_eq_true.1 hall t hm)
theorem causalOrder_card : Rows.CausalOrderUptoCardSaid :=
  Claim7.holds_tied_plain_at .later [] _ _ _ _ causalOrder_upto (fun _ h => by cases h) (by kernel_rfl) (fun _ h => by cases h) causalOrderUpto_row_tie rfl ⟨rfl, rfl⟩ (by kernel_rfl) rfl plainO (by kernel_rfl)
#print axioms causalOrder_card
end Go.Proofs.YtflddbgadkndlaaGreatDoor
