/-
  causal.unique at days. causal.Days. The closure of causal.Deadlines. slices.Compact at choices (printed by tools/gencmp.py C). causal.unique at choices.
-/
import Derived.Test.YtflddbgadkndlaaGreatDoorC14
import Derived.Test.YtflddbgadkndlaaGreatDoorC24
import Derived.Test.YtflddbgadkndlaaGreatDoorC04
import Derived.Laws.EntriesVeiled
import Derived.Sort.OwnSortedInts
import Derived.Test.YtflddbgadkndlaaGreatDoorC13
import Derived.Test.YtflddbgadkndlaaGreatDoorC06
import Derived.Laws.StructEq
import Derived.IntWalk
namespace Go.Proofs.YtflddbgadkndlaaGreatDoor
open Go.RowKit
open Go.Sort (Holds grow SWO)

theorem cmpI_lt : ltOf cmpI = dayLt := by
  funext x y
  unfold ltOf cmpI dayLt
  by_cases h1 : x < y
  · simp [h1]
  · by_cases h2 : y < x <;> simp [h1, h2]

theorem cmpI_enter : ∀ args w, (callFunc 71 args).run Tryz.prog w = .ok (.enter 71 args) w := enters_of Tryz.func71 (by kernel_rfl) rfl

set_option maxRecDepth 100000 in
theorem sortI_any (base : Nat) (L : List Int) (v : Value) (W : World) (hown : W.ownsRow base 3 1 v L.length (L.flatMap dyCells)) (hlen : L.length ≤ 4000000000000) :
    Calls Tryz.prog 78 #[v, .func (.func 71) #[] #[]] W fun e W' => e = .returned (.tuple #[]) ∧
      W'.ownsRow base 3 1 v L.length ((L.mergeSort fun x y => !dayLt y x).flatMap dyCells) ∧ W.grownBy W' v.ownBlock := by
  rcases hown.2 with ⟨rfl, h0⟩ | ⟨g, cap, cur, rfl, hbg, hh, hn, hc, hs, ht⟩
  · have hL : L = [] := List.eq_nil_of_length_eq_zero h0
    subst hL
    have h := AnyF.slices_SortFunc_none (P := Tryz.prog) (ρ := Tryz.laysInt_ren) { Tryz.laysInt with } none 0 (.func (.func 71) #[] #[]) W
    refine Calls.mono (by exact h) ?_
    rintro e W' ⟨rfl, rfl⟩
    exact ⟨rfl, by simpa using hown, World.grownBy.refl _ _⟩
  · have hblk : g < W.heap.size := (Array.getElem?_eq_some_iff.1 hh).1
    rw [dy_flat, Nat.mul_one] at ht
    have h := Any.slices_SortFunc_total (α := Int) Tryz.laysInt (Value.int .i64) (fun _ => rfl) cmpI (by rw [cmpI_lt]; exact swo_of_sto day_sto) 71 #[] g 0 cap L.toArray W cmpI_enter
      (fun m os dk _ x y => (cmpI_any x y _).mono fun e w' ⟨he, hw⟩ => ⟨he, 0, #[], by rw [← hw]; simp [grow]; rfl⟩) (holds_of_blockI hh ht) hblk (by simp; omega) (by rw [cmpI_lt]; exact fun x y h1 h2 => day_sto.conn x y h1 h2)
    refine Calls.mono (by exact h) ?_
    rintro e W' ⟨rfl, q, os, rfl⟩
    rw [cmpI_lt]
    have h1 := ownsRow_sortedI (n := q) (os := os) (ss := L) (ts := L.mergeSort fun x y => !dayLt y x) (List.length_mergeSort _) hbg hh hn hc hs
    rw [dy_flat]
    exact ⟨rfl, h1, grownBy_sortedI _⟩

/-- The order of days, as a value. -/
def dyOrder : Value := .agg #[.func (.func 71) #[] #[]]

set_option maxHeartbeats 1000000 in
set_option maxRecDepth 100000 in
theorem uniqI_any (base : Nat) (L : List Int) (v : Value) (W : World) (hown : W.ownsRow base 3 1 v L.length (L.flatMap dyCells)) (hlen : L.length ≤ 4000000000000) (hbase : base ≤ W.heap.size) :
    Calls Tryz.prog 45 #[v, dyOrder] W fun e W' => ∃ v', e = .returned v' ∧ W'.ownsRow base 3 1 v' (uniq dayLt L).length ((uniq dayLt L).flatMap dyCells) ∧ Below base W W' := by
  have hb0 := below_a1 W (.cells #[.func (.func 71) #[] #[]] 104)
  have hown1 := ownsRow_below' hown hb0
  have hS := sortI_any base L v _ hown1 hlen
  have Hb0 := Lib.hid hb0
  have Hl := Lib.hid hlen
  obtain ⟨ad, n, cap, hv⟩ : ∃ ad n cap, v = .slice ad n cap := by
    rcases hown.2 with ⟨rfl, h⟩ | ⟨g, cap, cur, rfl, _⟩ <;> exact ⟨_, _, _, rfl⟩
  have HO := Lib.hid hown1
  subst hv
  clear hown hown1 hb0 hlen
  unfold dyOrder
  go_enter Tryz.func45, Tryz.ntmps45
  go_wp2_with (go_at_call 78; refine hS.mono ?_; rintro e w1 ⟨rfl, h1, h2⟩)
  have hml : (L.mergeSort fun x y => !dayLt y x).length = L.length := List.length_mergeSort _
  rw [← hml] at h1
  have hC := compactI_any base _ _ w1 h1 (by rw [hml]; exact Hl.out)
  have hb1 := (Hb0.out.mono hbase).grown h2 (by simp; omega) (fun k e => (HO.out.lt k e).1)
  have hlt1 := fun k e => (h1.lt k e).1
  clear h1 h2
  go_wp2_with (go_at_call 79; refine hC.mono ?_; rintro e w2 ⟨v2, rfl, h3, h4⟩)
  go_ret
  exact ⟨_, rfl, h3, hb1.grown h4 (Nat.le_trans hbase hb1.size) hlt1⟩

set_option maxRecDepth 100000 in
theorem dyOrder_any (W : World) : Calls Tryz.prog 46 #[] W fun e W' => e = .returned dyOrder ∧ Below W.heap.size W W' := by
  go_enter Tryz.func46, Tryz.ntmps46
  go_wp2
  refine bodyPost_ret (v := .agg #[.func (.func 71) #[] #[]]) (by simp [results, Tryz.results46, go_sem]) rfl ?_
  exact ⟨rfl, below_a1 _ _⟩
end Go.Proofs.YtflddbgadkndlaaGreatDoor

namespace Go.Proofs.YtflddbgadkndlaaGreatDoor
open Go.RowKit

theorem headEv_pay (c : Con) (d0 : Int) (r : List Int) (l : List Int) (h : Ev.pay l ∈ headEv c (d0 :: r) d0) : l ≠ [] := by
  unfold headEv at h
  repeat' split at h
  all_goals simp at h
  rw [h]; simp
mutual
theorem Con.evs_pay : ∀ (c : Con) (ds : List Int) (l : List Int), Ev.pay l ∈ c.evs ds → l ≠ []
  | .mk k f t n x d dd s, [], l, he => by rw [Con.evs_nil] at he; cases he
  | .mk k f t n x d dd s, d0 :: r, l, he => by
    rw [Con.evs_cons] at he
    rcases List.mem_append.1 he with he | he
    · exact headEv_pay _ _ _ _ he
    · exact Con.evss_pay s _ l he
theorem Con.evss_pay : ∀ (s : List Con) (ds : List Int) (l : List Int), Ev.pay l ∈ Con.evss s ds → l ≠ []
  | [], _, _, he => by rw [Con.evss] at he; cases he
  | c :: s, ds, l, he => by
    rw [Con.evss] at he
    rcases List.mem_append.1 he with he | he
    · exact Con.evs_pay c ds l he
    · exact Con.evss_pay s ds l he
end

/-- The visitor of Days. -/
theorem days_vis (w0 : World) (D Bo : Nat) (c : Con) (day : Int) (hB : c.bulk ≤ 2000000) (hBo : w0.heap.size ≤ Bo) (hBD : Bo < D) :
    VisOk w0 D Bo (c.evs [day]) (fun evs W => DRow w0.heap.size Bo (evDs evs) W ∧ w0.heap.size ≤ W.heap.size) 60 61 44 #[] #[] #[.pointer (some ⟨Bo, 0, none⟩)] where
  frame := fun pre W1 W2 h hb => ⟨h.1.frame hb, Nat.le_trans h.2 hb.size⟩
  own := fun pre W h => h.1.own
  box := fun pre W h => h.1.box
  ee := enters_of Tryz.func60 (by kernel_rfl) rfl
  ec := enters_of Tryz.func61 (by kernel_rfl) rfl
  ep := enters_of Tryz.func44 (by kernel_rfl) rfl
  expr := fun pre x s ds v W h hbW hDW hs hxb hdl hdv hp => by
    have e1 : evDs (pre ++ [.expr x ds]) = evDs pre := by rw [evDs_append]; simp [evDs, evDays]
    rw [e1]
    exact (silent1_any x s v W W (hs.frame hbW)).mono fun e W' ⟨he, hw⟩ => ⟨he, ⟨h.1.frame hw, Nat.le_trans h.2 hw.size⟩, KeptO.of_below hbW.size h.1.box hw⟩
  choice := fun pre p n ds v W h hbW hDW hdl hdv hp => by
    have e1 : evDs (pre ++ [.choice p n ds]) = evDs pre := by rw [evDs_append]; simp [evDs, evDays]
    rw [e1]
    exact (silent2_any p n v W).mono fun e W' ⟨he, hw⟩ => ⟨he, hw ▸ h, hw ▸ KeptO.refl W⟩
  pay := fun pre ds v W h hbW hDW hdl hdv hp => by
    have hlen := (Con.found_len c day hB hp).2.2
    have hne : ds ≠ [] := Con.evs_pay c [day] ds (by obtain ⟨r, hr⟩ := hp; rw [← hr]; simp)
    have e1 : evDs (pre ++ [.pay ds]) = evDs pre ++ ds := by rw [evDs_append]; simp [evDs, evDays]
    rw [e1] at hlen ⊢
    exact (dayf_any w0 D Bo (evDs pre) ds v W hne hBo hBD hlen h.1 hbW hdv).mono fun e W' ⟨he, h1, h2⟩ => ⟨he, ⟨h1, Nat.le_trans h.2 h2.below.size⟩, h2⟩

/-- What Days answers. -/
noncomputable def ySet (c : Con) (day : Int) : List Int := if visErr c day = 0 then uniq dayLt (evDs (visEvs c day)) else []

set_option maxHeartbeats 4000000 in
set_option maxRecDepth 100000 in
theorem causalDays_any (c : Con) (es dd ss : Value) (day : Int) (W : World) (hB : c.bulk ≤ 2000000) (hr : RdN W c es dd ss) (hS : LookS W) (hP : LookP W) :
    Calls Tryz.prog 13 #[c.val es dd ss, .int .i64 day] W fun e W' => ∃ v, e = .returned (.tuple #[v, .int .i64 (visErr c day)]) ∧
      W'.ownsRow W.heap.size 3 1 v (ySet c day).length ((ySet c day).flatMap dyCells) ∧ Below W.heap.size W W' := by
  obtain ⟨ad, cap, rfl⟩ := hr.2.2.1.len
  obtain ⟨ad1, cap1, rfl⟩ := hr.1.len
  obtain ⟨ad2, cap2, rfl⟩ := hr.2.1.len
  have hV := days_vis W (W.heap.size + 1 + 1) (W.heap.size + 1) c day hB (by omega) (by omega)
  have HVis := Lib.hid fun (W2 : World) => visit_any W (W.heap.size + 1 + 1) (W.heap.size + 1) c _ _ _ day _ _ _ _ _ _ _ hV W2 hB hr hS hP
  unfold Con.val at HVis ⊢
  clear hr hS hP hV
  go_enter Tryz.func13, Tryz.ntmps13
  go_wp2_with fail
  refine (silent_any _).mono ?_
  rintro e w1 ⟨rfl, hb1⟩
  have hz1 := hb1.size
  simp only [World.size_alloc] at hz1
  have hl0 : W.heap.size < w1.heap.size := by omega
  have hb2 := below_a2 W (.cells #[.int .u8 c.k, .string c.fr, .string c.rc, .string c.nm, .int .u8 c.ex.k, .string c.ex.ra, .string c.ex.nm, .int .i64 c.ex.d, .slice ad1 c.ex.sub.length cap1, .int .i64 c.d, .slice ad2 c.ds.length cap2, .slice ad c.sub.length cap] 29) (.cells #[.slice none 0 0] 26)
  obtain ⟨c0, c1, c2, c3, c4, c5, c6, c7, c8, c9, c10, c11⟩ := ((CBox.new W c (.slice ad1 c.ex.sub.length cap1) (.slice ad2 c.ds.length cap2) (.slice ad c.sub.length cap) 29).low (below_a1 _ (.cells #[.slice none 0 0] 26))).low hb1
  have hrow0 : DRow W.heap.size (W.heap.size + 1) [] ((W.alloc (.cells #[.int .u8 c.k, .string c.fr, .string c.rc, .string c.nm, .int .u8 c.ex.k, .string c.ex.ra, .string c.ex.nm, .int .i64 c.ex.d, .slice ad1 c.ex.sub.length cap1, .int .i64 c.d, .slice ad2 c.ds.length cap2, .slice ad c.sub.length cap] 29)).alloc (.cells #[.slice none 0 0] 26)) :=
    ⟨.slice none 0 0, by have := Boxed.new (W.alloc (.cells #[.int .u8 c.k, .string c.fr, .string c.rc, .string c.nm, .int .u8 c.ex.k, .string c.ex.ra, .string c.ex.nm, .int .i64 c.ex.d, .slice ad1 c.ex.sub.length cap1, .int .i64 c.d, .slice ad2 c.ds.length cap2, .slice ad c.sub.length cap] 29)) 26 (.slice none 0 0); rwa [World.size_alloc] at this, World.ownsRow_nil _ _ _ _⟩
  have hb3 := below_a1 w1 (.cells #[.func (.func 60) #[] #[], .func (.func 61) #[] #[], .func (.func 44) #[] #[.pointer (some ⟨W.heap.size + 1, 0, none⟩)]] 80)
  have hrow3 := (hrow0.frame hb1).frame hb3
  have hbA := (hb2.trans (hb1.mono (by simp; omega))).trans (hb3.mono (by omega))
  have HBA := Lib.hid hbA
  have HV := Lib.hid (HVis.out _ hbA (by rw [World.size_alloc]; omega) ⟨hrow3, by rw [World.size_alloc]; omega⟩)
  clear hb1 hb2 hb3 hrow0 hrow3 hbA hz1 HVis
  go_wp2_with fail
  refine HV.out.mono ?_
  rintro e w3 ⟨rfl, hJ, hk⟩
  obtain ⟨⟨v, hbv, hown⟩, hz3⟩ := hJ
  have hlen := (Con.found_len c day hB (visEvs_prefix c day)).2.2
  have hcv := hbv.cell
  have hbF : Below W.heap.size W w3 := HBA.out.trans hk.below
  by_cases hE : visErr c day = 0
  · have HC := Lib.hid fun (w4 : World) (hb : Below w3.drew.heap.size w3.drew w4) => (hb.cell (p := ⟨W.heap.size + 1, 0, none⟩) hbv.lt).trans hcv
    have HO := Lib.hid fun (w4 : World) (hb : Below w3.drew.heap.size w3.drew w4) => (ownsRow_below' (hown.drew) hb)
    have HZ := Lib.hid fun (w4 : World) (hb : Below w3.drew.heap.size w3.drew w4) => Nat.le_trans hz3 hb.size
    have HB := Lib.hid fun (w4 : World) (hb : Below w3.drew.heap.size w3.drew w4) => hbF.drew.trans (hb.mono hz3)
    have HL := Lib.hid hlen
    obtain ⟨LN, hLN⟩ : ∃ LN, evDs (visEvs c day) = LN := ⟨_, rfl⟩
    have HS : Hid (visErr c day = 0 ∧ ySet c day = uniq dayLt LN) := Lib.hid (by
      unfold ySet
      rw [if_pos hE, hLN]
      exact ⟨hE, rfl⟩)
    rw [hLN] at HL HO
    rw [hE]
    clear hbv hown hk hz3 hlen hbF hLN HV HBA hE
    go_wp2_with fail
    go_region_with (first
      | (go_at_call 46; refine (dyOrder_any _).mono ?_; rintro e w4 ⟨rfl, hb4⟩; have hc4 := HC.out w4 hb4; have ho4 := HO.out w4 hb4)
      | (go_at_call 45; refine (uniqI_any W.heap.size LN _ _ ho4 HL.out (HZ.out _ hb4)).mono ?_; rintro e w5 ⟨v5, rfl, h5, hb5⟩; obtain ⟨adU, capU, rfl⟩ := ownsRow_shape h5))
    all_goals
      go_wp2
      go_ret2
      rw [HS.out.1, HS.out.2]
      exact ⟨_, rfl, h5, (HB.out _ hb4).trans hb5⟩
  · have HS : Hid (ySet c day = []) := Lib.hid (if_neg hE)
    have HBF := Lib.hid hbF
    obtain ⟨ve, hve⟩ : ∃ ve, visErr c day = ve := ⟨_, rfl⟩
    have Hve := Lib.hid hve
    rw [hve] at hE ⊢
    clear hbv hown hk hz3 hlen hbF HV HBA hve
    go_wp2
    go_ret2
    rw [HS.out, Hve.out]
    exact ⟨_, rfl, World.ownsRow_nil _ _ _ _, HBF.out⟩
end Go.Proofs.YtflddbgadkndlaaGreatDoor

namespace Go.Proofs.YtflddbgadkndlaaGreatDoor
open Go.RowKit

theorem ul_chs : Tryz.prog.underlying 38 = some (.slice 60) := by kernel_rfl
theorem info_ch : (Tryz.prog.info? 60).map (fun i => (i.zero, i.size, i.bytes)) = some (some (.agg #[.string ⟨#[]⟩, .string ⟨#[]⟩, .int .i64 0, .bool false]), 4, 48) := by kernel_rfl
def cxCells (x : ChP) : List Value := [.string x.1, .string x.2.1, .int .i64 x.2.2, .bool false]
theorem cx_oneCells (x : ChP) : ∀ u ∈ cxCells x, u.oneCell' = true := by intro u hu; simp [cxCells] at hu; rcases hu with rfl | rfl | rfl | rfl <;> rfl
theorem cell_four_at (w : World) (u v s z : Value) (t : TypeId) : ∀ j x, [u, v, s, z][j]? = some x → (w.alloc (.cells #[u, v, s, z] t)).cell? ((⟨w.heap.size, 0, none⟩ : Addr).add j) = some x := by
  intro j x hj
  match j, hj with
  | 0, h => cases h; simp [Addr.add]
  | 1, h => cases h; simp [Addr.add]
  | 2, h => cases h; simp [Addr.add]
  | 3, h => cases h; simp [Addr.add]
abbrev CRow (base Bo : Nat) (L : List ChP) (W : World) : Prop := RowAt cxCells 38 60 4 base Bo L W

set_option maxHeartbeats 4000000 in
set_option maxRecDepth 100000 in
theorem dead_any (w0 : World) (D Bo : Nat) (L0 : List ChP) (p n : ByteArray) (ds : List Int) (v : Value) (W : World) (hBo : w0.heap.size ≤ Bo) (hBD : Bo < D) (hbd : (L0 ++ ds.map fun d => (p, n, d)).length ≤ 1210000000000)
    (hR : CRow w0.heap.size Bo L0 W) (hbW : Below w0.heap.size w0 W) (hdv : DaysAt w0.heap.size D Bo W ds v) :
    Calls Tryz.prog 40 #[.string p, .string n, v, .pointer (some ⟨Bo, 0, none⟩)] W fun e W' => e = .returned (.tuple #[]) ∧ CRow w0.heap.size Bo (L0 ++ ds.map fun d => (p, n, d)) W' ∧ KeptO w0.heap.size D Bo W W' := by
  obtain ⟨i0, hi, hz0, hz1, hz2⟩ := info_parts info_ch
  obtain ⟨adv, capv, rfl⟩ := hdv.1.len
  have hlb : L0.length + ds.length ≤ 1210000000000 := by rwa [List.length_append, List.length_map] at hbd
  have HP := Lib.hid hdv
  have hR0 : Hid (CRow w0.heap.size Bo (L0 ++ (ds.take 0).map fun d => (p, n, d)) W) := Lib.hid (by
    rw [List.take_zero, List.map_nil, List.append_nil]; exact hR)
  clear hR hdv
  go_enter Tryz.func40, Tryz.ntmps40
  go_wp2_with fail
  go_loopw [11] (fun i wr => ∃ k : Nat, k ≤ ds.length ∧ i = .int .i64 (k : Int) ∧ Hid (CRow w0.heap.size Bo (L0 ++ (ds.take k).map fun d => (p, n, d)) wr) ∧ KeptO w0.heap.size D Bo W wr) (fun i _ => ds.length - (intOf i).toNat)
  case atStart => exact ⟨0, Nat.zero_le _, rfl, hR0, KeptO.refl _⟩
  case round =>
    clear hR0
    obtain ⟨k, hk, rfl, HRr, hkr⟩ := hrel
    by_cases hlt : k < ds.length
    · obtain ⟨d, hdk⟩ : ∃ d, ds[k]? = some d := ⟨_, List.getElem?_eq_getElem hlt⟩
      obtain ⟨ad', cap', he, _, hrd⟩ := (HP.out.kept hkr).1
      obtain ⟨rfl, _, rfl⟩ := Value.slice.inj he
      obtain ⟨b, off, rfl, hcd⟩ := hrd k d hdk
      have hbl : b < wr.heap.size := World.block_lt_of_cell? wr _ hcd
      obtain ⟨v, hbv, hown⟩ := HRr.out
      obtain ⟨LK, hLK⟩ : ∃ LK, (L0 ++ (ds.take k).map fun d => (p, n, d)) = LK := ⟨_, rfl⟩
      have HLK : Hid ((L0 ++ (ds.take (k + 1)).map fun d => (p, n, d)) = LK ++ [(p, n, d)]) := Lib.hid (by rw [take_snoc_get hdk, ← hLK]; simp)
      have HLl : Hid (LK.length = L0.length + k) := Lib.hid (by rw [← hLK]; simp; omega)
      rw [hLK] at hown
      have hcv := hbv.cell
      have hbz := (hbW.trans hkr.below).size
      have hk1 : (0 : Int) ≤ (k : Int) := by omega
      have hk2 : (k : Int) < (ds.length : Int) := by omega
      have hlBo := hbv.lt
      clear hLK hrd hdk he
      go_wp2_with (at_builtin; refine wpList_append_at _ rfl _ _ 38 rfl w0.heap.size 60 i0 (.agg #[.string ⟨#[]⟩, .string ⟨#[]⟩, .int .i64 0, .bool false]) 4 48 ul_chs hi hz0 hz1 hz2 rfl (by decide) _ _ _ rfl (hown.alloc _) ⟨wr.heap.size, 0, none⟩ 1 1 [.string p, .string n, .int .i64 d, .bool false] rfl rfl (cell_four_at _ _ _ _ _ _) (cx_oneCells (p, n, d)) ?d1 ?d2 ?d3 ?_)
      case d1 => have := HLl.out; unfold maxLen; omega
      case d2 => have := HLl.out; omega
      case d3 => first | omega | (simp; omega)
      intro v' w' hown' hgrow hloc
      obtain ⟨g', cap', rfl⟩ := ownsRow_succ hown'
      obtain ⟨hb1, hb2, hr2, hk3⟩ := RowAt.step (D := D) hbv (by decide) hown hbz hBo hBD hown' hgrow hloc
      have HN : Hid (CRow w0.heap.size Bo (L0 ++ (ds.take (k + 1)).map fun d => (p, n, d)) (w'.setCell ⟨Bo, 0, none⟩ (.slice (some ⟨g', 0, none⟩) (LK.length + 1) cap'))) := Lib.hid (by
        refine ⟨_, hb2, ?_⟩
        rw [HLK.out, List.length_append, List.flatMap_append]
        exact hr2)
      have hk5 := hkr.trans hk3
      have hc5 := hb1.cell
      have hf5 := hb1.frozen
      clear hb2 hr2 hk3 hown hgrow hown' hloc hkr hcd
      go_wp2_with fail
      go_roundw
      case rel => exact ⟨k + 1, by omega, by go_num, HN, hk5⟩
      case measure => simp [intOf]; omega
    · obtain rfl : k = ds.length := by omega
      have HN : Hid (CRow w0.heap.size Bo (L0 ++ ds.map fun d => (p, n, d)) wr) := Lib.hid (by
        have h := HRr.out
        rwa [List.take_length] at h)
      have HKK := Lib.hid hkr
      go_wp2
      go_end0
      exact ⟨rfl, HN.out, HKK.out⟩
end Go.Proofs.YtflddbgadkndlaaGreatDoor

namespace Go.Proofs.YtflddbgadkndlaaGreatDoor
open Go.RowKit

theorem cxCells_len (x : ChP) : (cxCells x).length = 4 := rfl
theorem cxCells_zv : ∀ w, (zeroValue 60).run Tryz.prog w = .ok (.agg #[.string ⟨#[]⟩, .string ⟨#[]⟩, .int .i64 0, .bool false]) w := fun w => by go_simp
/-- An element stored. -/
theorem cxCells_keep {L : List ChP} {k : Nat} {x y z : ChP} (h1 : 1 ≤ k) (hx : L[k - 1]? = some x) (hy : L[k]? = some y) (hne : y ≠ x) {kk : Nat} (hk : (cmpct (L.take k)).length = kk) (hz : L[kk]? = some z) :
    ((((((cRow L k).flatMap cxCells).set (kk * 4) (.string y.1)).set (kk * 4 + 1) (.string y.2.1)).set (kk * 4 + 2) (.int .i64 y.2.2)).set (kk * 4 + 3) (.bool false)) = (cRow L (k + 1)).flatMap cxCells ∧ (cmpct (L.take (k + 1))).length = kk + 1 := by
  subst hk
  obtain ⟨e1, e2⟩ := cRow_keep h1 hx hy hne hz
  refine ⟨?_, by rw [cmpct_new' h1 hx hy hne]; simp⟩
  rw [e1, e2]
  have s0 := set_flat (enc := cxCells) (m := 4) cxCells_len (cmpct (L.take k)) (L.drop ((cmpct (L.take k)).length + 1)) z (y.1, z.2.1, z.2.2) _ 0 (.string y.1) rfl (by decide) rfl
  have s1 := set_flat (enc := cxCells) (m := 4) cxCells_len (cmpct (L.take k)) (L.drop ((cmpct (L.take k)).length + 1)) (y.1, z.2.1, z.2.2) (y.1, y.2.1, z.2.2) _ 1 (.string y.2.1) rfl (by decide) rfl
  have s2 := set_flat (enc := cxCells) (m := 4) cxCells_len (cmpct (L.take k)) (L.drop ((cmpct (L.take k)).length + 1)) (y.1, y.2.1, z.2.2) y _ 2 (.int .i64 y.2.2) rfl (by decide) rfl
  have s3 := set_flat (enc := cxCells) (m := 4) cxCells_len (cmpct (L.take k)) (L.drop ((cmpct (L.take k)).length + 1)) y y _ 3 (.bool false) rfl (by decide) rfl
  simp only [Nat.add_zero] at s0
  rw [s0, s1, s2, s3]

set_option maxHeartbeats 8000000 in
set_option maxRecDepth 100000 in
theorem compactC_any (base : Nat) (L : List ChP) (v : Value) (W : World) (hown : W.ownsRow base 60 4 v L.length (L.flatMap cxCells)) (hlen : L.length ≤ 4000000000000) :
    Calls Tryz.prog 76 #[v] W fun e W' => ∃ v', e = .returned v' ∧ W'.ownsRow base 60 4 v' (cmpct L).length ((cmpct L).flatMap cxCells) ∧ W.grownBy W' v.ownBlock := by
  by_cases hs : L.length < 2
  · have hc : cmpct L = L := by
      match L, hs with
      | [], _ => rfl
      | [a], _ => rfl
    rw [hc]
    have HO := Lib.hid hown
    obtain ⟨n, hn⟩ : ∃ n, L.length = n := ⟨_, rfl⟩
    obtain ⟨ad, cap, rfl⟩ : ∃ ad cap, v = .slice ad n cap := by
      rcases hown.2 with ⟨rfl, h⟩ | ⟨g, cap, cur, rfl, _⟩
      · exact ⟨none, 0, by rw [← hn, h]⟩
      · exact ⟨_, cap, by rw [hn]⟩
    rw [hn] at hs hlen
    clear hown hc
    go_enter Tryz.func76, Tryz.ntmps76
    go_wp2
    go_ret
    exact ⟨_, rfl, HO.out, World.grownBy.refl _ _⟩
  · obtain ⟨n, hn⟩ : ∃ n, L.length = n := ⟨_, rfl⟩
    have Hn := Lib.hid hn
    obtain ⟨g, cap, rfl, hcap⟩ : ∃ g cap, v = .slice (some ⟨g, 0, none⟩) n cap ∧ n ≤ cap ∧ cap ≤ maxLen := by
      rcases hown.2 with ⟨rfl, h⟩ | ⟨g, cap, cur, rfl, _, _, h1, h2, _⟩
      · omega
      · exact ⟨g, cap, by rw [hn], by omega, h2⟩
    rw [hn] at hs hlen hown
    have hR0 := RSt.start hown
    clear hown hn
    obtain ⟨hcap, hcm⟩ := hcap
    go_enter Tryz.func76, Tryz.ntmps76
    go_wp2
    go_loopw [3] (fun i wr => ∃ k : Nat, 1 ≤ k ∧ k ≤ n ∧ i = .int .i64 k ∧ Hid (cmpct (L.take k) = L.take k) ∧ RSt W wr 60 4 g base n cap (L.flatMap cxCells)) (fun i _ => n - (intOf i).toNat)
    case atStart => exact ⟨1, Nat.le_refl _, by omega, rfl, Lib.hid (cmpct_one L), hR0⟩
    case round =>
      clear hR0
      obtain ⟨k, hk1, hk, rfl, Hc, hR⟩ := hrel
      by_cases hlt : k < n
      · obtain ⟨x, hx⟩ : ∃ x, L[k - 1]? = some x := ⟨_, List.getElem?_eq_getElem (by rw [Hn.out]; omega)⟩
        obtain ⟨y, hy⟩ : ∃ y, L[k]? = some y := ⟨_, List.getElem?_eq_getElem (by rw [Hn.out]; omega)⟩
        obtain ⟨xp, xn, xd⟩ := x
        obtain ⟨yp, yn, yd⟩ := y
        have x0 : wr.cell? ⟨g, (k - 1) * 4, none⟩ = some (.string xp) := by
          have h := hR.at (flat_at cxCells_len hx 0 _ rfl)
          simpa only [Nat.add_zero] using h
        have x1 : wr.cell? ⟨g, (k - 1) * 4 + 1, none⟩ = some (.string xn) := by
          have h := hR.at (flat_at cxCells_len hx 1 _ rfl)
          simpa only [Nat.add_zero] using h
        have x2 : wr.cell? ⟨g, (k - 1) * 4 + 2, none⟩ = some (.int .i64 xd) := by
          have h := hR.at (flat_at cxCells_len hx 2 _ rfl)
          simpa only [Nat.add_zero] using h
        have x3 : wr.cell? ⟨g, (k - 1) * 4 + 3, none⟩ = some (.bool false) := by
          have h := hR.at (flat_at cxCells_len hx 3 _ rfl)
          simpa only [Nat.add_zero] using h
        have y0 : wr.cell? ⟨g, k * 4, none⟩ = some (.string yp) := by
          have h := hR.at (flat_at cxCells_len hy 0 _ rfl)
          simpa only [Nat.add_zero] using h
        have y1 : wr.cell? ⟨g, k * 4 + 1, none⟩ = some (.string yn) := by
          have h := hR.at (flat_at cxCells_len hy 1 _ rfl)
          simpa only [Nat.add_zero] using h
        have y2 : wr.cell? ⟨g, k * 4 + 2, none⟩ = some (.int .i64 yd) := by
          have h := hR.at (flat_at cxCells_len hy 2 _ rfl)
          simpa only [Nat.add_zero] using h
        have y3 : wr.cell? ⟨g, k * 4 + 3, none⟩ = some (.bool false) := by
          have h := hR.at (flat_at cxCells_len hy 3 _ rfl)
          simpa only [Nat.add_zero] using h
        have e1 : IntKind.i64.wrap ((k : Int) - 1) = ((k - 1 : Nat) : Int) := by rw [IntWalk.i64_in _ (by omega)]; omega
        have hl1 : ((k - 1 : Nat) : Int) < (n : Int) := by omega
        have hl0 : (k : Int) < (n : Int) := by omega
        have HX := Lib.hid hx
        have HY := Lib.hid hy
        clear hx hy
        go_wp2_with fail
        have HT0 := Lib.hid (toList_beq yp xp)
        cases t0 : (yp.toList == xp.toList) with
        | false =>
          have Hne : Hid ((yp, yn, yd) ≠ (xp, xn, xd)) := Lib.hid (by rw [HT0.out, decide_eq_false_iff_not] at t0; exact fun e => t0 ((Prod.mk.inj e).1))
          go_quiet (fail)
          go_wp2
          go_roundw
          case rel => exact ⟨k + 1, by omega, by omega, by go_num, Lib.hid (cmpct_full hk1 HX.out HY.out Hne.out Hc.out), hR.drewN _⟩
          case measure => simp [intOf]; omega
        | true =>
          have HT1 := Lib.hid (toList_beq yn xn)
          cases t1 : (yn.toList == xn.toList) with
          | false =>
            have Hne : Hid ((yp, yn, yd) ≠ (xp, xn, xd)) := Lib.hid (by rw [HT1.out, decide_eq_false_iff_not] at t1; exact fun e => t1 ((Prod.mk.inj (Prod.mk.inj e).2).1))
            go_quiet (fail)
            go_wp2
            go_roundw
            case rel => exact ⟨k + 1, by omega, by omega, by go_num, Lib.hid (cmpct_full hk1 HX.out HY.out Hne.out Hc.out), hR.drewN _⟩
            case measure => simp [intOf]; omega
          | true =>
            by_cases t2 : yd = xd
            · go_quiet (fail)
              have HE : Hid ((yp, yn, yd) = (xp, xn, xd)) := Lib.hid (by rw [HT0.out, decide_eq_true_eq] at t0; rw [HT1.out, decide_eq_true_eq] at t1; rw [t0, t1, t2])
              have HY2 : Hid (L[k]? = some (xp, xn, xd)) := Lib.hid (by rw [← HE.out]; exact HY.out)
              have hR1 := hR.drewN nq
              generalize wr.drewN nq = w1 at hR1 ⊢
              clear x0 x1 x2 x3 y0 y1 y2 y3 hR t0 t1 t2 e1 hl1
              go_wp2
              go_loopw [3, 5] (fun s3 s5 wz => ∃ k2 kk : Nat, 1 ≤ k2 ∧ k + k2 ≤ n ∧ kk < k + k2 ∧ s3 = .int .i64 kk ∧ s5 = .int .i64 k2 ∧ Hid ((cmpct (L.take (k + k2))).length = kk) ∧ RSt W wz 60 4 g base n cap ((cRow L (k + k2)).flatMap cxCells)) (fun _ s5 _ => n - (intOf s5).toNat)
              case atStart =>
                have hh := cRow_half hk1 HX.out HY2.out Hc.out
                exact ⟨1, k, Nat.le_refl _, by omega, by omega, rfl, rfl, Lib.hid hh.2, by rw [hh.1]; exact hR1⟩
              case round =>
                clear hR1 hlt hl0
                obtain ⟨k2, kk, hk2, hkn, hkk, rfl, rfl, Hkk, hR⟩ := hrel
                by_cases hlt : k + k2 < n
                · obtain ⟨x, hx⟩ : ∃ x, L[k + k2 - 1]? = some x := ⟨_, List.getElem?_eq_getElem (by rw [Hn.out]; omega)⟩
                  obtain ⟨y, hy⟩ : ∃ y, L[k + k2]? = some y := ⟨_, List.getElem?_eq_getElem (by rw [Hn.out]; omega)⟩
                  obtain ⟨z, hz⟩ : ∃ z, L[kk]? = some z := ⟨_, List.getElem?_eq_getElem (by rw [Hn.out]; omega)⟩
                  obtain ⟨up, un, ud⟩ := x
                  obtain ⟨vp, vn, vd⟩ := y
                  obtain ⟨op, on, od⟩ := z
                  have hcx := (cRow_high (L := L) (m := k + k2) (j := k + k2 - 1) (by rw [Hkk.out]; omega)).trans hx
                  have hcy := (cRow_high (L := L) (m := k + k2) (j := k + k2) (by rw [Hkk.out]; omega)).trans hy
                  have hcz := (cRow_high (L := L) (m := k + k2) (j := kk) (by rw [Hkk.out]; omega)).trans hz
                  have x0 : wr.cell? ⟨g, k * 4 + (k2 - 1) * 4, none⟩ = some (.string up) := by
                    rw [show k * 4 + (k2 - 1) * 4 = (k + k2 - 1) * 4 by omega]
                    have h := hR.at (flat_at cxCells_len hcx 0 _ rfl)
                    simpa only [Nat.add_zero] using h
                  have x1 : wr.cell? ⟨g, k * 4 + (k2 - 1) * 4 + 1, none⟩ = some (.string un) := by
                    rw [show k * 4 + (k2 - 1) * 4 = (k + k2 - 1) * 4 by omega]
                    have h := hR.at (flat_at cxCells_len hcx 1 _ rfl)
                    simpa only [Nat.add_zero] using h
                  have x2 : wr.cell? ⟨g, k * 4 + (k2 - 1) * 4 + 2, none⟩ = some (.int .i64 ud) := by
                    rw [show k * 4 + (k2 - 1) * 4 = (k + k2 - 1) * 4 by omega]
                    have h := hR.at (flat_at cxCells_len hcx 2 _ rfl)
                    simpa only [Nat.add_zero] using h
                  have x3 : wr.cell? ⟨g, k * 4 + (k2 - 1) * 4 + 3, none⟩ = some (.bool false) := by
                    rw [show k * 4 + (k2 - 1) * 4 = (k + k2 - 1) * 4 by omega]
                    have h := hR.at (flat_at cxCells_len hcx 3 _ rfl)
                    simpa only [Nat.add_zero] using h
                  have y0 : wr.cell? ⟨g, k * 4 + k2 * 4, none⟩ = some (.string vp) := by
                    rw [show k * 4 + k2 * 4 = (k + k2) * 4 by omega]
                    have h := hR.at (flat_at cxCells_len hcy 0 _ rfl)
                    simpa only [Nat.add_zero] using h
                  have y1 : wr.cell? ⟨g, k * 4 + k2 * 4 + 1, none⟩ = some (.string vn) := by
                    rw [show k * 4 + k2 * 4 = (k + k2) * 4 by omega]
                    have h := hR.at (flat_at cxCells_len hcy 1 _ rfl)
                    simpa only [Nat.add_zero] using h
                  have y2 : wr.cell? ⟨g, k * 4 + k2 * 4 + 2, none⟩ = some (.int .i64 vd) := by
                    rw [show k * 4 + k2 * 4 = (k + k2) * 4 by omega]
                    have h := hR.at (flat_at cxCells_len hcy 2 _ rfl)
                    simpa only [Nat.add_zero] using h
                  have y3 : wr.cell? ⟨g, k * 4 + k2 * 4 + 3, none⟩ = some (.bool false) := by
                    rw [show k * 4 + k2 * 4 = (k + k2) * 4 by omega]
                    have h := hR.at (flat_at cxCells_len hcy 3 _ rfl)
                    simpa only [Nat.add_zero] using h
                  have z0 : wr.cell? ⟨g, kk * 4, none⟩ = some (.string op) := by
                    have h := hR.at (flat_at cxCells_len hcz 0 _ rfl)
                    simpa only [Nat.add_zero] using h
                  have z1 : wr.cell? ⟨g, kk * 4 + 1, none⟩ = some (.string on) := by
                    have h := hR.at (flat_at cxCells_len hcz 1 _ rfl)
                    simpa only [Nat.add_zero] using h
                  have z2 : wr.cell? ⟨g, kk * 4 + 2, none⟩ = some (.int .i64 od) := by
                    have h := hR.at (flat_at cxCells_len hcz 2 _ rfl)
                    simpa only [Nat.add_zero] using h
                  have z3 : wr.cell? ⟨g, kk * 4 + 3, none⟩ = some (.bool false) := by
                    have h := hR.at (flat_at cxCells_len hcz 3 _ rfl)
                    simpa only [Nat.add_zero] using h
                  have f0 := hR.ice (kk * 4)
                  have f1 := hR.ice (kk * 4 + 1)
                  have f2 := hR.ice (kk * 4 + 2)
                  have f3 := hR.ice (kk * 4 + 3)
                  have HX2 := Lib.hid hx
                  have HZ2 := Lib.hid hz
                  have HY3 := Lib.hid hy
                  clear hx hy hz hcx hcy hcz
                  have e1 : IntKind.i64.wrap ((k2 : Int) - 1) = ((k2 - 1 : Nat) : Int) := by rw [IntWalk.i64_in _ (by omega)]; omega
                  have hl1 : ((k2 - 1 : Nat) : Int) < ((n - k : Nat) : Int) := by omega
                  have hl0 : (k2 : Int) < ((n - k : Nat) : Int) := by omega
                  go_wp2_with fail
                  have HT0 := Lib.hid (toList_beq vp up)
                  cases t0 : (vp.toList == up.toList) with
                  | false =>
                    have Hne : Hid ((vp, vn, vd) ≠ (up, un, ud)) := Lib.hid (by rw [HT0.out, decide_eq_false_iff_not] at t0; exact fun e => t0 ((Prod.mk.inj e).1))
                    have hst := cxCells_keep (by omega) HX2.out HY3.out Hne.out Hkk.out HZ2.out
                    have hR2 := Lib.hid fun q : Nat => ((((hR.drewN q).set (kk * 4) (.string vp)).set (kk * 4 + 1) (.string vn)).set (kk * 4 + 2) (.int .i64 vd)).set (kk * 4 + 3) (.bool false)
                    have HS := Lib.hid hst
                    clear hst hR
                    go_quiet (fail)
                    go_wp2
                    go_roundw
                    case rel =>
                      refine ⟨k2 + 1, kk + 1, by omega, by omega, by omega, by go_num, by go_num, Lib.hid HS.out.2, ?_⟩
                      have := hR2.out nq
                      rwa [HS.out.1] at this
                    case measure => simp [intOf]; omega
                  | true =>
                    have HT1 := Lib.hid (toList_beq vn un)
                    cases t1 : (vn.toList == un.toList) with
                    | false =>
                      have Hne : Hid ((vp, vn, vd) ≠ (up, un, ud)) := Lib.hid (by rw [HT1.out, decide_eq_false_iff_not] at t1; exact fun e => t1 ((Prod.mk.inj (Prod.mk.inj e).2).1))
                      have hst := cxCells_keep (by omega) HX2.out HY3.out Hne.out Hkk.out HZ2.out
                      have hR2 := Lib.hid fun q : Nat => ((((hR.drewN q).set (kk * 4) (.string vp)).set (kk * 4 + 1) (.string vn)).set (kk * 4 + 2) (.int .i64 vd)).set (kk * 4 + 3) (.bool false)
                      have HS := Lib.hid hst
                      clear hst hR
                      go_quiet (fail)
                      go_wp2
                      go_roundw
                      case rel =>
                        refine ⟨k2 + 1, kk + 1, by omega, by omega, by omega, by go_num, by go_num, Lib.hid HS.out.2, ?_⟩
                        have := hR2.out nq
                        rwa [HS.out.1] at this
                      case measure => simp [intOf]; omega
                    | true =>
                      by_cases t2 : vd = ud
                      · have HE : Hid ((vp, vn, vd) = (up, un, ud)) := Lib.hid (by rw [HT0.out, decide_eq_true_eq] at t0; rw [HT1.out, decide_eq_true_eq] at t1; rw [t0, t1, t2])
                        have HY4 : Hid (L[k + k2]? = some (up, un, ud)) := Lib.hid (by rw [← HE.out]; exact HY3.out)
                        have HS := Lib.hid (And.intro (cRow_skip (by omega) HX2.out HY4.out) (cmpct_same' (by omega) HX2.out HY4.out))
                        have hR2 := Lib.hid fun q : Nat => hR.drewN q
                        clear hR
                        go_quiet (fail)
                        go_wp2
                        go_roundw
                        case rel => exact ⟨k2 + 1, kk, by omega, by omega, by omega, rfl, by go_num, Lib.hid (by rw [← Nat.add_assoc, HS.out.2]; exact Hkk.out), by rw [← Nat.add_assoc, HS.out.1]; exact hR2.out nq⟩
                        case measure => simp [intOf]; omega
                      · have Hne : Hid ((vp, vn, vd) ≠ (up, un, ud)) := Lib.hid (fun e => t2 ((Prod.mk.inj (Prod.mk.inj e).2).2))
                        have hst := cxCells_keep (by omega) HX2.out HY3.out Hne.out Hkk.out HZ2.out
                        have hR2 := Lib.hid fun q : Nat => ((((hR.drewN q).set (kk * 4) (.string vp)).set (kk * 4 + 1) (.string vn)).set (kk * 4 + 2) (.int .i64 vd)).set (kk * 4 + 3) (.bool false)
                        have HS := Lib.hid hst
                        clear hst hR
                        go_quiet (fail)
                        go_wp2
                        go_roundw
                        case rel =>
                          refine ⟨k2 + 1, kk + 1, by omega, by omega, by omega, by go_num, by go_num, Lib.hid HS.out.2, ?_⟩
                          have := hR2.out nq
                          rwa [HS.out.1] at this
                        case measure => simp [intOf]; omega
                · have hend : k + k2 = n := by omega
                  obtain ⟨vs, hcl⟩ := run_clear_own hR ul_chs _ cxCells_zv rfl (by intro u hu; simp [Value.cells] at hu; rcases hu with rfl | rfl | rfl | rfl <;> rfl) kk (cap - kk) (by omega) 0
                  obtain ⟨os', hR3, hos⟩ := hR.sets vs (kk * 4) (kk * 4) (Nat.le_refl _)
                  have hfin := ownsRow_cut hR3.own kk (by omega)
                  rw [hos] at hfin
                  have hkl : (cmpct L).length = kk := by have := Hkk.out; rwa [hend, ← Hn.out, List.take_length] at this
                  have hrow := cRow_end (enc := cxCells) (m := 4) cxCells_len L
                  rw [Hn.out, ← hend, hkl] at hrow
                  rw [hrow] at hfin
                  have HF := Lib.hid (And.intro hfin hR3.gr)
                  have Hkl := Lib.hid hkl
                  clear hfin hrow hos hR3 hR hkl
                  go_wp2
                  go_ret
                  refine ⟨_, rfl, ?_, HF.out.2⟩
                  rw [Hkl.out]
                  exact HF.out.1
            · have Hne : Hid ((yp, yn, yd) ≠ (xp, xn, xd)) := Lib.hid (fun e => t2 ((Prod.mk.inj (Prod.mk.inj e).2).2))
              go_quiet (fail)
              go_wp2
              go_roundw
              case rel => exact ⟨k + 1, by omega, by omega, by go_num, Lib.hid (cmpct_full hk1 HX.out HY.out Hne.out Hc.out), hR.drewN _⟩
              case measure => simp [intOf]; omega
      · have hkn : k = n := by omega
        subst hkn
        have hf : Hid (cmpct L = L) := Lib.hid (by have := Hc.out; rwa [← Hn.out, List.take_length] at this)
        have HR := Lib.hid hR
        clear hR
        go_wp2
        go_ret
        refine ⟨_, rfl, ?_, HR.out.gr⟩
        rw [hf.out, Hn.out]
        exact HR.out.own
end Go.Proofs.YtflddbgadkndlaaGreatDoor

namespace Go.Proofs.YtflddbgadkndlaaGreatDoor
open Go.RowKit
open Go.Sort (HoldsK grow alloc_eq_grow grow_grow drew_grow SWO)

def cxCf (x y : ChP) : Int := chCmp x.1 x.2.1 x.2.2 y.1 y.2.1 y.2.2
theorem cxCf_lt : ltOf cxCf = chxLt := by funext x y; exact chCmp_lt _ _ _ _ _ _

set_option maxHeartbeats 400000 in
set_option maxRecDepth 100000 in
theorem cxcmp_any (x y : ChP) (w : World) :
    Calls Tryz.prog 77 #[.agg #[.string x.1, .string x.2.1, .int .i64 x.2.2, .bool false], .agg #[.string y.1, .string y.2.1, .int .i64 y.2.2, .bool false]] w fun e w' => e = .returned (.int .i64 (cxCf x y)) ∧ ∃ q os', w' = grow (w.drewN q) os' := by
  obtain ⟨p1, n1, d1⟩ := x
  obtain ⟨p2, n2, d2⟩ := y
  unfold cxCf chCmp
  go_enter Tryz.func77, Tryz.ntmps77
  go_wp2
  go_region_held3 (fun w' => w'.cell? ⟨w.heap.size, 0, none⟩ = some (.string p1) ∧ w'.cell? ⟨w.heap.size, 1, none⟩ = some (.string n1) ∧ w'.cell? ⟨w.heap.size, 2, none⟩ = some (.int .i64 d1) ∧ w'.cell? ⟨w.heap.size + 1, 0, none⟩ = some (.string p2) ∧ w'.cell? ⟨w.heap.size + 1, 1, none⟩ = some (.string n2) ∧ w'.cell? ⟨w.heap.size + 1, 2, none⟩ = some (.int .i64 d2)) (go_keep)
    (first | (go_at_call 70; refine (cmpS_any _ _ _).mono ?_; rintro e w' ⟨rfl, rfl⟩) | (go_at_call 71; refine (cmpI_any _ _ _).mono ?_; rintro e w' ⟨rfl, rfl⟩) | (go_at_call 69; refine (or3_any (cmpS p1 p2) (cmpS n1 n2) (cmpI d1 d2) _ _ ?_ ?_ ?_).mono ?_; (go_simp); (go_simp); (go_simp); rintro e w' ⟨rfl, rfl⟩))
  all_goals
    go_wp2
    go_ret
    exact ⟨rfl, 1, _, by rw [alloc_eq_grow, alloc_eq_grow, alloc_eq_grow, grow_grow, grow_grow]; rfl⟩

theorem cxcmp_enter : ∀ args w, (callFunc 77 args).run Tryz.prog w = .ok (.enter 77 args) w := enters_of Tryz.func77 (by kernel_rfl) rfl

set_option maxRecDepth 100000 in
theorem sortC_any (base : Nat) (L : List ChP) (v : Value) (W : World) (hown : W.ownsRow base 60 4 v L.length (L.flatMap cxCells)) (hlen : L.length ≤ 4000000000000) :
    Calls Tryz.prog 75 #[v, .func (.func 77) #[] #[]] W fun e W' => e = .returned (.tuple #[]) ∧
      W'.ownsRow base 60 4 v L.length ((L.mergeSort fun x y => !chxLt y x).flatMap cxCells) ∧ W.grownBy W' v.ownBlock := by
  rcases hown.2 with ⟨rfl, h0⟩ | ⟨g, cap, cur, rfl, hbg, hh, hn, hc, hs, ht⟩
  · have hL : L = [] := List.eq_nil_of_length_eq_zero h0
    subst hL
    have h := AnyF.slices_SortFunc_none Tryz.laysChoice none 0 (.func (.func 77) #[] #[]) W
    refine Calls.mono (by exact h) ?_
    rintro e W' ⟨rfl, rfl⟩
    exact ⟨rfl, by simpa using hown, World.grownBy.refl _ _⟩
  · have hblk : g < W.heap.size := (Array.getElem?_eq_some_iff.1 hh).1
    have h := AnyQ.slices_SortFunc_total (α := ChP) Tryz.laysChoice 4 Tryz.isAgg60 Tryz.sizeOf60 cxCells cxCells_len cx_oneCells cxCf (by rw [cxCf_lt]; exact swo_of_sto chx_sto) 77 #[] g 0 cap L.toArray W cxcmp_enter
      (fun m os dk _ x y => cxcmp_any x y _) (holdsK_own cxCells_len hown) hblk (by simp; omega) (by rw [cxCf_lt]; exact fun x y h1 h2 => chx_sto.conn x y h1 h2)
    refine Calls.mono (by exact h) ?_
    rintro e W' ⟨rfl, q, os, rfl⟩
    rw [cxCf_lt]
    obtain ⟨h1, h2⟩ := sorted_row (T := L.mergeSort fun x y => !chxLt y x) cxCells_len hown (List.length_mergeSort _) q os
    exact ⟨rfl, h1, h2⟩

/-- The order of needs, as a value. -/
def cxOrder : Value := .agg #[.func (.func 77) #[] #[]]

set_option maxHeartbeats 1000000 in
set_option maxRecDepth 100000 in
theorem uniqC_any (base : Nat) (L : List ChP) (v : Value) (W : World) (hown : W.ownsRow base 60 4 v L.length (L.flatMap cxCells)) (hlen : L.length ≤ 4000000000000) (hbase : base ≤ W.heap.size) :
    Calls Tryz.prog 42 #[v, cxOrder] W fun e W' => ∃ v', e = .returned v' ∧ W'.ownsRow base 60 4 v' (uniq chxLt L).length ((uniq chxLt L).flatMap cxCells) ∧ Below base W W' := by
  have hb0 := below_a1 W (.cells #[.func (.func 77) #[] #[]] 99)
  have hown1 := ownsRow_below' hown hb0
  have hS := sortC_any base L v _ hown1 hlen
  have Hb0 := Lib.hid hb0
  have Hl := Lib.hid hlen
  obtain ⟨ad, n, cap, hv⟩ : ∃ ad n cap, v = .slice ad n cap := by
    rcases hown.2 with ⟨rfl, h⟩ | ⟨g, cap, cur, rfl, _⟩ <;> exact ⟨_, _, _, rfl⟩
  have HO := Lib.hid hown1
  subst hv
  clear hown hown1 hb0 hlen
  unfold cxOrder
  go_enter Tryz.func42, Tryz.ntmps42
  go_wp2_with (go_at_call 75; refine hS.mono ?_; rintro e w1 ⟨rfl, h1, h2⟩)
  have hml : (L.mergeSort fun x y => !chxLt y x).length = L.length := List.length_mergeSort _
  rw [← hml] at h1
  have hC := compactC_any base _ _ w1 h1 (by rw [hml]; exact Hl.out)
  have hb1 := (Hb0.out.mono hbase).grown h2 (by simp; omega) (fun k e => (HO.out.lt k e).1)
  have hlt1 := fun k e => (h1.lt k e).1
  clear h1 h2
  go_wp2_with (go_at_call 76; refine hC.mono ?_; rintro e w2 ⟨v2, rfl, h3, h4⟩)
  go_ret
  exact ⟨_, rfl, h3, hb1.grown h4 (Nat.le_trans hbase hb1.size) hlt1⟩

set_option maxRecDepth 100000 in
theorem cxOrder_any (W : World) : Calls Tryz.prog 43 #[] W fun e W' => e = .returned cxOrder ∧ Below W.heap.size W W' := by
  go_enter Tryz.func43, Tryz.ntmps43
  go_wp2
  refine bodyPost_ret (v := .agg #[.func (.func 77) #[] #[]]) (by simp [results, Tryz.results43, go_sem]) rfl ?_
  exact ⟨rfl, below_a1 _ _⟩
end Go.Proofs.YtflddbgadkndlaaGreatDoor
