/-
  slices.SortFunc on a row of the call's own, at elements of k cells: from the row to the shelf's words and back. causal.unique at needs. (*novationref15.Found).choice: a choice is put into its list, up to the limit.
-/
import Derived.Test.YtkonookacfmfgaaGreatDoorC08
import Derived.Test.YtkonookacfmfgaaGreatDoorC13
import Derived.Test.YtkonookacfmfgaaGreatDoorC12
import Derived.Test.YtkonookacfmfgaaGreatDoorC04
import Derived.Laws.EntriesVeiled
import Derived.Deep.CutBlock
import Derived.Test.YtkonookacfmfgaaGreatDoorC07
namespace Go.Proofs.YtkonookacfmfgaaGreatDoor
open Go.RowKit
open Go.Sort (HoldsK Holds flatK get_flatK size_flatK ext_get! putRowK putRow putCells mapBlock onCells grow heap_grow_old SWO)
section
variable {α : Type} [Inhabited α] {enc : α → List Value} {k : Nat}
theorem flatK_list (hk : ∀ x, (enc x).length = k) (L : List α) : flatK enc k L.toArray = (L.flatMap enc).toArray := by
 have hfl := flat_length enc k hk L
 refine ext_get! (by rw [size_flatK, List.size_toArray, List.size_toArray, hfl]) fun t ht => ?_
 have ht' : t < L.length * k := by rw [size_flatK] at ht; simpa using ht
 have k0 : 0 < k := by
  rcases Nat.eq_zero_or_pos k with h | h
  ·subst h; simp at ht'
  ·exact h
 rw [get_flatK _ _ _ t (by simpa using ht')]
 have hq : t / k < L.length := Nat.div_lt_of_lt_mul (by rw [Nat.mul_comm]; exact ht')
 have hm := Nat.mod_lt t k0
 have e : t / k * k + t % k = t := by rw [Nat.mul_comm]; exact Nat.div_add_mod t k
 have h1 := flat_at (enc := enc) (m := k) hk (List.getElem?_eq_getElem hq) (t % k) _ (List.getElem?_eq_getElem (by rw [hk]; exact hm))
 rw [e] at h1
 rw [getElem!_pos L.toArray (t / k) (by simpa using hq), getElem!_pos (enc L.toArray[t / k]) (t % k) (by rw [hk]; exact hm), getElem!_def, List.getElem?_toArray, h1]
 rfl
variable {W : World} {base g cap : Nat} {e : TypeId} {L T : List α}
theorem holdsK_own (hk : ∀ x, (enc x).length = k) (hown : W.ownsRow base e k (.slice (some ⟨g, 0, none⟩) L.length cap) L.length (L.flatMap enc)) : HoldsK enc k W g 0 L.toArray := by
 have hfl := flat_length enc k hk L
 unfold HoldsK
 rw [flatK_list hk]
 intro j hj
 have hj' : j < (L.flatMap enc).length := by simpa using hj
 refine ⟨?_, by rw [Nat.zero_add]; exact hown.frozenAt j⟩
 rw [Nat.zero_add, hown.cellAt j (by omega), List.getElem?_eq_getElem hj', getElem!_pos _ j hj]
 simp
theorem heap_put (F : Array Value) (q : Nat) (os : Array Obj) {cur : Array Value} {fr : Nat × Nat} (hb : W.heap[g]? = some (.cells cur e fr)) :
  (grow (putRow id (Sort.ahead W q) g 0 F) os).heap[g]? = some (.cells (putCells id 0 F cur) e fr) := by
 have hg : g < W.heap.size := (Array.getElem?_eq_some_iff.1 hb).1
 rw [heap_grow_old _ _ (by simpa using hg)]
 simp [putRow, mapBlock, Sort.ahead, Array.getElem?_modify, hb, onCells]
theorem grownBy_put (F : Array Value) (q : Nat) (os : Array Obj) : W.grownBy (grow (putRow id (Sort.ahead W q) g 0 F) os) (some g) := by
 refine ⟨rfl, rfl, rfl, by simp, fun j hj hne => ?_⟩
 rw [heap_grow_old _ _ (by simpa using hj)]
 have : g ≠ j := fun e => hne (by rw [e])
 simp [putRow, mapBlock, Sort.ahead, Array.getElem?_modify, this]
theorem take_put (cur : Array Value) (xs : List Value) (h : xs.length ≤ cur.size) : (putCells id 0 xs.toArray cur).toList.take xs.length = xs := by
 apply List.ext_getElem?
 intro j
 by_cases hj : j < xs.length
 ·rw [List.getElem?_take_of_lt hj, Array.getElem?_toList]
  simp [putCells, hj, show j < cur.size by omega]
 ·rw [List.getElem?_take_eq_none (by omega), List.getElem?_eq_none (by omega)]
theorem sorted_row (hk : ∀ x, (enc x).length = k) (hown : W.ownsRow base e k (.slice (some ⟨g, 0, none⟩) L.length cap) L.length (L.flatMap enc)) (hl : T.length = L.length) (q : Nat) (os : Array Obj) :
  (sortWorldK enc k W g 0 q T.toArray os).ownsRow base e k (.slice (some ⟨g, 0, none⟩) L.length cap) L.length (T.flatMap enc) ∧ W.grownBy (sortWorldK enc k W g 0 q T.toArray os) (some g) := by
 have hfl := flat_length enc k hk T
 unfold sortWorldK putRowK
 rw [flatK_list hk]
 refine ⟨⟨by rw [hfl, hl], ?_⟩, grownBy_put _ _ _⟩
 rcases hown.2 with ⟨h0, _⟩ | ⟨g', cap', cur, hv, hg, hh, hn, hc, hs, _⟩
 ·cases h0
 ·cases hv
  refine .inr ⟨g, cap, _, rfl, hg, heap_put _ _ _ hh, hn, hc, by simp [putCells, hs], ?_⟩
  rw [← hl, ← hfl]
  refine take_put cur _ ?_
  rw [hfl, hs, hl]
  exact Nat.mul_le_mul_right k hn
end
theorem swo_of_sto {α : Type} {lt : α → α → Bool} (h : STO lt) : SWO lt where
 irrefl := h.irrefl
 trans := h.trans
 ntrans x y z h1 h2 := by
  cases h3 : lt x z with
  | false => rfl
  | true =>
   by_cases e1 : lt y x = true
   ·have := h.trans y x z e1 h3
    rw [this] at h2; cases h2
   ·have := h.conn x y h1 (by simpa using e1)
    subst this
    rw [h3] at h2; cases h2
section
variable {α : Type} [DecidableEq α]
omit [DecidableEq α] in
theorem merge_mem (le : α → α → Bool) (L : List α) (z : α) : z ∈ L.mergeSort le ↔ z ∈ L := List.mem_mergeSort
omit [DecidableEq α] in
theorem merge_ord {lt : α → α → Bool} (h : STO lt) (L : List α) : (L.mergeSort fun x y => !lt y x).Pairwise fun a b => lt b a = false := by
 have hw := swo_of_sto h
 have := List.pairwise_mergeSort (le := fun x y => !lt y x)
  (fun a b c h1 h2 => by simp only [Bool.not_eq_true'] at h1 h2 ⊢; exact hw.ntrans c b a h2 h1)
  (fun a b => by
   cases h1 : lt b a with
   | false => rfl
   | true => simp [h.asymm h1]) L
 exact this.imp fun h1 => by simpa using h1
def uniq (lt : α → α → Bool) (L : List α) : List α := cmpct (L.mergeSort fun x y => !lt y x)
theorem uniq_mem (lt : α → α → Bool) (L : List α) (z : α) : z ∈ uniq lt L ↔ z ∈ L := by rw [uniq, cmpct_mem, merge_mem]
theorem uniq_srt {lt : α → α → Bool} (h : STO lt) (L : List α) : Srt lt (uniq lt L) := cmpct_srt h _ (merge_ord h L)
end
end Go.Proofs.YtkonookacfmfgaaGreatDoor

namespace Go.Proofs.YtkonookacfmfgaaGreatDoor
open Go.RowKit
open Go.Sort (HoldsK grow alloc_eq_grow grow_grow drew_grow SWO)
def ndCf (x y : NdP) : Int := fxCmp x.1 x.2 y.1 y.2
theorem ndCf_lt : ltOf ndCf = ndLt := by funext x y; exact fxCmp_lt _ _ _ _
set_option maxHeartbeats 400000 in
set_option maxRecDepth 100000 in
theorem ndcmp_any (x y : NdP) (w : World) :
  Calls Tryz.prog 51 #[.agg #[.string x.1, .int .i64 x.2], .agg #[.string y.1, .int .i64 y.2]] w fun e w' => e = .returned (.int .i64 (ndCf x y)) ∧ ∃ q os', w' = grow (w.drewN q) os' := by
 obtain ⟨n1, d1⟩ := x
 obtain ⟨n2, d2⟩ := y
 unfold ndCf fxCmp
 go_enter Tryz.func51, Tryz.ntmps51
 go_wp2
 go_region_held3 (fun w' => w'.cell? ⟨w.heap.size, 0, none⟩ = some (.string n1) ∧ w'.cell? ⟨w.heap.size, 1, none⟩ = some (.int .i64 d1) ∧ w'.cell? ⟨w.heap.size + 1, 0, none⟩ = some (.string n2) ∧ w'.cell? ⟨w.heap.size + 1, 1, none⟩ = some (.int .i64 d2)) (go_keep)
  (first | (go_at_call 53; refine (cmpS_any _ _ _).mono ?_; rintro e w' ⟨rfl, rfl⟩) | (go_at_call 54; refine (cmpI_any _ _ _).mono ?_; rintro e w' ⟨rfl, rfl⟩) | (go_at_call 52; refine (or2_any (cmpS n1 n2) (cmpI d1 d2) _ _ ?_ ?_).mono ?_; (go_simp); (go_simp); rintro e w' ⟨rfl, rfl⟩))
 all_goals
  go_wp2
  go_ret
  exact ⟨rfl, 1, _, by rw [alloc_eq_grow, alloc_eq_grow, alloc_eq_grow, grow_grow, grow_grow]; rfl⟩
theorem ndcmp_enter : ∀ args w, (callFunc 51 args).run Tryz.prog w = .ok (.enter 51 args) w := enters_of Tryz.func51 (by kernel_rfl) rfl
set_option maxRecDepth 100000 in
theorem sortN_any (base : Nat) (L : List NdP) (v : Value) (W : World) (hown : W.ownsRow base 66 2 v L.length (L.flatMap ndCells)) (hlen : L.length ≤ 4000000000000) :
  Calls Tryz.prog 49 #[v, .func (.func 51) #[] #[]] W fun e W' => e = .returned (.tuple #[]) ∧
   W'.ownsRow base 66 2 v L.length ((L.mergeSort fun x y => !ndLt y x).flatMap ndCells) ∧ W.grownBy W' v.ownBlock := by
 rcases hown.2 with ⟨rfl, h0⟩ | ⟨g, cap, cur, rfl, hbg, hh, hn, hc, hs, ht⟩
 ·have hL : L = [] := List.eq_nil_of_length_eq_zero h0
  subst hL
  have h := AnyF.slices_SortFunc_none Tryz.laysNeed none 0 (.func (.func 51) #[] #[]) W
  refine Calls.mono (by exact h) ?_
  rintro e W' ⟨rfl, rfl⟩
  exact ⟨rfl, by simpa using hown, World.grownBy.refl _ _⟩
 ·have hblk : g < W.heap.size := (Array.getElem?_eq_some_iff.1 hh).1
  have h := AnyQ.slices_SortFunc_total (α := NdP) Tryz.laysNeed 2 Tryz.isAgg66 Tryz.sizeOf66 ndCells nd_len nd_oneCells ndCf (by rw [ndCf_lt]; exact swo_of_sto nd_sto) 51 #[] g 0 cap L.toArray W ndcmp_enter
   (fun m os dk _ x y => ndcmp_any x y _) (holdsK_own nd_len hown) hblk (by simp; omega) (by rw [ndCf_lt]; exact fun x y h1 h2 => nd_sto.conn x y h1 h2)
  refine Calls.mono (by exact h) ?_
  rintro e W' ⟨rfl, q, os, rfl⟩
  rw [ndCf_lt]
  obtain ⟨h1, h2⟩ := sorted_row (T := L.mergeSort fun x y => !ndLt y x) nd_len hown (List.length_mergeSort _) q os
  exact ⟨rfl, h1, h2⟩
def ndOrder : Value := .agg #[.func (.func 51) #[] #[]]
set_option maxHeartbeats 1000000 in
set_option maxRecDepth 100000 in
theorem uniqN_any (base : Nat) (L : List NdP) (v : Value) (W : World) (hown : W.ownsRow base 66 2 v L.length (L.flatMap ndCells)) (hlen : L.length ≤ 4000000000000) (hbase : base ≤ W.heap.size) :
  Calls Tryz.prog 27 #[v, ndOrder] W fun e W' => ∃ v', e = .returned v' ∧ W'.ownsRow base 66 2 v' (uniq ndLt L).length ((uniq ndLt L).flatMap ndCells) ∧ Below base W W' := by
 have hb0 := below_a1 W (.cells #[.func (.func 51) #[] #[]] 73)
 have hown1 := ownsRow_below' hown hb0
 have hS := sortN_any base L v _ hown1 hlen
 have Hb0 := Lib.hid hb0
 have Hl := Lib.hid hlen
 obtain ⟨ad, n, cap, hv⟩ : ∃ ad n cap, v = .slice ad n cap := by
  rcases hown.2 with ⟨rfl, h⟩ | ⟨g, cap, cur, rfl, _⟩ <;> exact ⟨_, _, _, rfl⟩
 have HO := Lib.hid hown1
 subst hv
 clear hown hown1 hb0 hlen
 unfold ndOrder
 go_enter Tryz.func27, Tryz.ntmps27
 go_wp2_with (go_at_call 49; refine hS.mono ?_; rintro e w1 ⟨rfl, h1, h2⟩)
 have hml : (L.mergeSort fun x y => !ndLt y x).length = L.length := List.length_mergeSort _
 rw [← hml] at h1
 have hC := compactN_any base _ _ w1 h1 (by rw [hml]; exact Hl.out)
 have hb1 := (Hb0.out.mono hbase).grown h2 (by simp; omega) (fun k e => (HO.out.lt k e).1)
 have hlt1 := fun k e => (h1.lt k e).1
 clear h1 h2
 go_wp2_with (go_at_call 50; refine hC.mono ?_; rintro e w2 ⟨v2, rfl, h3, h4⟩)
 go_ret
 exact ⟨_, rfl, h3, hb1.grown h4 (Nat.le_trans hbase hb1.size) hlt1⟩
set_option maxRecDepth 100000 in
theorem ndOrder_any (W : World) : Calls Tryz.prog 28 #[] W fun e W' => e = .returned ndOrder ∧ Below W.heap.size W W' := by
 go_enter Tryz.func28, Tryz.ntmps28
 go_wp2
 refine bodyPost_ret (v := .agg #[.func (.func 51) #[] #[]]) (by simp [results, Tryz.results28, go_sem]) rfl ?_
 exact ⟨rfl, below_a1 _ _⟩
end Go.Proofs.YtkonookacfmfgaaGreatDoor

namespace Go.Proofs.YtkonookacfmfgaaGreatDoor
open Go.RowKit
theorem RdCx.own_far {w : World} {base F j : Nat} {l : List ChP} {v u : Value} (h : w.ownsRow base 80 4 v l.length (l.flatMap cxCells)) (hF : F < base) : RdCx (w.setCell ⟨F, j, none⟩ u) l v := by
 have h2 := RdCx.own h
 obtain ⟨ad, cap, rfl, hc⟩ := h2
 refine ⟨ad, cap, rfl, fun k x hk => ?_⟩
 obtain ⟨b, off, rfl, h0, h1, h2, h3⟩ := hc k x hk
 have hb : base ≤ b := (h.lt b rfl).1
 refine ⟨b, off, rfl, ?_, ?_, ?_, ?_⟩
 all_goals
  rw [World.cell?_setCell_far _ _ _ _ (show F ≠ b by omega)]
  assumption
set_option maxRecDepth 1000000 in
theorem eqv_cx (p n q m : ByteArray) (d e : Int) (w : World) : (Op.equalIn 10000 80 (.agg #[.string p, .string n, .int .i64 d, .bool false]) (.agg #[.string q, .string m, .int .i64 e, .bool false])).run Tryz.prog w = .ok (decide (((p, n, d) : ChP) = (q, m, e))) w := by
 have hS : Tryz.prog.underlying 80 = some (.struct (Tryz.prog.fieldsOf 80)) := by kernel_rfl
 have hp : Tryz.prog.stoodInHeld 80 = false := by kernel_rfl
 rw [show (10000 : Nat) = 9999 + 1 from rfl, run_equalIn_agg w 9999 _ _ _ hS hp]
 simp only [Program.fieldsOf, Tryz.underlying80]
 have hE : decide (((p, n, d) : ChP) = (q, m, e)) = (if p.toList = q.toList then if n.toList = m.toList then if d = e then true else false else false else false) := by
  simp only [toList_eq_iff]
  by_cases h1 : p = q
  ·by_cases h2 : n = m
   ·by_cases h3 : d = e
    ·subst h1 h2 h3; simp
    ·rw [decide_eq_false (by simp [h3])]; simp [h3]
   ·rw [decide_eq_false (by simp [h2])]; simp [h2]
  ·rw [decide_eq_false (by simp [h1])]; simp [h1]
 rw [hE]
 clear hE
 go_simp
 split <;> (try split) <;> (try split) <;> simp [*]
theorem own_qc {w : World} {base : Nat} {e : TypeId} {size : Nat} {v : Value} {n : Nat} {xs : List Value} (h : w.ownsRow base e size v n xs) (q : Nat) (o : Obj) : ((w.drewN q).alloc o).ownsRow base e size v n xs :=
 World.ownsRow.alloc (show (w.drewN q).ownsRow base e size v n xs from h) o
set_option maxHeartbeats 8000000 in
set_option maxRecDepth 100000 in
theorem fchoice_any (F : Nat) (vN vD b3 : Value) (D : List ChP) (xp xn : ByteArray) (xd : Int) (ad : Option Addr) (cap : Nat) (W : World) (hD : D.length ≤ 4000000000000)
  (hb : BoxN W F 76 [vN, .slice ad D.length cap, vD, b3]) (hr : RdCx W D (.slice ad D.length cap)) :
  Calls Tryz.prog 114 #[.pointer (some ⟨F, 0, none⟩), .agg #[.string xp, .string xn, .int .i64 xd, .bool false]] W fun e W' => e = .returned (.tuple #[]) ∧ W.grownBy W' (some F) ∧ ∃ ad' cap', BoxN W' F 76 [vN, .slice ad' (insL chxLt 1000 D (xp, xn, xd)).length cap', vD, b3] ∧ RdCx W' (insL chxLt 1000 D (xp, xn, xd)) (.slice ad' (insL chxLt 1000 D (xp, xn, xd)).length cap') := by
 obtain ⟨i0, hi, hz0, hz1, hz2⟩ := info_parts info_ch
 obtain ⟨_, _, e0, hrd⟩ := hr
 cases e0
 obtain ⟨n, hln⟩ : ∃ n, D.length = n := ⟨_, rfl⟩
 have HR := Lib.hid hrd
 have HLn := Lib.hid hln
 have HB := Lib.hid hb
 have hF := hb.lt
 have c2 : W.cell? ⟨F, 1, none⟩ = some (.slice ad D.length cap) := hb.cell rfl
 rw [hln] at hD c2
 clear hrd hln hb
 go_enter Tryz.func114, Tryz.ntmps114
 by_cases hmany : 1000 < n
 ·have g0 : decide ((1000 : Int) < (n : Int)) = true := by rw [decide_eq_true_eq]; omega
  have HF : Hid (insL chxLt 1000 D (xp, xn, xd) = D) := Lib.hid (by unfold insL; rw [if_pos (.inl (by rw [HLn.out]; exact hmany))])
  have hbx := below_a1 W (.cells #[.string xp, .string xn, .int .i64 xd, .bool false] 80)
  go_wp2
  refine bodyPost_ret (results_none rfl _ _ _) rfl ?_
  refine ⟨rfl, grown_below hbx F, ad, cap, ?_, ?_⟩
  ·rw [HF.out]; exact HB.out.below hbx hF
  ·rw [HF.out]; exact RdCx.low ⟨_, _, rfl, HR.out⟩ hbx
 ·have g0 : decide ((1000 : Int) < (n : Int)) = false := by rw [decide_eq_false_iff_not]; omega
  go_wp2_with fail
  go_loopw [4, 5, 6] (fun s dn i wr => ∃ (k M : Nat) (b : Bool) (ad2 : Option Addr) (cap2 : Nat), k ≤ n ∧ i = .int .i64 (k : Int) ∧ s = .slice ad2 M cap2 ∧ dn = .bool b ∧ M ≤ k + 1 ∧ Hid ((xp, xn, xd) ∉ D.take k ∧ (insP chxLt (xp, xn, xd) (D.take k)).2 = b ∧ M = (insP chxLt (xp, xn, xd) (D.take k)).1.length) ∧
    wr.ownsRow (W.heap.size + 1) 80 4 (.slice ad2 M cap2) M ((insP chxLt (xp, xn, xd) (D.take k)).1.flatMap cxCells) ∧ Below W.heap.size W wr ∧ BoxN wr W.heap.size 80 [.string xp, .string xn, .int .i64 xd, .bool false]) (fun _ _ i _ => n - (intOf i).toNat)
  case atStart => exact ⟨0, 0, false, none, 0, Nat.zero_le _, rfl, rfl, rfl, by omega, Lib.hid ⟨by simp, rfl, rfl⟩, World.ownsRow_nil _ _ _ _, below_a1 _ _, BoxN.new W [.string xp, .string xn, .int .i64 xd, .bool false] _⟩
  case round =>
   clear c2
   obtain ⟨k, M, b, ad2, cap2, hk, rfl, rfl, rfl, hM, HI, hown, hbel, hbx⟩ := hrel
   have c2 : wr.cell? ⟨F, 1, none⟩ = some (.slice ad n cap) := by
    rw [hbel.cell (p := ⟨F, 1, none⟩) hF, ← HLn.out]; exact HB.out.cell rfl
   have hsz := hbel.size
   have HBX := Lib.hid hbx
   have x0 : wr.cell? ⟨W.heap.size, 0, none⟩ = some (.string xp) := hbx.cell rfl
   have x1 : wr.cell? ⟨W.heap.size, 1, none⟩ = some (.string xn) := hbx.cell rfl
   have x2 : wr.cell? ⟨W.heap.size, 2, none⟩ = some (.int .i64 xd) := hbx.cell rfl
   have x3 : wr.cell? ⟨W.heap.size, 3, none⟩ = some (.bool false) := hbx.cell rfl
   have hxl := hbx.lt
   clear hbx
   by_cases hlt : k < n
   ·obtain ⟨⟨yp, yn, yd⟩, hy⟩ : ∃ y, D[k]? = some y := ⟨_, List.getElem?_eq_getElem (by rw [HLn.out]; exact hlt)⟩
    obtain ⟨bb, off, rfl, y0, y1, y2, y3⟩ := HR.out k _ hy
    have hbW : bb < W.heap.size := World.block_lt_of_cell? W _ y0
    replace y0 := (hbel.cell hbW).trans y0
    replace y1 := (hbel.cell hbW).trans y1
    replace y2 := (hbel.cell hbW).trans y2
    replace y3 := (hbel.cell hbW).trans y3
    have hFl : F < wr.heap.size := by omega
    have hbl : bb < wr.heap.size := by omega
    have hk1 : (0 : Int) ≤ (k : Int) := by omega
    have hk2 : (k : Int) < (n : Int) := by omega
    have HP := Lib.hid (insP_take chxLt (xp, xn, xd) hy)
    have HY := Lib.hid hy
    clear hy
    have HP2 := Lib.hid HI.out.2.1
    have hq : ∀ W, (Op.equalIn 10000 80 (.agg #[.string yp, .string yn, .int .i64 yd, .bool false]) (.agg #[.string xp, .string xn, .int .i64 xd, .bool false])).run Tryz.prog W = .ok (decide (((yp, yn, yd) : ChP) = (xp, xn, xd))) W := fun W => eqv_cx yp yn xp xn yd xd W
    by_cases hxy : ((yp, yn, yd) : ChP) = (xp, xn, xd)
    ·rw [decide_eq_true hxy] at hq
     have HF : Hid (insL chxLt 1000 D (xp, xn, xd) = D) := Lib.hid (by unfold insL; rw [if_pos (.inr (eqB_true (hxy ▸ List.mem_of_getElem? HY.out)))])
     clear hxy
     go_wp2_with fail
     go_quiet (fail)
     go_wp2
     refine bodyPost_ret (results_none rfl _ _ _) rfl ?_
     have hbq := below_drewN hbel nq
     refine ⟨rfl, grown_below hbq F, some ⟨bb, off, none⟩, cap, ?_, ?_⟩
     ·rw [HF.out]; exact HB.out.below hbq hF
     ·rw [HF.out]; exact RdCx.low ⟨_, _, rfl, HR.out⟩ hbq
    ·rw [decide_eq_false hxy] at hq
     have HM : Hid ((xp, xn, xd) ∉ D.take (k + 1)) := Lib.hid (by
      rw [take_snoc_get HY.out, List.mem_append, List.mem_singleton]
      rintro (h | h)
      ·exact HI.out.1 h
      ·exact hxy h.symm)
     clear hxy
     cases b with
     | true =>
      have HS : Hid (insP chxLt (xp, xn, xd) (D.take (k + 1)) = ((insP chxLt (xp, xn, xd) (D.take k)).1 ++ [(yp, yn, yd)], true)) := Lib.hid (by rw [HP.out, insF, if_neg (by rw [HP2.out]; simp), HP2.out])
      go_wp2_with fail
      go_quiet (fail)
      go_wp2_with fail
      go_quiet (fail)
      have hsW : W.heap.size + 1 ≤ wr.heap.size := hxl
      have hlt1 := hown.lt
      go_wp2_with (at_builtin; refine wpList_append_at _ rfl _ _ 38 rfl (W.heap.size + 1) 80 i0 (.agg #[.string ⟨#[]⟩, .string ⟨#[]⟩, .int .i64 0, .bool false]) 4 48 ul_chs hi hz0 hz1 hz2 rfl (by decide) _ _ _ rfl (own_qc hown _ _) ⟨wr.heap.size, 0, none⟩ 1 1 [.string yp, .string yn, .int .i64 yd, .bool false] rfl rfl (cell_four_at _ _ _ _ _ _) (cx_oneCells (yp, yn, yd)) ?d1 ?d2 ?d3 ?_)
      case d1 => unfold maxLen; omega
      case d2 => omega
      case d3 => simp; omega
      intro vw2 w2 hown2 hgrow _
      have hB2 : Below (W.heap.size + 1) wr w2 := ((below_drewN (Below.refl (W.heap.size + 1) wr) _).alloc (by simp; omega) _).grown hgrow (by simp; omega) (fun k hk => (hlt1 k hk).1)
      have hbel2 : Below W.heap.size W w2 := hbel.trans (hB2.mono (Nat.le_succ _))
      obtain ⟨adw2, capw2, rfl, _⟩ := Sl.of_owns hown2
      have hsz2 := hbel2.size
      have hS2 : W.heap.size + 1 ≤ w2.heap.size := by have := hB2.size; omega
      clear hgrow hlt1
      have HN : Hid ((xp, xn, xd) ∉ D.take (k + 1) ∧ (insP chxLt (xp, xn, xd) (D.take (k + 1))).2 = true ∧ M + 1 = (insP chxLt (xp, xn, xd) (D.take (k + 1))).1.length) := Lib.hid ⟨HM.out, by rw [HS.out], by rw [HS.out, List.length_append, ← HI.out.2.2]; rfl⟩
      have hown3 : w2.ownsRow (W.heap.size + 1) 80 4 (.slice adw2 (M + 1) capw2) (M + 1) ((insP chxLt (xp, xn, xd) (D.take (k + 1))).1.flatMap cxCells) := by
       rw [HS.out, List.flatMap_append]; simpa [cxCells] using hown2
      have hbx2 := HBX.out.below hB2 (Nat.lt_succ_self _)
      clear hown2 hown hbel hB2
      go_wp2
      go_roundw
      case rel => exact ⟨k + 1, M + 1, true, adw2, capw2, by omega, by go_num, rfl, rfl, by omega, HN, hown3, hbel2, hbx2⟩
      case measure => simp [intOf]; omega
     | false =>
      obtain ⟨r, hr⟩ : ∃ r, chxLt (xp, xn, xd) (yp, yn, yd) = r := ⟨_, rfl⟩
      have HL : Hid (∀ V : World, Calls Tryz.prog 142 #[.agg #[.string xp, .string xn, .int .i64 xd, .bool false], .agg #[.string yp, .string yn, .int .i64 yd, .bool false]] V fun e w' => e = .returned (.bool r) ∧ Below V.heap.size V w') := Lib.hid fun V => hr ▸ rlessC_any xp xn yp yn xd yd V
      have HR2 := Lib.hid hr
      clear hr
      go_wp2_with fail
      go_quiet (fail)
      go_wp2_with fail
      refine wp_region_inv (fun L a w' => ∃ v0 v1 v2 v3 v4 v5 v6 v7 v8 v9 v10 v11 v12, a = ⟨#[.pointer (some ⟨F, 0, none⟩), .agg #[.string xp, .string xn, .int .i64 xd, .bool false], undef, .pointer (some ⟨W.heap.size, 0, none⟩), .slice ad2 M cap2, .bool false, .int .i64 (k : Int), .pointer (some ⟨F, 0, none⟩), .pointer (some ⟨F, 0, none⟩), .pointer (some ⟨F, 1, none⟩), .slice (some ⟨bb, off, none⟩) n cap, .int .i64 (n : Int), .bool false, .int .i64 (k : Int), .pointer (some ⟨F, 0, none⟩), .pointer (some ⟨F, 0, none⟩), .pointer (some ⟨F, 1, none⟩), .slice (some ⟨bb, off, none⟩) n cap, .int .i64 (n : Int), .bool true, u20, u21, .pointer (some ⟨F, 0, none⟩), .pointer (some ⟨F, 0, none⟩), .pointer (some ⟨F, 1, none⟩), .slice (some ⟨bb, off, none⟩) n cap, .int .i64 (k : Int), .pointer (some ⟨bb, off + k * 4, none⟩), .agg #[.string yp, .string yn, .int .i64 yd, .bool false], .agg #[.string xp, .string xn, .int .i64 xd, .bool false], .bool false, v0, v1, v2, v3, v4, v5, v6, v7, v8, v9, v10, v11, v12, u44, u45, u46, u47, u48, u49, u50, u51, u52, u53, u54, u55, u56, u57, undef, undef, undef, undef, undef, undef, undef, undef, undef, undef], []⟩ ∧ VInv wr [.bool false, .bool true, .bool true, .agg #[.string xp, .string xn, .int .i64 xd, .bool false], .pointer (some ⟨F, 0, none⟩), .pointer (some ⟨F, 0, none⟩), .pointer (some ⟨F, 1, none⟩), .slice (some ⟨bb, off, none⟩) n cap, .int .i64 (k : Int), .pointer (some ⟨bb, off + k * 4, none⟩), .agg #[.string yp, .string yn, .int .i64 yd, .bool false], .bool r, .bool r] [v0, v1, v2, v3, v4, v5, v6, v7, v8, v9, v10, v11, v12] L w') (by kernel_rfl) (by kernel_rfl) ?_ ?_ ?_
      ·exact ⟨_, _, _, _, _, _, _, _, _, _, _, _, _, rfl, VInv.start (below_drewN (Below.refl _ _) (nq + 1)) rfl⟩
      ·rintro L a w' ⟨v0, v1, v2, v3, v4, v5, v6, v7, v8, v9, v10, v11, v12, rfl, h⟩ i o ho hL hp
       have hi9 : i < 13 := by simpa using (Array.getElem?_eq_some_iff.1 ho).1
       have hi2 : i = 0 ∨ i = 1 ∨ i = 2 ∨ i = 3 ∨ i = 4 ∨ i = 5 ∨ i = 6 ∨ i = 7 ∨ i = 8 ∨ i = 9 ∨ i = 10 ∨ i = 11 ∨ i = 12 := by omega
       clear hi9
       rcases hi2 with rfl | rfl | rfl | rfl | rfl | rfl | rfl | rfl | rfl | rfl | rfl | rfl | rfl
       ·refine wpOp_step rfl ?_
        intro K hK
        go_simp
        exact hK _ _ ⟨_, _, _, _, _, _, _, _, _, _, _, _, _, rfl, h.step (i := 0) (v := .bool false) rfl⟩
       ·refine wpOp_step rfl ?_
        intro K hK
        obtain rfl := h.at (i := 0) (pred_spec ho hp (j := 0) (by kernel_rfl)) rfl rfl
        go_simp
        exact hK _ _ ⟨_, _, _, _, _, _, _, _, _, _, _, _, _, rfl, h.step (i := 1) (v := .bool true) rfl⟩
       ·refine wpOp_step rfl ?_
        intro K hK
        obtain rfl := h.at (i := 1) (pred_spec ho hp (j := 1) (by kernel_rfl)) rfl rfl
        go_simp
        exact hK _ _ ⟨_, _, _, _, _, _, _, _, _, _, _, _, _, rfl, h.step (i := 2) (v := .bool true) rfl⟩
       ·refine wpOp_step rfl ?_
        intro K hK
        obtain rfl := h.at (i := 2) (pred_spec ho hp (j := 2) (by kernel_rfl)) rfl rfl
        have x0' := (h.b.cell hxl).trans x0
        have x1' := (h.b.cell hxl).trans x1
        have x2' := (h.b.cell hxl).trans x2
        have x3' := (h.b.cell hxl).trans x3
        go_simp
        exact hK _ _ ⟨_, _, _, _, _, _, _, _, _, _, _, _, _, rfl, h.step (i := 3) (v := .agg #[.string xp, .string xn, .int .i64 xd, .bool false]) rfl⟩
       ·refine wpOp_step rfl ?_
        intro K hK
        obtain rfl := h.at (i := 2) (pred_spec ho hp (j := 2) (by kernel_rfl)) rfl rfl
        go_simp
        exact hK _ _ ⟨_, _, _, _, _, _, _, _, _, _, _, _, _, rfl, h.step (i := 4) (v := .pointer (some ⟨F, 0, none⟩)) rfl⟩
       ·refine wpOp_step rfl ?_
        intro K hK
        obtain rfl := h.at (i := 2) (pred_spec ho hp (j := 2) (by kernel_rfl)) rfl rfl
        obtain rfl := h.at (i := 4) (pred_spec ho hp (j := 4) (by kernel_rfl)) rfl rfl
        go_simp
        exact hK _ _ ⟨_, _, _, _, _, _, _, _, _, _, _, _, _, rfl, h.step (i := 5) (v := .pointer (some ⟨F, 0, none⟩)) rfl⟩
       ·refine wpOp_step rfl ?_
        intro K hK
        obtain rfl := h.at (i := 2) (pred_spec ho hp (j := 2) (by kernel_rfl)) rfl rfl
        obtain rfl := h.at (i := 5) (pred_spec ho hp (j := 5) (by kernel_rfl)) rfl rfl
        go_simp
        exact hK _ _ ⟨_, _, _, _, _, _, _, _, _, _, _, _, _, rfl, h.step (i := 6) (v := .pointer (some ⟨F, 1, none⟩)) rfl⟩
       ·refine wpOp_step rfl ?_
        intro K hK
        obtain rfl := h.at (i := 2) (pred_spec ho hp (j := 2) (by kernel_rfl)) rfl rfl
        obtain rfl := h.at (i := 6) (pred_spec ho hp (j := 6) (by kernel_rfl)) rfl rfl
        have c2' := (h.b.cell (p := ⟨F, 1, none⟩) hFl).trans c2
        go_simp
        exact hK _ _ ⟨_, _, _, _, _, _, _, _, _, _, _, _, _, rfl, h.step (i := 7) (v := .slice (some ⟨bb, off, none⟩) n cap) rfl⟩
       ·refine wpOp_step rfl ?_
        intro K hK
        obtain rfl := h.at (i := 2) (pred_spec ho hp (j := 2) (by kernel_rfl)) rfl rfl
        go_simp
        exact hK _ _ ⟨_, _, _, _, _, _, _, _, _, _, _, _, _, rfl, h.step (i := 8) (v := .int .i64 (k : Int)) rfl⟩
       ·refine wpOp_step rfl ?_
        intro K hK
        obtain rfl := h.at (i := 2) (pred_spec ho hp (j := 2) (by kernel_rfl)) rfl rfl
        obtain rfl := h.at (i := 7) (pred_spec ho hp (j := 7) (by kernel_rfl)) rfl rfl
        obtain rfl := h.at (i := 8) (pred_spec ho hp (j := 8) (by kernel_rfl)) rfl rfl
        go_simp
        exact hK _ _ ⟨_, _, _, _, _, _, _, _, _, _, _, _, _, rfl, h.step (i := 9) (v := .pointer (some ⟨bb, off + k * 4, none⟩)) rfl⟩
       ·refine wpOp_step rfl ?_
        intro K hK
        obtain rfl := h.at (i := 2) (pred_spec ho hp (j := 2) (by kernel_rfl)) rfl rfl
        obtain rfl := h.at (i := 9) (pred_spec ho hp (j := 9) (by kernel_rfl)) rfl rfl
        have y0' := (h.b.cell (p := ⟨bb, off + k * 4, none⟩) hbl).trans y0
        have y1' := (h.b.cell (p := ⟨bb, off + k * 4 + 1, none⟩) hbl).trans y1
        have y2' := (h.b.cell (p := ⟨bb, off + k * 4 + 2, none⟩) hbl).trans y2
        have y3' := (h.b.cell (p := ⟨bb, off + k * 4 + 3, none⟩) hbl).trans y3
        go_simp
        exact hK _ _ ⟨_, _, _, _, _, _, _, _, _, _, _, _, _, rfl, h.step (i := 10) (v := .agg #[.string yp, .string yn, .int .i64 yd, .bool false]) rfl⟩
       ·refine wpOp_step rfl ?_
        intro K hK
        obtain rfl := h.at (i := 2) (pred_spec ho hp (j := 2) (by kernel_rfl)) rfl rfl
        obtain rfl := h.at (i := 3) (pred_spec ho hp (j := 3) (by kernel_rfl)) rfl rfl
        obtain rfl := h.at (i := 10) (pred_spec ho hp (j := 10) (by kernel_rfl)) rfl rfl
        go_simp
        refine (HL.out _).mono ?_
        rintro e w4 ⟨rfl, hb4⟩
        exact hK _ _ ⟨_, _, _, _, _, _, _, _, _, _, _, _, _, rfl, (h.ext hb4).step (i := 11) (v := .bool r) rfl⟩
       ·refine wpOp_step rfl ?_
        intro K hK
        obtain rfl := h.at (i := 2) (pred_spec ho hp (j := 2) (by kernel_rfl)) rfl rfl
        obtain rfl := h.at (i := 11) (pred_spec ho hp (j := 11) (by kernel_rfl)) rfl rfl
        go_simp
        exact hK _ _ ⟨_, _, _, _, _, _, _, _, _, _, _, _, _, rfl, h.step (i := 12) (v := .bool r) rfl⟩
      ·rintro L a w4 ⟨v0, v1, v2, v3, v4, v5, v6, v7, v8, v9, v10, v11, v12, rfl, h⟩ hall
       obtain rfl := h.at (i := 0) (hall 0 (by decide)) rfl rfl
       obtain rfl := h.at (i := 1) (hall 1 (by decide)) rfl rfl
       obtain rfl := h.at (i := 2) (hall 2 (by decide)) rfl rfl
       obtain rfl := h.at (i := 3) (hall 3 (by decide)) rfl rfl
       obtain rfl := h.at (i := 4) (hall 4 (by decide)) rfl rfl
       obtain rfl := h.at (i := 5) (hall 5 (by decide)) rfl rfl
       obtain rfl := h.at (i := 6) (hall 6 (by decide)) rfl rfl
       obtain rfl := h.at (i := 7) (hall 7 (by decide)) rfl rfl
       obtain rfl := h.at (i := 8) (hall 8 (by decide)) rfl rfl
       obtain rfl := h.at (i := 9) (hall 9 (by decide)) rfl rfl
       obtain rfl := h.at (i := 10) (hall 10 (by decide)) rfl rfl
       obtain rfl := h.at (i := 11) (hall 11 (by decide)) rfl rfl
       obtain rfl := h.at (i := 12) (hall 12 (by decide)) rfl rfl
       have hb4 := h.b
       have hbel4 : Below W.heap.size W w4 := hbel.trans (hb4.mono hsz)
       have hown4 := ownsRow_below' hown hb4
       have HX4 := Lib.hid (HBX.out.below hb4 hxl)
       have x0' := (hb4.cell hxl).trans x0
       have x1' := (hb4.cell hxl).trans x1
       have x2' := (hb4.cell hxl).trans x2
       have x3' := (hb4.cell hxl).trans x3
       have c2' := (hb4.cell (p := ⟨F, 1, none⟩) hFl).trans c2
       have y0' := (hb4.cell (p := ⟨bb, off + k * 4, none⟩) hbl).trans y0
       have y1' := (hb4.cell (p := ⟨bb, off + k * 4 + 1, none⟩) hbl).trans y1
       have y2' := (hb4.cell (p := ⟨bb, off + k * 4 + 2, none⟩) hbl).trans y2
       have y3' := (hb4.cell (p := ⟨bb, off + k * 4 + 3, none⟩) hbl).trans y3
       have hs4 := hb4.size
       have hsW : W.heap.size + 1 ≤ w4.heap.size := by have := hxl; omega
       clear h hall hown hbel x0 x1 x2 x3 c2 y0 y1 y2 y3
       cases r with
       | true =>
        have HS : Hid (insP chxLt (xp, xn, xd) (D.take (k + 1)) = ((insP chxLt (xp, xn, xd) (D.take k)).1 ++ [(xp, xn, xd), (yp, yn, yd)], true)) := Lib.hid (by rw [HP.out, insF, if_pos ⟨HP2.out, HR2.out⟩])
        have hlt1 := hown4.lt
        go_wp2_with (at_builtin; refine wpList_append_at _ rfl _ _ 38 rfl (W.heap.size + 1) 80 i0 (.agg #[.string ⟨#[]⟩, .string ⟨#[]⟩, .int .i64 0, .bool false]) 4 48 ul_chs hi hz0 hz1 hz2 rfl (by decide) _ _ _ rfl (hown4.alloc _) ⟨w4.heap.size, 0, none⟩ 1 1 [.string xp, .string xn, .int .i64 xd, .bool false] rfl rfl (cell_four_at _ _ _ _ _ _) (cx_oneCells (xp, xn, xd)) ?d1 ?d2 ?d3 ?_)
        case d1 => unfold maxLen; omega
        case d2 => omega
        case d3 => simp; omega
        intro vw2 w2 hown2 hgrow _
        have hB2 : Below (W.heap.size + 1) w4 w2 := ((Below.refl (W.heap.size + 1) w4).alloc (by omega) _).grown hgrow (by simp; omega) (fun k hk => (hlt1 k hk).1)
        have hbel2 : Below W.heap.size W w2 := hbel4.trans (hB2.mono (Nat.le_succ _))
        obtain ⟨adw2, capw2, rfl, _⟩ := Sl.of_owns hown2
        have hsz2 := hbel2.size
        have hS2 : W.heap.size + 1 ≤ w2.heap.size := by have := hB2.size; omega
        clear hgrow hlt1
        have HMk : M ≤ k := by have h1 := insP_len chxLt (xp, xn, xd) (D.take k); rw [HP2.out, ← HI.out.2.2] at h1; simp at h1; omega
        replace c2' := (hB2.cell (p := ⟨F, 1, none⟩) (by show F < _; omega)).trans c2'
        replace y0' := (hB2.cell (p := ⟨bb, off + k * 4, none⟩) (by show bb < _; omega)).trans y0'
        replace y1' := (hB2.cell (p := ⟨bb, off + k * 4 + 1, none⟩) (by show bb < _; omega)).trans y1'
        replace y2' := (hB2.cell (p := ⟨bb, off + k * 4 + 2, none⟩) (by show bb < _; omega)).trans y2'
        replace y3' := (hB2.cell (p := ⟨bb, off + k * 4 + 3, none⟩) (by show bb < _; omega)).trans y3'
        have HX5 := Lib.hid (HX4.out.below hB2 (Nat.lt_succ_self _))
        clear hown4 hbel4 hB2 x0' x1' x2' x3'
        have hlt1 := hown2.lt
        go_wp2_with (at_builtin; refine wpList_append_at _ rfl _ _ 38 rfl (W.heap.size + 1) 80 i0 (.agg #[.string ⟨#[]⟩, .string ⟨#[]⟩, .int .i64 0, .bool false]) 4 48 ul_chs hi hz0 hz1 hz2 rfl (by decide) _ _ _ rfl (hown2.alloc _) ⟨w2.heap.size, 0, none⟩ 1 1 [.string yp, .string yn, .int .i64 yd, .bool false] rfl rfl (cell_four_at _ _ _ _ _ _) (cx_oneCells (yp, yn, yd)) ?d1 ?d2 ?d3 ?_)
        case d1 => unfold maxLen; omega
        case d2 => omega
        case d3 => simp; omega
        intro vw3 w3 hown3 hgrow _
        have hB3 : Below (W.heap.size + 1) w2 w3 := ((Below.refl (W.heap.size + 1) w2).alloc (by omega) _).grown hgrow (by simp; omega) (fun k hk => (hlt1 k hk).1)
        have hbel3 : Below W.heap.size W w3 := hbel2.trans (hB3.mono (Nat.le_succ _))
        obtain ⟨adw3, capw3, rfl, _⟩ := Sl.of_owns hown3
        have hsz3 := hbel3.size
        have hS3 : W.heap.size + 1 ≤ w3.heap.size := by have := hB3.size; omega
        clear hgrow hlt1
        have HN : Hid ((xp, xn, xd) ∉ D.take (k + 1) ∧ (insP chxLt (xp, xn, xd) (D.take (k + 1))).2 = true ∧ M + 1 + 1 = (insP chxLt (xp, xn, xd) (D.take (k + 1))).1.length) := Lib.hid ⟨HM.out, by rw [HS.out], by rw [HS.out, List.length_append, ← HI.out.2.2]; rfl⟩
        have hown5 : w3.ownsRow (W.heap.size + 1) 80 4 (.slice adw3 (M + 1 + 1) capw3) (M + 1 + 1) ((insP chxLt (xp, xn, xd) (D.take (k + 1))).1.flatMap cxCells) := by
         rw [HS.out, List.flatMap_append]; simpa [cxCells] using hown3
        have hbx3 := HX5.out.below hB3 (Nat.lt_succ_self _)
        clear hown2 hown3 hbel2 hB3
        go_wp2
        go_roundw
        case rel => exact ⟨k + 1, M + 1 + 1, true, adw3, capw3, by omega, by go_num, rfl, rfl, by omega, HN, hown5, hbel3, hbx3⟩
        case measure => simp [intOf]; omega
       | false =>
        have HS : Hid (insP chxLt (xp, xn, xd) (D.take (k + 1)) = ((insP chxLt (xp, xn, xd) (D.take k)).1 ++ [(yp, yn, yd)], false)) := Lib.hid (by rw [HP.out, insF, if_neg (by rw [HR2.out]; simp), HP2.out])
        have hlt1 := hown4.lt
        go_wp2_with (at_builtin; refine wpList_append_at _ rfl _ _ 38 rfl (W.heap.size + 1) 80 i0 (.agg #[.string ⟨#[]⟩, .string ⟨#[]⟩, .int .i64 0, .bool false]) 4 48 ul_chs hi hz0 hz1 hz2 rfl (by decide) _ _ _ rfl (hown4.alloc _) ⟨w4.heap.size, 0, none⟩ 1 1 [.string yp, .string yn, .int .i64 yd, .bool false] rfl rfl (cell_four_at _ _ _ _ _ _) (cx_oneCells (yp, yn, yd)) ?d1 ?d2 ?d3 ?_)
        case d1 => unfold maxLen; omega
        case d2 => omega
        case d3 => simp; omega
        intro vw2 w2 hown2 hgrow _
        have hB2 : Below (W.heap.size + 1) w4 w2 := ((Below.refl (W.heap.size + 1) w4).alloc (by omega) _).grown hgrow (by simp; omega) (fun k hk => (hlt1 k hk).1)
        have hbel2 : Below W.heap.size W w2 := hbel4.trans (hB2.mono (Nat.le_succ _))
        obtain ⟨adw2, capw2, rfl, _⟩ := Sl.of_owns hown2
        have hsz2 := hbel2.size
        have hS2 : W.heap.size + 1 ≤ w2.heap.size := by have := hB2.size; omega
        clear hgrow hlt1
        have HN : Hid ((xp, xn, xd) ∉ D.take (k + 1) ∧ (insP chxLt (xp, xn, xd) (D.take (k + 1))).2 = false ∧ M + 1 = (insP chxLt (xp, xn, xd) (D.take (k + 1))).1.length) := Lib.hid ⟨HM.out, by rw [HS.out], by rw [HS.out, List.length_append, ← HI.out.2.2]; rfl⟩
        have hown5 : w2.ownsRow (W.heap.size + 1) 80 4 (.slice adw2 (M + 1) capw2) (M + 1) ((insP chxLt (xp, xn, xd) (D.take (k + 1))).1.flatMap cxCells) := by
         rw [HS.out, List.flatMap_append]; simpa [cxCells] using hown2
        have hbx2 := HX4.out.below hB2 (Nat.lt_succ_self _)
        clear hown2 hown4 hbel4 hB2
        go_wp2
        go_roundw
        case rel => exact ⟨k + 1, M + 1, false, adw2, capw2, by omega, by go_num, rfl, rfl, by omega, HN, hown5, hbel2, hbx2⟩
        case measure => simp [intOf]; omega
   ·obtain rfl : k = n := by omega
    have HT : Hid (D.take k = D) := Lib.hid (List.take_of_length_le (by rw [HLn.out]; exact Nat.le_refl _))
    rw [HT.out] at HI hown
    have hFl : F < wr.heap.size := by omega
    have hsW : W.heap.size + 1 ≤ wr.heap.size := hxl
    have HD : Hid (insL chxLt 1000 D (xp, xn, xd) = insD chxLt (xp, xn, xd) D) := Lib.hid (by unfold insL; rw [if_neg (by rw [HLn.out]; exact fun h => h.elim hmany fun h => HI.out.1 (eqB_iff.1 h))])
    have hbx := HB.out.below hbel hF
    have z2 := hbx.frozen 1
    clear hlt hk
    cases b with
    | true =>
     have HS : Hid (insD chxLt (xp, xn, xd) D = (insP chxLt (xp, xn, xd) D).1) := Lib.hid (by unfold insD; rw [if_pos HI.out.2.1])
     have HW : Hid (W.grownBy (wr.setCell ⟨F, 1, none⟩ (.slice ad2 M cap2)) (some F) ∧ ∃ ad' cap', BoxN (wr.setCell ⟨F, 1, none⟩ (.slice ad2 M cap2)) F 76 [vN, .slice ad' (insL chxLt 1000 D (xp, xn, xd)).length cap', vD, b3] ∧ RdCx (wr.setCell ⟨F, 1, none⟩ (.slice ad2 M cap2)) (insL chxLt 1000 D (xp, xn, xd)) (.slice ad' (insL chxLt 1000 D (xp, xn, xd)).length cap')) := Lib.hid (by
      refine ⟨grown_set hbel, ad2, cap2, ?_, ?_⟩
      ·rw [HD.out, HS.out, ← HI.out.2.2]; exact hbx.set 1 _
      ·rw [HD.out, HS.out, ← HI.out.2.2]
       have h2 := hown
       rw [HI.out.2.2] at h2
       have h3 := RdCx.own_far (F := F) (j := 1) (u := .slice ad2 M cap2) h2 (by omega)
       rw [← HI.out.2.2] at h3
       exact h3)
     clear hown hbel hbx
     go_wp2
     go_end0
     exact ⟨rfl, HW.out.1, HW.out.2⟩
    | false =>
     have HS : Hid (insD chxLt (xp, xn, xd) D = (insP chxLt (xp, xn, xd) D).1 ++ [(xp, xn, xd)]) := Lib.hid (by unfold insD; rw [if_neg (by rw [HI.out.2.1]; simp)])
     have hlt1 := hown.lt
     go_wp2_with (at_builtin; refine wpList_append_at _ rfl _ _ 38 rfl (W.heap.size + 1) 80 i0 (.agg #[.string ⟨#[]⟩, .string ⟨#[]⟩, .int .i64 0, .bool false]) 4 48 ul_chs hi hz0 hz1 hz2 rfl (by decide) _ _ _ rfl (hown.alloc _) ⟨wr.heap.size, 0, none⟩ 1 1 [.string xp, .string xn, .int .i64 xd, .bool false] rfl rfl (cell_four_at _ _ _ _ _ _) (cx_oneCells (xp, xn, xd)) ?d1 ?d2 ?d3 ?_)
     case d1 => unfold maxLen; omega
     case d2 => omega
     case d3 => simp; omega
     intro vw2 w2 hown2 hgrow _
     have hB2 : Below (W.heap.size + 1) wr w2 := ((Below.refl (W.heap.size + 1) wr).alloc (by omega) _).grown hgrow (by simp; omega) (fun k hk => (hlt1 k hk).1)
     have hbel2 : Below W.heap.size W w2 := hbel.trans (hB2.mono (Nat.le_succ _))
     obtain ⟨adw2, capw2, rfl, _⟩ := Sl.of_owns hown2
     have hsz2 := hbel2.size
     have hS2 : W.heap.size + 1 ≤ w2.heap.size := by have := hB2.size; omega
     clear hgrow hlt1
     have hbx2 := HB.out.below hbel2 hF
     have z3 := hbx2.frozen 1
     have c3 : w2.cell? ⟨F, 1, none⟩ = some _ := hbx2.cell rfl
     have HW : Hid (W.grownBy (w2.setCell ⟨F, 1, none⟩ (.slice adw2 (M + 1) capw2)) (some F) ∧ ∃ ad' cap', BoxN (w2.setCell ⟨F, 1, none⟩ (.slice adw2 (M + 1) capw2)) F 76 [vN, .slice ad' (insL chxLt 1000 D (xp, xn, xd)).length cap', vD, b3] ∧ RdCx (w2.setCell ⟨F, 1, none⟩ (.slice adw2 (M + 1) capw2)) (insL chxLt 1000 D (xp, xn, xd)) (.slice ad' (insL chxLt 1000 D (xp, xn, xd)).length cap')) := Lib.hid (by
      have hl : (insD chxLt (xp, xn, xd) D).length = M + 1 := by rw [HS.out, List.length_append, ← HI.out.2.2]; rfl
      refine ⟨grown_set hbel2, adw2, capw2, ?_, ?_⟩
      ·rw [HD.out, hl]; exact hbx2.set 1 _
      ·rw [HD.out, hl]
       have h2 : w2.ownsRow (W.heap.size + 1) 80 4 (.slice adw2 (M + 1) capw2) (insD chxLt (xp, xn, xd) D).length ((insD chxLt (xp, xn, xd) D).flatMap cxCells) := by
        rw [hl, HS.out, List.flatMap_append]; simpa [cxCells] using hown2
       have h3 := RdCx.own_far (F := F) (j := 1) (u := .slice adw2 (M + 1) capw2) h2 (by omega)
       exact h3)
     clear hown hown2 hbel hbel2 hbx hbx2
     go_wp2
     go_end0
     exact ⟨rfl, HW.out.1, HW.out.2⟩
end Go.Proofs.YtkonookacfmfgaaGreatDoor
