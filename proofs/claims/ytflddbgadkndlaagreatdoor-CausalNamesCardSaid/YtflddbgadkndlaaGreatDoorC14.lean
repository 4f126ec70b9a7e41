/-
  slices.SortFunc on a row of the call's own, at elements of k cells: from the row to the shelf's words and back. append onto a slice of the call's own: where the row lies then; a variable that holds such a slice. The closures of causal.Needs. slices.Compact at needs. causal.unique at needs.
-/
import Derived.Test.YtflddbgadkndlaaGreatDoorC13
import Derived.Test.YtflddbgadkndlaaGreatDoorC07
import Derived.Laws.AppendOwn
import Derived.RangeFuncBox
import Derived.Maps.AppendAt
import Derived.Laws.EntriesVeiled
import Derived.Test.YtflddbgadkndlaaGreatDoorC06
import Derived.Laws.StructEq
import Derived.IntWalk
import Derived.Test.YtflddbgadkndlaaGreatDoorC04
namespace Go.Proofs.YtflddbgadkndlaaGreatDoor
open Go.RowKit
open Go.Sort (HoldsK Holds flatK get_flatK size_flatK ext_get! putRowK putRow putCells mapBlock onCells grow heap_grow_old SWO)

section
variable {α : Type} [Inhabited α] {enc : α → List Value} {k : Nat}
theorem flatK_list (hk : ∀ x, (enc x).length = k) (L : List α) : flatK enc k L.toArray = (L.flatMap enc).toArray := by
  have hfl := flat_length enc k hk L
  refine ext_get! (by rw [size_flatK, List.size_toArray, List.size_toArray, hfl]) fun t ht => ?_
  have ht' : t < L.length * k := by rw [size_flatK] at ht; simpa using ht
  have k0 : 0 < k := by
    rcases Nat.eq_zero_or_pos k with h | h
    · subst h; simp at ht'
    · exact h
  rw [get_flatK _ _ _ t (by simpa using ht')]
  have hq : t / k < L.length := Nat.div_lt_of_lt_mul (by rw [Nat.mul_comm]; exact ht')
  have hm := Nat.mod_lt t k0
  have e : t / k * k + t % k = t := by rw [Nat.mul_comm]; exact Nat.div_add_mod t k
  have h1 := flat_at (enc := enc) (m := k) hk (List.getElem?_eq_getElem hq) (t % k) _ (List.getElem?_eq_getElem (by rw [hk]; exact hm))
  rw [e] at h1
  rw [getElem!_pos L.toArray (t / k) (by simpa using hq), getElem!_pos (enc L.toArray[t / k]) (t % k) (by rw [hk]; exact hm), getElem!_def, List.getElem?_toArray, h1]
  rfl

variable {W : World} {base g cap : Nat} {e : TypeId} {L T : List α}
theorem holdsK_own (hk : ∀ x, (enc x).length = k) (hown : W.ownsRow base e k (.slice (some ⟨g, 0, none⟩) L.length cap) L.length (L.flatMap enc)) : HoldsK enc k W g 0 L.toArray := by
  have hfl := flat_length enc k hk L
  unfold HoldsK
  rw [flatK_list hk]
  intro j hj
  have hj' : j < (L.flatMap enc).length := by simpa using hj
  refine ⟨?_, by rw [Nat.zero_add]; exact hown.frozenAt j⟩
  rw [Nat.zero_add, hown.cellAt j (by omega), List.getElem?_eq_getElem hj', getElem!_pos _ j hj]
  simp

theorem heap_put (F : Array Value) (q : Nat) (os : Array Obj) {cur : Array Value} {fr : Nat × Nat} (hb : W.heap[g]? = some (.cells cur e fr)) :
    (grow (putRow id (Sort.ahead W q) g 0 F) os).heap[g]? = some (.cells (putCells id 0 F cur) e fr) := by
  have hg : g < W.heap.size := (Array.getElem?_eq_some_iff.1 hb).1
  rw [heap_grow_old _ _ (by simpa using hg)]
  simp [putRow, mapBlock, Sort.ahead, Array.getElem?_modify, hb, onCells]

theorem grownBy_put (F : Array Value) (q : Nat) (os : Array Obj) : W.grownBy (grow (putRow id (Sort.ahead W q) g 0 F) os) (some g) := by
  refine ⟨rfl, rfl, rfl, by simp, fun j hj hne => ?_⟩
  rw [heap_grow_old _ _ (by simpa using hj)]
  have : g ≠ j := fun e => hne (by rw [e])
  simp [putRow, mapBlock, Sort.ahead, Array.getElem?_modify, this]

theorem take_put (cur : Array Value) (xs : List Value) (h : xs.length ≤ cur.size) : (putCells id 0 xs.toArray cur).toList.take xs.length = xs := by
  apply List.ext_getElem?
  intro j
  by_cases hj : j < xs.length
  · rw [List.getElem?_take_of_lt hj, Array.getElem?_toList]
    simp [putCells, hj, show j < cur.size by omega]
  · rw [List.getElem?_take_eq_none (by omega), List.getElem?_eq_none (by omega)]

theorem sorted_row (hk : ∀ x, (enc x).length = k) (hown : W.ownsRow base e k (.slice (some ⟨g, 0, none⟩) L.length cap) L.length (L.flatMap enc)) (hl : T.length = L.length) (q : Nat) (os : Array Obj) :
    (sortWorldK enc k W g 0 q T.toArray os).ownsRow base e k (.slice (some ⟨g, 0, none⟩) L.length cap) L.length (T.flatMap enc) ∧ W.grownBy (sortWorldK enc k W g 0 q T.toArray os) (some g) := by
  have hfl := flat_length enc k hk T
  unfold sortWorldK putRowK
  rw [flatK_list hk]
  refine ⟨⟨by rw [hfl, hl], ?_⟩, grownBy_put _ _ _⟩
  rcases hown.2 with ⟨h0, _⟩ | ⟨g', cap', cur, hv, hg, hh, hn, hc, hs, _⟩
  · cases h0
  · cases hv
    refine .inr ⟨g, cap, _, rfl, hg, heap_put _ _ _ hh, hn, hc, by simp [putCells, hs], ?_⟩
    rw [← hl, ← hfl]
    refine take_put cur _ ?_
    rw [hfl, hs, hl]
    exact Nat.mul_le_mul_right k hn
end

/-- A total order is a strict weak one. -/
theorem swo_of_sto {α : Type} {lt : α → α → Bool} (h : STO lt) : SWO lt where
  irrefl := h.irrefl
  trans := h.trans
  ntrans x y z h1 h2 := by
    cases h3 : lt x z with
    | false => rfl
    | true =>
      by_cases e1 : lt y x = true
      · have := h.trans y x z e1 h3
        rw [this] at h2; cases h2
      · have := h.conn x y h1 (by simpa using e1)
        subst this
        rw [h3] at h2; cases h2

section
variable {α : Type} [DecidableEq α]
omit [DecidableEq α] in
theorem merge_mem (le : α → α → Bool) (L : List α) (z : α) : z ∈ L.mergeSort le ↔ z ∈ L := List.mem_mergeSort
omit [DecidableEq α] in
theorem merge_ord {lt : α → α → Bool} (h : STO lt) (L : List α) : (L.mergeSort fun x y => !lt y x).Pairwise fun a b => lt b a = false := by
  have hw := swo_of_sto h
  have := List.pairwise_mergeSort (le := fun x y => !lt y x)
    (fun a b c h1 h2 => by simp only [Bool.not_eq_true'] at h1 h2 ⊢; exact hw.ntrans c b a h2 h1)
    (fun a b => by
      cases h1 : lt b a with
      | false => rfl
      | true => simp [h.asymm h1]) L
  exact this.imp fun h1 => by simpa using h1
/-- The sorted list, each once. -/
def uniq (lt : α → α → Bool) (L : List α) : List α := cmpct (L.mergeSort fun x y => !lt y x)
theorem uniq_mem (lt : α → α → Bool) (L : List α) (z : α) : z ∈ uniq lt L ↔ z ∈ L := by rw [uniq, cmpct_mem, merge_mem]
theorem uniq_srt {lt : α → α → Bool} (h : STO lt) (L : List α) : Srt lt (uniq lt L) := cmpct_srt h _ (merge_ord h L)
end
end Go.Proofs.YtflddbgadkndlaaGreatDoor

namespace Go.Proofs.YtflddbgadkndlaaGreatDoor
open Go.RowKit

theorem run_append_at {P : Program} (w : World) (base : Nat) (t ty e : TypeId) (i : TypeInfo) (z : Value) (size bytes : Nat) (ht : P.underlying t = some (.slice e)) (hi : P.info? e = some i) (hz : i.zero = some z)
    (hsize : i.size = size) (hby : i.bytes = bytes) (v : Value) (n : Nat) (xs : List Value) (hown : w.ownsRow base e size v n xs)
    (a : Addr) (m c : Nat) (news : List Value) (hl : news.length = m * size) (hnews : ∀ j u, news[j]? = some u → w.cell? (a.add j) = some u) (h1 : ∀ u ∈ news, u.oneCell' = true)
    (h63 : n + m ≤ maxLen) (hbytes : (n + m) * bytes ≤ 140737488355328) {v' : Value} {w' : World} (hrun : (Builtin.append_ #[t, t] ty #[v, .slice (some a) m c]).run P w = .ok v' w') :
    v'.ownBlock = v.ownBlock ∨ ∃ g, v'.ownBlock = some g ∧ w.heap.size ≤ g := by
  subst hsize
  subst hby
  have hsmall : n + m ≤ 9223372036854775807 := by simp only [maxLen] at h63; omega
  rcases hown.2 with ⟨rfl, rfl⟩ | ⟨g, cap, cur, rfl, hbg, hg, hnc, hcm, hcs, htake⟩
  · by_cases hm : m = 0
    · subst hm
      left
      have hr : (Builtin.append_ #[t, t] ty #[.slice none 0 0, .slice (some a) 0 c]).run P w = .ok (.slice none 0 0) w := by
        simp [Builtin.append_, run_underlying ht, sizeOf, typeInfo, hi, Builtin.lenOf, Builtin.firstCells, loadCells, loadCellsFrom]
      rw [hr] at hrun
      cases hrun
      rfl
    · right
      have hr := run_append_nil (P := P) w t ty e i z ht hi hz a m c news hl hnews (by omega) (by omega) (by have hb := hbytes; simp only [Nat.zero_add] at hb; omega)
      rw [hr] at hrun
      cases hrun
      exact ⟨_, rfl, Nat.le_refl _⟩
  · by_cases hroom : n + m ≤ cap
    · left
      have hfit : n * i.size + news.length ≤ cur.size := by rw [hl, hcs, ← Nat.add_mul]; exact Nat.mul_le_mul_right _ hroom
      have hr := run_append_room (P := P) w t ty e i ht hi g n cap cur hg a m c news hl hnews h1 hroom hfit
      rw [hr] at hrun
      cases hrun
      rfl
    · right
      have holds : ∀ j u, xs[j]? = some u → w.cell? ((⟨g, 0, none⟩ : Addr).add j) = some u := hown.cells (g := g) rfl
      have hr := run_append_grow (P := P) w t ty e i z ht hi hz ⟨g, 0, none⟩ n cap xs hown.1 holds a m c news hl hnews (by omega) (by omega) (growslice_fits (by omega) hbytes)
      rw [hr] at hrun
      cases hrun
      exact ⟨_, rfl, Nat.le_refl _⟩

theorem wpList_append_at {P : Program} (w : World) {ops : Array Oper} {rest : List Oper} {o : Oper} {a : Act} {Q : Exit → Act → World → Prop} (hgd : o.guard = none) (s x : Operand) (t : TypeId)
    (ho : o.op = .call { callee := .builtin .append, args := #[s, x], argTypes := #[t, t] })
    (base : Nat) (e : TypeId) (i : TypeInfo) (z : Value) (size bytes : Nat) (ht : P.underlying t = some (.slice e)) (hi : P.info? e = some i) (hz : i.zero = some z)
    (hsize : i.size = size) (hby : i.bytes = bytes) (hzs : z.cells.size = size) (hsz : 0 < size)
    (v : Value) (n : Nat) (xs : List Value) (hs : a.eval s = v) (hown : w.ownsRow base e size v n xs)
    (ad : Addr) (m c : Nat) (news : List Value) (hx : a.eval x = .slice (some ad) m c) (hl : news.length = m * size) (hnews : ∀ j u, news[j]? = some u → w.cell? (ad.add j) = some u) (h1 : ∀ u ∈ news, u.oneCell' = true)
    (h63 : n + m ≤ maxLen) (hbytes : (n + m) * bytes ≤ 140737488355328) (hbase : base ≤ w.heap.size)
    (h : ∀ v' w', w'.ownsRow base e size v' (n + m) (xs ++ news) → w.grownBy w' v.ownBlock → (v'.ownBlock = v.ownBlock ∨ ∃ g, v'.ownBlock = some g ∧ w.heap.size ≤ g) → wpList P ops Q rest (a.put o.dst v') w') : wpList P ops Q (o :: rest) a w := by
  refine wpList_plain hgd fun K hK => ?_
  obtain ⟨v', w', hr, h2, h3, _⟩ := run_append_own (P := P) w base t o.type e i z size bytes ht hi hz hsize hby hzs hsz v n xs hown ad m c news hl hnews h1 h63 hbytes hbase
  have h4 := run_append_at w base t o.type e i z size bytes ht hi hz hsize hby v n xs hown ad m c news hl hnews h1 h63 hbytes hr
  unfold Oper.wp execOp
  simp only [ho, resolve, invoke, builtin, Sem.run_bind, Sem.run_pure, Result.andThen_ok, List.map_toArray, List.map_cons, List.map_nil, hs, hx, hr]
  exact hK _ _ (h v' w' h2 h3 h4)

/-- The variable at Bo holds a slice of the call's own: the list L. -/
def RowAt {α : Type} (enc : α → List Value) (t e : TypeId) (m base Bo : Nat) (L : List α) (W : World) : Prop := ∃ v, Boxed W Bo t v ∧ W.ownsRow base e m v L.length (L.flatMap enc)
section
variable {α : Type} {enc : α → List Value} {t e : TypeId} {m base Bo : Nat} {L : List α} {W : World}
theorem RowAt.frame {W' : World} (h : RowAt enc t e m base Bo L W) (hb : Below W.heap.size W W') : RowAt enc t e m base Bo L W' := by
  obtain ⟨v, h1, h2⟩ := h
  exact ⟨v, (hb.block _ h1.lt).trans h1, ownsRow_below' h2 hb⟩
theorem RowAt.box (h : RowAt enc t e m base Bo L W) : Bo < W.heap.size := by
  obtain ⟨v, h1, _⟩ := h
  exact h1.lt
theorem RowAt.own (h : RowAt enc t e m base Bo L W) (b : Nat) (hb : OwnB Bo W b) : b < W.heap.size := by
  obtain ⟨v, h1, h2⟩ := h
  obtain ⟨u, hu, hub⟩ := hb
  rw [h1.cell] at hu
  cases hu
  exact (h2.lt b hub).2
theorem RowAt.ownB (h1 : ∃ v, Boxed W Bo t v ∧ W.ownsRow base e m v L.length (L.flatMap enc)) (b : Nat) (hb : OwnB Bo W b) : base ≤ b := by
  obtain ⟨v, h1, h2⟩ := h1
  obtain ⟨u, hu, hub⟩ := hb
  rw [h1.cell] at hu
  cases hu
  exact (h2.lt b hub).1
end
/-- Behind an append and the store: the variable holds the longer list; all else is kept. -/
theorem RowAt.step {t e : TypeId} {size base D Bo : Nat} {W w1 : World} {v v' : Value} {k m : Nat} {xs ys : List Value} {tmp : Obj} (hv : Boxed W Bo t v) (hte : t ≠ e) (hrow : W.ownsRow base e size v k xs) (hbase : base ≤ W.heap.size) (hB : base ≤ Bo) (hD : Bo < D)
    (hown' : w1.ownsRow base e size v' m ys) (hgrow : (W.alloc tmp).grownBy w1 v.ownBlock) (hloc : v'.ownBlock = v.ownBlock ∨ ∃ g, v'.ownBlock = some g ∧ W.heap.size + 1 ≤ g) :
    Boxed w1 Bo t v ∧ Boxed (w1.setCell ⟨Bo, 0, none⟩ v') Bo t v' ∧ (w1.setCell ⟨Bo, 0, none⟩ v').ownsRow base e size v' m ys ∧ KeptO base D Bo W (w1.setCell ⟨Bo, 0, none⟩ v') := by
  obtain ⟨h1, h2, h3, _, h5⟩ := Boxed.appended hv hte hrow hbase hB hown' hgrow
  refine ⟨h1, h2, h3, h5, fun b hb hl ho => ?_⟩
  have hne : some b ≠ v.ownBlock := fun e => ho ⟨v, hv.cell, e.symm⟩
  refine ⟨?_, ?_⟩
  · rw [Below.heap_setCell _ _ _ _ (show b ≠ Bo by omega), hgrow.block b (by simp; omega) hne, Below.heap_alloc _ _ _ hl]
  · rintro ⟨u, hu, hub⟩
    rw [h2.cell] at hu
    cases hu
    rcases hloc with e | ⟨g, e, hg⟩
    · exact hne (by rw [← e, hub])
    · rw [e] at hub
      cases hub
      omega
end Go.Proofs.YtflddbgadkndlaaGreatDoor

namespace Go.Proofs.YtflddbgadkndlaaGreatDoor
open Go.RowKit

theorem ul_nds : Tryz.prog.underlying 32 = some (.slice 58) := by kernel_rfl
theorem info_nd : (Tryz.prog.info? 58).map (fun i => (i.zero, i.size, i.bytes)) = some (some (.agg #[.string ⟨#[]⟩, .int .i64 0]), 2, 24) := by kernel_rfl
def ndCells (x : NdP) : List Value := [.string x.1, .int .i64 x.2]
theorem nd_oneCells (x : NdP) : ∀ u ∈ ndCells x, u.oneCell' = true := by intro u hu; simp [ndCells] at hu; rcases hu with rfl | rfl <;> rfl
theorem cell_two_at (w : World) (u v : Value) (t : TypeId) : ∀ j x, [u, v][j]? = some x → (w.alloc (.cells #[u, v] t)).cell? ((⟨w.heap.size, 0, none⟩ : Addr).add j) = some x := by
  intro j x hj
  match j, hj with
  | 0, h => cases h; simp [Addr.add]
  | 1, h => cases h; simp [Addr.add]
abbrev NRow (base Bo : Nat) (L : List NdP) (W : World) : Prop := RowAt ndCells 32 58 2 base Bo L W
/-- What the closure keeps from node to node. -/
def NKey (w0 : World) (D Bo Bd : Nat) (L0 : List NdP) (ds : List Int) (vds : Value) (pre : List Ex) (W : World) : Prop :=
  NRow w0.heap.size Bo (L0 ++ pre.flatMap (xNeed ds)) W ∧ W.cell? ⟨Bd, 0, none⟩ = some vds ∧ Prv D Bo W Bd ∧ DaysAt w0.heap.size D Bo W ds vds
theorem NKey.frame {w0 : World} {D Bo Bd : Nat} {L0 : List NdP} {ds : List Int} {vds : Value} {pre : List Ex} {W W' : World} (h : NKey w0 D Bo Bd L0 ds vds pre W) (hB : w0.heap.size ≤ W.heap.size) (hb : Below W.heap.size W W') : NKey w0 D Bo Bd L0 ds vds pre W' := by
  obtain ⟨h1, h2, h3, h4⟩ := h
  have hbo := h1.box
  exact ⟨h1.frame hb, by rw [hb.cell (p := ⟨Bd, 0, none⟩) h3.2.1]; exact h2, h3.low hbo hb, h4.low hB hbo hb⟩

set_option maxHeartbeats 4000000 in
set_option maxRecDepth 100000 in
theorem needf_any (w0 : World) (D Bo Bd : Nat) (L0 : List NdP) (ds : List Int) (vds : Value) (pre : List Ex) (y : Ex) (sy : Value) (W : World) (hBo : w0.heap.size ≤ Bo) (hBD : Bo < D) (hdl : ds.length ≤ 2000000) (hbd : (L0 ++ (pre ++ [y]).flatMap (xNeed ds)).length ≤ 4000000000000)
    (hK : NKey w0 D Bo Bd L0 ds vds pre W) (hbW : Below w0.heap.size w0 W) (hDW : D ≤ W.heap.size) (hsy : RdE w0 y.sub sy) :
    Calls Tryz.prog 34 #[y.val sy, .pointer (some ⟨Bd, 0, none⟩), .pointer (some ⟨Bo, 0, none⟩)] W fun e W' => e = .returned (.tuple #[]) ∧ NKey w0 D Bo Bd L0 ds vds (pre ++ [y]) W' ∧ KeptO w0.heap.size D Bo W W' := by
  obtain ⟨ad, cap, rfl⟩ := hsy.len
  obtain ⟨i0, hi, hz0, hz1, hz2⟩ := info_parts info_nd
  obtain ⟨hrow, hcd, hpd, hda⟩ := hK
  have hbo := hrow.box
  have hob := hrow.own
  have hbA := below_a1 W (.cells #[.int .u8 y.k, .string y.ra, .string y.nm, .int .i64 y.d, .slice ad y.sub.length cap] 25)
  have hk0 : KeptO w0.heap.size D Bo W (W.alloc (.cells #[.int .u8 y.k, .string y.ra, .string y.nm, .int .i64 y.d, .slice ad y.sub.length cap] 25)) := KeptO.of_below hbW.size hbo hbA
  have hbx := EBox.new W y (.slice ad y.sub.length cap) 25
  have hpB := Prv.new hDW hbo hob (.cells #[.int .u8 y.k, .string y.ra, .string y.nm, .int .i64 y.d, .slice ad y.sub.length cap] 25)
  have hK0 : NKey w0 D Bo Bd L0 ds vds pre (W.alloc (.cells #[.int .u8 y.k, .string y.ra, .string y.nm, .int .i64 y.d, .slice ad y.sub.length cap] 25)) := NKey.frame ⟨hrow, hcd, hpd, hda⟩ hbW.size hbA
  obtain ⟨adv, capv, rfl⟩ := hda.1.len
  have HSt : Hid (L0 ++ (pre ++ [y]).flatMap (xNeed ds) = L0 ++ pre.flatMap (xNeed ds) ++ xNeed ds y) := Lib.hid (by simp [List.flatMap_append])
  unfold Ex.val
  obtain ⟨W1, hW1⟩ : ∃ W1, W.alloc (.cells #[.int .u8 y.k, .string y.ra, .string y.nm, .int .i64 y.d, .slice ad y.sub.length cap] 25) = W1 := ⟨_, rfl⟩
  have hlW : W.heap.size < W1.heap.size := by rw [← hW1]; simp
  rw [hW1] at hbA hk0 hbx hpB hK0
  go_enter Tryz.func34, Tryz.ntmps34
  go_upto_region 1 with fail
  obtain ⟨c0, c1, c2, c3, c4⟩ := hbx
  have HK0 := Lib.hid hK0
  obtain ⟨⟨v, hbv, hown⟩, hcd1, hpd1, hda1⟩ := hK0
  have hlBd := hpd1.2.1
  have hlBo := hbv.lt
  have hcv := hbv.cell
  have hb01 := hbW.trans hk0.below
  obtain ⟨LL, hLL⟩ : ∃ LL, L0 ++ pre.flatMap (xNeed ds) = LL := ⟨_, rfl⟩
  rw [hLL] at hown HSt
  have HLL := Lib.hid hLL
  clear hrow hcd hpd hda hbo hob hW1 hLL
  by_cases h2 : y.k = 2
  · have t2 : ((y.k : Int) == 2) = true := by rw [h2]; rfl
    have t3 : ((y.k : Int) == 3) = false := by rw [h2]; rfl
    cases ds with
    | nil =>
      have HN : Hid (NKey w0 D Bo Bd L0 [] (.slice adv ([] : List Int).length capv) (pre ++ [y]) W1) := Lib.hid (by
        have h := HK0.out
        unfold NKey at h ⊢
        rw [HLL.out] at h
        rw [HSt.out, show xNeed [] y = [] from rfl, List.append_nil]
        exact h)
      clear h2 hda1 HK0 HSt
      go_wp2_with fail
      go_end0
      exact ⟨rfl, HN.out, hk0⟩
    | cons d0 dr =>
      have HX : Hid (xNeed (d0 :: dr) y = [(y.nm, y.d)]) := Lib.hid (by unfold xNeed; rw [if_neg (by simp), if_pos h2])
      have tl : decide ((0 : Int) < (dr.length : Int) + 1) = true := by rw [decide_eq_true_eq]; omega
      have hlb : LL.length + 1 ≤ 4000000000000 := by
        have h := hbd
        rw [HSt.out, HX.out, List.length_append] at h
        exact h
      clear h2
      go_wp2_with (at_builtin; refine wpList_append_at _ rfl _ _ 32 rfl w0.heap.size 58 i0 (.agg #[.string ⟨#[]⟩, .int .i64 0]) 2 24 ul_nds hi hz0 hz1 hz2 rfl (by decide) _ _ _ rfl (hown.alloc _) ⟨W1.heap.size, 0, none⟩ 1 1 [.string y.nm, .int .i64 y.d] rfl rfl (cell_two_at _ _ _ _) (nd_oneCells (y.nm, y.d)) ?d1 ?d2 ?d3 ?_)
      case d1 => unfold maxLen; omega
      case d2 => omega
      case d3 => have := hb01.size; simp; omega
      intro v' w' hown' hgrow hloc
      obtain ⟨g', cap', rfl⟩ := ownsRow_succ hown'
      obtain ⟨hb1, hb2, hr2, hk2⟩ := RowAt.step (D := D) hbv (by decide) hown hb01.size hBo hBD hown' hgrow hloc
      have HN : Hid (NKey w0 D Bo Bd L0 (d0 :: dr) (.slice adv (d0 :: dr).length capv) (pre ++ [y]) (w'.setCell ⟨Bo, 0, none⟩ (.slice (some ⟨g', 0, none⟩) (LL.length + 1) cap'))) := Lib.hid (by
        refine ⟨⟨_, hb2, ?_⟩, hpd1.cell hk2 hcd1, hpd1.kept hk2, hda1.kept hk2⟩
        rw [HSt.out, HX.out, List.length_append, List.flatMap_append]
        exact hr2)
      have HKK := Lib.hid (hk0.trans hk2)
      have hc5 := hb1.cell
      have hf5 := hb1.frozen
      have e0 := hpB.cell hk2 c0
      have hlB2 := (hpB.kept hk2).2.1
      clear hb2 hr2 hk2 hda1 HK0 HSt HX hown hgrow hown' hloc
      go_wp2_with fail
      go_end0
      exact ⟨rfl, HN.out, HKK.out⟩
  · have t2 : ((y.k : Int) == 2) = false := by simp; omega
    by_cases h3 : y.k = 3
    · have t3 : ((y.k : Int) == 3) = true := by rw [h3]; rfl
      have HX : Hid (xNeed ds y = ds.map fun d => (y.nm, d)) := Lib.hid (by
        unfold xNeed
        split
        · next h => rw [h]; rfl
        · first | rfl | (rw [if_pos h3]) | (rw [if_neg h2, if_pos h3]))
      have hlb : LL.length + ds.length ≤ 4000000000000 := by
        have h := hbd
        rw [HSt.out, HX.out, List.length_append, List.length_map] at h
        exact h
      have HP := Lib.hid (And.intro hpB (And.intro hpd1 hda1))
      have HC := Lib.hid (And.intro c0 (And.intro c2 hcd1))
      have hR0 : Hid (NRow w0.heap.size Bo (LL ++ (ds.take 0).map fun d => (y.nm, d)) W1) := Lib.hid (by
        rw [List.take_zero, List.map_nil, List.append_nil]; exact ⟨v, hbv, hown⟩)
      clear h2 h3 hown hbv hcv hda1
      go_wp2_with fail
      go_loopw [27] (fun i wr => ∃ k : Nat, k ≤ ds.length ∧ i = .int .i64 (k : Int) ∧ Hid (NRow w0.heap.size Bo (LL ++ (ds.take k).map fun d => (y.nm, d)) wr) ∧ KeptO w0.heap.size D Bo W1 wr) (fun i _ => ds.length - (intOf i).toNat)
      case atStart => exact ⟨0, Nat.zero_le _, rfl, hR0, KeptO.refl _⟩
      case round =>
        clear hR0 c0 c1 c2 c3 c4 hcd1 hlBo hlBd hlW
        obtain ⟨k, hk, rfl, HRr, hkr⟩ := hrel
        by_cases hlt : k < ds.length
        · obtain ⟨d, hdk⟩ : ∃ d, ds[k]? = some d := ⟨_, List.getElem?_eq_getElem hlt⟩
          obtain ⟨ad', cap', he, _, hrd⟩ := (HP.out.2.2.kept hkr).1
          obtain ⟨rfl, _, rfl⟩ := Value.slice.inj he
          obtain ⟨b, off, rfl, hcd⟩ := hrd k d hdk
          have q2 := HP.out.1.cell hkr HC.out.2.1
          have hlB := (HP.out.1.kept hkr).2.1
          have hbl : b < wr.heap.size := World.block_lt_of_cell? wr _ hcd
          obtain ⟨v, hbv, hown⟩ := HRr.out
          obtain ⟨LK, hLK⟩ : ∃ LK, (LL ++ (ds.take k).map fun d => (y.nm, d)) = LK := ⟨_, rfl⟩
          have HLK : Hid ((LL ++ (ds.take (k + 1)).map fun d => (y.nm, d)) = LK ++ [(y.nm, d)]) := Lib.hid (by rw [take_snoc_get hdk, ← hLK]; simp)
          have HLl : Hid (LK.length = LL.length + k) := Lib.hid (by rw [← hLK]; simp; omega)
          rw [hLK] at hown
          have hcv := hbv.cell
          have hbz := (hb01.trans hkr.below).size
          have hk1 : (0 : Int) ≤ (k : Int) := by omega
          have hk2 : (k : Int) < (ds.length : Int) := by omega
          have hlBo := hbv.lt
          clear hLK hrd hdk he
          go_wp2_with (at_builtin; refine wpList_append_at _ rfl _ _ 32 rfl w0.heap.size 58 i0 (.agg #[.string ⟨#[]⟩, .int .i64 0]) 2 24 ul_nds hi hz0 hz1 hz2 rfl (by decide) _ _ _ rfl (hown.alloc _) ⟨wr.heap.size, 0, none⟩ 1 1 [.string y.nm, .int .i64 d] rfl rfl (cell_two_at _ _ _ _) (nd_oneCells (y.nm, d)) ?d1 ?d2 ?d3 ?_)
          case d1 => have := HLl.out; unfold maxLen; omega
          case d2 => have := HLl.out; omega
          case d3 => first | omega | (simp; omega)
          intro v' w' hown' hgrow hloc
          obtain ⟨g', cap', rfl⟩ := ownsRow_succ hown'
          obtain ⟨hb1, hb2, hr2, hk3⟩ := RowAt.step (D := D) hbv (by decide) hown hbz hBo hBD hown' hgrow hloc
          have HN : Hid (NRow w0.heap.size Bo (LL ++ (ds.take (k + 1)).map fun d => (y.nm, d)) (w'.setCell ⟨Bo, 0, none⟩ (.slice (some ⟨g', 0, none⟩) (LK.length + 1) cap'))) := Lib.hid (by
            refine ⟨_, hb2, ?_⟩
            rw [HLK.out, List.length_append, List.flatMap_append]
            exact hr2)
          have hk5 := hkr.trans hk3
          have hc5 := hb1.cell
          have hf5 := hb1.frozen
          clear hb2 hr2 hk3 hown hgrow hown' hloc hkr hcd q2
          go_wp2_with fail
          go_roundw
          case rel => exact ⟨k + 1, by omega, by go_num, HN, hk5⟩
          case measure => simp [intOf]; omega
        · obtain rfl : k = ds.length := by omega
          have HN : Hid (NKey w0 D Bo Bd L0 ds (.slice adv ds.length capv) (pre ++ [y]) wr) := Lib.hid (by
            refine ⟨?_, HP.out.2.1.cell hkr HC.out.2.2, HP.out.2.1.kept hkr, HP.out.2.2.kept hkr⟩
            have h := HRr.out
            rw [List.take_length] at h
            rw [HSt.out, HX.out]
            exact h)
          have HKK := Lib.hid (hk0.trans hkr)
          go_wp2
          go_end0
          exact ⟨rfl, HN.out, HKK.out⟩
    · have t3 : ((y.k : Int) == 3) = false := by simp; omega
      have HN : Hid (NKey w0 D Bo Bd L0 ds (.slice adv ds.length capv) (pre ++ [y]) W1) := Lib.hid (by
        have h := HK0.out
        have hx : xNeed ds y = [] := by
          unfold xNeed
          split
          · rfl
          · first | rfl | (rw [if_neg h2, if_neg h3]) | (rw [if_neg h3])
        unfold NKey at h ⊢
        rw [HLL.out] at h
        rw [HSt.out, hx, List.append_nil]
        exact h)
      clear h2 h3 hda1 HK0 HSt
      go_wp2_with fail
      go_end0
      exact ⟨rfl, HN.out, hk0⟩
end Go.Proofs.YtflddbgadkndlaaGreatDoor

namespace Go.Proofs.YtflddbgadkndlaaGreatDoor
open Go.RowKit

theorem nd_len (x : NdP) : (ndCells x).length = 2 := rfl
theorem zv_nd : ∀ w, (zeroValue 58).run Tryz.prog w = .ok (.agg #[.string ⟨#[]⟩, .int .i64 0]) w := fun w => by go_simp

/-- A need stored. -/
theorem rowN_keep {L : List NdP} {k : Nat} {x y z : NdP} (h1 : 1 ≤ k) (hx : L[k - 1]? = some x) (hy : L[k]? = some y) (hne : y ≠ x) {kk : Nat} (hk : (cmpct (L.take k)).length = kk) (hz : L[kk]? = some z) :
    (((cRow L k).flatMap ndCells).set (kk * 2) (.string y.1)).set (kk * 2 + 1) (.int .i64 y.2) = (cRow L (k + 1)).flatMap ndCells ∧ (cmpct (L.take (k + 1))).length = kk + 1 := by
  subst hk
  obtain ⟨e1, e2⟩ := cRow_keep h1 hx hy hne hz
  refine ⟨?_, by rw [cmpct_new' h1 hx hy hne]; simp⟩
  rw [e1, e2]
  have s1 := set_flat (enc := ndCells) (m := 2) nd_len (cmpct (L.take k)) (L.drop ((cmpct (L.take k)).length + 1)) z (y.1, z.2) _ 0 (.string y.1) rfl (by decide) rfl
  have s2 := set_flat (enc := ndCells) (m := 2) nd_len (cmpct (L.take k)) (L.drop ((cmpct (L.take k)).length + 1)) (y.1, z.2) y _ 1 (.int .i64 y.2) rfl (by decide) rfl
  simp only [Nat.add_zero] at s1
  rw [s1, s2]

set_option maxHeartbeats 4000000 in
set_option maxRecDepth 100000 in
theorem compactN_any (base : Nat) (L : List NdP) (v : Value) (W : World) (hown : W.ownsRow base 58 2 v L.length (L.flatMap ndCells)) (hlen : L.length ≤ 4000000000000) :
    Calls Tryz.prog 67 #[v] W fun e W' => ∃ v', e = .returned v' ∧ W'.ownsRow base 58 2 v' (cmpct L).length ((cmpct L).flatMap ndCells) ∧ W.grownBy W' v.ownBlock := by
  by_cases hs : L.length < 2
  · have hc : cmpct L = L := by
      match L, hs with
      | [], _ => rfl
      | [a], _ => rfl
    rw [hc]
    have HO := Lib.hid hown
    obtain ⟨n, hn⟩ : ∃ n, L.length = n := ⟨_, rfl⟩
    obtain ⟨ad, cap, rfl⟩ : ∃ ad cap, v = .slice ad n cap := by
      rcases hown.2 with ⟨rfl, h⟩ | ⟨g, cap, cur, rfl, _⟩
      · exact ⟨none, 0, by rw [← hn, h]⟩
      · exact ⟨_, cap, by rw [hn]⟩
    rw [hn] at hs hlen
    clear hown hc
    go_enter Tryz.func67, Tryz.ntmps67
    go_wp2
    go_ret
    exact ⟨_, rfl, HO.out, World.grownBy.refl _ _⟩
  · obtain ⟨n, hn⟩ : ∃ n, L.length = n := ⟨_, rfl⟩
    have Hn := Lib.hid hn
    obtain ⟨g, cap, rfl, hcap⟩ : ∃ g cap, v = .slice (some ⟨g, 0, none⟩) n cap ∧ n ≤ cap ∧ cap ≤ maxLen := by
      rcases hown.2 with ⟨rfl, h⟩ | ⟨g, cap, cur, rfl, _, _, h1, h2, _⟩
      · omega
      · exact ⟨g, cap, by rw [hn], by omega, h2⟩
    rw [hn] at hs hlen hown
    have hR0 := RSt.start hown
    clear hown hn
    obtain ⟨hcap, hcm⟩ := hcap
    go_enter Tryz.func67, Tryz.ntmps67
    go_wp2
    go_loopw [3] (fun i wr => ∃ k : Nat, 1 ≤ k ∧ k ≤ n ∧ i = .int .i64 k ∧ Hid (cmpct (L.take k) = L.take k) ∧ RSt W wr 58 2 g base n cap (L.flatMap ndCells)) (fun i _ => n - (intOf i).toNat)
    case atStart => exact ⟨1, Nat.le_refl _, by omega, rfl, Lib.hid (cmpct_one L), hR0⟩
    case round =>
      clear hR0
      obtain ⟨k, hk1, hk, rfl, Hc, hR⟩ := hrel
      by_cases hlt : k < n
      · obtain ⟨x, hx⟩ : ∃ x, L[k - 1]? = some x := ⟨_, List.getElem?_eq_getElem (by rw [Hn.out]; omega)⟩
        obtain ⟨y, hy⟩ : ∃ y, L[k]? = some y := ⟨_, List.getElem?_eq_getElem (by rw [Hn.out]; omega)⟩
        obtain ⟨xn, xd⟩ := x
        obtain ⟨yn, yd⟩ := y
        have x0 : wr.cell? ⟨g, (k - 1) * 2, none⟩ = some (.string xn) := hR.at (flat_at nd_len hx 0 _ rfl)
        have x1 : wr.cell? ⟨g, (k - 1) * 2 + 1, none⟩ = some (.int .i64 xd) := hR.at (flat_at nd_len hx 1 _ rfl)
        have y0 : wr.cell? ⟨g, k * 2, none⟩ = some (.string yn) := hR.at (flat_at nd_len hy 0 _ rfl)
        have y1 : wr.cell? ⟨g, k * 2 + 1, none⟩ = some (.int .i64 yd) := hR.at (flat_at nd_len hy 1 _ rfl)
        have e1 : IntKind.i64.wrap ((k : Int) - 1) = ((k - 1 : Nat) : Int) := by rw [IntWalk.i64_in _ (by omega)]; omega
        have hl1 : ((k - 1 : Nat) : Int) < (n : Int) := by omega
        have hl0 : (k : Int) < (n : Int) := by omega
        have HX := Lib.hid hx
        have HY := Lib.hid hy
        clear hx hy
        go_wp2_with fail
        have Hyx := Lib.hid (toList_beq yn xn)
        cases h1 : (yn.toList == xn.toList) with
        | false =>
          have Hne : Hid ((yn, yd) ≠ (xn, xd)) := Lib.hid (by rw [Hyx.out, decide_eq_false_iff_not] at h1; exact fun e => h1 (Prod.mk.inj e).1)
          go_quiet (fail)
          go_wp2
          go_roundw
          case rel => exact ⟨k + 1, by omega, by omega, by go_num, Lib.hid (cmpct_full hk1 HX.out HY.out Hne.out Hc.out), hR.drewN _⟩
          case measure => simp [intOf]; omega
        | true =>
          by_cases h2 : yd = xd
          · go_quiet (fail)
            have HE : Hid ((yn, yd) = (xn, xd)) := Lib.hid (by rw [Hyx.out, decide_eq_true_eq] at h1; rw [h1, h2])
            have HY2 : Hid (L[k]? = some (xn, xd)) := Lib.hid (by rw [← HE.out]; exact HY.out)
            have hR1 := hR.drewN nq
            generalize wr.drewN nq = w1 at hR1 ⊢
            clear x0 x1 y0 y1 hR h1 h2 e1 hl1
            go_wp2
            go_loopw [3, 5] (fun s3 s5 wz => ∃ k2 kk : Nat, 1 ≤ k2 ∧ k + k2 ≤ n ∧ kk < k + k2 ∧ s3 = .int .i64 kk ∧ s5 = .int .i64 k2 ∧ Hid ((cmpct (L.take (k + k2))).length = kk) ∧ RSt W wz 58 2 g base n cap ((cRow L (k + k2)).flatMap ndCells)) (fun _ s5 _ => n - (intOf s5).toNat)
            case atStart => 
              have hh := cRow_half hk1 HX.out HY2.out Hc.out
              exact ⟨1, k, Nat.le_refl _, by omega, by omega, rfl, rfl, Lib.hid hh.2, by rw [hh.1]; exact hR1⟩
            case round =>
              clear hR1 hlt hl0
              obtain ⟨k2, kk, hk2, hkn, hkk, rfl, rfl, Hkk, hR⟩ := hrel
              by_cases hlt : k + k2 < n
              · obtain ⟨x, hx⟩ : ∃ x, L[k + k2 - 1]? = some x := ⟨_, List.getElem?_eq_getElem (by rw [Hn.out]; omega)⟩
                obtain ⟨y, hy⟩ : ∃ y, L[k + k2]? = some y := ⟨_, List.getElem?_eq_getElem (by rw [Hn.out]; omega)⟩
                obtain ⟨z, hz⟩ : ∃ z, L[kk]? = some z := ⟨_, List.getElem?_eq_getElem (by rw [Hn.out]; omega)⟩
                obtain ⟨un, ud⟩ := x
                obtain ⟨vn, vd⟩ := y
                obtain ⟨on, od⟩ := z
                have hcx := (cRow_high (L := L) (m := k + k2) (j := k + k2 - 1) (by rw [Hkk.out]; omega)).trans hx
                have hcy := (cRow_high (L := L) (m := k + k2) (j := k + k2) (by rw [Hkk.out]; omega)).trans hy
                have hcz := (cRow_high (L := L) (m := k + k2) (j := kk) (by rw [Hkk.out]; omega)).trans hz
                have x0 : wr.cell? ⟨g, k * 2 + (k2 - 1) * 2, none⟩ = some (.string un) := by rw [show k * 2 + (k2 - 1) * 2 = (k + k2 - 1) * 2 by omega]; exact hR.at (flat_at nd_len hcx 0 _ rfl)
                have x1 : wr.cell? ⟨g, k * 2 + (k2 - 1) * 2 + 1, none⟩ = some (.int .i64 ud) := by rw [show k * 2 + (k2 - 1) * 2 = (k + k2 - 1) * 2 by omega]; exact hR.at (flat_at nd_len hcx 1 _ rfl)
                have y0 : wr.cell? ⟨g, k * 2 + k2 * 2, none⟩ = some (.string vn) := by rw [show k * 2 + k2 * 2 = (k + k2) * 2 by omega]; exact hR.at (flat_at nd_len hcy 0 _ rfl)
                have y1 : wr.cell? ⟨g, k * 2 + k2 * 2 + 1, none⟩ = some (.int .i64 vd) := by rw [show k * 2 + k2 * 2 = (k + k2) * 2 by omega]; exact hR.at (flat_at nd_len hcy 1 _ rfl)
                have z0 : wr.cell? ⟨g, kk * 2, none⟩ = some (.string on) := hR.at (flat_at nd_len hcz 0 _ rfl)
                have z1 : wr.cell? ⟨g, kk * 2 + 1, none⟩ = some (.int .i64 od) := hR.at (flat_at nd_len hcz 1 _ rfl)
                have f0 := hR.ice (kk * 2)
                have f1 := hR.ice (kk * 2 + 1)
                have HX2 := Lib.hid hx
                have HZ2 := Lib.hid hz
                have HY3 := Lib.hid hy
                clear hx hy hz hcx hcy hcz
                have e1 : IntKind.i64.wrap ((k2 : Int) - 1) = ((k2 - 1 : Nat) : Int) := by rw [IntWalk.i64_in _ (by omega)]; omega
                have hl1 : ((k2 - 1 : Nat) : Int) < ((n - k : Nat) : Int) := by omega
                have hl0 : (k2 : Int) < ((n - k : Nat) : Int) := by omega
                have Huv := Lib.hid (toList_beq vn un)
                go_wp2_with fail
                cases h1 : (vn.toList == un.toList) with
                | false =>
                  have Hne : Hid ((vn, vd) ≠ (un, ud)) := Lib.hid (by rw [Huv.out, decide_eq_false_iff_not] at h1; exact fun e => h1 (Prod.mk.inj e).1)
                  have hst := rowN_keep (by omega) HX2.out HY3.out Hne.out Hkk.out HZ2.out
                  have hR2 := Lib.hid fun q : Nat => ((hR.drewN q).set (kk * 2) (.string vn)).set (kk * 2 + 1) (.int .i64 vd)
                  have HS := Lib.hid hst
                  clear hst hR
                  go_quiet (fail)
                  go_wp2
                  go_roundw
                  case rel =>
                    refine ⟨k2 + 1, kk + 1, by omega, by omega, by omega, by go_num, by go_num, Lib.hid HS.out.2, ?_⟩
                    have := hR2.out nq
                    rwa [HS.out.1] at this
                  case measure => simp [intOf]; omega
                | true =>
                  by_cases h2 : vd = ud
                  · have HE : Hid ((vn, vd) = (un, ud)) := Lib.hid (by rw [Huv.out, decide_eq_true_eq] at h1; rw [h1, h2])
                    have HY4 : Hid (L[k + k2]? = some (un, ud)) := Lib.hid (by rw [← HE.out]; exact HY3.out)
                    have HS := Lib.hid (And.intro (cRow_skip (by omega) HX2.out HY4.out) (cmpct_same' (by omega) HX2.out HY4.out))
                    have hR2 := Lib.hid fun q : Nat => hR.drewN q
                    clear hR
                    go_quiet (fail)
                    go_wp2
                    go_roundw
                    case rel => exact ⟨k2 + 1, kk, by omega, by omega, by omega, rfl, by go_num, Lib.hid (by rw [← Nat.add_assoc, HS.out.2]; exact Hkk.out), by rw [← Nat.add_assoc, HS.out.1]; exact hR2.out nq⟩
                    case measure => simp [intOf]; omega
                  · have Hne : Hid ((vn, vd) ≠ (un, ud)) := Lib.hid (fun e => h2 (Prod.mk.inj e).2)
                    have hst := rowN_keep (by omega) HX2.out HY3.out Hne.out Hkk.out HZ2.out
                    have hR2 := Lib.hid fun q : Nat => ((hR.drewN q).set (kk * 2) (.string vn)).set (kk * 2 + 1) (.int .i64 vd)
                    have HS := Lib.hid hst
                    clear hst hR
                    go_quiet (fail)
                    go_wp2
                    go_roundw
                    case rel =>
                      refine ⟨k2 + 1, kk + 1, by omega, by omega, by omega, by go_num, by go_num, Lib.hid HS.out.2, ?_⟩
                      have := hR2.out nq
                      rwa [HS.out.1] at this
                    case measure => simp [intOf]; omega
              · have hend : k + k2 = n := by omega
                obtain ⟨vs, hcl⟩ := run_clear_own hR ul_nds _ zv_nd rfl (by intro u hu; simp [Value.cells] at hu; rcases hu with rfl | rfl <;> rfl) kk (cap - kk) (by omega) 0
                obtain ⟨os', hR3, hos⟩ := hR.sets vs (kk * 2) (kk * 2) (Nat.le_refl _)
                have hfin := ownsRow_cut hR3.own kk (by omega)
                rw [hos] at hfin
                have hkl : (cmpct L).length = kk := by have := Hkk.out; rwa [hend, ← Hn.out, List.take_length] at this
                have hrow := cRow_end (enc := ndCells) (m := 2) nd_len L
                rw [Hn.out, ← hend, hkl] at hrow
                rw [hrow] at hfin
                have HF := Lib.hid (And.intro hfin hR3.gr)
                have Hkl := Lib.hid hkl
                clear hfin hrow hos hR3 hR hkl
                go_wp2
                go_ret
                refine ⟨_, rfl, ?_, HF.out.2⟩
                rw [Hkl.out]
                exact HF.out.1
          · have Hne : Hid ((yn, yd) ≠ (xn, xd)) := Lib.hid (fun e => h2 (Prod.mk.inj e).2)
            go_quiet (fail)
            go_wp2
            go_roundw
            case rel => exact ⟨k + 1, by omega, by omega, by go_num, Lib.hid (cmpct_full hk1 HX.out HY.out Hne.out Hc.out), hR.drewN _⟩
            case measure => simp [intOf]; omega
      · have hkn : k = n := by omega
        subst hkn
        have hf : Hid (cmpct L = L) := Lib.hid (by have := Hc.out; rwa [← Hn.out, List.take_length] at this)
        have HR := Lib.hid hR
        clear hR
        go_wp2
        go_ret
        refine ⟨_, rfl, ?_, HR.out.gr⟩
        rw [hf.out, Hn.out]
        exact HR.out.own
end Go.Proofs.YtflddbgadkndlaaGreatDoor

namespace Go.Proofs.YtflddbgadkndlaaGreatDoor
open Go.RowKit
open Go.Sort (HoldsK grow alloc_eq_grow grow_grow drew_grow SWO)

def ndCf (x y : NdP) : Int := fxCmp x.1 x.2 y.1 y.2
theorem ndCf_lt : ltOf ndCf = ndLt := by funext x y; exact fxCmp_lt _ _ _ _

set_option maxHeartbeats 400000 in
set_option maxRecDepth 100000 in
theorem ndcmp_any (x y : NdP) (w : World) :
    Calls Tryz.prog 68 #[.agg #[.string x.1, .int .i64 x.2], .agg #[.string y.1, .int .i64 y.2]] w fun e w' => e = .returned (.int .i64 (ndCf x y)) ∧ ∃ q os', w' = grow (w.drewN q) os' := by
  obtain ⟨n1, d1⟩ := x
  obtain ⟨n2, d2⟩ := y
  unfold ndCf fxCmp
  go_enter Tryz.func68, Tryz.ntmps68
  go_wp2
  go_region_held3 (fun w' => w'.cell? ⟨w.heap.size, 0, none⟩ = some (.string n1) ∧ w'.cell? ⟨w.heap.size, 1, none⟩ = some (.int .i64 d1) ∧ w'.cell? ⟨w.heap.size + 1, 0, none⟩ = some (.string n2) ∧ w'.cell? ⟨w.heap.size + 1, 1, none⟩ = some (.int .i64 d2)) (go_keep)
    (first | (go_at_call 70; refine (cmpS_any _ _ _).mono ?_; rintro e w' ⟨rfl, rfl⟩) | (go_at_call 71; refine (cmpI_any _ _ _).mono ?_; rintro e w' ⟨rfl, rfl⟩) | (go_at_call 69; refine (or2_any (cmpS n1 n2) (cmpI d1 d2) _ _ ?_ ?_).mono ?_; (go_simp); (go_simp); rintro e w' ⟨rfl, rfl⟩))
  all_goals
    go_wp2
    go_ret
    exact ⟨rfl, 1, _, by rw [alloc_eq_grow, alloc_eq_grow, alloc_eq_grow, grow_grow, grow_grow]; rfl⟩

theorem ndcmp_enter : ∀ args w, (callFunc 68 args).run Tryz.prog w = .ok (.enter 68 args) w := enters_of Tryz.func68 (by kernel_rfl) rfl

set_option maxRecDepth 100000 in
theorem sortN_any (base : Nat) (L : List NdP) (v : Value) (W : World) (hown : W.ownsRow base 58 2 v L.length (L.flatMap ndCells)) (hlen : L.length ≤ 4000000000000) :
    Calls Tryz.prog 66 #[v, .func (.func 68) #[] #[]] W fun e W' => e = .returned (.tuple #[]) ∧
      W'.ownsRow base 58 2 v L.length ((L.mergeSort fun x y => !ndLt y x).flatMap ndCells) ∧ W.grownBy W' v.ownBlock := by
  rcases hown.2 with ⟨rfl, h0⟩ | ⟨g, cap, cur, rfl, hbg, hh, hn, hc, hs, ht⟩
  · have hL : L = [] := List.eq_nil_of_length_eq_zero h0
    subst hL
    have h := AnyF.slices_SortFunc_none Tryz.laysNeed none 0 (.func (.func 68) #[] #[]) W
    refine Calls.mono (by exact h) ?_
    rintro e W' ⟨rfl, rfl⟩
    exact ⟨rfl, by simpa using hown, World.grownBy.refl _ _⟩
  · have hblk : g < W.heap.size := (Array.getElem?_eq_some_iff.1 hh).1
    have h := AnyQ.slices_SortFunc_total (α := NdP) Tryz.laysNeed 2 Tryz.isAgg58 Tryz.sizeOf58 ndCells nd_len nd_oneCells ndCf (by rw [ndCf_lt]; exact swo_of_sto nd_sto) 68 #[] g 0 cap L.toArray W ndcmp_enter
      (fun m os dk _ x y => ndcmp_any x y _) (holdsK_own nd_len hown) hblk (by simp; omega) (by rw [ndCf_lt]; exact fun x y h1 h2 => nd_sto.conn x y h1 h2)
    refine Calls.mono (by exact h) ?_
    rintro e W' ⟨rfl, q, os, rfl⟩
    rw [ndCf_lt]
    obtain ⟨h1, h2⟩ := sorted_row (T := L.mergeSort fun x y => !ndLt y x) nd_len hown (List.length_mergeSort _) q os
    exact ⟨rfl, h1, h2⟩

/-- The order of needs, as a value. -/
def ndOrder : Value := .agg #[.func (.func 68) #[] #[]]

set_option maxHeartbeats 1000000 in
set_option maxRecDepth 100000 in
theorem uniqN_any (base : Nat) (L : List NdP) (v : Value) (W : World) (hown : W.ownsRow base 58 2 v L.length (L.flatMap ndCells)) (hlen : L.length ≤ 4000000000000) (hbase : base ≤ W.heap.size) :
    Calls Tryz.prog 37 #[v, ndOrder] W fun e W' => ∃ v', e = .returned v' ∧ W'.ownsRow base 58 2 v' (uniq ndLt L).length ((uniq ndLt L).flatMap ndCells) ∧ Below base W W' := by
  have hb0 := below_a1 W (.cells #[.func (.func 68) #[] #[]] 89)
  have hown1 := ownsRow_below' hown hb0
  have hS := sortN_any base L v _ hown1 hlen
  have Hb0 := Lib.hid hb0
  have Hl := Lib.hid hlen
  obtain ⟨ad, n, cap, hv⟩ : ∃ ad n cap, v = .slice ad n cap := by
    rcases hown.2 with ⟨rfl, h⟩ | ⟨g, cap, cur, rfl, _⟩ <;> exact ⟨_, _, _, rfl⟩
  have HO := Lib.hid hown1
  subst hv
  clear hown hown1 hb0 hlen
  unfold ndOrder
  go_enter Tryz.func37, Tryz.ntmps37
  go_wp2_with (go_at_call 66; refine hS.mono ?_; rintro e w1 ⟨rfl, h1, h2⟩)
  have hml : (L.mergeSort fun x y => !ndLt y x).length = L.length := List.length_mergeSort _
  rw [← hml] at h1
  have hC := compactN_any base _ _ w1 h1 (by rw [hml]; exact Hl.out)
  have hb1 := (Hb0.out.mono hbase).grown h2 (by simp; omega) (fun k e => (HO.out.lt k e).1)
  have hlt1 := fun k e => (h1.lt k e).1
  clear h1 h2
  go_wp2_with (go_at_call 67; refine hC.mono ?_; rintro e w2 ⟨v2, rfl, h3, h4⟩)
  go_ret
  exact ⟨_, rfl, h3, hb1.grown h4 (Nat.le_trans hbase hb1.size) hlt1⟩

set_option maxRecDepth 100000 in
theorem ndOrder_any (W : World) : Calls Tryz.prog 38 #[] W fun e W' => e = .returned ndOrder ∧ Below W.heap.size W W' := by
  go_enter Tryz.func38, Tryz.ntmps38
  go_wp2
  refine bodyPost_ret (v := .agg #[.func (.func 68) #[] #[]]) (by simp [results, Tryz.results38, go_sem]) rfl ?_
  exact ⟨rfl, below_a1 _ _⟩
end Go.Proofs.YtflddbgadkndlaaGreatDoor
