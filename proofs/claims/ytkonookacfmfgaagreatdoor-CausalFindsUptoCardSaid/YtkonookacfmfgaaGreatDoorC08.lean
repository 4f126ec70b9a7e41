/-
  A round that writes into one element of a row of the call's own. slices.SortFunc and slices.Compact on a row of the call's own: the plain part. Rows of the call's own whose elements point to copies in new memory; a drawn region by an invariant, with its listed operations closed below.
-/
import Derived.Test.YtkonookacfmfgaaGreatDoorC07
import Derived.Test.YtkonookacfmfgaaGreatDoorC05
import Derived.Laws.IdiomCopy
namespace Go.Proofs.YtkonookacfmfgaaGreatDoor
open Go.RowKit
structure RSt (wr W : World) (T : TypeId) (m g B0 n cap : Nat) (os : List Value) : Prop where
 gr : wr.grownBy W (some g)
 own : W.ownsRow B0 T m (.slice (some ⟨g, 0, none⟩) n cap) n os
section
variable {wr W W' : World} {T : TypeId} {m g B0 n cap : Nat} {os : List Value}
theorem RSt.start (h : wr.ownsRow B0 T m (.slice (some ⟨g, 0, none⟩) n cap) n os) : RSt wr wr T m g B0 n cap os := ⟨World.grownBy.refl _ _, h⟩
theorem RSt.lt (h : RSt wr W T m g B0 n cap os) : B0 ≤ g ∧ g < W.heap.size := h.own.lt g rfl
theorem RSt.ext (h : RSt wr W T m g B0 n cap os) (hb : Below W.heap.size W W') : RSt wr W' T m g B0 n cap os :=
 ⟨h.gr.trans ⟨hb.os, hb.tape, hb.output, hb.size, fun k hk _ => hb.block k hk⟩, ownsRow_below' h.own hb⟩
theorem RSt.alloc (h : RSt wr W T m g B0 n cap os) (o : Obj) : RSt wr (W.alloc o) T m g B0 n cap os := h.ext (below_a1 _ _)
theorem RSt.set (h : RSt wr W T m g B0 n cap os) (j : Nat) (u : Value) : RSt wr (W.setCell ⟨g, j, none⟩ u) T m g B0 n cap (os.set j u) :=
 ⟨h.gr.trans (h.own.stored j u).2, (h.own.stored j u).1⟩
theorem RSt.but (h : RSt wr W T m g B0 n cap os) {K : Nat} (hK : wr.heap.size ≤ K) (hg : g < wr.heap.size) (hb : Below K W W') (hs : W.heap.size ≤ W'.heap.size) (ho : ∀ b, b ≠ K → W'.heap[b]? = W.heap[b]?) : RSt wr W' T m g B0 n cap os := by
 refine ⟨⟨hb.os.trans h.gr.os, hb.tape.trans h.gr.tape, hb.output.trans h.gr.output, Nat.le_trans h.gr.size hs, fun k hk hne => (ho k (by omega)).trans (h.gr.block k hk hne)⟩, ownsRow_kept h.own fun k hk _ => ho k ?_⟩
 have : g = k := by simpa [Value.ownBlock] using hk
 omega
theorem RSt.below {W0 : World} {B : Nat} (h : RSt wr W T m g B0 n cap os) (h0 : Below B W0 wr) (hB : B ≤ wr.heap.size) (hg : B ≤ g) : Below B W0 W :=
 h0.grown h.gr hB (fun k hk => by obtain rfl := Option.some.inj hk; exact hg)
theorem RSt.box {B : Nat} {t : TypeId} {cs : List Value} (h : RSt wr W T m g B0 n cap os) (hb : BoxN wr B t cs) (hB : B ≠ g) : BoxN W B t cs :=
 hb.of_block (h.gr.block B hb.lt (by simpa using hB))
theorem RSt.box2 {B : Nat} {t : TypeId} {u v : Value} (h : RSt wr W T m g B0 n cap os) (hb : Boxed2 wr B t u v) (hB : B ≠ g) : Boxed2 W B t u v :=
 hb.of_block (h.gr.block B hb.lt (by simpa using hB))
theorem RSt.at (h : RSt wr W T m g B0 n cap os) {j : Nat} {u : Value} (hj : os[j]? = some u) : W.cell? ⟨g, j, none⟩ = some u := by
 have hl : os.length = n * m := h.own.1
 rw [h.own.cellAt j (by rw [← hl]; exact (List.getElem?_eq_some_iff.1 hj).1)]
 exact hj
theorem RSt.ice (h : RSt wr W T m g B0 n cap os) (j : Nat) : W.frozen? ⟨g, j, none⟩ = false := h.own.frozenAt j
end
def upTo {α : Type} (f : α → α) (l : List α) (k : Nat) : List α := (l.take k).map f ++ l.drop k
theorem upTo_zero {α : Type} (f : α → α) (l : List α) : upTo f l 0 = l := by simp [upTo]
theorem upTo_end {α : Type} (f : α → α) (l : List α) : upTo f l l.length = l.map f := by simp [upTo]
theorem upTo_len {α : Type} (f : α → α) (l : List α) (k : Nat) : (upTo f l k).length = l.length := by
 simp [upTo]; omega
theorem drop_get {α : Type} {l : List α} {k : Nat} {x : α} (h : l[k]? = some x) : l.drop k = x :: l.drop (k + 1) := by
 obtain ⟨h1, h2⟩ := List.getElem?_eq_some_iff.1 h
 rw [List.drop_eq_getElem_cons h1, h2]
theorem upTo_split {α : Type} (f : α → α) {l : List α} {k : Nat} {x : α} (h : l[k]? = some x) : upTo f l k = (l.take k).map f ++ (x :: l.drop (k + 1)) := by rw [upTo, drop_get h]
theorem upTo_succ {α : Type} (f : α → α) {l : List α} {k : Nat} {x : α} (h : l[k]? = some x) : upTo f l (k + 1) = (l.take k).map f ++ (f x :: l.drop (k + 1)) := by
 rw [upTo, take_snoc_get h, List.map_append]; simp
theorem upTo_same {α : Type} (f : α → α) {l : List α} {k : Nat} {x : α} (h : l[k]? = some x) (hf : f x = x) : upTo f l (k + 1) = upTo f l k := by rw [upTo_succ f h, upTo_split f h, hf]
theorem set_flat {α : Type} {enc : α → List Value} {m : Nat} (hm : ∀ x, (enc x).length = m) (A B : List α) (x y : α) (k j : Nat) (u : Value) (hA : A.length = k) (hj : j < m) (hs : (enc x).set j u = enc y) :
  ((A ++ (x :: B)).flatMap enc).set (k * m + j) u = (A ++ (y :: B)).flatMap enc := by
 have hl : (A.flatMap enc).length = k * m := by rw [flat_length enc m hm, hA]
 rw [List.flatMap_append, List.flatMap_append, List.flatMap_cons, List.flatMap_cons, List.set_append_right _ _ (by omega), hl]
 rw [show k * m + j - k * m = j by omega, List.set_append_left _ _ (by rw [hm]; exact hj), hs]
theorem get_flat {α : Type} {enc : α → List Value} {m : Nat} (hm : ∀ x, (enc x).length = m) (A B : List α) (x : α) (k j : Nat) (u : Value) (hA : A.length = k) (hs : (enc x)[j]? = some u) :
  ((A ++ (x :: B)).flatMap enc)[k * m + j]? = some u := by
 have hl : (A.flatMap enc).length = k * m := by rw [flat_length enc m hm, hA]
 rw [List.flatMap_append, List.flatMap_cons, List.getElem?_append_right (by omega), hl, show k * m + j - k * m = j by omega, List.getElem?_append_left (List.getElem?_eq_some_iff.1 hs).1, hs]
end Go.Proofs.YtkonookacfmfgaaGreatDoor

namespace Go.Proofs.YtkonookacfmfgaaGreatDoor
open Go.RowKit
section
variable {α : Type}
theorem flat_at {enc : α → List Value} {m : Nat} (hm : ∀ x, (enc x).length = m) {C : List α} {k : Nat} {y : α} (hy : C[k]? = some y) (j : Nat) (u : Value) (hu : (enc y)[j]? = some u) : (C.flatMap enc)[k * m + j]? = some u := by
 have hk := (List.getElem?_eq_some_iff.1 hy).1
 have e : C = C.take k ++ (y :: C.drop (k + 1)) := by rw [← drop_get hy, List.take_append_drop]
 rw [e]
 exact get_flat (enc := enc) (m := m) hm (C.take k) (C.drop (k + 1)) y k j u (by rw [List.length_take]; omega) hu
end
section
variable {α : Type} [DecidableEq α]
theorem cmpct_snoc : ∀ (l : List α) (x y : α), cmpct (l ++ [x] ++ [y]) = if x = y then cmpct (l ++ [x]) else cmpct (l ++ [x]) ++ [y]
 | [], x, y => by
  show cmpct [x, y] = if x = y then cmpct [x] else cmpct [x] ++ [y]
  by_cases h : x = y
  ·subst h; simp [cmpct]
  ·simp [cmpct, h]
 | [a], x, y => by
  show cmpct (a :: x :: [y]) = if x = y then cmpct (a :: x :: []) else cmpct (a :: x :: []) ++ [y]
  simp only [cmpct]
  by_cases h : x = y <;> by_cases h2 : a = x <;> simp [h, h2]
 | a :: b :: l, x, y => by
  have ih := cmpct_snoc (b :: l) x y
  show cmpct (a :: b :: (l ++ [x] ++ [y])) = if x = y then cmpct (a :: b :: (l ++ [x])) else cmpct (a :: b :: (l ++ [x])) ++ [y]
  have ih2 : cmpct (b :: (l ++ [x] ++ [y])) = if x = y then cmpct (b :: (l ++ [x])) else cmpct (b :: (l ++ [x])) ++ [y] := ih
  rw [cmpct, cmpct, ih2]
  by_cases h : x = y <;> by_cases h2 : a = b <;> simp [h, h2]
theorem cmpct_len : ∀ l : List α, (cmpct l).length ≤ l.length
 | [] => by simp [cmpct]
 | [x] => by simp [cmpct]
 | x :: y :: l => by
  have := cmpct_len (y :: l)
  rw [cmpct]
  split
  ·simp at this ⊢; omega
  ·simp at this ⊢; omega
omit [DecidableEq α] in
theorem take_two {L : List α} {m : Nat} {x y : α} (hx : L[m]? = some x) (hy : L[m + 1]? = some y) : L.take (m + 2) = L.take m ++ [x] ++ [y] := by
 rw [take_snoc_get hy, take_snoc_get hx]
theorem cmpct_same {L : List α} {m : Nat} {x : α} (hx : L[m]? = some x) (hy : L[m + 1]? = some x) : cmpct (L.take (m + 2)) = cmpct (L.take (m + 1)) := by
 rw [take_two hx hy, cmpct_snoc, if_pos rfl, ← take_snoc_get hx]
theorem cmpct_new {L : List α} {m : Nat} {x y : α} (hx : L[m]? = some x) (hy : L[m + 1]? = some y) (hne : x ≠ y) : cmpct (L.take (m + 2)) = cmpct (L.take (m + 1)) ++ [y] := by
 rw [take_two hx hy, cmpct_snoc, if_neg hne, ← take_snoc_get hx]
theorem cmpct_same' {L : List α} {k : Nat} {x : α} (h1 : 1 ≤ k) (hx : L[k - 1]? = some x) (hy : L[k]? = some x) : cmpct (L.take (k + 1)) = cmpct (L.take k) := by
 obtain ⟨m, rfl⟩ : ∃ m, k = m + 1 := ⟨k - 1, by omega⟩
 exact cmpct_same hx hy
theorem cmpct_new' {L : List α} {k : Nat} {x y : α} (h1 : 1 ≤ k) (hx : L[k - 1]? = some x) (hy : L[k]? = some y) (hne : y ≠ x) : cmpct (L.take (k + 1)) = cmpct (L.take k) ++ [y] := by
 obtain ⟨m, rfl⟩ : ∃ m, k = m + 1 := ⟨k - 1, by omega⟩
 exact cmpct_new hx hy (Ne.symm hne)
theorem cmpct_full {L : List α} {k : Nat} {x y : α} (h1 : 1 ≤ k) (hx : L[k - 1]? = some x) (hy : L[k]? = some y) (hne : y ≠ x) (h : cmpct (L.take k) = L.take k) : cmpct (L.take (k + 1)) = L.take (k + 1) := by
 rw [cmpct_new' h1 hx hy hne, h, ← take_snoc_get hy]
theorem cmpct_half {L : List α} {k : Nat} {x : α} (h1 : 1 ≤ k) (hx : L[k - 1]? = some x) (hy : L[k]? = some x) (h : cmpct (L.take k) = L.take k) : cmpct (L.take (k + 1)) = L.take k := by
 rw [cmpct_same' h1 hx hy, h]
theorem cmpct_one (L : List α) : cmpct (L.take 1) = L.take 1 := by
 cases L with
 | nil => simp [cmpct]
 | cons a l => simp [cmpct]
def cRow (L : List α) (m : Nat) : List α := cmpct (L.take m) ++ L.drop (cmpct (L.take m)).length
theorem cRow_len (L : List α) (m : Nat) : (cRow L m).length = L.length := by
 have h := cmpct_len (L.take m)
 have : (L.take m).length ≤ L.length := by rw [List.length_take]; omega
 rw [cRow, List.length_append, List.length_drop]; omega
theorem cRow_high {L : List α} {m j : Nat} (h : (cmpct (L.take m)).length ≤ j) : (cRow L m)[j]? = L[j]? := by
 rw [cRow, List.getElem?_append_right h, List.getElem?_drop]
 congr 1; omega
theorem cRow_plain {L : List α} {m : Nat} (h : cmpct (L.take m) = L.take m) (hm : m ≤ L.length) : cRow L m = L := by
 rw [cRow, h, List.length_take, Nat.min_eq_left hm, List.take_append_drop]
end
section
variable {α : Type} [DecidableEq α]
theorem cRow_half {L : List α} {k : Nat} {x : α} (h1 : 1 ≤ k) (hx : L[k - 1]? = some x) (hy : L[k]? = some x) (h : cmpct (L.take k) = L.take k) : cRow L (k + 1) = L ∧ (cmpct (L.take (k + 1))).length = k := by
 have e := cmpct_half h1 hx hy h
 have hk := (List.getElem?_eq_some_iff.1 hy).1
 have hl : (L.take k).length = k := by rw [List.length_take]; omega
 refine ⟨?_, by rw [e, hl]⟩
 rw [cRow, e, hl, List.take_append_drop]
theorem cRow_skip {L : List α} {k : Nat} {x : α} (h1 : 1 ≤ k) (hx : L[k - 1]? = some x) (hy : L[k]? = some x) : cRow L (k + 1) = cRow L k := by
 rw [cRow, cmpct_same' h1 hx hy, cRow]
theorem cRow_keep {L : List α} {k : Nat} {x y z : α} (h1 : 1 ≤ k) (hx : L[k - 1]? = some x) (hy : L[k]? = some y) (hne : y ≠ x) (hz : L[(cmpct (L.take k)).length]? = some z) :
  cRow L k = cmpct (L.take k) ++ (z :: L.drop ((cmpct (L.take k)).length + 1)) ∧ cRow L (k + 1) = cmpct (L.take k) ++ (y :: L.drop ((cmpct (L.take k)).length + 1)) := by
 refine ⟨by rw [cRow, drop_get hz], ?_⟩
 rw [cRow, cmpct_new' h1 hx hy hne, List.length_append, List.append_assoc]; rfl
end
theorem cRow_end {α : Type} [DecidableEq α] {enc : α → List Value} {m : Nat} (hm : ∀ x, (enc x).length = m) (L : List α) : ((cRow L L.length).flatMap enc).take ((cmpct L).length * m) = (cmpct L).flatMap enc := by
 have hl := flat_length enc m hm (cmpct L)
 rw [cRow, List.take_length, List.flatMap_append, List.take_append_of_le_length (by rw [hl]; exact Nat.le_refl _), List.take_of_length_le (by rw [hl]; exact Nat.le_refl _)]
theorem RSt.sets {wr W : World} {T : TypeId} {m g B0 n cap : Nat} {os : List Value} (h : RSt wr W T m g B0 n cap os) : ∀ (vs : List Value) (o K : Nat), K ≤ o → ∃ os', RSt wr (W.setCells g o vs) T m g B0 n cap os' ∧ os'.take K = os.take K := by
 intro vs
 induction vs generalizing W os with
 | nil => intro o K _; exact ⟨os, h, rfl⟩
 | cons v r ih =>
  intro o K hK
  obtain ⟨os', h1, h2⟩ := ih (h.set o v) (o + 1) K (by omega)
  refine ⟨os', h1, ?_⟩
  rw [h2, List.take_set_of_le hK]
theorem RSt.drewN {wr W : World} {T : TypeId} {m g B0 n cap : Nat} {os : List Value} (h : RSt wr W T m g B0 n cap os) (q : Nat) : RSt wr (W.drewN q) T m g B0 n cap os := h.ext (below_drewN (Below.refl _ _) q)
theorem RSt.drew {wr W : World} {T : TypeId} {m g B0 n cap : Nat} {os : List Value} (h : RSt wr W T m g B0 n cap os) : RSt wr W.drew T m g B0 n cap os := h.ext (Below.refl _ _).drew
theorem run_clear_own {P : Program} {wr W : World} {t e : TypeId} {m g B0 n cap : Nat} {os : List Value} (h : RSt wr W e m g B0 n cap os) (ht : P.underlying t = some (.slice e)) (z : Value) (hv : ∀ w, (zeroValue e).run P w = .ok z w) (hz : z.cells.size = m) (h1 : ∀ u ∈ z.cells, u.oneCell' = true)
  (k c : Nat) (hk : k ≤ n) (ty : TypeId) : ∃ vs, (Builtin.clear_ #[t] ty #[.slice (some ⟨g, k * m, none⟩) (n - k) c]).run P W = .ok (.tuple #[]) (W.setCells g (k * m) vs) := by
 obtain ⟨q, hq⟩ : ∃ q, n - k = q := ⟨_, rfl⟩
 rw [hq]
 cases q with
 | zero => exact ⟨[], by simp [Builtin.clear_, run_underlying ht, World.setCells]⟩
 | succ q =>
  have hos := h.own.1
  have hmk : k * m + (q + 1) * m = n * m := by rw [← Nat.add_mul]; congr 1; omega
  have hl : (Builtin.zeroCells z.cells (q + 1)).toList.length = (q + 1) * m := by simp [Builtin.zeroCells, hz]
  have hst := run_storeCells_cells (P := P) g (k * m) (Builtin.zeroCells z.cells (q + 1)).toList 0 W
   (fun j hj => by
    rw [hl] at hj
    have hlt : k * m + j < os.length := by rw [hos]; omega
    rw [Nat.add_zero, h.at (List.getElem?_eq_getElem hlt)]; rfl)
   (fun j _ => h.ice _)
   (fun v hv' => by
    simp only [Builtin.zeroCells, Array.toList_map, List.mem_map] at hv'
    obtain ⟨i, hi, rfl⟩ := hv'
    have hm0 : 0 < z.cells.size := by
     rcases Nat.eq_zero_or_pos z.cells.size with h0 | h0
     ·simp [h0] at hi
     ·exact h0
    have hlt := Nat.mod_lt i hm0
    rw [getElem!_pos z.cells _ hlt]
    exact h1 _ (Array.getElem_mem hlt))
  refine ⟨(Builtin.zeroCells z.cells (q + 1)).toList, ?_⟩
  simp [Builtin.clear_, run_underlying ht, hv, hst]
end Go.Proofs.YtkonookacfmfgaaGreatDoor

namespace Go.Proofs.YtkonookacfmfgaaGreatDoor
open Go.RowKit
def Keep (o : Option Nat) (base : Nat) (w : World) (R : World → Prop) : Prop :=
 ∀ w' : World, w.heap.size ≤ w'.heap.size → (∀ b, base ≤ b → b < w.heap.size → some b ≠ o → w'.heap[b]? = w.heap[b]?) → R w'
section
variable {o o' : Option Nat} {base B : Nat} {w w' : World} {R : World → Prop}
theorem Keep.rd (h : Keep o base w R) : R w := h w (Nat.le_refl _) fun _ _ _ _ => rfl
theorem Keep.below (h : Keep o base w R) (hb : Below w.heap.size w w') : Keep o base w' R := fun w2 h1 h2 =>
 h w2 (Nat.le_trans hb.size h1) fun b hb1 hb2 hb3 => (h2 b hb1 (Nat.lt_of_lt_of_le hb2 hb.size) hb3).trans (hb.block b hb2)
theorem Keep.grown (h : Keep o base w R) (hg : w.grownBy w' o) (ho : o' = o ∨ ∃ g, o' = some g ∧ w.heap.size ≤ g) : Keep o' base w' R := fun w2 h1 h2 =>
 h w2 (Nat.le_trans hg.size h1) fun b hb1 hb2 hb3 => by
  have hne : some b ≠ o' := by
   rcases ho with rfl | ⟨g, rfl, hg2⟩
   ·exact hb3
   ·intro e; have := Option.some.inj e; omega
  exact (h2 b hb1 (Nat.lt_of_lt_of_le hb2 hg.size) hne).trans (hg.block b hb2 hb3)
theorem Keep.of_new (h : Keep none B w R) (hB : base ≤ B) (ho : ∀ b, o = some b → b < B) : Keep o base w R := fun w2 h1 h2 =>
 h w2 h1 fun b hb1 hb2 _ => h2 b (Nat.le_trans hB hb1) hb2 fun e => by have := ho b e.symm; omega
theorem Keep.set (h : Keep o base w R) {a : Addr} (ha : a.block < base) (u : Value) : Keep o base (w.setCell a u) R := fun w2 h1 h2 =>
 h w2 (by simpa [World.setCell] using h1) fun b hb1 hb2 hb3 => (h2 b hb1 (by simpa [World.setCell] using hb2) hb3).trans (Below.heap_setCell _ _ _ _ (by omega))
theorem Keep.imp {R' : World → Prop} (h : Keep o base w R) (hR : ∀ w', R w' → R' w') : Keep o base w R' := fun w2 h1 h2 => hR _ (h w2 h1 h2)
end
def PRow {α : Type} (enc : α → List Value) (e : TypeId) (m : Nat) (Rd : α → World → Prop) (R0 : World → Prop) (w : World) (D : Nat) (LL : List α) (a2 : Option Addr) (c2 : Nat) (wr : World) : Prop :=
 wr.ownsRow D e m (.slice a2 LL.length c2) LL.length (LL.flatMap enc) ∧ (∀ p ∈ LL, Keep (Value.slice a2 LL.length c2).ownBlock D wr (Rd p)) ∧ Below w.heap.size w wr ∧ D ≤ wr.heap.size ∧ Keep (Value.slice a2 LL.length c2).ownBlock D wr R0
section
variable {α : Type} {enc : α → List Value} {e : TypeId} {m : Nat} {Rd : α → World → Prop} {R0 : World → Prop} {w : World} {D : Nat} {LL : List α} {a2 : Option Addr} {c2 : Nat} {wr w1 w2 : World}
theorem PRow.own_lt (h : PRow enc e m Rd R0 w D LL a2 c2 wr) (b : Nat) (hb : (Value.slice a2 LL.length c2).ownBlock = some b) : D ≤ b ∧ b < wr.heap.size := h.1.lt b hb
theorem PRow.append (h : PRow enc e m Rd R0 w D LL a2 c2 wr) (hw : w.heap.size ≤ D) (hb : Below wr.heap.size wr w1) {y : α} (hk : Keep none wr.heap.size w1 (Rd y)) {v' : Value}
  (hown : w2.ownsRow D e m v' (LL.length + 1) (LL.flatMap enc ++ enc y)) (hg : w1.grownBy w2 (Value.slice a2 LL.length c2).ownBlock) (hl : v'.ownBlock = (Value.slice a2 LL.length c2).ownBlock ∨ ∃ g, v'.ownBlock = some g ∧ w1.heap.size ≤ g) :
  ∃ a3 c3, v' = .slice a3 (LL ++ [y]).length c3 ∧ PRow enc e m Rd R0 w D (LL ++ [y]) a3 c3 w2 := by
 obtain ⟨h1, h2, h3, h4, h5⟩ := h
 obtain ⟨a3, c3, rfl⟩ : ∃ a3 c3, v' = .slice a3 (LL.length + 1) c3 := by rcases hown.2 with ⟨rfl, h0⟩ | ⟨g, cap, _, rfl, _⟩; omega; exact ⟨_, _, rfl⟩
 have hz : (LL ++ [y]).length = LL.length + 1 := by simp
 refine ⟨a3, c3, by rw [hz], ?_, ?_, ?_, Nat.le_trans h4 (Nat.le_trans hb.size hg.size), by rw [hz]; exact (h5.below hb).grown hg hl⟩
 ·rw [hz, List.flatMap_append]
  simpa using hown
 ·rw [hz]
  intro p hp
  rcases List.mem_append.1 hp with hp | hp
  ·exact ((h2 p hp).below hb).grown hg hl
  ·obtain rfl : p = y := by simpa using hp
   exact (hk.of_new h4 fun b hb2 => (h1.lt b hb2).2).grown hg hl
 ·exact (h3.trans (hb.mono h3.size)).grown hg (Nat.le_trans h3.size hb.size) fun k hk2 => Nat.le_trans hw (h1.lt k hk2).1
theorem PRow.set (h : PRow enc e m Rd R0 w D LL a2 c2 wr) {a : Addr} (ha : a.block < D) (ha2 : w.heap.size ≤ a.block) (u : Value) : PRow enc e m Rd R0 w D LL a2 c2 (wr.setCell a u) := by
 obtain ⟨h1, h2, h3, h4, h5⟩ := h
 exact ⟨ownsRow_kept h1 fun k hk hk2 => Below.heap_setCell _ _ _ _ (by have := (h1.lt k hk).1; omega), fun p hp => (h2 p hp).set ha u, h3.setCell ha2 u, by simpa [World.setCell] using h4, h5.set ha u⟩
theorem PRow.box (h : PRow enc e m Rd R0 w D LL a2 c2 wr) {B : Nat} {t : TypeId} {cs : List Value} (hB : BoxN wr B t cs) (hBD : B < D) (hg : wr.grownBy w2 (Value.slice a2 LL.length c2).ownBlock) : BoxN w2 B t cs :=
 hB.of_block (hg.block _ hB.lt fun e => by have := (h.1.lt B e.symm).1; omega)
theorem PRow.cell (h : PRow enc e m Rd R0 w D LL a2 c2 wr) (hm : ∀ x, (enc x).length = m) {k : Nat} {y : α} (hy : LL[k]? = some y) {j : Nat} {u : Value} (hu : (enc y)[j]? = some u) (hag : ∀ b, D ≤ b → b < wr.heap.size → w2.heap[b]? = wr.heap[b]?) :
  ∃ g, a2 = some ⟨g, 0, none⟩ ∧ w2.cell? ⟨g, 0 + k * m + j, none⟩ = some u := by
 obtain ⟨h1, _⟩ := h
 have hk := (List.getElem?_eq_some_iff.1 hy).1
 obtain ⟨g, rfl⟩ := owns_some h1 (by omega)
 refine ⟨g, rfl, ?_⟩
 have h5 := h1.lt g rfl
 have h6 := h1.cells (g := g) rfl (k * m + j) u (flat_at hm hy j u hu)
 rw [Addr.add_lit] at h6
 rw [World.cell?_of_block (w := wr) (hag g h5.1 h5.2), Nat.add_assoc]
 exact h6
end
theorem PRow.kept {α : Type} {enc : α → List Value} {e : TypeId} {m : Nat} {Rd : α → World → Prop} {R0 : World → Prop} {w : World} {D : Nat} {LL : List α} {a2 : Option Addr} {c2 : Nat} {wr w1 w2 : World} (h : PRow enc e m Rd R0 w D LL a2 c2 wr) (hb : Below wr.heap.size wr w1) (hg : w1.grownBy w2 (Value.slice a2 LL.length c2).ownBlock)
  {B : Nat} {t : TypeId} {cs : List Value} (hB : BoxN wr B t cs) (hBD : B < D) : BoxN w2 B t cs :=
 BoxN.of_block hB ((hg.block B (Nat.lt_of_lt_of_le hB.lt hb.size) fun e => by have := (h.1.lt B e.symm).1; omega).trans (hb.block B hB.lt))
theorem cell_drewN {wr : World} (q : Nat) {p : Addr} {u : Value} (h : wr.cell? p = some u) : (wr.drewN q).cell? p = some u := h
theorem cell_below {wr w : World} (hb : Below wr.heap.size wr w) {p : Addr} {u : Value} (h : wr.cell? p = some u) : w.cell? p = some u := by
 rw [hb.cell (p := p) (World.block_lt_of_cell? wr _ h)]; exact h
theorem new_cells (w : World) (vs : List Value) (t : TypeId) : ∀ j u, vs[j]? = some u → (w.alloc (.cells vs.toArray t)).cell? ((⟨w.heap.size, 0, none⟩ : Addr).add j) = some u := by
 intro j u h
 rw [Addr.add_lit, Nat.zero_add]
 exact (BoxN.new w vs t).cell h
def Closed (ops : Array Oper) (L : Nat → Bool) : Prop := ∀ j o, ops[j]? = some o → L j = true → ∀ e ∈ o.after, Region.binds .any e = true → L e.on = true
section
variable {P : Program} {ops : Array Oper}
theorem upd_true {L : Nat → Bool} {i j : Nat} (h : L j = true) : upd L i j = true := by
 unfold upd
 split
 ·rfl
 ·exact h
theorem cl_spec {L : Nat → Bool} (hc : Closed ops L) {i j : Nat} (hi : L i = true) (h : predB .any ops i j = true) : L j = true := by
 cases ho : ops[i]? with
 | none => simp [predB, ho] at h
 | some o => exact pred_spec ho (hc i o ho hi) h
theorem cl_no {L : Nat → Bool} (hc : Closed ops L) {j : Nat} (hj : L j = false) (i : Nat) (h : predB .any ops i j = true) : L i = false := by
 cases hi : L i with
 | false => rfl
 | true => rw [cl_spec hc hi h] at hj; cases hj
theorem wp_region_invc {id : Nat} {Q : Exit → Act → World → Prop} {a : Act} {w : World} (Inv : (Nat → Bool) → Act → World → Prop) (hm : P.follows .mixedOrders = true) (hf : fwdB .any ops = true)
  (h0 : Inv (fun _ => false) a w.drew)
  (hst : ∀ L a w, Inv L a w → Closed ops L → ∀ i o, ops[i]? = some o → L i = false → (∀ e ∈ o.after, Region.binds .any e = true → L e.on = true) → wpOp P ops Q i (Inv (upd L i)) a w)
  (hend : ∀ L a w, Inv L a w → (∀ j, j < ops.size → L j = true) → Q .normal a w) : (Code.region id ops true).wp P Q a w := by
 refine wp_region_inv (fun L a w => Inv L a w ∧ Closed ops L) hm hf ⟨h0, fun _ _ _ h => by cases h⟩ ?_ fun L a w h => hend L a w h.1
 intro L a w ⟨h1, h2⟩ i o ho hL hp
 refine wpOp_mono (fun a' w' h3 => ⟨h3, ?_⟩) (hst L a w h1 h2 i o ho hL hp)
 intro j o2 hj hL2 e he hb
 by_cases hji : j = i
 ·subst hji
  rw [ho] at hj
  cases hj
  exact upd_true (hp e he hb)
 ·refine upd_true (h2 j o2 hj ?_ e he hb)
  unfold upd at hL2
  rwa [if_neg hji] at hL2
theorem step_append_at {w : World} {o : Oper} {a : Act} {K : Act → World → Prop} {Q : Exit → Act → World → Prop} {E : Prop} (hgd : o.guard = none) (s x : Operand) (t : TypeId)
  (ho : o.op = .call { callee := .builtin .append, args := #[s, x], argTypes := #[t, t] }) (base : Nat) (e : TypeId) (i : TypeInfo) (z : Value) (size bytes : Nat) (ht : P.underlying t = some (.slice e)) (hi : P.info? e = some i) (hz : i.zero = some z)
  (hsize : i.size = size) (hby : i.bytes = bytes) (hzs : z.cells.size = size) (hsz : 0 < size) (v : Value) (n : Nat) (xs : List Value) (hs : a.eval s = v) (hown : w.ownsRow base e size v n xs)
  (ad : Addr) (m c : Nat) (news : List Value) (hx : a.eval x = .slice (some ad) m c) (hl : news.length = m * size) (hnews : ∀ j u, news[j]? = some u → w.cell? (ad.add j) = some u) (h1 : ∀ u ∈ news, u.oneCell' = true)
  (h63 : n + m ≤ maxLen) (hbytes : (n + m) * bytes ≤ 140737488355328) (hbase : base ≤ w.heap.size)
  (h : ∀ v' w', w'.ownsRow base e size v' (n + m) (xs ++ news) → w.grownBy w' v.ownBlock → (v'.ownBlock = v.ownBlock ∨ ∃ g, v'.ownBlock = some g ∧ w.heap.size ≤ g) → K (a.put o.dst v') w') :
  if Region.wanted o (yielded ops a.tmps) = true then Oper.wp P o a w K Q else E := by
 have hw : Region.wanted o (yielded ops a.tmps) = true := by simp [Region.wanted, hgd]
 rw [if_pos hw]
 obtain ⟨v', w', hr, h2, h3, _⟩ := run_append_own (P := P) w base t o.type e i z size bytes ht hi hz hsize hby hzs hsz v n xs hown ad m c news hl hnews h1 h63 hbytes hbase
 have h4 := run_append_at w base t o.type e i z size bytes ht hi hz hsize hby v n xs hown ad m c news hl hnews h1 h63 hbytes hr
 unfold Oper.wp execOp
 simp only [ho, resolve, invoke, builtin, Sem.run_bind, Sem.run_pure, Result.andThen_ok, List.map_toArray, List.map_cons, List.map_nil, hs, hx, hr]
 exact h v' w' h2 h3 h4
end
structure TwI {σ : Type} (Q0 : World → Prop) (Q1 : World → σ → Prop) (Q2 : World → σ → Nat → Prop) (Q3 Q4 : World → σ → Value → Prop) (L : Nat → Bool) (s : σ) (g : Nat) (r : Value) (w : World) : Prop where
 a : L 7 = false → Q0 w
 b : L 7 = true → L 8 = false → Q1 w s
 c : L 8 = true → L 9 = false → Q2 w s g
 d : L 9 = true → L 11 = false → Q3 w s r
 e : L 11 = true → Q4 w s r
section
variable {σ : Type} {Q0 : World → Prop} {Q1 : World → σ → Prop} {Q2 : World → σ → Nat → Prop} {Q3 Q4 : World → σ → Value → Prop} {L : Nat → Bool} {s : σ} {r : Value} {g : Nat} {w : World}
theorem TwI.keep (h : TwI Q0 Q1 Q2 Q3 Q4 L s g r w) {i : Nat} (hi : i ≠ 7 ∧ i ≠ 8 ∧ i ≠ 9 ∧ i ≠ 11) : TwI Q0 Q1 Q2 Q3 Q4 (upd L i) s g r w := by
 have e : ∀ j, j ≠ i → upd L i j = L j := fun j hj => if_neg hj
 refine ⟨?_, ?_, ?_, ?_, ?_⟩
 ·rw [e 7 (Ne.symm hi.1)]; exact h.a
 ·rw [e 7 (Ne.symm hi.1), e 8 (Ne.symm hi.2.1)]; exact h.b
 ·rw [e 8 (Ne.symm hi.2.1), e 9 (Ne.symm hi.2.2.1)]; exact h.c
 ·rw [e 9 (Ne.symm hi.2.2.1), e 11 (Ne.symm hi.2.2.2)]; exact h.d
 ·rw [e 11 (Ne.symm hi.2.2.2)]; exact h.e
theorem TwI.u7 (h8 : L 8 = false) (h9 : L 9 = false) (h11 : L 11 = false) (h : Q1 w s) : TwI Q0 Q1 Q2 Q3 Q4 (upd L 7) s g r w :=
 ⟨fun k => (by simp [upd] at k), fun _ _ => h, fun k => (by simp [upd, h8] at k), fun k => (by simp [upd, h9] at k), fun k => (by simp [upd, h11] at k)⟩
theorem TwI.u8 (h7 : L 7 = true) (h9 : L 9 = false) (h11 : L 11 = false) (h : Q2 w s g) : TwI Q0 Q1 Q2 Q3 Q4 (upd L 8) s g r w :=
 ⟨fun k => (by simp [upd, h7] at k), fun _ k => (by simp [upd] at k), fun _ _ => h, fun k => (by simp [upd, h9] at k), fun k => (by simp [upd, h11] at k)⟩
theorem TwI.u9 (h7 : L 7 = true) (h8 : L 8 = true) (h11 : L 11 = false) (h : Q3 w s r) : TwI Q0 Q1 Q2 Q3 Q4 (upd L 9) s g r w :=
 ⟨fun k => (by simp [upd, h7] at k), fun _ k => (by simp [upd, h8] at k), fun _ k => (by simp [upd] at k), fun _ _ => h, fun k => (by simp [upd, h11] at k)⟩
theorem TwI.u11 (h7 : L 7 = true) (h8 : L 8 = true) (h9 : L 9 = true) (h : Q4 w s r) : TwI Q0 Q1 Q2 Q3 Q4 (upd L 11) s g r w :=
 ⟨fun k => (by simp [upd, h7] at k), fun _ k => (by simp [upd, h8] at k), fun _ k => (by simp [upd, h9] at k), fun _ k => (by simp [upd] at k), fun _ => h⟩
theorem TwI.bel {wr : World} (h : TwI Q0 Q1 Q2 Q3 Q4 L s g r w) (h0 : ∀ w, Q0 w → Below wr.heap.size wr w) (h1 : ∀ w s, Q1 w s → Below wr.heap.size wr w) (h2 : ∀ w s g, Q2 w s g → Below wr.heap.size wr w) (h9 : L 9 = false) : Below wr.heap.size wr w := by
 cases h7 : L 7 with
 | false => exact h0 _ (h.a h7)
 | true =>
  cases h8 : L 8 with
  | false => exact h1 _ _ (h.b h7 h8)
  | true => exact h2 _ _ _ (h.c h8 h9)
end
theorem VInv.re {a b c : World} {vals cur : List Value} {L : Nat → Bool} (h : VInv a vals cur L b) : VInv c vals cur L c := ⟨Below.refl _ _, h.len, h.f⟩
theorem VInv.skip {W0 w : World} {vals cur : List Value} {L : Nat → Bool} (h : VInv W0 vals cur L w) {i : Nat} (hi : vals.length ≤ i) : VInv W0 vals cur (upd L i) w := by
 refine ⟨h.b, h.len, fun j v hj hv => h.f j v ?_ hv⟩
 unfold upd at hj
 split at hj
 ·next e => subst e; rw [List.getElem?_eq_none hi] at hv; cases hv
 ·exact hj
theorem VInv.late {W0 w : World} {vals cur : List Value} {L : Nat → Bool} (h : VInv W0 vals cur L w) {i : Nat} (hL : L i = false) (u : Value) : VInv W0 (vals.set i u) cur L w := by
 refine ⟨h.b, by rw [List.length_set]; exact h.len, fun j v hj hv => ?_⟩
 by_cases e : i = j
 ·subst e; rw [hL] at hj; cases hj
 ·rw [List.getElem?_set_ne e] at hv
  exact h.f j v hj hv
end Go.Proofs.YtkonookacfmfgaaGreatDoor
