/-
  The contracts that novationlaw15.alive builds. novationlaw15.alive. Arguments opened: what the bound on the bulk gives; a list of structs as a list of records that can be read. What the listed variables give: the two tables, in this world and in every later one. Arguments opened: knowledge as lists of records that can be read, with what the bound on the bulk gives.
-/
import Derived.Test.YtflddbgadkndlaaGreatDoorC26
import Derived.Test.YtflddbgadkndlaaGreatDoorC01
import Derived.Test.YtflddbgadkndlaaGreatDoorRows
import Derived.Deep.Slices
import Derived.Deep.Fields
import Derived.Lib.SmallJoins
import Derived.Carry
import Derived.Test.YtflddbgadkndlaaGreatDoorC20
import Derived.Test.YtflddbgadkndlaaGreatDoorC19
import Derived.Maps.Keyed
import Derived.Laws.IdiomMaps
import Derived.LaidMore
import Derived.MakeChecks
import Derived.OpenShut
import Derived.WalkArith
import Derived.ProofKit
import Derived.Test.YtflddbgadkndlaaGreatDoorC13
namespace Go.Proofs.YtflddbgadkndlaaGreatDoor
open Go.RowKit

theorem cell_new (w : World) (vs : List Value) (t : TypeId) {i : Nat} {u : Value} (h : vs[i]? = some u) : (w.alloc (.cells vs.toArray t)).cell? ⟨w.heap.size, i, none⟩ = some u := by
  have e : (w.alloc (.cells vs.toArray t)).heap[w.heap.size]? = some (.cells vs.toArray t (0, 0)) := by
    show (w.heap.push _)[w.heap.size]? = _
    simp
  unfold World.cell?
  simp only [e, Option.isSome_none, Bool.false_eq_true, if_false]
  simpa using h
theorem rdE_nil (w : World) : RdE w [] (.slice none 0 0) := .mk none 0 [] (fun _ => .slice none 0 0) (fun j x h => by simp at h) (fun j x h => by simp at h)
theorem rdC_nil (w : World) : RdC w [] (.slice none 0 0) := .mk none 0 [] (fun _ => .slice none 0 0) (fun _ => .slice none 0 0) (fun _ => .slice none 0 0) (fun j x h => by simp at h) (fun j x h => by simp at h) (fun j x h => by simp at h) (fun j x h => by simp at h)
theorem rdI_nil (w : World) : RdI w [] (.slice none 0 0) := ⟨none, 0, rfl, Nat.le_refl _, fun j d h => by simp at h⟩
theorem rdC_one {w : World} {B cap : Nat} {x : Con} {es dd ss : Value} (hc : ∀ i u, (x.cells es dd ss)[i]? = some u → w.cell? ⟨B, i, none⟩ = some u) (hr : RdN w x es dd ss) : RdC w [x] (.slice (some ⟨B, 0, none⟩) 1 cap) := by
  refine .mk (some ⟨B, 0, none⟩) cap [x] (fun _ => es) (fun _ => dd) (fun _ => ss) (fun j y h => ?_) (fun j y h => ?_) (fun j y h => ?_) (fun j y h => ?_)
  all_goals
    cases j with
    | succ j => simp at h
    | zero => ?_
  all_goals (simp only [List.getElem?_cons_zero, Option.some.injEq] at h; subst h)
  · exact ⟨hr.2.2.2, B, 0, rfl, fun i u hu => by simpa using hc i u hu⟩
  · exact hr.1
  · exact hr.2.1
  · exact hr.2.2.1
theorem rdE_two {w : World} {B cap : Nat} {x y : Ex} {s1 s2 : Value} (hx8 : x.k < 256) (hy8 : y.k < 256) (hc : ∀ i u, (x.cells s1 ++ y.cells s2)[i]? = some u → w.cell? ⟨B, i, none⟩ = some u) (h1 : RdE w x.sub s1) (h2 : RdE w y.sub s2) : RdE w [x, y] (.slice (some ⟨B, 0, none⟩) 2 cap) := by
  refine .mk (some ⟨B, 0, none⟩) cap [x, y] (fun j => if j = 0 then s1 else s2) (fun j z h => ?_) (fun j z h => ?_)
  · match j, h with
    | 0, h => cases h; exact ⟨hx8, B, 0, rfl, hc 0 _ rfl, hc 1 _ rfl, hc 2 _ rfl, hc 3 _ rfl, hc 4 _ rfl⟩
    | 1, h => cases h; exact ⟨hy8, B, 0, rfl, hc 5 _ rfl, hc 6 _ rfl, hc 7 _ rfl, hc 8 _ rfl, hc 9 _ rfl⟩
  · match j, h with
    | 0, h => cases h; exact h1
    | 1, h => cases h; exact h2

def oE : Obj := .cells #[.int .u8 2, .string ⟨#[]⟩, .string ⟨#[88]⟩, .int .i64 5, .slice none 0 0, .int .u8 2, .string ⟨#[]⟩, .string ⟨#[89]⟩, .int .i64 9, .slice none 0 0] 25
def oPay (B : Nat) : Obj := .cells #[.int .u8 2, .string ⟨#[65, 110, 110]⟩, .string ⟨#[66, 111, 98]⟩, .string ⟨#[85, 83, 68]⟩, .int .u8 4, .string ⟨#[]⟩, .string ⟨#[]⟩, .int .i64 0, .slice (some ⟨B, 0, none⟩) 2 2, .int .i64 0, .slice none 0 0, .slice none 0 0] 29
def oAt (B : Nat) : Obj := .cells #[.int .u8 6, .string ⟨#[]⟩, .string ⟨#[]⟩, .string ⟨#[]⟩, .int .u8 0, .string ⟨#[]⟩, .string ⟨#[]⟩, .int .i64 0, .slice none 0 0, .int .i64 5, .slice none 0 0, .slice (some ⟨B, 0, none⟩) 1 1] 29
def oDays : Obj := .cells #[.int .i64 1, .int .i64 3, .int .i64 7] 3
def oZero : Obj := .cells #[.int .u8 1, .string ⟨#[]⟩, .string ⟨#[]⟩, .string ⟨#[]⟩, .int .u8 0, .string ⟨#[]⟩, .string ⟨#[]⟩, .int .i64 0, .slice none 0 0, .int .i64 0, .slice none 0 0, .slice none 0 0] 29
def oCall (B C : Nat) : Obj := .cells #[.int .u8 8, .string ⟨#[65, 110, 110]⟩, .string ⟨#[]⟩, .string ⟨#[99]⟩, .int .u8 0, .string ⟨#[]⟩, .string ⟨#[]⟩, .int .i64 0, .slice none 0 0, .int .i64 0, .slice (some ⟨B, 0, none⟩) 3 3, .slice (some ⟨C, 0, none⟩) 1 1] 29
def aliveW (w2 w3 : World) : World := ((((w3.alloc (oPay w2.heap.size)).alloc (oAt w3.heap.size)).alloc oDays).alloc oZero).alloc (oCall (w3.heap.size + 1 + 1) (w3.heap.size + 1 + 1 + 1))
theorem below_next {w W : World} (o : Obj) (h : Below w.heap.size w W) : Below w.heap.size w (W.alloc o) := h.trans ((below_a1 W o).mono h.size)
theorem alive_setup (w2 w3 : World) (hb : Below (w2.alloc oE).heap.size (w2.alloc oE) w3) :
    RdN (aliveW w2 w3) atC (.slice none 0 0) (.slice none 0 0) (.slice (some ⟨w3.heap.size, 0, none⟩) 1 1) ∧
    RdN (aliveW w2 w3) callC (.slice none 0 0) (.slice (some ⟨w3.heap.size + 1 + 1, 0, none⟩) 3 3) (.slice (some ⟨w3.heap.size + 1 + 1 + 1, 0, none⟩) 1 1) ∧
    CBox (aliveW w2 w3) (w3.heap.size + 1) atC (.slice none 0 0) (.slice none 0 0) (.slice (some ⟨w3.heap.size, 0, none⟩) 1 1) ∧
    CBox (aliveW w2 w3) (w3.heap.size + 1 + 1 + 1 + 1) callC (.slice none 0 0) (.slice (some ⟨w3.heap.size + 1 + 1, 0, none⟩) 3 3) (.slice (some ⟨w3.heap.size + 1 + 1 + 1, 0, none⟩) 1 1) ∧
    Below w3.heap.size w3 (aliveW w2 w3) := by
  have hE : RdE (w2.alloc oE) [fX, fY] (.slice (some ⟨w2.heap.size, 0, none⟩) 2 2) :=
    rdE_two (s1 := .slice none 0 0) (s2 := .slice none 0 0) (by decide) (by decide) (fun i u h => cell_new w2 _ _ h) (rdE_nil _) (rdE_nil _)
  have h0 : RdN (w3.alloc (oPay w2.heap.size)) payC (.slice (some ⟨w2.heap.size, 0, none⟩) 2 2) (.slice none 0 0) (.slice none 0 0) :=
    ⟨(hE.frame hb).frame (below_a1 _ _), rdI_nil _, rdC_nil _, by decide, by decide⟩
  have h1 : RdC (w3.alloc (oPay w2.heap.size)) [payC] (.slice (some ⟨w3.heap.size, 0, none⟩) 1 1) := rdC_one (fun i u h => cell_new w3 _ _ h) h0
  have b1 := below_a1 (w3.alloc (oPay w2.heap.size)) (oAt w3.heap.size)
  have hA1 : RdN ((w3.alloc (oPay w2.heap.size)).alloc (oAt w3.heap.size)) atC (.slice none 0 0) (.slice none 0 0) (.slice (some ⟨w3.heap.size, 0, none⟩) 1 1) :=
    ⟨rdE_nil _, rdI_nil _, h1.frame b1, by decide, by decide⟩
  have bx1 : CBox ((w3.alloc (oPay w2.heap.size)).alloc (oAt w3.heap.size)) (w3.heap.size + 1) atC (.slice none 0 0) (.slice none 0 0) (.slice (some ⟨w3.heap.size, 0, none⟩) 1 1) := by
    have := CBox.new (w3.alloc (oPay w2.heap.size)) atC (.slice none 0 0) (.slice none 0 0) (.slice (some ⟨w3.heap.size, 0, none⟩) 1 1) 29
    rw [World.size_alloc] at this
    exact this
  have b2 := below_a1 ((w3.alloc (oPay w2.heap.size)).alloc (oAt w3.heap.size)) oDays
  have hD : RdI (((w3.alloc (oPay w2.heap.size)).alloc (oAt w3.heap.size)).alloc oDays) [1, 3, 7] (.slice (some ⟨w3.heap.size + 1 + 1, 0, none⟩) 3 3) := by
    refine ⟨_, _, rfl, Nat.le_refl _, fun j d h => ⟨_, 0, rfl, ?_⟩⟩
    have h2 : [Value.int .i64 1, .int .i64 3, .int .i64 7][j]? = some (.int .i64 d) := by
      match j, h with
      | 0, h => cases h; rfl
      | 1, h => cases h; rfl
      | 2, h => cases h; rfl
    have := cell_new ((w3.alloc (oPay w2.heap.size)).alloc (oAt w3.heap.size)) _ 3 h2
    rw [World.size_alloc, World.size_alloc] at this
    rw [Nat.zero_add]
    exact this
  have b3 := below_a1 (((w3.alloc (oPay w2.heap.size)).alloc (oAt w3.heap.size)).alloc oDays) oZero
  have hZ : RdC ((((w3.alloc (oPay w2.heap.size)).alloc (oAt w3.heap.size)).alloc oDays).alloc oZero) [zeroC] (.slice (some ⟨w3.heap.size + 1 + 1 + 1, 0, none⟩) 1 1) := by
    refine rdC_one (es := .slice none 0 0) (dd := .slice none 0 0) (ss := .slice none 0 0) (fun i u h => ?_) ⟨rdE_nil _, rdI_nil _, rdC_nil _, by decide, by decide⟩
    have := cell_new (((w3.alloc (oPay w2.heap.size)).alloc (oAt w3.heap.size)).alloc oDays) _ 29 h
    rw [World.size_alloc, World.size_alloc, World.size_alloc] at this
    exact this
  have b4 := below_a1 ((((w3.alloc (oPay w2.heap.size)).alloc (oAt w3.heap.size)).alloc oDays).alloc oZero) (oCall (w3.heap.size + 1 + 1) (w3.heap.size + 1 + 1 + 1))
  refine ⟨((hA1.frame b2).frame b3).frame b4, ⟨rdE_nil _, (hD.frame b3).frame b4, hZ.frame b4, by decide, by decide⟩, ((bx1.low b2).low b3).low b4, ?_, ?_⟩
  · have := CBox.new ((((w3.alloc (oPay w2.heap.size)).alloc (oAt w3.heap.size)).alloc oDays).alloc oZero) callC (.slice none 0 0) (.slice (some ⟨w3.heap.size + 1 + 1, 0, none⟩) 3 3) (.slice (some ⟨w3.heap.size + 1 + 1 + 1, 0, none⟩) 1 1) 29
    rw [World.size_alloc, World.size_alloc, World.size_alloc, World.size_alloc] at this
    exact this
  · exact below_next _ (below_next _ (below_next _ (below_next _ (below_a1 _ _))))


theorem atC_cells {W : World} {X B : Nat} (h : CBox W X atC (.slice none 0 0) (.slice none 0 0) (.slice (some ⟨B, 0, none⟩) 1 1)) :
    W.cell? ⟨X, 0, none⟩ = some (.int .u8 6) ∧ W.cell? ⟨X, 1, none⟩ = some (.string ⟨#[]⟩) ∧ W.cell? ⟨X, 2, none⟩ = some (.string ⟨#[]⟩) ∧ W.cell? ⟨X, 3, none⟩ = some (.string ⟨#[]⟩) ∧ W.cell? ⟨X, 4, none⟩ = some (.int .u8 0) ∧ W.cell? ⟨X, 5, none⟩ = some (.string ⟨#[]⟩) ∧ W.cell? ⟨X, 6, none⟩ = some (.string ⟨#[]⟩) ∧ W.cell? ⟨X, 7, none⟩ = some (.int .i64 0) ∧ W.cell? ⟨X, 8, none⟩ = some (.slice none 0 0) ∧ W.cell? ⟨X, 9, none⟩ = some (.int .i64 5) ∧ W.cell? ⟨X, 10, none⟩ = some (.slice none 0 0) ∧ W.cell? ⟨X, 11, none⟩ = some (.slice (some ⟨B, 0, none⟩) 1 1) := h
theorem callC_cells {W : World} {X B C : Nat} (h : CBox W X callC (.slice none 0 0) (.slice (some ⟨B, 0, none⟩) 3 3) (.slice (some ⟨C, 0, none⟩) 1 1)) :
    W.cell? ⟨X, 0, none⟩ = some (.int .u8 8) ∧ W.cell? ⟨X, 1, none⟩ = some (.string ⟨#[65, 110, 110]⟩) ∧ W.cell? ⟨X, 2, none⟩ = some (.string ⟨#[]⟩) ∧ W.cell? ⟨X, 3, none⟩ = some (.string ⟨#[99]⟩) ∧ W.cell? ⟨X, 4, none⟩ = some (.int .u8 0) ∧ W.cell? ⟨X, 5, none⟩ = some (.string ⟨#[]⟩) ∧ W.cell? ⟨X, 6, none⟩ = some (.string ⟨#[]⟩) ∧ W.cell? ⟨X, 7, none⟩ = some (.int .i64 0) ∧ W.cell? ⟨X, 8, none⟩ = some (.slice none 0 0) ∧ W.cell? ⟨X, 9, none⟩ = some (.int .i64 0) ∧ W.cell? ⟨X, 10, none⟩ = some (.slice (some ⟨B, 0, none⟩) 3 3) ∧ W.cell? ⟨X, 11, none⟩ = some (.slice (some ⟨C, 0, none⟩) 1 1) := h

theorem atC_needs (B : Nat) (W : World) (hr : RdN W atC (.slice none 0 0) (.slice none 0 0) (.slice (some ⟨B, 0, none⟩) 1 1)) (hS : LookS W) (hP : LookP W) :
    Calls Tryz.prog 9 #[.agg #[.int .u8 6, .string ⟨#[]⟩, .string ⟨#[]⟩, .string ⟨#[]⟩, .int .u8 0, .string ⟨#[]⟩, .string ⟨#[]⟩, .int .i64 0, .slice none 0 0, .int .i64 5, .slice none 0 0, .slice (some ⟨B, 0, none⟩) 1 1], .int .i64 2] W fun e W' => ∃ ad cap, e = .returned (.tuple #[.slice ad 2 cap, .int .i64 0]) ∧ RdNd W' [(bX, 5), (bY, 9)] (.slice ad 2 cap) ∧ Below W.heap.size W W' := by
  have h := needs_any atC _ _ _ 2 W (by decide) hr hS hP
  rw [atC_nErr, atC_nSet] at h
  refine Calls.mono (by exact h) ?_
  rintro e W' ⟨v, rfl, ho, hb⟩
  obtain ⟨ad, cap, rfl⟩ := ownsRow_shape ho
  exact ⟨ad, cap, rfl, RdNd.own ho, hb⟩
theorem atC_days (B : Nat) (W : World) (hr : RdN W atC (.slice none 0 0) (.slice none 0 0) (.slice (some ⟨B, 0, none⟩) 1 1)) (hS : LookS W) (hP : LookP W) :
    Calls Tryz.prog 13 #[.agg #[.int .u8 6, .string ⟨#[]⟩, .string ⟨#[]⟩, .string ⟨#[]⟩, .int .u8 0, .string ⟨#[]⟩, .string ⟨#[]⟩, .int .i64 0, .slice none 0 0, .int .i64 5, .slice none 0 0, .slice (some ⟨B, 0, none⟩) 1 1], .int .i64 2] W fun e W' => ∃ ad cap, e = .returned (.tuple #[.slice ad 1 cap, .int .i64 0]) ∧ RdDy W' [5] (.slice ad 1 cap) ∧ Below W.heap.size W W' := by
  have h := causalDays_any atC _ _ _ 2 W (by decide) hr hS hP
  rw [atC_vis, atC_ySet] at h
  refine Calls.mono (by exact h) ?_
  rintro e W' ⟨v, rfl, ho, hb⟩
  obtain ⟨ad, cap, rfl⟩ := ownsRow_shape ho
  exact ⟨ad, cap, rfl, RdDy.own ho, hb⟩
theorem callC_dead (B C : Nat) (W : World) (hr : RdN W callC (.slice none 0 0) (.slice (some ⟨B, 0, none⟩) 3 3) (.slice (some ⟨C, 0, none⟩) 1 1)) (hS : LookS W) (hP : LookP W) :
    Calls Tryz.prog 11 #[.agg #[.int .u8 8, .string ⟨#[65, 110, 110]⟩, .string ⟨#[]⟩, .string ⟨#[99]⟩, .int .u8 0, .string ⟨#[]⟩, .string ⟨#[]⟩, .int .i64 0, .slice none 0 0, .int .i64 0, .slice (some ⟨B, 0, none⟩) 3 3, .slice (some ⟨C, 0, none⟩) 1 1], .int .i64 2] W fun e W' => ∃ ad cap, e = .returned (.tuple #[.slice ad 2 cap, .int .i64 0]) ∧ RdCx W' [(bAnn, bc, 3), (bAnn, bc, 7)] (.slice ad 2 cap) ∧ Below W.heap.size W W' := by
  have h := deadlines_any callC _ _ _ 2 W (by decide) hr hS hP
  rw [callC_dErr, callC_dSet] at h
  refine Calls.mono (by exact h) ?_
  rintro e W' ⟨v, rfl, ho, hb⟩
  obtain ⟨ad, cap, rfl⟩ := ownsRow_shape ho
  exact ⟨ad, cap, rfl, RdCx.own ho, hb⟩
theorem atC_causal (B : Nat) (W : World) (hr : RdN W atC (.slice none 0 0) (.slice none 0 0) (.slice (some ⟨B, 0, none⟩) 1 1)) (hS : LookS W) (hP : LookP W) :
    Calls Tryz.prog 18 #[.agg #[.int .u8 6, .string ⟨#[]⟩, .string ⟨#[]⟩, .string ⟨#[]⟩, .int .u8 0, .string ⟨#[]⟩, .string ⟨#[]⟩, .int .i64 0, .slice none 0 0, .int .i64 5, .slice none 0 0, .slice (some ⟨B, 0, none⟩) 1 1], .int .i64 2] W fun e W' => e = .returned (.int .i64 34) ∧ Below W.heap.size W W' := by
  have h := causal_any atC _ _ _ 2 W (by decide) hr hS hP
  rw [atC_caus] at h
  exact Calls.mono (by exact h) fun _ _ h => h
theorem callC_causal (B C : Nat) (W : World) (hr : RdN W callC (.slice none 0 0) (.slice (some ⟨B, 0, none⟩) 3 3) (.slice (some ⟨C, 0, none⟩) 1 1)) (hS : LookS W) (hP : LookP W) :
    Calls Tryz.prog 18 #[.agg #[.int .u8 8, .string ⟨#[65, 110, 110]⟩, .string ⟨#[]⟩, .string ⟨#[99]⟩, .int .u8 0, .string ⟨#[]⟩, .string ⟨#[]⟩, .int .i64 0, .slice none 0 0, .int .i64 0, .slice (some ⟨B, 0, none⟩) 3 3, .slice (some ⟨C, 0, none⟩) 1 1], .int .i64 2] W fun e W' => e = .returned (.int .i64 0) ∧ Below W.heap.size W W' := by
  have h := causal_any callC _ _ _ 2 W (by decide) hr hS hP
  rw [callC_caus] at h
  exact Calls.mono (by exact h) fun _ _ h => h
end Go.Proofs.YtflddbgadkndlaaGreatDoor

namespace Go.Proofs.YtflddbgadkndlaaGreatDoor
open Go.RowKit

theorem sameNeeds_true (a : List NdP) (va vb : Value) (W : World) (ha : RdNd W a va) (hb : RdNd W a vb) (hl : a.length ≤ 4000000000000) : Calls Tryz.prog 15 #[va, vb] W fun e W' => e = .returned (.bool true) ∧ Below W.heap.size W W' := by
  have h := sameNeeds_any a a va vb W ha hb hl hl
  rwa [show decide (a = a) = true from decide_eq_true rfl] at h
theorem sameDays_true (a : List Int) (va vb : Value) (W : World) (ha : RdDy W a va) (hb : RdDy W a vb) (hl : a.length ≤ 4000000000000) : Calls Tryz.prog 17 #[va, vb] W fun e W' => e = .returned (.bool true) ∧ Below W.heap.size W W' := by
  have h := sameDays_any a a va vb W ha hb hl hl
  rwa [show decide (a = a) = true from decide_eq_true rfl] at h
theorem sameChoices_true (a : List ChP) (va vb : Value) (W : World) (ha : RdCx W a va) (hb : RdCx W a vb) (hl : a.length ≤ 4000000000000) : Calls Tryz.prog 16 #[va, vb] W fun e W' => e = .returned (.bool true) ∧ Below W.heap.size W W' := by
  have h := sameChoices_any a a va vb W ha hb hl hl
  rwa [show decide (a = a) = true from decide_eq_true rfl] at h
theorem rdNd_new (w : World) : RdNd (w.alloc (.cells #[.string ⟨#[88]⟩, .int .i64 5, .string ⟨#[89]⟩, .int .i64 9] 58)) [(bX, 5), (bY, 9)] (.slice (some ⟨w.heap.size, 0, none⟩) 2 2) := by
  refine ⟨_, _, rfl, fun k x h => ⟨_, 0, rfl, ?_⟩⟩
  match k, h with
  | 0, h => cases h; exact ⟨cell_new w [.string ⟨#[88]⟩, .int .i64 5, .string ⟨#[89]⟩, .int .i64 9] _ rfl, cell_new w [.string ⟨#[88]⟩, .int .i64 5, .string ⟨#[89]⟩, .int .i64 9] _ rfl⟩
  | 1, h => cases h; exact ⟨cell_new w [.string ⟨#[88]⟩, .int .i64 5, .string ⟨#[89]⟩, .int .i64 9] _ rfl, cell_new w [.string ⟨#[88]⟩, .int .i64 5, .string ⟨#[89]⟩, .int .i64 9] _ rfl⟩
theorem rdDy_new (w : World) : RdDy (w.alloc (.cells #[.int .i64 5] 3)) [5] (.slice (some ⟨w.heap.size, 0, none⟩) 1 1) := by
  refine ⟨_, _, rfl, fun k x h => ⟨_, 0, rfl, ?_⟩⟩
  match k, h with
  | 0, h => cases h; exact cell_new w [.int .i64 5] _ rfl
theorem rdCx_new (w : World) : RdCx (w.alloc (.cells #[.string ⟨#[65, 110, 110]⟩, .string ⟨#[99]⟩, .int .i64 3, .bool false, .string ⟨#[65, 110, 110]⟩, .string ⟨#[99]⟩, .int .i64 7, .bool false] 60)) [(bAnn, bc, 3), (bAnn, bc, 7)] (.slice (some ⟨w.heap.size, 0, none⟩) 2 2) := by
  refine ⟨_, _, rfl, fun k x h => ⟨_, 0, rfl, ?_⟩⟩
  have hc := @cell_new w [.string ⟨#[65, 110, 110]⟩, .string ⟨#[99]⟩, .int .i64 3, .bool false, .string ⟨#[65, 110, 110]⟩, .string ⟨#[99]⟩, .int .i64 7, .bool false] 60
  match k, h with
  | 0, h => cases h; exact ⟨hc rfl, hc rfl, hc rfl, hc rfl⟩
  | 1, h => cases h; exact ⟨hc rfl, hc rfl, hc rfl, hc rfl⟩

/-- What the two contracts keep. -/
structure AOk (A : World) (n : Nat) : Prop where
  r1 : RdN A atC (.slice none 0 0) (.slice none 0 0) (.slice (some ⟨n, 0, none⟩) 1 1)
  r2 : RdN A callC (.slice none 0 0) (.slice (some ⟨n + 1 + 1, 0, none⟩) 3 3) (.slice (some ⟨n + 1 + 1 + 1, 0, none⟩) 1 1)
  b1 : CBox A (n + 1) atC (.slice none 0 0) (.slice none 0 0) (.slice (some ⟨n, 0, none⟩) 1 1)
  b2 : CBox A (n + 1 + 1 + 1 + 1) callC (.slice none 0 0) (.slice (some ⟨n + 1 + 1, 0, none⟩) 3 3) (.slice (some ⟨n + 1 + 1 + 1, 0, none⟩) 1 1)
  s : LookS A
  p : LookP A
theorem AOk.low {A W : World} {n : Nat} (h : AOk A n) (hb : Below A.heap.size A W) : AOk W n :=
  ⟨h.r1.frame hb, h.r2.frame hb, h.b1.low hb, h.b2.low hb, h.s.frame hb, h.p.frame hb⟩

set_option maxHeartbeats 8000000 in
set_option maxRecDepth 100000 in
theorem alive_any (w : World) (hS : LookS w) (hP : LookP w) : Calls Tryz.prog 21 #[] w fun e w' => e = .returned (.bool true) ∧ Below w.heap.size w w' := by
  go_enter Tryz.func21, Tryz.ntmps21
  go_wp2_with fail
  refine (fix_any _ _ _).mono ?_
  rintro e w1 ⟨rfl, hb1⟩
  go_wp2_with fail
  refine (fix_any _ _ _).mono ?_
  rintro e w2 ⟨rfl, hb2⟩
  go_wp2_with fail
  refine (pay_any _ _ _ _ _ _ _ _).mono ?_
  rintro e w3 ⟨rfl, hb3⟩
  have hz := hb3.size
  rw [World.size_alloc] at hz
  obtain ⟨hA1, hA2, hX1, hX2, hbA⟩ := alive_setup w2 w3 hb3
  have hw2 : Below w.heap.size w w2 := hb1.trans (hb2.mono hb1.size)
  have hw3 : Below w.heap.size w w3 := (hw2.trans ((below_a1 w2 oE).mono hw2.size)).trans (hb3.mono (Nat.le_trans hw2.size (below_a1 w2 oE).size))
  have hwA := hw3.trans (hbA.mono hw3.size)
  have HA : Hid (AOk (aliveW w2 w3) w3.heap.size) := Lib.hid ⟨hA1, hA2, hX1, hX2, hS.frame hwA, hP.frame hwA⟩
  clear hA1 hA2 hX1 hX2 hbA hw2 hw3 hb1 hb2 hb3 hS hP
  go_wp2_with fail
  have hlA : w3.heap.size + 1 + 1 + 1 + 1 + 1 = (aliveW w2 w3).heap.size := by unfold aliveW; simp
  change Calls _ _ _ (aliveW w2 w3) _
  generalize aliveW w2 w3 = A at HA hwA hlA ⊢
  refine (atC_needs _ A HA.out.r1 HA.out.s HA.out.p).mono ?_
  rintro e w5 ⟨ad1, cap1, rfl, hn5, hb5⟩
  have H5 := Lib.hid (HA.out.low hb5)
  have hw5 := hwA.trans (hb5.mono hwA.size)
  obtain ⟨a0, a1, a2, a3, a4, a5, a6, a7, a8, a9, a10, a11⟩ := atC_cells H5.out.b1
  go_wp2_with fail
  refine (atC_days _ w5 H5.out.r1 H5.out.s H5.out.p).mono ?_
  rintro e w6 ⟨ad2, cap2, rfl, hn6, hb6⟩
  have H6 := Lib.hid (H5.out.low hb6)
  have hw6 := hw5.trans (hb6.mono hw5.size)
  clear a0 a1 a2 a3 a4 a5 a6 a7 a8 a9 a10 a11
  obtain ⟨a0, a1, a2, a3, a4, a5, a6, a7, a8, a9, a10, a11⟩ := callC_cells H6.out.b2
  go_wp2_with fail
  refine (callC_dead _ _ w6 H6.out.r2 H6.out.s H6.out.p).mono ?_
  rintro e w7 ⟨ad3, cap3, rfl, hn7, hb7⟩
  have H7 := Lib.hid (H6.out.low hb7)
  have hw7 := hw6.trans (hb7.mono hw6.size)
  clear a0 a1 a2 a3 a4 a5 a6 a7 a8 a9 a10 a11
  obtain ⟨a0, a1, a2, a3, a4, a5, a6, a7, a8, a9, a10, a11⟩ := atC_cells H7.out.b1
  go_wp2_with fail
  refine (atC_causal _ w7 H7.out.r1 H7.out.s H7.out.p).mono ?_
  rintro e w8 ⟨rfl, hb8⟩
  have H8 := Lib.hid (H7.out.low hb8)
  have hw8 := hw7.trans (hb8.mono hw7.size)
  clear a0 a1 a2 a3 a4 a5 a6 a7 a8 a9 a10 a11
  go_wp2_with fail
  have hn8 := ((hn5.low hb6).low hb7).low hb8
  have hb9 := below_a1 w8 (.cells #[.string ⟨#[88]⟩, .int .i64 5, .string ⟨#[89]⟩, .int .i64 9] 58)
  refine (sameNeeds_true _ _ _ _ (hn8.low hb9) (rdNd_new w8) (by decide)).mono ?_
  rintro e w9 ⟨rfl, hbq⟩
  have hb89 := hb9.trans (hbq.mono hb9.size)
  have hw9 := hw8.trans (hb89.mono hw8.size)
  have H9 := Lib.hid (H8.out.low hb89)
  have hd9 := ((hn6.low hb7).low hb8).low hb89
  have hc9 := (hn7.low hb8).low hb89
  clear hn5 hn6 hn7 hn8 hb9 hbq
  go_wp2_with fail
  have hb10 := below_a1 w9 (.cells #[.int .i64 5] 3)
  refine (sameDays_true _ _ _ _ (hd9.low hb10) (rdDy_new w9) (by decide)).mono ?_
  rintro e w10 ⟨rfl, hbq⟩
  have hb910 := hb10.trans (hbq.mono hb10.size)
  have hw10 := hw9.trans (hb910.mono hw9.size)
  have H10 := Lib.hid (H9.out.low hb910)
  have hc10 := hc9.low hb910
  clear hd9 hc9 hb10 hbq
  obtain ⟨a0, a1, a2, a3, a4, a5, a6, a7, a8, a9, a10, a11⟩ := callC_cells H10.out.b2
  go_wp2_with fail
  refine (callC_causal _ _ w10 H10.out.r2 H10.out.s H10.out.p).mono ?_
  rintro e w11 ⟨rfl, hb11⟩
  have hw11 := hw10.trans (hb11.mono hw10.size)
  have hc11 := hc10.low hb11
  clear a0 a1 a2 a3 a4 a5 a6 a7 a8 a9 a10 a11 hc10
  go_wp2_with fail
  have hb12 := below_a1 w11 (.cells #[.string ⟨#[65, 110, 110]⟩, .string ⟨#[99]⟩, .int .i64 3, .bool false, .string ⟨#[65, 110, 110]⟩, .string ⟨#[99]⟩, .int .i64 7, .bool false] 60)
  refine (sameChoices_true _ _ _ _ (hc11.low hb12) (rdCx_new w11) (by decide)).mono ?_
  rintro e w12 ⟨rfl, hbq⟩
  have hw12 := hw11.trans ((hb12.trans (hbq.mono hb12.size)).mono hw11.size)
  clear hc11 hb12 hbq
  go_wp2_with fail
  go_ret
  exact ⟨ret_bool' rfl, hw12⟩
end Go.Proofs.YtflddbgadkndlaaGreatDoor

namespace Go.Proofs.YtflddbgadkndlaaGreatDoor
open Go.RowKit Go.ChangeShapes Go.WideShapes Go.Deep

theorem bulk_one {H : Type} (d : DataW H) : 1 ≤ Rows.uptoBulk d := by
  cases d with
  | lit l => cases l <;> simp [Rows.uptoBulk]
  | _ => simp [Rows.uptoBulk]
theorem bulk_part {H : Type} {d : DataW H} {l : List (DataW H)} (h : d ∈ l) : Rows.uptoBulk d ≤ Rows.uptoBulkAll l := by
  induction l with
  | nil => cases h
  | cons x r ih =>
    simp only [Rows.uptoBulkAll]
    rcases List.mem_cons.1 h with e | e
    · subst e; omega
    · have := ih e; omega
theorem bulk_length {H : Type} (l : List (DataW H)) : l.length ≤ Rows.uptoBulkAll l := by
  induction l with
  | nil => simp [Rows.uptoBulkAll]
  | cons x r ih => have := bulk_one x; simp only [Rows.uptoBulkAll, List.length_cons]; omega
theorem bulk_agg {H : Type} {d : DataW H} {l : List (DataW H)} (h : d ∈ l) : Rows.uptoBulk d ≤ Rows.uptoBulk (.agg l) := by
  have := bulk_part h
  simp only [Rows.uptoBulk]; omega
theorem bulk_text {H : Type} (s : ByteArray) : s.size ≤ Rows.uptoBulk (DataW.lit (H := H) (.string s.data.toList)) := by
  simp only [Rows.uptoBulk, Array.length_toList]
  show s.data.size ≤ _
  omega

theorem list_of {α : Type} {Q : Nat → α → Prop} : ∀ n : Nat, (∀ i, i < n → ∃ x, Q i x) → ∃ l : List α, l.length = n ∧ ∀ i x, l[i]? = some x → Q i x
  | 0, _ => ⟨[], rfl, by simp⟩
  | n + 1, h => by
    obtain ⟨l, hl, hq⟩ := list_of n (fun i hi => h i (by omega))
    obtain ⟨x, hx⟩ := h n (by omega)
    refine ⟨l ++ [x], by simp [hl], fun i y hy => ?_⟩
    by_cases hi : i < l.length
    · rw [List.getElem?_append_left hi] at hy
      exact hq i y hy
    · have hi2 := (List.getElem?_eq_some_iff.1 hy).1
      simp at hi2
      obtain rfl : i = l.length := by omega
      simp at hy
      rw [hl, ← hy]; exact hx

theorem flat_inv {α : Type} (enc : α → List Value) (m : Nat) (hm : ∀ x, (enc x).length = m) (hm0 : 0 < m) : ∀ (l : List α) (j : Nat) (u : Value), (l.flatMap enc)[j]? = some u → ∃ i k x, j = i * m + k ∧ k < m ∧ l[i]? = some x ∧ (enc x)[k]? = some u
  | [], j, u, h => by simp at h
  | y :: l, j, u, h => by
    rw [List.flatMap_cons] at h
    by_cases hj : j < m
    · rw [List.getElem?_append_left (by rw [hm]; exact hj)] at h
      exact ⟨0, j, y, by simp, hj, rfl, h⟩
    · rw [List.getElem?_append_right (by rw [hm]; omega), hm] at h
      obtain ⟨i, k, x, h1, h2, h3, h4⟩ := flat_inv enc m hm hm0 l (j - m) u h
      exact ⟨i + 1, k, x, by rw [Nat.add_mul, Nat.one_mul]; omega, h2, by simpa using h3, h4⟩

section
variable {H : Type} {enc : TypeId × Value → H} {P : Program} {w : World} {sp : Nat → Bool} {held : Bool}

theorem open_list {α : Type} (en : α → List Value) (m : Nat) (hm : ∀ x, (en x).length = m) (hm0 : 0 < m) (good : α → DataW H → Prop) {t e : TypeId} {fuel : Nat} {v : Value} {y : DataW H × List MemPlace}
    (ht : P.underlying t = some (.slice e)) (hc : P.cellsOf e = m)
    (dec : ∀ (n : Nat) (cs : List Value) (z : DataW H × List MemPlace), cs.length = m → DataW.trod enc P w 0 sp held n e cs = some z → ∃ x, cs = en x ∧ good x z.1)
    (h : DataW.trod enc P w 0 sp held fuel t [v] = some y) :
    ∃ (ad : Option Addr) (cap : Nat) (l : List α), v = .slice ad l.length cap ∧ (ad = none → cap = 0) ∧ Sl w (.slice ad l.length cap) m l.length (l.flatMap en) ∧
      l.length ≤ Rows.uptoBulk y.1 ∧ ∀ x ∈ l, ∃ d, good x d ∧ Rows.uptoBulk d ≤ Rows.uptoBulk y.1 := by
  rcases open_slice ht h with ⟨h0, hy⟩ | ⟨a, len, cap, mm, n, D, Pl, hcs, hb, hl, hmx, hmm, hx, hi⟩
  · simp at h0
    exact ⟨none, 0, [], h0, fun _ => rfl, Sl.empty w none 0 m, Nat.zero_le _, by simp⟩
  · have hlm : len ≤ mm := by rw [hmm]; split <;> omega
    obtain ⟨l, hll, hq⟩ := list_of (Q := fun i x => w.cells? 0 (a.add (i * m)) m = some (en x) ∧ good x (D i)) len (fun i hil => by
      obtain ⟨cs', h1, h2⟩ := hi i (by omega)
      rw [hc] at h1
      obtain ⟨x, hx, hg⟩ := dec n cs' _ (World.cells?_some h1).2.1 h2
      exact ⟨x, by rw [← hx]; exact h1, hg⟩)
    have hspot : 0 < len → a.spot = none := fun h0 => by
      obtain ⟨x, hx⟩ : ∃ x, l[0]? = some x := ⟨_, List.getElem?_eq_getElem (by omega)⟩
      have h1 := (World.cells?_some (hq 0 x hx).1).2.2 0 hm0
      rw [Nat.zero_mul] at h1
      have h2 : w.cell? a = (en x)[0]? := h1
      rw [List.getElem?_eq_getElem (by rw [hm]; exact hm0)] at h2
      simp only [World.cell?] at h2
      cases hsp : a.spot with
      | none => rfl
      | some k => rw [hsp] at h2; simp at h2; split at h2 <;> simp at h2
    simp at hcs
    have hbulk : ∀ i, i < len → Rows.uptoBulk (D i) ≤ Rows.uptoBulk y.1 := fun i hil => by
      have := bulk_part (H := H) (d := D i) (l := (List.range len).map D) (List.mem_map.2 ⟨i, by simpa using hil, rfl⟩)
      rw [hx]
      simp only [Rows.uptoBulk]
      omega
    refine ⟨some a, cap, l, by rw [hll]; exact hcs, fun h => (by cases h), ?_, ?_, ?_⟩
    · refine ⟨some a, cap, rfl, by omega, flat_length en m hm l, ?_⟩
      by_cases h0 : l.length = 0
      · exact .inl h0
      · right
        have hs := hspot (by omega)
        obtain ⟨b, off, sp⟩ := a
        simp at hs
        subst hs
        refine ⟨b, off, rfl, fun j u hj => ?_⟩
        obtain ⟨i, k, x, rfl, hk, h3, h4⟩ := flat_inv en m hm hm0 l j u hj
        have h5 := (World.cells?_some (hq i x h3).1).2.2 k hk
        rw [h4] at h5
        rw [← h5]
        congr 1
        simp only [Addr.add]
        split <;> split <;> simp_all <;> omega
    · have h1 := bulk_length ((List.range len).map D)
      rw [List.length_map, List.length_range] at h1
      rw [hx]
      simp only [Rows.uptoBulk]
      omega
    · intro x hxl
      obtain ⟨i, hix⟩ := List.getElem?_of_mem hxl
      have hil := (List.getElem?_eq_some_iff.1 hix).1
      exact ⟨D i, (hq i x hix).2, hbulk i (by omega)⟩

theorem arr2 {α : Type} {l : List α} (h : l.length = 2) : ∃ a b, l = [a, b] := by
  match l, h with
  | [a, b], _ => exact ⟨a, b, rfl⟩
theorem arr3 {α : Type} {l : List α} (h : l.length = 3) : ∃ a b c, l = [a, b, c] := by
  match l, h with
  | [a, b, c], _ => exact ⟨a, b, c, rfl⟩
theorem arr4 {α : Type} {l : List α} (h : l.length = 4) : ∃ a b c d, l = [a, b, c, d] := by
  match l, h with
  | [a, b, c, d], _ => exact ⟨a, b, c, d, rfl⟩
end
end Go.Proofs.YtflddbgadkndlaaGreatDoor

namespace Go.Proofs.YtflddbgadkndlaaGreatDoor
open Go.Deep Go.ChangeShapes Go.WideShapes Go.ChangeAt Go.WideMaps Go.WideElems Go.RowKit Go.Maps

theorem g_parts : Tryz.prog.globalNamed "novation/contract.parts" = some 0 := by kernel_rfl
theorem g_shapes : Tryz.prog.globalNamed "novation/observable.shapes" = some 1 := by kernel_rfl
theorem t_parts : (Tryz.prog.globals[0]?).map (·.type) = some 159 := by kernel_rfl
theorem t_shapes : (Tryz.prog.globals[1]?).map (·.type) = some 225 := by kernel_rfl
theorem keyed_u8 : Keyed Tryz.prog 5 := int_keyed Tryz.underlying5
theorem zero_int (w : World) : (zeroValue 3).run Tryz.prog w = .ok (.int .i64 0) w := by kernel_rfl
theorem zero_shape (w : World) : (zeroValue 223).run Tryz.prog w = .ok (.agg #[.slice none 0 0, .int .u8 0]) w := by kernel_rfl
theorem key_u8 {k : Nat} (hk : k < 256) : keyOf Tryz.prog 5 (.int .u8 (k : Int)) = some (.int .u8 (k : Int)) :=
  keyOf_int_mk Tryz.underlying5 (WalkArith.wf_u8 (by omega))
theorem parts_at (k : Nat) (z : DataW Unit) : (Rows.laid_novation_contract_parts).atKey (.int .u8 (k : Int)) z = match partOf k with | none => z | some m => .lit (.int .i64 (m : Int)) := by
  match k with
  | 0 | 1 | 2 | 3 | 4 | 5 | 6 | 7 | 8 | 9 | 10 => rfl
  | n + 11 =>
    have e : partOf (n + 11) = none := by
      unfold partOf
      rw [if_neg (by omega), if_neg (by omega), if_neg (by omega), if_neg (by omega), if_neg (by omega), if_neg (by omega), if_neg (by omega), if_neg (by omega), if_neg (by omega)]
    rw [e]
    have hs : ∀ m : Int, m < 11 → (Lit.int .u8 m).sameKey (.int .u8 ((n + 11 : Nat) : Int)) = false := fun m hm => by simp [Lit.sameKey]; omega
    simp only [Rows.laid_novation_contract_parts, DataW.atKey, List.find?_cons, hs _ (show (1 : Int) < 11 by decide), hs _ (show (2 : Int) < 11 by decide), hs _ (show (3 : Int) < 11 by decide), hs _ (show (4 : Int) < 11 by decide), hs _ (show (5 : Int) < 11 by decide), hs _ (show (6 : Int) < 11 by decide), hs _ (show (7 : Int) < 11 by decide), hs _ (show (8 : Int) < 11 by decide), hs _ (show (9 : Int) < 11 by decide), hs _ (show (10 : Int) < 11 by decide), List.find?_nil]
theorem shapes_at (k : Nat) (z : DataW Unit) : (Rows.laid_novation_observable_shapes).atKey (.int .u8 (k : Int)) z = match shapeOf k with | none => z | some (ps, own) => .agg [.slice (ps.map fun p : Nat => .lit (.int .u8 (p : Int))) [], .lit (.int .u8 (own : Int))] := by
  match k with
  | 0 | 1 | 2 | 3 | 4 | 5 | 6 | 7 | 8 | 9 | 10 | 11 | 12 | 13 | 14 | 15 => rfl
  | n + 16 =>
    have e : shapeOf (n + 16) = none := by
      unfold shapeOf
      rw [if_neg (by omega), if_neg (by omega), if_neg (by omega), if_neg (by omega), if_neg (by omega)]
    rw [e]
    have hs : ∀ m : Int, m < 16 → (Lit.int .u8 m).sameKey (.int .u8 ((n + 16 : Nat) : Int)) = false := fun m hm => by simp [Lit.sameKey]; omega
    simp only [Rows.laid_novation_observable_shapes, DataW.atKey, List.find?_cons, hs _ (show (4 : Int) < 16 by decide), hs _ (show (5 : Int) < 16 by decide), hs _ (show (6 : Int) < 16 by decide), hs _ (show (7 : Int) < 16 by decide), hs _ (show (8 : Int) < 16 by decide), hs _ (show (9 : Int) < 16 by decide), hs _ (show (11 : Int) < 16 by decide), hs _ (show (12 : Int) < 16 by decide), hs _ (show (13 : Int) < 16 by decide), hs _ (show (14 : Int) < 16 by decide), hs _ (show (15 : Int) < 16 by decide), List.find?_nil]
theorem addr_at (b o j : Nat) : Addr.add ⟨b, o, none⟩ j = ⟨b, o + j, none⟩ := by
  unfold Addr.add
  split
  · next h => subst h; rfl
  · rfl
/-- A struct's value out of its reading. -/
theorem agg_of_formed {v : Value} (hf : v.formed Tryz.prog 223 = true) : ∃ cs, v = .agg cs ∧ v.cells.toList = cs.toList := by
  cases v with
  | agg cs => exact ⟨cs, rfl, rfl⟩
  | _ => simp [Value.formed, Tryz.underlying223] at hf

set_option maxRecDepth 100000 in
theorem laid_look {W : World} (h : laidMetH Tryz.prog [("novation/observable.shapes", Rows.laid_novation_observable_shapes), ("novation/contract.parts", Rows.laid_novation_contract_parts)] W) : LookS W ∧ LookP W := by
  rw [MakeChecks.laidMetH_plain _ _ _ (by kernel_rfl)] at h
  obtain ⟨ps, ⟨g0, t0, cs0, f0, p0, q0, hg0, ht0, hv0, hd0, ⟨g1, t1, cs1, f1, p1, q1, hg1, ht1, hv1, hd1, _, _⟩, _⟩, _, _⟩ := h
  obtain rfl := Option.some.inj (g_shapes.symm.trans hg0)
  obtain rfl := Option.some.inj (g_parts.symm.trans hg1)
  obtain rfl := Option.some.inj (t_shapes.symm.trans ht0)
  obtain rfl := Option.some.inj (t_parts.symm.trans ht1)
  refine ⟨?_, ?_⟩
  · rcases open_map Tryz.underlying225 hd0 with ⟨_, hx⟩ | ⟨bm, es, clock, m, _, hcs, hb, _, F, hx⟩
    · simp [Rows.laid_novation_observable_shapes] at hx
    simp only [Prod.mk.injEq] at hx
    have hcell : W.cell? ⟨1, 0, none⟩ = some (.map (some bm)) := by
      have := World.var?_cell hg0 hv0 0
      rw [Array.eq_one_of_toList hcs] at this
      simpa using this
    refine ⟨bm, hcell, fun W' hB k hk => ?_⟩
    have hb' : W'.heap[bm]? = some (.map es clock) := by rw [hB.block bm (lt_of_block hb)]; exact hb
    rcases fit_look true keyed_u8 Tryz.underlying225 (zero_shape W') hb' F (key_u8 hk) with ⟨hrun, _, hat⟩ | ⟨e0, y, _, _, hrun, hRv, hat, _⟩
    · have h1 := hat .nil
      rw [← hx.1, shapes_at] at h1
      cases hs : shapeOf k with
      | none => exact hrun
      | some q => rw [hs] at h1; cases h1
    · have h1 := hat .nil
      rw [← hx.1, shapes_at] at h1
      unfold elemAt at hRv
      split at hRv
      · rename_i hf
        obtain ⟨cs, hv, hvc⟩ := agg_of_formed hf
        rw [hvc] at hRv
        obtain ⟨xs, n', _, hz, hcl, hxl, hfs⟩ := DataW.trod_struct Tryz.underlying223 hRv
        cases hs : shapeOf k with
        | none => rw [hs] at h1; rw [hz] at h1; cases h1
        | some q =>
          obtain ⟨pl, own⟩ := q
          rw [hs] at h1
          obtain ⟨c0, c1, hc⟩ : ∃ c0 c1, cs.toList = [c0, c1] := arr2 (by rw [hcl]; kernel_rfl)
          rw [hc] at hfs
          obtain ⟨x0, x1, rfl⟩ := arr2 hxl
          have f0 := hfs 0 _ rfl
          have f1 := hfs 1 _ rfl
          have c8s : Tryz.prog.cellsOf 221 = 1 := by kernel_rfl
          have c8 : Tryz.prog.cellsOf 197 = 1 := by kernel_rfl
          simp [c8s, c8] at f0 f1
          rw [hz] at h1
          simp only [List.map_cons, List.map_nil, DataW.agg.injEq, List.cons.injEq, and_true] at h1
          obtain ⟨o, ho, rfl, _⟩ := DataW.trod_int Tryz.underlying197 f1
          have ho' : o = (own : Int) := by have := h1.2; cases this; rfl
          subst ho'
          rcases open_slice Tryz.underlying221 f0 with ⟨_, hy⟩ | ⟨a, len, cap, mm, n, D, Pl, hcs0, _, hl, hmx, hmm, hxx, hi⟩
          · rw [hy] at h1; cases h1.1
          · have e1 := h1.1
            rw [hxx] at e1
            injection e1 with e1 e2
            simp at hcs0 ho
            have hlen : pl.length = len := by have := congrArg List.length e1; simpa using this
            have hlm : len ≤ mm := by rw [hmm]; split <;> omega
            have hcell : ∀ (j p : Nat), pl[j]? = some p → W.cell? (a.add j) = some (.int .u8 (p : Int)) := fun j p hj => by
              have hjl := (List.getElem?_eq_some_iff.1 hj).1
              obtain ⟨cs', q1, q2⟩ := hi j (by omega)
              rw [c8, Nat.mul_one] at q1
              obtain ⟨v, hv1, hv2, _⟩ := DataW.trod_int Tryz.underlying197 q2
              have q3 := (World.cells?_some q1).2.2 0 (by decide)
              rw [hv1] at q3
              have q4 := congrArg (fun l => l[j]?) e1
              simp only [List.getElem?_map, hj, Option.map_some] at q4
              rw [List.getElem?_range (by omega)] at q4
              simp only [Option.map_some, Option.some.injEq] at q4
              rw [(Prod.mk.inj hv2).1] at q4
              cases q4
              simpa [Addr.add] using q3
            have hsp : 0 < pl.length → a.spot = none := fun h0 => by
              obtain ⟨p, hp⟩ : ∃ p, pl[0]? = some p := ⟨_, List.getElem?_eq_getElem h0⟩
              have h2 := hcell 0 p hp
              simp only [World.cell?] at h2
              cases hsp : a.spot with
              | none => rfl
              | some k => simp [Addr.add, hsp] at h2; split at h2 <;> simp at h2
            have hpos : 0 < pl.length := by
              unfold shapeOf at hs
              repeat' split at hs
              all_goals first
                | (cases hs; done)
                | (cases hs; decide)
            have hsp := hsp hpos
            obtain ⟨ab, ao, asp⟩ := a
            simp at hsp
            subst hsp
            refine ⟨ab, ao, cap, ?_, fun j p hj => by rw [← addr_at]; exact hcell j p hj⟩
            rw [hrun, hv]
            have : cs = #[c0, c1] := by cases cs; simp at hc; subst hc; rfl
            rw [this, hcs0, ho, hlen]
            rfl
      · cases hRv
  · rcases open_map Tryz.underlying159 hd1 with ⟨_, hx⟩ | ⟨bm, es, clock, m, _, hcs, hb, _, F, hx⟩
    · simp [Rows.laid_novation_contract_parts] at hx
    simp only [Prod.mk.injEq] at hx
    have hcell : W.cell? ⟨0, 0, none⟩ = some (.map (some bm)) := by
      have := World.var?_cell hg1 hv1 0
      rw [Array.eq_one_of_toList hcs] at this
      simpa using this
    refine ⟨bm, hcell, fun W' hB k hk => ?_⟩
    have hb' : W'.heap[bm]? = some (.map es clock) := by rw [hB.block bm (lt_of_block hb)]; exact hb
    rcases fit_look true keyed_u8 Tryz.underlying159 (zero_int W') hb' F (key_u8 hk) with ⟨hrun, _, hat⟩ | ⟨e0, y, _, _, hrun, hRv, hat, _⟩
    · have h1 := hat .nil
      rw [← hx.1, parts_at] at h1
      cases hs : partOf k with
      | none => exact hrun
      | some q => rw [hs] at h1; cases h1
    · obtain ⟨r, hr, rfl, _⟩ := elemAt_int Tryz.underlying3 hRv
      have h1 := hat .nil
      rw [← hx.1, parts_at] at h1
      cases hs : partOf k with
      | none => rw [hs] at h1; cases h1
      | some q =>
        rw [hs] at h1
        cases h1
        rw [hr] at hrun
        exact hrun
end Go.Proofs.YtflddbgadkndlaaGreatDoor

namespace Go.Proofs.YtflddbgadkndlaaGreatDoor
open Go.RowKit Go.ChangeShapes Go.WideShapes Go.Deep

section
variable {H : Type} {enc : TypeId × Value → H} {w : World} {sp : Nat → Bool} {held : Bool}

theorem cells_rat : Tryz.prog.cellsOf 22 = 1 := by kernel_rfl

theorem dec_fx {n : Nat} {cs : List Value} {z : DataW H × List MemPlace} (hl : cs.length = 3) (h : DataW.trod enc Tryz.prog w 0 sp held n 65 cs = some z) :
    ∃ f : Fx, cs = f.cells ∧ f.fits ∧ (Rows.uptoBulk z.1 ≤ 1048576 → f.small) := by
  obtain ⟨c0, c1, c2, rfl⟩ := arr3 hl
  obtain ⟨xs, n', _, hz, _, hxl, hf⟩ := DataW.trod_struct Tryz.underlying65 h
  obtain ⟨y0, y1, y2, rfl⟩ := arr3 hxl
  have h0 := hf 0 _ rfl
  have h1 := hf 1 _ rfl
  have h2 := hf 2 _ rfl
  simp [cells_string, cells_int, cells_rat] at h0 h1 h2
  obtain ⟨s, hs, rfl, _⟩ := DataW.trod_string Tryz.underlying9 h0
  obtain ⟨d, hd, rfl, hw⟩ := DataW.trod_int Tryz.underlying3 h1
  obtain ⟨v, hv, rfl, _⟩ := DataW.trod_string Tryz.underlying22 h2
  simp at hs hd hv
  subst hs hd hv
  refine ⟨⟨s, d, v⟩, rfl, hw, fun hb => ?_⟩
  rw [hz] at hb
  have b0 := bulk_agg (H := H) (d := .lit (.string s.data.toList)) (l := [.lit (.string s.data.toList), .lit (.int .i64 d), .lit (.string v.data.toList)]) (by simp)
  have b2 := bulk_agg (H := H) (d := .lit (.string v.data.toList)) (l := [.lit (.string s.data.toList), .lit (.int .i64 d), .lit (.string v.data.toList)]) (by simp)
  have q0 := bulk_text (H := H) s
  have q2 := bulk_text (H := H) v
  have hb' : Rows.uptoBulk (DataW.agg (H := H) [.lit (.string s.data.toList), .lit (.int .i64 d), .lit (.string v.data.toList)]) ≤ 1048576 := hb
  exact ⟨by show s.size ≤ _; omega, by show v.size ≤ _; omega⟩
theorem dec_ch {n : Nat} {cs : List Value} {z : DataW H × List MemPlace} (hl : cs.length = 4) (h : DataW.trod enc Tryz.prog w 0 sp held n 60 cs = some z) :
    ∃ f : Ch, cs = f.cells ∧ f.fits ∧ (Rows.uptoBulk z.1 ≤ 1048576 → f.small) := by
  obtain ⟨c0, c1, c2, c3, rfl⟩ := arr4 hl
  obtain ⟨xs, n', _, hz, _, hxl, hf⟩ := DataW.trod_struct Tryz.underlying60 h
  obtain ⟨y0, y1, y2, y3, rfl⟩ := arr4 hxl
  have h0 := hf 0 _ rfl
  have h1 := hf 1 _ rfl
  have h2 := hf 2 _ rfl
  have h3 := hf 3 _ rfl
  simp [cells_string, cells_int, cells_bool] at h0 h1 h2 h3
  obtain ⟨s, hs, rfl, _⟩ := DataW.trod_string Tryz.underlying9 h0
  obtain ⟨v, hv, rfl, _⟩ := DataW.trod_string Tryz.underlying9 h1
  obtain ⟨d, hd, rfl, hw⟩ := DataW.trod_int Tryz.underlying3 h2
  obtain ⟨b, hb, rfl⟩ := DataW.trod_bool Tryz.underlying4 h3
  simp at hs hd hv hb
  subst hs hd hv hb
  refine ⟨⟨s, v, d, b⟩, rfl, hw, fun hb => ?_⟩
  rw [hz] at hb
  have b0 := bulk_agg (H := H) (d := .lit (.string s.data.toList)) (l := [.lit (.string s.data.toList), .lit (.string v.data.toList), .lit (.int .i64 d), .lit (.bool b)]) (by simp)
  have b2 := bulk_agg (H := H) (d := .lit (.string v.data.toList)) (l := [.lit (.string s.data.toList), .lit (.string v.data.toList), .lit (.int .i64 d), .lit (.bool b)]) (by simp)
  have q0 := bulk_text (H := H) s
  have q2 := bulk_text (H := H) v
  have hb' : Rows.uptoBulk (DataW.agg (H := H) [.lit (.string s.data.toList), .lit (.string v.data.toList), .lit (.int .i64 d), .lit (.bool b)]) ≤ 1048576 := hb
  exact ⟨by show s.size ≤ _; omega, by show v.size ≤ _; omega⟩
end
end Go.Proofs.YtflddbgadkndlaaGreatDoor
