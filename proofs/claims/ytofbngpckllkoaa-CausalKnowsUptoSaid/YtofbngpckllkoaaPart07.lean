/-
  The keys of the two maps of causal.Only: a need, a choice. The closures of causal.Only: is the key in the map? The closures of causal.Known. causal.keep with each of its closures.  Printed by tools/genkeep.py. observable.CheckEnv. A region that draws its order, whose operations read and whose calls at most make memory: one walk in the order of the text.
-/
import Derived.Test.YtofbngpckllkoaaPart06
import Derived.Maps.OwnSet
import Derived.DeepKeys4
import Derived.Maps.AppendAt
import Derived.Test.YtofbngpckllkoaaPart01
import Derived.Deep.Quiet
namespace Go.Proofs.Ytofbngpckllkoaa
open Go.RowKit

theorem wide_need : (match Try.prog.underlying 53 with | some (.array _ _) | some (.struct _) => true | _ => false) = true := by kernel_rfl
theorem wide_choice : (match Try.prog.underlying 41 with | some (.array _ _) | some (.struct _) => true | _ => false) = true := by kernel_rfl
theorem laidOut : laidOutB Try.prog = true := by kernel_rfl
theorem row_need : (53 : TypeId) < Try.prog.types.size := of_decide_eq_true (by kernel_rfl)
theorem row_choice : (41 : TypeId) < Try.prog.types.size := of_decide_eq_true (by kernel_rfl)
set_option maxRecDepth 100000 in
theorem law_need : Maps.Keyed Try.prog 53 := .of_law (deep_law_laid laidOut (m := 2) (by omega) row_need (by kernel_rfl) wide_need)
set_option maxRecDepth 100000 in
theorem law_choice : Maps.Keyed Try.prog 41 := .of_law (deep_law_laid laidOut (m := 2) (by omega) row_choice (by kernel_rfl) wide_choice)
theorem keyType_need : Try.prog.keyType 53 = true := by kernel_rfl
theorem keyType_choice : Try.prog.keyType 41 = true := by kernel_rfl

theorem cells_need : Try.prog.cellsOf 53 = 2 := by kernel_rfl
theorem cells_choice : Try.prog.cellsOf 41 = 4 := by kernel_rfl
theorem cells_string : Try.prog.cellsOf 9 = 1 := by kernel_rfl
theorem cells_int : Try.prog.cellsOf 3 = 1 := by kernel_rfl
theorem cells_bool : Try.prog.cellsOf 4 = 1 := by kernel_rfl
theorem pos_succ {n m : Nat} (h : n < m) : ∃ k, m = k + 1 := ⟨m - 1, by omega⟩
theorem types_succ : ∃ m, Try.prog.types.size = m + 1 := pos_succ row_need

theorem lits_string (m : Nat) {n : ByteArray} (hn : n.size ≤ maxLen) : Try.prog.keyLits (m + 1) 9 [.string n] = some [.string n.data.toList] := by
  rw [Program.keyLits.eq_def]; simp [Try.underlying9, hn]
theorem lits_int (m : Nat) {d : Int} (hd : (Lit.int .i64 d).wf = true) : Try.prog.keyLits (m + 1) 3 [.int .i64 d] = some [.int .i64 d] := by
  rw [Program.keyLits.eq_def]; simp [Try.underlying3, hd]
theorem lits_bool (m : Nat) (b : Bool) : Try.prog.keyLits (m + 1) 4 [.bool b] = some [.bool b] := by
  rw [Program.keyLits.eq_def]; simp [Try.underlying4]
theorem key_need (n : ByteArray) (d : Int) (hn : n.size ≤ maxLen) (hd : (Lit.int .i64 d).wf = true) : ∃ kl, keyOf Try.prog 53 (.agg #[.string n, .int .i64 d]) = some kl := by
  obtain ⟨m, hm⟩ := types_succ
  have hf : Value.formed Try.prog 53 (.agg #[.string n, .int .i64 d]) = true := by simp [Value.formed, Try.underlying53, cells_need]
  unfold keyOf
  rw [Try.underlying53]
  simp only [keyType_need, hf, Bool.and_self, if_true, hm]
  have hl : Try.prog.keyLits (m + 1 + 1) 53 [.string n, .int .i64 d] = some [.string n.data.toList, .int .i64 d] := by
    rw [Program.keyLits.eq_def]
    simp [Try.underlying53, cells_need, cells_string, cells_int, lits_string m hn, lits_int m hd]
  exact ⟨_, by rw [show (Value.agg #[Value.string n, .int .i64 d]).cells.toList = [.string n, .int .i64 d] from rfl, hl]; rfl⟩
theorem key_choice (p n : ByteArray) (d : Int) (f : Bool) (hp : p.size ≤ maxLen) (hn : n.size ≤ maxLen) (hd : (Lit.int .i64 d).wf = true) : ∃ kl, keyOf Try.prog 41 (.agg #[.string p, .string n, .int .i64 d, .bool f]) = some kl := by
  obtain ⟨m, hm⟩ := types_succ
  have hf : Value.formed Try.prog 41 (.agg #[.string p, .string n, .int .i64 d, .bool f]) = true := by simp [Value.formed, Try.underlying41, cells_choice]
  unfold keyOf
  rw [Try.underlying41]
  simp only [keyType_choice, hf, Bool.and_self, if_true, hm]
  have hl : Try.prog.keyLits (m + 1 + 1) 41 [.string p, .string n, .int .i64 d, .bool f] = some [.string p.data.toList, .string n.data.toList, .int .i64 d, .bool f] := by
    rw [Program.keyLits.eq_def]
    simp [Try.underlying41, cells_choice, cells_string, cells_int, cells_bool, lits_string m hn, lits_string m hp, lits_int m hd, lits_bool m f]
  exact ⟨_, by rw [show (Value.agg #[Value.string p, .string n, .int .i64 d, .bool f]).cells.toList = [.string p, .string n, .int .i64 d, .bool f] from rfl, hl]; rfl⟩
end Go.Proofs.Ytofbngpckllkoaa

namespace Go.Proofs.Ytofbngpckllkoaa
open Go.RowKit

theorem ul_needmap : Try.prog.underlying 50 = some (.map 53 54) := by kernel_rfl
theorem ul_choicemap : Try.prog.underlying 51 = some (.map 41 54) := by kernel_rfl
theorem zero_unit (w : World) : (zeroValue 54).run Try.prog w = .ok (.agg #[]) w := by kernel_rfl
theorem ownsMap_kept {P : Program} {k : TypeId} {R : Value → Option (DataW Unit × List MemPlace)} {w w' : World} {b n : Nat} {D : DataW Unit} (h : w.ownsMap P k R b n D) (e : w'.heap[b]? = w.heap[b]?) : w'.ownsMap P k R b n D := by
  obtain ⟨es, clock, hb, r⟩ := h
  exact ⟨es, clock, by rw [e]; exact hb, r⟩
theorem ownsMap_lt {P : Program} {k : TypeId} {R : Value → Option (DataW Unit × List MemPlace)} {w : World} {b n : Nat} {D : DataW Unit} (h : w.ownsMap P k R b n D) : b < w.heap.size := by
  obtain ⟨es, clock, hb, r⟩ := h
  exact (Array.getElem?_eq_some_iff.1 hb).1

set_option maxHeartbeats 1000000 in
set_option maxRecDepth 100000 in
theorem only1_any (f : Fx) (B bm n : Nat) (D : DataW Unit) (kl : Lit) (w : World) (hc : w.cell? ⟨B, 0, none⟩ = some (.map (some bm))) (hm : w.ownsMap Try.prog 53 (unitElem (H := Unit)) bm n D)
    (hk : keyOf Try.prog 53 (.agg #[.string f.nm, .int .i64 f.d]) = some kl) :
    Calls Try.prog 18 #[f.val, .pointer (some ⟨B, 0, none⟩)] w fun e w' => e = .returned (.bool (Maps.has D kl)) ∧ Below w.heap.size w w' := by
  have hB : B < w.heap.size := World.block_lt_of_cell? w _ hc
  unfold Fx.val fxV
  have HM := Lib.hid hm
  have HK := Lib.hid hk
  clear hm hk
  go_enter Try.func18, Try.ntmps18
  go_wp2_with (at_lookup; refine wpList_lookup_own_unit _ rfl _ _ 50 rfl 53 54 law_need ul_needmap (zero_unit _) bm n D rfl (HM.out.alloc _) _ _ rfl HK.out ?_)
  go_ret
  exact ⟨rfl, below_a2 _ _ _⟩

set_option maxHeartbeats 1000000 in
set_option maxRecDepth 100000 in
theorem only2_any (f : Ch) (B bm n : Nat) (D : DataW Unit) (kl : Lit) (w : World) (hc : w.cell? ⟨B, 0, none⟩ = some (.map (some bm))) (hm : w.ownsMap Try.prog 41 (unitElem (H := Unit)) bm n D)
    (hk : keyOf Try.prog 41 (.agg #[.string f.pt, .string f.nm, .int .i64 f.d, .bool false]) = some kl) :
    Calls Try.prog 19 #[f.val, .pointer (some ⟨B, 0, none⟩)] w fun e w' => e = .returned (.bool (Maps.has D kl)) ∧ Below w.heap.size w w' := by
  have hB : B < w.heap.size := World.block_lt_of_cell? w _ hc
  unfold Ch.val chV
  have HM := Lib.hid hm
  have HK := Lib.hid hk
  clear hm hk
  go_enter Try.func19, Try.ntmps19
  go_wp2_with (at_lookup; refine wpList_lookup_own_unit _ rfl _ _ 51 rfl 41 54 law_choice ul_choicemap (zero_unit _) bm n D rfl (HM.out.alloc _) _ _ rfl HK.out ?_)
  go_ret
  exact ⟨rfl, below_a2 _ _ _⟩
end Go.Proofs.Ytofbngpckllkoaa

namespace Go.Proofs.Ytofbngpckllkoaa
open Go.RowKit

set_option maxRecDepth 100000 in
theorem known1_any (f : Fx) (day : Int) (B : Nat) (w : World) (hc : w.cell? ⟨B, 0, none⟩ = some (.int .i64 day)) :
    Calls Try.prog 13 #[f.val, .pointer (some ⟨B, 0, none⟩)] w fun e w' => e = .returned (.bool (decide (f.d ≤ day))) ∧ Below w.heap.size w w' := by
  have hB : B < w.heap.size := World.block_lt_of_cell? w _ hc
  unfold Fx.val fxV
  go_enter Try.func13, Try.ntmps13
  go_wp2
  go_ret
  exact ⟨rfl, below_a1 _ _⟩
set_option maxRecDepth 100000 in
theorem known2_any (f : Ch) (day : Int) (B : Nat) (w : World) (hc : w.cell? ⟨B, 0, none⟩ = some (.int .i64 day)) :
    Calls Try.prog 15 #[f.val, .pointer (some ⟨B, 0, none⟩)] w fun e w' => e = .returned (.bool (decide (f.d ≤ day))) ∧ Below w.heap.size w w' := by
  have hB : B < w.heap.size := World.block_lt_of_cell? w _ hc
  unfold Ch.val chV
  go_enter Try.func15, Try.ntmps15
  go_wp2
  go_ret
  exact ⟨rfl, below_a1 _ _⟩
end Go.Proofs.Ytofbngpckllkoaa

namespace Go.Proofs.Ytofbngpckllkoaa
open Go.RowKit

theorem cell_three_new (w : World) (a b c : Value) (t : TypeId) : ∀ j u, [a, b, c][j]? = some u → (w.alloc (.cells #[a, b, c] t)).cell? ((⟨w.heap.size, 0, none⟩ : Addr).add j) = some u := by
  intro j u hj
  match j, hj with
  | 0, hj => simp at hj; subst hj; simp [Addr.add]
  | 1, hj => simp at hj; subst hj; simp [Addr.add]
  | 2, hj => simp at hj; subst hj; simp [Addr.add]
theorem cell_four_new (w : World) (a b c d : Value) (t : TypeId) : ∀ j u, [a, b, c, d][j]? = some u → (w.alloc (.cells #[a, b, c, d] t)).cell? ((⟨w.heap.size, 0, none⟩ : Addr).add j) = some u := by
  intro j u hj
  match j, hj with
  | 0, hj => simp at hj; subst hj; simp [Addr.add]
  | 1, hj => simp at hj; subst hj; simp [Addr.add]
  | 2, hj => simp at hj; subst hj; simp [Addr.add]
  | 3, hj => simp at hj; subst hj; simp [Addr.add]
theorem fx_oneCell (f : Fx) : ∀ u ∈ f.cells, u.oneCell' = true := by
  intro u hu
  simp [Fx.cells] at hu
  rcases hu with rfl | rfl | rfl <;> rfl
theorem ch_oneCell (f : Ch) : ∀ u ∈ f.cells, u.oneCell' = true := by
  intro u hu
  simp [Ch.cells] at hu
  rcases hu with rfl | rfl | rfl | rfl <;> rfl
theorem filter_take_true {α : Type} {p : α → Bool} {l : List α} {k : Nat} {f : α} (hf : l[k]? = some f) (hp : p f = true) : (l.take (k + 1)).filter p = (l.take k).filter p ++ [f] := by
  rw [List.take_add_one, hf, List.filter_append]; simp [hp]
theorem filter_take_false {α : Type} {p : α → Bool} {l : List α} {k : Nat} {f : α} (hf : l[k]? = some f) (hp : p f = false) : (l.take (k + 1)).filter p = (l.take k).filter p := by
  rw [List.take_add_one, hf, List.filter_append]; simp [hp]
theorem filter_take_le {α : Type} (p : α → Bool) (l : List α) (k : Nat) : ((l.take k).filter p).length ≤ k :=
  Nat.le_trans (List.length_filter_le _ _) (List.length_take_le _ _)
/-- A slice of the call's own comes back. -/
def OwnPost {α : Type} (enc : α → List Value) (E : TypeId) (m : Nat) (w : World) (l : List α) (e : Ending) (w' : World) : Prop :=
  ∃ ad cap, e = .returned (.slice ad l.length cap) ∧ w'.ownsRow w.heap.size E m (.slice ad l.length cap) l.length (l.flatMap enc) ∧ Below w.heap.size w w'
theorem ul_fixings : Try.prog.underlying 22 = some (.slice 39) := by kernel_rfl
theorem ul_choices : Try.prog.underlying 23 = some (.slice 41) := by kernel_rfl
theorem info_fixing : (Try.prog.info? 39).map (fun i => (i.zero, i.size, i.bytes)) = some (some (.agg #[.string ⟨#[]⟩, .int .i64 0, .string ⟨#[]⟩]), 3, 40) := by kernel_rfl
theorem info_choice : (Try.prog.info? 41).map (fun i => (i.zero, i.size, i.bytes)) = some (some (.agg #[.string ⟨#[]⟩, .string ⟨#[]⟩, .int .i64 0, .bool false]), 4, 48) := by kernel_rfl

set_option maxHeartbeats 2000000 in
set_option maxRecDepth 100000 in
theorem keepF1_any (p : Fx → Bool) (l : List Fx) (ad : Option Addr) (cap B : Nat) (w : World) (hn : l.length ≤ 1100000) (hr : Rd Fx.cells 3 w ad l)
    (HP : ∀ f ∈ l, ∀ W, Below w.heap.size w W → Calls Try.prog 13 #[f.val, .pointer (some ⟨B, 0, none⟩)] W fun e w' => e = .returned (.bool (p f)) ∧ Below W.heap.size W w') :
    Calls Try.prog 12 #[.slice ad l.length cap, .func (.func 13) #[] #[.pointer (some ⟨B, 0, none⟩)]] w (OwnPost Fx.cells 39 3 w (l.filter p)) := by
  obtain ⟨i0, hi, hz0, hz1, hz2⟩ := info_parts info_fixing
  have HQ := Lib.hid HP
  have HD := Lib.hid hr
  clear HP hr
  go_enter Try.func12, Try.ntmps12
  go_wp2
  go_loopw [5, 10] (fun v i wr => ∃ (k M : Nat) (adb : Option Addr) (capb : Nat), k ≤ l.length ∧ i = .int .i64 k ∧ v = .slice adb M capb ∧ M ≤ k ∧ Hid (M = ((l.take k).filter p).length) ∧
      wr.ownsRow w.heap.size 39 3 (.slice adb M capb) M (((l.take k).filter p).flatMap Fx.cells) ∧ Below w.heap.size w wr) (fun _ i _ => l.length - (intOf i).toNat)
  case atStart => exact ⟨0, 0, none, 0, Nat.zero_le _, rfl, rfl, Nat.le_refl _, rfl, World.ownsRow_nil _ _ _ _, Below.refl _ _⟩
  case round =>
    obtain ⟨k, M, adb, capb, hk, rfl, rfl, hMk, HM, hown, hbel⟩ := hrel
    by_cases hlt : k < l.length
    · obtain ⟨f, hf⟩ : ∃ f, l[k]? = some f := ⟨_, List.getElem?_eq_getElem hlt⟩
      have hfm : f ∈ l := List.mem_of_getElem? hf
      have HRf := ((HD.out.below hbel).fx hf)
      have hsz := hbel.size
      have HC := Lib.hid (HQ.out f hfm _ (hbel.alloc hsz (.cells #[.string f.nm, .int .i64 f.d, .string f.vl] 39)))
      have HF := Lib.hid hf
      clear hf hfm
      obtain ⟨b, off, rfl, hc1, hc2, hc3⟩ := HRf
      simp only [Fx.val, fxV] at HC
      cases hp : p f with
      | true =>
        rw [hp] at HC
        have HX := Lib.hid (filter_take_true HF.out hp)
        clear hp
        go_wp2_with fail
        refine (HC.out).mono ?_
        rintro e w1 ⟨rfl, hb1⟩
        have hown1 := ownsRow_below' (hown.alloc (.cells #[.string f.nm, .int .i64 f.d, .string f.vl] 39)) hb1
        have q0 : w1.cell? ⟨wr.heap.size, 0, none⟩ = some (.string f.nm) := by rw [hb1.cell (by simp)]; go_simp
        have q1 : w1.cell? ⟨wr.heap.size, 1, none⟩ = some (.int .i64 f.d) := by rw [hb1.cell (by simp)]; go_simp
        have q2 : w1.cell? ⟨wr.heap.size, 2, none⟩ = some (.string f.vl) := by rw [hb1.cell (by simp)]; go_simp
        have hs1 : wr.heap.size < w1.heap.size := by have := hb1.size; simp at this; omega
        have hbel1 : Below w.heap.size w w1 := (hbel.alloc hsz _).trans (hb1.mono (by simp; omega))
        have hlt1 := hown1.lt
        clear hb1 hown hbel
        go_wp2_with (at_builtin; refine wpList_append_own _ rfl _ _ 22 rfl w.heap.size 39 i0 (.agg #[.string ⟨#[]⟩, .int .i64 0, .string ⟨#[]⟩]) 3 40 ul_fixings hi hz0 hz1 hz2 rfl (by decide) _ _ _ rfl (hown1.alloc _) ⟨w1.heap.size, 0, none⟩ 1 1 [.string f.nm, .int .i64 f.d, .string f.vl] rfl rfl (cell_three_new _ _ _ _ _) (fx_oneCell f) ?d1 ?d2 ?d3 ?_)
        case d1 => unfold maxLen; omega
        case d2 => omega
        case d3 => simp; omega
        intro v2 w2 hown2 hgrow2 _
        have hbel2 : Below w.heap.size w w2 := (hbel1.alloc (by omega) _).grown hgrow2 (by simp; omega) (fun k hk => (hlt1 k hk).1)
        obtain ⟨ad3, cap3, rfl, _⟩ := Sl.of_owns hown2
        have HM2 : Hid (M + 1 = ((l.take (k + 1)).filter p).length) := by show _ = _; rw [HX.out, List.length_append, ← HM.out]; rfl
        have hown3 : w2.ownsRow w.heap.size 39 3 (.slice ad3 (M + 1) cap3) (M + 1) (((l.take (k + 1)).filter p).flatMap Fx.cells) := by
          rw [HX.out, List.flatMap_append]; simpa [Fx.cells] using hown2
        clear hgrow2 hown2 hown1 hbel1 hlt1
        go_wp2
        go_roundw
        case rel => exact ⟨k + 1, M + 1, ad3, cap3, by omega, by go_num, rfl, by omega, HM2, hown3, hbel2⟩
        case measure => simp [intOf]; omega
      | false =>
        rw [hp] at HC
        have HX := Lib.hid (filter_take_false HF.out hp)
        clear hp
        go_wp2_with fail
        refine (HC.out).mono ?_
        rintro e w1 ⟨rfl, hb1⟩
        have hown1 := ownsRow_below' (hown.alloc (.cells #[.string f.nm, .int .i64 f.d, .string f.vl] 39)) hb1
        have hbel1 : Below w.heap.size w w1 := (hbel.alloc hsz _).trans (hb1.mono (by simp; omega))
        rw [← HX.out] at hown1
        have HM2 : Hid (M = ((l.take (k + 1)).filter p).length) := by show _ = _; rw [HX.out]; exact HM.out
        clear hb1 hown hbel
        go_wp2
        go_roundw
        case rel => exact ⟨k + 1, M, adb, capb, by omega, by go_num, rfl, by omega, HM2, hown1, hbel1⟩
        case measure => simp [intOf]; omega
    · obtain rfl : k = l.length := by omega
      rw [List.take_length] at hown HM
      have HR : Hid (OwnPost Fx.cells 39 3 w (l.filter p) (.returned (.slice adb M capb)) wr) := by
        have h := HM.out
        subst h
        exact ⟨adb, capb, rfl, hown, hbel⟩
      go_wp2
      go_ret
      exact HR.out

set_option maxHeartbeats 2000000 in
set_option maxRecDepth 100000 in
theorem keepC1_any (p : Ch → Bool) (l : List Ch) (ad : Option Addr) (cap B : Nat) (w : World) (hn : l.length ≤ 1100000) (hr : Rd Ch.cells 4 w ad l)
    (HP : ∀ f ∈ l, ∀ W, Below w.heap.size w W → Calls Try.prog 15 #[f.val, .pointer (some ⟨B, 0, none⟩)] W fun e w' => e = .returned (.bool (p f)) ∧ Below W.heap.size W w') :
    Calls Try.prog 14 #[.slice ad l.length cap, .func (.func 15) #[] #[.pointer (some ⟨B, 0, none⟩)]] w (OwnPost Ch.cells 41 4 w (l.filter p)) := by
  obtain ⟨i0, hi, hz0, hz1, hz2⟩ := info_parts info_choice
  have HQ := Lib.hid HP
  have HD := Lib.hid hr
  clear HP hr
  go_enter Try.func14, Try.ntmps14
  go_wp2
  go_loopw [5, 10] (fun v i wr => ∃ (k M : Nat) (adb : Option Addr) (capb : Nat), k ≤ l.length ∧ i = .int .i64 k ∧ v = .slice adb M capb ∧ M ≤ k ∧ Hid (M = ((l.take k).filter p).length) ∧
      wr.ownsRow w.heap.size 41 4 (.slice adb M capb) M (((l.take k).filter p).flatMap Ch.cells) ∧ Below w.heap.size w wr) (fun _ i _ => l.length - (intOf i).toNat)
  case atStart => exact ⟨0, 0, none, 0, Nat.zero_le _, rfl, rfl, Nat.le_refl _, rfl, World.ownsRow_nil _ _ _ _, Below.refl _ _⟩
  case round =>
    obtain ⟨k, M, adb, capb, hk, rfl, rfl, hMk, HM, hown, hbel⟩ := hrel
    by_cases hlt : k < l.length
    · obtain ⟨f, hf⟩ : ∃ f, l[k]? = some f := ⟨_, List.getElem?_eq_getElem hlt⟩
      have hfm : f ∈ l := List.mem_of_getElem? hf
      have HRf := ((HD.out.below hbel).ch hf)
      have hsz := hbel.size
      have HC := Lib.hid (HQ.out f hfm _ (hbel.alloc hsz (.cells #[.string f.pt, .string f.nm, .int .i64 f.d, .bool f.first] 41)))
      have HF := Lib.hid hf
      clear hf hfm
      obtain ⟨b, off, rfl, hc1, hc2, hc3, hc4⟩ := HRf
      simp only [Ch.val, chV] at HC
      cases hp : p f with
      | true =>
        rw [hp] at HC
        have HX := Lib.hid (filter_take_true HF.out hp)
        clear hp
        go_wp2_with fail
        refine (HC.out).mono ?_
        rintro e w1 ⟨rfl, hb1⟩
        have hown1 := ownsRow_below' (hown.alloc (.cells #[.string f.pt, .string f.nm, .int .i64 f.d, .bool f.first] 41)) hb1
        have q0 : w1.cell? ⟨wr.heap.size, 0, none⟩ = some (.string f.pt) := by rw [hb1.cell (by simp)]; go_simp
        have q1 : w1.cell? ⟨wr.heap.size, 1, none⟩ = some (.string f.nm) := by rw [hb1.cell (by simp)]; go_simp
        have q2 : w1.cell? ⟨wr.heap.size, 2, none⟩ = some (.int .i64 f.d) := by rw [hb1.cell (by simp)]; go_simp
        have q3 : w1.cell? ⟨wr.heap.size, 3, none⟩ = some (.bool f.first) := by rw [hb1.cell (by simp)]; go_simp
        have hs1 : wr.heap.size < w1.heap.size := by have := hb1.size; simp at this; omega
        have hbel1 : Below w.heap.size w w1 := (hbel.alloc hsz _).trans (hb1.mono (by simp; omega))
        have hlt1 := hown1.lt
        clear hb1 hown hbel
        go_wp2_with (at_builtin; refine wpList_append_own _ rfl _ _ 23 rfl w.heap.size 41 i0 (.agg #[.string ⟨#[]⟩, .string ⟨#[]⟩, .int .i64 0, .bool false]) 4 48 ul_choices hi hz0 hz1 hz2 rfl (by decide) _ _ _ rfl (hown1.alloc _) ⟨w1.heap.size, 0, none⟩ 1 1 [.string f.pt, .string f.nm, .int .i64 f.d, .bool f.first] rfl rfl (cell_four_new _ _ _ _ _ _) (ch_oneCell f) ?d1 ?d2 ?d3 ?_)
        case d1 => unfold maxLen; omega
        case d2 => omega
        case d3 => simp; omega
        intro v2 w2 hown2 hgrow2 _
        have hbel2 : Below w.heap.size w w2 := (hbel1.alloc (by omega) _).grown hgrow2 (by simp; omega) (fun k hk => (hlt1 k hk).1)
        obtain ⟨ad3, cap3, rfl, _⟩ := Sl.of_owns hown2
        have HM2 : Hid (M + 1 = ((l.take (k + 1)).filter p).length) := by show _ = _; rw [HX.out, List.length_append, ← HM.out]; rfl
        have hown3 : w2.ownsRow w.heap.size 41 4 (.slice ad3 (M + 1) cap3) (M + 1) (((l.take (k + 1)).filter p).flatMap Ch.cells) := by
          rw [HX.out, List.flatMap_append]; simpa [Ch.cells] using hown2
        clear hgrow2 hown2 hown1 hbel1 hlt1
        go_wp2
        go_roundw
        case rel => exact ⟨k + 1, M + 1, ad3, cap3, by omega, by go_num, rfl, by omega, HM2, hown3, hbel2⟩
        case measure => simp [intOf]; omega
      | false =>
        rw [hp] at HC
        have HX := Lib.hid (filter_take_false HF.out hp)
        clear hp
        go_wp2_with fail
        refine (HC.out).mono ?_
        rintro e w1 ⟨rfl, hb1⟩
        have hown1 := ownsRow_below' (hown.alloc (.cells #[.string f.pt, .string f.nm, .int .i64 f.d, .bool f.first] 41)) hb1
        have hbel1 : Below w.heap.size w w1 := (hbel.alloc hsz _).trans (hb1.mono (by simp; omega))
        rw [← HX.out] at hown1
        have HM2 : Hid (M = ((l.take (k + 1)).filter p).length) := by show _ = _; rw [HX.out]; exact HM.out
        clear hb1 hown hbel
        go_wp2
        go_roundw
        case rel => exact ⟨k + 1, M, adb, capb, by omega, by go_num, rfl, by omega, HM2, hown1, hbel1⟩
        case measure => simp [intOf]; omega
    · obtain rfl : k = l.length := by omega
      rw [List.take_length] at hown HM
      have HR : Hid (OwnPost Ch.cells 41 4 w (l.filter p) (.returned (.slice adb M capb)) wr) := by
        have h := HM.out
        subst h
        exact ⟨adb, capb, rfl, hown, hbel⟩
      go_wp2
      go_ret
      exact HR.out

set_option maxHeartbeats 2000000 in
set_option maxRecDepth 100000 in
theorem keepF2_any (p : Fx → Bool) (l : List Fx) (ad : Option Addr) (cap B : Nat) (w : World) (hn : l.length ≤ 1100000) (hr : Rd Fx.cells 3 w ad l)
    (HP : ∀ f ∈ l, ∀ W, Below w.heap.size w W → Calls Try.prog 18 #[f.val, .pointer (some ⟨B, 0, none⟩)] W fun e w' => e = .returned (.bool (p f)) ∧ Below W.heap.size W w') :
    Calls Try.prog 12 #[.slice ad l.length cap, .func (.func 18) #[] #[.pointer (some ⟨B, 0, none⟩)]] w (OwnPost Fx.cells 39 3 w (l.filter p)) := by
  obtain ⟨i0, hi, hz0, hz1, hz2⟩ := info_parts info_fixing
  have HQ := Lib.hid HP
  have HD := Lib.hid hr
  clear HP hr
  go_enter Try.func12, Try.ntmps12
  go_wp2
  go_loopw [5, 10] (fun v i wr => ∃ (k M : Nat) (adb : Option Addr) (capb : Nat), k ≤ l.length ∧ i = .int .i64 k ∧ v = .slice adb M capb ∧ M ≤ k ∧ Hid (M = ((l.take k).filter p).length) ∧
      wr.ownsRow w.heap.size 39 3 (.slice adb M capb) M (((l.take k).filter p).flatMap Fx.cells) ∧ Below w.heap.size w wr) (fun _ i _ => l.length - (intOf i).toNat)
  case atStart => exact ⟨0, 0, none, 0, Nat.zero_le _, rfl, rfl, Nat.le_refl _, rfl, World.ownsRow_nil _ _ _ _, Below.refl _ _⟩
  case round =>
    obtain ⟨k, M, adb, capb, hk, rfl, rfl, hMk, HM, hown, hbel⟩ := hrel
    by_cases hlt : k < l.length
    · obtain ⟨f, hf⟩ : ∃ f, l[k]? = some f := ⟨_, List.getElem?_eq_getElem hlt⟩
      have hfm : f ∈ l := List.mem_of_getElem? hf
      have HRf := ((HD.out.below hbel).fx hf)
      have hsz := hbel.size
      have HC := Lib.hid (HQ.out f hfm _ (hbel.alloc hsz (.cells #[.string f.nm, .int .i64 f.d, .string f.vl] 39)))
      have HF := Lib.hid hf
      clear hf hfm
      obtain ⟨b, off, rfl, hc1, hc2, hc3⟩ := HRf
      simp only [Fx.val, fxV] at HC
      cases hp : p f with
      | true =>
        rw [hp] at HC
        have HX := Lib.hid (filter_take_true HF.out hp)
        clear hp
        go_wp2_with fail
        refine (HC.out).mono ?_
        rintro e w1 ⟨rfl, hb1⟩
        have hown1 := ownsRow_below' (hown.alloc (.cells #[.string f.nm, .int .i64 f.d, .string f.vl] 39)) hb1
        have q0 : w1.cell? ⟨wr.heap.size, 0, none⟩ = some (.string f.nm) := by rw [hb1.cell (by simp)]; go_simp
        have q1 : w1.cell? ⟨wr.heap.size, 1, none⟩ = some (.int .i64 f.d) := by rw [hb1.cell (by simp)]; go_simp
        have q2 : w1.cell? ⟨wr.heap.size, 2, none⟩ = some (.string f.vl) := by rw [hb1.cell (by simp)]; go_simp
        have hs1 : wr.heap.size < w1.heap.size := by have := hb1.size; simp at this; omega
        have hbel1 : Below w.heap.size w w1 := (hbel.alloc hsz _).trans (hb1.mono (by simp; omega))
        have hlt1 := hown1.lt
        clear hb1 hown hbel
        go_wp2_with (at_builtin; refine wpList_append_own _ rfl _ _ 22 rfl w.heap.size 39 i0 (.agg #[.string ⟨#[]⟩, .int .i64 0, .string ⟨#[]⟩]) 3 40 ul_fixings hi hz0 hz1 hz2 rfl (by decide) _ _ _ rfl (hown1.alloc _) ⟨w1.heap.size, 0, none⟩ 1 1 [.string f.nm, .int .i64 f.d, .string f.vl] rfl rfl (cell_three_new _ _ _ _ _) (fx_oneCell f) ?d1 ?d2 ?d3 ?_)
        case d1 => unfold maxLen; omega
        case d2 => omega
        case d3 => simp; omega
        intro v2 w2 hown2 hgrow2 _
        have hbel2 : Below w.heap.size w w2 := (hbel1.alloc (by omega) _).grown hgrow2 (by simp; omega) (fun k hk => (hlt1 k hk).1)
        obtain ⟨ad3, cap3, rfl, _⟩ := Sl.of_owns hown2
        have HM2 : Hid (M + 1 = ((l.take (k + 1)).filter p).length) := by show _ = _; rw [HX.out, List.length_append, ← HM.out]; rfl
        have hown3 : w2.ownsRow w.heap.size 39 3 (.slice ad3 (M + 1) cap3) (M + 1) (((l.take (k + 1)).filter p).flatMap Fx.cells) := by
          rw [HX.out, List.flatMap_append]; simpa [Fx.cells] using hown2
        clear hgrow2 hown2 hown1 hbel1 hlt1
        go_wp2
        go_roundw
        case rel => exact ⟨k + 1, M + 1, ad3, cap3, by omega, by go_num, rfl, by omega, HM2, hown3, hbel2⟩
        case measure => simp [intOf]; omega
      | false =>
        rw [hp] at HC
        have HX := Lib.hid (filter_take_false HF.out hp)
        clear hp
        go_wp2_with fail
        refine (HC.out).mono ?_
        rintro e w1 ⟨rfl, hb1⟩
        have hown1 := ownsRow_below' (hown.alloc (.cells #[.string f.nm, .int .i64 f.d, .string f.vl] 39)) hb1
        have hbel1 : Below w.heap.size w w1 := (hbel.alloc hsz _).trans (hb1.mono (by simp; omega))
        rw [← HX.out] at hown1
        have HM2 : Hid (M = ((l.take (k + 1)).filter p).length) := by show _ = _; rw [HX.out]; exact HM.out
        clear hb1 hown hbel
        go_wp2
        go_roundw
        case rel => exact ⟨k + 1, M, adb, capb, by omega, by go_num, rfl, by omega, HM2, hown1, hbel1⟩
        case measure => simp [intOf]; omega
    · obtain rfl : k = l.length := by omega
      rw [List.take_length] at hown HM
      have HR : Hid (OwnPost Fx.cells 39 3 w (l.filter p) (.returned (.slice adb M capb)) wr) := by
        have h := HM.out
        subst h
        exact ⟨adb, capb, rfl, hown, hbel⟩
      go_wp2
      go_ret
      exact HR.out

set_option maxHeartbeats 2000000 in
set_option maxRecDepth 100000 in
theorem keepC2_any (p : Ch → Bool) (l : List Ch) (ad : Option Addr) (cap B : Nat) (w : World) (hn : l.length ≤ 1100000) (hr : Rd Ch.cells 4 w ad l)
    (HP : ∀ f ∈ l, ∀ W, Below w.heap.size w W → Calls Try.prog 19 #[f.val, .pointer (some ⟨B, 0, none⟩)] W fun e w' => e = .returned (.bool (p f)) ∧ Below W.heap.size W w') :
    Calls Try.prog 14 #[.slice ad l.length cap, .func (.func 19) #[] #[.pointer (some ⟨B, 0, none⟩)]] w (OwnPost Ch.cells 41 4 w (l.filter p)) := by
  obtain ⟨i0, hi, hz0, hz1, hz2⟩ := info_parts info_choice
  have HQ := Lib.hid HP
  have HD := Lib.hid hr
  clear HP hr
  go_enter Try.func14, Try.ntmps14
  go_wp2
  go_loopw [5, 10] (fun v i wr => ∃ (k M : Nat) (adb : Option Addr) (capb : Nat), k ≤ l.length ∧ i = .int .i64 k ∧ v = .slice adb M capb ∧ M ≤ k ∧ Hid (M = ((l.take k).filter p).length) ∧
      wr.ownsRow w.heap.size 41 4 (.slice adb M capb) M (((l.take k).filter p).flatMap Ch.cells) ∧ Below w.heap.size w wr) (fun _ i _ => l.length - (intOf i).toNat)
  case atStart => exact ⟨0, 0, none, 0, Nat.zero_le _, rfl, rfl, Nat.le_refl _, rfl, World.ownsRow_nil _ _ _ _, Below.refl _ _⟩
  case round =>
    obtain ⟨k, M, adb, capb, hk, rfl, rfl, hMk, HM, hown, hbel⟩ := hrel
    by_cases hlt : k < l.length
    · obtain ⟨f, hf⟩ : ∃ f, l[k]? = some f := ⟨_, List.getElem?_eq_getElem hlt⟩
      have hfm : f ∈ l := List.mem_of_getElem? hf
      have HRf := ((HD.out.below hbel).ch hf)
      have hsz := hbel.size
      have HC := Lib.hid (HQ.out f hfm _ (hbel.alloc hsz (.cells #[.string f.pt, .string f.nm, .int .i64 f.d, .bool f.first] 41)))
      have HF := Lib.hid hf
      clear hf hfm
      obtain ⟨b, off, rfl, hc1, hc2, hc3, hc4⟩ := HRf
      simp only [Ch.val, chV] at HC
      cases hp : p f with
      | true =>
        rw [hp] at HC
        have HX := Lib.hid (filter_take_true HF.out hp)
        clear hp
        go_wp2_with fail
        refine (HC.out).mono ?_
        rintro e w1 ⟨rfl, hb1⟩
        have hown1 := ownsRow_below' (hown.alloc (.cells #[.string f.pt, .string f.nm, .int .i64 f.d, .bool f.first] 41)) hb1
        have q0 : w1.cell? ⟨wr.heap.size, 0, none⟩ = some (.string f.pt) := by rw [hb1.cell (by simp)]; go_simp
        have q1 : w1.cell? ⟨wr.heap.size, 1, none⟩ = some (.string f.nm) := by rw [hb1.cell (by simp)]; go_simp
        have q2 : w1.cell? ⟨wr.heap.size, 2, none⟩ = some (.int .i64 f.d) := by rw [hb1.cell (by simp)]; go_simp
        have q3 : w1.cell? ⟨wr.heap.size, 3, none⟩ = some (.bool f.first) := by rw [hb1.cell (by simp)]; go_simp
        have hs1 : wr.heap.size < w1.heap.size := by have := hb1.size; simp at this; omega
        have hbel1 : Below w.heap.size w w1 := (hbel.alloc hsz _).trans (hb1.mono (by simp; omega))
        have hlt1 := hown1.lt
        clear hb1 hown hbel
        go_wp2_with (at_builtin; refine wpList_append_own _ rfl _ _ 23 rfl w.heap.size 41 i0 (.agg #[.string ⟨#[]⟩, .string ⟨#[]⟩, .int .i64 0, .bool false]) 4 48 ul_choices hi hz0 hz1 hz2 rfl (by decide) _ _ _ rfl (hown1.alloc _) ⟨w1.heap.size, 0, none⟩ 1 1 [.string f.pt, .string f.nm, .int .i64 f.d, .bool f.first] rfl rfl (cell_four_new _ _ _ _ _ _) (ch_oneCell f) ?d1 ?d2 ?d3 ?_)
        case d1 => unfold maxLen; omega
        case d2 => omega
        case d3 => simp; omega
        intro v2 w2 hown2 hgrow2 _
        have hbel2 : Below w.heap.size w w2 := (hbel1.alloc (by omega) _).grown hgrow2 (by simp; omega) (fun k hk => (hlt1 k hk).1)
        obtain ⟨ad3, cap3, rfl, _⟩ := Sl.of_owns hown2
        have HM2 : Hid (M + 1 = ((l.take (k + 1)).filter p).length) := by show _ = _; rw [HX.out, List.length_append, ← HM.out]; rfl
        have hown3 : w2.ownsRow w.heap.size 41 4 (.slice ad3 (M + 1) cap3) (M + 1) (((l.take (k + 1)).filter p).flatMap Ch.cells) := by
          rw [HX.out, List.flatMap_append]; simpa [Ch.cells] using hown2
        clear hgrow2 hown2 hown1 hbel1 hlt1
        go_wp2
        go_roundw
        case rel => exact ⟨k + 1, M + 1, ad3, cap3, by omega, by go_num, rfl, by omega, HM2, hown3, hbel2⟩
        case measure => simp [intOf]; omega
      | false =>
        rw [hp] at HC
        have HX := Lib.hid (filter_take_false HF.out hp)
        clear hp
        go_wp2_with fail
        refine (HC.out).mono ?_
        rintro e w1 ⟨rfl, hb1⟩
        have hown1 := ownsRow_below' (hown.alloc (.cells #[.string f.pt, .string f.nm, .int .i64 f.d, .bool f.first] 41)) hb1
        have hbel1 : Below w.heap.size w w1 := (hbel.alloc hsz _).trans (hb1.mono (by simp; omega))
        rw [← HX.out] at hown1
        have HM2 : Hid (M = ((l.take (k + 1)).filter p).length) := by show _ = _; rw [HX.out]; exact HM.out
        clear hb1 hown hbel
        go_wp2
        go_roundw
        case rel => exact ⟨k + 1, M, adb, capb, by omega, by go_num, rfl, by omega, HM2, hown1, hbel1⟩
        case measure => simp [intOf]; omega
    · obtain rfl : k = l.length := by omega
      rw [List.take_length] at hown HM
      have HR : Hid (OwnPost Ch.cells 41 4 w (l.filter p) (.returned (.slice adb M capb)) wr) := by
        have h := HM.out
        subst h
        exact ⟨adb, capb, rfl, hown, hbel⟩
      go_wp2
      go_ret
      exact HR.out
end Go.Proofs.Ytofbngpckllkoaa

namespace Go.Proofs.Ytofbngpckllkoaa
open Go.RowKit

/-- The error of what is known. -/
def envErr (fs : List Fx) (cs : List Ch) : Int :=
  if 1000 < fs.length ∨ 1000 < cs.length then 4
  else if (fs.any fxBad || (cs.any chBad || (!incB Fx.lt fs || !incB Ch.lt cs))) = true then 8 else 0

set_option maxHeartbeats 1000000 in
set_option maxRecDepth 100000 in
theorem checkEnv_any (fs : List Fx) (cs : List Ch) (af ac : Option Addr) (cf cc : Nat) (w : World) (hn : fs.length ≤ 1100000) (hm : cs.length ≤ 1100000)
    (hf : Rd Fx.cells 3 w af fs) (hc : Rd Ch.cells 4 w ac cs) (hfs : ∀ f ∈ fs, f.small) (hcs : ∀ c ∈ cs, c.small) :
    Calls Try.prog 11 #[.agg #[.slice af fs.length cf, .slice ac cs.length cc]] w fun e w' => e = .returned (.int .i64 (envErr fs cs)) ∧ Below w.heap.size w w' := by
  have HF := Lib.hid (fun W (h : Below w.heap.size w W) => containsFx_any fs af cf W hn (hf.below h) hfs)
  have HC := Lib.hid (fun W (h : Below w.heap.size w W) => containsCh_any cs ac cc W hm (hc.below h) hcs)
  have HOF := Lib.hid (fun W (h : Below w.heap.size w W) => orderedFx_any fs af cf W hn (hf.below h))
  have HOC := Lib.hid (fun W (h : Below w.heap.size w W) => orderedCh_any cs ac cc W hm (hc.below h))
  obtain ⟨E, hE⟩ : ∃ E, envErr fs cs = E := ⟨_, rfl⟩
  rw [hE]
  unfold envErr at hE
  have HE := Lib.hid hE
  clear hf hc hfs hcs hE
  have hb0 := fun o => below_a1 w o
  by_cases h1 : 1000 < fs.length
  · have d1 : decide ((1000 : Int) < (fs.length : Int)) = true := by rw [decide_eq_true_eq]; omega
    rw [if_pos (.inl h1)] at HE
    clear h1
    go_enter Try.func11, Try.ntmps11
    go_wp2
    go_ret
    exact ⟨ret_int' HE.out, hb0 _⟩
  · have d1 : decide ((1000 : Int) < (fs.length : Int)) = false := by rw [decide_eq_false_iff_not]; omega
    by_cases h2 : 1000 < cs.length
    · have d2 : decide ((1000 : Int) < (cs.length : Int)) = true := by rw [decide_eq_true_eq]; omega
      rw [if_pos (.inr h2)] at HE
      clear h2 h1
      go_enter Try.func11, Try.ntmps11
      go_wp2
      go_ret
      exact ⟨ret_int' HE.out, hb0 _⟩
    · have d2 : decide ((1000 : Int) < (cs.length : Int)) = false := by rw [decide_eq_false_iff_not]; omega
      rw [if_neg (by omega)] at HE
      clear h2 h1
      generalize fs.any fxBad = A at HF HE
      generalize cs.any chBad = B at HC HE
      generalize incB Fx.lt fs = C at HOF HE
      generalize incB Ch.lt cs = D at HOC HE
      cases A with
      | true =>
        simp only [Bool.true_or, if_true] at HE
        go_enter Try.func11, Try.ntmps11
        go_wp2_with fail
        refine (HF.out _ (hb0 _)).mono ?_
        rintro e w1 ⟨rfl, hb1⟩
        have hw1 : Below w.heap.size w w1 := (hb0 _).trans (hb1.mono (by simp))
        have k0 : w1.cell? ⟨w.heap.size, 0, none⟩ = some (.slice af fs.length cf) := by rw [hb1.cell (by simp)]; go_simp
        have k1 : w1.cell? ⟨w.heap.size, 1, none⟩ = some (.slice ac cs.length cc) := by rw [hb1.cell (by simp)]; go_simp
        have hs1 : w.heap.size < w1.heap.size := by have := hb1.size; simp at this; omega
        clear hb1
        go_wp2
        go_ret
        exact ⟨ret_int' HE.out, hw1⟩
      | false =>
        cases B with
        | true =>
          simp only [Bool.true_or, Bool.false_or, if_true] at HE
          go_enter Try.func11, Try.ntmps11
          go_wp2_with fail
          refine (HF.out _ (hb0 _)).mono ?_
          rintro e w1 ⟨rfl, hb1⟩
          have hw1 : Below w.heap.size w w1 := (hb0 _).trans (hb1.mono (by simp))
          have k0 : w1.cell? ⟨w.heap.size, 0, none⟩ = some (.slice af fs.length cf) := by rw [hb1.cell (by simp)]; go_simp
          have k1 : w1.cell? ⟨w.heap.size, 1, none⟩ = some (.slice ac cs.length cc) := by rw [hb1.cell (by simp)]; go_simp
          have hs1 : w.heap.size < w1.heap.size := by have := hb1.size; simp at this; omega
          clear hb1
          go_wp2_with fail
          refine (HC.out _ hw1).mono ?_
          rintro e w2 ⟨rfl, hb2⟩
          have hw2 : Below w.heap.size w w2 := hw1.trans (hb2.mono hw1.size)
          have k0' : w2.cell? ⟨w.heap.size, 0, none⟩ = some (.slice af fs.length cf) := by rw [hb2.cell hs1]; exact k0
          have k1' : w2.cell? ⟨w.heap.size, 1, none⟩ = some (.slice ac cs.length cc) := by rw [hb2.cell hs1]; exact k1
          have hs2 : w.heap.size < w2.heap.size := by have := hb2.size; omega
          clear hb2 k0 k1
          have k0 := k0'
          have k1 := k1'
          clear k0' k1'
          go_wp2
          go_ret
          exact ⟨ret_int' HE.out, hw2⟩
        | false =>
          cases C with
          | false =>
            simp only [Bool.true_or, Bool.false_or, Bool.not_false, if_true] at HE
            go_enter Try.func11, Try.ntmps11
            go_wp2_with fail
            refine (HF.out _ (hb0 _)).mono ?_
            rintro e w1 ⟨rfl, hb1⟩
            have hw1 : Below w.heap.size w w1 := (hb0 _).trans (hb1.mono (by simp))
            have k0 : w1.cell? ⟨w.heap.size, 0, none⟩ = some (.slice af fs.length cf) := by rw [hb1.cell (by simp)]; go_simp
            have k1 : w1.cell? ⟨w.heap.size, 1, none⟩ = some (.slice ac cs.length cc) := by rw [hb1.cell (by simp)]; go_simp
            have hs1 : w.heap.size < w1.heap.size := by have := hb1.size; simp at this; omega
            clear hb1
            go_wp2_with fail
            refine (HC.out _ hw1).mono ?_
            rintro e w2 ⟨rfl, hb2⟩
            have hw2 : Below w.heap.size w w2 := hw1.trans (hb2.mono hw1.size)
            have k0' : w2.cell? ⟨w.heap.size, 0, none⟩ = some (.slice af fs.length cf) := by rw [hb2.cell hs1]; exact k0
            have k1' : w2.cell? ⟨w.heap.size, 1, none⟩ = some (.slice ac cs.length cc) := by rw [hb2.cell hs1]; exact k1
            have hs2 : w.heap.size < w2.heap.size := by have := hb2.size; omega
            clear hb2 k0 k1
            have k0 := k0'
            have k1 := k1'
            clear k0' k1'
            go_wp2_with fail
            refine (HOF.out _ hw2).mono ?_
            rintro e w3 ⟨rfl, hb3⟩
            have hw3 : Below w.heap.size w w3 := hw2.trans (hb3.mono hw2.size)
            have k0' : w3.cell? ⟨w.heap.size, 0, none⟩ = some (.slice af fs.length cf) := by rw [hb3.cell hs2]; exact k0
            have k1' : w3.cell? ⟨w.heap.size, 1, none⟩ = some (.slice ac cs.length cc) := by rw [hb3.cell hs2]; exact k1
            have hs3 : w.heap.size < w3.heap.size := by have := hb3.size; omega
            clear hb3 k0 k1
            have k0 := k0'
            have k1 := k1'
            clear k0' k1'
            go_wp2
            go_ret
            exact ⟨ret_int' HE.out, hw3⟩
          | true =>
            cases D with
            | false =>
              simp only [Bool.false_or, Bool.not_false, Bool.not_true, if_true] at HE
              go_enter Try.func11, Try.ntmps11
              go_wp2_with fail
              refine (HF.out _ (hb0 _)).mono ?_
              rintro e w1 ⟨rfl, hb1⟩
              have hw1 : Below w.heap.size w w1 := (hb0 _).trans (hb1.mono (by simp))
              have k0 : w1.cell? ⟨w.heap.size, 0, none⟩ = some (.slice af fs.length cf) := by rw [hb1.cell (by simp)]; go_simp
              have k1 : w1.cell? ⟨w.heap.size, 1, none⟩ = some (.slice ac cs.length cc) := by rw [hb1.cell (by simp)]; go_simp
              have hs1 : w.heap.size < w1.heap.size := by have := hb1.size; simp at this; omega
              clear hb1
              go_wp2_with fail
              refine (HC.out _ hw1).mono ?_
              rintro e w2 ⟨rfl, hb2⟩
              have hw2 : Below w.heap.size w w2 := hw1.trans (hb2.mono hw1.size)
              have k0' : w2.cell? ⟨w.heap.size, 0, none⟩ = some (.slice af fs.length cf) := by rw [hb2.cell hs1]; exact k0
              have k1' : w2.cell? ⟨w.heap.size, 1, none⟩ = some (.slice ac cs.length cc) := by rw [hb2.cell hs1]; exact k1
              have hs2 : w.heap.size < w2.heap.size := by have := hb2.size; omega
              clear hb2 k0 k1
              have k0 := k0'
              have k1 := k1'
              clear k0' k1'
              go_wp2_with fail
              refine (HOF.out _ hw2).mono ?_
              rintro e w3 ⟨rfl, hb3⟩
              have hw3 : Below w.heap.size w w3 := hw2.trans (hb3.mono hw2.size)
              have k0' : w3.cell? ⟨w.heap.size, 0, none⟩ = some (.slice af fs.length cf) := by rw [hb3.cell hs2]; exact k0
              have k1' : w3.cell? ⟨w.heap.size, 1, none⟩ = some (.slice ac cs.length cc) := by rw [hb3.cell hs2]; exact k1
              have hs3 : w.heap.size < w3.heap.size := by have := hb3.size; omega
              clear hb3 k0 k1
              have k0 := k0'
              have k1 := k1'
              clear k0' k1'
              go_wp2_with fail
              refine (HOC.out _ hw3).mono ?_
              rintro e w4 ⟨rfl, hb4⟩
              have hw4 : Below w.heap.size w w4 := hw3.trans (hb4.mono hw3.size)
              have k0' : w4.cell? ⟨w.heap.size, 0, none⟩ = some (.slice af fs.length cf) := by rw [hb4.cell hs3]; exact k0
              have k1' : w4.cell? ⟨w.heap.size, 1, none⟩ = some (.slice ac cs.length cc) := by rw [hb4.cell hs3]; exact k1
              have hs4 : w.heap.size < w4.heap.size := by have := hb4.size; omega
              clear hb4 k0 k1
              have k0 := k0'
              have k1 := k1'
              clear k0' k1'
              go_wp2
              go_ret
              exact ⟨ret_int' HE.out, hw4⟩
            | true =>
              simp only [Bool.false_or, Bool.not_true, Bool.false_eq_true, if_false] at HE
              go_enter Try.func11, Try.ntmps11
              go_wp2_with fail
              refine (HF.out _ (hb0 _)).mono ?_
              rintro e w1 ⟨rfl, hb1⟩
              have hw1 : Below w.heap.size w w1 := (hb0 _).trans (hb1.mono (by simp))
              have k0 : w1.cell? ⟨w.heap.size, 0, none⟩ = some (.slice af fs.length cf) := by rw [hb1.cell (by simp)]; go_simp
              have k1 : w1.cell? ⟨w.heap.size, 1, none⟩ = some (.slice ac cs.length cc) := by rw [hb1.cell (by simp)]; go_simp
              have hs1 : w.heap.size < w1.heap.size := by have := hb1.size; simp at this; omega
              clear hb1
              go_wp2_with fail
              refine (HC.out _ hw1).mono ?_
              rintro e w2 ⟨rfl, hb2⟩
              have hw2 : Below w.heap.size w w2 := hw1.trans (hb2.mono hw1.size)
              have k0' : w2.cell? ⟨w.heap.size, 0, none⟩ = some (.slice af fs.length cf) := by rw [hb2.cell hs1]; exact k0
              have k1' : w2.cell? ⟨w.heap.size, 1, none⟩ = some (.slice ac cs.length cc) := by rw [hb2.cell hs1]; exact k1
              have hs2 : w.heap.size < w2.heap.size := by have := hb2.size; omega
              clear hb2 k0 k1
              have k0 := k0'
              have k1 := k1'
              clear k0' k1'
              go_wp2_with fail
              refine (HOF.out _ hw2).mono ?_
              rintro e w3 ⟨rfl, hb3⟩
              have hw3 : Below w.heap.size w w3 := hw2.trans (hb3.mono hw2.size)
              have k0' : w3.cell? ⟨w.heap.size, 0, none⟩ = some (.slice af fs.length cf) := by rw [hb3.cell hs2]; exact k0
              have k1' : w3.cell? ⟨w.heap.size, 1, none⟩ = some (.slice ac cs.length cc) := by rw [hb3.cell hs2]; exact k1
              have hs3 : w.heap.size < w3.heap.size := by have := hb3.size; omega
              clear hb3 k0 k1
              have k0 := k0'
              have k1 := k1'
              clear k0' k1'
              go_wp2_with fail
              refine (HOC.out _ hw3).mono ?_
              rintro e w4 ⟨rfl, hb4⟩
              have hw4 : Below w.heap.size w w4 := hw3.trans (hb4.mono hw3.size)
              have k0' : w4.cell? ⟨w.heap.size, 0, none⟩ = some (.slice af fs.length cf) := by rw [hb4.cell hs3]; exact k0
              have k1' : w4.cell? ⟨w.heap.size, 1, none⟩ = some (.slice ac cs.length cc) := by rw [hb4.cell hs3]; exact k1
              have hs4 : w.heap.size < w4.heap.size := by have := hb4.size; omega
              clear hb4 k0 k1
              have k0 := k0'
              have k1 := k1'
              clear k0' k1'
              go_wp2
              go_ret
              exact ⟨ret_int' HE.out, hw4⟩
end Go.Proofs.Ytofbngpckllkoaa

namespace Go.Proofs.Ytofbngpckllkoaa
open Go.RowKit

/-- W is w but for new memory. -/
def Ext (w W : World) : Prop := Below w.heap.size w W
theorem Ext.cell {w W : World} (h : Ext w W) {b o : Nat} {v : Value} (hc : w.cell? ⟨b, o, none⟩ = some v) : W.cell? ⟨b, o, none⟩ = some v := by
  rw [Below.cell h (p := ⟨b, o, none⟩) (World.block_lt_of_cell? w _ hc)]; exact hc
theorem Ext.below {w W : World} (h : Ext w W) : Below w.heap.size w W := h
theorem ext_calls {P : Program} {f : FuncId} {args : Array Value} {v : Value} {w : World} (h : ∀ W, Calls P f args W fun e w' => e = .returned v ∧ Below W.heap.size W w') (W : World) (hW : Ext w W) :
    Calls P f args W fun e w'' => e = .returned v ∧ Ext w w'' :=
  (h W).mono fun _ _ ⟨he, hb⟩ => ⟨he, Below.trans hW (hb.mono (Below.size hW))⟩
theorem ext_same {P : Program} {f : FuncId} {args : Array Value} {v : Value} {w : World} (h : ∀ W, Calls P f args W fun e w' => e = .returned v ∧ W = w') (W : World) (hW : Ext w W) :
    Calls P f args W fun e w'' => e = .returned v ∧ Ext w w'' :=
  (h W).mono fun _ _ ⟨he, hb⟩ => ⟨he, hb ▸ hW⟩
theorem wp_region_ext {P : Program} {id : Nat} {Q : Exit → Act → World → Prop} {a : Act} {w : World} {l : List Oper} (F : World → Prop) (hF : ∀ W, Ext w W → F W)
    (hm : P.follows .mixedOrders = true) (hB : Region.lexB .any l.toArray = true)
    (h : (∀ W, Ext w W → F W) → wpQuiet P l.toArray (Ext w) (fun a' => ∀ w', Ext w w' → Q .normal a' w') l a) : (Code.region id l.toArray true).wp P Q a w :=
  wp_region_quiet (C := Ext w) hm hB (Below.drew (Below.refl _ _)) (by simpa using h hF)
end Go.Proofs.Ytofbngpckllkoaa
