/-
  causal.keep with each of its closures.  Printed by tools/genkeep.py. observable.CheckEnv.
-/
import Derived.Test.YtflddbgadkndlaaGreatDoorN01
import Derived.Test.YtflddbgadkndlaaGreatDoorC13
import Derived.Maps.AppendAt
namespace Go.Proofs.YtflddbgadkndlaaGreatDoor
open Go.RowKit

set_option maxHeartbeats 2000000 in
set_option maxRecDepth 100000 in
theorem keepF1_any (p : Fx → Bool) (l : List Fx) (ad : Option Addr) (cap B : Nat) (w : World) (hn : l.length ≤ 1100000) (hr : Rd Fx.cells 3 w ad l)
    (HP : ∀ f ∈ l, ∀ W, Below w.heap.size w W → Calls Tryz.prog 53 #[f.val, .pointer (some ⟨B, 0, none⟩)] W fun e w' => e = .returned (.bool (p f)) ∧ Below W.heap.size W w') :
    Calls Tryz.prog 52 #[.slice ad l.length cap, .func (.func 53) #[] #[.pointer (some ⟨B, 0, none⟩)]] w (OwnPost Fx.cells 65 3 w (l.filter p)) := by
  obtain ⟨i0, hi, hz0, hz1, hz2⟩ := info_parts info_fixing
  have HQ := Lib.hid HP
  have HD := Lib.hid hr
  clear HP hr
  go_enter Tryz.func52, Tryz.ntmps52
  go_wp2
  go_loopw [5, 10] (fun v i wr => ∃ (k M : Nat) (adb : Option Addr) (capb : Nat), k ≤ l.length ∧ i = .int .i64 k ∧ v = .slice adb M capb ∧ M ≤ k ∧ Hid (M = ((l.take k).filter p).length) ∧
      wr.ownsRow w.heap.size 65 3 (.slice adb M capb) M (((l.take k).filter p).flatMap Fx.cells) ∧ Below w.heap.size w wr) (fun _ i _ => l.length - (intOf i).toNat)
  case atStart => exact ⟨0, 0, none, 0, Nat.zero_le _, rfl, rfl, Nat.le_refl _, rfl, World.ownsRow_nil _ _ _ _, Below.refl _ _⟩
  case round =>
    obtain ⟨k, M, adb, capb, hk, rfl, rfl, hMk, HM, hown, hbel⟩ := hrel
    by_cases hlt : k < l.length
    · obtain ⟨f, hf⟩ : ∃ f, l[k]? = some f := ⟨_, List.getElem?_eq_getElem hlt⟩
      have hfm : f ∈ l := List.mem_of_getElem? hf
      have HRf := ((HD.out.below hbel).fx hf)
      have hsz := hbel.size
      have HC := Lib.hid (HQ.out f hfm _ (hbel.alloc hsz (.cells #[.string f.nm, .int .i64 f.d, .string f.vl] 65)))
      have HF := Lib.hid hf
      clear hf hfm
      obtain ⟨b, off, rfl, hc1, hc2, hc3⟩ := HRf
      simp only [Fx.val, fxV] at HC
      cases hp : p f with
      | true =>
        rw [hp] at HC
        have HX := Lib.hid (filter_take_true HF.out hp)
        clear hp
        go_wp2_with fail
        refine (HC.out).mono ?_
        rintro e w1 ⟨rfl, hb1⟩
        have hown1 := ownsRow_below' (hown.alloc (.cells #[.string f.nm, .int .i64 f.d, .string f.vl] 65)) hb1
        have q0 : w1.cell? ⟨wr.heap.size, 0, none⟩ = some (.string f.nm) := by rw [hb1.cell (by simp)]; go_simp
        have q1 : w1.cell? ⟨wr.heap.size, 1, none⟩ = some (.int .i64 f.d) := by rw [hb1.cell (by simp)]; go_simp
        have q2 : w1.cell? ⟨wr.heap.size, 2, none⟩ = some (.string f.vl) := by rw [hb1.cell (by simp)]; go_simp
        have hs1 : wr.heap.size < w1.heap.size := by have := hb1.size; simp at this; omega
        have hbel1 : Below w.heap.size w w1 := (hbel.alloc hsz _).trans (hb1.mono (by simp; omega))
        have hlt1 := hown1.lt
        clear hb1 hown hbel
        go_wp2_with (at_builtin; refine wpList_append_own _ rfl _ _ 66 rfl w.heap.size 65 i0 (.agg #[.string ⟨#[]⟩, .int .i64 0, .string ⟨#[]⟩]) 3 40 ul_fixings hi hz0 hz1 hz2 rfl (by decide) _ _ _ rfl (hown1.alloc _) ⟨w1.heap.size, 0, none⟩ 1 1 [.string f.nm, .int .i64 f.d, .string f.vl] rfl rfl (cell_three_new _ _ _ _ _) (fx_oneCell f) ?d1 ?d2 ?d3 ?_)
        case d1 => unfold maxLen; omega
        case d2 => omega
        case d3 => simp; omega
        intro v2 w2 hown2 hgrow2 _
        have hbel2 : Below w.heap.size w w2 := (hbel1.alloc (by omega) _).grown hgrow2 (by simp; omega) (fun k hk => (hlt1 k hk).1)
        obtain ⟨ad3, cap3, rfl, _⟩ := Sl.of_owns hown2
        have HM2 : Hid (M + 1 = ((l.take (k + 1)).filter p).length) := by show _ = _; rw [HX.out, List.length_append, ← HM.out]; rfl
        have hown3 : w2.ownsRow w.heap.size 65 3 (.slice ad3 (M + 1) cap3) (M + 1) (((l.take (k + 1)).filter p).flatMap Fx.cells) := by
          rw [HX.out, List.flatMap_append]; simpa [Fx.cells] using hown2
        clear hgrow2 hown2 hown1 hbel1 hlt1
        go_wp2
        go_roundw
        case rel => exact ⟨k + 1, M + 1, ad3, cap3, by omega, by go_num, rfl, by omega, HM2, hown3, hbel2⟩
        case measure => simp [intOf]; omega
      | false =>
        rw [hp] at HC
        have HX := Lib.hid (filter_take_false HF.out hp)
        clear hp
        go_wp2_with fail
        refine (HC.out).mono ?_
        rintro e w1 ⟨rfl, hb1⟩
        have hown1 := ownsRow_below' (hown.alloc (.cells #[.string f.nm, .int .i64 f.d, .string f.vl] 65)) hb1
        have hbel1 : Below w.heap.size w w1 := (hbel.alloc hsz _).trans (hb1.mono (by simp; omega))
        rw [← HX.out] at hown1
        have HM2 : Hid (M = ((l.take (k + 1)).filter p).length) := by show _ = _; rw [HX.out]; exact HM.out
        clear hb1 hown hbel
        go_wp2
        go_roundw
        case rel => exact ⟨k + 1, M, adb, capb, by omega, by go_num, rfl, by omega, HM2, hown1, hbel1⟩
        case measure => simp [intOf]; omega
    · obtain rfl : k = l.length := by omega
      rw [List.take_length] at hown HM
      have HR : Hid (OwnPost Fx.cells 65 3 w (l.filter p) (.returned (.slice adb M capb)) wr) := by
        have h := HM.out
        subst h
        exact ⟨adb, capb, rfl, hown, hbel⟩
      go_wp2
      go_ret
      exact HR.out

set_option maxHeartbeats 2000000 in
set_option maxRecDepth 100000 in
theorem keepC1_any (p : Ch → Bool) (l : List Ch) (ad : Option Addr) (cap B : Nat) (w : World) (hn : l.length ≤ 1100000) (hr : Rd Ch.cells 4 w ad l)
    (HP : ∀ f ∈ l, ∀ W, Below w.heap.size w W → Calls Tryz.prog 55 #[f.val, .pointer (some ⟨B, 0, none⟩)] W fun e w' => e = .returned (.bool (p f)) ∧ Below W.heap.size W w') :
    Calls Tryz.prog 54 #[.slice ad l.length cap, .func (.func 55) #[] #[.pointer (some ⟨B, 0, none⟩)]] w (OwnPost Ch.cells 60 4 w (l.filter p)) := by
  obtain ⟨i0, hi, hz0, hz1, hz2⟩ := info_parts info_choice
  have HQ := Lib.hid HP
  have HD := Lib.hid hr
  clear HP hr
  go_enter Tryz.func54, Tryz.ntmps54
  go_wp2
  go_loopw [5, 10] (fun v i wr => ∃ (k M : Nat) (adb : Option Addr) (capb : Nat), k ≤ l.length ∧ i = .int .i64 k ∧ v = .slice adb M capb ∧ M ≤ k ∧ Hid (M = ((l.take k).filter p).length) ∧
      wr.ownsRow w.heap.size 60 4 (.slice adb M capb) M (((l.take k).filter p).flatMap Ch.cells) ∧ Below w.heap.size w wr) (fun _ i _ => l.length - (intOf i).toNat)
  case atStart => exact ⟨0, 0, none, 0, Nat.zero_le _, rfl, rfl, Nat.le_refl _, rfl, World.ownsRow_nil _ _ _ _, Below.refl _ _⟩
  case round =>
    obtain ⟨k, M, adb, capb, hk, rfl, rfl, hMk, HM, hown, hbel⟩ := hrel
    by_cases hlt : k < l.length
    · obtain ⟨f, hf⟩ : ∃ f, l[k]? = some f := ⟨_, List.getElem?_eq_getElem hlt⟩
      have hfm : f ∈ l := List.mem_of_getElem? hf
      have HRf := ((HD.out.below hbel).ch hf)
      have hsz := hbel.size
      have HC := Lib.hid (HQ.out f hfm _ (hbel.alloc hsz (.cells #[.string f.pt, .string f.nm, .int .i64 f.d, .bool f.first] 60)))
      have HF := Lib.hid hf
      clear hf hfm
      obtain ⟨b, off, rfl, hc1, hc2, hc3, hc4⟩ := HRf
      simp only [Ch.val, chV] at HC
      cases hp : p f with
      | true =>
        rw [hp] at HC
        have HX := Lib.hid (filter_take_true HF.out hp)
        clear hp
        go_wp2_with fail
        refine (HC.out).mono ?_
        rintro e w1 ⟨rfl, hb1⟩
        have hown1 := ownsRow_below' (hown.alloc (.cells #[.string f.pt, .string f.nm, .int .i64 f.d, .bool f.first] 60)) hb1
        have q0 : w1.cell? ⟨wr.heap.size, 0, none⟩ = some (.string f.pt) := by rw [hb1.cell (by simp)]; go_simp
        have q1 : w1.cell? ⟨wr.heap.size, 1, none⟩ = some (.string f.nm) := by rw [hb1.cell (by simp)]; go_simp
        have q2 : w1.cell? ⟨wr.heap.size, 2, none⟩ = some (.int .i64 f.d) := by rw [hb1.cell (by simp)]; go_simp
        have q3 : w1.cell? ⟨wr.heap.size, 3, none⟩ = some (.bool f.first) := by rw [hb1.cell (by simp)]; go_simp
        have hs1 : wr.heap.size < w1.heap.size := by have := hb1.size; simp at this; omega
        have hbel1 : Below w.heap.size w w1 := (hbel.alloc hsz _).trans (hb1.mono (by simp; omega))
        have hlt1 := hown1.lt
        clear hb1 hown hbel
        go_wp2_with (at_builtin; refine wpList_append_own _ rfl _ _ 38 rfl w.heap.size 60 i0 (.agg #[.string ⟨#[]⟩, .string ⟨#[]⟩, .int .i64 0, .bool false]) 4 48 ul_choices hi hz0 hz1 hz2 rfl (by decide) _ _ _ rfl (hown1.alloc _) ⟨w1.heap.size, 0, none⟩ 1 1 [.string f.pt, .string f.nm, .int .i64 f.d, .bool f.first] rfl rfl (cell_four_new _ _ _ _ _ _) (ch_oneCell f) ?d1 ?d2 ?d3 ?_)
        case d1 => unfold maxLen; omega
        case d2 => omega
        case d3 => simp; omega
        intro v2 w2 hown2 hgrow2 _
        have hbel2 : Below w.heap.size w w2 := (hbel1.alloc (by omega) _).grown hgrow2 (by simp; omega) (fun k hk => (hlt1 k hk).1)
        obtain ⟨ad3, cap3, rfl, _⟩ := Sl.of_owns hown2
        have HM2 : Hid (M + 1 = ((l.take (k + 1)).filter p).length) := by show _ = _; rw [HX.out, List.length_append, ← HM.out]; rfl
        have hown3 : w2.ownsRow w.heap.size 60 4 (.slice ad3 (M + 1) cap3) (M + 1) (((l.take (k + 1)).filter p).flatMap Ch.cells) := by
          rw [HX.out, List.flatMap_append]; simpa [Ch.cells] using hown2
        clear hgrow2 hown2 hown1 hbel1 hlt1
        go_wp2
        go_roundw
        case rel => exact ⟨k + 1, M + 1, ad3, cap3, by omega, by go_num, rfl, by omega, HM2, hown3, hbel2⟩
        case measure => simp [intOf]; omega
      | false =>
        rw [hp] at HC
        have HX := Lib.hid (filter_take_false HF.out hp)
        clear hp
        go_wp2_with fail
        refine (HC.out).mono ?_
        rintro e w1 ⟨rfl, hb1⟩
        have hown1 := ownsRow_below' (hown.alloc (.cells #[.string f.pt, .string f.nm, .int .i64 f.d, .bool f.first] 60)) hb1
        have hbel1 : Below w.heap.size w w1 := (hbel.alloc hsz _).trans (hb1.mono (by simp; omega))
        rw [← HX.out] at hown1
        have HM2 : Hid (M = ((l.take (k + 1)).filter p).length) := by show _ = _; rw [HX.out]; exact HM.out
        clear hb1 hown hbel
        go_wp2
        go_roundw
        case rel => exact ⟨k + 1, M, adb, capb, by omega, by go_num, rfl, by omega, HM2, hown1, hbel1⟩
        case measure => simp [intOf]; omega
    · obtain rfl : k = l.length := by omega
      rw [List.take_length] at hown HM
      have HR : Hid (OwnPost Ch.cells 60 4 w (l.filter p) (.returned (.slice adb M capb)) wr) := by
        have h := HM.out
        subst h
        exact ⟨adb, capb, rfl, hown, hbel⟩
      go_wp2
      go_ret
      exact HR.out

set_option maxHeartbeats 2000000 in
set_option maxRecDepth 100000 in
theorem keepF2_any (p : Fx → Bool) (l : List Fx) (ad : Option Addr) (cap B : Nat) (w : World) (hn : l.length ≤ 1100000) (hr : Rd Fx.cells 3 w ad l)
    (HP : ∀ f ∈ l, ∀ W, Below w.heap.size w W → Calls Tryz.prog 56 #[f.val, .pointer (some ⟨B, 0, none⟩)] W fun e w' => e = .returned (.bool (p f)) ∧ Below W.heap.size W w') :
    Calls Tryz.prog 52 #[.slice ad l.length cap, .func (.func 56) #[] #[.pointer (some ⟨B, 0, none⟩)]] w (OwnPost Fx.cells 65 3 w (l.filter p)) := by
  obtain ⟨i0, hi, hz0, hz1, hz2⟩ := info_parts info_fixing
  have HQ := Lib.hid HP
  have HD := Lib.hid hr
  clear HP hr
  go_enter Tryz.func52, Tryz.ntmps52
  go_wp2
  go_loopw [5, 10] (fun v i wr => ∃ (k M : Nat) (adb : Option Addr) (capb : Nat), k ≤ l.length ∧ i = .int .i64 k ∧ v = .slice adb M capb ∧ M ≤ k ∧ Hid (M = ((l.take k).filter p).length) ∧
      wr.ownsRow w.heap.size 65 3 (.slice adb M capb) M (((l.take k).filter p).flatMap Fx.cells) ∧ Below w.heap.size w wr) (fun _ i _ => l.length - (intOf i).toNat)
  case atStart => exact ⟨0, 0, none, 0, Nat.zero_le _, rfl, rfl, Nat.le_refl _, rfl, World.ownsRow_nil _ _ _ _, Below.refl _ _⟩
  case round =>
    obtain ⟨k, M, adb, capb, hk, rfl, rfl, hMk, HM, hown, hbel⟩ := hrel
    by_cases hlt : k < l.length
    · obtain ⟨f, hf⟩ : ∃ f, l[k]? = some f := ⟨_, List.getElem?_eq_getElem hlt⟩
      have hfm : f ∈ l := List.mem_of_getElem? hf
      have HRf := ((HD.out.below hbel).fx hf)
      have hsz := hbel.size
      have HC := Lib.hid (HQ.out f hfm _ (hbel.alloc hsz (.cells #[.string f.nm, .int .i64 f.d, .string f.vl] 65)))
      have HF := Lib.hid hf
      clear hf hfm
      obtain ⟨b, off, rfl, hc1, hc2, hc3⟩ := HRf
      simp only [Fx.val, fxV] at HC
      cases hp : p f with
      | true =>
        rw [hp] at HC
        have HX := Lib.hid (filter_take_true HF.out hp)
        clear hp
        go_wp2_with fail
        refine (HC.out).mono ?_
        rintro e w1 ⟨rfl, hb1⟩
        have hown1 := ownsRow_below' (hown.alloc (.cells #[.string f.nm, .int .i64 f.d, .string f.vl] 65)) hb1
        have q0 : w1.cell? ⟨wr.heap.size, 0, none⟩ = some (.string f.nm) := by rw [hb1.cell (by simp)]; go_simp
        have q1 : w1.cell? ⟨wr.heap.size, 1, none⟩ = some (.int .i64 f.d) := by rw [hb1.cell (by simp)]; go_simp
        have q2 : w1.cell? ⟨wr.heap.size, 2, none⟩ = some (.string f.vl) := by rw [hb1.cell (by simp)]; go_simp
        have hs1 : wr.heap.size < w1.heap.size := by have := hb1.size; simp at this; omega
        have hbel1 : Below w.heap.size w w1 := (hbel.alloc hsz _).trans (hb1.mono (by simp; omega))
        have hlt1 := hown1.lt
        clear hb1 hown hbel
        go_wp2_with (at_builtin; refine wpList_append_own _ rfl _ _ 66 rfl w.heap.size 65 i0 (.agg #[.string ⟨#[]⟩, .int .i64 0, .string ⟨#[]⟩]) 3 40 ul_fixings hi hz0 hz1 hz2 rfl (by decide) _ _ _ rfl (hown1.alloc _) ⟨w1.heap.size, 0, none⟩ 1 1 [.string f.nm, .int .i64 f.d, .string f.vl] rfl rfl (cell_three_new _ _ _ _ _) (fx_oneCell f) ?d1 ?d2 ?d3 ?_)
        case d1 => unfold maxLen; omega
        case d2 => omega
        case d3 => simp; omega
        intro v2 w2 hown2 hgrow2 _
        have hbel2 : Below w.heap.size w w2 := (hbel1.alloc (by omega) _).grown hgrow2 (by simp; omega) (fun k hk => (hlt1 k hk).1)
        obtain ⟨ad3, cap3, rfl, _⟩ := Sl.of_owns hown2
        have HM2 : Hid (M + 1 = ((l.take (k + 1)).filter p).length) := by show _ = _; rw [HX.out, List.length_append, ← HM.out]; rfl
        have hown3 : w2.ownsRow w.heap.size 65 3 (.slice ad3 (M + 1) cap3) (M + 1) (((l.take (k + 1)).filter p).flatMap Fx.cells) := by
          rw [HX.out, List.flatMap_append]; simpa [Fx.cells] using hown2
        clear hgrow2 hown2 hown1 hbel1 hlt1
        go_wp2
        go_roundw
        case rel => exact ⟨k + 1, M + 1, ad3, cap3, by omega, by go_num, rfl, by omega, HM2, hown3, hbel2⟩
        case measure => simp [intOf]; omega
      | false =>
        rw [hp] at HC
        have HX := Lib.hid (filter_take_false HF.out hp)
        clear hp
        go_wp2_with fail
        refine (HC.out).mono ?_
        rintro e w1 ⟨rfl, hb1⟩
        have hown1 := ownsRow_below' (hown.alloc (.cells #[.string f.nm, .int .i64 f.d, .string f.vl] 65)) hb1
        have hbel1 : Below w.heap.size w w1 := (hbel.alloc hsz _).trans (hb1.mono (by simp; omega))
        rw [← HX.out] at hown1
        have HM2 : Hid (M = ((l.take (k + 1)).filter p).length) := by show _ = _; rw [HX.out]; exact HM.out
        clear hb1 hown hbel
        go_wp2
        go_roundw
        case rel => exact ⟨k + 1, M, adb, capb, by omega, by go_num, rfl, by omega, HM2, hown1, hbel1⟩
        case measure => simp [intOf]; omega
    · obtain rfl : k = l.length := by omega
      rw [List.take_length] at hown HM
      have HR : Hid (OwnPost Fx.cells 65 3 w (l.filter p) (.returned (.slice adb M capb)) wr) := by
        have h := HM.out
        subst h
        exact ⟨adb, capb, rfl, hown, hbel⟩
      go_wp2
      go_ret
      exact HR.out

set_option maxHeartbeats 2000000 in
set_option maxRecDepth 100000 in
theorem keepC2_any (p : Ch → Bool) (l : List Ch) (ad : Option Addr) (cap B : Nat) (w : World) (hn : l.length ≤ 1100000) (hr : Rd Ch.cells 4 w ad l)
    (HP : ∀ f ∈ l, ∀ W, Below w.heap.size w W → Calls Tryz.prog 57 #[f.val, .pointer (some ⟨B, 0, none⟩)] W fun e w' => e = .returned (.bool (p f)) ∧ Below W.heap.size W w') :
    Calls Tryz.prog 54 #[.slice ad l.length cap, .func (.func 57) #[] #[.pointer (some ⟨B, 0, none⟩)]] w (OwnPost Ch.cells 60 4 w (l.filter p)) := by
  obtain ⟨i0, hi, hz0, hz1, hz2⟩ := info_parts info_choice
  have HQ := Lib.hid HP
  have HD := Lib.hid hr
  clear HP hr
  go_enter Tryz.func54, Tryz.ntmps54
  go_wp2
  go_loopw [5, 10] (fun v i wr => ∃ (k M : Nat) (adb : Option Addr) (capb : Nat), k ≤ l.length ∧ i = .int .i64 k ∧ v = .slice adb M capb ∧ M ≤ k ∧ Hid (M = ((l.take k).filter p).length) ∧
      wr.ownsRow w.heap.size 60 4 (.slice adb M capb) M (((l.take k).filter p).flatMap Ch.cells) ∧ Below w.heap.size w wr) (fun _ i _ => l.length - (intOf i).toNat)
  case atStart => exact ⟨0, 0, none, 0, Nat.zero_le _, rfl, rfl, Nat.le_refl _, rfl, World.ownsRow_nil _ _ _ _, Below.refl _ _⟩
  case round =>
    obtain ⟨k, M, adb, capb, hk, rfl, rfl, hMk, HM, hown, hbel⟩ := hrel
    by_cases hlt : k < l.length
    · obtain ⟨f, hf⟩ : ∃ f, l[k]? = some f := ⟨_, List.getElem?_eq_getElem hlt⟩
      have hfm : f ∈ l := List.mem_of_getElem? hf
      have HRf := ((HD.out.below hbel).ch hf)
      have hsz := hbel.size
      have HC := Lib.hid (HQ.out f hfm _ (hbel.alloc hsz (.cells #[.string f.pt, .string f.nm, .int .i64 f.d, .bool f.first] 60)))
      have HF := Lib.hid hf
      clear hf hfm
      obtain ⟨b, off, rfl, hc1, hc2, hc3, hc4⟩ := HRf
      simp only [Ch.val, chV] at HC
      cases hp : p f with
      | true =>
        rw [hp] at HC
        have HX := Lib.hid (filter_take_true HF.out hp)
        clear hp
        go_wp2_with fail
        refine (HC.out).mono ?_
        rintro e w1 ⟨rfl, hb1⟩
        have hown1 := ownsRow_below' (hown.alloc (.cells #[.string f.pt, .string f.nm, .int .i64 f.d, .bool f.first] 60)) hb1
        have q0 : w1.cell? ⟨wr.heap.size, 0, none⟩ = some (.string f.pt) := by rw [hb1.cell (by simp)]; go_simp
        have q1 : w1.cell? ⟨wr.heap.size, 1, none⟩ = some (.string f.nm) := by rw [hb1.cell (by simp)]; go_simp
        have q2 : w1.cell? ⟨wr.heap.size, 2, none⟩ = some (.int .i64 f.d) := by rw [hb1.cell (by simp)]; go_simp
        have q3 : w1.cell? ⟨wr.heap.size, 3, none⟩ = some (.bool f.first) := by rw [hb1.cell (by simp)]; go_simp
        have hs1 : wr.heap.size < w1.heap.size := by have := hb1.size; simp at this; omega
        have hbel1 : Below w.heap.size w w1 := (hbel.alloc hsz _).trans (hb1.mono (by simp; omega))
        have hlt1 := hown1.lt
        clear hb1 hown hbel
        go_wp2_with (at_builtin; refine wpList_append_own _ rfl _ _ 38 rfl w.heap.size 60 i0 (.agg #[.string ⟨#[]⟩, .string ⟨#[]⟩, .int .i64 0, .bool false]) 4 48 ul_choices hi hz0 hz1 hz2 rfl (by decide) _ _ _ rfl (hown1.alloc _) ⟨w1.heap.size, 0, none⟩ 1 1 [.string f.pt, .string f.nm, .int .i64 f.d, .bool f.first] rfl rfl (cell_four_new _ _ _ _ _ _) (ch_oneCell f) ?d1 ?d2 ?d3 ?_)
        case d1 => unfold maxLen; omega
        case d2 => omega
        case d3 => simp; omega
        intro v2 w2 hown2 hgrow2 _
        have hbel2 : Below w.heap.size w w2 := (hbel1.alloc (by omega) _).grown hgrow2 (by simp; omega) (fun k hk => (hlt1 k hk).1)
        obtain ⟨ad3, cap3, rfl, _⟩ := Sl.of_owns hown2
        have HM2 : Hid (M + 1 = ((l.take (k + 1)).filter p).length) := by show _ = _; rw [HX.out, List.length_append, ← HM.out]; rfl
        have hown3 : w2.ownsRow w.heap.size 60 4 (.slice ad3 (M + 1) cap3) (M + 1) (((l.take (k + 1)).filter p).flatMap Ch.cells) := by
          rw [HX.out, List.flatMap_append]; simpa [Ch.cells] using hown2
        clear hgrow2 hown2 hown1 hbel1 hlt1
        go_wp2
        go_roundw
        case rel => exact ⟨k + 1, M + 1, ad3, cap3, by omega, by go_num, rfl, by omega, HM2, hown3, hbel2⟩
        case measure => simp [intOf]; omega
      | false =>
        rw [hp] at HC
        have HX := Lib.hid (filter_take_false HF.out hp)
        clear hp
        go_wp2_with fail
        refine (HC.out).mono ?_
        rintro e w1 ⟨rfl, hb1⟩
        have hown1 := ownsRow_below' (hown.alloc (.cells #[.string f.pt, .string f.nm, .int .i64 f.d, .bool f.first] 60)) hb1
        have hbel1 : Below w.heap.size w w1 := (hbel.alloc hsz _).trans (hb1.mono (by simp; omega))
        rw [← HX.out] at hown1
        have HM2 : Hid (M = ((l.take (k + 1)).filter p).length) := by show _ = _; rw [HX.out]; exact HM.out
        clear hb1 hown hbel
        go_wp2
        go_roundw
        case rel => exact ⟨k + 1, M, adb, capb, by omega, by go_num, rfl, by omega, HM2, hown1, hbel1⟩
        case measure => simp [intOf]; omega
    · obtain rfl : k = l.length := by omega
      rw [List.take_length] at hown HM
      have HR : Hid (OwnPost Ch.cells 60 4 w (l.filter p) (.returned (.slice adb M capb)) wr) := by
        have h := HM.out
        subst h
        exact ⟨adb, capb, rfl, hown, hbel⟩
      go_wp2
      go_ret
      exact HR.out
end Go.Proofs.YtflddbgadkndlaaGreatDoor

namespace Go.Proofs.YtflddbgadkndlaaGreatDoor
open Go.RowKit

/-- The error of what is known. -/
def envErr (fs : List Fx) (cs : List Ch) : Int :=
  if 1000 < fs.length ∨ 1000 < cs.length then 4
  else if (fs.any fxBad || (cs.any chBad || (!incB Fx.lt fs || !incB Ch.lt cs))) = true then 8 else 0

set_option maxHeartbeats 1000000 in
set_option maxRecDepth 100000 in
theorem checkEnv_any (fs : List Fx) (cs : List Ch) (af ac : Option Addr) (cf cc : Nat) (w : World) (hn : fs.length ≤ 1100000) (hm : cs.length ≤ 1100000)
    (hf : Rd Fx.cells 3 w af fs) (hc : Rd Ch.cells 4 w ac cs) (hfs : ∀ f ∈ fs, f.small) (hcs : ∀ c ∈ cs, c.small) :
    Calls Tryz.prog 51 #[.agg #[.slice af fs.length cf, .slice ac cs.length cc]] w fun e w' => e = .returned (.int .i64 (envErr fs cs)) ∧ Below w.heap.size w w' := by
  have HF := Lib.hid (fun W (h : Below w.heap.size w W) => containsFx_any fs af cf W hn (hf.below h) hfs)
  have HC := Lib.hid (fun W (h : Below w.heap.size w W) => containsCh_any cs ac cc W hm (hc.below h) hcs)
  have HOF := Lib.hid (fun W (h : Below w.heap.size w W) => orderedFx_any fs af cf W hn (hf.below h))
  have HOC := Lib.hid (fun W (h : Below w.heap.size w W) => orderedCh_any cs ac cc W hm (hc.below h))
  obtain ⟨E, hE⟩ : ∃ E, envErr fs cs = E := ⟨_, rfl⟩
  rw [hE]
  unfold envErr at hE
  have HE := Lib.hid hE
  clear hf hc hfs hcs hE
  have hb0 := fun o => below_a1 w o
  by_cases h1 : 1000 < fs.length
  · have d1 : decide ((1000 : Int) < (fs.length : Int)) = true := by rw [decide_eq_true_eq]; omega
    rw [if_pos (.inl h1)] at HE
    clear h1
    go_enter Tryz.func51, Tryz.ntmps51
    go_wp2
    go_ret
    exact ⟨ret_int' HE.out, hb0 _⟩
  · have d1 : decide ((1000 : Int) < (fs.length : Int)) = false := by rw [decide_eq_false_iff_not]; omega
    by_cases h2 : 1000 < cs.length
    · have d2 : decide ((1000 : Int) < (cs.length : Int)) = true := by rw [decide_eq_true_eq]; omega
      rw [if_pos (.inr h2)] at HE
      clear h2 h1
      go_enter Tryz.func51, Tryz.ntmps51
      go_wp2
      go_ret
      exact ⟨ret_int' HE.out, hb0 _⟩
    · have d2 : decide ((1000 : Int) < (cs.length : Int)) = false := by rw [decide_eq_false_iff_not]; omega
      rw [if_neg (by omega)] at HE
      clear h2 h1
      generalize fs.any fxBad = A at HF HE
      generalize cs.any chBad = B at HC HE
      generalize incB Fx.lt fs = C at HOF HE
      generalize incB Ch.lt cs = D at HOC HE
      cases A with
      | true =>
        simp only [Bool.true_or, if_true] at HE
        go_enter Tryz.func51, Tryz.ntmps51
        go_wp2_with fail
        refine (HF.out _ (hb0 _)).mono ?_
        rintro e w1 ⟨rfl, hb1⟩
        have hw1 : Below w.heap.size w w1 := (hb0 _).trans (hb1.mono (by simp))
        have k0 : w1.cell? ⟨w.heap.size, 0, none⟩ = some (.slice af fs.length cf) := by rw [hb1.cell (by simp)]; go_simp
        have k1 : w1.cell? ⟨w.heap.size, 1, none⟩ = some (.slice ac cs.length cc) := by rw [hb1.cell (by simp)]; go_simp
        have hs1 : w.heap.size < w1.heap.size := by have := hb1.size; simp at this; omega
        clear hb1
        go_wp2
        go_ret
        exact ⟨ret_int' HE.out, hw1⟩
      | false =>
        cases B with
        | true =>
          simp only [Bool.true_or, Bool.false_or, if_true] at HE
          go_enter Tryz.func51, Tryz.ntmps51
          go_wp2_with fail
          refine (HF.out _ (hb0 _)).mono ?_
          rintro e w1 ⟨rfl, hb1⟩
          have hw1 : Below w.heap.size w w1 := (hb0 _).trans (hb1.mono (by simp))
          have k0 : w1.cell? ⟨w.heap.size, 0, none⟩ = some (.slice af fs.length cf) := by rw [hb1.cell (by simp)]; go_simp
          have k1 : w1.cell? ⟨w.heap.size, 1, none⟩ = some (.slice ac cs.length cc) := by rw [hb1.cell (by simp)]; go_simp
          have hs1 : w.heap.size < w1.heap.size := by have := hb1.size; simp at this; omega
          clear hb1
          go_wp2_with fail
          refine (HC.out _ hw1).mono ?_
          rintro e w2 ⟨rfl, hb2⟩
          have hw2 : Below w.heap.size w w2 := hw1.trans (hb2.mono hw1.size)
          have k0' : w2.cell? ⟨w.heap.size, 0, none⟩ = some (.slice af fs.length cf) := by rw [hb2.cell hs1]; exact k0
          have k1' : w2.cell? ⟨w.heap.size, 1, none⟩ = some (.slice ac cs.length cc) := by rw [hb2.cell hs1]; exact k1
          have hs2 : w.heap.size < w2.heap.size := by have := hb2.size; omega
          clear hb2 k0 k1
          have k0 := k0'
          have k1 := k1'
          clear k0' k1'
          go_wp2
          go_ret
          exact ⟨ret_int' HE.out, hw2⟩
        | false =>
          cases C with
          | false =>
            simp only [Bool.true_or, Bool.false_or, Bool.not_false, if_true] at HE
            go_enter Tryz.func51, Tryz.ntmps51
            go_wp2_with fail
            refine (HF.out _ (hb0 _)).mono ?_
            rintro e w1 ⟨rfl, hb1⟩
            have hw1 : Below w.heap.size w w1 := (hb0 _).trans (hb1.mono (by simp))
            have k0 : w1.cell? ⟨w.heap.size, 0, none⟩ = some (.slice af fs.length cf) := by rw [hb1.cell (by simp)]; go_simp
            have k1 : w1.cell? ⟨w.heap.size, 1, none⟩ = some (.slice ac cs.length cc) := by rw [hb1.cell (by simp)]; go_simp
            have hs1 : w.heap.size < w1.heap.size := by have := hb1.size; simp at this; omega
            clear hb1
            go_wp2_with fail
            refine (HC.out _ hw1).mono ?_
            rintro e w2 ⟨rfl, hb2⟩
            have hw2 : Below w.heap.size w w2 := hw1.trans (hb2.mono hw1.size)
            have k0' : w2.cell? ⟨w.heap.size, 0, none⟩ = some (.slice af fs.length cf) := by rw [hb2.cell hs1]; exact k0
            have k1' : w2.cell? ⟨w.heap.size, 1, none⟩ = some (.slice ac cs.length cc) := by rw [hb2.cell hs1]; exact k1
            have hs2 : w.heap.size < w2.heap.size := by have := hb2.size; omega
            clear hb2 k0 k1
            have k0 := k0'
            have k1 := k1'
            clear k0' k1'
            go_wp2_with fail
            refine (HOF.out _ hw2).mono ?_
            rintro e w3 ⟨rfl, hb3⟩
            have hw3 : Below w.heap.size w w3 := hw2.trans (hb3.mono hw2.size)
            have k0' : w3.cell? ⟨w.heap.size, 0, none⟩ = some (.slice af fs.length cf) := by rw [hb3.cell hs2]; exact k0
            have k1' : w3.cell? ⟨w.heap.size, 1, none⟩ = some (.slice ac cs.length cc) := by rw [hb3.cell hs2]; exact k1
            have hs3 : w.heap.size < w3.heap.size := by have := hb3.size; omega
            clear hb3 k0 k1
            have k0 := k0'
            have k1 := k1'
            clear k0' k1'
            go_wp2
            go_ret
            exact ⟨ret_int' HE.out, hw3⟩
          | true =>
            cases D with
            | false =>
              simp only [Bool.false_or, Bool.not_false, Bool.not_true, if_true] at HE
              go_enter Tryz.func51, Tryz.ntmps51
              go_wp2_with fail
              refine (HF.out _ (hb0 _)).mono ?_
              rintro e w1 ⟨rfl, hb1⟩
              have hw1 : Below w.heap.size w w1 := (hb0 _).trans (hb1.mono (by simp))
              have k0 : w1.cell? ⟨w.heap.size, 0, none⟩ = some (.slice af fs.length cf) := by rw [hb1.cell (by simp)]; go_simp
              have k1 : w1.cell? ⟨w.heap.size, 1, none⟩ = some (.slice ac cs.length cc) := by rw [hb1.cell (by simp)]; go_simp
              have hs1 : w.heap.size < w1.heap.size := by have := hb1.size; simp at this; omega
              clear hb1
              go_wp2_with fail
              refine (HC.out _ hw1).mono ?_
              rintro e w2 ⟨rfl, hb2⟩
              have hw2 : Below w.heap.size w w2 := hw1.trans (hb2.mono hw1.size)
              have k0' : w2.cell? ⟨w.heap.size, 0, none⟩ = some (.slice af fs.length cf) := by rw [hb2.cell hs1]; exact k0
              have k1' : w2.cell? ⟨w.heap.size, 1, none⟩ = some (.slice ac cs.length cc) := by rw [hb2.cell hs1]; exact k1
              have hs2 : w.heap.size < w2.heap.size := by have := hb2.size; omega
              clear hb2 k0 k1
              have k0 := k0'
              have k1 := k1'
              clear k0' k1'
              go_wp2_with fail
              refine (HOF.out _ hw2).mono ?_
              rintro e w3 ⟨rfl, hb3⟩
              have hw3 : Below w.heap.size w w3 := hw2.trans (hb3.mono hw2.size)
              have k0' : w3.cell? ⟨w.heap.size, 0, none⟩ = some (.slice af fs.length cf) := by rw [hb3.cell hs2]; exact k0
              have k1' : w3.cell? ⟨w.heap.size, 1, none⟩ = some (.slice ac cs.length cc) := by rw [hb3.cell hs2]; exact k1
              have hs3 : w.heap.size < w3.heap.size := by have := hb3.size; omega
              clear hb3 k0 k1
              have k0 := k0'
              have k1 := k1'
              clear k0' k1'
              go_wp2_with fail
              refine (HOC.out _ hw3).mono ?_
              rintro e w4 ⟨rfl, hb4⟩
              have hw4 : Below w.heap.size w w4 := hw3.trans (hb4.mono hw3.size)
              have k0' : w4.cell? ⟨w.heap.size, 0, none⟩ = some (.slice af fs.length cf) := by rw [hb4.cell hs3]; exact k0
              have k1' : w4.cell? ⟨w.heap.size, 1, none⟩ = some (.slice ac cs.length cc) := by rw [hb4.cell hs3]; exact k1
              have hs4 : w.heap.size < w4.heap.size := by have := hb4.size; omega
              clear hb4 k0 k1
              have k0 := k0'
              have k1 := k1'
              clear k0' k1'
              go_wp2
              go_ret
              exact ⟨ret_int' HE.out, hw4⟩
            | true =>
              simp only [Bool.false_or, Bool.not_true, Bool.false_eq_true, if_false] at HE
              go_enter Tryz.func51, Tryz.ntmps51
              go_wp2_with fail
              refine (HF.out _ (hb0 _)).mono ?_
              rintro e w1 ⟨rfl, hb1⟩
              have hw1 : Below w.heap.size w w1 := (hb0 _).trans (hb1.mono (by simp))
              have k0 : w1.cell? ⟨w.heap.size, 0, none⟩ = some (.slice af fs.length cf) := by rw [hb1.cell (by simp)]; go_simp
              have k1 : w1.cell? ⟨w.heap.size, 1, none⟩ = some (.slice ac cs.length cc) := by rw [hb1.cell (by simp)]; go_simp
              have hs1 : w.heap.size < w1.heap.size := by have := hb1.size; simp at this; omega
              clear hb1
              go_wp2_with fail
              refine (HC.out _ hw1).mono ?_
              rintro e w2 ⟨rfl, hb2⟩
              have hw2 : Below w.heap.size w w2 := hw1.trans (hb2.mono hw1.size)
              have k0' : w2.cell? ⟨w.heap.size, 0, none⟩ = some (.slice af fs.length cf) := by rw [hb2.cell hs1]; exact k0
              have k1' : w2.cell? ⟨w.heap.size, 1, none⟩ = some (.slice ac cs.length cc) := by rw [hb2.cell hs1]; exact k1
              have hs2 : w.heap.size < w2.heap.size := by have := hb2.size; omega
              clear hb2 k0 k1
              have k0 := k0'
              have k1 := k1'
              clear k0' k1'
              go_wp2_with fail
              refine (HOF.out _ hw2).mono ?_
              rintro e w3 ⟨rfl, hb3⟩
              have hw3 : Below w.heap.size w w3 := hw2.trans (hb3.mono hw2.size)
              have k0' : w3.cell? ⟨w.heap.size, 0, none⟩ = some (.slice af fs.length cf) := by rw [hb3.cell hs2]; exact k0
              have k1' : w3.cell? ⟨w.heap.size, 1, none⟩ = some (.slice ac cs.length cc) := by rw [hb3.cell hs2]; exact k1
              have hs3 : w.heap.size < w3.heap.size := by have := hb3.size; omega
              clear hb3 k0 k1
              have k0 := k0'
              have k1 := k1'
              clear k0' k1'
              go_wp2_with fail
              refine (HOC.out _ hw3).mono ?_
              rintro e w4 ⟨rfl, hb4⟩
              have hw4 : Below w.heap.size w w4 := hw3.trans (hb4.mono hw3.size)
              have k0' : w4.cell? ⟨w.heap.size, 0, none⟩ = some (.slice af fs.length cf) := by rw [hb4.cell hs3]; exact k0
              have k1' : w4.cell? ⟨w.heap.size, 1, none⟩ = some (.slice ac cs.length cc) := by rw [hb4.cell hs3]; exact k1
              have hs4 : w.heap.size < w4.heap.size := by have := hb4.size; omega
              clear hb4 k0 k1
              have k0 := k0'
              have k1 := k1'
              clear k0' k1'
              go_wp2
              go_ret
              exact ⟨ret_int' HE.out, hw4⟩
end Go.Proofs.YtflddbgadkndlaaGreatDoor
