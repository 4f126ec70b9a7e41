/-
  novationref08.Sort: truth values. novationref08.Sort.
-/
import Derived.Test.YtkonookacfmfgaaGreatDoorC27
import Derived.Test.YtkonookacfmfgaaGreatDoorC28
import Derived.Test.YtkonookacfmfgaaGreatDoorC29
namespace Go.Proofs.YtkonookacfmfgaaGreatDoor
open Go.RowKit
set_option maxHeartbeats 4000000 in
set_option maxRecDepth 100000 in
theorem rs_k12 (x : Ex) (s : Value) (w : World) (hB : x.bulk ≤ 1100000) (hk : x.k = 12) (_hk8 : x.k < 256) (HI : Hid (∀ y, y ∈ x.sub → ∀ (s : Value) (W : World), y.k < 256 → RdE W y.sub s → Calls Tryz.prog 140 #[y.val s] W fun e w' => e = .returned (.int .i64 ((y.sort : Nat) : Int)) ∧ Below W.heap.size W w')) (hs : RdE w x.sub s) :
  Calls Tryz.prog 140 #[x.val s] w fun e w' => e = .returned (.int .i64 ((x.sort : Nat) : Int)) ∧ Below w.heap.size w w' := by
 obtain ⟨ad, cap, rfl⟩ := hs.len
 obtain ⟨i0, hi, hz0, hz1, hz2⟩ := info_parts info_int_1
 have HS := Lib.hid hs
 have hlen := Ex.bulks_len x.sub
 have hlt0 := x.sub_lt
 have hbq := x.bulk_eq
 have hn : x.sub.length ≤ 1100000 := by omega
 have hra : x.ra.size ≤ 1100000 := by omega
 have hnm : x.nm.size ≤ 1100000 := by omega
 have hb0 := below_a1 w (.cells #[.int .u8 x.k, .string x.ra, .string x.nm, .int .i64 x.d, .slice ad x.sub.length cap] 25)
 have HX0 := Lib.hid (EBox.new w x (.slice ad x.sub.length cap) 25)
 obtain ⟨B, HBB⟩ : ∃ B : Bool, Hid (B = (decide (x.ra.size = 0) && (decide (x.nm.size = 0) && decide (x.d = 0)))) := ⟨_, rfl⟩
 have HR : Hid (x.sort = sortOf x.k x.ra x.nm x.d (Ex.sorts x.sub)) := Lib.hid x.sort_eq
 generalize x.sort = R at HR ⊢
 have HK := Lib.hid hk
 clear hk
 clear hs hbq
 unfold Ex.val
 go_enter Tryz.func140, Tryz.ntmps140
 go_upto_region 1 with fail
 go_cut [3] from 7 to 19 (fun b wc => b = .bool B ∧ wc = w.alloc (.cells #[.int .u8 x.k, .string x.ra, .string x.nm, .int .i64 x.d, .slice ad x.sub.length cap] 25))
 case first =>
  go_wp2_with fail
  all_goals
   go_meet
   refine ⟨?_, rfl⟩
   rw [HBB.out]
   simp [*, emp_nil] <;> rfl
 case rest =>
  obtain ⟨rfl, rfl⟩ := hcut
  go_upto_block 0 with fail
  go_cut [4, 5] from 20 to 35 (fun v _ wc => RSrt w x (.slice ad x.sub.length cap) v wc)
  case first =>
   go_wp2_with fail
   go_loopw [4, 5] (fun v i wr => ∃ (k : Nat) (adb : Option Addr) (capb : Nat), k ≤ x.sub.length ∧ i = .int .i64 (k : Int) ∧ v = .slice adb k capb ∧ wr.ownsRow (w.heap.size + 1) 3 1 (.slice adb k capb) k (nums .i64 ((Ex.sorts x.sub).take k)) ∧ Below w.heap.size w wr ∧ EBox wr w.heap.size x (.slice ad x.sub.length cap)) (fun _ i _ => x.sub.length - (intOf i).toNat)
   case atStart => exact ⟨0, none, 0, Nat.zero_le _, rfl, rfl, World.ownsRow_nil _ _ _ _, hb0, HX0.out⟩
   case round =>
    clear hb0 HX0
    obtain ⟨k, adb, capb, hk, rfl, rfl, hown, hbel, hbox⟩ := hrel
    have HBX := Lib.hid hbox
    by_cases hlt : k < x.sub.length
    ·obtain ⟨y, hy⟩ : ∃ y, x.sub[k]? = some y := ⟨_, List.getElem?_eq_getElem hlt⟩
     obtain ⟨b, off, s', rfl, c0, c1, c2, c3, c4, hs', hy8⟩ := (HS.out.frame hbel).at hy
     obtain ⟨_, _, _, _, q4⟩ := hbox
     have hblk : b < wr.heap.size := World.block_lt_of_cell? wr _ c0
     have hbx : w.heap.size < wr.heap.size := World.block_lt_of_cell? wr _ q4
     have hzw := hbel.size
     have hk1 : (0 : Int) ≤ (k : Int) := by omega
     have hk2 : (k : Int) < (x.sub.length : Int) := by omega
     have HSn : Hid (nums .i64 ((Ex.sorts x.sub).take (k + 1)) = nums .i64 ((Ex.sorts x.sub).take k) ++ [.int .i64 ((y.sort : Nat) : Int)]) := Lib.hid (by
      rw [take_snoc_get (show (Ex.sorts x.sub)[k]? = some y.sort by rw [Ex.sorts_eq, List.getElem?_map, hy]; rfl), nums_snoc])
     have HC := Lib.hid (HI.out y (List.mem_of_getElem? hy) s' wr hy8 hs')
     unfold Ex.val at HC
     generalize y.sort = Y at HC HSn
     clear hy hs'
     go_wp2_with fail
     refine HC.out.mono ?_
     rintro e w1 ⟨rfl, hb1⟩
     have hown1 := ownsRow_below' hown hb1
     have hbel1 := hbel.trans (hb1.mono hzw)
     have hbox1 := HBX.out.low hb1
     have hy1 := hb1.size
     clear hown hbel hb1 c0 c1 c2 c3 c4 HC
     have hlt1 := hown1.lt
     go_wp2_with (at_builtin; refine wpList_append_own _ rfl _ _ 26 rfl (w.heap.size + 1) 3 i0 (.int .i64 0) 1 8 ul_int_list hi hz0 hz1 hz2 rfl (by decide) _ _ _ rfl (hown1.alloc _) ⟨w1.heap.size, 0, none⟩ 1 1 [_] rfl rfl (cell_one_new _ _ _) (one_cell_int _) ?d1 ?d2 ?d3 ?_)
     case d1 => unfold maxLen; omega
     case d2 => omega
     case d3 => simp; omega
     intro v2 w2 hown2 hgrow2 _
     have hbel2 : Below w.heap.size w w2 := (hbel1.alloc (by omega) _).grown hgrow2 (by simp; omega) (fun k hk => by have := (hlt1 k hk).1; omega)
     have hbox2 : EBox w2 w.heap.size x (.slice (some ⟨b, off, none⟩) x.sub.length cap) := (hbox1.low (below_a1 _ _)).kept fun o u hc => by
      rw [World.cell?_of_block (w := w1.alloc (.cells #[.int .i64 (Y : Int)] 3)) (hgrow2.block w.heap.size (by simp; omega) (fun e => by have := (hlt1 _ e.symm).1; omega))]; exact hc
     obtain ⟨ad3, cap3, rfl, _⟩ := Sl.of_owns hown2
     rw [← HSn.out] at hown2
     clear hgrow2 hown1 hbel1 hlt1 hbox1
     go_wp2
     go_roundw
     case rel => exact ⟨k + 1, ad3, cap3, by omega, by go_num, rfl, hown2, hbel2, hbox2⟩
     case measure => simp [intOf]; omega
    ·obtain rfl : k = x.sub.length := by omega
     have HR : Hid (RSrt w x (.slice ad x.sub.length cap) (.slice adb x.sub.length capb) wr) := by
      rw [List.take_of_length_le (by rw [Ex.sorts_length]; exact Nat.le_refl _)] at hown
      exact ⟨hown, hbel, hbox⟩
     obtain ⟨_, _, _, _, q4⟩ := hbox
     clear hown hbel
     go_wp2
     go_meet
     exact HR.out
  case rest =>
   obtain ⟨hown, hbel, hbox⟩ := hcut
   obtain ⟨adv, capv, rfl, hcl, _, hsl⟩ := Sl.of_owns hown
   have hLl := Ex.sorts_length x.sub
   obtain ⟨c0, c1, c2, c3, _⟩ := hbox
   have hbx : w.heap.size < wc.heap.size := World.block_lt_of_cell? wc _ c0
   have HSL := Lib.hid hsl
   have hk := HK.out
   clear HK
   generalize Ex.sorts x.sub = L at *
   clear HS HI hb0 HX0 hown hsl hlen hlt0 hB
   have hS : shapeOf x.k = some ([1, 1], 2) := by rw [hk]; rfl
   rw [hk] at c0
   replace c0 : wc.cell? ⟨w.heap.size, 0, none⟩ = some (.int .u8 12) := c0
   cases B with
   | false =>
    have HF : Hid (R = 0) := Lib.hid (by rw [HR.out]; exact sortOf_part_no hS (fun h => by have := HBB.out; simp [h.1, h.2.1, h.2.2.1] at this))
    clear HR HSL hk hS
    go_wp2_with fail
    go_ret
    exact ⟨by rw [HF.out]; rfl, hbel⟩
   | true =>
    have HB1 : Hid (x.ra.size = 0 ∧ x.nm.size = 0 ∧ x.d = 0) := Lib.hid (by have := HBB.out; simpa using this.symm)
    by_cases hln : x.sub.length = 2
    ·obtain ⟨a, b, rfl⟩ : ∃ a b, L = [a, b] := by
      rw [hln] at hLl
      match L, hLl with
      | [a, b], _ => exact ⟨a, b, rfl⟩
     obtain h0 | ⟨g, off, rfl, hg⟩ := HSL.out
     ·omega
     have g0 : wc.cell? ⟨g, off, none⟩ = some (.int .i64 (a : Int)) := hg 0 _ rfl
     have g1 : wc.cell? ⟨g, off + 1, none⟩ = some (.int .i64 (b : Int)) := hg 1 _ rfl
     have hgl : g < wc.heap.size := World.block_lt_of_cell? wc _ g0
     have HY : Hid ([a, b] = [1, 1] → R = 2) := Lib.hid (fun h => by rw [HR.out]; exact sortOf_part_yes hS ⟨HB1.out.1, HB1.out.2.1, HB1.out.2.2, h⟩)
     have HX : Hid ([a, b] ≠ [1, 1] → R = 0) := Lib.hid (fun h => by rw [HR.out]; exact sortOf_part_no hS (fun hh => h hh.2.2.2))
     rw [hln]
     clear HR HSL hk hS HB1 hg HBB hLl
     by_cases h0 : a = 1
     case neg =>
      have HF : Hid (R = 0) := Lib.hid (HX.out (by simp [h0]))
      have t0 : ((a : Int) == 1) = false := by simp; omega
      clear HX HY
      go_wp2_with fail
      go_ret
      exact ⟨by rw [HF.out]; rfl, hbel⟩
     subst h0
     replace g0 : wc.cell? ⟨g, off, none⟩ = some (.int .i64 1) := g0
     by_cases h1 : b = 1
     case neg =>
      have HF : Hid (R = 0) := Lib.hid (HX.out (by simp [h1]))
      have t0 : ((b : Int) == 1) = false := by simp; omega
      clear HX HY
      go_wp2_with fail
      go_ret
      exact ⟨by rw [HF.out]; rfl, hbel⟩
     subst h1
     replace g1 : wc.cell? ⟨g, off + 1, none⟩ = some (.int .i64 1) := g1
     have HF : Hid (R = 2) := Lib.hid (HY.out rfl)
     clear HX HY
     go_wp2_with fail
     go_ret
     exact ⟨by rw [HF.out]; rfl, hbel⟩
    ·have HF : Hid (R = 0) := Lib.hid (by rw [HR.out]; exact sortOf_part_no hS (fun h => by have := h.2.2.2; rw [this] at hLl; exact hln hLl.symm))
     have t0 : ((x.sub.length : Int) == 2) = false := by simp; omega
     clear HR HSL hk hS
     go_wp2_with fail
     go_ret
     exact ⟨by rw [HF.out]; rfl, hbel⟩
set_option maxHeartbeats 4000000 in
set_option maxRecDepth 100000 in
theorem rs_k13 (x : Ex) (s : Value) (w : World) (hB : x.bulk ≤ 1100000) (hk : x.k = 13) (_hk8 : x.k < 256) (HI : Hid (∀ y, y ∈ x.sub → ∀ (s : Value) (W : World), y.k < 256 → RdE W y.sub s → Calls Tryz.prog 140 #[y.val s] W fun e w' => e = .returned (.int .i64 ((y.sort : Nat) : Int)) ∧ Below W.heap.size W w')) (hs : RdE w x.sub s) :
  Calls Tryz.prog 140 #[x.val s] w fun e w' => e = .returned (.int .i64 ((x.sort : Nat) : Int)) ∧ Below w.heap.size w w' := by
 obtain ⟨ad, cap, rfl⟩ := hs.len
 obtain ⟨i0, hi, hz0, hz1, hz2⟩ := info_parts info_int_1
 have HS := Lib.hid hs
 have hlen := Ex.bulks_len x.sub
 have hlt0 := x.sub_lt
 have hbq := x.bulk_eq
 have hn : x.sub.length ≤ 1100000 := by omega
 have hra : x.ra.size ≤ 1100000 := by omega
 have hnm : x.nm.size ≤ 1100000 := by omega
 have hb0 := below_a1 w (.cells #[.int .u8 x.k, .string x.ra, .string x.nm, .int .i64 x.d, .slice ad x.sub.length cap] 25)
 have HX0 := Lib.hid (EBox.new w x (.slice ad x.sub.length cap) 25)
 obtain ⟨B, HBB⟩ : ∃ B : Bool, Hid (B = (decide (x.ra.size = 0) && (decide (x.nm.size = 0) && decide (x.d = 0)))) := ⟨_, rfl⟩
 have HR : Hid (x.sort = sortOf x.k x.ra x.nm x.d (Ex.sorts x.sub)) := Lib.hid x.sort_eq
 generalize x.sort = R at HR ⊢
 have HK := Lib.hid hk
 clear hk
 clear hs hbq
 unfold Ex.val
 go_enter Tryz.func140, Tryz.ntmps140
 go_upto_region 1 with fail
 go_cut [3] from 7 to 19 (fun b wc => b = .bool B ∧ wc = w.alloc (.cells #[.int .u8 x.k, .string x.ra, .string x.nm, .int .i64 x.d, .slice ad x.sub.length cap] 25))
 case first =>
  go_wp2_with fail
  all_goals
   go_meet
   refine ⟨?_, rfl⟩
   rw [HBB.out]
   simp [*, emp_nil] <;> rfl
 case rest =>
  obtain ⟨rfl, rfl⟩ := hcut
  go_upto_block 0 with fail
  go_cut [4, 5] from 20 to 35 (fun v _ wc => RSrt w x (.slice ad x.sub.length cap) v wc)
  case first =>
   go_wp2_with fail
   go_loopw [4, 5] (fun v i wr => ∃ (k : Nat) (adb : Option Addr) (capb : Nat), k ≤ x.sub.length ∧ i = .int .i64 (k : Int) ∧ v = .slice adb k capb ∧ wr.ownsRow (w.heap.size + 1) 3 1 (.slice adb k capb) k (nums .i64 ((Ex.sorts x.sub).take k)) ∧ Below w.heap.size w wr ∧ EBox wr w.heap.size x (.slice ad x.sub.length cap)) (fun _ i _ => x.sub.length - (intOf i).toNat)
   case atStart => exact ⟨0, none, 0, Nat.zero_le _, rfl, rfl, World.ownsRow_nil _ _ _ _, hb0, HX0.out⟩
   case round =>
    clear hb0 HX0
    obtain ⟨k, adb, capb, hk, rfl, rfl, hown, hbel, hbox⟩ := hrel
    have HBX := Lib.hid hbox
    by_cases hlt : k < x.sub.length
    ·obtain ⟨y, hy⟩ : ∃ y, x.sub[k]? = some y := ⟨_, List.getElem?_eq_getElem hlt⟩
     obtain ⟨b, off, s', rfl, c0, c1, c2, c3, c4, hs', hy8⟩ := (HS.out.frame hbel).at hy
     obtain ⟨_, _, _, _, q4⟩ := hbox
     have hblk : b < wr.heap.size := World.block_lt_of_cell? wr _ c0
     have hbx : w.heap.size < wr.heap.size := World.block_lt_of_cell? wr _ q4
     have hzw := hbel.size
     have hk1 : (0 : Int) ≤ (k : Int) := by omega
     have hk2 : (k : Int) < (x.sub.length : Int) := by omega
     have HSn : Hid (nums .i64 ((Ex.sorts x.sub).take (k + 1)) = nums .i64 ((Ex.sorts x.sub).take k) ++ [.int .i64 ((y.sort : Nat) : Int)]) := Lib.hid (by
      rw [take_snoc_get (show (Ex.sorts x.sub)[k]? = some y.sort by rw [Ex.sorts_eq, List.getElem?_map, hy]; rfl), nums_snoc])
     have HC := Lib.hid (HI.out y (List.mem_of_getElem? hy) s' wr hy8 hs')
     unfold Ex.val at HC
     generalize y.sort = Y at HC HSn
     clear hy hs'
     go_wp2_with fail
     refine HC.out.mono ?_
     rintro e w1 ⟨rfl, hb1⟩
     have hown1 := ownsRow_below' hown hb1
     have hbel1 := hbel.trans (hb1.mono hzw)
     have hbox1 := HBX.out.low hb1
     have hy1 := hb1.size
     clear hown hbel hb1 c0 c1 c2 c3 c4 HC
     have hlt1 := hown1.lt
     go_wp2_with (at_builtin; refine wpList_append_own _ rfl _ _ 26 rfl (w.heap.size + 1) 3 i0 (.int .i64 0) 1 8 ul_int_list hi hz0 hz1 hz2 rfl (by decide) _ _ _ rfl (hown1.alloc _) ⟨w1.heap.size, 0, none⟩ 1 1 [_] rfl rfl (cell_one_new _ _ _) (one_cell_int _) ?d1 ?d2 ?d3 ?_)
     case d1 => unfold maxLen; omega
     case d2 => omega
     case d3 => simp; omega
     intro v2 w2 hown2 hgrow2 _
     have hbel2 : Below w.heap.size w w2 := (hbel1.alloc (by omega) _).grown hgrow2 (by simp; omega) (fun k hk => by have := (hlt1 k hk).1; omega)
     have hbox2 : EBox w2 w.heap.size x (.slice (some ⟨b, off, none⟩) x.sub.length cap) := (hbox1.low (below_a1 _ _)).kept fun o u hc => by
      rw [World.cell?_of_block (w := w1.alloc (.cells #[.int .i64 (Y : Int)] 3)) (hgrow2.block w.heap.size (by simp; omega) (fun e => by have := (hlt1 _ e.symm).1; omega))]; exact hc
     obtain ⟨ad3, cap3, rfl, _⟩ := Sl.of_owns hown2
     rw [← HSn.out] at hown2
     clear hgrow2 hown1 hbel1 hlt1 hbox1
     go_wp2
     go_roundw
     case rel => exact ⟨k + 1, ad3, cap3, by omega, by go_num, rfl, hown2, hbel2, hbox2⟩
     case measure => simp [intOf]; omega
    ·obtain rfl : k = x.sub.length := by omega
     have HR : Hid (RSrt w x (.slice ad x.sub.length cap) (.slice adb x.sub.length capb) wr) := by
      rw [List.take_of_length_le (by rw [Ex.sorts_length]; exact Nat.le_refl _)] at hown
      exact ⟨hown, hbel, hbox⟩
     obtain ⟨_, _, _, _, q4⟩ := hbox
     clear hown hbel
     go_wp2
     go_meet
     exact HR.out
  case rest =>
   obtain ⟨hown, hbel, hbox⟩ := hcut
   obtain ⟨adv, capv, rfl, hcl, _, hsl⟩ := Sl.of_owns hown
   have hLl := Ex.sorts_length x.sub
   obtain ⟨c0, c1, c2, c3, _⟩ := hbox
   have hbx : w.heap.size < wc.heap.size := World.block_lt_of_cell? wc _ c0
   have HSL := Lib.hid hsl
   have hk := HK.out
   clear HK
   generalize Ex.sorts x.sub = L at *
   clear HS HI hb0 HX0 hown hsl hlen hlt0 hB
   have hS : shapeOf x.k = some ([2, 2], 2) := by rw [hk]; rfl
   rw [hk] at c0
   replace c0 : wc.cell? ⟨w.heap.size, 0, none⟩ = some (.int .u8 13) := c0
   cases B with
   | false =>
    have HF : Hid (R = 0) := Lib.hid (by rw [HR.out]; exact sortOf_part_no hS (fun h => by have := HBB.out; simp [h.1, h.2.1, h.2.2.1] at this))
    clear HR HSL hk hS
    go_wp2_with fail
    go_ret
    exact ⟨by rw [HF.out]; rfl, hbel⟩
   | true =>
    have HB1 : Hid (x.ra.size = 0 ∧ x.nm.size = 0 ∧ x.d = 0) := Lib.hid (by have := HBB.out; simpa using this.symm)
    by_cases hln : x.sub.length = 2
    ·obtain ⟨a, b, rfl⟩ : ∃ a b, L = [a, b] := by
      rw [hln] at hLl
      match L, hLl with
      | [a, b], _ => exact ⟨a, b, rfl⟩
     obtain h0 | ⟨g, off, rfl, hg⟩ := HSL.out
     ·omega
     have g0 : wc.cell? ⟨g, off, none⟩ = some (.int .i64 (a : Int)) := hg 0 _ rfl
     have g1 : wc.cell? ⟨g, off + 1, none⟩ = some (.int .i64 (b : Int)) := hg 1 _ rfl
     have hgl : g < wc.heap.size := World.block_lt_of_cell? wc _ g0
     have HY : Hid ([a, b] = [2, 2] → R = 2) := Lib.hid (fun h => by rw [HR.out]; exact sortOf_part_yes hS ⟨HB1.out.1, HB1.out.2.1, HB1.out.2.2, h⟩)
     have HX : Hid ([a, b] ≠ [2, 2] → R = 0) := Lib.hid (fun h => by rw [HR.out]; exact sortOf_part_no hS (fun hh => h hh.2.2.2))
     rw [hln]
     clear HR HSL hk hS HB1 hg HBB hLl
     by_cases h0 : a = 2
     case neg =>
      have HF : Hid (R = 0) := Lib.hid (HX.out (by simp [h0]))
      have t0 : ((a : Int) == 2) = false := by simp; omega
      clear HX HY
      go_wp2_with fail
      go_ret
      exact ⟨by rw [HF.out]; rfl, hbel⟩
     subst h0
     replace g0 : wc.cell? ⟨g, off, none⟩ = some (.int .i64 2) := g0
     by_cases h1 : b = 2
     case neg =>
      have HF : Hid (R = 0) := Lib.hid (HX.out (by simp [h1]))
      have t0 : ((b : Int) == 2) = false := by simp; omega
      clear HX HY
      go_wp2_with fail
      go_ret
      exact ⟨by rw [HF.out]; rfl, hbel⟩
     subst h1
     replace g1 : wc.cell? ⟨g, off + 1, none⟩ = some (.int .i64 2) := g1
     have HF : Hid (R = 2) := Lib.hid (HY.out rfl)
     clear HX HY
     go_wp2_with fail
     go_ret
     exact ⟨by rw [HF.out]; rfl, hbel⟩
    ·have HF : Hid (R = 0) := Lib.hid (by rw [HR.out]; exact sortOf_part_no hS (fun h => by have := h.2.2.2; rw [this] at hLl; exact hln hLl.symm))
     have t0 : ((x.sub.length : Int) == 2) = false := by simp; omega
     clear HR HSL hk hS
     go_wp2_with fail
     go_ret
     exact ⟨by rw [HF.out]; rfl, hbel⟩
set_option maxHeartbeats 4000000 in
set_option maxRecDepth 100000 in
theorem rs_k14 (x : Ex) (s : Value) (w : World) (hB : x.bulk ≤ 1100000) (hk : x.k = 14) (_hk8 : x.k < 256) (HI : Hid (∀ y, y ∈ x.sub → ∀ (s : Value) (W : World), y.k < 256 → RdE W y.sub s → Calls Tryz.prog 140 #[y.val s] W fun e w' => e = .returned (.int .i64 ((y.sort : Nat) : Int)) ∧ Below W.heap.size W w')) (hs : RdE w x.sub s) :
  Calls Tryz.prog 140 #[x.val s] w fun e w' => e = .returned (.int .i64 ((x.sort : Nat) : Int)) ∧ Below w.heap.size w w' := by
 obtain ⟨ad, cap, rfl⟩ := hs.len
 obtain ⟨i0, hi, hz0, hz1, hz2⟩ := info_parts info_int_1
 have HS := Lib.hid hs
 have hlen := Ex.bulks_len x.sub
 have hlt0 := x.sub_lt
 have hbq := x.bulk_eq
 have hn : x.sub.length ≤ 1100000 := by omega
 have hra : x.ra.size ≤ 1100000 := by omega
 have hnm : x.nm.size ≤ 1100000 := by omega
 have hb0 := below_a1 w (.cells #[.int .u8 x.k, .string x.ra, .string x.nm, .int .i64 x.d, .slice ad x.sub.length cap] 25)
 have HX0 := Lib.hid (EBox.new w x (.slice ad x.sub.length cap) 25)
 obtain ⟨B, HBB⟩ : ∃ B : Bool, Hid (B = (decide (x.ra.size = 0) && (decide (x.nm.size = 0) && decide (x.d = 0)))) := ⟨_, rfl⟩
 have HR : Hid (x.sort = sortOf x.k x.ra x.nm x.d (Ex.sorts x.sub)) := Lib.hid x.sort_eq
 generalize x.sort = R at HR ⊢
 have HK := Lib.hid hk
 clear hk
 clear hs hbq
 unfold Ex.val
 go_enter Tryz.func140, Tryz.ntmps140
 go_upto_region 1 with fail
 go_cut [3] from 7 to 19 (fun b wc => b = .bool B ∧ wc = w.alloc (.cells #[.int .u8 x.k, .string x.ra, .string x.nm, .int .i64 x.d, .slice ad x.sub.length cap] 25))
 case first =>
  go_wp2_with fail
  all_goals
   go_meet
   refine ⟨?_, rfl⟩
   rw [HBB.out]
   simp [*, emp_nil] <;> rfl
 case rest =>
  obtain ⟨rfl, rfl⟩ := hcut
  go_upto_block 0 with fail
  go_cut [4, 5] from 20 to 35 (fun v _ wc => RSrt w x (.slice ad x.sub.length cap) v wc)
  case first =>
   go_wp2_with fail
   go_loopw [4, 5] (fun v i wr => ∃ (k : Nat) (adb : Option Addr) (capb : Nat), k ≤ x.sub.length ∧ i = .int .i64 (k : Int) ∧ v = .slice adb k capb ∧ wr.ownsRow (w.heap.size + 1) 3 1 (.slice adb k capb) k (nums .i64 ((Ex.sorts x.sub).take k)) ∧ Below w.heap.size w wr ∧ EBox wr w.heap.size x (.slice ad x.sub.length cap)) (fun _ i _ => x.sub.length - (intOf i).toNat)
   case atStart => exact ⟨0, none, 0, Nat.zero_le _, rfl, rfl, World.ownsRow_nil _ _ _ _, hb0, HX0.out⟩
   case round =>
    clear hb0 HX0
    obtain ⟨k, adb, capb, hk, rfl, rfl, hown, hbel, hbox⟩ := hrel
    have HBX := Lib.hid hbox
    by_cases hlt : k < x.sub.length
    ·obtain ⟨y, hy⟩ : ∃ y, x.sub[k]? = some y := ⟨_, List.getElem?_eq_getElem hlt⟩
     obtain ⟨b, off, s', rfl, c0, c1, c2, c3, c4, hs', hy8⟩ := (HS.out.frame hbel).at hy
     obtain ⟨_, _, _, _, q4⟩ := hbox
     have hblk : b < wr.heap.size := World.block_lt_of_cell? wr _ c0
     have hbx : w.heap.size < wr.heap.size := World.block_lt_of_cell? wr _ q4
     have hzw := hbel.size
     have hk1 : (0 : Int) ≤ (k : Int) := by omega
     have hk2 : (k : Int) < (x.sub.length : Int) := by omega
     have HSn : Hid (nums .i64 ((Ex.sorts x.sub).take (k + 1)) = nums .i64 ((Ex.sorts x.sub).take k) ++ [.int .i64 ((y.sort : Nat) : Int)]) := Lib.hid (by
      rw [take_snoc_get (show (Ex.sorts x.sub)[k]? = some y.sort by rw [Ex.sorts_eq, List.getElem?_map, hy]; rfl), nums_snoc])
     have HC := Lib.hid (HI.out y (List.mem_of_getElem? hy) s' wr hy8 hs')
     unfold Ex.val at HC
     generalize y.sort = Y at HC HSn
     clear hy hs'
     go_wp2_with fail
     refine HC.out.mono ?_
     rintro e w1 ⟨rfl, hb1⟩
     have hown1 := ownsRow_below' hown hb1
     have hbel1 := hbel.trans (hb1.mono hzw)
     have hbox1 := HBX.out.low hb1
     have hy1 := hb1.size
     clear hown hbel hb1 c0 c1 c2 c3 c4 HC
     have hlt1 := hown1.lt
     go_wp2_with (at_builtin; refine wpList_append_own _ rfl _ _ 26 rfl (w.heap.size + 1) 3 i0 (.int .i64 0) 1 8 ul_int_list hi hz0 hz1 hz2 rfl (by decide) _ _ _ rfl (hown1.alloc _) ⟨w1.heap.size, 0, none⟩ 1 1 [_] rfl rfl (cell_one_new _ _ _) (one_cell_int _) ?d1 ?d2 ?d3 ?_)
     case d1 => unfold maxLen; omega
     case d2 => omega
     case d3 => simp; omega
     intro v2 w2 hown2 hgrow2 _
     have hbel2 : Below w.heap.size w w2 := (hbel1.alloc (by omega) _).grown hgrow2 (by simp; omega) (fun k hk => by have := (hlt1 k hk).1; omega)
     have hbox2 : EBox w2 w.heap.size x (.slice (some ⟨b, off, none⟩) x.sub.length cap) := (hbox1.low (below_a1 _ _)).kept fun o u hc => by
      rw [World.cell?_of_block (w := w1.alloc (.cells #[.int .i64 (Y : Int)] 3)) (hgrow2.block w.heap.size (by simp; omega) (fun e => by have := (hlt1 _ e.symm).1; omega))]; exact hc
     obtain ⟨ad3, cap3, rfl, _⟩ := Sl.of_owns hown2
     rw [← HSn.out] at hown2
     clear hgrow2 hown1 hbel1 hlt1 hbox1
     go_wp2
     go_roundw
     case rel => exact ⟨k + 1, ad3, cap3, by omega, by go_num, rfl, hown2, hbel2, hbox2⟩
     case measure => simp [intOf]; omega
    ·obtain rfl : k = x.sub.length := by omega
     have HR : Hid (RSrt w x (.slice ad x.sub.length cap) (.slice adb x.sub.length capb) wr) := by
      rw [List.take_of_length_le (by rw [Ex.sorts_length]; exact Nat.le_refl _)] at hown
      exact ⟨hown, hbel, hbox⟩
     obtain ⟨_, _, _, _, q4⟩ := hbox
     clear hown hbel
     go_wp2
     go_meet
     exact HR.out
  case rest =>
   obtain ⟨hown, hbel, hbox⟩ := hcut
   obtain ⟨adv, capv, rfl, hcl, _, hsl⟩ := Sl.of_owns hown
   have hLl := Ex.sorts_length x.sub
   obtain ⟨c0, c1, c2, c3, _⟩ := hbox
   have hbx : w.heap.size < wc.heap.size := World.block_lt_of_cell? wc _ c0
   have HSL := Lib.hid hsl
   have hk := HK.out
   clear HK
   generalize Ex.sorts x.sub = L at *
   clear HS HI hb0 HX0 hown hsl hlen hlt0 hB
   have hS : shapeOf x.k = some ([2, 2], 2) := by rw [hk]; rfl
   rw [hk] at c0
   replace c0 : wc.cell? ⟨w.heap.size, 0, none⟩ = some (.int .u8 14) := c0
   cases B with
   | false =>
    have HF : Hid (R = 0) := Lib.hid (by rw [HR.out]; exact sortOf_part_no hS (fun h => by have := HBB.out; simp [h.1, h.2.1, h.2.2.1] at this))
    clear HR HSL hk hS
    go_wp2_with fail
    go_ret
    exact ⟨by rw [HF.out]; rfl, hbel⟩
   | true =>
    have HB1 : Hid (x.ra.size = 0 ∧ x.nm.size = 0 ∧ x.d = 0) := Lib.hid (by have := HBB.out; simpa using this.symm)
    by_cases hln : x.sub.length = 2
    ·obtain ⟨a, b, rfl⟩ : ∃ a b, L = [a, b] := by
      rw [hln] at hLl
      match L, hLl with
      | [a, b], _ => exact ⟨a, b, rfl⟩
     obtain h0 | ⟨g, off, rfl, hg⟩ := HSL.out
     ·omega
     have g0 : wc.cell? ⟨g, off, none⟩ = some (.int .i64 (a : Int)) := hg 0 _ rfl
     have g1 : wc.cell? ⟨g, off + 1, none⟩ = some (.int .i64 (b : Int)) := hg 1 _ rfl
     have hgl : g < wc.heap.size := World.block_lt_of_cell? wc _ g0
     have HY : Hid ([a, b] = [2, 2] → R = 2) := Lib.hid (fun h => by rw [HR.out]; exact sortOf_part_yes hS ⟨HB1.out.1, HB1.out.2.1, HB1.out.2.2, h⟩)
     have HX : Hid ([a, b] ≠ [2, 2] → R = 0) := Lib.hid (fun h => by rw [HR.out]; exact sortOf_part_no hS (fun hh => h hh.2.2.2))
     rw [hln]
     clear HR HSL hk hS HB1 hg HBB hLl
     by_cases h0 : a = 2
     case neg =>
      have HF : Hid (R = 0) := Lib.hid (HX.out (by simp [h0]))
      have t0 : ((a : Int) == 2) = false := by simp; omega
      clear HX HY
      go_wp2_with fail
      go_ret
      exact ⟨by rw [HF.out]; rfl, hbel⟩
     subst h0
     replace g0 : wc.cell? ⟨g, off, none⟩ = some (.int .i64 2) := g0
     by_cases h1 : b = 2
     case neg =>
      have HF : Hid (R = 0) := Lib.hid (HX.out (by simp [h1]))
      have t0 : ((b : Int) == 2) = false := by simp; omega
      clear HX HY
      go_wp2_with fail
      go_ret
      exact ⟨by rw [HF.out]; rfl, hbel⟩
     subst h1
     replace g1 : wc.cell? ⟨g, off + 1, none⟩ = some (.int .i64 2) := g1
     have HF : Hid (R = 2) := Lib.hid (HY.out rfl)
     clear HX HY
     go_wp2_with fail
     go_ret
     exact ⟨by rw [HF.out]; rfl, hbel⟩
    ·have HF : Hid (R = 0) := Lib.hid (by rw [HR.out]; exact sortOf_part_no hS (fun h => by have := h.2.2.2; rw [this] at hLl; exact hln hLl.symm))
     have t0 : ((x.sub.length : Int) == 2) = false := by simp; omega
     clear HR HSL hk hS
     go_wp2_with fail
     go_ret
     exact ⟨by rw [HF.out]; rfl, hbel⟩
set_option maxHeartbeats 4000000 in
set_option maxRecDepth 100000 in
theorem rs_k15 (x : Ex) (s : Value) (w : World) (hB : x.bulk ≤ 1100000) (hk : x.k = 15) (_hk8 : x.k < 256) (HI : Hid (∀ y, y ∈ x.sub → ∀ (s : Value) (W : World), y.k < 256 → RdE W y.sub s → Calls Tryz.prog 140 #[y.val s] W fun e w' => e = .returned (.int .i64 ((y.sort : Nat) : Int)) ∧ Below W.heap.size W w')) (hs : RdE w x.sub s) :
  Calls Tryz.prog 140 #[x.val s] w fun e w' => e = .returned (.int .i64 ((x.sort : Nat) : Int)) ∧ Below w.heap.size w w' := by
 obtain ⟨ad, cap, rfl⟩ := hs.len
 obtain ⟨i0, hi, hz0, hz1, hz2⟩ := info_parts info_int_1
 have HS := Lib.hid hs
 have hlen := Ex.bulks_len x.sub
 have hlt0 := x.sub_lt
 have hbq := x.bulk_eq
 have hn : x.sub.length ≤ 1100000 := by omega
 have hra : x.ra.size ≤ 1100000 := by omega
 have hnm : x.nm.size ≤ 1100000 := by omega
 have hb0 := below_a1 w (.cells #[.int .u8 x.k, .string x.ra, .string x.nm, .int .i64 x.d, .slice ad x.sub.length cap] 25)
 have HX0 := Lib.hid (EBox.new w x (.slice ad x.sub.length cap) 25)
 obtain ⟨B, HBB⟩ : ∃ B : Bool, Hid (B = (decide (x.ra.size = 0) && (decide (x.nm.size = 0) && decide (x.d = 0)))) := ⟨_, rfl⟩
 have HR : Hid (x.sort = sortOf x.k x.ra x.nm x.d (Ex.sorts x.sub)) := Lib.hid x.sort_eq
 generalize x.sort = R at HR ⊢
 have HK := Lib.hid hk
 clear hk
 clear hs hbq
 unfold Ex.val
 go_enter Tryz.func140, Tryz.ntmps140
 go_upto_region 1 with fail
 go_cut [3] from 7 to 19 (fun b wc => b = .bool B ∧ wc = w.alloc (.cells #[.int .u8 x.k, .string x.ra, .string x.nm, .int .i64 x.d, .slice ad x.sub.length cap] 25))
 case first =>
  go_wp2_with fail
  all_goals
   go_meet
   refine ⟨?_, rfl⟩
   rw [HBB.out]
   simp [*, emp_nil] <;> rfl
 case rest =>
  obtain ⟨rfl, rfl⟩ := hcut
  go_upto_block 0 with fail
  go_cut [4, 5] from 20 to 35 (fun v _ wc => RSrt w x (.slice ad x.sub.length cap) v wc)
  case first =>
   go_wp2_with fail
   go_loopw [4, 5] (fun v i wr => ∃ (k : Nat) (adb : Option Addr) (capb : Nat), k ≤ x.sub.length ∧ i = .int .i64 (k : Int) ∧ v = .slice adb k capb ∧ wr.ownsRow (w.heap.size + 1) 3 1 (.slice adb k capb) k (nums .i64 ((Ex.sorts x.sub).take k)) ∧ Below w.heap.size w wr ∧ EBox wr w.heap.size x (.slice ad x.sub.length cap)) (fun _ i _ => x.sub.length - (intOf i).toNat)
   case atStart => exact ⟨0, none, 0, Nat.zero_le _, rfl, rfl, World.ownsRow_nil _ _ _ _, hb0, HX0.out⟩
   case round =>
    clear hb0 HX0
    obtain ⟨k, adb, capb, hk, rfl, rfl, hown, hbel, hbox⟩ := hrel
    have HBX := Lib.hid hbox
    by_cases hlt : k < x.sub.length
    ·obtain ⟨y, hy⟩ : ∃ y, x.sub[k]? = some y := ⟨_, List.getElem?_eq_getElem hlt⟩
     obtain ⟨b, off, s', rfl, c0, c1, c2, c3, c4, hs', hy8⟩ := (HS.out.frame hbel).at hy
     obtain ⟨_, _, _, _, q4⟩ := hbox
     have hblk : b < wr.heap.size := World.block_lt_of_cell? wr _ c0
     have hbx : w.heap.size < wr.heap.size := World.block_lt_of_cell? wr _ q4
     have hzw := hbel.size
     have hk1 : (0 : Int) ≤ (k : Int) := by omega
     have hk2 : (k : Int) < (x.sub.length : Int) := by omega
     have HSn : Hid (nums .i64 ((Ex.sorts x.sub).take (k + 1)) = nums .i64 ((Ex.sorts x.sub).take k) ++ [.int .i64 ((y.sort : Nat) : Int)]) := Lib.hid (by
      rw [take_snoc_get (show (Ex.sorts x.sub)[k]? = some y.sort by rw [Ex.sorts_eq, List.getElem?_map, hy]; rfl), nums_snoc])
     have HC := Lib.hid (HI.out y (List.mem_of_getElem? hy) s' wr hy8 hs')
     unfold Ex.val at HC
     generalize y.sort = Y at HC HSn
     clear hy hs'
     go_wp2_with fail
     refine HC.out.mono ?_
     rintro e w1 ⟨rfl, hb1⟩
     have hown1 := ownsRow_below' hown hb1
     have hbel1 := hbel.trans (hb1.mono hzw)
     have hbox1 := HBX.out.low hb1
     have hy1 := hb1.size
     clear hown hbel hb1 c0 c1 c2 c3 c4 HC
     have hlt1 := hown1.lt
     go_wp2_with (at_builtin; refine wpList_append_own _ rfl _ _ 26 rfl (w.heap.size + 1) 3 i0 (.int .i64 0) 1 8 ul_int_list hi hz0 hz1 hz2 rfl (by decide) _ _ _ rfl (hown1.alloc _) ⟨w1.heap.size, 0, none⟩ 1 1 [_] rfl rfl (cell_one_new _ _ _) (one_cell_int _) ?d1 ?d2 ?d3 ?_)
     case d1 => unfold maxLen; omega
     case d2 => omega
     case d3 => simp; omega
     intro v2 w2 hown2 hgrow2 _
     have hbel2 : Below w.heap.size w w2 := (hbel1.alloc (by omega) _).grown hgrow2 (by simp; omega) (fun k hk => by have := (hlt1 k hk).1; omega)
     have hbox2 : EBox w2 w.heap.size x (.slice (some ⟨b, off, none⟩) x.sub.length cap) := (hbox1.low (below_a1 _ _)).kept fun o u hc => by
      rw [World.cell?_of_block (w := w1.alloc (.cells #[.int .i64 (Y : Int)] 3)) (hgrow2.block w.heap.size (by simp; omega) (fun e => by have := (hlt1 _ e.symm).1; omega))]; exact hc
     obtain ⟨ad3, cap3, rfl, _⟩ := Sl.of_owns hown2
     rw [← HSn.out] at hown2
     clear hgrow2 hown1 hbel1 hlt1 hbox1
     go_wp2
     go_roundw
     case rel => exact ⟨k + 1, ad3, cap3, by omega, by go_num, rfl, hown2, hbel2, hbox2⟩
     case measure => simp [intOf]; omega
    ·obtain rfl : k = x.sub.length := by omega
     have HR : Hid (RSrt w x (.slice ad x.sub.length cap) (.slice adb x.sub.length capb) wr) := by
      rw [List.take_of_length_le (by rw [Ex.sorts_length]; exact Nat.le_refl _)] at hown
      exact ⟨hown, hbel, hbox⟩
     obtain ⟨_, _, _, _, q4⟩ := hbox
     clear hown hbel
     go_wp2
     go_meet
     exact HR.out
  case rest =>
   obtain ⟨hown, hbel, hbox⟩ := hcut
   obtain ⟨adv, capv, rfl, hcl, _, hsl⟩ := Sl.of_owns hown
   have hLl := Ex.sorts_length x.sub
   obtain ⟨c0, c1, c2, c3, _⟩ := hbox
   have hbx : w.heap.size < wc.heap.size := World.block_lt_of_cell? wc _ c0
   have HSL := Lib.hid hsl
   have hk := HK.out
   clear HK
   generalize Ex.sorts x.sub = L at *
   clear HS HI hb0 HX0 hown hsl hlen hlt0 hB
   have hS : shapeOf x.k = some ([2], 2) := by rw [hk]; rfl
   rw [hk] at c0
   replace c0 : wc.cell? ⟨w.heap.size, 0, none⟩ = some (.int .u8 15) := c0
   cases B with
   | false =>
    have HF : Hid (R = 0) := Lib.hid (by rw [HR.out]; exact sortOf_part_no hS (fun h => by have := HBB.out; simp [h.1, h.2.1, h.2.2.1] at this))
    clear HR HSL hk hS
    go_wp2_with fail
    go_ret
    exact ⟨by rw [HF.out]; rfl, hbel⟩
   | true =>
    have HB1 : Hid (x.ra.size = 0 ∧ x.nm.size = 0 ∧ x.d = 0) := Lib.hid (by have := HBB.out; simpa using this.symm)
    by_cases hln : x.sub.length = 1
    ·obtain ⟨a, rfl⟩ : ∃ a, L = [a] := by
      rw [hln] at hLl
      match L, hLl with
      | [a], _ => exact ⟨a, rfl⟩
     obtain h0 | ⟨g, off, rfl, hg⟩ := HSL.out
     ·omega
     have g0 : wc.cell? ⟨g, off, none⟩ = some (.int .i64 (a : Int)) := hg 0 _ rfl
     have hgl : g < wc.heap.size := World.block_lt_of_cell? wc _ g0
     have HY : Hid ([a] = [2] → R = 2) := Lib.hid (fun h => by rw [HR.out]; exact sortOf_part_yes hS ⟨HB1.out.1, HB1.out.2.1, HB1.out.2.2, h⟩)
     have HX : Hid ([a] ≠ [2] → R = 0) := Lib.hid (fun h => by rw [HR.out]; exact sortOf_part_no hS (fun hh => h hh.2.2.2))
     rw [hln]
     clear HR HSL hk hS HB1 hg HBB hLl
     by_cases h0 : a = 2
     case neg =>
      have HF : Hid (R = 0) := Lib.hid (HX.out (by simp [h0]))
      have t0 : ((a : Int) == 2) = false := by simp; omega
      clear HX HY
      go_wp2_with fail
      go_ret
      exact ⟨by rw [HF.out]; rfl, hbel⟩
     subst h0
     replace g0 : wc.cell? ⟨g, off, none⟩ = some (.int .i64 2) := g0
     have HF : Hid (R = 2) := Lib.hid (HY.out rfl)
     clear HX HY
     go_wp2_with fail
     go_ret
     exact ⟨by rw [HF.out]; rfl, hbel⟩
    ·have HF : Hid (R = 0) := Lib.hid (by rw [HR.out]; exact sortOf_part_no hS (fun h => by have := h.2.2.2; rw [this] at hLl; exact hln hLl.symm))
     have t0 : ((x.sub.length : Int) == 1) = false := by simp; omega
     clear HR HSL hk hS
     go_wp2_with fail
     go_ret
     exact ⟨by rw [HF.out]; rfl, hbel⟩
end Go.Proofs.YtkonookacfmfgaaGreatDoor

namespace Go.Proofs.YtkonookacfmfgaaGreatDoor
open Go.RowKit
theorem rsort_any : ∀ (N : Nat) (x : Ex) (s : Value) (w : World), x.bulk ≤ N → x.bulk ≤ 1100000 → x.k < 256 → RdE w x.sub s →
  Calls Tryz.prog 140 #[x.val s] w fun e w' => e = .returned (.int .i64 ((x.sort : Nat) : Int)) ∧ Below w.heap.size w w' := by
 intro N
 induction N with
 | zero =>
  intro x s w h0
  rw [Ex.bulk_eq] at h0
  omega
 | succ N ih =>
  intro x s w hN hB hk8 hs
  have HI : Hid (∀ y, y ∈ x.sub → ∀ (s : Value) (W : World), y.k < 256 → RdE W y.sub s → Calls Tryz.prog 140 #[y.val s] W fun e w' => e = .returned (.int .i64 ((y.sort : Nat) : Int)) ∧ Below W.heap.size W w') :=
   Lib.hid fun y hy s W h8 hr => ih y s W (by have := Ex.mem_lt hy; omega) (by have := Ex.mem_lt hy; omega) h8 hr
  have hkk : x.k = 1 ∨ x.k = 2 ∨ x.k = 3 ∨ (4 ≤ x.k ∧ x.k ≤ 8) ∨ x.k = 9 ∨ x.k = 11 ∨ x.k = 12 ∨ x.k = 13 ∨ x.k = 14 ∨ x.k = 15 ∨ (x.k = 0 ∨ x.k = 10 ∨ 16 ≤ x.k) := by omega
  rcases hkk with hk | hk | hk | hk | hk | hk | hk | hk | hk | hk | hk
  ·exact rs_leaf1 x s w hB hk hk8 HI hs
  ·exact rs_leaf2 x s w hB hk hk8 HI hs
  ·exact rs_leaf3 x s w hB hk hk8 HI hs
  ·exact rs_num x s w hB hk hk8 HI hs
  ·exact rs_k9 x s w hB hk hk8 HI hs
  ·exact rs_k11 x s w hB hk hk8 HI hs
  ·exact rs_k12 x s w hB hk hk8 HI hs
  ·exact rs_k13 x s w hB hk hk8 HI hs
  ·exact rs_k14 x s w hB hk hk8 HI hs
  ·exact rs_k15 x s w hB hk hk8 HI hs
  ·exact rs_none x s w hB hk hk8 HI hs
end Go.Proofs.YtkonookacfmfgaaGreatDoor
