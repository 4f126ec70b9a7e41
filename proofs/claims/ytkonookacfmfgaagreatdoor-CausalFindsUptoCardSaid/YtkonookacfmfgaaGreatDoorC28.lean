/-
  novationref08.Sort: expressions without parts.
-/
import Derived.Test.YtkonookacfmfgaaGreatDoorC27
namespace Go.Proofs.YtkonookacfmfgaaGreatDoor
open Go.RowKit
set_option maxHeartbeats 4000000 in
set_option maxRecDepth 100000 in
theorem rs_leaf1 (x : Ex) (s : Value) (w : World) (hB : x.bulk ≤ 1100000) (hk : x.k = 1) (_hk8 : x.k < 256) (HI : Hid (∀ y, y ∈ x.sub → ∀ (s : Value) (W : World), y.k < 256 → RdE W y.sub s → Calls Tryz.prog 140 #[y.val s] W fun e w' => e = .returned (.int .i64 ((y.sort : Nat) : Int)) ∧ Below W.heap.size W w')) (hs : RdE w x.sub s) :
  Calls Tryz.prog 140 #[x.val s] w fun e w' => e = .returned (.int .i64 ((x.sort : Nat) : Int)) ∧ Below w.heap.size w w' := by
 obtain ⟨ad, cap, rfl⟩ := hs.len
 obtain ⟨i0, hi, hz0, hz1, hz2⟩ := info_parts info_int_1
 have HS := Lib.hid hs
 have hlen := Ex.bulks_len x.sub
 have hlt0 := x.sub_lt
 have hbq := x.bulk_eq
 have hn : x.sub.length ≤ 1100000 := by omega
 have hra : x.ra.size ≤ 1100000 := by omega
 have hnm : x.nm.size ≤ 1100000 := by omega
 have hb0 := below_a1 w (.cells #[.int .u8 x.k, .string x.ra, .string x.nm, .int .i64 x.d, .slice ad x.sub.length cap] 25)
 have HX0 := Lib.hid (EBox.new w x (.slice ad x.sub.length cap) 25)
 obtain ⟨B, HBB⟩ : ∃ B : Bool, Hid (B = (decide (x.ra.size = 0) && (decide (x.nm.size = 0) && decide (x.d = 0)))) := ⟨_, rfl⟩
 have HR : Hid (x.sort = sortOf x.k x.ra x.nm x.d (Ex.sorts x.sub)) := Lib.hid x.sort_eq
 generalize x.sort = R at HR ⊢
 have HK := Lib.hid hk
 clear hk
 clear hs hbq
 unfold Ex.val
 go_enter Tryz.func140, Tryz.ntmps140
 go_upto_region 1 with fail
 go_cut [3] from 7 to 19 (fun b wc => b = .bool B ∧ wc = w.alloc (.cells #[.int .u8 x.k, .string x.ra, .string x.nm, .int .i64 x.d, .slice ad x.sub.length cap] 25))
 case first =>
  go_wp2_with fail
  all_goals
   go_meet
   refine ⟨?_, rfl⟩
   rw [HBB.out]
   simp [*, emp_nil] <;> rfl
 case rest =>
  obtain ⟨rfl, rfl⟩ := hcut
  go_upto_block 0 with fail
  go_cut [4, 5] from 20 to 35 (fun v _ wc => RSrt w x (.slice ad x.sub.length cap) v wc)
  case first =>
   go_wp2_with fail
   go_loopw [4, 5] (fun v i wr => ∃ (k : Nat) (adb : Option Addr) (capb : Nat), k ≤ x.sub.length ∧ i = .int .i64 (k : Int) ∧ v = .slice adb k capb ∧ wr.ownsRow (w.heap.size + 1) 3 1 (.slice adb k capb) k (nums .i64 ((Ex.sorts x.sub).take k)) ∧ Below w.heap.size w wr ∧ EBox wr w.heap.size x (.slice ad x.sub.length cap)) (fun _ i _ => x.sub.length - (intOf i).toNat)
   case atStart => exact ⟨0, none, 0, Nat.zero_le _, rfl, rfl, World.ownsRow_nil _ _ _ _, hb0, HX0.out⟩
   case round =>
    clear hb0 HX0
    obtain ⟨k, adb, capb, hk, rfl, rfl, hown, hbel, hbox⟩ := hrel
    have HBX := Lib.hid hbox
    by_cases hlt : k < x.sub.length
    ·obtain ⟨y, hy⟩ : ∃ y, x.sub[k]? = some y := ⟨_, List.getElem?_eq_getElem hlt⟩
     obtain ⟨b, off, s', rfl, c0, c1, c2, c3, c4, hs', hy8⟩ := (HS.out.frame hbel).at hy
     obtain ⟨_, _, _, _, q4⟩ := hbox
     have hblk : b < wr.heap.size := World.block_lt_of_cell? wr _ c0
     have hbx : w.heap.size < wr.heap.size := World.block_lt_of_cell? wr _ q4
     have hzw := hbel.size
     have hk1 : (0 : Int) ≤ (k : Int) := by omega
     have hk2 : (k : Int) < (x.sub.length : Int) := by omega
     have HSn : Hid (nums .i64 ((Ex.sorts x.sub).take (k + 1)) = nums .i64 ((Ex.sorts x.sub).take k) ++ [.int .i64 ((y.sort : Nat) : Int)]) := Lib.hid (by
      rw [take_snoc_get (show (Ex.sorts x.sub)[k]? = some y.sort by rw [Ex.sorts_eq, List.getElem?_map, hy]; rfl), nums_snoc])
     have HC := Lib.hid (HI.out y (List.mem_of_getElem? hy) s' wr hy8 hs')
     unfold Ex.val at HC
     generalize y.sort = Y at HC HSn
     clear hy hs'
     go_wp2_with fail
     refine HC.out.mono ?_
     rintro e w1 ⟨rfl, hb1⟩
     have hown1 := ownsRow_below' hown hb1
     have hbel1 := hbel.trans (hb1.mono hzw)
     have hbox1 := HBX.out.low hb1
     have hy1 := hb1.size
     clear hown hbel hb1 c0 c1 c2 c3 c4 HC
     have hlt1 := hown1.lt
     go_wp2_with (at_builtin; refine wpList_append_own _ rfl _ _ 26 rfl (w.heap.size + 1) 3 i0 (.int .i64 0) 1 8 ul_int_list hi hz0 hz1 hz2 rfl (by decide) _ _ _ rfl (hown1.alloc _) ⟨w1.heap.size, 0, none⟩ 1 1 [_] rfl rfl (cell_one_new _ _ _) (one_cell_int _) ?d1 ?d2 ?d3 ?_)
     case d1 => unfold maxLen; omega
     case d2 => omega
     case d3 => simp; omega
     intro v2 w2 hown2 hgrow2 _
     have hbel2 : Below w.heap.size w w2 := (hbel1.alloc (by omega) _).grown hgrow2 (by simp; omega) (fun k hk => by have := (hlt1 k hk).1; omega)
     have hbox2 : EBox w2 w.heap.size x (.slice (some ⟨b, off, none⟩) x.sub.length cap) := (hbox1.low (below_a1 _ _)).kept fun o u hc => by
      rw [World.cell?_of_block (w := w1.alloc (.cells #[.int .i64 (Y : Int)] 3)) (hgrow2.block w.heap.size (by simp; omega) (fun e => by have := (hlt1 _ e.symm).1; omega))]; exact hc
     obtain ⟨ad3, cap3, rfl, _⟩ := Sl.of_owns hown2
     rw [← HSn.out] at hown2
     clear hgrow2 hown1 hbel1 hlt1 hbox1
     go_wp2
     go_roundw
     case rel => exact ⟨k + 1, ad3, cap3, by omega, by go_num, rfl, hown2, hbel2, hbox2⟩
     case measure => simp [intOf]; omega
    ·obtain rfl : k = x.sub.length := by omega
     have HR : Hid (RSrt w x (.slice ad x.sub.length cap) (.slice adb x.sub.length capb) wr) := by
      rw [List.take_of_length_le (by rw [Ex.sorts_length]; exact Nat.le_refl _)] at hown
      exact ⟨hown, hbel, hbox⟩
     obtain ⟨_, _, _, _, q4⟩ := hbox
     clear hown hbel
     go_wp2
     go_meet
     exact HR.out
  case rest =>
   obtain ⟨hown, hbel, hbox⟩ := hcut
   obtain ⟨adv, capv, rfl, hcl, _, hsl⟩ := Sl.of_owns hown
   have hLl := Ex.sorts_length x.sub
   obtain ⟨c0, c1, c2, c3, _⟩ := hbox
   have hbx : w.heap.size < wc.heap.size := World.block_lt_of_cell? wc _ c0
   have HSL := Lib.hid hsl
   have hk := HK.out
   clear HK
   generalize Ex.sorts x.sub = L at *
   clear HS HI hb0 HX0 hown hsl hlen hlt0 hB
   have HRt := Lib.hid (fun W => refrat_any x.ra W hra)
   have HNa := Lib.hid (fun W => rname_any x.nm W (by omega))
   have HDa := Lib.hid (fun W => rday_any x.d W)
   have HY : Hid (leafOk 1 x.ra x.nm x.d x.sub.length → R = 1) := Lib.hid (fun h => by rw [HR.out, hk]; exact sortOf_leaf_yes rfl (by rw [hLl]; exact h))
   have HX : Hid (¬ leafOk 1 x.ra x.nm x.d x.sub.length → R = 0) := Lib.hid (fun h => by rw [HR.out, hk]; exact sortOf_leaf_no rfl (by rw [hLl]; exact h))
   rw [hk] at c0
   replace c0 : wc.cell? ⟨w.heap.size, 0, none⟩ = some (.int .u8 1) := c0
   clear HR HSL hk
   go_wp2_with (go_at_call 152; refine (HRt.out _).mono ?_; rintro e w1 ⟨rfl, hb1⟩; have d0 : w1.cell? ⟨w.heap.size, 0, none⟩ = some (.int .u8 1) := (by rw [hb1.cell (p := ⟨w.heap.size, 0, none⟩) hbx]; exact c0); have hb2 : Below w.heap.size w w1 := hbel.trans (hb1.mono hbel.size))
   all_goals
     go_ret
     first
      | exact ⟨by rw [HY.out (by clear HRt HNa HDa; simp_all [leafOk, emp_nil])]; rfl, by assumption⟩
      | exact ⟨by rw [HX.out (by clear HRt HNa HDa; simp_all [leafOk, emp_nil])]; rfl, by assumption⟩
set_option maxHeartbeats 4000000 in
set_option maxRecDepth 100000 in
theorem rs_leaf2 (x : Ex) (s : Value) (w : World) (hB : x.bulk ≤ 1100000) (hk : x.k = 2) (_hk8 : x.k < 256) (HI : Hid (∀ y, y ∈ x.sub → ∀ (s : Value) (W : World), y.k < 256 → RdE W y.sub s → Calls Tryz.prog 140 #[y.val s] W fun e w' => e = .returned (.int .i64 ((y.sort : Nat) : Int)) ∧ Below W.heap.size W w')) (hs : RdE w x.sub s) :
  Calls Tryz.prog 140 #[x.val s] w fun e w' => e = .returned (.int .i64 ((x.sort : Nat) : Int)) ∧ Below w.heap.size w w' := by
 obtain ⟨ad, cap, rfl⟩ := hs.len
 obtain ⟨i0, hi, hz0, hz1, hz2⟩ := info_parts info_int_1
 have HS := Lib.hid hs
 have hlen := Ex.bulks_len x.sub
 have hlt0 := x.sub_lt
 have hbq := x.bulk_eq
 have hn : x.sub.length ≤ 1100000 := by omega
 have hra : x.ra.size ≤ 1100000 := by omega
 have hnm : x.nm.size ≤ 1100000 := by omega
 have hb0 := below_a1 w (.cells #[.int .u8 x.k, .string x.ra, .string x.nm, .int .i64 x.d, .slice ad x.sub.length cap] 25)
 have HX0 := Lib.hid (EBox.new w x (.slice ad x.sub.length cap) 25)
 obtain ⟨B, HBB⟩ : ∃ B : Bool, Hid (B = (decide (x.ra.size = 0) && (decide (x.nm.size = 0) && decide (x.d = 0)))) := ⟨_, rfl⟩
 have HR : Hid (x.sort = sortOf x.k x.ra x.nm x.d (Ex.sorts x.sub)) := Lib.hid x.sort_eq
 generalize x.sort = R at HR ⊢
 have HK := Lib.hid hk
 clear hk
 clear hs hbq
 unfold Ex.val
 go_enter Tryz.func140, Tryz.ntmps140
 go_upto_region 1 with fail
 go_cut [3] from 7 to 19 (fun b wc => b = .bool B ∧ wc = w.alloc (.cells #[.int .u8 x.k, .string x.ra, .string x.nm, .int .i64 x.d, .slice ad x.sub.length cap] 25))
 case first =>
  go_wp2_with fail
  all_goals
   go_meet
   refine ⟨?_, rfl⟩
   rw [HBB.out]
   simp [*, emp_nil] <;> rfl
 case rest =>
  obtain ⟨rfl, rfl⟩ := hcut
  go_upto_block 0 with fail
  go_cut [4, 5] from 20 to 35 (fun v _ wc => RSrt w x (.slice ad x.sub.length cap) v wc)
  case first =>
   go_wp2_with fail
   go_loopw [4, 5] (fun v i wr => ∃ (k : Nat) (adb : Option Addr) (capb : Nat), k ≤ x.sub.length ∧ i = .int .i64 (k : Int) ∧ v = .slice adb k capb ∧ wr.ownsRow (w.heap.size + 1) 3 1 (.slice adb k capb) k (nums .i64 ((Ex.sorts x.sub).take k)) ∧ Below w.heap.size w wr ∧ EBox wr w.heap.size x (.slice ad x.sub.length cap)) (fun _ i _ => x.sub.length - (intOf i).toNat)
   case atStart => exact ⟨0, none, 0, Nat.zero_le _, rfl, rfl, World.ownsRow_nil _ _ _ _, hb0, HX0.out⟩
   case round =>
    clear hb0 HX0
    obtain ⟨k, adb, capb, hk, rfl, rfl, hown, hbel, hbox⟩ := hrel
    have HBX := Lib.hid hbox
    by_cases hlt : k < x.sub.length
    ·obtain ⟨y, hy⟩ : ∃ y, x.sub[k]? = some y := ⟨_, List.getElem?_eq_getElem hlt⟩
     obtain ⟨b, off, s', rfl, c0, c1, c2, c3, c4, hs', hy8⟩ := (HS.out.frame hbel).at hy
     obtain ⟨_, _, _, _, q4⟩ := hbox
     have hblk : b < wr.heap.size := World.block_lt_of_cell? wr _ c0
     have hbx : w.heap.size < wr.heap.size := World.block_lt_of_cell? wr _ q4
     have hzw := hbel.size
     have hk1 : (0 : Int) ≤ (k : Int) := by omega
     have hk2 : (k : Int) < (x.sub.length : Int) := by omega
     have HSn : Hid (nums .i64 ((Ex.sorts x.sub).take (k + 1)) = nums .i64 ((Ex.sorts x.sub).take k) ++ [.int .i64 ((y.sort : Nat) : Int)]) := Lib.hid (by
      rw [take_snoc_get (show (Ex.sorts x.sub)[k]? = some y.sort by rw [Ex.sorts_eq, List.getElem?_map, hy]; rfl), nums_snoc])
     have HC := Lib.hid (HI.out y (List.mem_of_getElem? hy) s' wr hy8 hs')
     unfold Ex.val at HC
     generalize y.sort = Y at HC HSn
     clear hy hs'
     go_wp2_with fail
     refine HC.out.mono ?_
     rintro e w1 ⟨rfl, hb1⟩
     have hown1 := ownsRow_below' hown hb1
     have hbel1 := hbel.trans (hb1.mono hzw)
     have hbox1 := HBX.out.low hb1
     have hy1 := hb1.size
     clear hown hbel hb1 c0 c1 c2 c3 c4 HC
     have hlt1 := hown1.lt
     go_wp2_with (at_builtin; refine wpList_append_own _ rfl _ _ 26 rfl (w.heap.size + 1) 3 i0 (.int .i64 0) 1 8 ul_int_list hi hz0 hz1 hz2 rfl (by decide) _ _ _ rfl (hown1.alloc _) ⟨w1.heap.size, 0, none⟩ 1 1 [_] rfl rfl (cell_one_new _ _ _) (one_cell_int _) ?d1 ?d2 ?d3 ?_)
     case d1 => unfold maxLen; omega
     case d2 => omega
     case d3 => simp; omega
     intro v2 w2 hown2 hgrow2 _
     have hbel2 : Below w.heap.size w w2 := (hbel1.alloc (by omega) _).grown hgrow2 (by simp; omega) (fun k hk => by have := (hlt1 k hk).1; omega)
     have hbox2 : EBox w2 w.heap.size x (.slice (some ⟨b, off, none⟩) x.sub.length cap) := (hbox1.low (below_a1 _ _)).kept fun o u hc => by
      rw [World.cell?_of_block (w := w1.alloc (.cells #[.int .i64 (Y : Int)] 3)) (hgrow2.block w.heap.size (by simp; omega) (fun e => by have := (hlt1 _ e.symm).1; omega))]; exact hc
     obtain ⟨ad3, cap3, rfl, _⟩ := Sl.of_owns hown2
     rw [← HSn.out] at hown2
     clear hgrow2 hown1 hbel1 hlt1 hbox1
     go_wp2
     go_roundw
     case rel => exact ⟨k + 1, ad3, cap3, by omega, by go_num, rfl, hown2, hbel2, hbox2⟩
     case measure => simp [intOf]; omega
    ·obtain rfl : k = x.sub.length := by omega
     have HR : Hid (RSrt w x (.slice ad x.sub.length cap) (.slice adb x.sub.length capb) wr) := by
      rw [List.take_of_length_le (by rw [Ex.sorts_length]; exact Nat.le_refl _)] at hown
      exact ⟨hown, hbel, hbox⟩
     obtain ⟨_, _, _, _, q4⟩ := hbox
     clear hown hbel
     go_wp2
     go_meet
     exact HR.out
  case rest =>
   obtain ⟨hown, hbel, hbox⟩ := hcut
   obtain ⟨adv, capv, rfl, hcl, _, hsl⟩ := Sl.of_owns hown
   have hLl := Ex.sorts_length x.sub
   obtain ⟨c0, c1, c2, c3, _⟩ := hbox
   have hbx : w.heap.size < wc.heap.size := World.block_lt_of_cell? wc _ c0
   have HSL := Lib.hid hsl
   have hk := HK.out
   clear HK
   generalize Ex.sorts x.sub = L at *
   clear HS HI hb0 HX0 hown hsl hlen hlt0 hB
   have HRt := Lib.hid (fun W => refrat_any x.ra W hra)
   have HNa := Lib.hid (fun W => rname_any x.nm W (by omega))
   have HDa := Lib.hid (fun W => rday_any x.d W)
   have HY : Hid (leafOk 2 x.ra x.nm x.d x.sub.length → R = 1) := Lib.hid (fun h => by rw [HR.out, hk]; exact sortOf_leaf_yes rfl (by rw [hLl]; exact h))
   have HX : Hid (¬ leafOk 2 x.ra x.nm x.d x.sub.length → R = 0) := Lib.hid (fun h => by rw [HR.out, hk]; exact sortOf_leaf_no rfl (by rw [hLl]; exact h))
   rw [hk] at c0
   replace c0 : wc.cell? ⟨w.heap.size, 0, none⟩ = some (.int .u8 2) := c0
   clear HR HSL hk
   cases hnm : isNm (bl x.nm) <;> cases hdy : isDay x.d <;> rw [hnm] at HNa <;> rw [hdy] at HDa
   all_goals
    go_wp2_with (first
     | (go_at_call 109; refine (HNa.out _).mono ?_; rintro e w1 ⟨rfl, rfl⟩)
     | (go_at_call 56; refine (HDa.out _).mono ?_; rintro e w1 ⟨rfl, rfl⟩))
   all_goals
     go_ret
     first
      | exact ⟨by rw [HY.out (by clear HRt HNa HDa; simp_all [leafOk, emp_nil])]; rfl, by assumption⟩
      | exact ⟨by rw [HX.out (by clear HRt HNa HDa; simp_all [leafOk, emp_nil])]; rfl, by assumption⟩
set_option maxHeartbeats 4000000 in
set_option maxRecDepth 100000 in
theorem rs_leaf3 (x : Ex) (s : Value) (w : World) (hB : x.bulk ≤ 1100000) (hk : x.k = 3) (_hk8 : x.k < 256) (HI : Hid (∀ y, y ∈ x.sub → ∀ (s : Value) (W : World), y.k < 256 → RdE W y.sub s → Calls Tryz.prog 140 #[y.val s] W fun e w' => e = .returned (.int .i64 ((y.sort : Nat) : Int)) ∧ Below W.heap.size W w')) (hs : RdE w x.sub s) :
  Calls Tryz.prog 140 #[x.val s] w fun e w' => e = .returned (.int .i64 ((x.sort : Nat) : Int)) ∧ Below w.heap.size w w' := by
 obtain ⟨ad, cap, rfl⟩ := hs.len
 obtain ⟨i0, hi, hz0, hz1, hz2⟩ := info_parts info_int_1
 have HS := Lib.hid hs
 have hlen := Ex.bulks_len x.sub
 have hlt0 := x.sub_lt
 have hbq := x.bulk_eq
 have hn : x.sub.length ≤ 1100000 := by omega
 have hra : x.ra.size ≤ 1100000 := by omega
 have hnm : x.nm.size ≤ 1100000 := by omega
 have hb0 := below_a1 w (.cells #[.int .u8 x.k, .string x.ra, .string x.nm, .int .i64 x.d, .slice ad x.sub.length cap] 25)
 have HX0 := Lib.hid (EBox.new w x (.slice ad x.sub.length cap) 25)
 obtain ⟨B, HBB⟩ : ∃ B : Bool, Hid (B = (decide (x.ra.size = 0) && (decide (x.nm.size = 0) && decide (x.d = 0)))) := ⟨_, rfl⟩
 have HR : Hid (x.sort = sortOf x.k x.ra x.nm x.d (Ex.sorts x.sub)) := Lib.hid x.sort_eq
 generalize x.sort = R at HR ⊢
 have HK := Lib.hid hk
 clear hk
 clear hs hbq
 unfold Ex.val
 go_enter Tryz.func140, Tryz.ntmps140
 go_upto_region 1 with fail
 go_cut [3] from 7 to 19 (fun b wc => b = .bool B ∧ wc = w.alloc (.cells #[.int .u8 x.k, .string x.ra, .string x.nm, .int .i64 x.d, .slice ad x.sub.length cap] 25))
 case first =>
  go_wp2_with fail
  all_goals
   go_meet
   refine ⟨?_, rfl⟩
   rw [HBB.out]
   simp [*, emp_nil] <;> rfl
 case rest =>
  obtain ⟨rfl, rfl⟩ := hcut
  go_upto_block 0 with fail
  go_cut [4, 5] from 20 to 35 (fun v _ wc => RSrt w x (.slice ad x.sub.length cap) v wc)
  case first =>
   go_wp2_with fail
   go_loopw [4, 5] (fun v i wr => ∃ (k : Nat) (adb : Option Addr) (capb : Nat), k ≤ x.sub.length ∧ i = .int .i64 (k : Int) ∧ v = .slice adb k capb ∧ wr.ownsRow (w.heap.size + 1) 3 1 (.slice adb k capb) k (nums .i64 ((Ex.sorts x.sub).take k)) ∧ Below w.heap.size w wr ∧ EBox wr w.heap.size x (.slice ad x.sub.length cap)) (fun _ i _ => x.sub.length - (intOf i).toNat)
   case atStart => exact ⟨0, none, 0, Nat.zero_le _, rfl, rfl, World.ownsRow_nil _ _ _ _, hb0, HX0.out⟩
   case round =>
    clear hb0 HX0
    obtain ⟨k, adb, capb, hk, rfl, rfl, hown, hbel, hbox⟩ := hrel
    have HBX := Lib.hid hbox
    by_cases hlt : k < x.sub.length
    ·obtain ⟨y, hy⟩ : ∃ y, x.sub[k]? = some y := ⟨_, List.getElem?_eq_getElem hlt⟩
     obtain ⟨b, off, s', rfl, c0, c1, c2, c3, c4, hs', hy8⟩ := (HS.out.frame hbel).at hy
     obtain ⟨_, _, _, _, q4⟩ := hbox
     have hblk : b < wr.heap.size := World.block_lt_of_cell? wr _ c0
     have hbx : w.heap.size < wr.heap.size := World.block_lt_of_cell? wr _ q4
     have hzw := hbel.size
     have hk1 : (0 : Int) ≤ (k : Int) := by omega
     have hk2 : (k : Int) < (x.sub.length : Int) := by omega
     have HSn : Hid (nums .i64 ((Ex.sorts x.sub).take (k + 1)) = nums .i64 ((Ex.sorts x.sub).take k) ++ [.int .i64 ((y.sort : Nat) : Int)]) := Lib.hid (by
      rw [take_snoc_get (show (Ex.sorts x.sub)[k]? = some y.sort by rw [Ex.sorts_eq, List.getElem?_map, hy]; rfl), nums_snoc])
     have HC := Lib.hid (HI.out y (List.mem_of_getElem? hy) s' wr hy8 hs')
     unfold Ex.val at HC
     generalize y.sort = Y at HC HSn
     clear hy hs'
     go_wp2_with fail
     refine HC.out.mono ?_
     rintro e w1 ⟨rfl, hb1⟩
     have hown1 := ownsRow_below' hown hb1
     have hbel1 := hbel.trans (hb1.mono hzw)
     have hbox1 := HBX.out.low hb1
     have hy1 := hb1.size
     clear hown hbel hb1 c0 c1 c2 c3 c4 HC
     have hlt1 := hown1.lt
     go_wp2_with (at_builtin; refine wpList_append_own _ rfl _ _ 26 rfl (w.heap.size + 1) 3 i0 (.int .i64 0) 1 8 ul_int_list hi hz0 hz1 hz2 rfl (by decide) _ _ _ rfl (hown1.alloc _) ⟨w1.heap.size, 0, none⟩ 1 1 [_] rfl rfl (cell_one_new _ _ _) (one_cell_int _) ?d1 ?d2 ?d3 ?_)
     case d1 => unfold maxLen; omega
     case d2 => omega
     case d3 => simp; omega
     intro v2 w2 hown2 hgrow2 _
     have hbel2 : Below w.heap.size w w2 := (hbel1.alloc (by omega) _).grown hgrow2 (by simp; omega) (fun k hk => by have := (hlt1 k hk).1; omega)
     have hbox2 : EBox w2 w.heap.size x (.slice (some ⟨b, off, none⟩) x.sub.length cap) := (hbox1.low (below_a1 _ _)).kept fun o u hc => by
      rw [World.cell?_of_block (w := w1.alloc (.cells #[.int .i64 (Y : Int)] 3)) (hgrow2.block w.heap.size (by simp; omega) (fun e => by have := (hlt1 _ e.symm).1; omega))]; exact hc
     obtain ⟨ad3, cap3, rfl, _⟩ := Sl.of_owns hown2
     rw [← HSn.out] at hown2
     clear hgrow2 hown1 hbel1 hlt1 hbox1
     go_wp2
     go_roundw
     case rel => exact ⟨k + 1, ad3, cap3, by omega, by go_num, rfl, hown2, hbel2, hbox2⟩
     case measure => simp [intOf]; omega
    ·obtain rfl : k = x.sub.length := by omega
     have HR : Hid (RSrt w x (.slice ad x.sub.length cap) (.slice adb x.sub.length capb) wr) := by
      rw [List.take_of_length_le (by rw [Ex.sorts_length]; exact Nat.le_refl _)] at hown
      exact ⟨hown, hbel, hbox⟩
     obtain ⟨_, _, _, _, q4⟩ := hbox
     clear hown hbel
     go_wp2
     go_meet
     exact HR.out
  case rest =>
   obtain ⟨hown, hbel, hbox⟩ := hcut
   obtain ⟨adv, capv, rfl, hcl, _, hsl⟩ := Sl.of_owns hown
   have hLl := Ex.sorts_length x.sub
   obtain ⟨c0, c1, c2, c3, _⟩ := hbox
   have hbx : w.heap.size < wc.heap.size := World.block_lt_of_cell? wc _ c0
   have HSL := Lib.hid hsl
   have hk := HK.out
   clear HK
   generalize Ex.sorts x.sub = L at *
   clear HS HI hb0 HX0 hown hsl hlen hlt0 hB
   have HRt := Lib.hid (fun W => refrat_any x.ra W hra)
   have HNa := Lib.hid (fun W => rname_any x.nm W (by omega))
   have HDa := Lib.hid (fun W => rday_any x.d W)
   have HY : Hid (leafOk 3 x.ra x.nm x.d x.sub.length → R = 1) := Lib.hid (fun h => by rw [HR.out, hk]; exact sortOf_leaf_yes rfl (by rw [hLl]; exact h))
   have HX : Hid (¬ leafOk 3 x.ra x.nm x.d x.sub.length → R = 0) := Lib.hid (fun h => by rw [HR.out, hk]; exact sortOf_leaf_no rfl (by rw [hLl]; exact h))
   rw [hk] at c0
   replace c0 : wc.cell? ⟨w.heap.size, 0, none⟩ = some (.int .u8 3) := c0
   clear HR HSL hk
   cases hnm : isNm (bl x.nm) <;> rw [hnm] at HNa
   all_goals
    go_wp2_with (go_at_call 109; refine (HNa.out _).mono ?_; rintro e w1 ⟨rfl, rfl⟩)
   all_goals
     go_ret
     first
      | exact ⟨by rw [HY.out (by clear HRt HNa HDa; simp_all [leafOk, emp_nil])]; rfl, by assumption⟩
      | exact ⟨by rw [HX.out (by clear HRt HNa HDa; simp_all [leafOk, emp_nil])]; rfl, by assumption⟩
end Go.Proofs.YtkonookacfmfgaaGreatDoor
