/-
  (*novationref15.Found).need: a need is put into its list, up to the limit. A Found box as a whole, and what need, choice, day and open make of it.
-/
import Derived.Test.YtkonookacfmfgaaGreatDoorC12
import Derived.Test.YtkonookacfmfgaaGreatDoorC13
import Derived.Deep.CutBlock
import Derived.Test.YtkonookacfmfgaaGreatDoorC07
import Derived.Test.YtkonookacfmfgaaGreatDoorC14
import Derived.Test.YtkonookacfmfgaaGreatDoorC15
namespace Go.Proofs.YtkonookacfmfgaaGreatDoor
open Go.RowKit
theorem RdNd.own_far {w : World} {base F j : Nat} {l : List NdP} {v u : Value} (h : w.ownsRow base 66 2 v l.length (l.flatMap ndCells)) (hF : F < base) : RdNd (w.setCell ⟨F, j, none⟩ u) l v := by
 have h2 := RdNd.own h
 obtain ⟨ad, cap, rfl, hc⟩ := h2
 refine ⟨ad, cap, rfl, fun k x hk => ?_⟩
 obtain ⟨b, off, rfl, h0, h1⟩ := hc k x hk
 have hb : base ≤ b := (h.lt b rfl).1
 refine ⟨b, off, rfl, ?_, ?_⟩
 ·rw [World.cell?_setCell_far _ _ _ _ (show F ≠ b by omega)]
  exact h0
 ·rw [World.cell?_setCell_far _ _ _ _ (show F ≠ b by omega)]
  exact h1
theorem own_q {w : World} {base : Nat} {e : TypeId} {size : Nat} {v : Value} {n : Nat} {xs : List Value} (h : w.ownsRow base e size v n xs) (q : Nat) (o : Obj) : ((w.drewN q).alloc o).ownsRow base e size v n xs :=
 World.ownsRow.alloc (show (w.drewN q).ownsRow base e size v n xs from h) o
set_option maxHeartbeats 8000000 in
set_option maxRecDepth 100000 in
theorem fneed_any (F : Nat) (vC vD b3 : Value) (D : List NdP) (xn : ByteArray) (xd : Int) (ad : Option Addr) (cap : Nat) (W : World) (hD : D.length ≤ 4000000000000)
  (hb : BoxN W F 76 [.slice ad D.length cap, vC, vD, b3]) (hr : RdNd W D (.slice ad D.length cap)) :
  Calls Tryz.prog 113 #[.pointer (some ⟨F, 0, none⟩), .agg #[.string xn, .int .i64 xd]] W fun e W' => e = .returned (.tuple #[]) ∧ W.grownBy W' (some F) ∧ ∃ ad' cap', BoxN W' F 76 [.slice ad' (insL ndLt 1000 D (xn, xd)).length cap', vC, vD, b3] ∧ RdNd W' (insL ndLt 1000 D (xn, xd)) (.slice ad' (insL ndLt 1000 D (xn, xd)).length cap') := by
 obtain ⟨i0, hi, hz0, hz1, hz2⟩ := info_parts info_nd
 obtain ⟨_, _, e0, hrd⟩ := hr
 cases e0
 obtain ⟨n, hln⟩ : ∃ n, D.length = n := ⟨_, rfl⟩
 have HR := Lib.hid hrd
 have HLn := Lib.hid hln
 have HB := Lib.hid hb
 have hF := hb.lt
 have c2 : W.cell? ⟨F, 0, none⟩ = some (.slice ad D.length cap) := hb.cell rfl
 rw [hln] at hD c2
 clear hrd hln hb
 go_enter Tryz.func113, Tryz.ntmps113
 by_cases hmany : 1000 < n
 ·have g0 : decide ((1000 : Int) < (n : Int)) = true := by rw [decide_eq_true_eq]; omega
  have HF : Hid (insL ndLt 1000 D (xn, xd) = D) := Lib.hid (by unfold insL; rw [if_pos (.inl (by rw [HLn.out]; exact hmany))])
  have hbx := below_a1 W (.cells #[.string xn, .int .i64 xd] 66)
  go_wp2
  refine bodyPost_ret (results_none rfl _ _ _) rfl ?_
  refine ⟨rfl, grown_below hbx F, ad, cap, ?_, ?_⟩
  ·rw [HF.out]; exact HB.out.below hbx hF
  ·rw [HF.out]; exact RdNd.low ⟨_, _, rfl, HR.out⟩ hbx
 ·have g0 : decide ((1000 : Int) < (n : Int)) = false := by rw [decide_eq_false_iff_not]; omega
  go_wp2_with fail
  go_loopw [4, 5, 6] (fun s dn i wr => ∃ (k M : Nat) (b : Bool) (ad2 : Option Addr) (cap2 : Nat), k ≤ n ∧ i = .int .i64 (k : Int) ∧ s = .slice ad2 M cap2 ∧ dn = .bool b ∧ M ≤ k + 1 ∧ Hid ((xn, xd) ∉ D.take k ∧ (insP ndLt (xn, xd) (D.take k)).2 = b ∧ M = (insP ndLt (xn, xd) (D.take k)).1.length) ∧
    wr.ownsRow (W.heap.size + 1) 66 2 (.slice ad2 M cap2) M ((insP ndLt (xn, xd) (D.take k)).1.flatMap ndCells) ∧ Below W.heap.size W wr ∧ BoxN wr W.heap.size 66 [.string xn, .int .i64 xd]) (fun _ _ i _ => n - (intOf i).toNat)
  case atStart => exact ⟨0, 0, false, none, 0, Nat.zero_le _, rfl, rfl, rfl, by omega, Lib.hid ⟨by simp, rfl, rfl⟩, World.ownsRow_nil _ _ _ _, below_a1 _ _, BoxN.new W [.string xn, .int .i64 xd] _⟩
  case round =>
   clear c2
   obtain ⟨k, M, b, ad2, cap2, hk, rfl, rfl, rfl, hM, HI, hown, hbel, hbx⟩ := hrel
   have c2 : wr.cell? ⟨F, 0, none⟩ = some (.slice ad n cap) := by
    rw [hbel.cell (p := ⟨F, 0, none⟩) hF, ← HLn.out]; exact HB.out.cell rfl
   have hsz := hbel.size
   have HBX := Lib.hid hbx
   have x0 : wr.cell? ⟨W.heap.size, 0, none⟩ = some (.string xn) := hbx.cell rfl
   have x1 : wr.cell? ⟨W.heap.size, 1, none⟩ = some (.int .i64 xd) := hbx.cell rfl
   have hxl := hbx.lt
   clear hbx
   by_cases hlt : k < n
   ·obtain ⟨⟨yn, yd⟩, hy⟩ : ∃ y, D[k]? = some y := ⟨_, List.getElem?_eq_getElem (by rw [HLn.out]; exact hlt)⟩
    obtain ⟨bb, off, rfl, y0, y1⟩ := HR.out k _ hy
    have hbW : bb < W.heap.size := World.block_lt_of_cell? W _ y0
    replace y0 := (hbel.cell hbW).trans y0
    replace y1 := (hbel.cell hbW).trans y1
    have hFl : F < wr.heap.size := by omega
    have hbl : bb < wr.heap.size := by omega
    have hk1 : (0 : Int) ≤ (k : Int) := by omega
    have hk2 : (k : Int) < (n : Int) := by omega
    have HP := Lib.hid (insP_take ndLt (xn, xd) hy)
    have HY := Lib.hid hy
    clear hy
    have HP2 := Lib.hid HI.out.2.1
    have hq : ∀ W, (Op.equalIn 10000 66 (.agg #[.string yn, .int .i64 yd]) (.agg #[.string xn, .int .i64 xd])).run Tryz.prog W = .ok (decide (((yn, yd) : NdP) = (xn, xd))) W := fun W => eqv_nd yn xn yd xd W
    by_cases hxy : ((yn, yd) : NdP) = (xn, xd)
    ·rw [decide_eq_true hxy] at hq
     have HF : Hid (insL ndLt 1000 D (xn, xd) = D) := Lib.hid (by unfold insL; rw [if_pos (.inr (eqB_true (hxy ▸ List.mem_of_getElem? HY.out)))])
     clear hxy
     go_wp2_with fail
     go_quiet (fail)
     go_wp2
     refine bodyPost_ret (results_none rfl _ _ _) rfl ?_
     have hbq := below_drewN hbel nq
     refine ⟨rfl, grown_below hbq F, some ⟨bb, off, none⟩, cap, ?_, ?_⟩
     ·rw [HF.out]; exact HB.out.below hbq hF
     ·rw [HF.out]; exact RdNd.low ⟨_, _, rfl, HR.out⟩ hbq
    ·rw [decide_eq_false hxy] at hq
     have HM : Hid ((xn, xd) ∉ D.take (k + 1)) := Lib.hid (by
      rw [take_snoc_get HY.out, List.mem_append, List.mem_singleton]
      rintro (h | h)
      ·exact HI.out.1 h
      ·exact hxy h.symm)
     clear hxy
     cases b with
     | true =>
      have HS : Hid (insP ndLt (xn, xd) (D.take (k + 1)) = ((insP ndLt (xn, xd) (D.take k)).1 ++ [(yn, yd)], true)) := Lib.hid (by rw [HP.out, insF, if_neg (by rw [HP2.out]; simp), HP2.out])
      go_wp2_with fail
      go_quiet (fail)
      go_wp2_with fail
      go_quiet (fail)
      have hsW : W.heap.size + 1 ≤ wr.heap.size := hxl
      have hlt1 := hown.lt
      go_wp2_with (at_builtin; refine wpList_append_at _ rfl _ _ 32 rfl (W.heap.size + 1) 66 i0 (.agg #[.string ⟨#[]⟩, .int .i64 0]) 2 24 ul_nds hi hz0 hz1 hz2 rfl (by decide) _ _ _ rfl (own_q hown _ _) ⟨wr.heap.size, 0, none⟩ 1 1 [.string yn, .int .i64 yd] rfl rfl (cell_two_at _ _ _ _) (nd_oneCells (yn, yd)) ?d1 ?d2 ?d3 ?_)
      case d1 => unfold maxLen; omega
      case d2 => omega
      case d3 => simp; omega
      intro vw2 w2 hown2 hgrow _
      have hB2 : Below (W.heap.size + 1) wr w2 := ((below_drewN (Below.refl (W.heap.size + 1) wr) _).alloc (by simp; omega) _).grown hgrow (by simp; omega) (fun k hk => (hlt1 k hk).1)
      have hbel2 : Below W.heap.size W w2 := hbel.trans (hB2.mono (Nat.le_succ _))
      obtain ⟨adw2, capw2, rfl, _⟩ := Sl.of_owns hown2
      have hsz2 := hbel2.size
      have hS2 : W.heap.size + 1 ≤ w2.heap.size := by have := hB2.size; omega
      clear hgrow hlt1
      have HN : Hid ((xn, xd) ∉ D.take (k + 1) ∧ (insP ndLt (xn, xd) (D.take (k + 1))).2 = true ∧ M + 1 = (insP ndLt (xn, xd) (D.take (k + 1))).1.length) := Lib.hid ⟨HM.out, by rw [HS.out], by rw [HS.out, List.length_append, ← HI.out.2.2]; rfl⟩
      have hown3 : w2.ownsRow (W.heap.size + 1) 66 2 (.slice adw2 (M + 1) capw2) (M + 1) ((insP ndLt (xn, xd) (D.take (k + 1))).1.flatMap ndCells) := by
       rw [HS.out, List.flatMap_append]; simpa [ndCells] using hown2
      have hbx2 := HBX.out.below hB2 (Nat.lt_succ_self _)
      clear hown2 hown hbel hB2
      go_wp2
      go_roundw
      case rel => exact ⟨k + 1, M + 1, true, adw2, capw2, by omega, by go_num, rfl, rfl, by omega, HN, hown3, hbel2, hbx2⟩
      case measure => simp [intOf]; omega
     | false =>
      obtain ⟨r, hr⟩ : ∃ r, ndLt (xn, xd) (yn, yd) = r := ⟨_, rfl⟩
      have HL : Hid (∀ V : World, Calls Tryz.prog 141 #[.agg #[.string xn, .int .i64 xd], .agg #[.string yn, .int .i64 yd]] V fun e w' => e = .returned (.bool r) ∧ Below V.heap.size V w') := Lib.hid fun V => hr ▸ rless_any xn yn xd yd V
      have HR2 := Lib.hid hr
      clear hr
      go_wp2_with fail
      go_quiet (fail)
      go_wp2_with fail
      refine wp_region_inv (fun L a w' => ∃ v0 v1 v2 v3 v4 v5 v6 v7 v8 v9 v10 v11 v12, a = ⟨#[.pointer (some ⟨F, 0, none⟩), .agg #[.string xn, .int .i64 xd], undef, .pointer (some ⟨W.heap.size, 0, none⟩), .slice ad2 M cap2, .bool false, .int .i64 (k : Int), .pointer (some ⟨F, 0, none⟩), .pointer (some ⟨F, 0, none⟩), .pointer (some ⟨F, 0, none⟩), .slice (some ⟨bb, off, none⟩) n cap, .int .i64 (n : Int), .bool false, .int .i64 (k : Int), .pointer (some ⟨F, 0, none⟩), .pointer (some ⟨F, 0, none⟩), .pointer (some ⟨F, 0, none⟩), .slice (some ⟨bb, off, none⟩) n cap, .int .i64 (n : Int), .bool true, u20, u21, .pointer (some ⟨F, 0, none⟩), .pointer (some ⟨F, 0, none⟩), .pointer (some ⟨F, 0, none⟩), .slice (some ⟨bb, off, none⟩) n cap, .int .i64 (k : Int), .pointer (some ⟨bb, off + k * 2, none⟩), .agg #[.string yn, .int .i64 yd], .agg #[.string xn, .int .i64 xd], .bool false, v0, v1, v2, v3, v4, v5, v6, v7, v8, v9, v10, v11, v12, u44, u45, u46, u47, u48, u49, u50, u51, u52, u53, u54, u55, u56, u57, undef, undef, undef, undef, undef, undef, undef, undef, undef, undef], []⟩ ∧ VInv wr [.bool false, .bool true, .bool true, .agg #[.string xn, .int .i64 xd], .pointer (some ⟨F, 0, none⟩), .pointer (some ⟨F, 0, none⟩), .pointer (some ⟨F, 0, none⟩), .slice (some ⟨bb, off, none⟩) n cap, .int .i64 (k : Int), .pointer (some ⟨bb, off + k * 2, none⟩), .agg #[.string yn, .int .i64 yd], .bool r, .bool r] [v0, v1, v2, v3, v4, v5, v6, v7, v8, v9, v10, v11, v12] L w') (by kernel_rfl) (by kernel_rfl) ?_ ?_ ?_
      ·exact ⟨_, _, _, _, _, _, _, _, _, _, _, _, _, rfl, VInv.start (below_drewN (Below.refl _ _) (nq + 1)) rfl⟩
      ·rintro L a w' ⟨v0, v1, v2, v3, v4, v5, v6, v7, v8, v9, v10, v11, v12, rfl, h⟩ i o ho hL hp
       have hi9 : i < 13 := by simpa using (Array.getElem?_eq_some_iff.1 ho).1
       have hi2 : i = 0 ∨ i = 1 ∨ i = 2 ∨ i = 3 ∨ i = 4 ∨ i = 5 ∨ i = 6 ∨ i = 7 ∨ i = 8 ∨ i = 9 ∨ i = 10 ∨ i = 11 ∨ i = 12 := by omega
       clear hi9
       rcases hi2 with rfl | rfl | rfl | rfl | rfl | rfl | rfl | rfl | rfl | rfl | rfl | rfl | rfl
       ·refine wpOp_step rfl ?_
        intro K hK
        go_simp
        exact hK _ _ ⟨_, _, _, _, _, _, _, _, _, _, _, _, _, rfl, h.step (i := 0) (v := .bool false) rfl⟩
       ·refine wpOp_step rfl ?_
        intro K hK
        obtain rfl := h.at (i := 0) (pred_spec ho hp (j := 0) (by kernel_rfl)) rfl rfl
        go_simp
        exact hK _ _ ⟨_, _, _, _, _, _, _, _, _, _, _, _, _, rfl, h.step (i := 1) (v := .bool true) rfl⟩
       ·refine wpOp_step rfl ?_
        intro K hK
        obtain rfl := h.at (i := 1) (pred_spec ho hp (j := 1) (by kernel_rfl)) rfl rfl
        go_simp
        exact hK _ _ ⟨_, _, _, _, _, _, _, _, _, _, _, _, _, rfl, h.step (i := 2) (v := .bool true) rfl⟩
       ·refine wpOp_step rfl ?_
        intro K hK
        obtain rfl := h.at (i := 2) (pred_spec ho hp (j := 2) (by kernel_rfl)) rfl rfl
        have x0' := (h.b.cell hxl).trans x0
        have x1' := (h.b.cell hxl).trans x1
        go_simp
        exact hK _ _ ⟨_, _, _, _, _, _, _, _, _, _, _, _, _, rfl, h.step (i := 3) (v := .agg #[.string xn, .int .i64 xd]) rfl⟩
       ·refine wpOp_step rfl ?_
        intro K hK
        obtain rfl := h.at (i := 2) (pred_spec ho hp (j := 2) (by kernel_rfl)) rfl rfl
        go_simp
        exact hK _ _ ⟨_, _, _, _, _, _, _, _, _, _, _, _, _, rfl, h.step (i := 4) (v := .pointer (some ⟨F, 0, none⟩)) rfl⟩
       ·refine wpOp_step rfl ?_
        intro K hK
        obtain rfl := h.at (i := 2) (pred_spec ho hp (j := 2) (by kernel_rfl)) rfl rfl
        obtain rfl := h.at (i := 4) (pred_spec ho hp (j := 4) (by kernel_rfl)) rfl rfl
        go_simp
        exact hK _ _ ⟨_, _, _, _, _, _, _, _, _, _, _, _, _, rfl, h.step (i := 5) (v := .pointer (some ⟨F, 0, none⟩)) rfl⟩
       ·refine wpOp_step rfl ?_
        intro K hK
        obtain rfl := h.at (i := 2) (pred_spec ho hp (j := 2) (by kernel_rfl)) rfl rfl
        obtain rfl := h.at (i := 5) (pred_spec ho hp (j := 5) (by kernel_rfl)) rfl rfl
        go_simp
        exact hK _ _ ⟨_, _, _, _, _, _, _, _, _, _, _, _, _, rfl, h.step (i := 6) (v := .pointer (some ⟨F, 0, none⟩)) rfl⟩
       ·refine wpOp_step rfl ?_
        intro K hK
        obtain rfl := h.at (i := 2) (pred_spec ho hp (j := 2) (by kernel_rfl)) rfl rfl
        obtain rfl := h.at (i := 6) (pred_spec ho hp (j := 6) (by kernel_rfl)) rfl rfl
        have c2' := (h.b.cell (p := ⟨F, 0, none⟩) hFl).trans c2
        go_simp
        exact hK _ _ ⟨_, _, _, _, _, _, _, _, _, _, _, _, _, rfl, h.step (i := 7) (v := .slice (some ⟨bb, off, none⟩) n cap) rfl⟩
       ·refine wpOp_step rfl ?_
        intro K hK
        obtain rfl := h.at (i := 2) (pred_spec ho hp (j := 2) (by kernel_rfl)) rfl rfl
        go_simp
        exact hK _ _ ⟨_, _, _, _, _, _, _, _, _, _, _, _, _, rfl, h.step (i := 8) (v := .int .i64 (k : Int)) rfl⟩
       ·refine wpOp_step rfl ?_
        intro K hK
        obtain rfl := h.at (i := 2) (pred_spec ho hp (j := 2) (by kernel_rfl)) rfl rfl
        obtain rfl := h.at (i := 7) (pred_spec ho hp (j := 7) (by kernel_rfl)) rfl rfl
        obtain rfl := h.at (i := 8) (pred_spec ho hp (j := 8) (by kernel_rfl)) rfl rfl
        go_simp
        exact hK _ _ ⟨_, _, _, _, _, _, _, _, _, _, _, _, _, rfl, h.step (i := 9) (v := .pointer (some ⟨bb, off + k * 2, none⟩)) rfl⟩
       ·refine wpOp_step rfl ?_
        intro K hK
        obtain rfl := h.at (i := 2) (pred_spec ho hp (j := 2) (by kernel_rfl)) rfl rfl
        obtain rfl := h.at (i := 9) (pred_spec ho hp (j := 9) (by kernel_rfl)) rfl rfl
        have y0' := (h.b.cell (p := ⟨bb, off + k * 2, none⟩) hbl).trans y0
        have y1' := (h.b.cell (p := ⟨bb, off + k * 2 + 1, none⟩) hbl).trans y1
        go_simp
        exact hK _ _ ⟨_, _, _, _, _, _, _, _, _, _, _, _, _, rfl, h.step (i := 10) (v := .agg #[.string yn, .int .i64 yd]) rfl⟩
       ·refine wpOp_step rfl ?_
        intro K hK
        obtain rfl := h.at (i := 2) (pred_spec ho hp (j := 2) (by kernel_rfl)) rfl rfl
        obtain rfl := h.at (i := 3) (pred_spec ho hp (j := 3) (by kernel_rfl)) rfl rfl
        obtain rfl := h.at (i := 10) (pred_spec ho hp (j := 10) (by kernel_rfl)) rfl rfl
        go_simp
        refine (HL.out _).mono ?_
        rintro e w4 ⟨rfl, hb4⟩
        exact hK _ _ ⟨_, _, _, _, _, _, _, _, _, _, _, _, _, rfl, (h.ext hb4).step (i := 11) (v := .bool r) rfl⟩
       ·refine wpOp_step rfl ?_
        intro K hK
        obtain rfl := h.at (i := 2) (pred_spec ho hp (j := 2) (by kernel_rfl)) rfl rfl
        obtain rfl := h.at (i := 11) (pred_spec ho hp (j := 11) (by kernel_rfl)) rfl rfl
        go_simp
        exact hK _ _ ⟨_, _, _, _, _, _, _, _, _, _, _, _, _, rfl, h.step (i := 12) (v := .bool r) rfl⟩
      ·rintro L a w4 ⟨v0, v1, v2, v3, v4, v5, v6, v7, v8, v9, v10, v11, v12, rfl, h⟩ hall
       obtain rfl := h.at (i := 0) (hall 0 (by decide)) rfl rfl
       obtain rfl := h.at (i := 1) (hall 1 (by decide)) rfl rfl
       obtain rfl := h.at (i := 2) (hall 2 (by decide)) rfl rfl
       obtain rfl := h.at (i := 3) (hall 3 (by decide)) rfl rfl
       obtain rfl := h.at (i := 4) (hall 4 (by decide)) rfl rfl
       obtain rfl := h.at (i := 5) (hall 5 (by decide)) rfl rfl
       obtain rfl := h.at (i := 6) (hall 6 (by decide)) rfl rfl
       obtain rfl := h.at (i := 7) (hall 7 (by decide)) rfl rfl
       obtain rfl := h.at (i := 8) (hall 8 (by decide)) rfl rfl
       obtain rfl := h.at (i := 9) (hall 9 (by decide)) rfl rfl
       obtain rfl := h.at (i := 10) (hall 10 (by decide)) rfl rfl
       obtain rfl := h.at (i := 11) (hall 11 (by decide)) rfl rfl
       obtain rfl := h.at (i := 12) (hall 12 (by decide)) rfl rfl
       have hb4 := h.b
       have hbel4 : Below W.heap.size W w4 := hbel.trans (hb4.mono hsz)
       have hown4 := ownsRow_below' hown hb4
       have HX4 := Lib.hid (HBX.out.below hb4 hxl)
       have x0' := (hb4.cell hxl).trans x0
       have x1' := (hb4.cell hxl).trans x1
       have c2' := (hb4.cell (p := ⟨F, 0, none⟩) hFl).trans c2
       have y0' := (hb4.cell (p := ⟨bb, off + k * 2, none⟩) hbl).trans y0
       have y1' := (hb4.cell (p := ⟨bb, off + k * 2 + 1, none⟩) hbl).trans y1
       have hs4 := hb4.size
       have hsW : W.heap.size + 1 ≤ w4.heap.size := by have := hxl; omega
       clear h hall hown hbel x0 x1 c2 y0 y1
       cases r with
       | true =>
        have HS : Hid (insP ndLt (xn, xd) (D.take (k + 1)) = ((insP ndLt (xn, xd) (D.take k)).1 ++ [(xn, xd), (yn, yd)], true)) := Lib.hid (by rw [HP.out, insF, if_pos ⟨HP2.out, HR2.out⟩])
        have hlt1 := hown4.lt
        go_wp2_with (at_builtin; refine wpList_append_at _ rfl _ _ 32 rfl (W.heap.size + 1) 66 i0 (.agg #[.string ⟨#[]⟩, .int .i64 0]) 2 24 ul_nds hi hz0 hz1 hz2 rfl (by decide) _ _ _ rfl (hown4.alloc _) ⟨w4.heap.size, 0, none⟩ 1 1 [.string xn, .int .i64 xd] rfl rfl (cell_two_at _ _ _ _) (nd_oneCells (xn, xd)) ?d1 ?d2 ?d3 ?_)
        case d1 => unfold maxLen; omega
        case d2 => omega
        case d3 => simp; omega
        intro vw2 w2 hown2 hgrow _
        have hB2 : Below (W.heap.size + 1) w4 w2 := ((Below.refl (W.heap.size + 1) w4).alloc (by omega) _).grown hgrow (by simp; omega) (fun k hk => (hlt1 k hk).1)
        have hbel2 : Below W.heap.size W w2 := hbel4.trans (hB2.mono (Nat.le_succ _))
        obtain ⟨adw2, capw2, rfl, _⟩ := Sl.of_owns hown2
        have hsz2 := hbel2.size
        have hS2 : W.heap.size + 1 ≤ w2.heap.size := by have := hB2.size; omega
        clear hgrow hlt1
        have HMk : M ≤ k := by have h1 := insP_len ndLt (xn, xd) (D.take k); rw [HP2.out, ← HI.out.2.2] at h1; simp at h1; omega
        replace c2' := (hB2.cell (p := ⟨F, 0, none⟩) (by show F < _; omega)).trans c2'
        replace y0' := (hB2.cell (p := ⟨bb, off + k * 2, none⟩) (by show bb < _; omega)).trans y0'
        replace y1' := (hB2.cell (p := ⟨bb, off + k * 2 + 1, none⟩) (by show bb < _; omega)).trans y1'
        have HX5 := Lib.hid (HX4.out.below hB2 (Nat.lt_succ_self _))
        clear hown4 hbel4 hB2 x0' x1'
        have hlt1 := hown2.lt
        go_wp2_with (at_builtin; refine wpList_append_at _ rfl _ _ 32 rfl (W.heap.size + 1) 66 i0 (.agg #[.string ⟨#[]⟩, .int .i64 0]) 2 24 ul_nds hi hz0 hz1 hz2 rfl (by decide) _ _ _ rfl (hown2.alloc _) ⟨w2.heap.size, 0, none⟩ 1 1 [.string yn, .int .i64 yd] rfl rfl (cell_two_at _ _ _ _) (nd_oneCells (yn, yd)) ?d1 ?d2 ?d3 ?_)
        case d1 => unfold maxLen; omega
        case d2 => omega
        case d3 => simp; omega
        intro vw3 w3 hown3 hgrow _
        have hB3 : Below (W.heap.size + 1) w2 w3 := ((Below.refl (W.heap.size + 1) w2).alloc (by omega) _).grown hgrow (by simp; omega) (fun k hk => (hlt1 k hk).1)
        have hbel3 : Below W.heap.size W w3 := hbel2.trans (hB3.mono (Nat.le_succ _))
        obtain ⟨adw3, capw3, rfl, _⟩ := Sl.of_owns hown3
        have hsz3 := hbel3.size
        have hS3 : W.heap.size + 1 ≤ w3.heap.size := by have := hB3.size; omega
        clear hgrow hlt1
        have HN : Hid ((xn, xd) ∉ D.take (k + 1) ∧ (insP ndLt (xn, xd) (D.take (k + 1))).2 = true ∧ M + 1 + 1 = (insP ndLt (xn, xd) (D.take (k + 1))).1.length) := Lib.hid ⟨HM.out, by rw [HS.out], by rw [HS.out, List.length_append, ← HI.out.2.2]; rfl⟩
        have hown5 : w3.ownsRow (W.heap.size + 1) 66 2 (.slice adw3 (M + 1 + 1) capw3) (M + 1 + 1) ((insP ndLt (xn, xd) (D.take (k + 1))).1.flatMap ndCells) := by
         rw [HS.out, List.flatMap_append]; simpa [ndCells] using hown3
        have hbx3 := HX5.out.below hB3 (Nat.lt_succ_self _)
        clear hown2 hown3 hbel2 hB3
        go_wp2
        go_roundw
        case rel => exact ⟨k + 1, M + 1 + 1, true, adw3, capw3, by omega, by go_num, rfl, rfl, by omega, HN, hown5, hbel3, hbx3⟩
        case measure => simp [intOf]; omega
       | false =>
        have HS : Hid (insP ndLt (xn, xd) (D.take (k + 1)) = ((insP ndLt (xn, xd) (D.take k)).1 ++ [(yn, yd)], false)) := Lib.hid (by rw [HP.out, insF, if_neg (by rw [HR2.out]; simp), HP2.out])
        have hlt1 := hown4.lt
        go_wp2_with (at_builtin; refine wpList_append_at _ rfl _ _ 32 rfl (W.heap.size + 1) 66 i0 (.agg #[.string ⟨#[]⟩, .int .i64 0]) 2 24 ul_nds hi hz0 hz1 hz2 rfl (by decide) _ _ _ rfl (hown4.alloc _) ⟨w4.heap.size, 0, none⟩ 1 1 [.string yn, .int .i64 yd] rfl rfl (cell_two_at _ _ _ _) (nd_oneCells (yn, yd)) ?d1 ?d2 ?d3 ?_)
        case d1 => unfold maxLen; omega
        case d2 => omega
        case d3 => simp; omega
        intro vw2 w2 hown2 hgrow _
        have hB2 : Below (W.heap.size + 1) w4 w2 := ((Below.refl (W.heap.size + 1) w4).alloc (by omega) _).grown hgrow (by simp; omega) (fun k hk => (hlt1 k hk).1)
        have hbel2 : Below W.heap.size W w2 := hbel4.trans (hB2.mono (Nat.le_succ _))
        obtain ⟨adw2, capw2, rfl, _⟩ := Sl.of_owns hown2
        have hsz2 := hbel2.size
        have hS2 : W.heap.size + 1 ≤ w2.heap.size := by have := hB2.size; omega
        clear hgrow hlt1
        have HN : Hid ((xn, xd) ∉ D.take (k + 1) ∧ (insP ndLt (xn, xd) (D.take (k + 1))).2 = false ∧ M + 1 = (insP ndLt (xn, xd) (D.take (k + 1))).1.length) := Lib.hid ⟨HM.out, by rw [HS.out], by rw [HS.out, List.length_append, ← HI.out.2.2]; rfl⟩
        have hown5 : w2.ownsRow (W.heap.size + 1) 66 2 (.slice adw2 (M + 1) capw2) (M + 1) ((insP ndLt (xn, xd) (D.take (k + 1))).1.flatMap ndCells) := by
         rw [HS.out, List.flatMap_append]; simpa [ndCells] using hown2
        have hbx2 := HX4.out.below hB2 (Nat.lt_succ_self _)
        clear hown2 hown4 hbel4 hB2
        go_wp2
        go_roundw
        case rel => exact ⟨k + 1, M + 1, false, adw2, capw2, by omega, by go_num, rfl, rfl, by omega, HN, hown5, hbel2, hbx2⟩
        case measure => simp [intOf]; omega
   ·obtain rfl : k = n := by omega
    have HT : Hid (D.take k = D) := Lib.hid (List.take_of_length_le (by rw [HLn.out]; exact Nat.le_refl _))
    rw [HT.out] at HI hown
    have hFl : F < wr.heap.size := by omega
    have hsW : W.heap.size + 1 ≤ wr.heap.size := hxl
    have HD : Hid (insL ndLt 1000 D (xn, xd) = insD ndLt (xn, xd) D) := Lib.hid (by unfold insL; rw [if_neg (by rw [HLn.out]; exact fun h => h.elim hmany fun h => HI.out.1 (eqB_iff.1 h))])
    have hbx := HB.out.below hbel hF
    have z2 := hbx.frozen 0
    clear hlt hk
    cases b with
    | true =>
     have HS : Hid (insD ndLt (xn, xd) D = (insP ndLt (xn, xd) D).1) := Lib.hid (by unfold insD; rw [if_pos HI.out.2.1])
     have HW : Hid (W.grownBy (wr.setCell ⟨F, 0, none⟩ (.slice ad2 M cap2)) (some F) ∧ ∃ ad' cap', BoxN (wr.setCell ⟨F, 0, none⟩ (.slice ad2 M cap2)) F 76 [.slice ad' (insL ndLt 1000 D (xn, xd)).length cap', vC, vD, b3] ∧ RdNd (wr.setCell ⟨F, 0, none⟩ (.slice ad2 M cap2)) (insL ndLt 1000 D (xn, xd)) (.slice ad' (insL ndLt 1000 D (xn, xd)).length cap')) := Lib.hid (by
      refine ⟨grown_set hbel, ad2, cap2, ?_, ?_⟩
      ·rw [HD.out, HS.out, ← HI.out.2.2]; exact hbx.set 0 _
      ·rw [HD.out, HS.out, ← HI.out.2.2]
       have h2 := hown
       rw [HI.out.2.2] at h2
       have h3 := RdNd.own_far (F := F) (j := 0) (u := .slice ad2 M cap2) h2 (by omega)
       rw [← HI.out.2.2] at h3
       exact h3)
     clear hown hbel hbx
     go_wp2
     go_end0
     exact ⟨rfl, HW.out.1, HW.out.2⟩
    | false =>
     have HS : Hid (insD ndLt (xn, xd) D = (insP ndLt (xn, xd) D).1 ++ [(xn, xd)]) := Lib.hid (by unfold insD; rw [if_neg (by rw [HI.out.2.1]; simp)])
     have hlt1 := hown.lt
     go_wp2_with (at_builtin; refine wpList_append_at _ rfl _ _ 32 rfl (W.heap.size + 1) 66 i0 (.agg #[.string ⟨#[]⟩, .int .i64 0]) 2 24 ul_nds hi hz0 hz1 hz2 rfl (by decide) _ _ _ rfl (hown.alloc _) ⟨wr.heap.size, 0, none⟩ 1 1 [.string xn, .int .i64 xd] rfl rfl (cell_two_at _ _ _ _) (nd_oneCells (xn, xd)) ?d1 ?d2 ?d3 ?_)
     case d1 => unfold maxLen; omega
     case d2 => omega
     case d3 => simp; omega
     intro vw2 w2 hown2 hgrow _
     have hB2 : Below (W.heap.size + 1) wr w2 := ((Below.refl (W.heap.size + 1) wr).alloc (by omega) _).grown hgrow (by simp; omega) (fun k hk => (hlt1 k hk).1)
     have hbel2 : Below W.heap.size W w2 := hbel.trans (hB2.mono (Nat.le_succ _))
     obtain ⟨adw2, capw2, rfl, _⟩ := Sl.of_owns hown2
     have hsz2 := hbel2.size
     have hS2 : W.heap.size + 1 ≤ w2.heap.size := by have := hB2.size; omega
     clear hgrow hlt1
     have hbx2 := HB.out.below hbel2 hF
     have z3 := hbx2.frozen 0
     have c3 : w2.cell? ⟨F, 0, none⟩ = some _ := hbx2.cell rfl
     have HW : Hid (W.grownBy (w2.setCell ⟨F, 0, none⟩ (.slice adw2 (M + 1) capw2)) (some F) ∧ ∃ ad' cap', BoxN (w2.setCell ⟨F, 0, none⟩ (.slice adw2 (M + 1) capw2)) F 76 [.slice ad' (insL ndLt 1000 D (xn, xd)).length cap', vC, vD, b3] ∧ RdNd (w2.setCell ⟨F, 0, none⟩ (.slice adw2 (M + 1) capw2)) (insL ndLt 1000 D (xn, xd)) (.slice ad' (insL ndLt 1000 D (xn, xd)).length cap')) := Lib.hid (by
      have hl : (insD ndLt (xn, xd) D).length = M + 1 := by rw [HS.out, List.length_append, ← HI.out.2.2]; rfl
      refine ⟨grown_set hbel2, adw2, capw2, ?_, ?_⟩
      ·rw [HD.out, hl]; exact hbx2.set 0 _
      ·rw [HD.out, hl]
       have h2 : w2.ownsRow (W.heap.size + 1) 66 2 (.slice adw2 (M + 1) capw2) (insD ndLt (xn, xd) D).length ((insD ndLt (xn, xd) D).flatMap ndCells) := by
        rw [hl, HS.out, List.flatMap_append]; simpa [ndCells] using hown2
       have h3 := RdNd.own_far (F := F) (j := 0) (u := .slice adw2 (M + 1) capw2) h2 (by omega)
       exact h3)
     clear hown hown2 hbel hbel2 hbx hbx2
     go_wp2
     go_end0
     exact ⟨rfl, HW.out.1, HW.out.2⟩
end Go.Proofs.YtkonookacfmfgaaGreatDoor

namespace Go.Proofs.YtkonookacfmfgaaGreatDoor
open Go.RowKit
def FSt (W : World) (F : Nat) (N : List NdP) (C : List ChP) (D : List Int) (late : Bool) : Prop :=
 ∃ a1 c1 a2 c2 a3 c3, BoxN W F 76 [.slice a1 N.length c1, .slice a2 C.length c2, .slice a3 D.length c3, .bool late] ∧ RdNd W N (.slice a1 N.length c1) ∧ RdCx W C (.slice a2 C.length c2) ∧ RdDy W D (.slice a3 D.length c3)
theorem FSt.low {W W' : World} {F : Nat} {N : List NdP} {C : List ChP} {D : List Int} {late : Bool} (h : FSt W F N C D late) (hb : Below W.heap.size W W') : FSt W' F N C D late := by
 obtain ⟨a1, c1, a2, c2, a3, c3, h0, h1, h2, h3⟩ := h
 exact ⟨a1, c1, a2, c2, a3, c3, h0.below hb h0.lt, h1.low hb, h2.low hb, h3.low hb⟩
theorem FSt.lt {W : World} {F : Nat} {N : List NdP} {C : List ChP} {D : List Int} {late : Bool} (h : FSt W F N C D late) : F < W.heap.size := by
 obtain ⟨_, _, _, _, _, _, h0, _⟩ := h; exact h0.lt
theorem found_nostr (a1 a2 a3 : Option Addr) (n1 n2 n3 c1 c2 c3 : Nat) (late : Bool) : ∀ s : ByteArray, Value.string s ∉ [Value.slice a1 n1 c1, .slice a2 n2 c2, .slice a3 n3 c3, .bool late] := by
 intro s; simp
section
variable {W : World} {F : Nat} {N : List NdP} {C : List ChP} {D : List Int} {late : Bool}
theorem sneed_any (h : FSt W F N C D late) (hN : N.length ≤ 1001) (xn : ByteArray) (xd : Int) :
  Calls Tryz.prog 113 #[.pointer (some ⟨F, 0, none⟩), .agg #[.string xn, .int .i64 xd]] W fun e W' => e = .returned (.tuple #[]) ∧ W.grownBy W' (some F) ∧ FSt W' F (insL ndLt 1000 N (xn, xd)) C D late := by
 obtain ⟨a1, c1, a2, c2, a3, c3, h0, h1, h2, h3⟩ := h
 refine (fneed_any F _ _ _ N xn xd a1 c1 W (by omega) h0 h1).mono ?_
 rintro e W' ⟨rfl, hg, ad, cap, h4, h5⟩
 exact ⟨rfl, hg, ad, cap, a2, c2, a3, c3, h4, h5, h2.box h0 (found_nostr _ _ _ _ _ _ _ _ _ _) hg, h3.box h0 (fun _ => found_noint _ _ _ _ _ _ _ _ _ _ _ _) hg⟩
theorem schoice_any (h : FSt W F N C D late) (hC : C.length ≤ 1001) (xp xn : ByteArray) (xd : Int) :
  Calls Tryz.prog 114 #[.pointer (some ⟨F, 0, none⟩), .agg #[.string xp, .string xn, .int .i64 xd, .bool false]] W fun e W' => e = .returned (.tuple #[]) ∧ W.grownBy W' (some F) ∧ FSt W' F N (insL chxLt 1000 C (xp, xn, xd)) D late := by
 obtain ⟨a1, c1, a2, c2, a3, c3, h0, h1, h2, h3⟩ := h
 refine (fchoice_any F _ _ _ C xp xn xd a2 c2 W (by omega) h0 h2).mono ?_
 rintro e W' ⟨rfl, hg, ad, cap, h4, h5⟩
 exact ⟨rfl, hg, a1, c1, ad, cap, a3, c3, h4, h1.box h0 (found_nostr _ _ _ _ _ _ _ _ _ _) hg, h5, h3.box h0 (fun _ => found_noint _ _ _ _ _ _ _ _ _ _ _ _) hg⟩
theorem sday_any (h : FSt W F N C D late) (hD : D.length ≤ 4000000000000) (x : Int) :
  Calls Tryz.prog 79 #[.pointer (some ⟨F, 0, none⟩), .int .i64 x] W fun e W' => e = .returned (.tuple #[]) ∧ W.grownBy W' (some F) ∧ FSt W' F N C (dayIns D x) late := by
 obtain ⟨a1, c1, a2, c2, a3, c3, h0, h1, h2, h3⟩ := h
 refine (fday_any F _ _ _ D x a3 c3 W hD h0 h3).mono ?_
 rintro e W' ⟨rfl, hg, ad, cap, h4, h5⟩
 exact ⟨rfl, hg, a1, c1, a2, c2, ad, cap, h4, h1.box h0 (found_nostr _ _ _ _ _ _ _ _ _ _) hg, h2.box h0 (found_nostr _ _ _ _ _ _ _ _ _ _) hg, h5⟩
theorem sopen_any (h : FSt W F N C D late) (hC : C.length ≤ 1001) (x : Con) (es dd ss vd : Value) (ds : List Int) (hds : ds.length ≤ 2000000) (hx : RdN W x es dd ss) (hd : RdDy W ds vd) :
  Calls Tryz.prog 80 #[.pointer (some ⟨F, 0, none⟩), x.val es dd ss, vd] W fun e W' => e = .returned (.tuple #[]) ∧ W.grownBy W' (some F) ∧ FSt W' F N (insA chxLt 1000 C (ds.map fun d => (x.fr, x.nm, d))) D late := by
 obtain ⟨a1, c1, a2, c2, a3, c3, h0, h1, h2, h3⟩ := h
 refine (fopen_any F x es dd ss vd a1 a3 _ _ c1 c3 late C ds a2 c2 W hds hC hx hd h0 h2).mono ?_
 rintro e W' ⟨rfl, hg, ad, cap, h4, h5⟩
 exact ⟨rfl, hg, a1, c1, ad, cap, a3, c3, h4, h1.box h0 (found_nostr _ _ _ _ _ _ _ _ _ _) hg, h5, h3.box h0 (fun _ => found_noint _ _ _ _ _ _ _ _ _ _ _ _) hg⟩
end
end Go.Proofs.YtkonookacfmfgaaGreatDoor
