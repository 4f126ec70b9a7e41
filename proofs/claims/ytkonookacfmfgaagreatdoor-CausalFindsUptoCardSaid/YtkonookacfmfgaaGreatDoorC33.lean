/-
  novationref09.Formed, Check. causal.unique at choices. causal.silent: a visitor that notes nothing.
-/
import Derived.Test.YtkonookacfmfgaaGreatDoorC08
import Derived.Test.YtkonookacfmfgaaGreatDoorC32
import Derived.Test.YtkonookacfmfgaaGreatDoorC14
import Derived.Test.YtkonookacfmfgaaGreatDoorC13
import Derived.Test.YtkonookacfmfgaaGreatDoorC04
import Derived.Laws.EntriesVeiled
import Derived.Test.YtkonookacfmfgaaGreatDoorC07
namespace Go.Proofs.YtkonookacfmfgaaGreatDoor
open Go.RowKit
theorem sz_e (s : ByteArray) : ((s.size : Int) == 0) = s.toList.isEmpty := by
 rw [Bool.eq_iff_iff, beq_iff_eq, List.isEmpty_iff, ← sz_nil]; omega
theorem d_e (d : Int) : decide (d = 0) = (d == 0) := rfl
theorem l_e0 (n : Nat) : decide (n = 0) = ((n : Int) == 0) := by rw [Bool.eq_iff_iff, decide_eq_true_eq, beq_iff_eq]; omega
theorem l_e1 (n : Nat) : decide (n = 1) = ((n : Int) == 1) := by rw [Bool.eq_iff_iff, decide_eq_true_eq, beq_iff_eq]; omega
theorem l_e2 (n : Nat) : decide (n = 2) = ((n : Int) == 2) := by rw [Bool.eq_iff_iff, decide_eq_true_eq, beq_iff_eq]; omega
theorem s_e (a b : ByteArray) : decide (a = b) = (a.toList == b.toList) := by rw [toList_beq]
theorem node_k1 (x : Con) (h : x.k = 1) : nodeOk x = (((x.sub.length : Int) == 0) && (x.fr.toList.isEmpty && (x.rc.toList.isEmpty && (x.nm.toList.isEmpty && ((x.d == 0) && (((x.ds.length : Int) == 0) && (x.ex.bare))))))) := by
 delta nodeOk
 dsimp only
 rw [if_pos (by omega)]
 simp only [l_e0, sz_e, d_e]
theorem node_k2 (x : Con) (h : x.k = 2) : nodeOk x = (((x.sub.length : Int) == 0) && (isNm (bl x.fr) && (isNm (bl x.rc) && (!(x.fr.toList == x.rc.toList) && (isNm (bl x.nm) && (x.ex.isA 1 && ((x.d == 0) && (((x.ds.length : Int) == 0))))))))) := by
 delta nodeOk
 dsimp only
 rw [if_neg (by omega), if_pos (by omega)]
 simp only [l_e0, d_e, s_e]
theorem node_k3 (x : Con) (h : x.k = 3) : nodeOk x = (((x.sub.length : Int) == 2) && (x.fr.toList.isEmpty && (x.rc.toList.isEmpty && (x.nm.toList.isEmpty && ((x.d == 0) && (((x.ds.length : Int) == 0) && (x.ex.bare))))))) := by
 delta nodeOk
 dsimp only
 rw [if_neg (by omega), if_neg (by omega), if_pos (by omega)]
 simp only [l_e2, l_e0, sz_e, d_e]
theorem node_k4 (x : Con) (h : x.k = 4) : nodeOk x = (((x.sub.length : Int) == 1) && (x.fr.toList.isEmpty && (x.rc.toList.isEmpty && (x.nm.toList.isEmpty && ((x.d == 0) && (((x.ds.length : Int) == 0) && (x.ex.isA 1))))))) := by
 delta nodeOk
 dsimp only
 rw [if_neg (by omega), if_neg (by omega), if_neg (by omega), if_pos (by omega)]
 simp only [l_e1, l_e0, sz_e, d_e]
theorem node_k5 (x : Con) (h : x.k = 5) : nodeOk x = (((x.sub.length : Int) == 2) && (x.fr.toList.isEmpty && (x.rc.toList.isEmpty && (x.nm.toList.isEmpty && ((x.d == 0) && (((x.ds.length : Int) == 0) && (x.ex.isA 2))))))) := by
 delta nodeOk
 dsimp only
 rw [if_neg (by omega), if_neg (by omega), if_neg (by omega), if_neg (by omega), if_pos (by omega)]
 simp only [l_e2, l_e0, sz_e, d_e]
theorem node_k6 (x : Con) (h : x.k = 6) : nodeOk x = (((x.sub.length : Int) == 1) && (x.fr.toList.isEmpty && (x.rc.toList.isEmpty && (x.nm.toList.isEmpty && (isDay x.d && (((x.ds.length : Int) == 0) && (x.ex.bare))))))) := by
 delta nodeOk
 dsimp only
 rw [if_neg (by omega), if_neg (by omega), if_neg (by omega), if_neg (by omega), if_neg (by omega), if_pos (by omega)]
 simp only [l_e1, l_e0, sz_e]
theorem node_k7 (x : Con) (h : x.k = 7) : nodeOk x = (((x.sub.length : Int) == 2) && (isNm (bl x.fr) && (x.rc.toList.isEmpty && (isNm (bl x.nm) && ((x.d == 0) && (((x.ds.length : Int) == 0) && (x.ex.bare))))))) := by
 delta nodeOk
 dsimp only
 rw [if_neg (by omega), if_neg (by omega), if_neg (by omega), if_neg (by omega), if_neg (by omega), if_neg (by omega), if_pos (by omega)]
 simp only [l_e2, l_e0, sz_e, d_e]
theorem node_k8 (x : Con) (h : x.k = 8) : nodeOk x = (((x.sub.length : Int) == 1) && (isNm (bl x.fr) && (x.rc.toList.isEmpty && (isNm (bl x.nm) && ((x.d == 0) && (isDays x.ds && (x.ex.bare))))))) := by
 delta nodeOk
 dsimp only
 rw [if_neg (by omega), if_neg (by omega), if_neg (by omega), if_neg (by omega), if_neg (by omega), if_neg (by omega), if_neg (by omega), if_pos (by omega)]
 simp only [l_e1, l_e0, sz_e, d_e]
theorem node_k9 (x : Con) (h : x.k = 9) : nodeOk x = (((x.sub.length : Int) == 1) && (x.fr.toList.isEmpty && (x.rc.toList.isEmpty && (x.nm.toList.isEmpty && ((x.d == 0) && (isDays x.ds && (x.ex.isA 2))))))) := by
 delta nodeOk
 dsimp only
 rw [if_neg (by omega), if_neg (by omega), if_neg (by omega), if_neg (by omega), if_neg (by omega), if_neg (by omega), if_neg (by omega), if_neg (by omega), if_pos (by omega)]
 simp only [l_e1, l_e0, sz_e, d_e]
theorem node_k10 (x : Con) (h : x.k = 10) : nodeOk x = (((x.sub.length : Int) == 1) && (x.fr.toList.isEmpty && (x.rc.toList.isEmpty && (x.nm.toList.isEmpty && ((x.d == 0) && (isDays x.ds && (x.ex.isA 2))))))) := by
 delta nodeOk
 dsimp only
 rw [if_neg (by omega), if_neg (by omega), if_neg (by omega), if_neg (by omega), if_neg (by omega), if_neg (by omega), if_neg (by omega), if_neg (by omega), if_pos (by omega)]
 simp only [l_e1, l_e0, sz_e, d_e]
set_option maxHeartbeats 8000000 in
set_option maxRecDepth 100000 in
theorem rformed_any : ∀ (B : Nat) (x : Con) (es dd ss : Value) (w : World), x.bulk ≤ B → x.bulk ≤ 1100000 → RdN w x es dd ss →
  Calls Tryz.prog 76 #[x.val es dd ss] w fun e w' => e = .returned (.bool x.formed) ∧ Below w.heap.size w w' := by
 intro B
 induction B with
 | zero =>
  intro x es dd ss w h0
  rw [Con.bulk_eq] at h0
  omega
 | succ B ih =>
  intro x es dd ss w hB hM hs
  obtain ⟨ad, cap, rfl⟩ := hs.2.2.1.len
  obtain ⟨ad1, cap1, rfl⟩ := hs.1.len
  obtain ⟨ad2, cap2, rfl⟩ := hs.2.1.len
  have HS := Lib.hid hs
  have HI := Lib.hid ih
  have hbq := x.bulk_eq
  have hlen := Con.bulks_len x.sub
  have hlt0 := x.sub_lt
  have hn : x.sub.length ≤ 2000000 := by omega
  have hnd : x.ds.length ≤ 2000000 := by omega
  have hxb : x.ex.bulk ≤ 1100000 := by omega
  have hs1 : x.fr.size ≤ 9223372036854775807 := by omega
  have hs2 : x.rc.size ≤ 9223372036854775807 := by omega
  have hs3 : x.nm.size ≤ 9223372036854775807 := by omega
  have hk8 := hs.2.2.2.2
  have HNm := Lib.hid fun (W : World) => And.intro (rname_any x.fr W hs1) (And.intro (rname_any x.rc W hs2) (rname_any x.nm W hs3))
  have HDy := Lib.hid fun (W : World) => rday_any x.d W
  have HBr := Lib.hid fun (W : World) (hb : Below w.heap.size w W) => rbare_any x.ex _ W (hs.1.frame hb)
  have HDs := Lib.hid fun (W : World) (hb : Below w.heap.size w W) => rdays_any x.ds _ W hnd (hs.2.1.frame hb)
  have HNu := Lib.hid fun (W : World) (hb : Below w.heap.size w W) => rnumber_any x.ex _ W hxb hk8 (hs.1.frame hb)
  have HTr := Lib.hid fun (W : World) (hb : Below w.heap.size w W) => rtruth_any x.ex _ W hxb hk8 (hs.1.frame hb)
  unfold Ex.val at HBr HNu HTr
  have hx0 : ∃ W0, w.alloc (.cells #[.int .u8 x.k, .string x.fr, .string x.rc, .string x.nm, .int .u8 x.ex.k, .string x.ex.ra, .string x.ex.nm, .int .i64 x.ex.d, .slice ad1 x.ex.sub.length cap1, .int .i64 x.d, .slice ad2 x.ds.length cap2, .slice ad x.sub.length cap] 29) = W0 ∧ CBox W0 w.heap.size x (.slice ad1 x.ex.sub.length cap1) (.slice ad2 x.ds.length cap2) (.slice ad x.sub.length cap) ∧ Below w.heap.size w W0 := ⟨_, rfl, CBox.new _ _ _ _ _ _, below_a1 _ _⟩
  obtain ⟨W0, hW0, bx, hb0⟩ := hx0
  clear hs ih hbq
  unfold Con.val
  go_enter Tryz.func76, Tryz.ntmps76
  go_upto_block 0 with fail
  clear hW0
  go_cut [3] from 16 to 29 (fun _ wc => Hid (Con.formeds x.sub = true) ∧ Below w.heap.size w wc ∧ CBox wc w.heap.size x (.slice ad1 x.ex.sub.length cap1) (.slice ad2 x.ds.length cap2) (.slice ad x.sub.length cap))
  case first =>
   go_wp2_with fail
   go_loopw [3] (fun i wr => ∃ k : Nat, k ≤ x.sub.length ∧ i = .int .i64 (k : Int) ∧ Hid (Con.formeds (x.sub.take k) = true) ∧ Below w.heap.size w wr ∧ CBox wr w.heap.size x (.slice ad1 x.ex.sub.length cap1) (.slice ad2 x.ds.length cap2) (.slice ad x.sub.length cap)) (fun i _ => x.sub.length - (intOf i).toNat)
   case atStart => exact ⟨0, Nat.zero_le _, rfl, Lib.hid (by rw [List.take_zero, Con.formeds]), hb0, bx⟩
   case round =>
    obtain ⟨k, hk, rfl, HQ, hbw, hbx⟩ := hrel
    have HX := Lib.hid hbx
    have q4 := hbx.2.2.2.2.2.2.2.2.2.2.2
    clear hbx
    by_cases hlt : k < x.sub.length
    ·obtain ⟨y, hy⟩ : ∃ y, x.sub[k]? = some y := ⟨_, List.getElem?_eq_getElem hlt⟩
     obtain ⟨b, off, e9, f9, s9, rfl, hc, hs'⟩ := (HS.out.2.2.1.frame hbw).cells hy
     obtain ⟨c0, c1, c2, c3, c4, c5, c6, c7, c8, c9, c10, c11⟩ := hc
     have hk1 : (0 : Int) ≤ (k : Int) := by omega
     have hk2 : (k : Int) < (x.sub.length : Int) := by omega
     have hym := Con.mem_lt (List.mem_of_getElem? hy)
     have HC := Lib.hid (HI.out y e9 f9 s9 wr (by omega) (by omega) hs')
     have HY := Lib.hid hy
     unfold Con.val at HC
     clear hy hym hs'
     go_wp2_with fail
     refine HC.out.mono ?_
     rintro e w4 ⟨rfl, hb4⟩
     have HX4 := Lib.hid (HX.out.low hb4)
     have hb5 := hbw.trans (hb4.mono hbw.size)
     cases hf : y.formed with
     | true =>
      have HZ : Hid (Con.formeds (x.sub.take (k + 1)) = true) := Lib.hid (by rw [take_snoc_get HY.out, Con.formeds_eq, List.all_append, ← Con.formeds_eq, HQ.out]; simp [hf])
      clear hf HC c0 c1 c2 c3 c4 c5 c6 c7 c8 c9 c10 c11 q4 hb4
      go_wp2
      go_roundw
      case rel => exact ⟨k + 1, by omega, by go_num, HZ, hb5, HX4.out⟩
      case measure => simp [intOf]; omega
     | false =>
      have HZ : Hid (x.formed = false) := Lib.hid (by
       rw [Con.formed_eq, Con.formeds_eq]
       have h2 : x.sub.all Con.formed = false := List.all_eq_false.2 ⟨y, List.mem_of_getElem? HY.out, by simp [hf]⟩
       rw [h2, Bool.and_false])
      clear hf HC c0 c1 c2 c3 c4 c5 c6 c7 c8 c9 c10 c11 q4 hb4
      go_wp2
      go_ret
      exact ⟨ret_bool' HZ.out.symm, hb5⟩
    ·obtain rfl : k = x.sub.length := by omega
     rw [List.take_length] at HQ
     go_wp2
     go_meet
     exact ⟨HQ, hbw, HX.out⟩
  case rest =>
   obtain ⟨HQ, hbw, hbx⟩ := hcut
   have HX := Lib.hid hbx
   obtain ⟨c0, c1, c2, c3, c4, c5, c6, c7, c8, c9, c10, c11⟩ := hbx
   go_wp2_with fail
   refine wp_region_inv (fun L a w' => ∃ v0 v1 v2 v3 v4 v5 v6 v7, a = ⟨#[.agg #[.int .u8 x.k, .string x.fr, .string x.rc, .string x.nm, .int .u8 x.ex.k, .string x.ex.ra, .string x.ex.nm, .int .i64 x.ex.d, .slice ad1 x.ex.sub.length cap1, .int .i64 x.d, .slice ad2 x.ds.length cap2, .slice ad x.sub.length cap], .pointer (some ⟨w.heap.size, 0, none⟩), u2, u3, .int .i64 (x.sub.length : Int), v6, v7, undef, undef, undef, undef, undef, undef, undef, undef, undef, u16, u17, u18, u19, u20, u21, u22, u23, u24, u25, u26, u27, u28, u29, .pointer (some ⟨w.heap.size, 11, none⟩), .slice ad x.sub.length cap, .int .i64 (x.sub.length : Int), v0, v1, v2, v3, v4, v5, undef, undef, undef, undef, undef, undef, undef, undef, undef, undef, undef, undef, undef, undef, undef, undef, undef, undef, undef, undef, undef, undef, undef, undef, undef, undef, undef, undef, undef, undef, undef, undef, undef, undef, undef, undef, undef, undef, undef, undef, undef, undef, undef, undef, undef, undef, undef, undef, undef, undef, undef, undef, undef, undef, undef, undef, undef, undef, undef, undef, undef, undef, undef, undef, undef, undef, undef, undef, undef, undef, undef, undef, undef, undef, undef, undef, undef, undef, undef, undef, undef, undef, undef, undef, undef, undef, undef, undef, undef, undef, undef, undef, undef, undef, undef, undef, undef, undef, undef, undef, undef, undef, undef, undef, undef, undef, undef, undef, undef, undef, undef, undef, undef, undef, undef, undef, undef, undef, undef, undef, undef, undef, undef, undef, undef, undef, undef, undef, undef, undef, undef, undef, undef, undef, undef, undef, undef, undef, undef, undef, undef, undef, undef, undef, undef, undef, undef, undef, undef, undef, undef, undef, undef, undef, undef, undef, undef, undef, undef, undef, undef, undef, undef, undef, undef, undef, undef, undef, undef, undef, undef, undef, undef, undef, undef, undef, undef, undef, undef, undef, undef, undef, undef, undef, undef, undef, undef, undef, undef, undef, undef, undef, undef, undef, undef, undef, undef, undef, undef, undef, undef, undef, undef, undef, undef, undef, undef, undef, undef, undef, undef, undef, undef, undef, undef, undef, undef, undef, undef, undef, undef, undef, undef, undef, undef, undef, undef, undef, undef, undef, undef, undef, undef, undef, undef, undef, undef, undef, undef, undef], []⟩ ∧ VInv wc [.pointer (some ⟨w.heap.size, 1, none⟩), .string x.fr, .bool (isNm (bl x.fr)), .pointer (some ⟨w.heap.size, 3, none⟩), .string x.nm, .bool (isNm (bl x.nm)), .bool (isNm (bl x.fr)), .bool (isNm (bl x.nm))] [v0, v1, v2, v3, v4, v5, v6, v7] L w') (by kernel_rfl) (by kernel_rfl) ?_ ?_ ?_
   ·exact ⟨_, _, _, _, _, _, _, _, rfl, VInv.start (below_drewN (Below.refl _ _) 1) rfl⟩
   ·rintro L a w' ⟨v0, v1, v2, v3, v4, v5, v6, v7, rfl, h⟩ i o ho hL hp
    have hi9 : i < 8 := by simpa using (Array.getElem?_eq_some_iff.1 ho).1
    have hi2 : i = 0 ∨ i = 1 ∨ i = 2 ∨ i = 3 ∨ i = 4 ∨ i = 5 ∨ i = 6 ∨ i = 7 := by omega
    clear hi9
    have z1 := cell_below h.b c1
    have z3 := cell_below h.b c3
    rcases hi2 with rfl | rfl | rfl | rfl | rfl | rfl | rfl | rfl
    ·refine wpOp_step rfl ?_
     intro K hK
     go_simp
     exact hK _ _ ⟨_, _, _, _, _, _, _, _, rfl, h.step (i := 0) (v := .pointer (some ⟨w.heap.size, 1, none⟩)) rfl⟩
    ·refine wpOp_step rfl ?_
     intro K hK
     obtain rfl := h.at (i := 0) (pred_spec ho hp (j := 0) (by kernel_rfl)) rfl rfl
     go_simp
     exact hK _ _ ⟨_, _, _, _, _, _, _, _, rfl, h.step (i := 1) (v := .string x.fr) rfl⟩
    ·refine wpOp_step rfl ?_
     intro K hK
     obtain rfl := h.at (i := 1) (pred_spec ho hp (j := 1) (by kernel_rfl)) rfl rfl
     go_simp
     refine ((HNm.out w').1).mono ?_
     rintro e w4 ⟨rfl, rfl⟩
     have hb4 := Below.refl w'.heap.size w'
     exact hK _ _ ⟨_, _, _, _, _, _, _, _, rfl, (h.ext hb4).step (i := 2) (v := .bool (isNm (bl x.fr))) rfl⟩
    ·refine wpOp_step rfl ?_
     intro K hK
     go_simp
     exact hK _ _ ⟨_, _, _, _, _, _, _, _, rfl, h.step (i := 3) (v := .pointer (some ⟨w.heap.size, 3, none⟩)) rfl⟩
    ·refine wpOp_step rfl ?_
     intro K hK
     obtain rfl := h.at (i := 3) (pred_spec ho hp (j := 3) (by kernel_rfl)) rfl rfl
     go_simp
     exact hK _ _ ⟨_, _, _, _, _, _, _, _, rfl, h.step (i := 4) (v := .string x.nm) rfl⟩
    ·refine wpOp_step rfl ?_
     intro K hK
     obtain rfl := h.at (i := 4) (pred_spec ho hp (j := 4) (by kernel_rfl)) rfl rfl
     go_simp
     refine ((HNm.out w').2.2).mono ?_
     rintro e w4 ⟨rfl, rfl⟩
     have hb4 := Below.refl w'.heap.size w'
     exact hK _ _ ⟨_, _, _, _, _, _, _, _, rfl, (h.ext hb4).step (i := 5) (v := .bool (isNm (bl x.nm))) rfl⟩
    ·refine wpOp_step rfl ?_
     intro K hK
     obtain rfl := h.at (i := 2) (pred_spec ho hp (j := 2) (by kernel_rfl)) rfl rfl
     go_simp
     exact hK _ _ ⟨_, _, _, _, _, _, _, _, rfl, h.step (i := 6) (v := .bool (isNm (bl x.fr))) rfl⟩
    ·refine wpOp_step rfl ?_
     intro K hK
     obtain rfl := h.at (i := 5) (pred_spec ho hp (j := 5) (by kernel_rfl)) rfl rfl
     go_simp
     exact hK _ _ ⟨_, _, _, _, _, _, _, _, rfl, h.step (i := 7) (v := .bool (isNm (bl x.nm))) rfl⟩
   ·rintro L a w1 ⟨v0, v1, v2, v3, v4, v5, v6, v7, rfl, h⟩ hall
    have hb1 := h.b
    obtain rfl := h.at (i := 6) (hall 6 (by decide)) rfl rfl
    obtain rfl := h.at (i := 7) (hall 7 (by decide)) rfl rfl
    have HX1 := Lib.hid (HX.out.low hb1)
    have hw1 := hbw.trans (hb1.mono hbw.size)
    clear h hall c0 c1 c2 c3 c4 c5 c6 c7 c8 c9 c10 c11 hb1
    obtain ⟨c0, c1, c2, c3, c4, c5, c6, c7, c8, c9, c10, c11⟩ := HX1.out
    go_wp2_with fail
    refine (HBr.out _ hw1).mono ?_
    rintro e w2 ⟨rfl, hb2⟩
    have HX2 := Lib.hid (HX1.out.low hb2)
    have hw2 := hw1.trans (hb2.mono hw1.size)
    clear c0 c1 c2 c3 c4 c5 c6 c7 c8 c9 c10 c11 hb2
    obtain ⟨c0, c1, c2, c3, c4, c5, c6, c7, c8, c9, c10, c11⟩ := HX2.out
    go_wp2_with fail
    refine (HDs.out _ hw2).mono ?_
    rintro e w3 ⟨rfl, hb3⟩
    have HX3 := Lib.hid (HX2.out.low hb3)
    have hw3 := hw2.trans (hb3.mono hw2.size)
    clear c0 c1 c2 c3 c4 c5 c6 c7 c8 c9 c10 c11 hb3
    obtain ⟨c0, c1, c2, c3, c4, c5, c6, c7, c8, c9, c10, c11⟩ := HX3.out
    go_wp2_with fail
    refine (HNu.out _ hw3).mono ?_
    rintro e w4 ⟨rfl, hb4⟩
    have HX4 := Lib.hid (HX3.out.low hb4)
    have hw4 := hw3.trans (hb4.mono hw3.size)
    clear c0 c1 c2 c3 c4 c5 c6 c7 c8 c9 c10 c11 hb4
    obtain ⟨c0, c1, c2, c3, c4, c5, c6, c7, c8, c9, c10, c11⟩ := HX4.out
    go_wp2_with fail
    refine (HTr.out _ hw4).mono ?_
    rintro e w5 ⟨rfl, hb5⟩
    have HX5 := Lib.hid (HX4.out.low hb5)
    have hw5 := hw4.trans (hb5.mono hw4.size)
    clear c0 c1 c2 c3 c4 c5 c6 c7 c8 c9 c10 c11 hb5
    obtain ⟨c0, c1, c2, c3, c4, c5, c6, c7, c8, c9, c10, c11⟩ := HX5.out
    have HQ2 : Hid (x.formed = nodeOk x) := Lib.hid (by rw [Con.formed_eq, HQ.out, Bool.and_true])
    go_upto_block 2 with fail
    by_cases h1 : x.k = 1
    ·have h := h1
     have t1 : ((x.k : Int) == 1) = true := by rw [h]; rfl
     have t2 : ((x.k : Int) == 2) = false := by rw [h]; rfl
     have t3 : ((x.k : Int) == 3) = false := by rw [h]; rfl
     have t4 : ((x.k : Int) == 4) = false := by rw [h]; rfl
     have t5 : ((x.k : Int) == 5) = false := by rw [h]; rfl
     have t6 : ((x.k : Int) == 6) = false := by rw [h]; rfl
     have t7 : ((x.k : Int) == 7) = false := by rw [h]; rfl
     have t8 : ((x.k : Int) == 8) = false := by rw [h]; rfl
     have t9 : ((x.k : Int) == 9) = false := by rw [h]; rfl
     have t10 : ((x.k : Int) == 10) = false := by rw [h]; rfl
     have HR : Hid (x.formed = (((x.sub.length : Int) == 0) && (x.fr.toList.isEmpty && (x.rc.toList.isEmpty && (x.nm.toList.isEmpty && ((x.d == 0) && (((x.ds.length : Int) == 0) && (x.ex.bare)))))))) := Lib.hid (HQ2.out.trans (node_k1 x h))
     clear h1 h
     generalize isNm (bl x.fr) = B0 at ⊢
     generalize isNm (bl x.nm) = B2 at ⊢
     generalize x.fr.toList.isEmpty = B3 at HR ⊢
     generalize x.rc.toList.isEmpty = B4 at HR ⊢
     generalize x.nm.toList.isEmpty = B5 at HR ⊢
     generalize x.ex.bare = B6 at HR ⊢
     generalize isDays x.ds = B7 at ⊢
     generalize x.ex.isA 1 = B8 at ⊢
     generalize x.ex.isA 2 = B9 at ⊢
     go_wp2_with fail
     all_goals
      go_ret
      exact ⟨ret_bool' (by rw [HR.out]; simp [*]), hw5⟩
    ·skip
     by_cases h2 : x.k = 2
     ·have h := h2
      have t1 : ((x.k : Int) == 1) = false := by rw [h]; rfl
      have t2 : ((x.k : Int) == 2) = true := by rw [h]; rfl
      have t3 : ((x.k : Int) == 3) = false := by rw [h]; rfl
      have t4 : ((x.k : Int) == 4) = false := by rw [h]; rfl
      have t5 : ((x.k : Int) == 5) = false := by rw [h]; rfl
      have t6 : ((x.k : Int) == 6) = false := by rw [h]; rfl
      have t7 : ((x.k : Int) == 7) = false := by rw [h]; rfl
      have t8 : ((x.k : Int) == 8) = false := by rw [h]; rfl
      have t9 : ((x.k : Int) == 9) = false := by rw [h]; rfl
      have t10 : ((x.k : Int) == 10) = false := by rw [h]; rfl
      have HR : Hid (x.formed = (((x.sub.length : Int) == 0) && (isNm (bl x.fr) && (isNm (bl x.rc) && (!(x.fr.toList == x.rc.toList) && (isNm (bl x.nm) && (x.ex.isA 1 && ((x.d == 0) && (((x.ds.length : Int) == 0)))))))))) := Lib.hid (HQ2.out.trans (node_k2 x h))
      clear h1 h2 h
      have HNR := Lib.hid fun W => (HNm.out W).2.1
      generalize isNm (bl x.fr) = B0 at HR ⊢
      generalize isNm (bl x.rc) = B1 at HR HNR
      generalize isNm (bl x.nm) = B2 at HR ⊢
      generalize x.fr.toList.isEmpty = B3 at ⊢
      generalize x.rc.toList.isEmpty = B4 at ⊢
      generalize x.nm.toList.isEmpty = B5 at ⊢
      generalize x.ex.bare = B6 at ⊢
      generalize isDays x.ds = B7 at ⊢
      generalize x.ex.isA 1 = B8 at HR ⊢
      generalize x.ex.isA 2 = B9 at ⊢
      go_wp2_with (refine (HNR.out _).mono ?_; rintro e w1 ⟨rfl, rfl⟩)
      all_goals
       go_ret
       exact ⟨ret_bool' (by rw [HR.out]; simp [*]), hw5⟩
     ·skip
      by_cases h3 : x.k = 3
      ·have h := h3
       have t1 : ((x.k : Int) == 1) = false := by rw [h]; rfl
       have t2 : ((x.k : Int) == 2) = false := by rw [h]; rfl
       have t3 : ((x.k : Int) == 3) = true := by rw [h]; rfl
       have t4 : ((x.k : Int) == 4) = false := by rw [h]; rfl
       have t5 : ((x.k : Int) == 5) = false := by rw [h]; rfl
       have t6 : ((x.k : Int) == 6) = false := by rw [h]; rfl
       have t7 : ((x.k : Int) == 7) = false := by rw [h]; rfl
       have t8 : ((x.k : Int) == 8) = false := by rw [h]; rfl
       have t9 : ((x.k : Int) == 9) = false := by rw [h]; rfl
       have t10 : ((x.k : Int) == 10) = false := by rw [h]; rfl
       have HR : Hid (x.formed = (((x.sub.length : Int) == 2) && (x.fr.toList.isEmpty && (x.rc.toList.isEmpty && (x.nm.toList.isEmpty && ((x.d == 0) && (((x.ds.length : Int) == 0) && (x.ex.bare)))))))) := Lib.hid (HQ2.out.trans (node_k3 x h))
       clear h1 h2 h3 h
       generalize isNm (bl x.fr) = B0 at ⊢
       generalize isNm (bl x.nm) = B2 at ⊢
       generalize x.fr.toList.isEmpty = B3 at HR ⊢
       generalize x.rc.toList.isEmpty = B4 at HR ⊢
       generalize x.nm.toList.isEmpty = B5 at HR ⊢
       generalize x.ex.bare = B6 at HR ⊢
       generalize isDays x.ds = B7 at ⊢
       generalize x.ex.isA 1 = B8 at ⊢
       generalize x.ex.isA 2 = B9 at ⊢
       go_wp2_with fail
       all_goals
        go_ret
        exact ⟨ret_bool' (by rw [HR.out]; simp [*]), hw5⟩
      ·skip
       by_cases h4 : x.k = 4
       ·have h := h4
        have t1 : ((x.k : Int) == 1) = false := by rw [h]; rfl
        have t2 : ((x.k : Int) == 2) = false := by rw [h]; rfl
        have t3 : ((x.k : Int) == 3) = false := by rw [h]; rfl
        have t4 : ((x.k : Int) == 4) = true := by rw [h]; rfl
        have t5 : ((x.k : Int) == 5) = false := by rw [h]; rfl
        have t6 : ((x.k : Int) == 6) = false := by rw [h]; rfl
        have t7 : ((x.k : Int) == 7) = false := by rw [h]; rfl
        have t8 : ((x.k : Int) == 8) = false := by rw [h]; rfl
        have t9 : ((x.k : Int) == 9) = false := by rw [h]; rfl
        have t10 : ((x.k : Int) == 10) = false := by rw [h]; rfl
        have HR : Hid (x.formed = (((x.sub.length : Int) == 1) && (x.fr.toList.isEmpty && (x.rc.toList.isEmpty && (x.nm.toList.isEmpty && ((x.d == 0) && (((x.ds.length : Int) == 0) && (x.ex.isA 1)))))))) := Lib.hid (HQ2.out.trans (node_k4 x h))
        clear h1 h2 h3 h4 h
        generalize isNm (bl x.fr) = B0 at ⊢
        generalize isNm (bl x.nm) = B2 at ⊢
        generalize x.fr.toList.isEmpty = B3 at HR ⊢
        generalize x.rc.toList.isEmpty = B4 at HR ⊢
        generalize x.nm.toList.isEmpty = B5 at HR ⊢
        generalize x.ex.bare = B6 at ⊢
        generalize isDays x.ds = B7 at ⊢
        generalize x.ex.isA 1 = B8 at HR ⊢
        generalize x.ex.isA 2 = B9 at ⊢
        go_wp2_with fail
        all_goals
         go_ret
         exact ⟨ret_bool' (by rw [HR.out]; simp [*]), hw5⟩
       ·skip
        by_cases h5 : x.k = 5
        ·have h := h5
         have t1 : ((x.k : Int) == 1) = false := by rw [h]; rfl
         have t2 : ((x.k : Int) == 2) = false := by rw [h]; rfl
         have t3 : ((x.k : Int) == 3) = false := by rw [h]; rfl
         have t4 : ((x.k : Int) == 4) = false := by rw [h]; rfl
         have t5 : ((x.k : Int) == 5) = true := by rw [h]; rfl
         have t6 : ((x.k : Int) == 6) = false := by rw [h]; rfl
         have t7 : ((x.k : Int) == 7) = false := by rw [h]; rfl
         have t8 : ((x.k : Int) == 8) = false := by rw [h]; rfl
         have t9 : ((x.k : Int) == 9) = false := by rw [h]; rfl
         have t10 : ((x.k : Int) == 10) = false := by rw [h]; rfl
         have HR : Hid (x.formed = (((x.sub.length : Int) == 2) && (x.fr.toList.isEmpty && (x.rc.toList.isEmpty && (x.nm.toList.isEmpty && ((x.d == 0) && (((x.ds.length : Int) == 0) && (x.ex.isA 2)))))))) := Lib.hid (HQ2.out.trans (node_k5 x h))
         clear h1 h2 h3 h4 h5 h
         generalize isNm (bl x.fr) = B0 at ⊢
         generalize isNm (bl x.nm) = B2 at ⊢
         generalize x.fr.toList.isEmpty = B3 at HR ⊢
         generalize x.rc.toList.isEmpty = B4 at HR ⊢
         generalize x.nm.toList.isEmpty = B5 at HR ⊢
         generalize x.ex.bare = B6 at ⊢
         generalize isDays x.ds = B7 at ⊢
         generalize x.ex.isA 1 = B8 at ⊢
         generalize x.ex.isA 2 = B9 at HR ⊢
         go_wp2_with fail
         all_goals
          go_ret
          exact ⟨ret_bool' (by rw [HR.out]; simp [*]), hw5⟩
        ·skip
         by_cases h6 : x.k = 6
         ·have h := h6
          have t1 : ((x.k : Int) == 1) = false := by rw [h]; rfl
          have t2 : ((x.k : Int) == 2) = false := by rw [h]; rfl
          have t3 : ((x.k : Int) == 3) = false := by rw [h]; rfl
          have t4 : ((x.k : Int) == 4) = false := by rw [h]; rfl
          have t5 : ((x.k : Int) == 5) = false := by rw [h]; rfl
          have t6 : ((x.k : Int) == 6) = true := by rw [h]; rfl
          have t7 : ((x.k : Int) == 7) = false := by rw [h]; rfl
          have t8 : ((x.k : Int) == 8) = false := by rw [h]; rfl
          have t9 : ((x.k : Int) == 9) = false := by rw [h]; rfl
          have t10 : ((x.k : Int) == 10) = false := by rw [h]; rfl
          have HR : Hid (x.formed = (((x.sub.length : Int) == 1) && (x.fr.toList.isEmpty && (x.rc.toList.isEmpty && (x.nm.toList.isEmpty && (isDay x.d && (((x.ds.length : Int) == 0) && (x.ex.bare)))))))) := Lib.hid (HQ2.out.trans (node_k6 x h))
          clear h1 h2 h3 h4 h5 h6 h
          generalize isNm (bl x.fr) = B0 at ⊢
          generalize isNm (bl x.nm) = B2 at ⊢
          generalize x.fr.toList.isEmpty = B3 at HR ⊢
          generalize x.rc.toList.isEmpty = B4 at HR ⊢
          generalize x.nm.toList.isEmpty = B5 at HR ⊢
          generalize x.ex.bare = B6 at HR ⊢
          generalize isDays x.ds = B7 at ⊢
          generalize x.ex.isA 1 = B8 at ⊢
          generalize x.ex.isA 2 = B9 at ⊢
          generalize isDay x.d = B10 at HR HDy
          go_wp2_with (refine (HDy.out _).mono ?_; rintro e w1 ⟨rfl, rfl⟩)
          all_goals
           go_ret
           exact ⟨ret_bool' (by rw [HR.out]; simp [*]), hw5⟩
         ·skip
          by_cases h7 : x.k = 7
          ·have h := h7
           have t1 : ((x.k : Int) == 1) = false := by rw [h]; rfl
           have t2 : ((x.k : Int) == 2) = false := by rw [h]; rfl
           have t3 : ((x.k : Int) == 3) = false := by rw [h]; rfl
           have t4 : ((x.k : Int) == 4) = false := by rw [h]; rfl
           have t5 : ((x.k : Int) == 5) = false := by rw [h]; rfl
           have t6 : ((x.k : Int) == 6) = false := by rw [h]; rfl
           have t7 : ((x.k : Int) == 7) = true := by rw [h]; rfl
           have t8 : ((x.k : Int) == 8) = false := by rw [h]; rfl
           have t9 : ((x.k : Int) == 9) = false := by rw [h]; rfl
           have t10 : ((x.k : Int) == 10) = false := by rw [h]; rfl
           have HR : Hid (x.formed = (((x.sub.length : Int) == 2) && (isNm (bl x.fr) && (x.rc.toList.isEmpty && (isNm (bl x.nm) && ((x.d == 0) && (((x.ds.length : Int) == 0) && (x.ex.bare)))))))) := Lib.hid (HQ2.out.trans (node_k7 x h))
           clear h1 h2 h3 h4 h5 h6 h7 h
           generalize isNm (bl x.fr) = B0 at HR ⊢
           generalize isNm (bl x.nm) = B2 at HR ⊢
           generalize x.fr.toList.isEmpty = B3 at ⊢
           generalize x.rc.toList.isEmpty = B4 at HR ⊢
           generalize x.nm.toList.isEmpty = B5 at ⊢
           generalize x.ex.bare = B6 at HR ⊢
           generalize isDays x.ds = B7 at ⊢
           generalize x.ex.isA 1 = B8 at ⊢
           generalize x.ex.isA 2 = B9 at ⊢
           go_wp2_with fail
           all_goals
            go_ret
            exact ⟨ret_bool' (by rw [HR.out]; simp [*]), hw5⟩
          ·skip
           by_cases h8 : x.k = 8
           ·have h := h8
            have t1 : ((x.k : Int) == 1) = false := by rw [h]; rfl
            have t2 : ((x.k : Int) == 2) = false := by rw [h]; rfl
            have t3 : ((x.k : Int) == 3) = false := by rw [h]; rfl
            have t4 : ((x.k : Int) == 4) = false := by rw [h]; rfl
            have t5 : ((x.k : Int) == 5) = false := by rw [h]; rfl
            have t6 : ((x.k : Int) == 6) = false := by rw [h]; rfl
            have t7 : ((x.k : Int) == 7) = false := by rw [h]; rfl
            have t8 : ((x.k : Int) == 8) = true := by rw [h]; rfl
            have t9 : ((x.k : Int) == 9) = false := by rw [h]; rfl
            have t10 : ((x.k : Int) == 10) = false := by rw [h]; rfl
            have HR : Hid (x.formed = (((x.sub.length : Int) == 1) && (isNm (bl x.fr) && (x.rc.toList.isEmpty && (isNm (bl x.nm) && ((x.d == 0) && (isDays x.ds && (x.ex.bare)))))))) := Lib.hid (HQ2.out.trans (node_k8 x h))
            clear h1 h2 h3 h4 h5 h6 h7 h8 h
            generalize isNm (bl x.fr) = B0 at HR ⊢
            generalize isNm (bl x.nm) = B2 at HR ⊢
            generalize x.fr.toList.isEmpty = B3 at ⊢
            generalize x.rc.toList.isEmpty = B4 at HR ⊢
            generalize x.nm.toList.isEmpty = B5 at ⊢
            generalize x.ex.bare = B6 at HR ⊢
            generalize isDays x.ds = B7 at HR ⊢
            generalize x.ex.isA 1 = B8 at ⊢
            generalize x.ex.isA 2 = B9 at ⊢
            go_wp2_with fail
            all_goals
             go_ret
             exact ⟨ret_bool' (by rw [HR.out]; simp [*]), hw5⟩
           ·skip
            by_cases h9 : x.k = 9
            ·have h := h9
             have t1 : ((x.k : Int) == 1) = false := by rw [h]; rfl
             have t2 : ((x.k : Int) == 2) = false := by rw [h]; rfl
             have t3 : ((x.k : Int) == 3) = false := by rw [h]; rfl
             have t4 : ((x.k : Int) == 4) = false := by rw [h]; rfl
             have t5 : ((x.k : Int) == 5) = false := by rw [h]; rfl
             have t6 : ((x.k : Int) == 6) = false := by rw [h]; rfl
             have t7 : ((x.k : Int) == 7) = false := by rw [h]; rfl
             have t8 : ((x.k : Int) == 8) = false := by rw [h]; rfl
             have t9 : ((x.k : Int) == 9) = true := by rw [h]; rfl
             have t10 : ((x.k : Int) == 10) = false := by rw [h]; rfl
             have HR : Hid (x.formed = (((x.sub.length : Int) == 1) && (x.fr.toList.isEmpty && (x.rc.toList.isEmpty && (x.nm.toList.isEmpty && ((x.d == 0) && (isDays x.ds && (x.ex.isA 2)))))))) := Lib.hid (HQ2.out.trans (node_k9 x h))
             clear h1 h2 h3 h4 h5 h6 h7 h8 h9 h
             generalize isNm (bl x.fr) = B0 at ⊢
             generalize isNm (bl x.nm) = B2 at ⊢
             generalize x.fr.toList.isEmpty = B3 at HR ⊢
             generalize x.rc.toList.isEmpty = B4 at HR ⊢
             generalize x.nm.toList.isEmpty = B5 at HR ⊢
             generalize x.ex.bare = B6 at ⊢
             generalize isDays x.ds = B7 at HR ⊢
             generalize x.ex.isA 1 = B8 at ⊢
             generalize x.ex.isA 2 = B9 at HR ⊢
             go_wp2_with fail
             all_goals
              go_ret
              exact ⟨ret_bool' (by rw [HR.out]; simp [*]), hw5⟩
            ·skip
             by_cases h10 : x.k = 10
             ·have h := h10
              have t1 : ((x.k : Int) == 1) = false := by rw [h]; rfl
              have t2 : ((x.k : Int) == 2) = false := by rw [h]; rfl
              have t3 : ((x.k : Int) == 3) = false := by rw [h]; rfl
              have t4 : ((x.k : Int) == 4) = false := by rw [h]; rfl
              have t5 : ((x.k : Int) == 5) = false := by rw [h]; rfl
              have t6 : ((x.k : Int) == 6) = false := by rw [h]; rfl
              have t7 : ((x.k : Int) == 7) = false := by rw [h]; rfl
              have t8 : ((x.k : Int) == 8) = false := by rw [h]; rfl
              have t9 : ((x.k : Int) == 9) = false := by rw [h]; rfl
              have t10 : ((x.k : Int) == 10) = true := by rw [h]; rfl
              have HR : Hid (x.formed = (((x.sub.length : Int) == 1) && (x.fr.toList.isEmpty && (x.rc.toList.isEmpty && (x.nm.toList.isEmpty && ((x.d == 0) && (isDays x.ds && (x.ex.isA 2)))))))) := Lib.hid (HQ2.out.trans (node_k10 x h))
              clear h1 h2 h3 h4 h5 h6 h7 h8 h9 h10 h
              generalize isNm (bl x.fr) = B0 at ⊢
              generalize isNm (bl x.nm) = B2 at ⊢
              generalize x.fr.toList.isEmpty = B3 at HR ⊢
              generalize x.rc.toList.isEmpty = B4 at HR ⊢
              generalize x.nm.toList.isEmpty = B5 at HR ⊢
              generalize x.ex.bare = B6 at ⊢
              generalize isDays x.ds = B7 at HR ⊢
              generalize x.ex.isA 1 = B8 at ⊢
              generalize x.ex.isA 2 = B9 at HR ⊢
              go_wp2_with fail
              all_goals
               go_ret
               exact ⟨ret_bool' (by rw [HR.out]; simp [*]), hw5⟩
             ·skip
              have t1 : ((x.k : Int) == 1) = false := by rw [beq_eq_false_iff_ne]; omega
              have t2 : ((x.k : Int) == 2) = false := by rw [beq_eq_false_iff_ne]; omega
              have t3 : ((x.k : Int) == 3) = false := by rw [beq_eq_false_iff_ne]; omega
              have t4 : ((x.k : Int) == 4) = false := by rw [beq_eq_false_iff_ne]; omega
              have t5 : ((x.k : Int) == 5) = false := by rw [beq_eq_false_iff_ne]; omega
              have t6 : ((x.k : Int) == 6) = false := by rw [beq_eq_false_iff_ne]; omega
              have t7 : ((x.k : Int) == 7) = false := by rw [beq_eq_false_iff_ne]; omega
              have t8 : ((x.k : Int) == 8) = false := by rw [beq_eq_false_iff_ne]; omega
              have t9 : ((x.k : Int) == 9) = false := by rw [beq_eq_false_iff_ne]; omega
              have t10 : ((x.k : Int) == 10) = false := by rw [beq_eq_false_iff_ne]; omega
              have HR : Hid (x.formed = false) := Lib.hid (by rw [HQ2.out]; simp [nodeOk, h1, h2, h3, h4, h5, h6, h7, h8, h9, h10])
              clear h1 h2 h3 h4 h5 h6 h7 h8 h9 h10
              go_wp2_with fail
              go_ret
              exact ⟨ret_bool' HR.out.symm, hw5⟩
end Go.Proofs.YtkonookacfmfgaaGreatDoor

namespace Go.Proofs.YtkonookacfmfgaaGreatDoor
open Go.RowKit
open Go.Sort (HoldsK grow alloc_eq_grow grow_grow drew_grow SWO)
def cxCf (x y : ChP) : Int := chCmp x.1 x.2.1 x.2.2 y.1 y.2.1 y.2.2
theorem cxCf_lt : ltOf cxCf = chxLt := by funext x y; exact chCmp_lt _ _ _ _ _ _
set_option maxHeartbeats 400000 in
set_option maxRecDepth 100000 in
theorem cxcmp_any (x y : ChP) (w : World) :
  Calls Tryz.prog 60 #[.agg #[.string x.1, .string x.2.1, .int .i64 x.2.2, .bool false], .agg #[.string y.1, .string y.2.1, .int .i64 y.2.2, .bool false]] w fun e w' => e = .returned (.int .i64 (cxCf x y)) ∧ ∃ q os', w' = grow (w.drewN q) os' := by
 obtain ⟨p1, n1, d1⟩ := x
 obtain ⟨p2, n2, d2⟩ := y
 unfold cxCf chCmp
 go_enter Tryz.func60, Tryz.ntmps60
 go_wp2
 go_region_held3 (fun w' => w'.cell? ⟨w.heap.size, 0, none⟩ = some (.string p1) ∧ w'.cell? ⟨w.heap.size, 1, none⟩ = some (.string n1) ∧ w'.cell? ⟨w.heap.size, 2, none⟩ = some (.int .i64 d1) ∧ w'.cell? ⟨w.heap.size + 1, 0, none⟩ = some (.string p2) ∧ w'.cell? ⟨w.heap.size + 1, 1, none⟩ = some (.string n2) ∧ w'.cell? ⟨w.heap.size + 1, 2, none⟩ = some (.int .i64 d2)) (go_keep)
  (first | (go_at_call 53; refine (cmpS_any _ _ _).mono ?_; rintro e w' ⟨rfl, rfl⟩) | (go_at_call 54; refine (cmpI_any _ _ _).mono ?_; rintro e w' ⟨rfl, rfl⟩) | (go_at_call 52; refine (or3_any (cmpS p1 p2) (cmpS n1 n2) (cmpI d1 d2) _ _ ?_ ?_ ?_).mono ?_; (go_simp); (go_simp); (go_simp); rintro e w' ⟨rfl, rfl⟩))
 all_goals
  go_wp2
  go_ret
  exact ⟨rfl, 1, _, by rw [alloc_eq_grow, alloc_eq_grow, alloc_eq_grow, grow_grow, grow_grow]; rfl⟩
theorem cxcmp_enter : ∀ args w, (callFunc 60 args).run Tryz.prog w = .ok (.enter 60 args) w := enters_of Tryz.func60 (by kernel_rfl) rfl
set_option maxRecDepth 100000 in
theorem sortC_any (base : Nat) (L : List ChP) (v : Value) (W : World) (hown : W.ownsRow base 80 4 v L.length (L.flatMap cxCells)) (hlen : L.length ≤ 4000000000000) :
  Calls Tryz.prog 58 #[v, .func (.func 60) #[] #[]] W fun e W' => e = .returned (.tuple #[]) ∧
   W'.ownsRow base 80 4 v L.length ((L.mergeSort fun x y => !chxLt y x).flatMap cxCells) ∧ W.grownBy W' v.ownBlock := by
 rcases hown.2 with ⟨rfl, h0⟩ | ⟨g, cap, cur, rfl, hbg, hh, hn, hc, hs, ht⟩
 ·have hL : L = [] := List.eq_nil_of_length_eq_zero h0
  subst hL
  have h := AnyF.slices_SortFunc_none Tryz.laysChoice none 0 (.func (.func 60) #[] #[]) W
  refine Calls.mono (by exact h) ?_
  rintro e W' ⟨rfl, rfl⟩
  exact ⟨rfl, by simpa using hown, World.grownBy.refl _ _⟩
 ·have hblk : g < W.heap.size := (Array.getElem?_eq_some_iff.1 hh).1
  have h := AnyQ.slices_SortFunc_total (α := ChP) Tryz.laysChoice 4 Tryz.isAgg80 Tryz.sizeOf80 cxCells cxCells_len cx_oneCells cxCf (by rw [cxCf_lt]; exact swo_of_sto chx_sto) 60 #[] g 0 cap L.toArray W cxcmp_enter
   (fun m os dk _ x y => cxcmp_any x y _) (holdsK_own cxCells_len hown) hblk (by simp; omega) (by rw [cxCf_lt]; exact fun x y h1 h2 => chx_sto.conn x y h1 h2)
  refine Calls.mono (by exact h) ?_
  rintro e W' ⟨rfl, q, os, rfl⟩
  rw [cxCf_lt]
  obtain ⟨h1, h2⟩ := sorted_row (T := L.mergeSort fun x y => !chxLt y x) cxCells_len hown (List.length_mergeSort _) q os
  exact ⟨rfl, h1, h2⟩
def cxOrder : Value := .agg #[.func (.func 60) #[] #[]]
set_option maxHeartbeats 1000000 in
set_option maxRecDepth 100000 in
theorem uniqC_any (base : Nat) (L : List ChP) (v : Value) (W : World) (hown : W.ownsRow base 80 4 v L.length (L.flatMap cxCells)) (hlen : L.length ≤ 4000000000000) (hbase : base ≤ W.heap.size) :
  Calls Tryz.prog 32 #[v, cxOrder] W fun e W' => ∃ v', e = .returned v' ∧ W'.ownsRow base 80 4 v' (uniq chxLt L).length ((uniq chxLt L).flatMap cxCells) ∧ Below base W W' := by
 have hb0 := below_a1 W (.cells #[.func (.func 60) #[] #[]] 85)
 have hown1 := ownsRow_below' hown hb0
 have hS := sortC_any base L v _ hown1 hlen
 have Hb0 := Lib.hid hb0
 have Hl := Lib.hid hlen
 obtain ⟨ad, n, cap, hv⟩ : ∃ ad n cap, v = .slice ad n cap := by
  rcases hown.2 with ⟨rfl, h⟩ | ⟨g, cap, cur, rfl, _⟩ <;> exact ⟨_, _, _, rfl⟩
 have HO := Lib.hid hown1
 subst hv
 clear hown hown1 hb0 hlen
 unfold cxOrder
 go_enter Tryz.func32, Tryz.ntmps32
 go_wp2_with (go_at_call 58; refine hS.mono ?_; rintro e w1 ⟨rfl, h1, h2⟩)
 have hml : (L.mergeSort fun x y => !chxLt y x).length = L.length := List.length_mergeSort _
 rw [← hml] at h1
 have hC := compactC_any base _ _ w1 h1 (by rw [hml]; exact Hl.out)
 have hb1 := (Hb0.out.mono hbase).grown h2 (by simp; omega) (fun k e => (HO.out.lt k e).1)
 have hlt1 := fun k e => (h1.lt k e).1
 clear h1 h2
 go_wp2_with (go_at_call 59; refine hC.mono ?_; rintro e w2 ⟨v2, rfl, h3, h4⟩)
 go_ret
 exact ⟨_, rfl, h3, hb1.grown h4 (Nat.le_trans hbase hb1.size) hlt1⟩
set_option maxRecDepth 100000 in
theorem cxOrder_any (W : World) : Calls Tryz.prog 33 #[] W fun e W' => e = .returned cxOrder ∧ Below W.heap.size W W' := by
 go_enter Tryz.func33, Tryz.ntmps33
 go_wp2
 refine bodyPost_ret (v := .agg #[.func (.func 60) #[] #[]]) (by simp [results, Tryz.results33, go_sem]) rfl ?_
 exact ⟨rfl, below_a1 _ _⟩
end Go.Proofs.YtkonookacfmfgaaGreatDoor

namespace Go.Proofs.YtkonookacfmfgaaGreatDoor
open Go.RowKit
set_option maxRecDepth 100000 in
theorem silent1_any (x : Ex) (s v : Value) (w0 w : World) (hs : RdE w0 x.sub s) : Calls Tryz.prog 43 #[x.val s, v] w fun e w' => e = .returned (.tuple #[]) ∧ Below w.heap.size w w' := by
 obtain ⟨ad, cap, rfl⟩ := hs.len
 clear hs
 unfold Ex.val
 go_enter Tryz.func43, Tryz.ntmps43
 go_wp2
 go_end0
 exact ⟨rfl, below_a1 _ _⟩
set_option maxRecDepth 100000 in
theorem silent2_any (p n : ByteArray) (v : Value) (w : World) : Calls Tryz.prog 44 #[.string p, .string n, v] w fun e w' => e = .returned (.tuple #[]) ∧ w = w' := by
 go_enter Tryz.func44, Tryz.ntmps44
 go_wp2
 go_end0
 exact ⟨rfl, rfl⟩
set_option maxRecDepth 100000 in
theorem silent3_any (v : Value) (w : World) : Calls Tryz.prog 45 #[v] w fun e w' => e = .returned (.tuple #[]) ∧ w = w' := by
 go_enter Tryz.func45, Tryz.ntmps45
 go_wp2
 go_end0
 exact ⟨rfl, rfl⟩
set_option maxRecDepth 100000 in
theorem silent_any (w : World) : Calls Tryz.prog 21 #[] w fun e w' => e = .returned (.agg #[.func (.func 43) #[] #[], .func (.func 44) #[] #[], .func (.func 45) #[] #[]]) ∧ Below w.heap.size w w' := by
 go_enter Tryz.func21, Tryz.ntmps21
 go_wp2
 refine bodyPost_ret (v := .agg #[.func (.func 43) #[] #[], .func (.func 44) #[] #[], .func (.func 45) #[] #[]]) (by simp [results, Tryz.results21, go_sem]) rfl ?_
 exact ⟨rfl, below_a1 _ _⟩
end Go.Proofs.YtkonookacfmfgaaGreatDoor
