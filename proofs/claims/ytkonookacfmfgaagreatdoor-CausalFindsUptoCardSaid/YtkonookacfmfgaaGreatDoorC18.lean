/-
  novationref09.Same on one contract that lies in two places.
-/
import Derived.Test.YtkonookacfmfgaaGreatDoorC17
import Derived.Test.YtkonookacfmfgaaGreatDoorC07
namespace Go.Proofs.YtkonookacfmfgaaGreatDoor
open Go.RowKit
theorem rdDy_of_rdI {w : World} {l : List Int} {v : Value} (h : RdI w l v) : RdDy w l v := by
 obtain ⟨ad, cap, rfl, _, h2⟩ := h
 exact ⟨ad, cap, rfl, h2⟩
set_option maxHeartbeats 8000000 in
set_option maxRecDepth 100000 in
theorem rsameC_any : ∀ (B : Nat) (x : Con) (es dd ss es2 dd2 ss2 : Value) (w : World), x.bulk ≤ B → x.bulk ≤ 2000000 → RdN w x es dd ss → RdN w x es2 dd2 ss2 →
  Calls Tryz.prog 17 #[x.val es dd ss, x.val es2 dd2 ss2] w fun e w' => e = .returned (.bool true) ∧ Below w.heap.size w w' := by
 intro B
 induction B with
 | zero =>
  intro x es dd ss es2 dd2 ss2 w h0
  rw [Con.bulk_eq] at h0
  omega
 | succ B ih =>
  intro x es dd ss es2 dd2 ss2 w hB hM hs ht
  obtain ⟨ad, cap, rfl⟩ := hs.2.2.1.len
  obtain ⟨ad1, cap1, rfl⟩ := hs.1.len
  obtain ⟨ad2, cap2, rfl⟩ := hs.2.1.len
  obtain ⟨ae, cbp, rfl⟩ := ht.2.2.1.len
  obtain ⟨ae1, cbp1, rfl⟩ := ht.1.len
  obtain ⟨ae2, cbp2, rfl⟩ := ht.2.1.len
  have HS := Lib.hid hs
  have HT := Lib.hid ht
  have HI := Lib.hid ih
  have hlen := Con.bulks_len x.sub
  have hlt0 := x.sub_lt
  have hsq1 := x.bulk_eq
  have hn : x.sub.length ≤ 2000000 := by omega
  clear hs ht ih hsq1
  unfold Con.val
  go_enter Tryz.func17, Tryz.ntmps17
  go_wp2_with fail
  go_loopw [5] (fun i wr => ∃ k : Nat, k ≤ x.sub.length ∧ i = .int .i64 (k : Int) ∧ Below w.heap.size w wr ∧ BoxN wr w.heap.size 29 [.int .u8 x.k, .string x.fr, .string x.rc, .string x.nm, .int .u8 x.ex.k, .string x.ex.ra, .string x.ex.nm, .int .i64 x.ex.d, .slice ad1 x.ex.sub.length cap1, .int .i64 x.d, .slice ad2 x.ds.length cap2, .slice ad x.sub.length cap] ∧ BoxN wr (w.heap.size + 1) 29 [.int .u8 x.k, .string x.fr, .string x.rc, .string x.nm, .int .u8 x.ex.k, .string x.ex.ra, .string x.ex.nm, .int .i64 x.ex.d, .slice ae1 x.ex.sub.length cbp1, .int .i64 x.d, .slice ae2 x.ds.length cbp2, .slice ae x.sub.length cbp]) (fun i _ => x.sub.length - (intOf i).toNat)
  case atStart => exact ⟨0, Nat.zero_le _, rfl, below_a2 _ _ _, (BoxN.new w [.int .u8 x.k, .string x.fr, .string x.rc, .string x.nm, .int .u8 x.ex.k, .string x.ex.ra, .string x.ex.nm, .int .i64 x.ex.d, .slice ad1 x.ex.sub.length cap1, .int .i64 x.d, .slice ad2 x.ds.length cap2, .slice ad x.sub.length cap] _).alloc _, by have h := BoxN.new (w.alloc (.cells #[.int .u8 x.k, .string x.fr, .string x.rc, .string x.nm, .int .u8 x.ex.k, .string x.ex.ra, .string x.ex.nm, .int .i64 x.ex.d, .slice ad1 x.ex.sub.length cap1, .int .i64 x.d, .slice ad2 x.ds.length cap2, .slice ad x.sub.length cap] 29)) [.int .u8 x.k, .string x.fr, .string x.rc, .string x.nm, .int .u8 x.ex.k, .string x.ex.ra, .string x.ex.nm, .int .i64 x.ex.d, .slice ae1 x.ex.sub.length cbp1, .int .i64 x.d, .slice ae2 x.ds.length cbp2, .slice ae x.sub.length cbp] 29; rw [World.size_alloc] at h; exact h⟩
  case round =>
   obtain ⟨k, hk, rfl, hbel, hA, hB2⟩ := hrel
   have q0 : wr.cell? ⟨w.heap.size, 11, none⟩ = some (.slice ad x.sub.length cap) := hA.cell rfl
   have q1 : wr.cell? ⟨w.heap.size + 1, 11, none⟩ = some (.slice ae x.sub.length cbp) := hB2.cell rfl
   by_cases hlt : k < x.sub.length
   ·obtain ⟨y, hy⟩ : ∃ y, x.sub[k]? = some y := ⟨_, List.getElem?_eq_getElem hlt⟩
    obtain ⟨b, off, e9, d9, s9, rfl, hc, hs'⟩ := (HS.out.2.2.1.frame hbel).cells hy
    obtain ⟨b2, off2, e8, d8, s8, rfl, hd, ht'⟩ := (HT.out.2.2.1.frame hbel).cells hy
    have hk1 : (0 : Int) ≤ (k : Int) := by omega
    have hk2 : (k : Int) < (x.sub.length : Int) := by omega
    obtain ⟨c0, c1, c2, c3, c4, c5, c6, c7, c8, c9, c10, c11⟩ := hc
    obtain ⟨g0, g1, g2, g3, g4, g5, g6, g7, g8, g9, g10, g11⟩ := hd
    have hym := Con.mem_lt (List.mem_of_getElem? hy)
    have HC := Lib.hid fun (V : World) (hV : Below wr.heap.size wr V) => HI.out y e9 d9 s9 e8 d8 s8 V (by omega) (by omega) (hs'.frame hV) (ht'.frame hV)
    unfold Con.val at HC
    clear hy hym hs' ht'
    go_wp2_with fail
    refine wp_region_inv (fun L a w' => ∃ v0 v1 v2 v3 v4 v5 v6 v7 v8 v9 v10 v11, a = ⟨#[.agg #[.int .u8 (x.k : Int), .string x.fr, .string x.rc, .string x.nm, .int .u8 (x.ex.k : Int), .string x.ex.ra, .string x.ex.nm, .int .i64 x.ex.d, .slice ad1 x.ex.sub.length cap1, .int .i64 x.d, .slice ad2 x.ds.length cap2, .slice (some ⟨b, off, none⟩) x.sub.length cap], .agg #[.int .u8 (x.k : Int), .string x.fr, .string x.rc, .string x.nm, .int .u8 (x.ex.k : Int), .string x.ex.ra, .string x.ex.nm, .int .i64 x.ex.d, .slice ae1 x.ex.sub.length cbp1, .int .i64 x.d, .slice ae2 x.ds.length cbp2, .slice (some ⟨b2, off2, none⟩) x.sub.length cbp], .pointer (some ⟨w.heap.size, 0, none⟩), .pointer (some ⟨w.heap.size + 1, 0, none⟩), u4, .int .i64 (k : Int), .pointer (some ⟨w.heap.size, 0, none⟩), .int .u8 (x.k : Int), .pointer (some ⟨w.heap.size + 1, 0, none⟩), .int .u8 (x.k : Int), .bool false, .bool false, .pointer (some ⟨w.heap.size, 1, none⟩), .string x.fr, .pointer (some ⟨w.heap.size + 1, 1, none⟩), .string x.fr, .bool false, .bool false, .bool false, .pointer (some ⟨w.heap.size, 2, none⟩), .string x.rc, .pointer (some ⟨w.heap.size + 1, 2, none⟩), .string x.rc, .bool false, .bool false, .bool false, .pointer (some ⟨w.heap.size, 3, none⟩), .string x.nm, .pointer (some ⟨w.heap.size + 1, 3, none⟩), .string x.nm, .bool false, .bool false, .bool false, .pointer (some ⟨w.heap.size, 9, none⟩), .int .i64 x.d, .pointer (some ⟨w.heap.size + 1, 9, none⟩), .int .i64 x.d, .bool false, .bool false, .bool false, .pointer (some ⟨w.heap.size, 11, none⟩), .slice (some ⟨b, off, none⟩) x.sub.length cap, .int .i64 (x.sub.length : Int), .pointer (some ⟨w.heap.size + 1, 11, none⟩), .slice (some ⟨b2, off2, none⟩) x.sub.length cbp, .int .i64 (x.sub.length : Int), .bool false, .bool false, .int .i64 (k : Int), .pointer (some ⟨w.heap.size, 11, none⟩), .slice (some ⟨b, off, none⟩) x.sub.length cap, .int .i64 (x.sub.length : Int), .bool true, u53, u54, v0, v1, v2, v3, v4, v5, v6, v7, v8, v9, v10, v11, undef, undef, undef, undef, undef, undef, undef, undef, undef, undef, undef, undef], []⟩ ∧ VInv wr [.pointer (some ⟨w.heap.size, 11, none⟩), .slice (some ⟨b, off, none⟩) x.sub.length cap, .int .i64 (k : Int), .pointer (some ⟨b, off + k * 12, none⟩), .agg #[.int .u8 (y.k : Int), .string y.fr, .string y.rc, .string y.nm, .int .u8 (y.ex.k : Int), .string y.ex.ra, .string y.ex.nm, .int .i64 y.ex.d, e9, .int .i64 y.d, d9, s9], .pointer (some ⟨w.heap.size + 1, 11, none⟩), .slice (some ⟨b2, off2, none⟩) x.sub.length cbp, .int .i64 (k : Int), .pointer (some ⟨b2, off2 + k * 12, none⟩), .agg #[.int .u8 (y.k : Int), .string y.fr, .string y.rc, .string y.nm, .int .u8 (y.ex.k : Int), .string y.ex.ra, .string y.ex.nm, .int .i64 y.ex.d, e8, .int .i64 y.d, d8, s8], .bool true, .bool false] [v0, v1, v2, v3, v4, v5, v6, v7, v8, v9, v10, v11] L w') (by kernel_rfl) (by kernel_rfl) ?_ ?_ ?_
    ·exact ⟨_, _, _, _, _, _, _, _, _, _, _, _, rfl, VInv.start (below_drewN (Below.refl _ _) 1) rfl⟩
    ·rintro L a w' ⟨v0, v1, v2, v3, v4, v5, v6, v7, v8, v9, v10, v11, rfl, h⟩ i o ho hL hp
     have hi9 : i < 12 := by simpa using (Array.getElem?_eq_some_iff.1 ho).1
     have hi2 : i = 0 ∨ i = 1 ∨ i = 2 ∨ i = 3 ∨ i = 4 ∨ i = 5 ∨ i = 6 ∨ i = 7 ∨ i = 8 ∨ i = 9 ∨ i = 10 ∨ i = 11 := by omega
     clear hi9
     have hcb : ∀ p u, wr.cell? p = some u → w'.cell? p = some u := fun p u hu => by rw [h.b.cell (p := p) (World.block_lt_of_cell? wr _ hu)]; exact hu
     rcases hi2 with rfl | rfl | rfl | rfl | rfl | rfl | rfl | rfl | rfl | rfl | rfl | rfl
     ·refine wpOp_step rfl ?_
      intro K hK
      go_simp
      exact hK _ _ ⟨_, _, _, _, _, _, _, _, _, _, _, _, rfl, h.step (i := 0) (v := .pointer (some ⟨w.heap.size, 11, none⟩)) rfl⟩
     ·refine wpOp_step rfl ?_
      intro K hK
      obtain rfl := h.at (i := 0) (pred_spec ho hp (j := 0) (by kernel_rfl)) rfl rfl
      have z := hcb _ _ q0
      go_simp
      exact hK _ _ ⟨_, _, _, _, _, _, _, _, _, _, _, _, rfl, h.step (i := 1) (v := .slice (some ⟨b, off, none⟩) x.sub.length cap) rfl⟩
     ·refine wpOp_step rfl ?_
      intro K hK
      go_simp
      exact hK _ _ ⟨_, _, _, _, _, _, _, _, _, _, _, _, rfl, h.step (i := 2) (v := .int .i64 (k : Int)) rfl⟩
     ·refine wpOp_step rfl ?_
      intro K hK
      obtain rfl := h.at (i := 1) (pred_spec ho hp (j := 1) (by kernel_rfl)) rfl rfl
      obtain rfl := h.at (i := 2) (pred_spec ho hp (j := 2) (by kernel_rfl)) rfl rfl
      go_simp
      exact hK _ _ ⟨_, _, _, _, _, _, _, _, _, _, _, _, rfl, h.step (i := 3) (v := .pointer (some ⟨b, off + k * 12, none⟩)) rfl⟩
     ·refine wpOp_step rfl ?_
      intro K hK
      obtain rfl := h.at (i := 3) (pred_spec ho hp (j := 3) (by kernel_rfl)) rfl rfl
      have z0 := hcb _ _ c0
      have z1 := hcb _ _ c1
      have z2 := hcb _ _ c2
      have z3 := hcb _ _ c3
      have z4 := hcb _ _ c4
      have z5 := hcb _ _ c5
      have z6 := hcb _ _ c6
      have z7 := hcb _ _ c7
      have z8 := hcb _ _ c8
      have z9 := hcb _ _ c9
      have z10 := hcb _ _ c10
      have z11 := hcb _ _ c11
      go_simp
      exact hK _ _ ⟨_, _, _, _, _, _, _, _, _, _, _, _, rfl, h.step (i := 4) (v := .agg #[.int .u8 (y.k : Int), .string y.fr, .string y.rc, .string y.nm, .int .u8 (y.ex.k : Int), .string y.ex.ra, .string y.ex.nm, .int .i64 y.ex.d, e9, .int .i64 y.d, d9, s9]) rfl⟩
     ·refine wpOp_step rfl ?_
      intro K hK
      go_simp
      exact hK _ _ ⟨_, _, _, _, _, _, _, _, _, _, _, _, rfl, h.step (i := 5) (v := .pointer (some ⟨w.heap.size + 1, 11, none⟩)) rfl⟩
     ·refine wpOp_step rfl ?_
      intro K hK
      obtain rfl := h.at (i := 5) (pred_spec ho hp (j := 5) (by kernel_rfl)) rfl rfl
      have z := hcb _ _ q1
      go_simp
      exact hK _ _ ⟨_, _, _, _, _, _, _, _, _, _, _, _, rfl, h.step (i := 6) (v := .slice (some ⟨b2, off2, none⟩) x.sub.length cbp) rfl⟩
     ·refine wpOp_step rfl ?_
      intro K hK
      go_simp
      exact hK _ _ ⟨_, _, _, _, _, _, _, _, _, _, _, _, rfl, h.step (i := 7) (v := .int .i64 (k : Int)) rfl⟩
     ·refine wpOp_step rfl ?_
      intro K hK
      obtain rfl := h.at (i := 6) (pred_spec ho hp (j := 6) (by kernel_rfl)) rfl rfl
      obtain rfl := h.at (i := 7) (pred_spec ho hp (j := 7) (by kernel_rfl)) rfl rfl
      go_simp
      exact hK _ _ ⟨_, _, _, _, _, _, _, _, _, _, _, _, rfl, h.step (i := 8) (v := .pointer (some ⟨b2, off2 + k * 12, none⟩)) rfl⟩
     ·refine wpOp_step rfl ?_
      intro K hK
      obtain rfl := h.at (i := 8) (pred_spec ho hp (j := 8) (by kernel_rfl)) rfl rfl
      have z0 := hcb _ _ g0
      have z1 := hcb _ _ g1
      have z2 := hcb _ _ g2
      have z3 := hcb _ _ g3
      have z4 := hcb _ _ g4
      have z5 := hcb _ _ g5
      have z6 := hcb _ _ g6
      have z7 := hcb _ _ g7
      have z8 := hcb _ _ g8
      have z9 := hcb _ _ g9
      have z10 := hcb _ _ g10
      have z11 := hcb _ _ g11
      go_simp
      exact hK _ _ ⟨_, _, _, _, _, _, _, _, _, _, _, _, rfl, h.step (i := 9) (v := .agg #[.int .u8 (y.k : Int), .string y.fr, .string y.rc, .string y.nm, .int .u8 (y.ex.k : Int), .string y.ex.ra, .string y.ex.nm, .int .i64 y.ex.d, e8, .int .i64 y.d, d8, s8]) rfl⟩
     ·refine wpOp_step rfl ?_
      intro K hK
      obtain rfl := h.at (i := 4) (pred_spec ho hp (j := 4) (by kernel_rfl)) rfl rfl
      obtain rfl := h.at (i := 9) (pred_spec ho hp (j := 9) (by kernel_rfl)) rfl rfl
      go_simp
      refine (HC.out w' h.b).mono ?_
      rintro e w4 ⟨rfl, hb4⟩
      exact hK _ _ ⟨_, _, _, _, _, _, _, _, _, _, _, _, rfl, (h.ext hb4).step (i := 10) (v := .bool true) rfl⟩
     ·refine wpOp_step rfl ?_
      intro K hK
      obtain rfl := h.at (i := 10) (pred_spec ho hp (j := 10) (by kernel_rfl)) rfl rfl
      go_simp
      exact hK _ _ ⟨_, _, _, _, _, _, _, _, _, _, _, _, rfl, h.step (i := 11) (v := .bool false) rfl⟩
    ·rintro L a w1 ⟨v0, v1, v2, v3, v4, v5, v6, v7, v8, v9, v10, v11, rfl, h⟩ hall
     obtain rfl := h.at (i := 11) (hall 11 (by decide)) rfl rfl
     have hA2 := hA.below h.b hA.lt
     have hB3 := hB2.below h.b hB2.lt
     have hb2 := hbel.trans (h.b.mono hbel.size)
     clear h hall hbel q0 q1 hA hB2
     go_wp2
     go_roundw
     case rel => exact ⟨k + 1, by omega, by go_num, hb2, hA2, hB3⟩
     case measure => simp [intOf]; omega
   ·obtain rfl : k = x.sub.length := by omega
    have m4 : wr.cell? ⟨w.heap.size, 4, none⟩ = some (.int .u8 x.ex.k) := hA.cell rfl
    have n4 : wr.cell? ⟨w.heap.size + 1, 4, none⟩ = some (.int .u8 x.ex.k) := hB2.cell rfl
    have m5 : wr.cell? ⟨w.heap.size, 5, none⟩ = some (.string x.ex.ra) := hA.cell rfl
    have n5 : wr.cell? ⟨w.heap.size + 1, 5, none⟩ = some (.string x.ex.ra) := hB2.cell rfl
    have m6 : wr.cell? ⟨w.heap.size, 6, none⟩ = some (.string x.ex.nm) := hA.cell rfl
    have n6 : wr.cell? ⟨w.heap.size + 1, 6, none⟩ = some (.string x.ex.nm) := hB2.cell rfl
    have m7 : wr.cell? ⟨w.heap.size, 7, none⟩ = some (.int .i64 x.ex.d) := hA.cell rfl
    have n7 : wr.cell? ⟨w.heap.size + 1, 7, none⟩ = some (.int .i64 x.ex.d) := hB2.cell rfl
    have m8 : wr.cell? ⟨w.heap.size, 8, none⟩ = some (.slice ad1 x.ex.sub.length cap1) := hA.cell rfl
    have n8 : wr.cell? ⟨w.heap.size + 1, 8, none⟩ = some (.slice ae1 x.ex.sub.length cbp1) := hB2.cell rfl
    have m10 : wr.cell? ⟨w.heap.size, 10, none⟩ = some (.slice ad2 x.ds.length cap2) := hA.cell rfl
    have n10 : wr.cell? ⟨w.heap.size + 1, 10, none⟩ = some (.slice ae2 x.ds.length cbp2) := hB2.cell rfl
    have hexb : x.ex.bulk ≤ 2000000 := by have := x.bulk_eq; omega
    have HZ := Lib.hid (rsameE_any x.ex.bulk x.ex (.slice ad1 x.ex.sub.length cap1) (.slice ae1 x.ex.sub.length cbp1) wr (Nat.le_refl _) hexb (HS.out.1.frame hbel) (HT.out.1.frame hbel))
    unfold Ex.val at HZ
    go_wp2_with fail
    refine HZ.out.mono ?_
    rintro e w1 ⟨rfl, hb1⟩
    have m11 : w1.cell? ⟨w.heap.size, 10, none⟩ = some (.slice ad2 x.ds.length cap2) := (hA.below hb1 hA.lt).cell rfl
    have n11 : w1.cell? ⟨w.heap.size + 1, 10, none⟩ = some (.slice ae2 x.ds.length cbp2) := (hB2.below hb1 hB2.lt).cell rfl
    have hb2 := hbel.trans (hb1.mono hbel.size)
    have hdl : x.ds.length ≤ 4000000000000 := by have := x.bulk_eq; omega
    have HY := Lib.hid (r9_sameDays_any x.ds x.ds _ _ w1 (rdDy_of_rdI (HS.out.2.1.frame hb2)) (rdDy_of_rdI (HT.out.2.1.frame hb2)) hdl hdl)
    clear hb1 hbel hA hB2 q0 q1
    go_wp2_with fail
    refine HY.out.mono ?_
    rintro e w2 ⟨rfl, hb3⟩
    have hb4 := hb2.trans (hb3.mono hb2.size)
    clear hb3 hb2
    go_wp2
    go_ret
    exact ⟨ret_bool' (by simp), hb4⟩
end Go.Proofs.YtkonookacfmfgaaGreatDoor
