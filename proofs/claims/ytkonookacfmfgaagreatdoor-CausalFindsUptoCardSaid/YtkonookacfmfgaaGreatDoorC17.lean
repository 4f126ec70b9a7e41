/-
  (*novationref15.Found).expr. Days put into a sorted list one by one; plain. novationref08.Size, Depth; observable.Size. novationref08.Same on one tree that lies in two places. novationref09.SameDays (the text of XSameI, for the other function).
-/
import Derived.Test.YtkonookacfmfgaaGreatDoorC16
import Derived.Test.YtkonookacfmfgaaGreatDoorC08
import Derived.Test.YtkonookacfmfgaaGreatDoorC05
import Derived.Deep.CutBlock
import Derived.BigRegion
import Derived.Test.YtkonookacfmfgaaGreatDoorC15
import Derived.Test.YtkonookacfmfgaaGreatDoorC01
import Derived.Test.YtkonookacfmfgaaGreatDoorC04
import Derived.Test.YtkonookacfmfgaaGreatDoorC07
import Derived.Test.YtkonookacfmfgaaGreatDoorC12
namespace Go.Proofs.YtkonookacfmfgaaGreatDoor
open Go.RowKit
section
variable {W W' : World} {F : Nat} {N : List NdP} {C : List ChP} {D : List Int} {late : Bool}
theorem FSt.rdE (h : FSt W F N C D late) {xs : List Ex} {v : Value} (hx : RdE W xs v) (hg : W.grownBy W' (some F)) : RdE W' xs v := by
 obtain ⟨_, _, _, _, _, _, h0, _⟩ := h
 exact hx.box h0 (found_noint _ _ _ _ _ _ _ _ _ _) hg
theorem FSt.rdDy (h : FSt W F N C D late) {xs : List Int} {v : Value} (hx : RdDy W xs v) (hg : W.grownBy W' (some F)) : RdDy W' xs v := by
 obtain ⟨_, _, _, _, _, _, h0, _⟩ := h
 exact hx.box h0 (fun _ => found_noint _ _ _ _ _ _ _ _ _ _ _ _) hg
theorem FSt.int (h : FSt W F N C D late) {b o : Nat} {k : IntKind} {i : Int} (hc : W.cell? ⟨b, o, none⟩ = some (.int k i)) : b ≠ F := by
 obtain ⟨_, _, _, _, _, _, h0, _⟩ := h
 exact h0.apart hc (by simp)
theorem BoxN.grown {t : TypeId} {cs : List Value} {B : Nat} (h : BoxN W B t cs) (hg : W.grownBy W' (some F)) (hB : B ≠ F) : BoxN W' B t cs := h.of_block (hg.block _ h.lt (some_ne hB))
theorem FSt.lateAt (h : FSt W F N C D late) : W.cell? ⟨F, 3, none⟩ = some (.bool late) ∧ W.frozen? ⟨F, 3, none⟩ = false ∧ F < W.heap.size := by
 obtain ⟨_, _, _, _, _, _, h0, _⟩ := h
 exact ⟨h0.cell rfl, h0.frozen 3, h0.lt⟩
theorem FSt.setLate (h : FSt W F N C D late) (b : Bool) : FSt (W.setCell ⟨F, 3, none⟩ (.bool b)) F N C D b ∧ W.grownBy (W.setCell ⟨F, 3, none⟩ (.bool b)) (some F) := by
 have hg : W.grownBy (W.setCell ⟨F, 3, none⟩ (.bool b)) (some F) := grown_set (Below.refl _ _)
 obtain ⟨a1, c1, a2, c2, a3, c3, h0, h1, h2, h3⟩ := h
 exact ⟨⟨a1, c1, a2, c2, a3, c3, h0.set 3 _, h1.box h0 (found_nostr _ _ _ _ _ _ _ _ _ _) hg, h2.box h0 (found_nostr _ _ _ _ _ _ _ _ _ _) hg, h3.box h0 (fun _ => found_noint _ _ _ _ _ _ _ _ _ _ _ _) hg⟩, hg⟩
end
set_option maxHeartbeats 4000000 in
set_option maxRecDepth 100000 in
theorem fexpr_any : ∀ (B : Nat) (x : Ex) (s vd : Value) (F : Nat) (N : List NdP) (C : List ChP) (D : List Int) (late : Bool) (ds : List Int) (W : World), x.bulk ≤ B → x.bulk ≤ 2000000 → ds.length ≤ 2000000 → N.length ≤ 1001 →
  RdE W x.sub s → RdDy W ds vd → FSt W F N C D late →
  Calls Tryz.prog 78 #[.pointer (some ⟨F, 0, none⟩), x.val s, vd] W fun e W' => e = .returned (.tuple #[]) ∧ W.grownBy W' (some F) ∧ FSt W' F (insA ndLt 1000 N (x.nodes.flatMap (xNeed ds))) C D (late || x.nodes.any (xLate ds)) := by
 intro B
 induction B with
 | zero =>
  intro x s vd F N C D late ds W h0
  rw [Ex.bulk_eq] at h0
  omega
 | succ B ih =>
  intro x s vd F N C D late ds W hB hM hds hN hs hd hf
  obtain ⟨ad, cap, rfl⟩ := hs.len
  obtain ⟨dad, dcap, rfl, hdc⟩ := hd
  have HS := Lib.hid hs
  have HI := Lib.hid ih
  have HF := Lib.hid hf
  have HD := Lib.hid hdc
  have hF := hf.lt
  have hlen := Ex.bulks_len x.sub
  have hlt0 := x.sub_lt
  have hn : x.sub.length ≤ 2000000 := by omega
  clear hs ih hf hdc
  unfold Ex.val
  cases ds with
  | nil =>
   have HE : Hid (x.nodes.flatMap (xNeed []) = [] ∧ x.nodes.any (xLate []) = false) := Lib.hid ⟨by rw [List.flatMap_eq_nil_iff]; intro y _; rfl, by rw [List.any_eq_false]; intro y _; simp [xLate]⟩
   have hb1 := below_a1 W (.cells #[.int .u8 x.k, .string x.ra, .string x.nm, .int .i64 x.d, .slice ad x.sub.length cap] 25)
   go_enter Tryz.func78, Tryz.ntmps78
   go_wp2
   refine bodyPost_ret (results_none rfl _ _ _) rfl ?_
   refine ⟨rfl, grown_below hb1 F, ?_⟩
   rw [HE.out.1, HE.out.2, Bool.or_false]
   exact HF.out.low hb1
  | cons d0 r =>
   have tl : decide ((r.length : Int) + 1 = 0) = false := by rw [decide_eq_false_iff_not]; omega
   have hrl : r.length + 1 ≤ 2000000 := by simpa using hds
   obtain ⟨db, doff, rfl, hd0⟩ := HD.out 0 d0 rfl
   have hdbF := HF.out.int hd0
   have hx1 : ∃ W1, W.alloc (.cells #[.int .u8 x.k, .string x.ra, .string x.nm, .int .i64 x.d, .slice ad x.sub.length cap] 25) = W1 ∧ BoxN W1 W.heap.size 25 [.int .u8 x.k, .string x.ra, .string x.nm, .int .i64 x.d, .slice ad x.sub.length cap] ∧ FSt W1 F N C D late ∧ Below W.heap.size W W1 ∧ W.heap.size < W1.heap.size := ⟨_, rfl, BoxN.new _ [.int .u8 x.k, .string x.ra, .string x.nm, .int .i64 x.d, .slice ad x.sub.length cap] _, HF.out.low (below_a1 _ _), below_a1 _ _, by simp⟩
   obtain ⟨W1, hW1, bx, hf1, hb1, hz1⟩ := hx1
   have HF1 := Lib.hid hf1
   have HB1 := Lib.hid hb1
   have hXF : W.heap.size ≠ F := by omega
   have hd1 : W1.cell? ⟨db, doff, none⟩ = some (.int .i64 d0) := cell_below hb1 hd0
   obtain ⟨n, hnr⟩ : ∃ n, (d0 :: r).length = n := ⟨_, rfl⟩
   have HNR := Lib.hid hnr
   have hn0 : 0 < n := by rw [← hnr]; simp
   have hn0i : (0 : Int) < (n : Int) := by omega
   have tl : ((n : Int) == 0) = false := by rw [beq_eq_false_iff_ne]; omega
   have tl2 : decide ((n : Int) = 0) = false := by rw [decide_eq_false_iff_not]; omega
   rw [hnr] at hds ⊢
   clear hnr hd0
   have k0 : W1.cell? ⟨W.heap.size, 0, none⟩ = some (.int .u8 x.k) := bx.cell rfl
   have k2 : W1.cell? ⟨W.heap.size, 2, none⟩ = some (.string x.nm) := bx.cell rfl
   have k3 : W1.cell? ⟨W.heap.size, 3, none⟩ = some (.int .i64 x.d) := bx.cell rfl
   go_enter Tryz.func78, Tryz.ntmps78
   go_upto_block 0 with fail
   clear hW1 hf1 hb1
   go_cut [6] from 13 to 53 (fun _ wc => Hid (W.grownBy wc (some F) ∧ FSt wc F (insA ndLt 1000 N (xNeed (d0 :: r) x)) C D (late || xLate (d0 :: r) x)) ∧ BoxN wc W.heap.size 25 [.int .u8 x.k, .string x.ra, .string x.nm, .int .i64 x.d, .slice ad x.sub.length cap])
   case first =>
    by_cases h2 : x.k = 2
    ·have t2 : ((x.k : Int) == 2) = true := by rw [h2]; rfl
     have HX : Hid (xNeed (d0 :: r) x = [(x.nm, x.d)] ∧ xLate (d0 :: r) x = decide (d0 < x.d)) := Lib.hid ⟨by simp [xNeed, h2], by simp [xLate, h2]⟩
     clear h2
     have HC := Lib.hid (sneed_any HF1.out hN x.nm x.d)
     go_wp2_with fail
     refine HC.out.mono ?_
     rintro e w1 ⟨rfl, hg1, hf1⟩
     have bx1 := bx.grown hg1 hXF
     have q3 : w1.cell? ⟨W.heap.size, 3, none⟩ = some (.int .i64 x.d) := bx1.cell rfl
     have qd := hg1.cell hd1 (some_ne hdbF)
     have HF2 := Lib.hid hf1
     have HG2 := Lib.hid hg1
     have HBX := Lib.hid bx1
     obtain ⟨qf, zf, hlt⟩ := hf1.lateAt
     have hlt2 : W.heap.size < w1.heap.size := bx1.lt
     have hlt3 : db < w1.heap.size := World.block_lt_of_cell? w1 _ qd
     clear hg1 hf1 bx1 k0 k2 k3 HC t2 tl tl2 bx hd1
     cases late with
     | true =>
      go_upto_region 5 with fail
      go_region
      all_goals go_wp2
      all_goals go_meet
      all_goals exact ⟨Lib.hid ⟨((grown_below HB1.out F).trans HG2.out).trans ((HF2.out.setLate _).2.trans (grown_below (Below.refl _ _).drew F)), by rw [HX.out.1, HX.out.2]; exact (HF2.out.setLate _).1.low (Below.refl _ _).drew⟩, (HBX.out.grown (HF2.out.setLate _).2 hXF).of_block rfl⟩
     | false =>
      go_upto_region 5 with fail
      go_region
      all_goals go_wp2
      all_goals go_meet
      all_goals exact ⟨Lib.hid ⟨((grown_below HB1.out F).trans HG2.out).trans ((HF2.out.setLate _).2.trans (grown_below (Below.refl _ _).drew F)), by rw [HX.out.1, HX.out.2]; exact (HF2.out.setLate _).1.low (Below.refl _ _).drew⟩, (HBX.out.grown (HF2.out.setLate _).2 hXF).of_block rfl⟩
    ·have t2 : ((x.k : Int) == 2) = false := by rw [beq_eq_false_iff_ne]; omega
     by_cases h3 : x.k = 3
     ·have t3 : ((x.k : Int) == 3) = true := by rw [h3]; rfl
      have HX : Hid (xNeed (d0 :: r) x = (d0 :: r).map (fun d => (x.nm, d)) ∧ xLate (d0 :: r) x = false) := Lib.hid ⟨by simp [xNeed, h3], by simp [xLate, h3]⟩
      clear h2 h3
      go_wp2_with fail
      go_loopw [6] (fun i wr => ∃ k : Nat, k ≤ n ∧ i = .int .i64 (k : Int) ∧ Hid (W.grownBy wr (some F) ∧ FSt wr F (insA ndLt 1000 N (((d0 :: r).take k).map fun d => (x.nm, d))) C D late) ∧ BoxN wr W.heap.size 25 [.int .u8 x.k, .string x.ra, .string x.nm, .int .i64 x.d, .slice ad x.sub.length cap]) (fun i _ => n - (intOf i).toNat)
      case atStart => exact ⟨0, Nat.zero_le _, rfl, Lib.hid ⟨grown_below HB1.out F, HF1.out⟩, bx⟩
      case round =>
       obtain ⟨k, hk, rfl, HR, hbx⟩ := hrel
       by_cases hlt : k < n
       ·obtain ⟨d, hy⟩ : ∃ d, (d0 :: r)[k]? = some d := ⟨_, List.getElem?_eq_getElem (by rw [HNR.out]; exact hlt)⟩
        obtain ⟨db2, doff2, e2, y0⟩ := HD.out k d hy
        cases e2
        replace y0 := HR.out.1.cell y0 (some_ne hdbF)
        have e1 : wr.cell? ⟨W.heap.size, 2, none⟩ = some (.string x.nm) := hbx.cell rfl
        have hk1 : (0 : Int) ≤ (k : Int) := by omega
        have hk2 : (k : Int) < (n : Int) := by omega
        obtain ⟨LL, hLL⟩ : ∃ LL, insA ndLt 1000 N (((d0 :: r).take k).map fun d => (x.nm, d)) = LL := ⟨_, rfl⟩
        have HS2 : Hid (insA ndLt 1000 N (((d0 :: r).take (k + 1)).map fun d => (x.nm, d)) = insL ndLt 1000 LL (x.nm, d)) := Lib.hid (by rw [take_snoc_get hy, List.map_append, List.map_singleton, insA_snoc, hLL])
        have HLe : LL.length ≤ 1001 := hLL ▸ insA_le ndLt 1000 _ N hN
        rw [hLL] at HR
        have HC : Hid (∀ q, Calls Tryz.prog 113 #[.pointer (some ⟨F, 0, none⟩), .agg #[.string x.nm, .int .i64 d]] (wr.drewN q) fun e w4 => e = .returned (.tuple #[]) ∧ wr.grownBy w4 (some F) ∧ FSt w4 F (insL ndLt 1000 LL (x.nm, d)) C D late) := Lib.hid fun q => by
         refine (sneed_any (HR.out.2.low (below_drewN (Below.refl _ _) q)) HLe x.nm d).mono ?_
         rintro e w4 ⟨rfl, h7, h8⟩
         exact ⟨rfl, (grown_below (below_drewN (Below.refl _ _) q) F).trans h7, h8⟩
        have hSF : (some W.heap.size : Option Nat) ≠ some F := some_ne hXF
        have hDF : (some db : Option Nat) ≠ some F := some_ne hdbF
        clear hLL hy
        go_wp2_with fail
        refine wp_region_inv (fun L a w' => ∃ v0 v1 v2 v3 v4 v5 v6 v7 v8, a = ⟨#[.pointer (some ⟨F, 0, none⟩), .agg #[.int .u8 x.k, .string x.ra, .string x.nm, .int .i64 x.d, .slice ad x.sub.length cap], .slice (some ⟨db, doff, none⟩) n dcap, undef, .pointer (some ⟨W.heap.size, 0, none⟩), undef, .int .i64 (k : Int), undef, .slice (some ⟨db, doff, none⟩) n dcap, .int .i64 (n : Int), .bool false, .pointer (some ⟨W.heap.size, 0, none⟩), .int .u8 (x.k : Int), .bool false, .bool false, undef, undef, undef, undef, undef, undef, undef, undef, undef, undef, undef, undef, undef, undef, undef, undef, undef, undef, undef, undef, undef, undef, .bool true, .bool true, .int .i64 (k : Int), .slice (some ⟨db, doff, none⟩) n dcap, .int .i64 (n : Int), .bool true, u43, u44, v0, v1, v2, v3, v4, v5, v6, v7, v8, undef, undef, undef, undef, undef, undef, undef, undef, undef, undef, undef, undef, undef, undef, undef], []⟩ ∧ VInv w' [.pointer (some ⟨F, 0, none⟩), .pointer (some ⟨W.heap.size, 2, none⟩), .string x.nm, .slice (some ⟨db, doff, none⟩) n dcap, .int .i64 (k : Int), .pointer (some ⟨db, doff + k, none⟩), .int .i64 d, .agg #[.string x.nm, .int .i64 d], .tuple #[]] [v0, v1, v2, v3, v4, v5, v6, v7, v8] L w' ∧ wr.grownBy w' (some F) ∧ (L 8 = false → ∃ q, w' = wr.drewN q) ∧ (L 8 = true → Hid (FSt w' F (insL ndLt 1000 LL (x.nm, d)) C D late))) (by kernel_rfl) (by kernel_rfl) ?_ ?_ ?_
        ·exact ⟨_, _, _, _, _, _, _, _, _, rfl, VInv.start (Below.refl _ _) rfl, grown_below (below_drewN (Below.refl _ _) 1) F, fun _ => ⟨1, rfl⟩, fun h => by cases h⟩
        ·rintro L a w' ⟨v0, v1, v2, v3, v4, v5, v6, v7, v8, rfl, h, hg, hn0, hp0⟩ i o ho hL hp
         have hi9 : i < 9 := by simpa using (Array.getElem?_eq_some_iff.1 ho).1
         have hi2 : i = 0 ∨ i = 1 ∨ i = 2 ∨ i = 3 ∨ i = 4 ∨ i = 5 ∨ i = 6 ∨ i = 7 ∨ i = 8 := by omega
         clear hi9
         have e1' := hg.cell e1 hSF
         have y0' := hg.cell y0 hDF
         rcases hi2 with rfl | rfl | rfl | rfl | rfl | rfl | rfl | rfl | rfl
         ·refine wpOp_step rfl ?_
          intro K hK
          go_simp
          exact hK _ _ ⟨_, _, _, _, _, _, _, _, _, rfl, h.step (i := 0) (v := .pointer (some ⟨F, 0, none⟩)) rfl, hg, fun hh => hn0 (by simpa [upd] using hh), fun hh => hp0 (by simpa [upd] using hh)⟩
         ·refine wpOp_step rfl ?_
          intro K hK
          go_simp
          exact hK _ _ ⟨_, _, _, _, _, _, _, _, _, rfl, h.step (i := 1) (v := .pointer (some ⟨W.heap.size, 2, none⟩)) rfl, hg, fun hh => hn0 (by simpa [upd] using hh), fun hh => hp0 (by simpa [upd] using hh)⟩
         ·refine wpOp_step rfl ?_
          intro K hK
          obtain rfl := h.at (i := 1) (pred_spec ho hp (j := 1) (by kernel_rfl)) rfl rfl
          go_simp
          exact hK _ _ ⟨_, _, _, _, _, _, _, _, _, rfl, h.step (i := 2) (v := .string x.nm) rfl, hg, fun hh => hn0 (by simpa [upd] using hh), fun hh => hp0 (by simpa [upd] using hh)⟩
         ·refine wpOp_step rfl ?_
          intro K hK
          go_simp
          exact hK _ _ ⟨_, _, _, _, _, _, _, _, _, rfl, h.step (i := 3) (v := .slice (some ⟨db, doff, none⟩) n dcap) rfl, hg, fun hh => hn0 (by simpa [upd] using hh), fun hh => hp0 (by simpa [upd] using hh)⟩
         ·refine wpOp_step rfl ?_
          intro K hK
          go_simp
          exact hK _ _ ⟨_, _, _, _, _, _, _, _, _, rfl, h.step (i := 4) (v := .int .i64 (k : Int)) rfl, hg, fun hh => hn0 (by simpa [upd] using hh), fun hh => hp0 (by simpa [upd] using hh)⟩
         ·refine wpOp_step rfl ?_
          intro K hK
          obtain rfl := h.at (i := 3) (pred_spec ho hp (j := 3) (by kernel_rfl)) rfl rfl
          obtain rfl := h.at (i := 4) (pred_spec ho hp (j := 4) (by kernel_rfl)) rfl rfl
          go_simp
          exact hK _ _ ⟨_, _, _, _, _, _, _, _, _, rfl, h.step (i := 5) (v := .pointer (some ⟨db, doff + k, none⟩)) rfl, hg, fun hh => hn0 (by simpa [upd] using hh), fun hh => hp0 (by simpa [upd] using hh)⟩
         ·refine wpOp_step rfl ?_
          intro K hK
          obtain rfl := h.at (i := 5) (pred_spec ho hp (j := 5) (by kernel_rfl)) rfl rfl
          go_simp
          exact hK _ _ ⟨_, _, _, _, _, _, _, _, _, rfl, h.step (i := 6) (v := .int .i64 d) rfl, hg, fun hh => hn0 (by simpa [upd] using hh), fun hh => hp0 (by simpa [upd] using hh)⟩
         ·refine wpOp_step rfl ?_
          intro K hK
          obtain rfl := h.at (i := 2) (pred_spec ho hp (j := 2) (by kernel_rfl)) rfl rfl
          obtain rfl := h.at (i := 6) (pred_spec ho hp (j := 6) (by kernel_rfl)) rfl rfl
          go_simp
          exact hK _ _ ⟨_, _, _, _, _, _, _, _, _, rfl, h.step (i := 7) (v := .agg #[.string x.nm, .int .i64 d]) rfl, hg, fun hh => hn0 (by simpa [upd] using hh), fun hh => hp0 (by simpa [upd] using hh)⟩
         ·refine wpOp_step rfl ?_
          intro K hK
          obtain rfl := h.at (i := 0) (pred_spec ho hp (j := 0) (by kernel_rfl)) rfl rfl
          obtain rfl := h.at (i := 7) (pred_spec ho hp (j := 7) (by kernel_rfl)) rfl rfl
          obtain ⟨q, rfl⟩ := hn0 hL
          go_simp
          refine (HC.out q).mono ?_
          rintro e w4 ⟨rfl, h7, h8⟩
          replace h8 := Lib.hid h8
          exact hK _ _ ⟨_, _, _, _, _, _, _, _, _, rfl, VInv.step (i := 8) (v := .tuple #[]) ⟨Below.refl _ _, h.len, h.f⟩ rfl, h7, fun hh => by simp [upd] at hh, fun _ => h8⟩
        ·rintro L a w4 ⟨v0, v1, v2, v3, v4, v5, v6, v7, v8, rfl, h, hg, hn0, hp0⟩ hall
         have HN := hp0 (hall 8 (by decide))
         rw [← HS2.out] at HN
         have hbx4 := hbx.grown hg hXF
         have hgr4 := HR.out.1.trans hg
         clear h hall hn0 hp0 hg
         go_wp2
         go_roundw
         case rel => exact ⟨k + 1, by omega, by go_num, Lib.hid ⟨hgr4, HN.out⟩, hbx4⟩
         case measure => simp [intOf]; omega
       ·obtain rfl : k = n := by omega
        have HT : Hid (FSt wr F (insA ndLt 1000 N (xNeed (d0 :: r) x)) C D (late || xLate (d0 :: r) x)) := Lib.hid (by
         rw [HX.out.1, HX.out.2, Bool.or_false]
         have h := HR.out.2
         rw [List.take_of_length_le (by rw [HNR.out]; exact Nat.le_refl _)] at h
         exact h)
        go_wp2
        go_meet
        exact ⟨Lib.hid ⟨HR.out.1, HT.out⟩, hbx⟩
     ·have t3 : ((x.k : Int) == 3) = false := by rw [beq_eq_false_iff_ne]; omega
      have HX : Hid (xNeed (d0 :: r) x = [] ∧ xLate (d0 :: r) x = false) := Lib.hid ⟨by simp [xNeed, h2, h3], by simp [xLate, h2]⟩
      clear h2 h3
      go_wp2
      go_meet
      exact ⟨Lib.hid ⟨grown_below HB1.out F, by rw [HX.out.1, HX.out.2, Bool.or_false]; exact HF1.out⟩, bx⟩
   case rest =>
    obtain ⟨HR, hbx⟩ := hcut
    have HDy : Hid (RdDy W (d0 :: r) (.slice (some ⟨db, doff, none⟩) n dcap)) := Lib.hid ⟨_, _, by rw [HNR.out], fun j d hj => HD.out j d hj⟩
    clear hd1 k0 k2 k3 bx tl tl2
    go_wp2_with fail
    go_loopw [7] (fun i wr => ∃ k : Nat, k ≤ x.sub.length ∧ i = .int .i64 (k : Int) ∧ Hid (W.grownBy wr (some F) ∧ FSt wr F (insA ndLt 1000 N (xNeed (d0 :: r) x ++ (Ex.nodess (x.sub.take k)).flatMap (xNeed (d0 :: r)))) C D ((late || xLate (d0 :: r) x) || (Ex.nodess (x.sub.take k)).any (xLate (d0 :: r)))) ∧ BoxN wr W.heap.size 25 [.int .u8 x.k, .string x.ra, .string x.nm, .int .i64 x.d, .slice ad x.sub.length cap]) (fun i _ => x.sub.length - (intOf i).toNat)
    case atStart => exact ⟨0, Nat.zero_le _, rfl, Lib.hid ⟨HR.out.1, by rw [List.take_zero]; simpa [Ex.nodess] using HR.out.2⟩, hbx⟩
    case round =>
     obtain ⟨k, hk, rfl, HP, hbx2⟩ := hrel
     have q4 : wr.cell? ⟨W.heap.size, 4, none⟩ = some (.slice ad x.sub.length cap) := hbx2.cell rfl
     by_cases hlt : k < x.sub.length
     ·obtain ⟨y, hy⟩ : ∃ y, x.sub[k]? = some y := ⟨_, List.getElem?_eq_getElem hlt⟩
      obtain ⟨b, off, sy, rfl, c0, c1, c2, c3, c4, hs', _⟩ := (HF.out.rdE HS.out HP.out.1).at hy
      have hk1 : (0 : Int) ≤ (k : Int) := by omega
      have hk2 : (k : Int) < (x.sub.length : Int) := by omega
      have hym := Ex.mem_lt (List.mem_of_getElem? hy)
      have HZ : Hid (Ex.nodess (x.sub.take (k + 1)) = Ex.nodess (x.sub.take k) ++ y.nodes) := Lib.hid (Ex.nodess_snoc hy)
      have HC := Lib.hid (HI.out y sy _ F _ C D _ (d0 :: r) wr (by omega) (by omega) (by rw [HNR.out]; exact hds) (insA_le ndLt 1000 _ N hN) hs' (HF.out.rdDy HDy.out HP.out.1) HP.out.2)
      unfold Ex.val at HC
      clear hy hym hs'
      go_wp2_with fail
      refine HC.out.mono ?_
      rintro e w4 ⟨rfl, h7, h8⟩
      have HN : Hid (W.grownBy w4 (some F) ∧ FSt w4 F (insA ndLt 1000 N (xNeed (d0 :: r) x ++ (Ex.nodess (x.sub.take (k + 1))).flatMap (xNeed (d0 :: r)))) C D ((late || xLate (d0 :: r) x) || (Ex.nodess (x.sub.take (k + 1))).any (xLate (d0 :: r)))) := Lib.hid ⟨HP.out.1.trans h7, by
       rw [HZ.out, List.flatMap_append, ← List.append_assoc, insA_append, List.any_append, ← Bool.or_assoc]
       exact h8⟩
      have hbx4 := hbx2.grown h7 hXF
      clear h7 h8 HC q4 c0 c1 c2 c3 c4
      go_wp2
      go_roundw
      case rel => exact ⟨k + 1, by omega, by go_num, HN, hbx4⟩
      case measure => simp [intOf]; omega
     ·obtain rfl : k = x.sub.length := by omega
      have HT : Hid (FSt wr F (insA ndLt 1000 N (x.nodes.flatMap (xNeed (d0 :: r)))) C D (late || x.nodes.any (xLate (d0 :: r)))) := Lib.hid (by
       have h := HP.out.2
       rw [List.take_length, Bool.or_assoc] at h
       rw [Ex.nodes_eq, List.flatMap_cons, List.any_cons]
       exact h)
      go_wp2
      go_end0
      exact ⟨rfl, HP.out.1, HT.out⟩
end Go.Proofs.YtkonookacfmfgaaGreatDoor

namespace Go.Proofs.YtkonookacfmfgaaGreatDoor
open Go.RowKit
noncomputable def dayInsA (l ns : List Int) : List Int := ns.foldl dayIns l
theorem dayInsA_append (l a b : List Int) : dayInsA l (a ++ b) = dayInsA (dayInsA l a) b := by unfold dayInsA; rw [List.foldl_append]
theorem dayInsA_snoc (l ns : List Int) (x : Int) : dayInsA l (ns ++ [x]) = dayIns (dayInsA l ns) x := by rw [dayInsA_append]; rfl
theorem dayIns_le (l : List Int) (x : Int) : (dayIns l x).length ≤ l.length + 1 := by
 unfold dayIns
 split
 ·omega
 ·exact insP_le dayLt x l
theorem dayInsA_le : ∀ (ns l : List Int), (dayInsA l ns).length ≤ l.length + ns.length
 | [], l => by simp [dayInsA]
 | n :: ns, l => by
  have h1 := dayInsA_le ns (dayIns l n)
  have h2 := dayIns_le l n
  have h3 : dayInsA l (n :: ns) = dayInsA (dayIns l n) ns := rfl
  rw [h3, List.length_cons]
  omega
theorem dayIns_law {l : List Int} (hl : Srt dayLt l) (x : Int) : Srt dayLt (dayIns l x) ∧ ∀ z, z ∈ dayIns l x ↔ z = x ∨ z ∈ l := by
 unfold dayIns
 by_cases hx : x ∈ l
 ·rw [if_pos (eqB_true hx)]
  exact ⟨hl, fun z => ⟨.inr, fun h => by rcases h with rfl | h; exact hx; exact h⟩⟩
 ·rw [if_neg (by rw [eqB_iff]; exact hx)]
  exact ⟨insD_srt day_sto hl hx, insD_mem dayLt x l⟩
theorem dayInsA_law : ∀ (ns l : List Int), Srt dayLt l → Srt dayLt (dayInsA l ns) ∧ ∀ z, z ∈ dayInsA l ns ↔ z ∈ l ∨ z ∈ ns
 | [], l, hl => ⟨hl, fun z => ⟨.inl, fun h => by rcases h with h | h; exact h; cases h⟩⟩
 | x :: ns, l, hl => by
  obtain ⟨h1, h2⟩ := dayIns_law hl x
  obtain ⟨h3, h4⟩ := dayInsA_law ns (dayIns l x) h1
  refine ⟨h3, fun z => (h4 z).trans ?_⟩
  rw [h2, List.mem_cons]
  constructor
  ·rintro ((h | h) | h)
   ·exact .inr (.inl h)
   ·exact .inl h
   ·exact .inr (.inr h)
  ·rintro (h | h | h)
   ·exact .inl (.inr h)
   ·exact .inl (.inl h)
   ·exact .inr h
end Go.Proofs.YtkonookacfmfgaaGreatDoor

namespace Go.Proofs.YtkonookacfmfgaaGreatDoor
open Go.RowKit
set_option maxHeartbeats 1000000 in
set_option maxRecDepth 100000 in
theorem rsize_any : ∀ (N : Nat) (x : Ex) (s : Value) (w : World), x.bulk ≤ N → x.bulk ≤ 2000000 → RdE w x.sub s →
  Calls Tryz.prog 42 #[x.val s] w fun e w' => e = .returned (.int .i64 (x.size : Int)) ∧ Below w.heap.size w w' := by
 intro N
 induction N with
 | zero =>
  intro x s w h0 _ _
  rw [Ex.bulk_eq] at h0
  omega
 | succ N ih =>
  intro x s w hN hB hs
  obtain ⟨ad, cap, rfl⟩ := hs.len
  have HS := Lib.hid hs
  have HI := Lib.hid ih
  have hlen := Ex.bulks_len x.sub
  have hlt0 := x.sub_lt
  have hsz := x.size_le
  have hsq := x.size_eq
  have hn : x.sub.length ≤ 2000000 := by omega
  have hb0 := below_a1 w (.cells #[.int .u8 x.k, .string x.ra, .string x.nm, .int .i64 x.d, .slice ad x.sub.length cap] 25)
  clear hs ih
  unfold Ex.val
  go_enter Tryz.func42, Tryz.ntmps42
  go_wp2_with fail
  go_loopw [3, 4] (fun n i wr => ∃ (k S : Nat), k ≤ x.sub.length ∧ i = .int .i64 (k : Int) ∧ n = .int .i64 (S : Int) ∧ S ≤ 2000000 ∧ Hid (S = 1 + Ex.sizes (x.sub.take k)) ∧ Below w.heap.size w wr ∧ wr.cell? ⟨w.heap.size, 4, none⟩ = some (.slice ad x.sub.length cap)) (fun _ i _ => x.sub.length - (intOf i).toNat)
  case atStart => exact ⟨0, 1, Nat.zero_le _, rfl, rfl, by omega, rfl, hb0, by go_simp⟩
  case round =>
   clear hb0
   obtain ⟨k, S, hk, rfl, rfl, hS, HSz, hbel, q0⟩ := hrel
   by_cases hlt : k < x.sub.length
   ·obtain ⟨y, hy⟩ : ∃ y, x.sub[k]? = some y := ⟨_, List.getElem?_eq_getElem hlt⟩
    obtain ⟨b, off, s', rfl, c0, c1, c2, c3, c4, hs', _⟩ := (HS.out.frame hbel).at hy
    have hym := Ex.mem_lt (List.mem_of_getElem? hy)
    have hblk : b < wr.heap.size := World.block_lt_of_cell? wr _ c0
    have hbx : w.heap.size < wr.heap.size := World.block_lt_of_cell? wr _ q0
    have hzw := hbel.size
    have HSn : Hid (S + y.size = 1 + Ex.sizes (x.sub.take (k + 1))) := by show _ = _; rw [Ex.sizes_snoc hy, HSz.out]; omega
    have hSn : S + y.size ≤ 2000000 := by have := HSn.out; have := Ex.sizes_take x.sub (k + 1); omega
    have e1 : IntKind.i64.wrap ((S : Int) + (y.size : Int)) = ((S + y.size : Nat) : Int) := by rw [IntWalk.i64_in _ (by omega)]; omega
    have hk1 : (0 : Int) ≤ (k : Int) := by omega
    have hk2 : (k : Int) < (x.sub.length : Int) := by omega
    have HC := Lib.hid (HI.out y s' wr (by omega) (by omega) hs')
    unfold Ex.val at HC
    clear hy hym hs'
    go_wp2_with fail
    refine HC.out.mono ?_
    rintro e w1 ⟨rfl, hb1⟩
    have q1 : w1.cell? ⟨w.heap.size, 4, none⟩ = some (.slice (some ⟨b, off, none⟩) x.sub.length cap) := by rw [hb1.cell (p := ⟨w.heap.size, 4, none⟩) hbx]; exact q0
    have hb2 := hbel.trans (hb1.mono hzw)
    clear hb1 hbel q0
    go_wp2
    go_roundw
    case rel => exact ⟨k + 1, S + y.size, by omega, by go_num, rfl, hSn, HSn, hb2, q1⟩
    case measure => simp [intOf]; omega
   ·obtain rfl : k = x.sub.length := by omega
    have HF : Hid ((S : Int) = (x.size : Int)) := by
     show _ = _
     have h := HSz.out
     rw [List.take_length] at h
     omega
    go_wp2
    go_ret
    exact ⟨by rw [HF.out]; rfl, hbel⟩
set_option maxHeartbeats 1000000 in
set_option maxRecDepth 100000 in
theorem osize_any : ∀ (N : Nat) (x : Ex) (s : Value) (w : World), x.bulk ≤ N → x.bulk ≤ 2000000 → RdE w x.sub s →
  Calls Tryz.prog 84 #[x.val s] w fun e w' => e = .returned (.int .i64 (x.size : Int)) ∧ Below w.heap.size w w' := by
 intro N
 induction N with
 | zero =>
  intro x s w h0 _ _
  rw [Ex.bulk_eq] at h0
  omega
 | succ N ih =>
  intro x s w hN hB hs
  obtain ⟨ad, cap, rfl⟩ := hs.len
  have HS := Lib.hid hs
  have HI := Lib.hid ih
  have hlen := Ex.bulks_len x.sub
  have hlt0 := x.sub_lt
  have hsz := x.size_le
  have hsq := x.size_eq
  have hn : x.sub.length ≤ 2000000 := by omega
  have hb0 := below_a1 w (.cells #[.int .u8 x.k, .string x.ra, .string x.nm, .int .i64 x.d, .slice ad x.sub.length cap] 25)
  clear hs ih
  unfold Ex.val
  go_enter Tryz.func84, Tryz.ntmps84
  go_wp2_with fail
  go_loopw [3, 9] (fun n i wr => ∃ (k S : Nat), k ≤ x.sub.length ∧ i = .int .i64 (k : Int) ∧ n = .int .i64 (S : Int) ∧ S ≤ 2000000 ∧ Hid (S = 1 + Ex.sizes (x.sub.take k)) ∧ Below w.heap.size w wr ∧ wr.cell? ⟨w.heap.size, 4, none⟩ = some (.slice ad x.sub.length cap)) (fun _ i _ => x.sub.length - (intOf i).toNat)
  case atStart => exact ⟨0, 1, Nat.zero_le _, rfl, rfl, by omega, rfl, hb0, by go_simp⟩
  case round =>
   clear hb0
   obtain ⟨k, S, hk, rfl, rfl, hS, HSz, hbel, q0⟩ := hrel
   by_cases hlt : k < x.sub.length
   ·obtain ⟨y, hy⟩ : ∃ y, x.sub[k]? = some y := ⟨_, List.getElem?_eq_getElem hlt⟩
    obtain ⟨b, off, s', rfl, c0, c1, c2, c3, c4, hs', _⟩ := (HS.out.frame hbel).at hy
    obtain ⟨ad', cap', rfl⟩ := hs'.len
    have hym := Ex.mem_lt (List.mem_of_getElem? hy)
    have hblk : b < wr.heap.size := World.block_lt_of_cell? wr _ c0
    have hbx : w.heap.size < wr.heap.size := World.block_lt_of_cell? wr _ q0
    have hzw := hbel.size
    have HSn : Hid (S + y.size = 1 + Ex.sizes (x.sub.take (k + 1))) := by show _ = _; rw [Ex.sizes_snoc hy, HSz.out]; omega
    have hSn : S + y.size ≤ 2000000 := by have := HSn.out; have := Ex.sizes_take x.sub (k + 1); omega
    have e1 : IntKind.i64.wrap ((S : Int) + (y.size : Int)) = ((S + y.size : Nat) : Int) := by rw [IntWalk.i64_in _ (by omega)]; omega
    have hk1 : (0 : Int) ≤ (k : Int) := by omega
    have hk2 : (k : Int) < (x.sub.length : Int) := by omega
    have HC := Lib.hid (HI.out y _ (wr.alloc (.cells #[.int .u8 y.k, .string y.ra, .string y.nm, .int .i64 y.d, .slice ad' y.sub.length cap'] 25)) (by omega) (by omega) (hs'.frame (below_a1 _ _)))
    unfold Ex.val at HC
    clear hy hym hs'
    go_wp2_with fail
    refine HC.out.mono ?_
    rintro e w1 ⟨rfl, hb1⟩
    have q1 : w1.cell? ⟨w.heap.size, 4, none⟩ = some (.slice (some ⟨b, off, none⟩) x.sub.length cap) := by rw [hb1.cell (p := ⟨w.heap.size, 4, none⟩) (by simp; omega)]; go_simp
    have hb2 := (hbel.alloc hzw _).trans (hb1.mono (by simp; omega))
    clear hb1 hbel q0
    go_wp2
    go_roundw
    case rel => exact ⟨k + 1, S + y.size, by omega, by go_num, rfl, hSn, HSn, hb2, q1⟩
    case measure => simp [intOf]; omega
   ·obtain rfl : k = x.sub.length := by omega
    have HF : Hid ((S : Int) = (x.size : Int)) := by
     show _ = _
     have h := HSz.out
     rw [List.take_length] at h
     omega
    go_wp2
    go_ret
    exact ⟨by rw [HF.out]; rfl, hbel⟩
end Go.Proofs.YtkonookacfmfgaaGreatDoor

namespace Go.Proofs.YtkonookacfmfgaaGreatDoor
open Go.RowKit
set_option maxHeartbeats 4000000 in
set_option maxRecDepth 100000 in
theorem rsameE_any : ∀ (B : Nat) (x : Ex) (s t : Value) (w : World), x.bulk ≤ B → x.bulk ≤ 2000000 → RdE w x.sub s → RdE w x.sub t →
  Calls Tryz.prog 39 #[x.val s, x.val t] w fun e w' => e = .returned (.bool true) ∧ Below w.heap.size w w' := by
 intro B
 induction B with
 | zero =>
  intro x s t w h0
  rw [Ex.bulk_eq] at h0
  omega
 | succ B ih =>
  intro x s t w hB hM hs ht
  obtain ⟨ad, cap, rfl⟩ := hs.len
  obtain ⟨ae, cbp, rfl⟩ := ht.len
  have HS := Lib.hid hs
  have HT := Lib.hid ht
  have HI := Lib.hid ih
  have hlen := Ex.bulks_len x.sub
  have hlt0 := x.sub_lt
  have hn : x.sub.length ≤ 2000000 := by omega
  have hb0 := below_a2 w (.cells #[.int .u8 x.k, .string x.ra, .string x.nm, .int .i64 x.d, .slice ad x.sub.length cap] 25) (.cells #[.int .u8 x.k, .string x.ra, .string x.nm, .int .i64 x.d, .slice ae x.sub.length cbp] 25)
  clear hs ht ih
  unfold Ex.val
  go_enter Tryz.func39, Tryz.ntmps39
  go_wp2_with fail
  go_loopw [5] (fun i wr => ∃ k : Nat, k ≤ x.sub.length ∧ i = .int .i64 (k : Int) ∧ Below w.heap.size w wr ∧ wr.cell? ⟨w.heap.size, 4, none⟩ = some (.slice ad x.sub.length cap) ∧ wr.cell? ⟨w.heap.size + 1, 4, none⟩ = some (.slice ae x.sub.length cbp)) (fun i _ => x.sub.length - (intOf i).toNat)
  case atStart => exact ⟨0, Nat.zero_le _, rfl, hb0, by go_simp, by go_simp⟩
  case round =>
   clear hb0
   obtain ⟨k, hk, rfl, hbel, q0, q1⟩ := hrel
   by_cases hlt : k < x.sub.length
   ·obtain ⟨y, hy⟩ : ∃ y, x.sub[k]? = some y := ⟨_, List.getElem?_eq_getElem hlt⟩
    obtain ⟨b, off, s', rfl, c0, c1, c2, c3, c4, hs', _⟩ := (HS.out.frame hbel).at hy
    obtain ⟨b2, off2, t', rfl, d0, d1, d2, d3, d4, ht', _⟩ := (HT.out.frame hbel).at hy
    have hym := Ex.mem_lt (List.mem_of_getElem? hy)
    have hbx : w.heap.size < wr.heap.size := World.block_lt_of_cell? wr _ q0
    have hbx1 : w.heap.size + 1 < wr.heap.size := World.block_lt_of_cell? wr _ q1
    have hzw := hbel.size
    have hk1 : (0 : Int) ≤ (k : Int) := by omega
    have hk2 : (k : Int) < (x.sub.length : Int) := by omega
    have HC := Lib.hid fun (V : World) (hV : Below wr.heap.size wr V) => HI.out y s' t' V (by omega) (by omega) (hs'.frame hV) (ht'.frame hV)
    unfold Ex.val at HC
    clear hy hym hs' ht'
    go_wp2_with fail
    refine wp_region_inv (fun L a w' => ∃ v0 v1 v2 v3 v4 v5 v6 v7 v8 v9 v10 v11, a = ⟨#[.agg #[.int .u8 (x.k : Int), .string x.ra, .string x.nm, .int .i64 x.d, .slice (some ⟨b, off, none⟩) x.sub.length cap], .agg #[.int .u8 (x.k : Int), .string x.ra, .string x.nm, .int .i64 x.d, .slice (some ⟨b2, off2, none⟩) x.sub.length cbp], .pointer (some ⟨w.heap.size, 0, none⟩), .pointer (some ⟨w.heap.size + 1, 0, none⟩), u4, .int .i64 (k : Int), .pointer (some ⟨w.heap.size, 0, none⟩), .int .u8 (x.k : Int), .pointer (some ⟨w.heap.size + 1, 0, none⟩), .int .u8 (x.k : Int), .bool false, .bool false, .pointer (some ⟨w.heap.size, 1, none⟩), .string x.ra, .pointer (some ⟨w.heap.size + 1, 1, none⟩), .string x.ra, .bool false, .bool false, .bool false, .pointer (some ⟨w.heap.size, 2, none⟩), .string x.nm, .pointer (some ⟨w.heap.size + 1, 2, none⟩), .string x.nm, .bool false, .bool false, .bool false, .pointer (some ⟨w.heap.size, 3, none⟩), .int .i64 x.d, .pointer (some ⟨w.heap.size + 1, 3, none⟩), .int .i64 x.d, .bool false, .bool false, .bool false, .pointer (some ⟨w.heap.size, 4, none⟩), .slice (some ⟨b, off, none⟩) x.sub.length cap, .int .i64 (x.sub.length : Int), .pointer (some ⟨w.heap.size + 1, 4, none⟩), .slice (some ⟨b2, off2, none⟩) x.sub.length cbp, .int .i64 (x.sub.length : Int), .bool false, .bool false, .int .i64 (k : Int), .pointer (some ⟨w.heap.size, 4, none⟩), .slice (some ⟨b, off, none⟩) x.sub.length cap, .int .i64 (x.sub.length : Int), .bool true, u46, u47, v0, v1, v2, v3, v4, v5, v6, v7, v8, v9, v10, v11], []⟩ ∧ VInv wr [.pointer (some ⟨w.heap.size, 4, none⟩), .slice (some ⟨b, off, none⟩) x.sub.length cap, .int .i64 (k : Int), .pointer (some ⟨b, off + k * 5, none⟩), .agg #[.int .u8 (y.k : Int), .string y.ra, .string y.nm, .int .i64 y.d, s'], .pointer (some ⟨w.heap.size + 1, 4, none⟩), .slice (some ⟨b2, off2, none⟩) x.sub.length cbp, .int .i64 (k : Int), .pointer (some ⟨b2, off2 + k * 5, none⟩), .agg #[.int .u8 (y.k : Int), .string y.ra, .string y.nm, .int .i64 y.d, t'], .bool true, .bool false] [v0, v1, v2, v3, v4, v5, v6, v7, v8, v9, v10, v11] L w') (by kernel_rfl) (by kernel_rfl) ?_ ?_ ?_
    ·exact ⟨_, _, _, _, _, _, _, _, _, _, _, _, rfl, VInv.start (below_drewN (Below.refl _ _) 1) rfl⟩
    ·rintro L a w' ⟨v0, v1, v2, v3, v4, v5, v6, v7, v8, v9, v10, v11, rfl, h⟩ i o ho hL hp
     have hi9 : i < 12 := by simpa using (Array.getElem?_eq_some_iff.1 ho).1
     have hi2 : i = 0 ∨ i = 1 ∨ i = 2 ∨ i = 3 ∨ i = 4 ∨ i = 5 ∨ i = 6 ∨ i = 7 ∨ i = 8 ∨ i = 9 ∨ i = 10 ∨ i = 11 := by omega
     clear hi9
     have hcb : ∀ p u, wr.cell? p = some u → w'.cell? p = some u := fun p u hu => by rw [h.b.cell (p := p) (World.block_lt_of_cell? wr _ hu)]; exact hu
     rcases hi2 with rfl | rfl | rfl | rfl | rfl | rfl | rfl | rfl | rfl | rfl | rfl | rfl
     ·refine wpOp_step rfl ?_
      intro K hK
      go_simp
      exact hK _ _ ⟨_, _, _, _, _, _, _, _, _, _, _, _, rfl, h.step (i := 0) (v := .pointer (some ⟨w.heap.size, 4, none⟩)) rfl⟩
     ·refine wpOp_step rfl ?_
      intro K hK
      obtain rfl := h.at (i := 0) (pred_spec ho hp (j := 0) (by kernel_rfl)) rfl rfl
      have z := hcb _ _ q0
      go_simp
      exact hK _ _ ⟨_, _, _, _, _, _, _, _, _, _, _, _, rfl, h.step (i := 1) (v := .slice (some ⟨b, off, none⟩) x.sub.length cap) rfl⟩
     ·refine wpOp_step rfl ?_
      intro K hK
      go_simp
      exact hK _ _ ⟨_, _, _, _, _, _, _, _, _, _, _, _, rfl, h.step (i := 2) (v := .int .i64 (k : Int)) rfl⟩
     ·refine wpOp_step rfl ?_
      intro K hK
      obtain rfl := h.at (i := 1) (pred_spec ho hp (j := 1) (by kernel_rfl)) rfl rfl
      obtain rfl := h.at (i := 2) (pred_spec ho hp (j := 2) (by kernel_rfl)) rfl rfl
      go_simp
      exact hK _ _ ⟨_, _, _, _, _, _, _, _, _, _, _, _, rfl, h.step (i := 3) (v := .pointer (some ⟨b, off + k * 5, none⟩)) rfl⟩
     ·refine wpOp_step rfl ?_
      intro K hK
      obtain rfl := h.at (i := 3) (pred_spec ho hp (j := 3) (by kernel_rfl)) rfl rfl
      have z0 := hcb _ _ c0
      have z1 := hcb _ _ c1
      have z2 := hcb _ _ c2
      have z3 := hcb _ _ c3
      have z4 := hcb _ _ c4
      go_simp
      exact hK _ _ ⟨_, _, _, _, _, _, _, _, _, _, _, _, rfl, h.step (i := 4) (v := .agg #[.int .u8 (y.k : Int), .string y.ra, .string y.nm, .int .i64 y.d, s']) rfl⟩
     ·refine wpOp_step rfl ?_
      intro K hK
      go_simp
      exact hK _ _ ⟨_, _, _, _, _, _, _, _, _, _, _, _, rfl, h.step (i := 5) (v := .pointer (some ⟨w.heap.size + 1, 4, none⟩)) rfl⟩
     ·refine wpOp_step rfl ?_
      intro K hK
      obtain rfl := h.at (i := 5) (pred_spec ho hp (j := 5) (by kernel_rfl)) rfl rfl
      have z := hcb _ _ q1
      go_simp
      exact hK _ _ ⟨_, _, _, _, _, _, _, _, _, _, _, _, rfl, h.step (i := 6) (v := .slice (some ⟨b2, off2, none⟩) x.sub.length cbp) rfl⟩
     ·refine wpOp_step rfl ?_
      intro K hK
      go_simp
      exact hK _ _ ⟨_, _, _, _, _, _, _, _, _, _, _, _, rfl, h.step (i := 7) (v := .int .i64 (k : Int)) rfl⟩
     ·refine wpOp_step rfl ?_
      intro K hK
      obtain rfl := h.at (i := 6) (pred_spec ho hp (j := 6) (by kernel_rfl)) rfl rfl
      obtain rfl := h.at (i := 7) (pred_spec ho hp (j := 7) (by kernel_rfl)) rfl rfl
      go_simp
      exact hK _ _ ⟨_, _, _, _, _, _, _, _, _, _, _, _, rfl, h.step (i := 8) (v := .pointer (some ⟨b2, off2 + k * 5, none⟩)) rfl⟩
     ·refine wpOp_step rfl ?_
      intro K hK
      obtain rfl := h.at (i := 8) (pred_spec ho hp (j := 8) (by kernel_rfl)) rfl rfl
      have z0 := hcb _ _ d0
      have z1 := hcb _ _ d1
      have z2 := hcb _ _ d2
      have z3 := hcb _ _ d3
      have z4 := hcb _ _ d4
      go_simp
      exact hK _ _ ⟨_, _, _, _, _, _, _, _, _, _, _, _, rfl, h.step (i := 9) (v := .agg #[.int .u8 (y.k : Int), .string y.ra, .string y.nm, .int .i64 y.d, t']) rfl⟩
     ·refine wpOp_step rfl ?_
      intro K hK
      obtain rfl := h.at (i := 4) (pred_spec ho hp (j := 4) (by kernel_rfl)) rfl rfl
      obtain rfl := h.at (i := 9) (pred_spec ho hp (j := 9) (by kernel_rfl)) rfl rfl
      go_simp
      refine (HC.out w' h.b).mono ?_
      rintro e w4 ⟨rfl, hb4⟩
      exact hK _ _ ⟨_, _, _, _, _, _, _, _, _, _, _, _, rfl, (h.ext hb4).step (i := 10) (v := .bool true) rfl⟩
     ·refine wpOp_step rfl ?_
      intro K hK
      obtain rfl := h.at (i := 10) (pred_spec ho hp (j := 10) (by kernel_rfl)) rfl rfl
      go_simp
      exact hK _ _ ⟨_, _, _, _, _, _, _, _, _, _, _, _, rfl, h.step (i := 11) (v := .bool false) rfl⟩
    ·rintro L a w1 ⟨v0, v1, v2, v3, v4, v5, v6, v7, v8, v9, v10, v11, rfl, h⟩ hall
     obtain rfl := h.at (i := 11) (hall 11 (by decide)) rfl rfl
     have q2 := (h.b.cell (p := ⟨w.heap.size, 4, none⟩) hbx).trans q0
     have q3 := (h.b.cell (p := ⟨w.heap.size + 1, 4, none⟩) hbx1).trans q1
     have hb2 := hbel.trans (h.b.mono hzw)
     clear h hall hbel q0 q1
     go_wp2
     go_roundw
     case rel => exact ⟨k + 1, by omega, by go_num, hb2, q2, q3⟩
     case measure => simp [intOf]; omega
   ·obtain rfl : k = x.sub.length := by omega
    go_wp2
    go_ret
    exact ⟨rfl, hbel⟩
end Go.Proofs.YtkonookacfmfgaaGreatDoor

namespace Go.Proofs.YtkonookacfmfgaaGreatDoor
open Go.RowKit
set_option maxHeartbeats 4000000 in
set_option maxRecDepth 100000 in
theorem r9_sameDays_any (a b : List Int) (va vb : Value) (W : World) (ha : RdDy W a va) (hb : RdDy W b vb) (hla : a.length ≤ 4000000000000) (hlb : b.length ≤ 4000000000000) :
  Calls Tryz.prog 40 #[va, vb] W fun e W' => e = .returned (.bool (decide (a = b))) ∧ Below W.heap.size W W' := by
 obtain ⟨ad, cap, rfl, hra⟩ := ha
 obtain ⟨bd, bcap, rfl, hrb⟩ := hb
 obtain ⟨n, hn⟩ : ∃ n, a.length = n := ⟨_, rfl⟩
 obtain ⟨m, hm⟩ : ∃ m, b.length = m := ⟨_, rfl⟩
 have Hn := Lib.hid hn
 have Hm := Lib.hid hm
 have HA := Lib.hid hra
 have HB := Lib.hid hrb
 rw [hn] at hla ⊢
 rw [hm] at hlb ⊢
 clear hra hrb hn hm
 by_cases hnm : n = m
 ·subst hnm
  obtain ⟨r, hr⟩ : ∃ r, decide (a = b) = r := ⟨_, rfl⟩
  have HR := Lib.hid hr
  rw [hr]
  clear hr
  go_enter Tryz.func40, Tryz.ntmps40
  go_wp2
  go_loopw [5] (fun i wr => ∃ k : Nat, k ≤ n ∧ i = .int .i64 (k : Int) ∧ Hid (∀ j, j < k → a[j]? = b[j]?) ∧ ∃ q, wr = W.drewN q) (fun i _ => n - (intOf i).toNat)
  case atStart => exact ⟨0, Nat.zero_le _, rfl, Lib.hid fun j hj => absurd hj (Nat.not_lt_zero _), 0, rfl⟩
  case round =>
   obtain ⟨k, hk, rfl, Hc, q, rfl⟩ := hrel
   by_cases hlt : k < n
   ·obtain ⟨x, hx⟩ : ∃ x, a[k]? = some x := ⟨_, List.getElem?_eq_getElem (by rw [Hn.out]; exact hlt)⟩
    obtain ⟨y, hy⟩ : ∃ y, b[k]? = some y := ⟨_, List.getElem?_eq_getElem (by rw [Hm.out]; exact hlt)⟩
    have ⟨xd, hxd⟩ : ∃ xd, x = xd := ⟨_, rfl⟩
    have ⟨yd, hyd⟩ : ∃ yd, y = yd := ⟨_, rfl⟩
    rw [hxd] at hx
    rw [hyd] at hy
    clear hxd hyd
    obtain ⟨ba, oa, rfl, x0⟩ := HA.out k _ hx
    obtain ⟨bb, ob, rfl, y0⟩ := HB.out k _ hy
    have HX := Lib.hid hx
    have HY := Lib.hid hy
    have hl0 : (k : Int) < (n : Int) := by omega
    clear hx hy
    go_wp2_with fail
    by_cases t0 : xd = yd
    ·have HE : Hid (a[k]? = b[k]?) := Lib.hid (by rw [HX.out, HY.out]; rw [t0])
     go_quiet (fail)
     go_wp2
     go_roundw
     case rel => exact ⟨k + 1, by omega, by go_num, Lib.hid (same_step Hc.out HE.out), _, rfl⟩
     case measure => simp [intOf]; omega
    ·have HF : Hid (false = r) := Lib.hid (by
      rw [← HR.out, eq_comm, decide_eq_false_iff_not]
      rintro rfl
      skip
      have e := Option.some.inj (HX.out.symm.trans HY.out)
      exact t0 (e))
     go_quiet (fail)
     go_wp2
     go_ret
     exact ⟨ret_bool' HF.out, below_drewN (below_drewN (Below.refl _ _) _) _⟩
   ·have HF : Hid (true = r) := Lib.hid (by
     rw [← HR.out, eq_comm, decide_eq_true_eq]
     apply List.ext_getElem?
     intro j
     rcases Nat.lt_or_ge j k with h | h
     ·exact Hc.out j h
     ·rw [List.getElem?_eq_none (by rw [Hn.out]; omega), List.getElem?_eq_none (by rw [Hm.out]; omega)])
    go_wp2
    go_ret
    exact ⟨ret_bool' HF.out, below_drewN (Below.refl _ _) _⟩
 ·have HF : Hid (false = decide (a = b)) := Lib.hid (by
   rw [eq_comm, decide_eq_false_iff_not]
   rintro rfl
   exact hnm (Hn.out.symm.trans Hm.out))
  go_enter Tryz.func40, Tryz.ntmps40
  go_wp2
  go_ret
  exact ⟨ret_bool' HF.out, Below.refl _ _⟩
end Go.Proofs.YtkonookacfmfgaaGreatDoor
