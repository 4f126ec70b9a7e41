/-
  (*novationref15.Found).part.
-/
import Derived.Test.YtkonookacfmfgaaGreatDoorC17
import Derived.Test.YtkonookacfmfgaaGreatDoorC11
import Derived.Test.YtkonookacfmfgaaGreatDoorC18
namespace Go.Proofs.YtkonookacfmfgaaGreatDoor
open Go.RowKit
section
variable {W W' : World} {F : Nat} {N : List NdP} {C : List ChP} {D : List Int} {late : Bool}
theorem FSt.rdN (h : FSt W F N C D late) {x : Con} {es dd ss : Value} (hx : RdN W x es dd ss) (hg : W.grownBy W' (some F)) : RdN W' x es dd ss := by
 obtain ⟨_, _, _, _, _, _, h0, _⟩ := h
 exact hx.box h0 (found_noint _ _ _ _ _ _ _ _ _ _) hg
end
theorem rdDy_one (w : World) (d : Int) (t : TypeId) : RdDy (w.alloc (.cells #[.int .i64 d] t)).drew [d] (.slice (some ⟨w.heap.size, 0, none⟩) 1 1) := by
 refine ⟨_, _, rfl, fun j e hj => ?_⟩
 cases j with
 | zero => cases hj; exact ⟨_, 0, rfl, (BoxN.new w [.int .i64 d] t).cell (j := 0) rfl⟩
 | succ j => simp at hj
theorem evss_split (l : List Con) (k : Nat) (ds : List Int) : Con.evss l ds = Con.evss (l.take k) ds ++ Con.evss (l.drop k) ds := by rw [← Con.evss_append, List.take_append_drop]
set_option maxHeartbeats 8000000 in
set_option maxRecDepth 100000 in
theorem fpart_any : ∀ (B : Nat) (x : Con) (es dd ss vd : Value) (F : Nat) (N : List NdP) (C : List ChP) (D : List Int) (late : Bool) (ds : List Int) (W : World), x.bulk ≤ B → x.bulk ≤ 2000000 → ds.length ≤ 2000000 → N.length ≤ 1001 → C.length ≤ 1001 →
  D.length + (evDs (x.evs ds)).length ≤ 4000000000000 → RdN W x es dd ss → RdDy W ds vd → FSt W F N C D late →
  Calls Tryz.prog 57 #[.pointer (some ⟨F, 0, none⟩), x.val es dd ss, vd] W fun e W' => e = .returned (.tuple #[]) ∧ W.grownBy W' (some F) ∧ FSt W' F (insA ndLt 1000 N (evNs (x.evs ds))) (insA chxLt 1000 C (evCs (x.evs ds))) (dayInsA D (evDs (x.evs ds))) (late || evLt (x.evs ds)) := by
 intro B
 induction B with
 | zero =>
  intro x es dd ss vd F N C D late ds W h0
  rw [Con.bulk_eq] at h0
  omega
 | succ B ih =>
  intro x es dd ss vd F N C D late ds W hB hM hds hN hC hD hs hd hf
  obtain ⟨ad, cap, rfl⟩ := hs.2.2.1.len
  obtain ⟨ad1, cap1, rfl⟩ := hs.1.len
  obtain ⟨ad2, cap2, rfl⟩ := hs.2.1.len
  obtain ⟨dad, dcap, rfl, hdc⟩ := hd
  have HS := Lib.hid hs
  have HI := Lib.hid ih
  have HF := Lib.hid hf
  have HD := Lib.hid hdc
  have hF := hf.lt
  have hbq := x.bulk_eq
  have hlen := Con.bulks_len x.sub
  have hlt0 := x.sub_lt
  have hn : x.sub.length ≤ 2000000 := by omega
  have hnd : x.ds.length ≤ 2000000 := by omega
  have hxb : x.ex.bulk ≤ 2000000 := by omega
  clear hs ih hf hdc hbq
  unfold Con.val
  cases ds with
  | nil =>
   have HE : Hid (x.evs [] = []) := Lib.hid (Con.evs_nil x)
   have hb1 := below_a1 W (.cells #[.int .u8 x.k, .string x.fr, .string x.rc, .string x.nm, .int .u8 x.ex.k, .string x.ex.ra, .string x.ex.nm, .int .i64 x.ex.d, .slice ad1 x.ex.sub.length cap1, .int .i64 x.d, .slice ad2 x.ds.length cap2, .slice ad x.sub.length cap] 29)
   go_enter Tryz.func57, Tryz.ntmps57
   go_wp2
   refine bodyPost_ret (results_none rfl _ _ _) rfl ?_
   refine ⟨rfl, grown_below hb1 F, ?_⟩
   rw [HE.out]
   show FSt _ F N C D (late || false)
   rw [Bool.or_false]
   exact HF.out.low hb1
  | cons d0 r =>
   obtain ⟨db, doff, rfl, hd0⟩ := HD.out 0 d0 rfl
   have hdbF := HF.out.int hd0
   have hx1 : ∃ W1, W.alloc (.cells #[.int .u8 x.k, .string x.fr, .string x.rc, .string x.nm, .int .u8 x.ex.k, .string x.ex.ra, .string x.ex.nm, .int .i64 x.ex.d, .slice ad1 x.ex.sub.length cap1, .int .i64 x.d, .slice ad2 x.ds.length cap2, .slice ad x.sub.length cap] 29) = W1 ∧ BoxN W1 W.heap.size 29 [.int .u8 x.k, .string x.fr, .string x.rc, .string x.nm, .int .u8 x.ex.k, .string x.ex.ra, .string x.ex.nm, .int .i64 x.ex.d, .slice ad1 x.ex.sub.length cap1, .int .i64 x.d, .slice ad2 x.ds.length cap2, .slice ad x.sub.length cap] ∧ FSt W1 F N C D late ∧ Below W.heap.size W W1 ∧ W.heap.size < W1.heap.size := ⟨_, rfl, BoxN.new _ [.int .u8 x.k, .string x.fr, .string x.rc, .string x.nm, .int .u8 x.ex.k, .string x.ex.ra, .string x.ex.nm, .int .i64 x.ex.d, .slice ad1 x.ex.sub.length cap1, .int .i64 x.d, .slice ad2 x.ds.length cap2, .slice ad x.sub.length cap] _, HF.out.low (below_a1 _ _), below_a1 _ _, by simp⟩
   obtain ⟨W1, hW1, bx, hf1, hb1, hz1⟩ := hx1
   have HF1 := Lib.hid hf1
   have HB1 := Lib.hid hb1
   have hXF : W.heap.size ≠ F := by omega
   have hd1 : W1.cell? ⟨db, doff, none⟩ = some (.int .i64 d0) := cell_below hb1 hd0
   obtain ⟨n, hnr⟩ : ∃ n, (d0 :: r).length = n := ⟨_, rfl⟩
   have HNR := Lib.hid hnr
   have hn0 : 0 < n := by rw [← hnr]; simp
   have hn0i : (0 : Int) < (n : Int) := by omega
   have tl : ((n : Int) == 0) = false := by rw [beq_eq_false_iff_ne]; omega
   rw [hnr] at hds ⊢
   clear hnr hd0
   have k0 : W1.cell? ⟨W.heap.size, 0, none⟩ = some (.int .u8 x.k) := bx.cell rfl
   have k10 : W1.cell? ⟨W.heap.size, 10, none⟩ = some (.slice ad2 x.ds.length cap2) := bx.cell rfl
   have HL : Hid (∀ V, Below W1.heap.size W1 V → Calls Tryz.prog 77 #[.slice ad2 x.ds.length cap2, .int .i64 d0] V fun e w' => ∃ la lc, e = .returned (.slice la (laterD x.ds d0).length lc) ∧ RdDy w' (laterD x.ds d0) (.slice la (laterD x.ds d0).length lc) ∧ Below V.heap.size V w') := Lib.hid fun V hV => by
    refine (rlater_any x.ds d0 _ V hnd ((HS.out.2.1.frame HB1.out).frame hV)).mono ?_
    rintro e w' ⟨la, lc, rfl, h1, h2⟩
    exact ⟨la, lc, rfl, RdDy.own h1, h2⟩
   obtain ⟨m, hm⟩ : ∃ m, (laterD x.ds d0).length = m := ⟨_, rfl⟩
   have hml : m ≤ 2000000 := by rw [← hm]; exact Nat.le_trans (laterD_len _ _) hnd
   have HM := Lib.hid hm
   rw [hm] at HL
   clear hm hf1 hb1
   go_enter Tryz.func57, Tryz.ntmps57
   go_upto_region 3 with fail
   clear hW1
   refine wp_region_invc (fun L a w' => ∃ (la : Option Addr) (lc : Nat) (v0 v1 v2 v3 v4 v5 v6 : Value), a = ⟨#[.pointer (some ⟨F, 0, none⟩), .agg #[.int .u8 x.k, .string x.fr, .string x.rc, .string x.nm, .int .u8 x.ex.k, .string x.ex.ra, .string x.ex.nm, .int .i64 x.ex.d, .slice ad1 x.ex.sub.length cap1, .int .i64 x.d, .slice ad2 x.ds.length cap2, .slice ad x.sub.length cap], .slice (some ⟨db, doff, none⟩) n dcap, undef, .pointer (some ⟨W.heap.size, 0, none⟩), undef, .slice (some ⟨db, doff, none⟩) n dcap, v6, undef, undef, .slice (some ⟨db, doff, none⟩) n dcap, .int .i64 (n : Int), .bool false, .slice (some ⟨db, doff, none⟩) n dcap, v0, v1, v2, v3, v4, v5, undef, undef, undef, undef, undef, undef, undef, undef, undef, undef, undef, undef, undef, undef, undef, undef, undef, undef, undef, undef, undef, undef, undef, undef, undef, undef, undef, undef, undef, undef, undef, undef, undef, undef, undef, undef, undef, undef, undef, undef, undef, undef, undef, undef, undef, undef, undef, undef, undef, undef, undef, undef, undef, undef, undef, undef, undef, undef, undef, undef, undef, undef, undef, undef, undef, undef, undef, undef, undef, undef, undef, undef, undef, undef, undef, undef, undef, undef, undef, undef, undef, undef, undef], []⟩ ∧ VInv W1 [.pointer (some ⟨W.heap.size, 10, none⟩), .slice ad2 x.ds.length cap2, .slice (some ⟨db, doff, none⟩) n dcap, .pointer (some ⟨db, doff, none⟩), .int .i64 d0, .slice la m lc, .slice la m lc] [v0, v1, v2, v3, v4, v5, v6] L w' ∧ (L 5 = true → Hid (RdDy w' (laterD x.ds d0) (.slice la m lc)))) (by kernel_rfl) (by kernel_rfl) ?_ ?_ ?_
   ·exact ⟨none, 0, _, _, _, _, _, _, _, rfl, VInv.start (below_drewN (Below.refl _ _) 1) rfl, fun h => (by cases h)⟩
   ·rintro L a w' ⟨la, lc, v0, v1, v2, v3, v4, v5, v6, rfl, h, hr⟩ hcl i o ho hL hp
    have hi9 : i < 7 := by simpa using (Array.getElem?_eq_some_iff.1 ho).1
    have hi2 : i = 0 ∨ i = 1 ∨ i = 2 ∨ i = 3 ∨ i = 4 ∨ i = 5 ∨ i = 6 := by omega
    clear hi9
    have z10 := cell_below h.b k10
    have zd := cell_below h.b hd1
    rcases hi2 with rfl | rfl | rfl | rfl | rfl | rfl | rfl
    ·refine wpOp_step rfl ?_
     intro K hK
     go_simp
     exact hK _ _ ⟨la, lc, _, _, _, _, _, _, _, rfl, h.step (i := 0) (v := .pointer (some ⟨W.heap.size, 10, none⟩)) rfl, fun hh => hr (by simpa [upd] using hh)⟩
    ·refine wpOp_step rfl ?_
     intro K hK
     obtain rfl := h.at (i := 0) (pred_spec ho hp (j := 0) (by kernel_rfl)) rfl rfl
     go_simp
     exact hK _ _ ⟨la, lc, _, _, _, _, _, _, _, rfl, h.step (i := 1) (v := .slice ad2 x.ds.length cap2) rfl, fun hh => hr (by simpa [upd] using hh)⟩
    ·refine wpOp_step rfl ?_
     intro K hK
     go_simp
     exact hK _ _ ⟨la, lc, _, _, _, _, _, _, _, rfl, h.step (i := 2) (v := .slice (some ⟨db, doff, none⟩) n dcap) rfl, fun hh => hr (by simpa [upd] using hh)⟩
    ·refine wpOp_step rfl ?_
     intro K hK
     obtain rfl := h.at (i := 2) (pred_spec ho hp (j := 2) (by kernel_rfl)) rfl rfl
     go_simp
     exact hK _ _ ⟨la, lc, _, _, _, _, _, _, _, rfl, h.step (i := 3) (v := .pointer (some ⟨db, doff, none⟩)) rfl, fun hh => hr (by simpa [upd] using hh)⟩
    ·refine wpOp_step rfl ?_
     intro K hK
     obtain rfl := h.at (i := 3) (pred_spec ho hp (j := 3) (by kernel_rfl)) rfl rfl
     go_simp
     exact hK _ _ ⟨la, lc, _, _, _, _, _, _, _, rfl, h.step (i := 4) (v := .int .i64 d0) rfl, fun hh => hr (by simpa [upd] using hh)⟩
    ·refine wpOp_step rfl ?_
     intro K hK
     obtain rfl := h.at (i := 1) (pred_spec ho hp (j := 1) (by kernel_rfl)) rfl rfl
     obtain rfl := h.at (i := 4) (pred_spec ho hp (j := 4) (by kernel_rfl)) rfl rfl
     go_simp
     refine (HL.out w' h.b).mono ?_
     rintro e w4 ⟨la4, lc4, rfl, h4, hb4⟩
     exact hK _ _ ⟨la4, lc4, _, _, _, _, _, _, _, rfl, VInv.step (i := 5) (v := .slice la4 m lc4) (((h.ext hb4).late hL (.slice la4 m lc4)).late (cl_no hcl hL 6 (by kernel_rfl)) (.slice la4 m lc4)) rfl, fun _ => Lib.hid h4⟩
    ·refine wpOp_step rfl ?_
     intro K hK
     obtain rfl := h.at (i := 5) (pred_spec ho hp (j := 5) (by kernel_rfl)) rfl rfl
     go_simp
     exact hK _ _ ⟨la, lc, _, _, _, _, _, _, _, rfl, h.step (i := 6) (v := .slice la m lc) rfl, fun hh => hr (by simpa [upd] using hh)⟩
   ·rintro L a w1 ⟨la, lc, v0, v1, v2, v3, v4, v5, v6, rfl, h, hr⟩ hall
    have hbl := h.b
    have HV := hr (hall 5 (by decide))
    obtain rfl := h.at (i := 6) (hall 6 (by decide)) rfl rfl
    have bx2 := bx.below hbl bx.lt
    have HF2 := Lib.hid (HF1.out.low hbl)
    have HB2 := Lib.hid (HB1.out.trans (hbl.mono HB1.out.size))
    have hd2 := cell_below hbl hd1
    clear h hr hall k0 k10 hd1 bx HL hbl HF1 HB1 hz1
    obtain ⟨N1, hN1⟩ : ∃ N1, insA ndLt 1000 N (evNs (headEv x (d0 :: r) d0)) = N1 := ⟨_, rfl⟩
    obtain ⟨C1, hC1⟩ : ∃ C1, insA chxLt 1000 C (evCs (headEv x (d0 :: r) d0)) = C1 := ⟨_, rfl⟩
    obtain ⟨D1, hD1⟩ : ∃ D1, dayInsA D (evDs (headEv x (d0 :: r) d0)) = D1 := ⟨_, rfl⟩
    obtain ⟨l1, hl1⟩ : ∃ l1, (late || evLt (headEv x (d0 :: r) d0)) = l1 := ⟨_, rfl⟩
    obtain ⟨I1, hI1⟩ : ∃ I1, innerD x (d0 :: r) d0 = I1 := ⟨_, rfl⟩
    have hIl : I1.length ≤ 2000000 := by rw [← hI1]; exact innerD_len x (d0 :: r) d0 (by rw [HNR.out]; exact hds) hnd (by omega)
    have HDD : Hid (D.length + ((evDs (headEv x (d0 :: r) d0)).length + (evDs (Con.evss x.sub I1)).length) ≤ 4000000000000) := Lib.hid (by
     rw [Con.evs_cons, evDs_append, List.length_append, hI1] at hD
     exact hD)
    have HH := Lib.hid (And.intro hN1 (And.intro hC1 (And.intro hD1 (And.intro hl1 hI1))))
    have HDy : Hid (RdDy W (d0 :: r) (.slice (some ⟨db, doff, none⟩) n dcap)) := Lib.hid ⟨_, _, by rw [HNR.out], fun j d hj => HD.out j d hj⟩
    have k0 : w1.cell? ⟨W.heap.size, 0, none⟩ = some (.int .u8 x.k) := bx2.cell rfl
    have k1 : w1.cell? ⟨W.heap.size, 1, none⟩ = some (.string x.fr) := bx2.cell rfl
    have k2 : w1.cell? ⟨W.heap.size, 2, none⟩ = some (.string x.rc) := bx2.cell rfl
    have k3 : w1.cell? ⟨W.heap.size, 3, none⟩ = some (.string x.nm) := bx2.cell rfl
    have k4 : w1.cell? ⟨W.heap.size, 4, none⟩ = some (.int .u8 x.ex.k) := bx2.cell rfl
    have k5 : w1.cell? ⟨W.heap.size, 5, none⟩ = some (.string x.ex.ra) := bx2.cell rfl
    have k6 : w1.cell? ⟨W.heap.size, 6, none⟩ = some (.string x.ex.nm) := bx2.cell rfl
    have k7 : w1.cell? ⟨W.heap.size, 7, none⟩ = some (.int .i64 x.ex.d) := bx2.cell rfl
    have k8 : w1.cell? ⟨W.heap.size, 8, none⟩ = some (.slice ad1 x.ex.sub.length cap1) := bx2.cell rfl
    have k9 : w1.cell? ⟨W.heap.size, 9, none⟩ = some (.int .i64 x.d) := bx2.cell rfl
    have k10 : w1.cell? ⟨W.heap.size, 10, none⟩ = some (.slice ad2 x.ds.length cap2) := bx2.cell rfl
    have k11 : w1.cell? ⟨W.heap.size, 11, none⟩ = some (.slice ad x.sub.length cap) := bx2.cell rfl
    have hz2 : W.heap.size < w1.heap.size := bx2.lt
    have hdl : db < w1.heap.size := World.block_lt_of_cell? w1 _ hd2
    have HG1 := Lib.hid (grown_below HB2.out F)
    have HDr := Lib.hid (HF.out.rdDy HDy.out HG1.out)
    have HSr := Lib.hid (HF.out.rdN HS.out HG1.out)
    have HEx := Lib.hid fun (ds' : List Int) (v : Value) (hl : ds'.length ≤ 2000000) (hv : RdDy w1 ds' v) => fexpr_any x.ex.bulk x.ex _ v F N C D late ds' w1 (Nat.le_refl _) hxb hl hN HSr.out.1 hv HF2.out
    have HOp := Lib.hid fun (ds' : List Int) (v : Value) (hl : ds'.length ≤ 2000000) (hv : RdDy w1 ds' v) => sopen_any HF2.out hC x _ _ _ v ds' hl HSr.out hv
    unfold Ex.val at HEx
    unfold Con.val at HOp
    have hdn : (d0 :: r).length ≤ 2000000 := by rw [HNR.out]; exact hds
    have hmn : (laterD x.ds d0).length ≤ 2000000 := by rw [HM.out]; exact hml
    clear hN1 hC1 hD1 hl1 hI1
    go_upto_block 0 with fail
    go_cut [6, 8] from 22 to 87 (fun v6 _ wc => Hid (W.grownBy wc (some F) ∧ FSt wc F N1 C1 D1 l1 ∧ RdDy wc I1 v6) ∧ BoxN wc W.heap.size 29 [.int .u8 x.k, .string x.fr, .string x.rc, .string x.nm, .int .u8 x.ex.k, .string x.ex.ra, .string x.ex.nm, .int .i64 x.ex.d, .slice ad1 x.ex.sub.length cap1, .int .i64 x.d, .slice ad2 x.ds.length cap2, .slice ad x.sub.length cap])
    case first =>
     by_cases h2 : x.k = 2
     ·have h := h2
      have t2 : ((x.k : Int) == 2) = true := by rw [h]; rfl
      have t4 : ((x.k : Int) == 4) = false := by rw [h]; rfl
      have t5 : ((x.k : Int) == 5) = false := by rw [h]; rfl
      have t6 : ((x.k : Int) == 6) = false := by rw [h]; rfl
      have t7 : ((x.k : Int) == 7) = false := by rw [h]; rfl
      have t8 : ((x.k : Int) == 8) = false := by rw [h]; rfl
      have t9 : ((x.k : Int) == 9) = false := by rw [h]; rfl
      have t10 : ((x.k : Int) == 10) = false := by rw [h]; rfl
      clear h2
      have HK : Hid (N1 = insA ndLt 1000 N (x.ex.nodes.flatMap (xNeed (d0 :: r))) ∧ C1 = C ∧ D1 = dayInsA D (d0 :: r) ∧ l1 = (late || x.ex.nodes.any (xLate (d0 :: r))) ∧ I1 = (d0 :: r)) := Lib.hid ⟨by rw [← HH.out.1]; simp [headEv, h, evNs, evNeeds, insA], by rw [← HH.out.2.1]; simp [headEv, h, evCs, evChs, insA], by rw [← HH.out.2.2.1]; simp [headEv, h, evDs, evDays, dayInsA], by rw [← HH.out.2.2.2.1]; simp [headEv, h, evLt, evLate], by rw [← HH.out.2.2.2.2]; simp [innerD, h]⟩
      have HDn : Hid (D.length + n ≤ 4000000000000) := Lib.hid (by have e : evDs (headEv x (d0 :: r) d0) = (d0 :: r) := (by simp [headEv, h, evDs, evDays]); have h2 := HDD.out; rw [e, HNR.out] at h2; omega)
      clear h
      go_wp2_with fail
      refine (HEx.out (d0 :: r) _ hdn HDr.out).mono ?_
      rintro e w2 ⟨rfl, h7, h8⟩
      have HF3 := Lib.hid h8
      have HG3 := Lib.hid h7
      have bx3 := bx2.grown h7 hXF
      clear h7 h8 k0 k1 k2 k3 k4 k5 k6 k7 k8 k9 k10 k11
      go_wp2_with fail
      go_loopw [8] (fun i wr => ∃ k : Nat, k ≤ n ∧ i = .int .i64 (k : Int) ∧ Hid (w1.grownBy wr (some F) ∧ FSt wr F (insA ndLt 1000 N (x.ex.nodes.flatMap (xNeed (d0 :: r)))) C (dayInsA D ((d0 :: r).take k)) (late || x.ex.nodes.any (xLate (d0 :: r)))) ∧ BoxN wr W.heap.size 29 [.int .u8 x.k, .string x.fr, .string x.rc, .string x.nm, .int .u8 x.ex.k, .string x.ex.ra, .string x.ex.nm, .int .i64 x.ex.d, .slice ad1 x.ex.sub.length cap1, .int .i64 x.d, .slice ad2 x.ds.length cap2, .slice ad x.sub.length cap]) (fun i _ => n - (intOf i).toNat)
      case atStart => exact ⟨0, Nat.zero_le _, rfl, Lib.hid ⟨HG3.out, HF3.out⟩, bx3⟩
      case round =>
       obtain ⟨k, hk, rfl, HR, hbx⟩ := hrel
       by_cases hlt : k < n
       ·obtain ⟨d, hy⟩ : ∃ d, (d0 :: r)[k]? = some d := ⟨_, List.getElem?_eq_getElem (by rw [HNR.out]; exact hlt)⟩
        obtain ⟨db2, doff2, e2, y0⟩ := HD.out k d hy
        cases e2
        replace y0 := HR.out.1.cell (HG1.out.cell y0 (some_ne hdbF)) (some_ne hdbF)
        have hk1 : (0 : Int) ≤ (k : Int) := by omega
        have hk2 : (k : Int) < (n : Int) := by omega
        have HDl : (dayInsA D ((d0 :: r).take k)).length ≤ 4000000000000 := by have h1 := dayInsA_le ((d0 :: r).take k) D; have h2 := List.length_take_le k (d0 :: r); have h3 := HDn.out; omega
        have HC := Lib.hid (sday_any HR.out.2 HDl d)
        have HZ : Hid (dayInsA D ((d0 :: r).take (k + 1)) = dayIns (dayInsA D ((d0 :: r).take k)) d) := Lib.hid (by rw [take_snoc_get hy, dayInsA_snoc])
        clear hy HDl
        go_wp2_with fail
        refine HC.out.mono ?_
        rintro e w4 ⟨rfl, h7, h8⟩
        rw [← HZ.out] at h8
        have h9 := Lib.hid (And.intro (HR.out.1.trans h7) h8)
        have hbx4 := hbx.grown h7 hXF
        clear h7 h8 HC y0
        go_wp2
        go_roundw
        case rel => exact ⟨k + 1, by omega, by go_num, h9, hbx4⟩
        case measure => simp [intOf]; omega
       ·obtain rfl : k = n := by omega
        have HT : Hid (FSt wr F N1 C1 D1 l1 ∧ RdDy wr I1 (.slice (some ⟨db, doff, none⟩) k dcap)) := Lib.hid (by
         have h1 := HR.out.2
         rw [List.take_of_length_le (by rw [HNR.out]; exact Nat.le_refl _)] at h1
         exact ⟨by rw [HK.out.1, HK.out.2.1, HK.out.2.2.1, HK.out.2.2.2.1]; exact h1, by rw [HK.out.2.2.2.2]; exact HF2.out.rdDy HDr.out HR.out.1⟩)
        go_wp2
        go_meet
        exact ⟨Lib.hid ⟨HG1.out.trans HR.out.1, HT.out.1, HT.out.2⟩, hbx⟩
     ·skip
      by_cases h4 : x.k = 4
      ·have h := h4
       have t2 : ((x.k : Int) == 2) = false := by rw [h]; rfl
       have t4 : ((x.k : Int) == 4) = true := by rw [h]; rfl
       have t5 : ((x.k : Int) == 5) = false := by rw [h]; rfl
       have t6 : ((x.k : Int) == 6) = false := by rw [h]; rfl
       have t7 : ((x.k : Int) == 7) = false := by rw [h]; rfl
       have t8 : ((x.k : Int) == 8) = false := by rw [h]; rfl
       have t9 : ((x.k : Int) == 9) = false := by rw [h]; rfl
       have t10 : ((x.k : Int) == 10) = false := by rw [h]; rfl
       clear h2 h4
       have HK : Hid (N1 = insA ndLt 1000 N (x.ex.nodes.flatMap (xNeed (d0 :: r))) ∧ C1 = C ∧ D1 = D ∧ l1 = (late || x.ex.nodes.any (xLate (d0 :: r))) ∧ I1 = (d0 :: r)) := Lib.hid ⟨by rw [← HH.out.1]; simp [headEv, h, evNs, evNeeds, insA], by rw [← HH.out.2.1]; simp [headEv, h, evCs, evChs, insA], by rw [← HH.out.2.2.1]; simp [headEv, h, evDs, evDays, dayInsA], by rw [← HH.out.2.2.2.1]; simp [headEv, h, evLt, evLate], by rw [← HH.out.2.2.2.2]; simp [innerD, h]⟩
       clear h
       go_wp2_with fail
       refine (HEx.out (d0 :: r) _ hdn HDr.out).mono ?_
       rintro e w2 ⟨rfl, h7, h8⟩
       have h9 := Lib.hid h8
       have h10 := Lib.hid h7
       clear h7 h8
       go_wp2
       go_meet
       exact ⟨Lib.hid ⟨HG1.out.trans h10.out, by rw [HK.out.1, HK.out.2.1, HK.out.2.2.1, HK.out.2.2.2.1]; exact h9.out, by rw [HK.out.2.2.2.2]; exact HF2.out.rdDy HDr.out h10.out⟩, bx2.grown h10.out hXF⟩
      ·skip
       by_cases h5 : x.k = 5
       ·have h := h5
        have t2 : ((x.k : Int) == 2) = false := by rw [h]; rfl
        have t4 : ((x.k : Int) == 4) = false := by rw [h]; rfl
        have t5 : ((x.k : Int) == 5) = true := by rw [h]; rfl
        have t6 : ((x.k : Int) == 6) = false := by rw [h]; rfl
        have t7 : ((x.k : Int) == 7) = false := by rw [h]; rfl
        have t8 : ((x.k : Int) == 8) = false := by rw [h]; rfl
        have t9 : ((x.k : Int) == 9) = false := by rw [h]; rfl
        have t10 : ((x.k : Int) == 10) = false := by rw [h]; rfl
        clear h2 h4 h5
        have HK : Hid (N1 = insA ndLt 1000 N (x.ex.nodes.flatMap (xNeed (d0 :: r))) ∧ C1 = C ∧ D1 = D ∧ l1 = (late || x.ex.nodes.any (xLate (d0 :: r))) ∧ I1 = (d0 :: r)) := Lib.hid ⟨by rw [← HH.out.1]; simp [headEv, h, evNs, evNeeds, insA], by rw [← HH.out.2.1]; simp [headEv, h, evCs, evChs, insA], by rw [← HH.out.2.2.1]; simp [headEv, h, evDs, evDays, dayInsA], by rw [← HH.out.2.2.2.1]; simp [headEv, h, evLt, evLate], by rw [← HH.out.2.2.2.2]; simp [innerD, h]⟩
        clear h
        go_wp2_with fail
        refine (HEx.out (d0 :: r) _ hdn HDr.out).mono ?_
        rintro e w2 ⟨rfl, h7, h8⟩
        have h9 := Lib.hid h8
        have h10 := Lib.hid h7
        clear h7 h8
        go_wp2
        go_meet
        exact ⟨Lib.hid ⟨HG1.out.trans h10.out, by rw [HK.out.1, HK.out.2.1, HK.out.2.2.1, HK.out.2.2.2.1]; exact h9.out, by rw [HK.out.2.2.2.2]; exact HF2.out.rdDy HDr.out h10.out⟩, bx2.grown h10.out hXF⟩
       ·skip
        by_cases h6 : x.k = 6
        ·have h := h6
         have t2 : ((x.k : Int) == 2) = false := by rw [h]; rfl
         have t4 : ((x.k : Int) == 4) = false := by rw [h]; rfl
         have t5 : ((x.k : Int) == 5) = false := by rw [h]; rfl
         have t6 : ((x.k : Int) == 6) = true := by rw [h]; rfl
         have t7 : ((x.k : Int) == 7) = false := by rw [h]; rfl
         have t8 : ((x.k : Int) == 8) = false := by rw [h]; rfl
         have t9 : ((x.k : Int) == 9) = false := by rw [h]; rfl
         have t10 : ((x.k : Int) == 10) = false := by rw [h]; rfl
         clear h2 h4 h5 h6
         by_cases hdd : d0 ≤ x.d
         ·have g1 : decide (d0 ≤ x.d) = true := decide_eq_true hdd
          have HK : Hid (N1 = N ∧ C1 = C ∧ D1 = D ∧ l1 = late ∧ I1 = [x.d]) := Lib.hid ⟨by rw [← HH.out.1]; simp [headEv, h, evNs, insA], by rw [← HH.out.2.1]; simp [headEv, h, evCs, insA], by rw [← HH.out.2.2.1]; simp [headEv, h, evDs, dayInsA], by rw [← HH.out.2.2.2.1]; simp [headEv, h, evLt], by rw [← HH.out.2.2.2.2]; simp [innerD, h, hdd]⟩
          clear h hdd
          go_upto_region 16 with fail
          go_region
          all_goals go_wp2
          all_goals go_meet
          all_goals exact ⟨Lib.hid ⟨HG1.out.trans (grown_below (below_a1 w1 (.cells #[.int .i64 x.d] 3)).drew F), by rw [HK.out.1, HK.out.2.1, HK.out.2.2.1, HK.out.2.2.2.1]; exact HF2.out.low (below_a1 _ _).drew, by rw [HK.out.2.2.2.2]; exact rdDy_one _ _ _⟩, (bx2.alloc _).of_block rfl⟩
         ·have g1 : decide (d0 ≤ x.d) = false := decide_eq_false hdd
          have HK : Hid (N1 = N ∧ C1 = C ∧ D1 = D ∧ l1 = late ∧ I1 = ([] : List Int)) := Lib.hid ⟨by rw [← HH.out.1]; simp [headEv, h, evNs, insA], by rw [← HH.out.2.1]; simp [headEv, h, evCs, insA], by rw [← HH.out.2.2.1]; simp [headEv, h, evDs, dayInsA], by rw [← HH.out.2.2.2.1]; simp [headEv, h, evLt], by rw [← HH.out.2.2.2.2]; simp [innerD, h, hdd]⟩
          clear h hdd
          go_upto_region 16 with fail
          go_region
          all_goals go_wp2
          all_goals go_meet
          all_goals exact ⟨Lib.hid ⟨HG1.out.trans (grown_below (Below.refl _ _).drew F), by rw [HK.out.1, HK.out.2.1, HK.out.2.2.1, HK.out.2.2.2.1]; exact HF2.out.low (Below.refl _ _).drew, by rw [HK.out.2.2.2.2]; exact ⟨none, 0, rfl, fun j d hj => by simp at hj⟩⟩, bx2.of_block rfl⟩
        ·skip
         by_cases h7 : x.k = 7
         ·have h := h7
          have t2 : ((x.k : Int) == 2) = false := by rw [h]; rfl
          have t4 : ((x.k : Int) == 4) = false := by rw [h]; rfl
          have t5 : ((x.k : Int) == 5) = false := by rw [h]; rfl
          have t6 : ((x.k : Int) == 6) = false := by rw [h]; rfl
          have t7 : ((x.k : Int) == 7) = true := by rw [h]; rfl
          have t8 : ((x.k : Int) == 8) = false := by rw [h]; rfl
          have t9 : ((x.k : Int) == 9) = false := by rw [h]; rfl
          have t10 : ((x.k : Int) == 10) = false := by rw [h]; rfl
          clear h2 h4 h5 h6 h7
          have HK : Hid (N1 = N ∧ C1 = insA chxLt 1000 C ((d0 :: r).map fun d => (x.fr, x.nm, d)) ∧ D1 = D ∧ l1 = late ∧ I1 = (d0 :: r)) := Lib.hid ⟨by rw [← HH.out.1]; simp [headEv, h, evNs, evNeeds, insA], by rw [← HH.out.2.1]; simp [headEv, h, evCs, evChs, insA], by rw [← HH.out.2.2.1]; simp [headEv, h, evDs, evDays, dayInsA], by rw [← HH.out.2.2.2.1]; simp [headEv, h, evLt, evLate], by rw [← HH.out.2.2.2.2]; simp [innerD, h]⟩
          clear h
          go_wp2_with fail
          refine (HOp.out (d0 :: r) _ hdn HDr.out).mono ?_
          rintro e w2 ⟨rfl, h7, h8⟩
          have h9 := Lib.hid h8
          have h10 := Lib.hid h7
          clear h7 h8
          go_wp2
          go_meet
          exact ⟨Lib.hid ⟨HG1.out.trans h10.out, by rw [HK.out.1, HK.out.2.1, HK.out.2.2.1, HK.out.2.2.2.1]; exact h9.out, by rw [HK.out.2.2.2.2]; exact HF2.out.rdDy HDr.out h10.out⟩, bx2.grown h10.out hXF⟩
         ·skip
          by_cases h8 : x.k = 8
          ·have h := h8
           have t2 : ((x.k : Int) == 2) = false := by rw [h]; rfl
           have t4 : ((x.k : Int) == 4) = false := by rw [h]; rfl
           have t5 : ((x.k : Int) == 5) = false := by rw [h]; rfl
           have t6 : ((x.k : Int) == 6) = false := by rw [h]; rfl
           have t7 : ((x.k : Int) == 7) = false := by rw [h]; rfl
           have t8 : ((x.k : Int) == 8) = true := by rw [h]; rfl
           have t9 : ((x.k : Int) == 9) = false := by rw [h]; rfl
           have t10 : ((x.k : Int) == 10) = false := by rw [h]; rfl
           clear h2 h4 h5 h6 h7 h8
           have HK : Hid (N1 = N ∧ C1 = insA chxLt 1000 C ((laterD x.ds d0).map fun d => (x.fr, x.nm, d)) ∧ D1 = D ∧ l1 = late ∧ I1 = (laterD x.ds d0)) := Lib.hid ⟨by rw [← HH.out.1]; simp [headEv, h, evNs, evNeeds, insA], by rw [← HH.out.2.1]; simp [headEv, h, evCs, evChs, insA], by rw [← HH.out.2.2.1]; simp [headEv, h, evDs, evDays, dayInsA], by rw [← HH.out.2.2.2.1]; simp [headEv, h, evLt, evLate], by rw [← HH.out.2.2.2.2]; simp [innerD, h]⟩
           clear h
           go_wp2_with fail
           refine (HOp.out (laterD x.ds d0) _ hmn HV.out).mono ?_
           rintro e w2 ⟨rfl, h7, h8⟩
           have h9 := Lib.hid h8
           have h10 := Lib.hid h7
           clear h7 h8
           go_wp2
           go_meet
           exact ⟨Lib.hid ⟨HG1.out.trans h10.out, by rw [HK.out.1, HK.out.2.1, HK.out.2.2.1, HK.out.2.2.2.1]; exact h9.out, by rw [HK.out.2.2.2.2]; exact HF2.out.rdDy HV.out h10.out⟩, bx2.grown h10.out hXF⟩
          ·skip
           by_cases h9 : x.k = 9
           ·have h := h9
            have t2 : ((x.k : Int) == 2) = false := by rw [h]; rfl
            have t4 : ((x.k : Int) == 4) = false := by rw [h]; rfl
            have t5 : ((x.k : Int) == 5) = false := by rw [h]; rfl
            have t6 : ((x.k : Int) == 6) = false := by rw [h]; rfl
            have t7 : ((x.k : Int) == 7) = false := by rw [h]; rfl
            have t8 : ((x.k : Int) == 8) = false := by rw [h]; rfl
            have t9 : ((x.k : Int) == 9) = true := by rw [h]; rfl
            have t10 : ((x.k : Int) == 10) = false := by rw [h]; rfl
            clear h2 h4 h5 h6 h7 h8 h9
            have HK : Hid (N1 = insA ndLt 1000 N (x.ex.nodes.flatMap (xNeed (laterD x.ds d0))) ∧ C1 = C ∧ D1 = D ∧ l1 = (late || x.ex.nodes.any (xLate (laterD x.ds d0))) ∧ I1 = (d0 :: r)) := Lib.hid ⟨by rw [← HH.out.1]; simp [headEv, h, evNs, evNeeds, insA], by rw [← HH.out.2.1]; simp [headEv, h, evCs, evChs, insA], by rw [← HH.out.2.2.1]; simp [headEv, h, evDs, evDays, dayInsA], by rw [← HH.out.2.2.2.1]; simp [headEv, h, evLt, evLate], by rw [← HH.out.2.2.2.2]; simp [innerD, h]⟩
            clear h
            go_wp2_with fail
            refine (HEx.out (laterD x.ds d0) _ hmn HV.out).mono ?_
            rintro e w2 ⟨rfl, h7, h8⟩
            have h9 := Lib.hid h8
            have h10 := Lib.hid h7
            clear h7 h8
            go_wp2
            go_meet
            exact ⟨Lib.hid ⟨HG1.out.trans h10.out, by rw [HK.out.1, HK.out.2.1, HK.out.2.2.1, HK.out.2.2.2.1]; exact h9.out, by rw [HK.out.2.2.2.2]; exact HF2.out.rdDy HDr.out h10.out⟩, bx2.grown h10.out hXF⟩
           ·skip
            by_cases h10 : x.k = 10
            ·have h := h10
             have t2 : ((x.k : Int) == 2) = false := by rw [h]; rfl
             have t4 : ((x.k : Int) == 4) = false := by rw [h]; rfl
             have t5 : ((x.k : Int) == 5) = false := by rw [h]; rfl
             have t6 : ((x.k : Int) == 6) = false := by rw [h]; rfl
             have t7 : ((x.k : Int) == 7) = false := by rw [h]; rfl
             have t8 : ((x.k : Int) == 8) = false := by rw [h]; rfl
             have t9 : ((x.k : Int) == 9) = false := by rw [h]; rfl
             have t10 : ((x.k : Int) == 10) = true := by rw [h]; rfl
             clear h2 h4 h5 h6 h7 h8 h9 h10
             have HK : Hid (N1 = insA ndLt 1000 N (x.ex.nodes.flatMap (xNeed (laterD x.ds d0))) ∧ C1 = C ∧ D1 = D ∧ l1 = (late || x.ex.nodes.any (xLate (laterD x.ds d0))) ∧ I1 = (laterD x.ds d0)) := Lib.hid ⟨by rw [← HH.out.1]; simp [headEv, h, evNs, evNeeds, insA], by rw [← HH.out.2.1]; simp [headEv, h, evCs, evChs, insA], by rw [← HH.out.2.2.1]; simp [headEv, h, evDs, evDays, dayInsA], by rw [← HH.out.2.2.2.1]; simp [headEv, h, evLt, evLate], by rw [← HH.out.2.2.2.2]; simp [innerD, h]⟩
             clear h
             go_wp2_with fail
             refine (HEx.out (laterD x.ds d0) _ hmn HV.out).mono ?_
             rintro e w2 ⟨rfl, h7, h8⟩
             have h9 := Lib.hid h8
             have h10 := Lib.hid h7
             clear h7 h8
             go_wp2
             go_meet
             exact ⟨Lib.hid ⟨HG1.out.trans h10.out, by rw [HK.out.1, HK.out.2.1, HK.out.2.2.1, HK.out.2.2.2.1]; exact h9.out, by rw [HK.out.2.2.2.2]; exact HF2.out.rdDy HV.out h10.out⟩, bx2.grown h10.out hXF⟩
            ·skip
             have t2 : ((x.k : Int) == 2) = false := by rw [beq_eq_false_iff_ne]; omega
             have t4 : ((x.k : Int) == 4) = false := by rw [beq_eq_false_iff_ne]; omega
             have t5 : ((x.k : Int) == 5) = false := by rw [beq_eq_false_iff_ne]; omega
             have t6 : ((x.k : Int) == 6) = false := by rw [beq_eq_false_iff_ne]; omega
             have t7 : ((x.k : Int) == 7) = false := by rw [beq_eq_false_iff_ne]; omega
             have t8 : ((x.k : Int) == 8) = false := by rw [beq_eq_false_iff_ne]; omega
             have t9 : ((x.k : Int) == 9) = false := by rw [beq_eq_false_iff_ne]; omega
             have t10 : ((x.k : Int) == 10) = false := by rw [beq_eq_false_iff_ne]; omega
             have HK : Hid (N1 = N ∧ C1 = C ∧ D1 = D ∧ l1 = late ∧ I1 = (d0 :: r)) := Lib.hid ⟨by rw [← HH.out.1]; simp [headEv, h2, h4, h5, h7, h8, h9, h10, evNs, insA], by rw [← HH.out.2.1]; simp [headEv, h2, h4, h5, h7, h8, h9, h10, evCs, insA], by rw [← HH.out.2.2.1]; simp [headEv, h2, h4, h5, h7, h8, h9, h10, evDs, dayInsA], by rw [← HH.out.2.2.2.1]; simp [headEv, h2, h4, h5, h7, h8, h9, h10, evLt], by rw [← HH.out.2.2.2.2]; simp [innerD, h6, h8, h10]⟩
             clear h2 h4 h5 h6 h7 h8 h9 h10
             go_wp2
             go_meet
             exact ⟨Lib.hid ⟨HG1.out, by rw [HK.out.1, HK.out.2.1, HK.out.2.2.1, HK.out.2.2.2.1]; exact HF2.out, by rw [HK.out.2.2.2.2]; exact HDr.out⟩, bx2⟩
    case rest =>
     obtain ⟨HR, hbx⟩ := hcut
     obtain ⟨ia, ic, rfl, _⟩ := HR.out.2.2
     obtain ⟨in1, hin⟩ : ∃ in1, I1.length = in1 := ⟨_, rfl⟩
     rw [hin] at HR ⊢
     have HIn := Lib.hid hin
     clear HEx HOp hin k0 k1 k2 k3 k4 k5 k6 k7 k8 k9 k10 k11
     go_wp2_with fail
     go_loopw [9] (fun i wr => ∃ k : Nat, k ≤ x.sub.length ∧ i = .int .i64 (k : Int) ∧ Hid (W.grownBy wr (some F) ∧ wc.grownBy wr (some F) ∧ FSt wr F (insA ndLt 1000 N1 (evNs (Con.evss (x.sub.take k) I1))) (insA chxLt 1000 C1 (evCs (Con.evss (x.sub.take k) I1))) (dayInsA D1 (evDs (Con.evss (x.sub.take k) I1))) (l1 || evLt (Con.evss (x.sub.take k) I1))) ∧ BoxN wr W.heap.size 29 [.int .u8 x.k, .string x.fr, .string x.rc, .string x.nm, .int .u8 x.ex.k, .string x.ex.ra, .string x.ex.nm, .int .i64 x.ex.d, .slice ad1 x.ex.sub.length cap1, .int .i64 x.d, .slice ad2 x.ds.length cap2, .slice ad x.sub.length cap]) (fun i _ => x.sub.length - (intOf i).toNat)
     case atStart => exact ⟨0, Nat.zero_le _, rfl, Lib.hid ⟨HR.out.1, grown_below (Below.refl _ _) F, by rw [List.take_zero, Con.evss]; show FSt _ F N1 C1 D1 (l1 || false); rw [Bool.or_false]; exact HR.out.2.1⟩, hbx⟩
     case round =>
      obtain ⟨k, hk, rfl, HP, hbx2⟩ := hrel
      have q4 : wr.cell? ⟨W.heap.size, 11, none⟩ = some (.slice ad x.sub.length cap) := hbx2.cell rfl
      by_cases hlt : k < x.sub.length
      ·obtain ⟨y, hy⟩ : ∃ y, x.sub[k]? = some y := ⟨_, List.getElem?_eq_getElem hlt⟩
       obtain ⟨b, off, e9, f9, s9, rfl, hc, hs'⟩ := (HF.out.rdN HS.out HP.out.1).2.2.1.cells hy
       obtain ⟨c0, c1, c2, c3, c4, c5, c6, c7, c8, c9, c10, c11⟩ := hc
       have hk1 : (0 : Int) ≤ (k : Int) := by omega
       have hk2 : (k : Int) < (x.sub.length : Int) := by omega
       have hym := Con.mem_lt (List.mem_of_getElem? hy)
       have HZ : Hid (Con.evss (x.sub.take (k + 1)) I1 = Con.evss (x.sub.take k) I1 ++ y.evs I1) := Lib.hid (Con.evss_snoc hy I1)
       have hN1 : N1.length ≤ 1001 := by rw [← HH.out.1]; exact insA_le ndLt 1000 _ N hN
       have hC1 : C1.length ≤ 1001 := by rw [← HH.out.2.1]; exact insA_le chxLt 1000 _ C hC
       have hD1 : (dayInsA D1 (evDs (Con.evss (x.sub.take k) I1))).length + (evDs (y.evs I1)).length ≤ 4000000000000 := by
        have h1 := dayInsA_le (evDs (Con.evss (x.sub.take k) I1)) D1
        have h2 := dayInsA_le (evDs (headEv x (d0 :: r) d0)) D
        rw [HH.out.2.2.1] at h2
        have h3 := HDD.out
        rw [evss_split x.sub (k + 1) I1, HZ.out, evDs_append, evDs_append, List.length_append, List.length_append] at h3
        omega
       have hyd : RdDy wr I1 (.slice ia in1 ic) := HR.out.2.1.rdDy HR.out.2.2 HP.out.2.1
       have HC := Lib.hid (HI.out y e9 f9 s9 _ F _ _ _ _ I1 wr (by omega) (by omega) hIl (insA_le ndLt 1000 _ N1 hN1) (insA_le chxLt 1000 _ C1 hC1) hD1 hs' hyd HP.out.2.2)
       unfold Con.val at HC
       clear hy hym hs' hN1 hC1 hD1 hyd
       go_wp2_with fail
       refine HC.out.mono ?_
       rintro e w4 ⟨rfl, h7, h8⟩
       have HN : Hid (W.grownBy w4 (some F) ∧ wc.grownBy w4 (some F) ∧ FSt w4 F (insA ndLt 1000 N1 (evNs (Con.evss (x.sub.take (k + 1)) I1))) (insA chxLt 1000 C1 (evCs (Con.evss (x.sub.take (k + 1)) I1))) (dayInsA D1 (evDs (Con.evss (x.sub.take (k + 1)) I1))) (l1 || evLt (Con.evss (x.sub.take (k + 1)) I1))) := Lib.hid ⟨HP.out.1.trans h7, HP.out.2.1.trans h7, by
        rw [HZ.out, evNs_append, evCs_append, evDs_append, evLt_append, insA_append, insA_append, dayInsA_append, ← Bool.or_assoc]
        exact h8⟩
       have hbx4 := hbx2.grown h7 hXF
       clear h7 h8 HC q4 c0 c1 c2 c3 c4 c5 c6 c7 c8 c9 c10 c11
       go_wp2
       go_roundw
       case rel => exact ⟨k + 1, by omega, by go_num, HN, hbx4⟩
       case measure => simp [intOf]; omega
      ·obtain rfl : k = x.sub.length := by omega
       have HT : Hid (FSt wr F (insA ndLt 1000 N (evNs (x.evs (d0 :: r)))) (insA chxLt 1000 C (evCs (x.evs (d0 :: r)))) (dayInsA D (evDs (x.evs (d0 :: r)))) (late || evLt (x.evs (d0 :: r)))) := Lib.hid (by
        have h := HP.out.2.2
        rw [List.take_length] at h
        rw [Con.evs_cons, evNs_append, evCs_append, evDs_append, evLt_append, insA_append, insA_append, dayInsA_append, ← Bool.or_assoc, HH.out.1, HH.out.2.1, HH.out.2.2.1, HH.out.2.2.2.1, HH.out.2.2.2.2]
        exact h)
       go_wp2
       go_end0
       exact ⟨rfl, HP.out.1, HT.out⟩
end Go.Proofs.YtkonookacfmfgaaGreatDoor
