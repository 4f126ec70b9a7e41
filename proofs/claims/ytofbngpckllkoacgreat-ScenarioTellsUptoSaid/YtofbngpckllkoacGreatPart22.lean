/-
  The law ScenarioTells itself.
-/
import Derived.Test.YtofbngpckllkoacGreatPart21
namespace Go.Proofs.YtofbngpckllkoacGreat
open Go.RowKit

theorem Ext.drew1 {w W : World} (h : Ext w W) : Ext w W.drew := Below.drew h
theorem Boxed2.undrew {w : World} {B : Nat} {t : TypeId} {u v : Value} (h : Boxed2 w B t u v) : Boxed2 w.drew B t u v := h
theorem BoxN.undrew {w : World} {B : Nat} {t : TypeId} {cs : List Value} (h : BoxN w B t cs) : BoxN w.drew B t cs := h
theorem BoxN.belowX {W W' : World} {B : Nat} {t : TypeId} {cs : List Value} (h : BoxN W B t cs) (hb : Below W.heap.size W W') : BoxN W' B t cs := h.below hb h.lt
theorem box_ne {w : World} {B B' : Nat} {t t' : TypeId} {u v : Value} {cs : List Value} (h : Boxed2 w B t u v) (h' : BoxN w B' t' cs) (ht : t ≠ t') : B ≠ B' := by
  rintro rfl
  have e : some (Obj.cells #[u, v] t (0, 0)) = some (Obj.cells cs.toArray t' (0, 0)) := h.symm.trans h'
  simp at e
  exact ht e.2
theorem keep_alloc {w : World} {p : Addr} {v : Value} (h : w.cell? p = some v) (o : Obj) : (w.alloc o).cell? p = some v := (World.cell?_of_block (a := p) (Below.heap_alloc w o p.block (World.block_lt_of_cell? w p h))).trans h
theorem keep_set {w : World} {p a : Addr} {v : Value} (h : w.cell? p = some v) (hne : a.block ≠ p.block) (x : Value) : (w.setCell a x).cell? p = some v := (World.cell?_setCell_far _ _ _ _ hne).trans h
theorem keep_drew {w : World} {p : Addr} {v : Value} (h : w.cell? p = some v) : w.drew.cell? p = some v := h
theorem Ext.refl1 (w : World) : Ext w w := Below.refl _ _

set_option maxHeartbeats 1000000 in
set_option maxRecDepth 100000 in
theorem law32_great (l : List Sh) (fs : List Fx) (cs : List Ch) (ad af ac : Option Addr) (cap cf cc : Nat) (w : World)
    (HS : Hid (∀ W, Below w.heap.size w W → Calls Tryz.prog 4 #[.agg #[.slice ad l.length cap]] W fun e w' => e = .returned (.bool (scnGreat l)) ∧ Below W.heap.size W w'))
    (HG : Hid (∀ W, Below w.heap.size w W → Calls Tryz.prog 5 #[.agg #[.slice af fs.length cf, .slice ac cs.length cc]] W fun e w' => e = .returned (.bool (greatB fs cs)) ∧ Below W.heap.size W w'))
    (hg : scnGreat l = true ∨ greatB fs cs = true) :
    Calls Tryz.prog 3 #[.agg #[.slice ad l.length cap], .agg #[.slice af fs.length cf, .slice ac cs.length cc]] w fun e w' => e = .returned (.bool true) ∧ Below w.heap.size w w' := by
  cases h1 : scnGreat l with
  | true =>
    rw [h1] at HS
    clear h1 hg HG
    go_enter Tryz.func3, Tryz.ntmps3
    go_wp2_with fail
    refine (HS.out _ (below_a2 _ _ _)).mono ?_
    rintro e w1 ⟨rfl, hb1⟩
    have hbel : Below w.heap.size w w1 := (below_a2 _ _ _).trans (hb1.mono (by simp; omega))
    clear hb1 HS
    go_wp2
    go_ret
    exact ⟨rfl, hbel⟩
  | false =>
    have h2 : greatB fs cs = true := by
      rcases hg with h | h
      · rw [h1] at h; cases h
      · exact h
    rw [h1] at HS
    rw [h2] at HG
    clear h1 h2 hg
    have bx1 := Lib.hid (Boxed2.new (w.alloc (.cells #[.slice ad l.length cap] 24)) (.slice af fs.length cf) (.slice ac cs.length cc) 28)
    go_enter Tryz.func3, Tryz.ntmps3
    go_wp2_with fail
    refine (HS.out _ (below_a2 _ _ _)).mono ?_
    rintro e w1 ⟨rfl, hb1⟩
    have hbel : Below w.heap.size w w1 := (below_a2 _ _ _).trans (hb1.mono (by simp; omega))
    have bE := bx1.out.below hb1
    simp at bE
    have k0 := bE.cell0
    have k1 := bE.cell1
    clear hb1 HS bx1
    go_wp2_with fail
    refine (HG.out _ hbel).mono ?_
    rintro e w2 ⟨rfl, hb2⟩
    have hbel2 := hbel.trans (hb2.mono hbel.size)
    clear hb2 HG k0 k1 bE hbel
    go_wp2
    go_ret
    exact ⟨rfl, hbel2⟩

set_option maxHeartbeats 8000000 in
set_option maxRecDepth 100000 in
theorem law32_main (l l2 : List Sh) (fs gs : List Fx) (cs ds : List Ch) (e1 e2 : Int) (b : Bool) (ad af ac : Option Addr) (cap cf cc : Nat) (w : World)
    (HS : Hid (∀ W, Below w.heap.size w W → Calls Tryz.prog 4 #[.agg #[.slice ad l.length cap]] W fun e w' => e = .returned (.bool false) ∧ Below W.heap.size W w'))
    (HG : Hid (∀ W, Below w.heap.size w W → Calls Tryz.prog 5 #[.agg #[.slice af fs.length cf, .slice ac cs.length cc]] W fun e w' => e = .returned (.bool false) ∧ Below W.heap.size W w'))
    (HT : Hid (∀ W, Below w.heap.size w W → Calls Tryz.prog 6 #[.agg #[.slice af fs.length cf, .slice ac cs.length cc]] W (TwinPost W fs cs)))
    (HA : Hid (∀ W, Below w.heap.size w W → Calls Tryz.prog 7 #[.agg #[.slice ad l.length cap], .agg #[.slice af fs.length cf, .slice ac cs.length cc]] W (EnvPost W e1 gs ds)))
    (HRA : Hid (∀ W, Below w.heap.size w W → Calls Tryz.prog 8 #[.agg #[.slice ad l.length cap], .agg #[.slice af fs.length cf, .slice ac cs.length cc]] W (EnvRd W e1 gs ds)))
    (HI : Hid (∀ W, Below w.heap.size w W → Calls Tryz.prog 9 #[.agg #[.slice ad l.length cap]] W (ScnPost W e2 l2)))
    (HRI : Hid (∀ W, Below w.heap.size w W → Calls Tryz.prog 10 #[.agg #[.slice ad l.length cap]] W (ScnPost W e2 l2)))
    (HCk : Hid (∀ W, Below w.heap.size w W → Calls Tryz.prog 13 #[.agg #[.slice ad l.length cap]] W fun e w' => e = .returned (.int .i64 (scnE b)) ∧ Below W.heap.size W w'))
    (HVa : Hid (∀ W, Below w.heap.size w W → Calls Tryz.prog 14 #[.agg #[.slice ad l.length cap]] W fun e w' => e = .returned (.bool b) ∧ Below W.heap.size W w'))
    (sl : Sl w (.slice ad l.length cap) 4 l.length (l.flatMap Sh.cells)) (had : ad = none → cap = 0) (hl : l.length ≤ 1100000)
    (hgs : gs.length ≤ 1100000) (hds : ds.length ≤ 1100000) (hl2 : l2.length ≤ 1100000) (hf : Rd Fx.cells 3 w af fs) (hc : Rd Ch.cells 4 w ac cs) (hn : fs.length ≤ 1100000) (hm : cs.length ≤ 1100000) :
    Calls Tryz.prog 3 #[.agg #[.slice ad l.length cap], .agg #[.slice af fs.length cf, .slice ac cs.length cc]] w fun e w' => e = .returned (.bool true) ∧ Below w.heap.size w w' := by
  have bx1 := Lib.hid (Boxed2.new (w.alloc (.cells #[.slice ad l.length cap] 24)) (.slice af fs.length cf) (.slice ac cs.length cc) 28)
  have bx0 := Lib.hid (fun (o1 : Obj) => (BoxN.new w [.slice ad l.length cap] 24).alloc o1)
  have Hf := Lib.hid hf
  have Hc := Lib.hid hc
  have Hsl := Lib.hid sl
  have Had := Lib.hid had
  clear sl had hf hc
  go_enter Tryz.func3, Tryz.ntmps3
  go_wp2_with fail
  refine (HS.out _ (below_a2 _ _ _)).mono ?_
  rintro e w1 ⟨rfl, hb1⟩
  have hs1 := hb1.size
  simp at hs1
  have hbel : Below w.heap.size w w1 := (below_a2 _ _ _).trans (hb1.mono (by simp; omega))
  have bE := bx1.out.below hb1
  have bS := (bx0.out _).below hb1 (by simp; omega)
  simp at bE
  have k0 := bE.cell0
  have k1 := bE.cell1
  clear hb1 HS bx1 bx0
  go_wp2_with fail
  refine (HG.out _ hbel).mono ?_
  rintro e w2 ⟨rfl, hb2⟩
  have hs2 := hb2.size
  have hbel2 := hbel.trans (hb2.mono hbel.size)
  have bE2 := bE.below hb2
  have bS2 := bS.below hb2 (by omega)
  clear hb2 HG k0 k1 bE bS hbel
  obtain ⟨i0, ji0, jz0, js0, jb0⟩ := info_parts info_shift
  have H1 : Hid (∀ W, Ext w2 W → Calls Tryz.prog 6 #[.agg #[.slice af fs.length cf, .slice ac cs.length cc]] W fun e w' => ∃ a1 c1 a2 c2, e = .returned (.agg #[.slice a1 fs.length c1, .slice a2 cs.length c2]) ∧ Sl w' (.slice a1 fs.length c1) 3 fs.length (fs.flatMap Fx.cells) ∧ Sl w' (.slice a2 cs.length c2) 4 cs.length (cs.flatMap Ch.cells) ∧ Below W.heap.size W w' ∧ Ext w2 w') := by
    intro W hW
    refine (HT.out W (hbel2.trans (hW.below.mono hbel2.size))).mono ?_
    rintro e w' ⟨a1, c1, a2, c2, rfl, h1, h2, h3⟩
    have h4 : Ext w2 w' := Below.trans hW (h3.mono (Below.size hW))
    exact ⟨a1, c1, a2, c2, rfl, h1, h2, h3, h4⟩
  have HSl : Hid (∀ W, Ext w2 W → Sl W (.slice ad l.length cap) 4 l.length (l.flatMap Sh.cells)) := fun W hW => Hsl.out.below (hbel2.trans (hW.below.mono hbel2.size))
  have HB : Hid (∀ W, Ext w2 W → W.cell? ⟨w.heap.size, 0, none⟩ = some (.slice ad l.length cap) ∧ W.cell? ⟨w.heap.size + 1, 0, none⟩ = some (.slice af fs.length cf) ∧ W.cell? ⟨w.heap.size + 1, 1, none⟩ = some (.slice ac cs.length cc)) := fun W hW => ⟨(bS2.below hW bS2.lt).cell rfl, (bE2.below hW).cell0, (bE2.below hW).cell1⟩
  have k0 := bE2.cell0
  have k1 := bE2.cell1
  have k2 : w2.cell? ⟨w.heap.size, 0, none⟩ = some (.slice ad l.length cap) := bS2.cell rfl
  have hx0 : Ext w2 w2.drew := Below.drew (Below.refl _ _)
  go_upto_region 3 with fail
  go_cut [5, 6] from 25 to 31 (fun v5 v6 wc => KeptAt w2 l fs cs v5 v6 wc)
  case first =>
    refine wp_region_inv (fun L a w' => ∃ v5 v6 v25 v26 v27 v28 v29 v30 v31, a = ⟨#[.agg #[.slice ad l.length cap], .agg #[.slice af fs.length cf, .slice ac cs.length cc], .pointer (some ⟨w.heap.size, 0, none⟩), .pointer (some ⟨w.heap.size + 1, 0, none⟩), .bool false, v5, v6, undef, undef, undef, undef, undef, undef, undef, undef, undef, undef, undef, undef, .agg #[.slice ad l.length cap], .bool false, .bool false, .agg #[.slice af fs.length cf, .slice ac cs.length cc], .bool false, .bool false, v25, v26, v27, v28, v29, v30, v31, undef, undef, undef, undef, undef, undef, undef, undef, undef, undef, undef, undef, undef, undef, undef, undef, undef, undef, undef, undef, undef, undef, undef, undef, undef, undef, undef, undef, undef, undef, undef, undef, undef, undef, undef, undef, undef, undef, undef, undef, undef, undef, undef, undef, undef, undef, undef, undef, undef, undef, undef, undef, undef, undef, undef, undef, undef, undef, undef, undef, undef, undef, undef, undef, undef, undef, undef, undef, undef, undef, undef, undef, undef, undef, undef, undef, undef, undef, undef, undef, undef, undef, undef, undef, undef, undef, undef, undef, undef, undef, undef, undef, undef, undef, undef], []⟩ ∧ CInv w2 w.heap.size l fs cs ad af ac cap cf cc L v5 v6 v25 v26 v27 v28 v29 v30 v31 w') (by kernel_rfl) (by kernel_rfl) ?_ ?_ ?_
    · exact ⟨_, _, _, _, _, _, _, _, _, rfl, CInv.start hx0⟩
    · rintro L a w' ⟨v5, v6, v25, v26, v27, v28, v29, v30, v31, rfl, h⟩ i o ho hL hp
      have hi : i < 11 := by simpa using (Array.getElem?_eq_some_iff.1 ho).1
      have hi2 : i = 0 ∨ i = 1 ∨ i = 2 ∨ i = 3 ∨ i = 4 ∨ i = 5 ∨ i = 6 ∨ i = 7 ∨ i = 8 ∨ i = 9 ∨ i = 10 := by omega
      clear hi
      rcases hi2 with rfl | rfl | rfl | rfl | rfl | rfl | rfl | rfl | rfl | rfl | rfl
      · refine wpOp_step rfl ?_
        intro K hK
        obtain ⟨p0, p1, p2⟩ := HB.out _ h.x
        go_simp
        exact hK _ _ ⟨_, _, _, _, _, _, _, _, _, rfl, h.u0⟩
      · refine wpOp_step rfl ?_
        intro K hK
        obtain rfl := h.f0 (pred_spec ho hp (j := 0) (by kernel_rfl))
        go_simp
        refine (H1.out _ h.x).mono ?_
        rintro e w4 ⟨a1, c1, a2, c2, rfl, x4, y4, hb4, hx4⟩
        exact hK _ _ ⟨_, _, _, _, _, _, _, _, _, rfl, (h.ext hb4).u1 hL x4 y4⟩
      · refine wpOp_step rfl ?_
        intro K hK
        go_simp
        exact hK _ _ ⟨_, _, _, _, _, _, _, _, _, rfl, (h.ext (below_a1 _ _)).u2 _⟩
      · refine wpOp_step rfl ?_
        intro K hK
        go_simp
        exact hK _ _ ⟨_, _, _, _, _, _, _, _, _, rfl, h.u3⟩
      · refine wpOp_step rfl ?_
        intro K hK
        obtain rfl := h.f3 (pred_spec ho hp (j := 3) (by kernel_rfl))
        obtain ⟨p0, p1, p2⟩ := HB.out _ h.x
        go_simp
        exact hK _ _ ⟨_, _, _, _, _, _, _, _, _, rfl, h.u4⟩
      · refine wpOp_step rfl ?_
        intro K hK
        obtain ⟨a0, rfl⟩ := h.f2 (pred_spec ho hp (j := 2) (by kernel_rfl))
        obtain rfl := h.f4 (pred_spec ho hp (j := 4) (by kernel_rfl))
        refine step_append_empty rfl (.tmp 27) (.tmp 29) 22 rfl 50 i0 _ 4 56 ul_shifts ji0 jz0 js0 jb0 (by decide) a0 ad l.length cap (l.flatMap Sh.cells) rfl rfl (HSl.out _ h.x) Had.out (by omega) (by omega) ?_
        intro ad7 cap7 w7 hsl7 hg7 hb7
        exact hK _ _ ⟨_, _, _, _, _, _, _, _, _, rfl, (h.ext hb7).u5 hL hsl7⟩
      · refine wpOp_step rfl ?_
        intro K hK
        have h5 := (pred_spec ho hp (j := 5) (by kernel_rfl))
        obtain ⟨ak, ck, rfl, _⟩ := h.f5 h5
        go_simp
        exact hK _ _ ⟨_, _, _, _, _, _, _, _, _, rfl, h.u6 hL h5⟩
      · refine wpOp_step rfl ?_
        intro K hK
        go_simp
        exact hK _ _ ⟨_, _, _, _, _, _, _, _, _, rfl, (h.ext (below_a1 _ _)).u7 hL (Below.size h.x) (Boxed2.new _ _ _ _) ⟨_, _, _, rfl⟩ ⟨_, _, _, rfl⟩⟩
      · refine wpOp_step rfl ?_
        intro K hK
        go_simp
        exact hK _ _ ⟨_, _, _, _, _, _, _, _, _, rfl, (h.ext (below_a1 _ _)).u8 hL (Below.size h.x) (BoxN.new _ [.slice none 0 0] _) ⟨_, _, _, rfl⟩⟩
      · refine wpOp_step rfl ?_
        intro K hK
        have h1 := (pred_spec ho hp (j := 1) (by kernel_rfl))
        have h7 := (pred_spec ho hp (j := 7) (by kernel_rfl))
        obtain ⟨a1, c1, a2, c2, rfl, _, _⟩ := h.f1 h1
        obtain ⟨B5, x, y, rfl, hB, hb, hx, hy, _⟩ := h.f7 h7
        have y0 := hb.cell0
        have y1 := hb.cell1
        have z0 := hb.frozen 0
        have z1 := hb.frozen 1
        go_simp
        exact hK _ _ ⟨_, _, _, _, _, _, _, _, _, rfl, h.put5 hL h1 rfl hB hb hx hy rfl ⟨_, _, _, rfl⟩ ⟨_, _, _, rfl⟩ h7⟩
      · refine wpOp_step rfl ?_
        intro K hK
        have h6 := (pred_spec ho hp (j := 6) (by kernel_rfl))
        have h8 := (pred_spec ho hp (j := 8) (by kernel_rfl))
        obtain ⟨ak, ck, rfl, _⟩ := h.f5 (h.g6 h6)
        obtain rfl := h.f6 h6
        obtain ⟨B6, x, rfl, hB, hb, hx, _⟩ := h.f8 h8
        have y0 : w'.cell? ⟨B6, 0, none⟩ = some x := hb.cell rfl
        have z0 := hb.frozen 0
        go_simp
        exact hK _ _ ⟨_, _, _, _, _, _, _, _, _, rfl, h.put6 hL h6 rfl hB hb hx rfl ⟨_, _, _, rfl⟩ h8⟩
    · rintro L a w' ⟨v5, v6, v25, v26, v27, v28, v29, v30, v31, rfl, h⟩ hall
      have HF : Hid (KeptAt w2 l fs cs v5 v6 w') := h.fin (fun j hj => hall j hj)
      clear h hall
      go_wp2
      go_meet
      exact HF.out
  case rest =>
    obtain ⟨B5, B6, a4, c4, a5, c5, ak, ck, rfl, rfl, b5, b6, x4, y4, z4, hx⟩ := hcut
    clear H1 HSl HB k0 k1 k2 hx0 HT
    have bS3 := bS2.below hx bS2.lt
    have bE3 := bE2.below hx
    have hbel3 := hbel2.trans (hx.below.mono hbel2.size)
    obtain ⟨W3, hW3⟩ : ∃ W3, W3 = wc := ⟨_, rfl⟩
    rw [← hW3] at b5 b6 x4 y4 z4 bS3 bE3 hbel3 ⊢
    clear hW3 bS2 bE2 hbel2 hx
    have HK3 := Lib.hid (And.intro b5 (And.intro b6 (And.intro x4 (And.intro y4 (And.intro z4 (And.intro bS3 bE3))))))
    have HKe : Hid (∀ W, Ext W3 W → Below w.heap.size w W ∧ BoxN W w.heap.size 24 [.slice ad l.length cap] ∧ Boxed2 W (w.heap.size + 1) 28 (.slice af fs.length cf) (.slice ac cs.length cc)) := fun W hW => ⟨hbel3.trans (hW.below.mono hbel3.size), bS3.below hW bS3.lt, bE3.below hW⟩
    have k0 : W3.cell? ⟨w.heap.size, 0, none⟩ = some (.slice ad l.length cap) := bS3.cell rfl
    have k1 := bE3.cell0
    have k2 := bE3.cell1
    clear b5 b6 x4 y4 z4 bS3 bE3
    go_wp2_with fail
    refine (HA.out _ hbel3).mono ?_
    rintro e w4 ⟨a6, c6, a7, c7, rfl, x6, x7, hb4⟩
    clear k0 k1 k2 hbel3 HA
    have hx4 : Ext W3 w4 := hb4
    obtain ⟨hbel4, bS4, bE4⟩ := HKe.out _ hx4
    have k0 : w4.cell? ⟨w.heap.size, 0, none⟩ = some (.slice ad l.length cap) := bS4.cell rfl
    have k1 := bE4.cell0
    have k2 := bE4.cell1
    have q0 := bS4.lt
    have q1 := bE4.lt
    have h4 := hb4.size
    have B7 := Boxed2.new w4 (.slice a6 gs.length c6) (.slice a7 ds.length c7) 28
    have o6 := x6.alloc (.cells #[.slice a6 gs.length c6, .slice a7 ds.length c7] 28)
    have o7 := x7.alloc (.cells #[.slice a6 gs.length c6, .slice a7 ds.length c7] 28)
    clear x6 x7 hb4 bS4 bE4
    go_wp2_with fail
    refine (HRA.out _ (hbel4.alloc (by omega) _)).mono ?_
    rintro e w5 ⟨a8, c8, a9, c9, rfl, r8, r9, hb5⟩
    clear k0 k1 k2 q0 q1 hbel4 HRA
    have hx5 : Ext W3 w5 := (hx4.alloc1 _).step hb5
    have h5 := hb5.size
    simp at h5
    replace B7 := B7.below hb5
    replace o6 := ownsRow_below' o6 hb5
    replace o7 := ownsRow_below' o7 hb5
    obtain ⟨hbel5, bS5, bE5⟩ := HKe.out _ hx5
    have k0 : w5.cell? ⟨w.heap.size, 0, none⟩ = some (.slice ad l.length cap) := bS5.cell rfl
    have q0 := bS5.lt
    have b8 := Boxed2.new w5 (.slice a8 gs.length c8) (.slice a9 ds.length c9) 28
    replace B7 := B7.alloc (.cells #[.slice a8 gs.length c8, .slice a9 ds.length c9] 28)
    replace o6 := o6.alloc (.cells #[.slice a8 gs.length c8, .slice a9 ds.length c9] 28)
    replace o7 := o7.alloc (.cells #[.slice a8 gs.length c8, .slice a9 ds.length c9] 28)
    replace r8 := r8.below (below_a1 w5 (.cells #[.slice a8 gs.length c8, .slice a9 ds.length c9] 28))
    replace r9 := r9.below (below_a1 w5 (.cells #[.slice a8 gs.length c8, .slice a9 ds.length c9] 28))
    clear hb5 hx4 bS5 bE5
    go_wp2_with fail
    refine (HI.out _ (hbel5.alloc (by have := hbel5.size; omega) _)).mono ?_
    rintro e w6 ⟨aI, cI, rfl, oI, hb6⟩
    clear k0 q0 hbel5 HI
    have hx6 : Ext W3 w6 := (hx5.alloc1 _).step hb6
    have h6 := hb6.size
    simp at h6
    replace B7 := B7.below hb6
    replace o6 := ownsRow_below' o6 hb6
    replace o7 := ownsRow_below' o7 hb6
    replace b8 := b8.below hb6
    replace r8 := r8.below hb6
    replace r9 := r9.below hb6
    obtain ⟨hbel6, bS6, bE6⟩ := HKe.out _ hx6
    have k0 : w6.cell? ⟨w.heap.size, 0, none⟩ = some (.slice ad l.length cap) := bS6.cell rfl
    have q0 := bS6.lt
    have b11 := BoxN.new w6 [.slice aI l2.length cI] 24
    replace B7 := B7.alloc (.cells #[.slice aI l2.length cI] 24)
    replace o6 := o6.alloc (.cells #[.slice aI l2.length cI] 24)
    replace o7 := o7.alloc (.cells #[.slice aI l2.length cI] 24)
    replace oI := oI.alloc (.cells #[.slice aI l2.length cI] 24)
    replace b8 := b8.alloc (.cells #[.slice aI l2.length cI] 24)
    replace r8 := r8.below (below_a1 w6 (.cells #[.slice aI l2.length cI] 24))
    replace r9 := r9.below (below_a1 w6 (.cells #[.slice aI l2.length cI] 24))
    clear hb6 hx5 bS6 bE6
    go_wp2_with fail
    refine (HRI.out _ (hbel6.alloc (by have := hbel6.size; omega) _)).mono ?_
    rintro e w7 ⟨aJ, cJ, rfl, oJ, hb7⟩
    clear k0 q0 hbel6 HRI
    have hx7 : Ext W3 w7 := (hx6.alloc1 _).step hb7
    have h7 := hb7.size
    simp at h7
    replace B7 := (B7.below hb7).alloc (.cells #[.slice aJ l2.length cJ] 24)
    replace o6 := (ownsRow_below' o6 hb7).alloc (.cells #[.slice aJ l2.length cJ] 24)
    replace o7 := (ownsRow_below' o7 hb7).alloc (.cells #[.slice aJ l2.length cJ] 24)
    replace b8 := (b8.below hb7).alloc (.cells #[.slice aJ l2.length cJ] 24)
    replace r8 := (r8.below hb7).below (below_a1 w7 (.cells #[.slice aJ l2.length cJ] 24))
    replace r9 := (r9.below hb7).below (below_a1 w7 (.cells #[.slice aJ l2.length cJ] 24))
    replace b11 := (b11.below hb7 (by simp)).alloc (.cells #[.slice aJ l2.length cJ] 24)
    replace oI := (ownsRow_below' oI hb7).alloc (.cells #[.slice aJ l2.length cJ] 24)
    replace oJ := oJ.alloc (.cells #[.slice aJ l2.length cJ] 24)
    have b13 := BoxN.new w7 [.slice aJ l2.length cJ] 24
    have hx8 := hx7.alloc1 (.cells #[.slice aJ l2.length cJ] 24)
    go_upto_region 8 with fail
    obtain ⟨V, hV⟩ : ∃ V, V = w7.alloc (.cells #[.slice aJ l2.length cJ] 24) := ⟨_, rfl⟩
    rw [← hV] at B7 b8 b11 b13 o6 o7 oI oJ r8 r9 hx8 ⊢
    clear hV hx6 hx7
    obtain ⟨hbelV, bSV, bEV⟩ := HKe.out _ hx8
    have hS : ∀ W, Ext V W → W.cell? ⟨w4.heap.size, 0, none⟩ = some (.slice a6 gs.length c6) ∧ W.cell? ⟨w4.heap.size, 1, none⟩ = some (.slice a7 ds.length c7) ∧ W.cell? ⟨w5.heap.size, 0, none⟩ = some (.slice a8 gs.length c8) ∧ W.cell? ⟨w5.heap.size, 1, none⟩ = some (.slice a9 ds.length c9) ∧ W.cell? ⟨w6.heap.size, 0, none⟩ = some (.slice aI l2.length cI) ∧ W.cell? ⟨w7.heap.size, 0, none⟩ = some (.slice aJ l2.length cJ) ∧ W.cell? ⟨w.heap.size, 0, none⟩ = some (.slice ad l.length cap) := fun W hW => ⟨(B7.below hW).cell0, (B7.below hW).cell1, (b8.below hW).cell0, (b8.below hW).cell1, (b11.below hW b11.lt).cell rfl, (b13.below hW b13.lt).cell rfl, (bSV.below hW bSV.lt).cell rfl⟩
    have HS1 : Hid (∀ W, Ext V W → Calls Tryz.prog 11 #[.agg #[.slice a6 gs.length c6, .slice a7 ds.length c7], .agg #[.slice a8 gs.length c8, .slice a9 ds.length c9]] W fun e w' => e = .returned (.bool true) ∧ Below W.heap.size W w') := fun W hW => by
      have h := same_any gs gs ds ds a6 a7 a8 a9 c6 c7 c8 c9 W hgs hds hgs hds ((rd_fx o6).below hW) ((rd_ch o7).below hW) (r8.below hW) (r9.below hW)
      rw [eqB_true ⟨rfl, rfl⟩] at h
      exact h
    have HS2 : Hid (∀ W, Ext V W → Calls Tryz.prog 12 #[.agg #[.slice aI l2.length cI], .agg #[.slice aJ l2.length cJ]] W fun e w' => e = .returned (.bool true) ∧ Below W.heap.size W w') := fun W hW => sameSh_any l2 aI aJ cI cJ W hl2 ((rd_sh oI).below hW) ((rd_sh oJ).below hW)
    have HC1 : Hid (∀ W, Ext V W → Calls Tryz.prog 13 #[.agg #[.slice ad l.length cap]] W fun e w' => e = .returned (.int .i64 (scnE b)) ∧ Below W.heap.size W w') := fun W hW => HCk.out W (hbelV.trans (hW.below.mono hbelV.size))
    have HV1 : Hid (∀ W, Ext V W → Calls Tryz.prog 14 #[.agg #[.slice ad l.length cap]] W fun e w' => e = .returned (.bool b) ∧ Below W.heap.size W w') := fun W hW => HVa.out W (hbelV.trans (hW.below.mono hbelV.size))
    have u1 : (scnE b == 0) = b := by cases b <;> rfl
    have u2 : (b == b) = true := by cases b <;> rfl
    have hoI := ownsRow_base' oI (base' := W3.heap.size) (by simp; omega)
    have HL0 : Hid (∀ W, Ext V W → LSt W3 W W3.heap.size W3.heap.size w4.heap.size w6.heap.size (.slice a6 gs.length c6) (.slice a7 ds.length c7) (.slice aI l2.length cI) gs.length ds.length l2.length (gs.flatMap Fx.cells) (ds.flatMap Ch.cells) (l2.flatMap Sh.cells)) := fun W hW => ⟨Ext.step hx8 hW, B7.below hW, b11.below hW b11.lt, ownsRow_below' o6 hW, ownsRow_below' o7 hW, ownsRow_below' hoI hW⟩
    clear HCk HVa B7 b8 b11 b13 o6 o7 oI oJ r8 r9 hoI hbelV bSV bEV hx8
    refine wp_region_ext (fun W' => W'.cell? ⟨w4.heap.size, 0, none⟩ = some (.slice a6 gs.length c6) ∧ W'.cell? ⟨w4.heap.size, 1, none⟩ = some (.slice a7 ds.length c7) ∧ W'.cell? ⟨w5.heap.size, 0, none⟩ = some (.slice a8 gs.length c8) ∧ W'.cell? ⟨w5.heap.size, 1, none⟩ = some (.slice a9 ds.length c9) ∧ W'.cell? ⟨w6.heap.size, 0, none⟩ = some (.slice aI l2.length cI) ∧ W'.cell? ⟨w7.heap.size, 0, none⟩ = some (.slice aJ l2.length cJ) ∧ W'.cell? ⟨w.heap.size, 0, none⟩ = some (.slice ad l.length cap)) hS (by kernel_rfl) (by kernel_rfl) ?_
    intro HCW
    clear hS
    repeat (first | go_big_quiet_skip | (go_big_quiet_want; apply Exists.intro; refine ⟨fun W hW => ?_, ?_⟩; (focus (obtain ⟨p0, p1, p2, p3, p4, p5, p6⟩ := HCW W hW; go_simp; first | done | rfl | with_reducible exact ext_calls' HS1.out W hW | with_reducible exact ext_calls' HS2.out W hW | with_reducible exact ext_calls' HC1.out W hW | with_reducible exact ext_calls' HV1.out W hW)); (simp only [Act.put, List.setIfInBounds_toArray, List.set_cons_zero, List.set_cons_succ]); go_big_quiet_on))
    refine wpQuiet_nil ?_
    intro W hW
    have hl0 := HL0.out W hW
    clear HCW HS1 HS2 HC1 HV1 HL0 hW u1 u2
    go_upto_block 0 with fail
    go_cut [16] from 80 to 91 (fun _ wc => ∃ os, LSt W3 wc W3.heap.size W3.heap.size w4.heap.size w6.heap.size (.slice a6 gs.length c6) (.slice a7 ds.length c7) (.slice aI l2.length cI) gs.length ds.length l2.length os (ds.flatMap Ch.cells) (l2.flatMap Sh.cells))
    case first =>
      go_wp2_with fail
      go_loopw [16] (fun i wr => ∃ (k : Nat) (os : List Value), k ≤ gs.length ∧ i = .int .i64 k ∧ LSt W3 wr W3.heap.size W3.heap.size w4.heap.size w6.heap.size (.slice a6 gs.length c6) (.slice a7 ds.length c7) (.slice aI l2.length cI) gs.length ds.length l2.length os (ds.flatMap Ch.cells) (l2.flatMap Sh.cells)) (fun i _ => gs.length - (intOf i).toNat)
      case atStart => exact ⟨0, _, Nat.zero_le _, rfl, hl0⟩
      case round =>
        clear hl0
        obtain ⟨k, os, hk, rfl, hst⟩ := hrel
        have q0 := hst.b7.cell0
        by_cases hlt : k < gs.length
        · obtain ⟨g, rfl⟩ := owns_some hst.o6 (by omega)
          have hl := hst.o6.1
          have hj : k * 3 + 1 < gs.length * 3 := by omega
          obtain ⟨u, hu⟩ : ∃ u, os[k * 3 + 1]? = some u := ⟨_, List.getElem?_eq_getElem (by omega)⟩
          have hcl := (hst.o6.cellAt (k * 3 + 1) hj).trans hu
          have hfr := hst.o6.frozenAt (k * 3 + 1)
          have hk1 : (0 : Int) ≤ (k : Int) := by omega
          have hk2 : (k : Int) < (gs.length : Int) := by omega
          have HT2 := Lib.hid (hst.set6 (Nat.le_refl _) (k * 3 + 1) (.int .i64 (-7)))
          clear hu hl hj hst
          go_wp2
          go_roundw
          case rel => exact ⟨k + 1, _, by omega, by go_num, HT2.out⟩
          case measure => simp [intOf]; omega
        · obtain rfl : k = gs.length := by omega
          go_wp2
          go_meet
          exact ⟨os, hst⟩
    case rest =>
      clear hl0
      obtain ⟨x6, hl0⟩ := hcut
      go_upto_block 2 with fail
      go_cut [17] from 92 to 103 (fun _ wc => ∃ os, LSt W3 wc W3.heap.size W3.heap.size w4.heap.size w6.heap.size (.slice a6 gs.length c6) (.slice a7 ds.length c7) (.slice aI l2.length cI) gs.length ds.length l2.length x6 os (l2.flatMap Sh.cells))
      case first =>
        go_wp2_with fail
        go_loopw [17] (fun i wr => ∃ (k : Nat) (os : List Value), k ≤ ds.length ∧ i = .int .i64 k ∧ LSt W3 wr W3.heap.size W3.heap.size w4.heap.size w6.heap.size (.slice a6 gs.length c6) (.slice a7 ds.length c7) (.slice aI l2.length cI) gs.length ds.length l2.length x6 os (l2.flatMap Sh.cells)) (fun i _ => ds.length - (intOf i).toNat)
        case atStart => exact ⟨0, _, Nat.zero_le _, rfl, hl0⟩
        case round =>
          clear hl0
          obtain ⟨k, os, hk, rfl, hst⟩ := hrel
          have q0 := hst.b7.cell1
          by_cases hlt : k < ds.length
          · obtain ⟨g, rfl⟩ := owns_some hst.o7 (by omega)
            have hl := hst.o7.1
            have hj : k * 4 + 2 < ds.length * 4 := by omega
            obtain ⟨u, hu⟩ : ∃ u, os[k * 4 + 2]? = some u := ⟨_, List.getElem?_eq_getElem (by omega)⟩
            have hcl := (hst.o7.cellAt (k * 4 + 2) hj).trans hu
            have hfr := hst.o7.frozenAt (k * 4 + 2)
            have hk1 : (0 : Int) ≤ (k : Int) := by omega
            have hk2 : (k : Int) < (ds.length : Int) := by omega
            have HT2 := Lib.hid (hst.set7 (Nat.le_refl _) (k * 4 + 2) (.int .i64 (-7)))
            clear hu hl hj hst
            go_wp2
            go_roundw
            case rel => exact ⟨k + 1, _, by omega, by go_num, HT2.out⟩
            case measure => simp [intOf]; omega
          · obtain rfl : k = ds.length := by omega
            go_wp2
            go_meet
            exact ⟨os, hst⟩
      case rest =>
        clear hl0
        obtain ⟨x7, hl0⟩ := hcut
        go_wp2_with fail
        go_loopw [18] (fun i wr => ∃ (k : Nat) (os : List Value), k ≤ l2.length ∧ i = .int .i64 k ∧ LSt W3 wr W3.heap.size W3.heap.size w4.heap.size w6.heap.size (.slice a6 gs.length c6) (.slice a7 ds.length c7) (.slice aI l2.length cI) gs.length ds.length l2.length x6 x7 os) (fun i _ => l2.length - (intOf i).toNat)
        case atStart => exact ⟨0, _, Nat.zero_le _, rfl, hl0⟩
        case round =>
          clear hl0
          obtain ⟨k, os, hk, rfl, hst⟩ := hrel
          have q0 : wr.cell? ⟨w6.heap.size, 0, none⟩ = some (.slice aI l2.length cI) := hst.b11.cell rfl
          by_cases hlt : k < l2.length
          · obtain ⟨g, rfl⟩ := owns_some hst.o8 (by omega)
            have hl := hst.o8.1
            have hj : k * 4 + 1 < l2.length * 4 := by omega
            obtain ⟨u, hu⟩ : ∃ u, os[k * 4 + 1]? = some u := ⟨_, List.getElem?_eq_getElem (by omega)⟩
            have hcl := (hst.o8.cellAt (k * 4 + 1) hj).trans hu
            have hfr := hst.o8.frozenAt (k * 4 + 1)
            have hk1 : (0 : Int) ≤ (k : Int) := by omega
            have hk2 : (k : Int) < (l2.length : Int) := by omega
            have HT2 := Lib.hid (hst.set8 (Nat.le_refl _) (k * 4 + 1) (.int .i64 (-7)))
            clear hu hl hj hst
            go_wp2
            go_roundw
            case rel => exact ⟨k + 1, _, by omega, by go_num, HT2.out⟩
            case measure => simp [intOf]; omega
          · obtain rfl : k = l2.length := by omega
            have hbel := hst.bel
            obtain ⟨hbz, bSz, bEz⟩ := HKe.out _ hbel
            obtain ⟨b5, b6, x4, y4, z4, _, _⟩ := HK3.out
            have b5' := b5.below hbel
            have b6' := b6.below hbel b6.lt
            have d0 := bEz.cell0
            have d1 := bEz.cell1
            have d2 : wr.cell? ⟨w.heap.size, 0, none⟩ = some (.slice ad l.length cap) := bSz.cell rfl
            have d3 := b5'.cell0
            have d4 := b5'.cell1
            have d5 : wr.cell? ⟨B6, 0, none⟩ = some (.slice ak l.length ck) := b6'.cell rfl
            have C1 : Calls Tryz.prog 11 #[.agg #[.slice af fs.length cf, .slice ac cs.length cc], .agg #[.slice a4 fs.length c4, .slice a5 cs.length c5]] wr fun e w' => e = .returned (.bool true) ∧ Below wr.heap.size wr w' := by
              have h := same_any fs fs cs cs af ac a4 a5 cf cc c4 c5 wr hn hm hn hm (Hf.out.below hbz) (Hc.out.below hbz) (Rd.of_sl (enc := Fx.cells) (m := 3) (fun _ => rfl) (by decide) (x4.below hbel)) (Rd.of_sl (enc := Ch.cells) (m := 4) (fun _ => rfl) (by decide) (y4.below hbel))
              rw [eqB_true ⟨rfl, rfl⟩] at h
              exact h
            have C2 : ∀ W, Below wr.heap.size wr W → Calls Tryz.prog 12 #[.agg #[.slice ad l.length cap], .agg #[.slice ak l.length ck]] W fun e w' => e = .returned (.bool true) ∧ Below W.heap.size W w' := fun W hW =>
              sameSh_any l ad ak cap ck W hl ((Rd.of_sl (enc := Sh.cells) (m := 4) (fun _ => rfl) (by decide) (Hsl.out.below hbz)).below hW) ((Rd.of_sl (enc := Sh.cells) (m := 4) (fun _ => rfl) (by decide) (z4.below hbel)).below hW)
            have HC1 := Lib.hid C1
            have HC2 := Lib.hid C2
            clear C1 C2 hst x4 y4 z4 b5 b6
            go_wp2_with fail
            refine HC1.out.mono ?_
            rintro e w8 ⟨rfl, hb8⟩
            have e2 : w8.cell? ⟨w.heap.size, 0, none⟩ = some (.slice ad l.length cap) := (bSz.below hb8 bSz.lt).cell rfl
            have e5 : w8.cell? ⟨B6, 0, none⟩ = some (.slice ak l.length ck) := (b6'.below hb8 b6'.lt).cell rfl
            clear d0 d1 d2 d3 d4 d5
            go_wp2_with fail
            refine (HC2.out _ hb8).mono ?_
            rintro e w9 ⟨rfl, hb9⟩
            have hfin : Below w.heap.size w w9 := (hbz.trans (hb8.mono hbz.size)).trans (hb9.mono (Nat.le_trans hbz.size hb8.size))
            clear e2 e5 hb8 hb9
            go_wp2
            go_ret
            exact ⟨rfl, hfin⟩

theorem small_of_scn {l : List Sh} (h : scnGreat l = false) : ∀ x ∈ l, x.ra.size ≤ 1000 ∧ x.ex.size ≤ 1000 := by
  intro x hx
  rw [scnGreat, Bool.or_eq_false_iff] at h
  have h2 := List.any_eq_false.1 h.2 x hx
  simp [shGreat] at h2
  omega
theorem fxSum_mem {l : List Fx} {f : Fx} (h : f ∈ l) : f.vl.size ≤ fxSum l := by
  induction l with
  | nil => cases h
  | cons a l ih =>
    rcases List.mem_cons.1 h with rfl | h
    · simp [fxSum]; omega
    · have := ih h; simp [fxSum]; omega
theorem small_of_great {fs : List Fx} {cs : List Ch} (h : greatB fs cs = false) : ∀ f ∈ fs, f.vl.size ≤ 20000 := by
  intro f hf
  have h1 := fxSum_mem hf
  rw [greatB, decide_eq_false_iff_not] at h
  omega

theorem law32_any (l : List Sh) (fs : List Fx) (cs : List Ch) (ad af ac : Option Addr) (cap cf cc : Nat) (w : World) (hl : l.length ≤ 1100000) (hn : fs.length ≤ 1100000) (hm : cs.length ≤ 1100000)
    (hr : Rd Sh.cells 4 w ad l) (hf : Rd Fx.cells 3 w af fs) (hc : Rd Ch.cells 4 w ac cs) (sl : Sl w (.slice ad l.length cap) 4 l.length (l.flatMap Sh.cells)) (sf : Sl w (.slice af fs.length cf) 3 fs.length (fs.flatMap Fx.cells)) (sc : Sl w (.slice ac cs.length cc) 4 cs.length (cs.flatMap Ch.cells))
    (had : ad = none → cap = 0) (haf : af = none → cf = 0) (hac : ac = none → cc = 0) (hs : ∀ x ∈ l, x.small) (hfs : ∀ f ∈ fs, f.small) (hcs : ∀ c ∈ cs, c.small) :
    Calls Tryz.prog 3 #[.agg #[.slice ad l.length cap], .agg #[.slice af fs.length cf, .slice ac cs.length cc]] w fun e w' => e = .returned (.bool true) ∧ Below w.heap.size w w' := by
  have HS := Lib.hid (fun W (h : Below w.heap.size w W) => scnGreat_any l ad cap W hl (hr.below h) hs)
  have HG := Lib.hid (fun W (h : Below w.heap.size w W) => great_any fs cs af ac cf cc W hn hm (hf.below h) (hc.below h) hfs hcs)
  by_cases hg : scnGreat l = true ∨ greatB fs cs = true
  · exact law32_great l fs cs ad af ac cap cf cc w HS HG hg
  · have hg1 : scnGreat l = false := by
      cases h : scnGreat l with
      | false => rfl
      | true => exact absurd (.inl h) hg
    have hg2 : greatB fs cs = false := by
      cases h : greatB fs cs with
      | false => rfl
      | true => exact absurd (.inr h) hg
    rw [hg1] at HS
    rw [hg2] at HG
    have hs2 : ∀ x ∈ l, x.small ∧ x.ra.size ≤ 1000000 ∧ x.ex.size ≤ 1000000 := fun x hx => by
      have h := small_of_scn hg1 x hx
      exact ⟨hs x hx, by omega, by omega⟩
    have hf2 : ∀ f ∈ fs, f.small ∧ f.vl.size ≤ 1000000 := fun f hf => ⟨hfs f hf, by have := small_of_great hg2 f hf; omega⟩
    have hal : (applyF l fs cs).length ≤ fs.length := by
      unfold applyF
      split
      · rw [List.length_map]; exact Nat.le_refl _
      · exact Nat.zero_le _
    have hac2 : (applyC l fs cs).length ≤ cs.length := by
      unfold applyC
      split
      · exact Nat.le_refl _
      · exact Nat.zero_le _
    have hil : (inverseL l).length ≤ l.length := by
      unfold inverseL
      split
      · rw [List.length_map]; exact Nat.le_refl _
      · exact Nat.zero_le _
    exact law32_main l (inverseL l) fs (applyF l fs cs) cs (applyC l fs cs) (applyE l fs cs) (inverseE l) (scnB l) ad af ac cap cf cc w HS HG
      (Lib.hid fun W h => twin_any fs cs af ac cf cc W hn hm (sf.below h) (sc.below h) haf hac)
      (Lib.hid fun W h => apply_any l fs cs ad af ac cap cf cc W hl hn hm (hr.below h) hs2 (hf.below h) (hc.below h) hf2 hcs (sf.below h) haf (sc.below h) hac)
      (Lib.hid fun W h => rapply_any l fs cs ad af ac cap cf cc W hl hn hm (hr.below h) hs2 (hf.below h) (hc.below h) hf2 hcs (sc.below h) hac)
      (Lib.hid fun W h => inverse_any l ad cap W hl (hr.below h) (sl.below h) had hs2)
      (Lib.hid fun W h => rinverse_any l ad cap W hl (hr.below h) hs2)
      (Lib.hid fun W h => scnChk_any l ad cap W hl (hr.below h) hs)
      (Lib.hid fun W h => valid_any l ad cap W hl (hr.below h) hs)
      sl had hl (Nat.le_trans hal hn) (Nat.le_trans hac2 hm) (Nat.le_trans hil hl) hf hc hn hm
end Go.Proofs.YtofbngpckllkoacGreat
