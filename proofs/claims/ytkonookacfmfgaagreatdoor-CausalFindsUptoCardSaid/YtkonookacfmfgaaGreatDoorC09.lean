/-
  novationref08.Twin: a copy of an expression, in new memory. append onto an empty slice, from a slice that reads as a list, nil or not. The closure of causal.Days.
-/
import Derived.Test.YtkonookacfmfgaaGreatDoorC08
import Derived.Test.YtkonookacfmfgaaGreatDoorC01
import Derived.Laws.OwnMore
import Derived.Deep.RegionLaw
import Derived.Test.YtkonookacfmfgaaGreatDoorC07
import Derived.Laws.EntriesVeiled
namespace Go.Proofs.YtkonookacfmfgaaGreatDoor
open Go.RowKit
theorem info_ex : (Tryz.prog.info? 25).map (fun i => (i.zero, i.size, i.bytes)) = some (some (.agg #[.int .u8 0, .string ⟨#[]⟩, .string ⟨#[]⟩, .int .i64 0, .slice none 0 0]), 5, 72) := by kernel_rfl
theorem ul_exs : Tryz.prog.underlying 23 = some (.slice 25) := by kernel_rfl
abbrev ExV : Type := Ex × Value
def exC (p : ExV) : List Value := p.1.cells p.2
theorem exC_len (p : ExV) : (exC p).length = 5 := rfl
def exR (p : ExV) (w : World) : Prop := RdE w p.1.sub p.2
def exCS (s : Value) : Prop := ∃ a n c, s = .slice a n c
theorem exC_one (p : ExV) (hp : exCS p.2) : ∀ u ∈ exC p, u.oneCell' = true := by
 obtain ⟨x, s⟩ := p
 obtain ⟨a, n, c, h⟩ := hp
 simp only at h
 subst h
 intro u hu
 simp [exC, Ex.cells] at hu
 rcases hu with rfl | rfl | rfl | rfl | rfl <;> rfl
theorem rdE_of_row {w wr w2 : World} {D n : Nat} {LL : List ExV} {a2 : Option Addr} {c2 : Nat} {xs : List Ex} (hL : LL.map Prod.fst = xs) (hn : LL.length = n) (h : PRow exC 25 5 exR (fun _ => True) w D LL a2 c2 wr) (h8 : ∀ y ∈ xs, y.k < 256)
  (hz : wr.heap.size ≤ w2.heap.size) (hag : ∀ b, D ≤ b → b < wr.heap.size → w2.heap[b]? = wr.heap[b]?) : RdE w2 xs (.slice a2 n c2) := by
 subst hL
 have e : n = (LL.map Prod.fst).length := by rw [List.length_map, hn]
 rw [e]
 have hat : ∀ (j : Nat) (x : Ex), (LL.map Prod.fst)[j]? = some x → ∃ s : Value, LL[j]? = some (x, s) := by
  intro j x hx
  rw [List.getElem?_map] at hx
  cases hp : LL[j]? with
  | none => rw [hp] at hx; cases hx
  | some p => rw [hp] at hx; cases hx; exact ⟨p.2, rfl⟩
 refine .mk a2 c2 _ (fun j => (LL[j]?.map Prod.snd).getD undef) (fun j x hx => ?_) fun j x hx => ?_
 ·obtain ⟨s, hs⟩ := hat j x hx
  refine ⟨h8 x (List.mem_of_getElem? hx), ?_⟩
  obtain ⟨g, rfl, c0⟩ := h.cell exC_len hs (j := 0) rfl hag
  obtain ⟨_, e1, c1⟩ := h.cell exC_len hs (j := 1) rfl hag
  cases e1
  obtain ⟨_, e1, c2⟩ := h.cell exC_len hs (j := 2) rfl hag
  cases e1
  obtain ⟨_, e1, c3⟩ := h.cell exC_len hs (j := 3) rfl hag
  cases e1
  obtain ⟨_, e1, c4⟩ := h.cell exC_len hs (j := 4) rfl hag
  cases e1
  refine ⟨g, 0, rfl, c0, c1, c2, c3, ?_⟩
  simp only [hs]
  exact c4
 ·obtain ⟨s, hs⟩ := hat j x hx
  have hk := h.2.1 _ (List.mem_of_getElem? hs) w2 hz fun b hb1 hb2 _ => hag b hb1 hb2
  simp only [hs]
  exact hk
set_option maxHeartbeats 8000000 in
set_option maxRecDepth 100000 in
theorem rtwinE_any : ∀ (B : Nat) (x : Ex) (s : Value) (w : World), x.bulk ≤ B → x.bulk ≤ 2000000 → RdE w x.sub s →
  Calls Tryz.prog 20 #[x.val s] w fun e w' => ∃ s', e = .returned (x.val s') ∧ Keep none w.heap.size w' (exR (x, s')) ∧ exCS s' ∧ Below w.heap.size w w' := by
 intro B
 induction B with
 | zero =>
  intro x s w h0
  rw [Ex.bulk_eq] at h0
  omega
 | succ B ih =>
  intro x s w hB hM hs
  obtain ⟨i0, hi, hz0, hz1, hz2⟩ := info_parts info_ex
  obtain ⟨ad, cap, rfl⟩ := hs.len
  have HS := Lib.hid hs
  have HI := Lib.hid ih
  have hlen := Ex.bulks_len x.sub
  have hlt0 := x.sub_lt
  have hn : x.sub.length ≤ 2000000 := by omega
  clear hs ih
  unfold Ex.val
  go_enter Tryz.func20, Tryz.ntmps20
  go_wp2_with fail
  go_loopw [4] (fun i wr => ∃ (LL : List ExV) (a2 : Option Addr) (c2 : Nat), LL.length ≤ x.sub.length ∧ i = .int .i64 (LL.length : Int) ∧ Hid (LL.map Prod.fst = x.sub.take LL.length ∧ PRow exC 25 5 exR (fun _ => True) w (w.heap.size + 1 + 1 + 1) LL a2 c2 wr) ∧
   BoxN wr w.heap.size 25 [.int .u8 x.k, .string x.ra, .string x.nm, .int .i64 x.d, .slice ad x.sub.length cap] ∧ BoxN wr (w.heap.size + 1) 25 [.int .u8 0, .string ⟨#[]⟩, .string ⟨#[]⟩, .int .i64 0, .slice none 0 0] ∧
   BoxN wr (w.heap.size + 1 + 1) 25 [.int .u8 x.k, .string x.ra, .string x.nm, .int .i64 x.d, .slice a2 LL.length c2]) (fun i _ => x.sub.length - (intOf i).toNat)
  case atStart =>
   exact ⟨[], none, 0, Nat.zero_le _, rfl, Lib.hid ⟨rfl, World.ownsRow_nil _ _ _ _, fun _ h => (by cases h), below_a3 _ _ _ _, by simp, fun _ _ _ => trivial⟩, ((BoxN.new _ [.int .u8 x.k, .string x.ra, .string x.nm, .int .i64 x.d, .slice ad x.sub.length cap] _).alloc _).alloc _, by have h := (BoxN.new (w.alloc (.cells #[.int .u8 x.k, .string x.ra, .string x.nm, .int .i64 x.d, .slice ad x.sub.length cap] 25)) [.int .u8 0, .string ⟨#[]⟩, .string ⟨#[]⟩, .int .i64 0, .slice none 0 0] 25); rw [World.size_alloc] at h; exact h.alloc _, by have h := (BoxN.new ((w.alloc (.cells #[.int .u8 x.k, .string x.ra, .string x.nm, .int .i64 x.d, .slice ad x.sub.length cap] 25)).alloc (.cells #[.int .u8 0, .string ⟨#[]⟩, .string ⟨#[]⟩, .int .i64 0, .slice none 0 0] 25)) [.int .u8 x.k, .string x.ra, .string x.nm, .int .i64 x.d, .slice none 0 0] 25); rw [World.size_alloc, World.size_alloc] at h; exact h⟩
  case round =>
   obtain ⟨LL, a2, c2, hk, rfl, HL, hbx, hbr, hbo⟩ := hrel
   obtain ⟨k, hkk⟩ : ∃ k, LL.length = k := ⟨_, rfl⟩
   have HK := Lib.hid hkk
   rw [hkk] at hk hbo ⊢
   have q0 : wr.cell? ⟨w.heap.size, 4, none⟩ = some (.slice ad x.sub.length cap) := hbx.cell rfl
   have q1 : wr.cell? ⟨w.heap.size + 1 + 1, 4, none⟩ = some (.slice a2 k c2) := hbo.cell rfl
   clear hkk
   by_cases hlt : k < x.sub.length
   ·obtain ⟨y, hy⟩ : ∃ y, x.sub[k]? = some y := ⟨_, List.getElem?_eq_getElem hlt⟩
    obtain ⟨b, off, sy, rfl, d0, d1, d2, d3, d4, hs', _⟩ := (HS.out.frame HL.out.2.2.2.1).at hy
    have hk1 : (0 : Int) ≤ (k : Int) := by omega
    have hk2 : (k : Int) < (x.sub.length : Int) := by omega
    have hym := Ex.mem_lt (List.mem_of_getElem? hy)
    have HC := Lib.hid fun (V : World) (hV : Below wr.heap.size wr V) => HI.out y sy V (by omega) (by omega) (hs'.frame hV)
    have HY := Lib.hid hy
    unfold Ex.val at HC
    clear hy hym hs'
    go_wp2_with fail
    refine wp_region_invc (fun L a w' => ∃ (sn : Value) (g : Nat) (r v0 v1 v2 v3 v4 v5 v6 v7 v8 v9 v10 : Value), a = ⟨#[.agg #[.int .u8 (x.k : Int), .string x.ra, .string x.nm, .int .i64 x.d, .slice (some ⟨b, off, none⟩) x.sub.length cap], .pointer (some ⟨w.heap.size, 0, none⟩), .pointer (some ⟨w.heap.size + 1, 0, none⟩), .pointer (some ⟨w.heap.size + 1 + 1, 0, none⟩), .int .i64 (k : Int), .pointer (some ⟨w.heap.size, 0, none⟩), .int .u8 (x.k : Int), .pointer (some ⟨w.heap.size, 1, none⟩), .string x.ra, .pointer (some ⟨w.heap.size, 2, none⟩), .string x.nm, .pointer (some ⟨w.heap.size, 3, none⟩), .int .i64 x.d, .agg #[.int .u8 (x.k : Int), .string x.ra, .string x.nm, .int .i64 x.d, .slice none 0 0], .int .i64 (k : Int), .pointer (some ⟨w.heap.size, 4, none⟩), .slice (some ⟨b, off, none⟩) x.sub.length cap, .int .i64 (x.sub.length : Int), .bool true, u19, u20, v0, v1, v2, v3, v4, v5, v6, v7, v8, v9, v10, undef], []⟩ ∧ VInv w' [.pointer (some ⟨w.heap.size + 1 + 1, 4, none⟩), .slice a2 k c2, .pointer (some ⟨w.heap.size, 4, none⟩), .slice (some ⟨b, off, none⟩) x.sub.length cap, .int .i64 (k : Int), .pointer (some ⟨b, off + k * 5, none⟩), .agg #[.int .u8 (y.k : Int), .string y.ra, .string y.nm, .int .i64 y.d, sy], .agg #[.int .u8 (y.k : Int), .string y.ra, .string y.nm, .int .i64 y.d, sn], .slice (some ⟨g, 0, none⟩) 1 1, r, .pointer (some ⟨w.heap.size + 1 + 1, 4, none⟩)] [v0, v1, v2, v3, v4, v5, v6, v7, v8, v9, v10] L w' ∧
     TwI (fun w1 => ∃ q, w1 = wr.drewN q) (fun w1 sn => Below wr.heap.size wr w1 ∧ Keep none wr.heap.size w1 (exR (y, sn)) ∧ exCS sn) (fun w1 sn g => Below wr.heap.size wr w1 ∧ Keep none wr.heap.size w1 (exR (y, sn)) ∧ exCS sn ∧ ∀ j u, (exC (y, sn))[j]? = some u → w1.cell? ((⟨g, 0, none⟩ : Addr).add j) = some u)
      (fun w1 sn r => ∃ a3 c3, r = .slice a3 (k + 1) c3 ∧ Hid (PRow exC 25 5 exR (fun _ => True) w (w.heap.size + 1 + 1 + 1) (LL ++ [(y, sn)]) a3 c3 w1) ∧ BoxN w1 w.heap.size 25 [.int .u8 (x.k : Int), .string x.ra, .string x.nm, .int .i64 x.d, .slice (some ⟨b, off, none⟩) x.sub.length cap] ∧ BoxN w1 (w.heap.size + 1) 25 [.int .u8 0, .string ⟨#[]⟩, .string ⟨#[]⟩, .int .i64 0, .slice none 0 0] ∧ BoxN w1 (w.heap.size + 1 + 1) 25 [.int .u8 (x.k : Int), .string x.ra, .string x.nm, .int .i64 x.d, .slice a2 k c2]) (fun w1 sn r => ∃ a3 c3, Hid (PRow exC 25 5 exR (fun _ => True) w (w.heap.size + 1 + 1 + 1) (LL ++ [(y, sn)]) a3 c3 w1) ∧ BoxN w1 w.heap.size 25 [.int .u8 (x.k : Int), .string x.ra, .string x.nm, .int .i64 x.d, .slice (some ⟨b, off, none⟩) x.sub.length cap] ∧ BoxN w1 (w.heap.size + 1) 25 [.int .u8 0, .string ⟨#[]⟩, .string ⟨#[]⟩, .int .i64 0, .slice none 0 0] ∧ BoxN w1 (w.heap.size + 1 + 1) 25 [.int .u8 (x.k : Int), .string x.ra, .string x.nm, .int .i64 x.d, .slice a3 (k + 1) c3]) L sn g r w') (by kernel_rfl) (by kernel_rfl) ?_ ?_ ?_
    ·exact ⟨.slice none 0 0, 0, .slice none 0 0, _, _, _, _, _, _, _, _, _, _, _, rfl, VInv.start (Below.refl _ _) rfl, fun _ => ⟨1, rfl⟩, fun h => (by cases h), fun h => (by cases h), fun h => (by cases h), fun h => (by cases h)⟩
    ·rintro L a w' ⟨sn, g, r, v0, v1, v2, v3, v4, v5, v6, v7, v8, v9, v10, rfl, h, ht⟩ hcl i o ho hL hp
     have hi9 : i < 12 := by simpa using (Array.getElem?_eq_some_iff.1 ho).1
     have hi2 : i = 0 ∨ i = 1 ∨ i = 2 ∨ i = 3 ∨ i = 4 ∨ i = 5 ∨ i = 6 ∨ i = 7 ∨ i = 8 ∨ i = 9 ∨ i = 10 ∨ i = 11 := by omega
     clear hi9
     have hbl := fun h9 => ht.bel (wr := wr) (fun _ ⟨q, e⟩ => e ▸ below_drewN (Below.refl _ _) q) (fun _ _ e => e.1) (fun _ _ _ e => e.1) h9
     rcases hi2 with rfl | rfl | rfl | rfl | rfl | rfl | rfl | rfl | rfl | rfl | rfl | rfl
     ·refine wpOp_step rfl ?_
      intro K hK
      go_simp
      exact hK _ _ ⟨sn, g, r, _, _, _, _, _, _, _, _, _, _, _, rfl, h.step (i := 0) (v := .pointer (some ⟨w.heap.size + 1 + 1, 4, none⟩)) rfl, ht.keep (by decide)⟩
     ·refine wpOp_step rfl ?_
      intro K hK
      obtain rfl := h.at (i := 0) (pred_spec ho hp (j := 0) (by kernel_rfl)) rfl rfl
      have z := cell_below (hbl (cl_no hcl hL 9 (by kernel_rfl))) q1
      go_simp
      exact hK _ _ ⟨sn, g, r, _, _, _, _, _, _, _, _, _, _, _, rfl, h.step (i := 1) (v := .slice a2 k c2) rfl, ht.keep (by decide)⟩
     ·refine wpOp_step rfl ?_
      intro K hK
      go_simp
      exact hK _ _ ⟨sn, g, r, _, _, _, _, _, _, _, _, _, _, _, rfl, h.step (i := 2) (v := .pointer (some ⟨w.heap.size, 4, none⟩)) rfl, ht.keep (by decide)⟩
     ·refine wpOp_step rfl ?_
      intro K hK
      obtain rfl := h.at (i := 2) (pred_spec ho hp (j := 2) (by kernel_rfl)) rfl rfl
      obtain ⟨q, rfl⟩ := ht.a (cl_no hcl (cl_no hcl (cl_no hcl hL 5 (by kernel_rfl)) 6 (by kernel_rfl)) 7 (by kernel_rfl))
      have z := cell_drewN q q0
      go_simp
      exact hK _ _ ⟨sn, g, r, _, _, _, _, _, _, _, _, _, _, _, rfl, h.step (i := 3) (v := .slice (some ⟨b, off, none⟩) x.sub.length cap) rfl, ht.keep (by decide)⟩
     ·refine wpOp_step rfl ?_
      intro K hK
      go_simp
      exact hK _ _ ⟨sn, g, r, _, _, _, _, _, _, _, _, _, _, _, rfl, h.step (i := 4) (v := .int .i64 (k : Int)) rfl, ht.keep (by decide)⟩
     ·refine wpOp_step rfl ?_
      intro K hK
      obtain rfl := h.at (i := 3) (pred_spec ho hp (j := 3) (by kernel_rfl)) rfl rfl
      obtain rfl := h.at (i := 4) (pred_spec ho hp (j := 4) (by kernel_rfl)) rfl rfl
      go_simp
      exact hK _ _ ⟨sn, g, r, _, _, _, _, _, _, _, _, _, _, _, rfl, h.step (i := 5) (v := .pointer (some ⟨b, off + k * 5, none⟩)) rfl, ht.keep (by decide)⟩
     ·refine wpOp_step rfl ?_
      intro K hK
      obtain rfl := h.at (i := 5) (pred_spec ho hp (j := 5) (by kernel_rfl)) rfl rfl
      obtain ⟨q, rfl⟩ := ht.a (cl_no hcl hL 7 (by kernel_rfl))
      have z0 := cell_drewN q d0
      have z1 := cell_drewN q d1
      have z2 := cell_drewN q d2
      have z3 := cell_drewN q d3
      have z4 := cell_drewN q d4
      go_simp
      exact hK _ _ ⟨sn, g, r, _, _, _, _, _, _, _, _, _, _, _, rfl, h.step (i := 6) (v := .agg #[.int .u8 (y.k : Int), .string y.ra, .string y.nm, .int .i64 y.d, sy]) rfl, ht.keep (by decide)⟩
     ·refine wpOp_step rfl ?_
      intro K hK
      obtain rfl := h.at (i := 6) (pred_spec ho hp (j := 6) (by kernel_rfl)) rfl rfl
      obtain ⟨q, rfl⟩ := ht.a hL
      have h8 := cl_no hcl hL 8 (by kernel_rfl)
      have h9 := cl_no hcl h8 9 (by kernel_rfl)
      have h11 := cl_no hcl h9 11 (by kernel_rfl)
      go_simp
      refine (HC.out (wr.drewN q) (below_drewN (Below.refl _ _) q)).mono ?_
      rintro e w4 ⟨s4, rfl, hk4, hs4, hb4⟩
      exact hK _ _ ⟨s4, g, r, _, _, _, _, _, _, _, _, _, _, _, rfl, VInv.step (i := 7) (v := .agg #[.int .u8 (y.k : Int), .string y.ra, .string y.nm, .int .i64 y.d, s4]) (h.late hL _).re rfl, TwI.u7 h8 h9 h11 ⟨(below_drewN (Below.refl _ _) q).trans hb4, hk4, hs4⟩⟩
     ·refine wpOp_step rfl ?_
      intro K hK
      obtain rfl := h.at (i := 7) (pred_spec ho hp (j := 7) (by kernel_rfl)) rfl rfl
      have h7 := pred_spec ho hp (j := 7) (by kernel_rfl)
      have h9 := cl_no hcl hL 9 (by kernel_rfl)
      have h11 := cl_no hcl h9 11 (by kernel_rfl)
      obtain ⟨hb1, hk1, hs1⟩ := ht.b h7 hL
      go_simp
      exact hK _ _ ⟨sn, w'.heap.size, r, _, _, _, _, _, _, _, _, _, _, _, rfl, VInv.step (i := 8) (v := .slice (some ⟨w'.heap.size, 0, none⟩) 1 1) (h.late hL _).re rfl, TwI.u8 h7 h9 h11 ⟨hb1.alloc hb1.size _, hk1.below (below_a1 _ _), hs1, new_cells _ _ _⟩⟩
     ·refine wpOp_step rfl ?_
      intro K hK
      obtain rfl := h.at (i := 1) (pred_spec ho hp (j := 1) (by kernel_rfl)) rfl rfl
      obtain rfl := h.at (i := 8) (pred_spec ho hp (j := 8) (by kernel_rfl)) rfl rfl
      have h8 := pred_spec ho hp (j := 8) (by kernel_rfl)
      have h7 := cl_spec hcl h8 (j := 7) (by kernel_rfl)
      have h11 := cl_no hcl hL 11 (by kernel_rfl)
      obtain ⟨hb2, hk2, hs2, hc2⟩ := ht.c h8 hL
      have hz := HL.out.2.2.2.2.1
      refine step_append_at rfl (.tmp 22) (.tmp 29) 23 rfl (w.heap.size + 1 + 1 + 1) 25 i0 (.agg #[.int .u8 0, .string ⟨#[]⟩, .string ⟨#[]⟩, .int .i64 0, .slice none 0 0]) 5 72 ul_exs hi hz0 hz1 hz2 rfl (by decide) (.slice a2 k c2) k (LL.flatMap exC) rfl (ownsRow_below' (HK.out ▸ HL.out.2.1) hb2) ⟨g, 0, none⟩ 1 1 (exC (y, sn)) rfl (exC_len _) hc2 (exC_one _ hs2) (by simp only [maxLen]; omega) (by omega) (Nat.le_trans hz hb2.size) ?_
      intro v2 w2 ho2 hg2 hl2
      obtain ⟨a3, c3, rfl, hR3⟩ := PRow.append HL.out.2 (by omega) hb2 (y := (y, sn)) hk2 (by rw [HK.out]; exact ho2) (by rw [HK.out]; exact hg2) (by rw [HK.out]; exact hl2)
      have hz3 : (LL ++ [(y, sn)]).length = k + 1 := by rw [List.length_append, HK.out]; rfl
      have hg9 : w'.grownBy w2 (Value.slice a2 LL.length c2).ownBlock := by rw [HK.out]; exact hg2
      rw [hz3]
      exact hK _ _ ⟨sn, g, .slice a3 (k + 1) c3, _, _, _, _, _, _, _, _, _, _, _, rfl, VInv.step (i := 9) (v := .slice a3 (k + 1) c3) (h.late hL _).re rfl, TwI.u9 h7 h8 h11 ⟨a3, c3, rfl, Lib.hid hR3, PRow.kept HL.out.2 hb2 hg9 hbx (by omega), PRow.kept HL.out.2 hb2 hg9 hbr (by omega), PRow.kept HL.out.2 hb2 hg9 hbo (by omega)⟩⟩
     ·refine wpOp_step rfl ?_
      intro K hK
      go_simp
      exact hK _ _ ⟨sn, g, r, _, _, _, _, _, _, _, _, _, _, _, rfl, h.step (i := 10) (v := .pointer (some ⟨w.heap.size + 1 + 1, 4, none⟩)) rfl, ht.keep (by decide)⟩
     ·refine wpOp_step rfl ?_
      intro K hK
      obtain rfl := h.at (i := 10) (pred_spec ho hp (j := 10) (by kernel_rfl)) rfl rfl
      obtain rfl := h.at (i := 9) (pred_spec ho hp (j := 9) (by kernel_rfl)) rfl rfl
      have h9 := pred_spec ho hp (j := 9) (by kernel_rfl)
      have h8 := cl_spec hcl h9 (j := 8) (by kernel_rfl)
      have h7 := cl_spec hcl h8 (j := 7) (by kernel_rfl)
      obtain ⟨a3, c3, rfl, hR3, hx3, hr3, ho3⟩ := ht.d h9 hL
      have z := ho3.cell (j := 4) rfl
      have z1 := ho3.frozen 4
      go_simp
      exact hK _ _ ⟨sn, g, _, _, _, _, _, _, _, _, _, _, _, _, rfl, (h.skip (Nat.le_refl _)).re, TwI.u11 h7 h8 h9 ⟨a3, c3, Lib.hid (hR3.out.set (by show w.heap.size + 1 + 1 < _; omega) (by show _ ≤ w.heap.size + 1 + 1; omega) _), hx3.far (by show w.heap.size ≠ w.heap.size + 1 + 1; omega) _, hr3.far (by show w.heap.size + 1 ≠ w.heap.size + 1 + 1; omega) _, ho3.set 4 _⟩⟩
    ·rintro L a w4 ⟨sn, g, r, v0, v1, v2, v3, v4, v5, v6, v7, v8, v9, v10, rfl, h, ht⟩ hall
     obtain ⟨a3, c3, hR3, hx3, hr3, ho3⟩ := ht.e (hall 11 (by decide))
     have hz3 : (LL ++ [(y, sn)]).length = k + 1 := by rw [List.length_append, HK.out]; rfl
     have HZ : Hid ((LL ++ [(y, sn)]).map Prod.fst = x.sub.take (LL ++ [(y, sn)]).length) := Lib.hid (by rw [hz3, List.map_append, HL.out.1, HK.out, take_snoc_get HY.out]; rfl)
     clear h ht hall
     go_wp2
     go_roundw
     case rel => exact ⟨LL ++ [(y, sn)], a3, c3, by omega, by rw [hz3]; go_num, Lib.hid ⟨HZ.out, hR3.out⟩, hx3, hr3, hz3 ▸ ho3⟩
     case measure => simp [intOf]; omega
   ·obtain rfl : k = x.sub.length := by omega
    have o0 : wr.cell? ⟨w.heap.size + 1 + 1, 0, none⟩ = some (.int .u8 x.k) := hbo.cell rfl
    have o1 : wr.cell? ⟨w.heap.size + 1 + 1, 1, none⟩ = some (.string x.ra) := hbo.cell rfl
    have o2 : wr.cell? ⟨w.heap.size + 1 + 1, 2, none⟩ = some (.string x.nm) := hbo.cell rfl
    have o3 : wr.cell? ⟨w.heap.size + 1 + 1, 3, none⟩ = some (.int .i64 x.d) := hbo.cell rfl
    have r0 : wr.cell? ⟨w.heap.size + 1, 0, none⟩ = some (.int .u8 0) := hbr.cell rfl
    have r1 : wr.cell? ⟨w.heap.size + 1, 1, none⟩ = some (.string ⟨#[]⟩) := hbr.cell rfl
    have r2 : wr.cell? ⟨w.heap.size + 1, 2, none⟩ = some (.string ⟨#[]⟩) := hbr.cell rfl
    have r3 : wr.cell? ⟨w.heap.size + 1, 3, none⟩ = some (.int .i64 0) := hbr.cell rfl
    have r4 : wr.cell? ⟨w.heap.size + 1, 4, none⟩ = some (.slice none 0 0) := hbr.cell rfl
    have f0 := hbr.frozen 0
    have f1 := hbr.frozen 1
    have f2 := hbr.frozen 2
    have f3 := hbr.frozen 3
    have f4 := hbr.frozen 4
    have HF : Hid (∀ u, PRow exC 25 5 exR (fun _ => True) w (w.heap.size + 1 + 1 + 1) LL a2 c2 u → Keep none w.heap.size u (exR (x, .slice a2 x.sub.length c2)) ∧ Below w.heap.size w u) := Lib.hid fun u hu => ⟨fun u2 hz2 hag => by
     have hM2 := HL.out.1
     rw [HK.out, List.take_length] at hM2
     refine rdE_of_row hM2 HK.out hu (fun y hy => ?_) hz2 fun b hb1 hb2 => hag b (by omega) hb2 (by simp)
     obtain ⟨j, hj⟩ := List.getElem?_of_mem hy
     obtain ⟨_, _, _, _, _, _, _, _, _, _, h8⟩ := HS.out.at hj
     exact h8, hu.2.2.1⟩
    go_wp2_with fail
    refine bodyPost_ret (v := .agg #[.int .u8 x.k, .string x.ra, .string x.nm, .int .i64 x.d, .slice a2 x.sub.length c2]) (by simp [results, Tryz.results20, go_sem, r0, r1, r2, r3, r4]) rfl ?_
    have hs5 := fun (u : World) (hu : PRow exC 25 5 exR (fun _ => True) w (w.heap.size + 1 + 1 + 1) LL a2 c2 u) (j : Nat) (v : Value) => hu.set (a := ⟨w.heap.size + 1, j, none⟩) (by show w.heap.size + 1 < _; omega) (by show _ ≤ w.heap.size + 1; omega) v
    refine ⟨_, rfl, (HF.out _ ?_).1, ⟨_, _, _, rfl⟩, (HF.out _ ?_).2⟩ <;> exact hs5 _ (hs5 _ (hs5 _ (hs5 _ (hs5 _ HL.out.2 0 _) 1 _) 2 _) 3 _) 4 _
end Go.Proofs.YtkonookacfmfgaaGreatDoor

namespace Go.Proofs.YtkonookacfmfgaaGreatDoor
open Go.RowKit
theorem run_append_empty {P : Program} {w : World} (t ty e : TypeId) (i : TypeInfo) (z : Value) (size bytes : Nat) (ht : P.underlying t = some (.slice e)) (hi : P.info? e = some i) (hz : i.zero = some z)
  (hsize : i.size = size) (hby : i.bytes = bytes) (hsz : 0 < size) (a0 : Addr) (A : Option Addr) (m c : Nat) (news : List Value) (hs : Sl w (.slice A m c) size m news) (hA : A = none → c = 0)
  (h63 : m ≤ 9223372036854775807) (hbytes : m * bytes ≤ 140737488355328) :
  ∃ ad cap w', (Builtin.append_ #[t, t] ty #[.slice (some a0) 0 0, .slice A m c]).run P w = .ok (.slice ad m cap) w' ∧ Sl w' (.slice ad m cap) size m news ∧ (m = 0 ∨ ∃ g, ad = some ⟨g, 0, none⟩ ∧ w.heap.size ≤ g) ∧ w.grownBy w' none := by
 subst hsize
 subst hby
 obtain ⟨ad', cap', he, h1, h2, h3⟩ := hs
 obtain ⟨rfl, _, rfl⟩ := Value.slice.inj he
 rcases Nat.eq_zero_or_pos m with h0 | h0
 ·subst h0
  have hn : news = [] := List.eq_nil_of_length_eq_zero (by simpa using h2)
  subst hn
  refine ⟨some a0, 0, w, ?_, ⟨_, _, rfl, Nat.le_refl _, by simp, .inl rfl⟩, .inl rfl, ⟨rfl, rfl, rfl, Nat.le_refl _, fun _ _ _ => rfl⟩⟩
  cases A with
  | none =>
   obtain rfl := hA rfl
   simp [Builtin.append_, run_underlying ht, sizeOf, typeInfo, hi, Builtin.lenOf, Builtin.firstCells, storeCells]
  | some a => simp [Builtin.append_, run_underlying ht, sizeOf, typeInfo, hi, Builtin.lenOf, Builtin.firstCells, storeCells, loadCells, loadCellsFrom]
 ·rcases h3 with h3 | ⟨b, off, rfl, h3⟩
  ·exfalso; rw [h3] at h2; have := Nat.mul_pos h0 hsz; omega
  ·have hr := run_append_grow (P := P) w t ty e i z ht hi hz a0 0 0 [] (by simp) (by simp) ⟨b, off, none⟩ m c news h2 (fun j v hj => by
     have h := h3 j v hj
     by_cases h0 : j = 0
     ·subst h0; simpa [Addr.add] using h
     ·simpa [Addr.add, h0] using h) (by omega) (by omega)
    (by rw [Nat.zero_add]; exact growslice_fits (by omega) (by omega))
   simp only [Nat.zero_add] at hr
   refine ⟨_, _, _, hr, ?_, .inr ⟨_, rfl, Nat.le_refl _⟩, ⟨rfl, rfl, rfl, by simp, fun k hk _ => Below.heap_alloc w.drew _ k hk⟩⟩
   refine ⟨_, _, rfl, grownCap_ge w m 0 e, h2, .inr ⟨w.heap.size, 0, rfl, fun j u hj => ?_⟩⟩
   rw [Nat.zero_add, cell_of_row _ w.heap.size j _ e (0, 0) (heap_alloc_new w.drew _)]
   have hjl := (List.getElem?_eq_some_iff.1 hj).1
   show (([] : List Value).toArray ++ news.toArray ++ _)[j]? = some u
   rw [Array.getElem?_append_left (by simpa using hjl)]
   simpa using hj
theorem step_append_empty {P : Program} {w : World} {ops : Array Oper} {o : Oper} {a : Act} {K : Act → World → Prop} {Q : Exit → Act → World → Prop} {E : Prop} (hgd : o.guard = none) (s x : Operand) (t : TypeId)
  (ho : o.op = .call { callee := .builtin .append, args := #[s, x], argTypes := #[t, t] }) (e : TypeId) (i : TypeInfo) (z : Value) (size bytes : Nat) (ht : P.underlying t = some (.slice e)) (hi : P.info? e = some i) (hz : i.zero = some z)
  (hsize : i.size = size) (hby : i.bytes = bytes) (hsz : 0 < size) (a0 : Addr) (A : Option Addr) (m c : Nat) (news : List Value) (hs : a.eval s = .slice (some a0) 0 0) (hx : a.eval x = .slice A m c) (hl : Sl w (.slice A m c) size m news) (hA : A = none → c = 0)
  (h63 : m ≤ 9223372036854775807) (hbytes : m * bytes ≤ 140737488355328)
  (h : ∀ ad cap w', Sl w' (.slice ad m cap) size m news → (m = 0 ∨ ∃ g, ad = some ⟨g, 0, none⟩ ∧ w.heap.size ≤ g) → Below w.heap.size w w' → K (a.put o.dst (.slice ad m cap)) w') :
  if Region.wanted o (yielded ops a.tmps) = true then Oper.wp P o a w K Q else E := by
 have hw : Region.wanted o (yielded ops a.tmps) = true := by simp [Region.wanted, hgd]
 rw [if_pos hw]
 obtain ⟨ad, cap, w', hr, h2, h4, h3⟩ := run_append_empty (P := P) (w := w) t o.type e i z size bytes ht hi hz hsize hby hsz a0 A m c news hl hA h63 hbytes
 unfold Oper.wp execOp
 simp only [ho, resolve, invoke, builtin, Sem.run_bind, Sem.run_pure, Result.andThen_ok, List.map_toArray, List.map_cons, List.map_nil, hs, hx, hr]
 exact h ad cap w' h2 h4 ((Below.refl _ _).grown h3 (Nat.le_refl _) (by simp))
theorem Sl.stored {w : World} {ad : Option Addr} {m cap size B : Nat} {cs : List Value} (h : Sl w (.slice ad m cap) size m cs) (hg : m = 0 ∨ ∃ g, ad = some ⟨g, 0, none⟩ ∧ B < g) (x y : Value) :
  Sl ((w.setCell ⟨B, 0, none⟩ x).setCell ⟨B, 1, none⟩ y) (.slice ad m cap) size m cs := by
 rcases hg with rfl | ⟨g, rfl, hB⟩
 ·obtain ⟨_, _, _, h1, h2, _⟩ := h
  have : cs = [] := List.eq_nil_of_length_eq_zero (by simpa using h2)
  subst this
  exact Sl.empty _ _ _ _
 ·refine h.kept fun k hk _ => ?_
  obtain rfl : g = k := by simpa [Value.ownBlock] using hk
  exact (Below.heap_setCell _ _ _ _ (by simp; omega)).trans (Below.heap_setCell _ _ _ _ (by simp; omega))
theorem wpList_append_empty {P : Program} {w : World} {ops : Array Oper} {rest : List Oper} {o : Oper} {a : Act} {Q : Exit → Act → World → Prop} (hgd : o.guard = none) (s x : Operand) (t : TypeId)
  (ho : o.op = .call { callee := .builtin .append, args := #[s, x], argTypes := #[t, t] }) (e : TypeId) (i : TypeInfo) (z : Value) (size bytes : Nat) (ht : P.underlying t = some (.slice e)) (hi : P.info? e = some i) (hz : i.zero = some z)
  (hsize : i.size = size) (hby : i.bytes = bytes) (hsz : 0 < size) (a0 : Addr) (A : Option Addr) (m c : Nat) (news : List Value) (hs : a.eval s = .slice (some a0) 0 0) (hx : a.eval x = .slice A m c) (hl : Sl w (.slice A m c) size m news) (hA : A = none → c = 0)
  (h63 : m ≤ 9223372036854775807) (hbytes : m * bytes ≤ 140737488355328)
  (h : ∀ ad cap w', Sl w' (.slice ad m cap) size m news → (m = 0 ∨ ∃ g, ad = some ⟨g, 0, none⟩ ∧ w.heap.size ≤ g) → Below w.heap.size w w' → wpList P ops Q rest (a.put o.dst (.slice ad m cap)) w') :
  wpList P ops Q (o :: rest) a w := by
 refine wpList_plain hgd fun K hK => ?_
 obtain ⟨ad, cap, w', hr, h2, h4, h3⟩ := run_append_empty (P := P) (w := w) t o.type e i z size bytes ht hi hz hsize hby hsz a0 A m c news hl hA h63 hbytes
 unfold Oper.wp execOp
 simp only [ho, resolve, invoke, builtin, Sem.run_bind, Sem.run_pure, Result.andThen_ok, List.map_toArray, List.map_cons, List.map_nil, hs, hx, hr]
 exact hK _ _ (h ad cap w' h2 h4 ((Below.refl _ _).grown h3 (Nat.le_refl _) (by simp)))
end Go.Proofs.YtkonookacfmfgaaGreatDoor

namespace Go.Proofs.YtkonookacfmfgaaGreatDoor
open Go.RowKit
theorem ul_dys : Tryz.prog.underlying 26 = some (.slice 3) := by kernel_rfl
theorem info_dy : (Tryz.prog.info? 3).map (fun i => (i.zero, i.size, i.bytes)) = some (some (.int .i64 0), 1, 8) := by kernel_rfl
def dyCells (x : Int) : List Value := [.int .i64 x]
theorem dy_flat (L : List Int) : L.flatMap dyCells = L.map (Value.int .i64) := by
 induction L with
 | nil => rfl
 | cons x l ih => rw [List.flatMap_cons, List.map_cons, ih]; rfl
abbrev DRow (base Bo : Nat) (L : List Int) (W : World) : Prop := RowAt dyCells 26 3 1 base Bo L W
theorem RowAt.step0 {t e : TypeId} {size base D Bo : Nat} {W w1 : World} {v v' : Value} {k m : Nat} {xs ys : List Value} (hv : Boxed W Bo t v) (hte : t ≠ e) (hrow : W.ownsRow base e size v k xs) (hbase : base ≤ W.heap.size) (hB : base ≤ Bo) (hD : Bo < D)
  (hown' : w1.ownsRow base e size v' m ys) (hgrow : W.grownBy w1 v.ownBlock) (hloc : v'.ownBlock = v.ownBlock ∨ ∃ g, v'.ownBlock = some g ∧ W.heap.size ≤ g) :
  Boxed w1 Bo t v ∧ Boxed (w1.setCell ⟨Bo, 0, none⟩ v') Bo t v' ∧ (w1.setCell ⟨Bo, 0, none⟩ v').ownsRow base e size v' m ys ∧ KeptO base D Bo W (w1.setCell ⟨Bo, 0, none⟩ v') := by
 have hv1 : Boxed w1 Bo t v := hv.kept hgrow (hv.not_row hte hrow)
 have h2 := hv1.set v'
 refine ⟨hv1, h2, hown'.kept (grownBy_setCell' w1 Bo v') (.inr (hv1.not_row hte hown').symm), ?_, fun b hb hl ho => ?_⟩
 ·exact ((Below.refl base W).grown hgrow hbase fun j ej => (hrow.lt j ej).1).setCell (p := ⟨Bo, 0, none⟩) hB v'
 ·have hne : some b ≠ v.ownBlock := fun e => ho ⟨v, hv.cell, e.symm⟩
  refine ⟨?_, ?_⟩
  ·rw [Below.heap_setCell _ _ _ _ (show b ≠ Bo by omega), hgrow.block b hl hne]
  ·rintro ⟨u, hu, hub⟩
   rw [h2.cell] at hu
   cases hu
   rcases hloc with e | ⟨g, e, hg⟩
   ·exact hne (by rw [← e, hub])
   ·rw [e] at hub
    cases hub
    omega
set_option maxHeartbeats 4000000 in
set_option maxRecDepth 100000 in
theorem dayf_any (w0 : World) (D Bo : Nat) (L0 : List Int) (ds : List Int) (v : Value) (W : World) (hne : ds ≠ []) (hBo : w0.heap.size ≤ Bo) (hBD : Bo < D) (hbd : (L0 ++ ds).length ≤ 4000000000000)
  (hR : DRow w0.heap.size Bo L0 W) (hbW : Below w0.heap.size w0 W) (hdv : DaysAt w0.heap.size D Bo W ds v) :
  Calls Tryz.prog 34 #[v, .pointer (some ⟨Bo, 0, none⟩)] W fun e W' => e = .returned (.tuple #[]) ∧ DRow w0.heap.size Bo (L0 ++ ds) W' ∧ KeptO w0.heap.size D Bo W W' := by
 obtain ⟨i0, hi, hz0, hz1, hz2⟩ := info_parts info_dy
 obtain ⟨ad, capv, rfl, hcap, hrd⟩ := hdv.1
 have hlb : L0.length + ds.length ≤ 4000000000000 := by rwa [List.length_append] at hbd
 obtain ⟨b, off, rfl, _⟩ := hrd 0 _ (List.head?_eq_getElem? ▸ List.head?_eq_some_head hne)
 obtain ⟨u, hbv, hown⟩ := hR
 have hcv := hbv.cell
 have hfz := hbv.frozen
 have hnews : ∀ j u, (ds.flatMap dyCells)[j]? = some u → W.cell? ((⟨b, off, none⟩ : Addr).add j) = some u := by
  intro j u hj
  rw [dy_flat, List.getElem?_map] at hj
  cases hd : ds[j]? with
  | none => rw [hd] at hj; cases hj
  | some d =>
   rw [hd] at hj
   cases hj
   obtain ⟨b2, off2, e, hc⟩ := hrd j d hd
   cases e
   have ea : (⟨b, off, none⟩ : Addr).add j = ⟨b, off + j, none⟩ := by unfold Addr.add; split <;> simp_all
   rw [ea]; exact hc
 have hbz := hbW.size
 have hnl : (ds.flatMap dyCells).length = ds.length * 1 := by rw [dy_flat, List.length_map, Nat.mul_one]
 have h1c : ∀ u ∈ ds.flatMap dyCells, u.oneCell' = true := by intro u hu; rw [dy_flat, List.mem_map] at hu; obtain ⟨d, _, rfl⟩ := hu; rfl
 clear hrd hdv
 go_enter Tryz.func34, Tryz.ntmps34
 go_wp2_with (at_builtin; refine wpList_append_at _ rfl _ _ 26 rfl w0.heap.size 3 i0 (.int .i64 0) 1 8 ul_dys hi hz0 hz1 hz2 rfl (by decide) _ _ _ rfl hown ⟨b, off, none⟩ ds.length capv (ds.flatMap dyCells) rfl hnl hnews h1c ?d1 ?d2 ?d3 ?_)
 case d1 => unfold maxLen; omega
 case d2 => omega
 case d3 => omega
 intro v' w' hown' hgrow hloc
 obtain ⟨hb1, hb2, hr2, hk3⟩ := RowAt.step0 (D := D) hbv (by decide) hown hbz hBo hBD hown' hgrow hloc
 have HN : Hid (DRow w0.heap.size Bo (L0 ++ ds) (w'.setCell ⟨Bo, 0, none⟩ v') ∧ KeptO w0.heap.size D Bo W (w'.setCell ⟨Bo, 0, none⟩ v')) := Lib.hid (by
  refine ⟨⟨_, hb2, ?_⟩, hk3⟩
  rw [List.length_append, List.flatMap_append]
  exact hr2)
 have hc5 := hb1.cell
 have hf5 := hb1.frozen
 obtain ⟨a1, a2, rfl⟩ : ∃ a1 a2, v' = .slice a1 (L0.length + ds.length) a2 := by
  rcases hown'.2 with ⟨rfl, h⟩ | ⟨g, cap, _, rfl, _⟩
  ·exact ⟨none, 0, by rw [h]⟩
  ·exact ⟨_, _, rfl⟩
 clear hb2 hr2 hk3 hown hgrow hown' hloc
 go_wp2_with fail
 go_end0
 exact ⟨rfl, HN.out.1, HN.out.2⟩
end Go.Proofs.YtkonookacfmfgaaGreatDoor
