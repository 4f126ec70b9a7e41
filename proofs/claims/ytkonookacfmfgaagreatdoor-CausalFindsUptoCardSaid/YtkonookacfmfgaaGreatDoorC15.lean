/-
  What a Found box leaves readable, and (*novationref15.Found).open. (*novationref15.Found).open. Trees stay readable while a Found box is written.
-/
import Derived.Test.YtkonookacfmfgaaGreatDoorC14
import Derived.Test.YtkonookacfmfgaaGreatDoorC07
namespace Go.Proofs.YtkonookacfmfgaaGreatDoor
open Go.RowKit
theorem BoxN.apart {W : World} {F b o : Nat} {t : TypeId} {cs : List Value} {u : Value} (h : BoxN W F t cs) (hc : W.cell? ⟨b, o, none⟩ = some u) (hu : u ∉ cs) : b ≠ F := by
 rintro rfl
 have e : W.cell? ⟨b, o, none⟩ = cs[o]? := by simp [World.cell?, show W.heap[b]? = _ from h]
 rw [e] at hc
 exact hu (List.mem_of_getElem? hc)
theorem some_ne {b F : Nat} (h : b ≠ F) : (some b : Option Nat) ≠ some F := fun e => h (Option.some.inj e)
theorem RdDy.box {W W' : World} {F : Nat} {t : TypeId} {cs : List Value} {l : List Int} {v : Value} (h : RdDy W l v) (hb : BoxN W F t cs) (hcs : ∀ i : Int, Value.int .i64 i ∉ cs) (hg : W.grownBy W' (some F)) : RdDy W' l v := by
 obtain ⟨ad, cap, rfl, hc⟩ := h
 refine ⟨ad, cap, rfl, fun k x hk => ?_⟩
 obtain ⟨b, off, rfl, h0⟩ := hc k x hk
 exact ⟨b, off, rfl, hg.cell h0 (some_ne (hb.apart h0 (hcs _)))⟩
theorem RdNd.box {W W' : World} {F : Nat} {t : TypeId} {cs : List Value} {l : List NdP} {v : Value} (h : RdNd W l v) (hb : BoxN W F t cs) (hcs : ∀ s : ByteArray, Value.string s ∉ cs) (hg : W.grownBy W' (some F)) : RdNd W' l v := by
 obtain ⟨ad, cap, rfl, hc⟩ := h
 refine ⟨ad, cap, rfl, fun k x hk => ?_⟩
 obtain ⟨b, off, rfl, h0, h1⟩ := hc k x hk
 have hn := some_ne (hb.apart h0 (hcs _))
 exact ⟨b, off, rfl, hg.cell h0 hn, hg.cell h1 hn⟩
theorem RdCx.box {W W' : World} {F : Nat} {t : TypeId} {cs : List Value} {l : List ChP} {v : Value} (h : RdCx W l v) (hb : BoxN W F t cs) (hcs : ∀ s : ByteArray, Value.string s ∉ cs) (hg : W.grownBy W' (some F)) : RdCx W' l v := by
 obtain ⟨ad, cap, rfl, hc⟩ := h
 refine ⟨ad, cap, rfl, fun k x hk => ?_⟩
 obtain ⟨b, off, rfl, h0, h1, h2, h3⟩ := hc k x hk
 have hn := some_ne (hb.apart h0 (hcs _))
 exact ⟨b, off, rfl, hg.cell h0 hn, hg.cell h1 hn, hg.cell h2 hn, hg.cell h3 hn⟩
theorem insP_le {α : Type} (lt : α → α → Bool) (x : α) (l : List α) : (insD lt x l).length ≤ l.length + 1 := by
 have h := insP_len lt x l
 unfold insD
 by_cases hb : (insP lt x l).2 = true
 ·rw [if_pos hb, h, if_pos hb]; exact Nat.le_refl _
 ·rw [if_neg hb, List.length_append, h, if_neg hb]; exact Nat.le_refl _
theorem insL_le {α : Type} (lt : α → α → Bool) (lim : Nat) (l : List α) (x : α) (h : l.length ≤ lim + 1) : (insL lt lim l x).length ≤ lim + 1 := by
 unfold insL
 split
 ·exact h
 ·next hn =>
  have := insP_le lt x l
  have h1 : ¬ lim < l.length := fun h => hn (.inl h)
  omega
theorem insA_le {α : Type} (lt : α → α → Bool) (lim : Nat) : ∀ (ns l : List α), l.length ≤ lim + 1 → (insA lt lim l ns).length ≤ lim + 1
 | [], _, h => h
 | n :: ns, l, h => insA_le lt lim ns _ (insL_le lt lim l n h)
theorem insA_snoc {α : Type} (lt : α → α → Bool) (lim : Nat) (l ns : List α) (x : α) : insA lt lim l (ns ++ [x]) = insL lt lim (insA lt lim l ns) x := by
 unfold insA
 rw [List.foldl_append]; rfl
end Go.Proofs.YtkonookacfmfgaaGreatDoor

namespace Go.Proofs.YtkonookacfmfgaaGreatDoor
open Go.RowKit
set_option maxHeartbeats 4000000 in
set_option maxRecDepth 100000 in
theorem fopen_any (F : Nat) (x : Con) (es dd ss vd : Value) (a1 a3 : Option Addr) (n1 n3 c1 c3 : Nat) (late : Bool) (C : List ChP) (ds : List Int) (ad : Option Addr) (cap : Nat) (W : World) (hds : ds.length ≤ 2000000) (hC : C.length ≤ 1001)
  (hx : RdN W x es dd ss) (hd : RdDy W ds vd) (hb : BoxN W F 76 [.slice a1 n1 c1, .slice ad C.length cap, .slice a3 n3 c3, .bool late]) (hr : RdCx W C (.slice ad C.length cap)) :
  Calls Tryz.prog 80 #[.pointer (some ⟨F, 0, none⟩), x.val es dd ss, vd] W fun e W' => e = .returned (.tuple #[]) ∧ W.grownBy W' (some F) ∧ ∃ ad' cap', BoxN W' F 76 [.slice a1 n1 c1, .slice ad' (insA chxLt 1000 C (ds.map fun d => (x.fr, x.nm, d))).length cap', .slice a3 n3 c3, .bool late] ∧ RdCx W' (insA chxLt 1000 C (ds.map fun d => (x.fr, x.nm, d))) (.slice ad' (insA chxLt 1000 C (ds.map fun d => (x.fr, x.nm, d))).length cap') := by
 obtain ⟨adS, capS, rfl⟩ := hx.2.2.1.len
 obtain ⟨adE, capE, rfl⟩ := hx.1.len
 obtain ⟨adD, capD, rfl⟩ := hx.2.1.len
 obtain ⟨dad, dcap, rfl, hdc⟩ := hd
 obtain ⟨n, hln⟩ : ∃ n, ds.length = n := ⟨_, rfl⟩
 have HLn := Lib.hid hln
 have HD := Lib.hid hdc
 have HR := Lib.hid hr
 have HB := Lib.hid hb
 have HX := Lib.hid hx
 have hF := hb.lt
 rw [hln] at hds ⊢
 clear hln hdc hr hb hx
 unfold Con.val
 go_enter Tryz.func80, Tryz.ntmps80
 go_wp2_with fail
 go_loopw [6] (fun i wr => ∃ k : Nat, k ≤ n ∧ i = .int .i64 (k : Int) ∧ W.grownBy wr (some F) ∧ Hid (∃ ad' cap', BoxN wr F 76 [.slice a1 n1 c1, .slice ad' (insA chxLt 1000 C ((ds.take k).map fun d => (x.fr, x.nm, d))).length cap', .slice a3 n3 c3, .bool late] ∧ RdCx wr (insA chxLt 1000 C ((ds.take k).map fun d => (x.fr, x.nm, d))) (.slice ad' (insA chxLt 1000 C ((ds.take k).map fun d => (x.fr, x.nm, d))).length cap')) ∧ BoxN wr W.heap.size 29 [.int .u8 x.k, .string x.fr, .string x.rc, .string x.nm, .int .u8 x.ex.k, .string x.ex.ra, .string x.ex.nm, .int .i64 x.ex.d, .slice adE x.ex.sub.length capE, .int .i64 x.d, .slice adD x.ds.length capD, .slice adS x.sub.length capS]) (fun i _ => n - (intOf i).toNat)
 case atStart => exact ⟨0, Nat.zero_le _, rfl, grown_below (below_a1 _ _) F, Lib.hid ⟨ad, cap, HB.out.alloc _, RdCx.low HR.out (below_a1 _ _)⟩, BoxN.new W [.int .u8 x.k, .string x.fr, .string x.rc, .string x.nm, .int .u8 x.ex.k, .string x.ex.ra, .string x.ex.nm, .int .i64 x.ex.d, .slice adE x.ex.sub.length capE, .int .i64 x.d, .slice adD x.ds.length capD, .slice adS x.sub.length capS] _⟩
 case round =>
  obtain ⟨k, hk, rfl, hgr, HP, hbx⟩ := hrel
  by_cases hlt : k < n
  ·obtain ⟨d, hy⟩ : ∃ d, ds[k]? = some d := ⟨_, List.getElem?_eq_getElem (by rw [HLn.out]; exact hlt)⟩
   obtain ⟨db, doff, rfl, y0⟩ := HD.out k d hy
   have hdb := some_ne (HB.out.apart y0 (by simp))
   replace y0 := hgr.cell y0 hdb
   have hSF : (some W.heap.size : Option Nat) ≠ some F := some_ne (by omega)
   have e1 : wr.cell? ⟨W.heap.size, 1, none⟩ = some (.string x.fr) := hbx.cell rfl
   have e3 : wr.cell? ⟨W.heap.size, 3, none⟩ = some (.string x.nm) := hbx.cell rfl
   have hk1 : (0 : Int) ≤ (k : Int) := by omega
   have hk2 : (k : Int) < (n : Int) := by omega
   obtain ⟨LL, hLL⟩ : ∃ LL, insA chxLt 1000 C ((ds.take k).map fun d => (x.fr, x.nm, d)) = LL := ⟨_, rfl⟩
   have HS : Hid (insA chxLt 1000 C ((ds.take (k + 1)).map fun d => (x.fr, x.nm, d)) = insL chxLt 1000 LL (x.fr, x.nm, d)) := Lib.hid (by rw [take_snoc_get hy, List.map_append, List.map_singleton, insA_snoc, hLL])
   have HLe : LL.length ≤ 1001 := hLL ▸ insA_le chxLt 1000 _ C hC
   rw [hLL] at HP
   have HC : Hid (∀ q, Calls Tryz.prog 114 #[.pointer (some ⟨F, 0, none⟩), .agg #[.string x.fr, .string x.nm, .int .i64 d, .bool false]] (wr.drewN q) fun e w4 => e = .returned (.tuple #[]) ∧ wr.grownBy w4 (some F) ∧ ∃ ad' cap', BoxN w4 F 76 [.slice a1 n1 c1, .slice ad' (insL chxLt 1000 LL (x.fr, x.nm, d)).length cap', .slice a3 n3 c3, .bool late] ∧ RdCx w4 (insL chxLt 1000 LL (x.fr, x.nm, d)) (.slice ad' (insL chxLt 1000 LL (x.fr, x.nm, d)).length cap')) := Lib.hid fun q => by
    obtain ⟨a5, c5, h5, h6⟩ := HP.out
    refine (fchoice_any F _ _ _ LL x.fr x.nm d a5 c5 (wr.drewN q) (by omega) (h5.below (below_drewN (Below.refl _ _) q) h5.lt) (h6.low (below_drewN (Below.refl _ _) q))).mono ?_
    rintro e w4 ⟨rfl, h7, h8⟩
    exact ⟨rfl, (grown_below (below_drewN (Below.refl _ _) q) F).trans h7, h8⟩
   clear hLL hy
   go_wp2_with fail
   refine wp_region_inv (fun L a w' => ∃ v0 v1 v2 v3 v4 v5 v6 v7 v8 v9 v10, a = ⟨#[.pointer (some ⟨F, 0, none⟩), .agg #[.int .u8 x.k, .string x.fr, .string x.rc, .string x.nm, .int .u8 x.ex.k, .string x.ex.ra, .string x.ex.nm, .int .i64 x.ex.d, .slice adE x.ex.sub.length capE, .int .i64 x.d, .slice adD x.ds.length capD, .slice adS x.sub.length capS], .slice (some ⟨db, doff, none⟩) n dcap, undef, .pointer (some ⟨W.heap.size, 0, none⟩), undef, .int .i64 (k : Int), .int .i64 (k : Int), .slice (some ⟨db, doff, none⟩) n dcap, .int .i64 (n : Int), .bool true, u11, u12, v0, v1, v2, v3, v4, v5, v6, v7, v8, v9, v10], []⟩ ∧ VInv w' [.pointer (some ⟨F, 0, none⟩), .pointer (some ⟨W.heap.size, 1, none⟩), .string x.fr, .pointer (some ⟨W.heap.size, 3, none⟩), .string x.nm, .slice (some ⟨db, doff, none⟩) n dcap, .int .i64 (k : Int), .pointer (some ⟨db, doff + k, none⟩), .int .i64 d, .agg #[.string x.fr, .string x.nm, .int .i64 d, .bool false], .tuple #[]] [v0, v1, v2, v3, v4, v5, v6, v7, v8, v9, v10] L w' ∧ wr.grownBy w' (some F) ∧ (L 10 = false → ∃ q, w' = wr.drewN q) ∧ (L 10 = true → Hid (∃ ad' cap', BoxN w' F 76 [.slice a1 n1 c1, .slice ad' (insL chxLt 1000 LL (x.fr, x.nm, d)).length cap', .slice a3 n3 c3, .bool late] ∧ RdCx w' (insL chxLt 1000 LL (x.fr, x.nm, d)) (.slice ad' (insL chxLt 1000 LL (x.fr, x.nm, d)).length cap')))) (by kernel_rfl) (by kernel_rfl) ?_ ?_ ?_
   ·exact ⟨_, _, _, _, _, _, _, _, _, _, _, rfl, VInv.start (Below.refl _ _) rfl, grown_below (below_drewN (Below.refl _ _) 1) F, fun _ => ⟨1, rfl⟩, fun h => by cases h⟩
   ·rintro L a w' ⟨v0, v1, v2, v3, v4, v5, v6, v7, v8, v9, v10, rfl, h, hg, hn0, hp0⟩ i o ho hL hp
    have hi9 : i < 11 := by simpa using (Array.getElem?_eq_some_iff.1 ho).1
    have hi2 : i = 0 ∨ i = 1 ∨ i = 2 ∨ i = 3 ∨ i = 4 ∨ i = 5 ∨ i = 6 ∨ i = 7 ∨ i = 8 ∨ i = 9 ∨ i = 10 := by omega
    clear hi9
    have e1' := hg.cell e1 hSF
    have e3' := hg.cell e3 hSF
    have y0' := hg.cell y0 hdb
    rcases hi2 with rfl | rfl | rfl | rfl | rfl | rfl | rfl | rfl | rfl | rfl | rfl
    ·refine wpOp_step rfl ?_
     intro K hK
     go_simp
     exact hK _ _ ⟨_, _, _, _, _, _, _, _, _, _, _, rfl, h.step (i := 0) (v := .pointer (some ⟨F, 0, none⟩)) rfl, hg, fun hh => hn0 (by simpa [upd] using hh), fun hh => hp0 (by simpa [upd] using hh)⟩
    ·refine wpOp_step rfl ?_
     intro K hK
     go_simp
     exact hK _ _ ⟨_, _, _, _, _, _, _, _, _, _, _, rfl, h.step (i := 1) (v := .pointer (some ⟨W.heap.size, 1, none⟩)) rfl, hg, fun hh => hn0 (by simpa [upd] using hh), fun hh => hp0 (by simpa [upd] using hh)⟩
    ·refine wpOp_step rfl ?_
     intro K hK
     obtain rfl := h.at (i := 1) (pred_spec ho hp (j := 1) (by kernel_rfl)) rfl rfl
     go_simp
     exact hK _ _ ⟨_, _, _, _, _, _, _, _, _, _, _, rfl, h.step (i := 2) (v := .string x.fr) rfl, hg, fun hh => hn0 (by simpa [upd] using hh), fun hh => hp0 (by simpa [upd] using hh)⟩
    ·refine wpOp_step rfl ?_
     intro K hK
     go_simp
     exact hK _ _ ⟨_, _, _, _, _, _, _, _, _, _, _, rfl, h.step (i := 3) (v := .pointer (some ⟨W.heap.size, 3, none⟩)) rfl, hg, fun hh => hn0 (by simpa [upd] using hh), fun hh => hp0 (by simpa [upd] using hh)⟩
    ·refine wpOp_step rfl ?_
     intro K hK
     obtain rfl := h.at (i := 3) (pred_spec ho hp (j := 3) (by kernel_rfl)) rfl rfl
     go_simp
     exact hK _ _ ⟨_, _, _, _, _, _, _, _, _, _, _, rfl, h.step (i := 4) (v := .string x.nm) rfl, hg, fun hh => hn0 (by simpa [upd] using hh), fun hh => hp0 (by simpa [upd] using hh)⟩
    ·refine wpOp_step rfl ?_
     intro K hK
     go_simp
     exact hK _ _ ⟨_, _, _, _, _, _, _, _, _, _, _, rfl, h.step (i := 5) (v := .slice (some ⟨db, doff, none⟩) n dcap) rfl, hg, fun hh => hn0 (by simpa [upd] using hh), fun hh => hp0 (by simpa [upd] using hh)⟩
    ·refine wpOp_step rfl ?_
     intro K hK
     go_simp
     exact hK _ _ ⟨_, _, _, _, _, _, _, _, _, _, _, rfl, h.step (i := 6) (v := .int .i64 (k : Int)) rfl, hg, fun hh => hn0 (by simpa [upd] using hh), fun hh => hp0 (by simpa [upd] using hh)⟩
    ·refine wpOp_step rfl ?_
     intro K hK
     obtain rfl := h.at (i := 5) (pred_spec ho hp (j := 5) (by kernel_rfl)) rfl rfl
     obtain rfl := h.at (i := 6) (pred_spec ho hp (j := 6) (by kernel_rfl)) rfl rfl
     go_simp
     exact hK _ _ ⟨_, _, _, _, _, _, _, _, _, _, _, rfl, h.step (i := 7) (v := .pointer (some ⟨db, doff + k, none⟩)) rfl, hg, fun hh => hn0 (by simpa [upd] using hh), fun hh => hp0 (by simpa [upd] using hh)⟩
    ·refine wpOp_step rfl ?_
     intro K hK
     obtain rfl := h.at (i := 7) (pred_spec ho hp (j := 7) (by kernel_rfl)) rfl rfl
     go_simp
     exact hK _ _ ⟨_, _, _, _, _, _, _, _, _, _, _, rfl, h.step (i := 8) (v := .int .i64 d) rfl, hg, fun hh => hn0 (by simpa [upd] using hh), fun hh => hp0 (by simpa [upd] using hh)⟩
    ·refine wpOp_step rfl ?_
     intro K hK
     obtain rfl := h.at (i := 2) (pred_spec ho hp (j := 2) (by kernel_rfl)) rfl rfl
     obtain rfl := h.at (i := 4) (pred_spec ho hp (j := 4) (by kernel_rfl)) rfl rfl
     obtain rfl := h.at (i := 8) (pred_spec ho hp (j := 8) (by kernel_rfl)) rfl rfl
     go_simp
     exact hK _ _ ⟨_, _, _, _, _, _, _, _, _, _, _, rfl, h.step (i := 9) (v := .agg #[.string x.fr, .string x.nm, .int .i64 d, .bool false]) rfl, hg, fun hh => hn0 (by simpa [upd] using hh), fun hh => hp0 (by simpa [upd] using hh)⟩
    ·refine wpOp_step rfl ?_
     intro K hK
     obtain rfl := h.at (i := 0) (pred_spec ho hp (j := 0) (by kernel_rfl)) rfl rfl
     obtain rfl := h.at (i := 9) (pred_spec ho hp (j := 9) (by kernel_rfl)) rfl rfl
     obtain ⟨q, rfl⟩ := hn0 hL
     go_simp
     refine (HC.out q).mono ?_
     rintro e w4 ⟨rfl, h7, h8⟩
     exact hK _ _ ⟨_, _, _, _, _, _, _, _, _, _, _, rfl, VInv.step (i := 10) (v := .tuple #[]) ⟨Below.refl _ _, h.len, h.f⟩ rfl, h7, fun hh => by simp [upd] at hh, fun _ => Lib.hid h8⟩
   ·rintro L a w4 ⟨v0, v1, v2, v3, v4, v5, v6, v7, v8, v9, v10, rfl, h, hg, hn0, hp0⟩ hall
    have HN := hp0 (hall 10 (by decide))
    rw [← HS.out] at HN
    have hbx4 := hbx.of_block (hg.block _ hbx.lt hSF)
    have hgr4 := hgr.trans hg
    clear h hall hn0 hp0 hg
    go_wp2
    go_roundw
    case rel => exact ⟨k + 1, by omega, by go_num, hgr4, HN, hbx4⟩
    case measure => simp [intOf]; omega
  ·obtain rfl : k = n := by omega
   have HT : Hid (insA chxLt 1000 C ((ds.take k).map fun d => (x.fr, x.nm, d)) = insA chxLt 1000 C (ds.map fun d => (x.fr, x.nm, d))) := Lib.hid (by rw [List.take_of_length_le (by rw [HLn.out]; exact Nat.le_refl _)])
   rw [HT.out] at HP
   go_wp2
   go_end0
   exact ⟨rfl, hgr, HP.out⟩
end Go.Proofs.YtkonookacfmfgaaGreatDoor

namespace Go.Proofs.YtkonookacfmfgaaGreatDoor
open Go.RowKit
section
variable {W W' : World} {F : Nat} {t : TypeId} {cs : List Value}
theorem RdE.box {xs : List Ex} {v : Value} (h : RdE W xs v) (hb : BoxN W F t cs) (hcs : ∀ (k : IntKind) (i : Int), Value.int k i ∉ cs) (hg : W.grownBy W' (some F)) : RdE W' xs v := by
 induction h with
 | mk ad cap xs ss hc hs ih =>
  refine .mk ad cap xs ss (fun j x hx => ?_) ih
  obtain ⟨h8, b, off, e, c0, c1, c2, c3, c4⟩ := hc j x hx
  have hn := some_ne (hb.apart c0 (hcs _ _))
  exact ⟨h8, b, off, e, hg.cell c0 hn, hg.cell c1 hn, hg.cell c2 hn, hg.cell c3 hn, hg.cell c4 hn⟩
theorem RdI.box {l : List Int} {v : Value} (h : RdI W l v) (hb : BoxN W F t cs) (hcs : ∀ (k : IntKind) (i : Int), Value.int k i ∉ cs) (hg : W.grownBy W' (some F)) : RdI W' l v := by
 obtain ⟨ad, cap, rfl, h1, h2⟩ := h
 refine ⟨ad, cap, rfl, h1, fun j d hj => ?_⟩
 obtain ⟨b, off, e, hc⟩ := h2 j d hj
 exact ⟨b, off, e, hg.cell hc (some_ne (hb.apart hc (hcs _ _)))⟩
theorem RdC.box {xs : List Con} {v : Value} (h : RdC W xs v) (hb : BoxN W F t cs) (hcs : ∀ (k : IntKind) (i : Int), Value.int k i ∉ cs) (hg : W.grownBy W' (some F)) : RdC W' xs v := by
 induction h with
 | mk ad cap xs es dd ss hc he hd hs ih =>
  refine .mk ad cap xs es dd ss (fun j x hx => ?_) (fun j x hx => (he j x hx).box hb hcs hg) (fun j x hx => (hd j x hx).box hb hcs hg) ih
  obtain ⟨h8, b, off, e, h2⟩ := hc j x hx
  have hn := some_ne (hb.apart (h2 0 _ rfl) (hcs _ _))
  exact ⟨h8, b, off, e, fun i u hu => hg.cell (h2 i u hu) hn⟩
theorem RdN.box {x : Con} {es dd ss : Value} (h : RdN W x es dd ss) (hb : BoxN W F t cs) (hcs : ∀ (k : IntKind) (i : Int), Value.int k i ∉ cs) (hg : W.grownBy W' (some F)) : RdN W' x es dd ss :=
 ⟨h.1.box hb hcs hg, h.2.1.box hb hcs hg, h.2.2.1.box hb hcs hg, h.2.2.2⟩
end
theorem found_noint (a1 a2 a3 : Option Addr) (n1 n2 n3 c1 c2 c3 : Nat) (late : Bool) : ∀ (k : IntKind) (i : Int), Value.int k i ∉ [Value.slice a1 n1 c1, .slice a2 n2 c2, .slice a3 n3 c3, .bool late] := by
 intro k i; simp
theorem insA_append {α : Type} (lt : α → α → Bool) (lim : Nat) (l a b : List α) : insA lt lim l (a ++ b) = insA lt lim (insA lt lim l a) b := by
 unfold insA
 rw [List.foldl_append]
end Go.Proofs.YtkonookacfmfgaaGreatDoor
