/-
  contract.Size: a sum over the nodes. observable.within. observable.leaf. observable.sorted, Check, Number, Truth. observable.Check, Number, Truth.
-/
import Derived.Test.YtkonookacfmfgaaGreatDoorC34
import Derived.Test.YtkonookacfmfgaaGreatDoorC17
import Derived.Test.YtkonookacfmfgaaGreatDoorC02
import Derived.Test.YtkonookacfmfgaaGreatDoorC06
import Derived.Test.YtkonookacfmfgaaGreatDoorC26
import Derived.Test.YtkonookacfmfgaaGreatDoorC31
namespace Go.Proofs.YtkonookacfmfgaaGreatDoor
open Go.RowKit Go.Shelf
attribute [local go_sem] Oper.semAt_some
def Con.nsz (c : Con) : Nat := 1 + (if c.ex.bare = true then 0 else c.ex.size)
def nszs (l : List Con) : Nat := (l.map Con.nsz).sum
theorem nszs_append (l m : List Con) : nszs (l ++ m) = nszs l + nszs m := by simp [nszs]
mutual
theorem Con.size_nodes : ∀ c : Con, c.size = nszs c.nodes
 | .mk k f t n x d dd l => by
  rw [Con.size, Con.nodes]
  have h := Con.sizes_nodes l
  simp only [nszs, List.map_cons, List.sum_cons] at h ⊢
  rw [h]; rfl
theorem Con.sizes_nodes : ∀ l : List Con, Con.sizes l = nszs (Con.nodess l)
 | [] => by simp [Con.sizes, Con.nodess, nszs]
 | x :: l => by rw [Con.sizes, Con.nodess, nszs_append, Con.size_nodes x, Con.sizes_nodes l]
end
mutual
theorem Con.nodes_len : ∀ c : Con, c.nodes.length ≤ c.bulk
 | .mk k f t n x d dd l => by rw [Con.nodes, Con.bulk, List.length_cons]; have := Con.nodess_len l; omega
theorem Con.nodess_len : ∀ l : List Con, (Con.nodess l).length ≤ Con.bulks l
 | [] => by simp [Con.nodess]
 | x :: l => by rw [Con.nodess, Con.bulks, List.length_append]; have := Con.nodes_len x; have := Con.nodess_len l; omega
end
theorem nszs_le {w0 : World} (l : List (NdW w0)) : nszs (l.map NdW.con) ≤ l.length * 2000001 := by
 induction l with
 | nil => simp [nszs]
 | cons x l ih =>
  have h1 : x.con.nsz ≤ 2000001 := by
   have h2 := x.2.2
   have h3 := x.con.ex.size_le
   have h4 := x.con.bulk_eq
   have h5 : x.con.bulk ≤ 2000000 := h2
   unfold Con.nsz
   split <;> omega
  simp only [nszs, List.map_cons, List.sum_cons, List.length_cons, Nat.add_mul] at ih ⊢
  omega
theorem Kept.putObj {base D : Nat} (W : World) (l : Nat) (o o' : Obj) (hl : base ≤ l) (h : W.heap[l]? = some o) (hc : o.isCells = false) : Kept base D W (W.putObj l o') := by
 refine ⟨(Below.refl base W).grown (grownBy_putObj' W l o') (by have := (Array.getElem?_eq_some_iff.1 h).1; omega) (fun k e => by cases e; omega), fun b ob _ hb hq => ?_⟩
 rw [World.putObj_heap_other (by rintro rfl; rw [h] at hb; cases hb; rw [hc] at hq; cases hq)]
 exact hb
theorem KeepsOthers.of_below {W W' : World} (h : Below W.heap.size W W') : KeepsOthers W W' := ⟨h.size, fun k o hk _ => by rw [h.block k (Array.getElem?_eq_some_iff.1 hk).1]; exact hk⟩
theorem cbox_own {β : Type} (B : Nat) (x : Con) (es dd ss : Value) : Own (fun (_ : β) W => CBox W B x es dd ss) := fun _ _ _ _ hs hg hr => hs.kept fun _ _ hc => cell_kept hc hg hr
set_option maxHeartbeats 4000000 in
set_option maxRecDepth 100000 in
theorem csize_any (c : Con) (es dd ss : Value) (w : World) (hB : c.bulk ≤ 2000000) (hr : RdN w c es dd ss) :
  Calls Tryz.prog 65 #[c.val es dd ss] w fun e w' => e = .returned (.int .i64 (c.size : Int)) ∧ Below w.heap.size w w' := by
 obtain ⟨ad, cap, rfl⟩ := hr.2.2.1.len
 obtain ⟨ad1, cap1, rfl⟩ := hr.1.len
 obtain ⟨ad2, cap2, rfl⟩ := hr.2.1.len
 have HNo := Lib.hid (fun W => cnodes_any c (.slice ad1 c.ex.sub.length cap1) (.slice ad2 c.ds.length cap2) (.slice ad c.sub.length cap) W)
 refine (callsIn_wide (n := 10)).1 ?_
 unfold Con.val at HNo ⊢
 refine callsIn_of_wp_marks Tryz.func65 rfl trivial ?_ rfl
 simp only [Tryz.ntmps65, List.size_toArray, List.length_cons, List.length_nil, Nat.reduceAdd, Nat.reduceSub, Array.replicate_succ, Array.replicate_zero, List.push_toArray, List.append_toArray, List.nil_append, List.cons_append]
 gi_wp2_with (refine ⟨trivial, ?_⟩; gi_at_call 67; refine (callsIn_wide.2 (HNo.out _)).mono ?_; rintro e w1 ⟨rfl, rfl⟩)
 have hbW := below_a3 w (.cells #[.int .u8 c.k, .string c.fr, .string c.rc, .string c.nm, .int .u8 c.ex.k, .string c.ex.ra, .string c.ex.nm, .int .i64 c.ex.d, .slice ad1 c.ex.sub.length cap1, .int .i64 c.d, .slice ad2 c.ds.length cap2, .slice ad c.sub.length cap] 29) (.cells #[.int .i64 0] 3) (.cells #[.int .u8 c.k, .string c.fr, .string c.rc, .string c.nm, .int .u8 c.ex.k, .string c.ex.ra, .string c.ex.nm, .int .i64 c.ex.d, .slice ad1 c.ex.sub.length cap1, .int .i64 c.d, .slice ad2 c.ds.length cap2, .slice ad c.sub.length cap] 29)
 have bN := (Boxed.new (w.alloc (.cells #[.int .u8 c.k, .string c.fr, .string c.rc, .string c.nm, .int .u8 c.ex.k, .string c.ex.ra, .string c.ex.nm, .int .i64 c.ex.d, .slice ad1 c.ex.sub.length cap1, .int .i64 c.d, .slice ad2 c.ds.length cap2, .slice ad c.sub.length cap] 29)) 3 (.int .i64 0)).alloc (.cells #[.int .u8 c.k, .string c.fr, .string c.rc, .string c.nm, .int .u8 c.ex.k, .string c.ex.ra, .string c.ex.nm, .int .i64 c.ex.d, .slice ad1 c.ex.sub.length cap1, .int .i64 c.d, .slice ad2 c.ds.length cap2, .slice ad c.sub.length cap] 29)
 have bC := CBox.new ((w.alloc (.cells #[.int .u8 c.k, .string c.fr, .string c.rc, .string c.nm, .int .u8 c.ex.k, .string c.ex.ra, .string c.ex.nm, .int .i64 c.ex.d, .slice ad1 c.ex.sub.length cap1, .int .i64 c.d, .slice ad2 c.ds.length cap2, .slice ad c.sub.length cap] 29)).alloc (.cells #[.int .i64 0] 3)) c (.slice ad1 c.ex.sub.length cap1) (.slice ad2 c.ds.length cap2) (.slice ad c.sub.length cap) 29
 simp only [World.size_alloc] at bN bC
 have hsz : (((w.alloc (.cells #[.int .u8 c.k, .string c.fr, .string c.rc, .string c.nm, .int .u8 c.ex.k, .string c.ex.ra, .string c.ex.nm, .int .i64 c.ex.d, .slice ad1 c.ex.sub.length cap1, .int .i64 c.d, .slice ad2 c.ds.length cap2, .slice ad c.sub.length cap] 29)).alloc (.cells #[.int .i64 0] 3)).alloc (.cells #[.int .u8 c.k, .string c.fr, .string c.rc, .string c.nm, .int .u8 c.ex.k, .string c.ex.ra, .string c.ex.nm, .int .i64 c.ex.d, .slice ad1 c.ex.sub.length cap1, .int .i64 c.d, .slice ad2 c.ds.length cap2, .slice ad c.sub.length cap] 29)).heap.size = w.heap.size + 3 := by simp
 obtain ⟨W0, hW0⟩ : ∃ W0, ((w.alloc (.cells #[.int .u8 c.k, .string c.fr, .string c.rc, .string c.nm, .int .u8 c.ex.k, .string c.ex.ra, .string c.ex.nm, .int .i64 c.ex.d, .slice ad1 c.ex.sub.length cap1, .int .i64 c.d, .slice ad2 c.ds.length cap2, .slice ad c.sub.length cap] 29)).alloc (.cells #[.int .i64 0] 3)).alloc (.cells #[.int .u8 c.k, .string c.fr, .string c.rc, .string c.nm, .int .u8 c.ex.k, .string c.ex.ra, .string c.ex.nm, .int .i64 c.ex.d, .slice ad1 c.ex.sub.length cap1, .int .i64 c.d, .slice ad2 c.ds.length cap2, .slice ad c.sub.length cap] 29) = W0 := ⟨_, rfl⟩
 rw [hW0] at hbW bN bC hsz ⊢
 have hnl := c.nodes_len
 have HSz := Lib.hid c.size_nodes
 clear hW0 HNo
 refine wpIn_rangeFunc_ownH rfl (by decide) (gf := 86) (lb := #[.pointer (some ⟨w.heap.size + 1 + 1, 0, none⟩)]) rfl trivial (enters_of Tryz.func86 (by kernel_rfl) rfl)
  (cnodes_stops w Fence.wide rfl trivial trivial rfl 9 c _ _ _ W0 hB hr hbW _ bC) (fun h k => h.trans k) (fun W l o o' hl h hc _ => Kept.putObj W l o o' (by omega) h hc) (Below.refl _ _) (fun _ => rfl)
  (fun pre W => Boxed W (w.heap.size + 1) 3 (.int .i64 ((nszs (pre.map NdW.con) : Nat) : Int)) ∧ (Below w.heap.size w W ∧ W0.heap.size ≤ W.heap.size))
  (fun _ _ _ => False)
  (OwnFrom.and (Own.from (boxed_own _ _ _) _) (OwnFrom.and (ownFrom_below (Nat.le_refl _) (by omega)) (fun _ _ _ _ hs hg _ => Nat.le_trans hs hg.size)))
  (fun _ _ _ _ _ hs _ _ => hs)
  ⟨bN, hbW, Nat.le_refl _⟩
  (fun x a' W => ∃ Bx, W0.heap.size ≤ Bx ∧ CBox W Bx x.1.1 x.1.2.1 x.1.2.2.1 x.1.2.2.2 ∧ a' = { tmps := #[.agg #[.int .u8 c.k, .string c.fr, .string c.rc, .string c.nm, .int .u8 c.ex.k, .string c.ex.ra, .string c.ex.nm, .int .i64 c.ex.d, .slice ad1 c.ex.sub.length cap1, .int .i64 c.d, .slice ad2 c.ds.length cap2, .slice ad c.sub.length cap], .pointer (some ⟨w.heap.size, 0, none⟩), .int .i64 0, .pointer (some ⟨w.heap.size + 1, 0, none⟩), .pointer (some ⟨Bx, 0, none⟩), .agg #[.int .u8 c.k, .string c.fr, .string c.rc, .string c.nm, .int .u8 c.ex.k, .string c.ex.ra, .string c.ex.nm, .int .i64 c.ex.d, .slice ad1 c.ex.sub.length cap1, .int .i64 c.d, .slice ad2 c.ds.length cap2, .slice ad c.sub.length cap], .func (.func 86) #[] #[.pointer (some ⟨w.heap.size + 1 + 1, 0, none⟩)], x.1.1.val x.1.2.1 x.1.2.2.1 x.1.2.2.2, undef, undef, undef, undef, undef, undef, undef, undef, undef, undef, undef, undef], defers := [] })
  (fun x a' s A B row hs hg hr => by
   obtain ⟨Bx, h1, h2, h3⟩ := hs
   exact ⟨Bx, h1, cbox_own (β := Unit) Bx _ _ _ _ () A B row h2 hg (fun r e => (hr r e).2), h3⟩)
  ?assign ?body ?done ?stop
 case assign =>
  rintro l pre ⟨⟨y, es', dd', ss'⟩, hy, hyB⟩ W K ⟨hi, hbi, hZ0⟩ hK
  have hy2 : RdN w y es' dd' ss' := hy
  obtain ⟨adp, capp, rfl⟩ := hy2.2.2.1.len
  obtain ⟨ad1p, cap1p, rfl⟩ := hy2.1.len
  obtain ⟨ad2p, cap2p, rfl⟩ := hy2.2.1.len
  have hz := hbi.size
  have hl := hi.lt
  have hk := hK _ _ ((KeepsOthers.alloc W (.cells #[.int .u8 y.k, .string y.fr, .string y.rc, .string y.nm, .int .u8 y.ex.k, .string y.ex.ra, .string y.ex.nm, .int .i64 y.ex.d, .slice ad1p y.ex.sub.length cap1p, .int .i64 y.d, .slice ad2p y.ds.length cap2p, .slice adp y.sub.length capp] 29)).from _) (Kept.alloc W hz _) ⟨hi.alloc _, hbi.alloc hz _, Nat.le_trans hZ0 (by simp)⟩ ⟨W.heap.size, hZ0, CBox.new W y _ _ _ _, rfl⟩
  unfold NdW.enc Con.val
  unfold Con.val at hk
  clear hK
  gi_wp2
  exact hk
 case body =>
  rintro l pre ⟨⟨y, es', dd', ss'⟩, hy, hyB⟩ a' W hl ⟨r, hlr⟩ ⟨hi, hbi, hZ0⟩ ⟨Bx, hBx, hbox, rfl⟩ hlt
  have hy2 : RdN w y es' dd' ss' := hy
  obtain ⟨adp, capp, rfl⟩ := hy2.2.2.1.len
  obtain ⟨ad1p, cap1p, rfl⟩ := hy2.1.len
  obtain ⟨ad2p, cap2p, rfl⟩ := hy2.2.1.len
  have hsum := nszs_le pre
  obtain ⟨S, hS⟩ : ∃ S, nszs (pre.map NdW.con) = S := ⟨_, rfl⟩
  rw [hS] at hi hsum
  have hyb : y.bulk ≤ 2000000 := hyB
  have hye := y.bulk_eq
  have hyx : y.ex.bulk ≤ 2000000 := by omega
  have hys := y.ex.size_le
  have hS0 : S ≤ 4000002000000 := by omega
  have HSN : Hid (nszs ((pre ++ [(⟨(y, .slice ad1p y.ex.sub.length cap1p, .slice ad2p y.ds.length cap2p, .slice adp y.sub.length capp), hy, hyB⟩ : NdW w)]).map NdW.con) = S + (1 + (if y.ex.bare = true then 0 else y.ex.size))) := Lib.hid (by
   rw [List.map_append, nszs_append, hS]; simp [nszs, NdW.con, Con.nsz])
  have e1 : IntKind.i64.wrap ((S : Int) + 1) = (S : Int) + 1 := IntWalk.i64_in _ (by omega)
  have hbi1 : Below w.heap.size w (W.setCell ⟨w.heap.size + 1, 0, none⟩ (.int .i64 ((S : Int) + 1))) := hbi.setCell (p := ⟨w.heap.size + 1, 0, none⟩) (by simp) _
  have hi1 := hi.set (.int .i64 ((S : Int) + 1))
  have hbx1 := hbox.far (a := ⟨w.heap.size + 1, 0, none⟩) (show Bx ≠ w.heap.size + 1 by omega) (.int .i64 ((S : Int) + 1))
  have HK1 : Hid (KeepsOthers W (W.setCell ⟨w.heap.size + 1, 0, none⟩ (.int .i64 ((S : Int) + 1))) ∧ Kept w.heap.size W0.heap.size W (W.setCell ⟨w.heap.size + 1, 0, none⟩ (.int .i64 ((S : Int) + 1)))) :=
   Lib.hid ⟨KeepsOthers.setCell _ _ _, Kept.setCell W (by omega) (by omega) _⟩
  have HBr := Lib.hid (fun W' (hb : Below w.heap.size w W') => bare_any y.ex _ W' (hy2.1.frame hb))
  have HSz2 := Lib.hid (fun W' (hb : Below w.heap.size w W') => osize_any y.ex.bulk y.ex _ W' (Nat.le_refl _) hyx (hy2.1.frame hb))
  unfold Ex.val at HBr HSz2
  have hc := hi.cell
  have hf := hi.frozen
  unfold Con.val
  obtain ⟨c0, c1, c2, c3, c4, c5, c6, c7, c8, c9, c10, c11⟩ := hbox
  clear hS hsum hye hys hyb hyx hlr
  have laid : ∀ w2, Below (W.setCell ⟨w.heap.size + 1, 0, none⟩ (.int .i64 ((S : Int) + 1))).heap.size (W.setCell ⟨w.heap.size + 1, 0, none⟩ (.int .i64 ((S : Int) + 1))) w2 →
    CBox w2 Bx y (.slice ad1p y.ex.sub.length cap1p) (.slice ad2p y.ds.length cap2p) (.slice adp y.sub.length capp) ∧ Boxed w2 (w.heap.size + 1) 3 (.int .i64 ((S : Int) + 1)) ∧ Below w.heap.size w w2 ∧ W0.heap.size ≤ w2.heap.size ∧ KeepsOthers W w2 ∧ Kept w.heap.size W0.heap.size W w2 := fun w2 hb2 => by
   have hz2 := hb2.size
   refine ⟨hbx1.low hb2, (hb2.block _ hi1.lt).trans hi1, hbi1.trans (hb2.mono (by simp; omega)), by simp at hz2; omega, HK1.out.1.trans (KeepsOthers.of_below hb2), HK1.out.2.trans (Kept.of_below (by simp; omega) hb2)⟩
  have HL := Lib.hid laid
  clear laid hi hbi hi1 hbx1 HK1 bC bN HSz hnl
  cases hq : y.ex.bare with
  | true =>
   rw [hq] at HSN HBr
   simp only [if_true, Nat.add_zero] at HSN
   clear hq
   gi_wp2_with (refine ⟨trivial, ?_⟩; gi_at_call 83; refine (CallsIn.inRound l (callsIn_wide.2 (HBr.out _ hbi1))).mono ?_; rintro e w2 ⟨rfl, hb2⟩)
   obtain ⟨k0, k1, k2, k3, k4, k5⟩ := HL.out w2 hb2
   exact ⟨k4.from _, k5, by rw [HSN.out]; exact k1, k2, k3⟩
  | false =>
   rw [hq] at HSN HBr
   simp only [Bool.false_eq_true, if_false] at HSN
   have hys := y.ex.size_le
   have hyx : y.ex.bulk ≤ 2000000 := by
    have h1 := y.bulk_eq
    have h2 : y.bulk ≤ 2000000 := hyB
    omega
   have e2 : IntKind.i64.wrap ((S : Int) + 1 + (y.ex.size : Int)) = (S : Int) + 1 + (y.ex.size : Int) := IntWalk.i64_in _ (by omega)
   clear hq hys hyx
   gi_wp2_with (refine ⟨trivial, ?_⟩; gi_at_call 83; refine (CallsIn.inRound l (callsIn_wide.2 (HBr.out _ hbi1))).mono ?_; rintro e w2 ⟨rfl, hb2⟩)
   obtain ⟨k0, k1, k2, k3, k4, k5⟩ := HL.out w2 hb2
   clear c0 c1 c2 c3 c4 c5 c6 c7 c8 c9 c10 c11 hbi1 hc hf HBr e1 HL hb2
   have hc2 := k1.cell
   have hf2 := k1.frozen
   have hBx2 := k0.lt
   obtain ⟨c0, c1, c2, c3, c4, c5, c6, c7, c8, c9, c10, c11⟩ := k0
   have HL3 : Hid (∀ w3, Below w2.drew.heap.size w2.drew w3 → Boxed w3 (w.heap.size + 1) 3 (.int .i64 ((S : Int) + 1)) ∧ KeepsFrom W0.heap.size W (w3.setCell ⟨w.heap.size + 1, 0, none⟩ (.int .i64 ((S : Int) + 1 + (y.ex.size : Int)))) ∧ Kept w.heap.size W0.heap.size W (w3.setCell ⟨w.heap.size + 1, 0, none⟩ (.int .i64 ((S : Int) + 1 + (y.ex.size : Int)))) ∧
     Boxed (w3.setCell ⟨w.heap.size + 1, 0, none⟩ (.int .i64 ((S : Int) + 1 + (y.ex.size : Int)))) (w.heap.size + 1) 3 (.int .i64 ((S : Int) + 1 + (y.ex.size : Int))) ∧ Below w.heap.size w (w3.setCell ⟨w.heap.size + 1, 0, none⟩ (.int .i64 ((S : Int) + 1 + (y.ex.size : Int)))) ∧ W0.heap.size ≤ w3.heap.size) := Lib.hid fun w3 hb3' => by
    have hb3 : Below w2.heap.size w2 w3 := ((Below.refl _ w2).drew).trans hb3'
    have h1 : Boxed w3 (w.heap.size + 1) 3 (.int .i64 ((S : Int) + 1)) := (hb3.block _ k1.lt).trans k1
    have hz3 := hb3.size
    exact ⟨h1, ((k4.trans (KeepsOthers.of_below hb3)).trans (KeepsOthers.setCell _ _ _)).from _, (k5.trans (Kept.of_below (by omega) hb3)).trans (Kept.setCell w3 (by omega) (by omega) _), h1.set _, (k2.trans (hb3.mono (by omega))).setCell (p := ⟨w.heap.size + 1, 0, none⟩) (by simp) _, by omega⟩
   have hmx : Tryz.prog.follows .mixedOrders = true := by kernel_rfl
   have k2d : Below w.heap.size w w2.drew := k2.drew
   clear k4 k5 k3 k1
   gi_region_with_o (refine ⟨trivial, ?_⟩; gi_at_call 84; refine (CallsIn.inRound l (callsIn_wide.2 (HSz2.out _ k2d))).mono ?_; rintro e w3 ⟨rfl, hb3⟩; obtain ⟨j1, j2, j3, j4, j5, j6⟩ := HL3.out w3 hb3; have hc3 := j1.cell; have hf3 := j1.frozen)
   all_goals gi_wp2
   all_goals (try go_bits)
   all_goals exact ⟨j2, j3, by rw [HSN.out, show ((S + (1 + y.ex.size) : Nat) : Int) = (S : Int) + 1 + (y.ex.size : Int) by omega]; exact j4, j5, Nat.le_trans j6 (by simp)⟩
 case done =>
  rintro D xs W hD hS ⟨hi, hbi, hZ0⟩ hK
  rw [hS, ← HSz.out] at hi
  have hc := hi.cell
  have hb3 := hbi.trans (belowK_b (w := w) (Nat.le_refl _) W D (.deferred (some [])) (.deferred none) (by omega) hK rfl rfl)
  gi_wp2
  refine ⟨by simp, .inl ⟨_, _, rfl, run_takeDeferred hK, ?_⟩⟩
  exact ⟨_, results_tmp rfl _ _ _, rfl, hb3⟩
 case stop =>
  rintro D c pre W _ _ h _
  exact h.elim
end Go.Proofs.YtkonookacfmfgaaGreatDoor

namespace Go.Proofs.YtkonookacfmfgaaGreatDoor
open Go.RowKit
set_option maxRecDepth 100000 in
theorem within_any (d : Int) (w : World) : Calls Tryz.prog 156 #[.int .i64 d] w fun e w' => e = .returned (.bool (isDay d)) ∧ w = w' := by
 go_enter Tryz.func156, Tryz.ntmps156
 go_wp2
 all_goals
  go_ret
  refine ⟨ret_bool' ?_, rfl⟩
  rw [Bool.eq_iff_iff]; simp [isDay]; omega
end Go.Proofs.YtkonookacfmfgaaGreatDoor

namespace Go.Proofs.YtkonookacfmfgaaGreatDoor
open Go.RowKit
theorem leafSort_yes {k : Nat} {ra nm : ByteArray} {d : Int} {n : Nat} (h : leafOk k ra nm d n) : leafSort k ra nm d n = 1 := by unfold leafSort; rw [if_pos h]
theorem leafSort_no {k : Nat} {ra nm : ByteArray} {d : Int} {n : Nat} (h : ¬ leafOk k ra nm d n) : leafSort k ra nm d n = 0 := by unfold leafSort; rw [if_neg h]
set_option maxHeartbeats 2000000 in
set_option maxRecDepth 100000 in
theorem leaf_core (k n : Nat) (ra nm : ByteArray) (d : Int) (ad : Option Addr) (cap : Nat) (w : World) (hn : n ≤ 2000000) (h1 : ra.size ≤ 2000000) (h2 : nm.size ≤ 2000000) :
  Calls Tryz.prog 150 #[.agg #[.int .u8 (k : Int), .string ra, .string nm, .int .i64 d, .slice ad n cap]] w fun e w' => e = .returned (.int .u8 ((leafSort k ra nm d n : Nat) : Int)) ∧ Below w.heap.size w w' := by
 have HR := Lib.hid (fun W => rat_any ra W (by omega))
 have HN := Lib.hid (fun W => name_any nm W (by omega))
 have HD := Lib.hid (fun W => within_any d W)
 have HY := Lib.hid (@leafSort_yes k ra nm d n)
 have HX := Lib.hid (@leafSort_no k ra nm d n)
 generalize hLS : leafSort k ra nm d n = LS at *
 clear hLS
 by_cases hz : n = 0
 ·subst hz
  by_cases hk1 : k = 1
  ·subst hk1
   go_enter Tryz.func150, Tryz.ntmps150
   go_wp2_with fail
   refine (HR.out _).mono ?_
   rintro e w1 ⟨rfl, hb1⟩
   have q2 : w1.cell? ⟨w.heap.size, 2, none⟩ = some (.string nm) := by rw [hb1.cell (p := ⟨w.heap.size, 2, none⟩) (by simp)]; go_simp
   have q3 : w1.cell? ⟨w.heap.size, 3, none⟩ = some (.int .i64 d) := by rw [hb1.cell (p := ⟨w.heap.size, 3, none⟩) (by simp)]; go_simp
   have hb2 : Below w.heap.size w w1 := (below_a1 _ _).trans (hb1.mono (by simp))
   clear hb1
   go_wp2
   all_goals
    go_ret
    first
     | exact ⟨by rw [HY.out (by clear HR HN HD; simp_all [leafOk, emp_nil])]; rfl, hb2⟩
     | exact ⟨by rw [HX.out (by clear HR HN HD; simp_all [leafOk, emp_nil])]; rfl, hb2⟩
  ·by_cases hk2 : k = 2
   ·subst hk2
    cases hnm : isNm (bl nm) <;> cases hdy : isDay d <;> rw [hnm] at HN <;> rw [hdy] at HD
    all_goals
     go_enter Tryz.func150, Tryz.ntmps150
     go_wp2_with (first | (refine (HN.out _).mono ?_; rintro e w1 ⟨rfl, rfl⟩) | (refine (HD.out _).mono ?_; rintro e w1 ⟨rfl, rfl⟩))
     all_goals
      go_ret
      first
       | exact ⟨by rw [HY.out (by clear HR HN HD; simp_all [leafOk, emp_nil])]; rfl, below_a1 _ _⟩
       | exact ⟨by rw [HX.out (by clear HR HN HD; simp_all [leafOk, emp_nil])]; rfl, below_a1 _ _⟩
   ·by_cases hk3 : k = 3
    ·subst hk3
     cases hnm : isNm (bl nm) <;> rw [hnm] at HN
     all_goals
      go_enter Tryz.func150, Tryz.ntmps150
      go_wp2_with (first | (refine (HN.out _).mono ?_; rintro e w1 ⟨rfl, rfl⟩))
      all_goals
       go_ret
       first
        | exact ⟨by rw [HY.out (by clear HR HN HD; simp_all [leafOk, emp_nil])]; rfl, below_a1 _ _⟩
        | exact ⟨by rw [HX.out (by clear HR HN HD; simp_all [leafOk, emp_nil])]; rfl, below_a1 _ _⟩
    ·have HF : Hid (LS = 0) := Lib.hid (HX.out (by simp [leafOk, *]))
     go_enter Tryz.func150, Tryz.ntmps150
     go_wp2_with fail
     all_goals
      go_ret
      exact ⟨by rw [HF.out]; rfl, below_a1 _ _⟩
 ·have HF : Hid (LS = 0) := Lib.hid (HX.out (by simp [leafOk, hz]))
  have hz' : ((n : Int) == 0) = false := by simpa using hz
  go_enter Tryz.func150, Tryz.ntmps150
  go_wp2_with fail
  all_goals
   go_ret
   exact ⟨by rw [HF.out]; rfl, below_a1 _ _⟩
end Go.Proofs.YtkonookacfmfgaaGreatDoor

namespace Go.Proofs.YtkonookacfmfgaaGreatDoor
open Go.RowKit
def ShapeAt (w : World) (bm : Nat) (W : World) (k : Nat) : Option (List Nat × Nat) → Prop
 | none => (Instr.lookup 169 (.map (some bm)) (.int .u8 (k : Int)) true).run Tryz.prog W = .ok (.tuple #[.agg #[.slice none 0 0, .int .u8 0], .bool false]) W
 | some (ps, own) => ∃ b off cap, (Instr.lookup 169 (.map (some bm)) (.int .u8 (k : Int)) true).run Tryz.prog W = .ok (.tuple #[.agg #[.slice (some ⟨b, off, none⟩) ps.length cap, .int .u8 (own : Int)], .bool true]) W ∧
   ∀ (j p : Nat), ps[j]? = some p → w.cell? ⟨b, off + j, none⟩ = some (.int .u8 (p : Int))
def LookS (w : World) : Prop := ∃ bm, w.cell? ⟨1, 0, none⟩ = some (.map (some bm)) ∧ ∀ W, Below w.heap.size w W → ∀ k, k < 256 → ShapeAt w bm W k (shapeOf k)
theorem LookS.frame {w w' : World} (h : LookS w) (hb : Below w.heap.size w w') : LookS w' := by
 obtain ⟨bm, hc, h2⟩ := h
 refine ⟨bm, by rw [hb.cell (p := ⟨1, 0, none⟩) (World.block_lt_of_cell? w _ hc)]; exact hc, fun W hW k hk => ?_⟩
 have h3 := h2 W (hb.trans (hW.mono hb.size)) k hk
 cases hs : shapeOf k with
 | none => rw [hs] at h3; exact h3
 | some q =>
  obtain ⟨ps, own⟩ := q
  rw [hs] at h3
  obtain ⟨b, off, cap, h4, h5⟩ := h3
  refine ⟨b, off, cap, h4, fun j p hj => ?_⟩
  have h6 := h5 j p hj
  rw [hb.cell (p := ⟨b, off + j, none⟩) (World.block_lt_of_cell? w _ h6)]
  exact h6
theorem sorted_no_parts {ra nm : ByteArray} {d : Int} {l ps : List Nat} {own : Nat} (h : ¬ (ra.size = 0 ∧ nm.size = 0 ∧ d = 0 ∧ l = ps)) : partSort ra nm d l ps own = 0 := by unfold partSort; rw [if_neg h]
theorem sorted_parts {ra nm : ByteArray} {d : Int} {l ps : List Nat} {own : Nat} (h : ra.size = 0 ∧ nm.size = 0 ∧ d = 0 ∧ l = ps) : partSort ra nm d l ps own = own := by unfold partSort; rw [if_pos h]
theorem take_succ_eq {l ps : List Nat} {k a : Nat} (h : l.take k = ps.take k) (h1 : l[k]? = some a) (h2 : ps[k]? = some a) : l.take (k + 1) = ps.take (k + 1) := by
 rw [take_snoc_get h1, take_snoc_get h2, h]
theorem sorts_get {xs : List Ex} {k : Nat} {y : Ex} (h : xs[k]? = some y) : (Ex.sorts xs)[k]? = some y.sort := by
 rw [Ex.sorts_eq, List.getElem?_map, h]; rfl
set_option maxHeartbeats 2000000 in
set_option maxRecDepth 100000 in
theorem sorted_core (k : Nat) (ra nm : ByteArray) (d : Int) (xs : List Ex) (ad : Option Addr) (cap : Nat) (ps : List Nat) (own bm b off capp : Nat) (w : World) (hn : xs.length ≤ 2000000)
  (HI : Hid (∀ y, y ∈ xs → ∀ (s : Value) (W : World), RdE W y.sub s → LookS W → Calls Tryz.prog 133 #[y.val s] W fun e w' => e = .returned (.int .u8 ((y.sort : Nat) : Int)) ∧ Below W.heap.size W w'))
  (HS : Hid (RdE w xs (.slice ad xs.length cap))) (HL : Hid (LookS w)) (hm : w.cell? ⟨1, 0, none⟩ = some (.map (some bm)))
  (hsh : (Instr.lookup 169 (.map (some bm)) (.int .u8 (k : Int)) true).run Tryz.prog (w.alloc (.cells #[.int .u8 (k : Int), .string ra, .string nm, .int .i64 d, .slice ad xs.length cap] 25)) = .ok (.tuple #[.agg #[.slice (some ⟨b, off, none⟩) ps.length capp, .int .u8 (own : Int)], .bool true]) (w.alloc (.cells #[.int .u8 (k : Int), .string ra, .string nm, .int .i64 d, .slice ad xs.length cap] 25)))
  (HC : Hid (∀ (j p : Nat), ps[j]? = some p → w.cell? ⟨b, off + j, none⟩ = some (.int .u8 (p : Int)))) :
  Calls Tryz.prog 133 #[.agg #[.int .u8 (k : Int), .string ra, .string nm, .int .i64 d, .slice ad xs.length cap]] w fun e w' => e = .returned (.int .u8 ((partSort ra nm d (Ex.sorts xs) ps own : Nat) : Int)) ∧ Below w.heap.size w w' := by
 have hmb : 1 < w.heap.size := World.block_lt_of_cell? w _ hm
 have hb0 := below_a2 w (.cells #[.int .u8 (k : Int), .string ra, .string nm, .int .i64 d, .slice ad xs.length cap] 25) (.cells #[.slice (some ⟨b, off, none⟩) ps.length capp, .int .u8 (own : Int)] 167)
 by_cases hgood : ra.size = 0 ∧ nm.size = 0 ∧ d = 0 ∧ xs.length = ps.length
 ·obtain ⟨g1, g2, rfl, g4⟩ := hgood
  have HX : Hid (Ex.sorts xs ≠ ps → partSort ra nm 0 (Ex.sorts xs) ps own = 0) := Lib.hid (fun h => sorted_no_parts (fun hh => h hh.2.2.2))
  have HY : Hid (Ex.sorts xs = ps → partSort ra nm 0 (Ex.sorts xs) ps own = own) := Lib.hid (fun h => sorted_parts ⟨g1, g2, rfl, h⟩)
  rw [sz_nil] at g1 g2
  generalize partSort ra nm 0 (Ex.sorts xs) ps own = R at *
  rw [← g4] at hsh hb0
  have HG := Lib.hid g4
  clear g4
  go_enter Tryz.func133, Tryz.ntmps133
  go_wp2_with fail
  go_loopw [43] (fun i wr => ∃ (j : Nat), j ≤ xs.length ∧ i = .int .i64 (j : Int) ∧ Hid ((Ex.sorts xs).take j = ps.take j) ∧ Below w.heap.size w wr ∧ wr.cell? ⟨w.heap.size + 1, 0, none⟩ = some (.slice (some ⟨b, off, none⟩) xs.length capp) ∧ wr.cell? ⟨w.heap.size + 1, 1, none⟩ = some (.int .u8 (own : Int))) (fun i _ => xs.length - (intOf i).toNat)
  case atStart => exact ⟨0, Nat.zero_le _, rfl, Lib.hid (by simp), hb0, by go_simp, by go_simp⟩
  case round =>
   clear hb0
   obtain ⟨j, hj, rfl, HT, hbel, q0, q1⟩ := hrel
   by_cases hlt : j < xs.length
   ·obtain ⟨y, hy⟩ : ∃ y, xs[j]? = some y := ⟨_, List.getElem?_eq_getElem hlt⟩
    obtain ⟨p, hp⟩ : ∃ p, ps[j]? = some p := ⟨_, List.getElem?_eq_getElem (by have := HG.out; omega)⟩
    obtain ⟨b', off', s', rfl, c0, c1, c2, c3, c4, hs', hk8⟩ := (HS.out.frame hbel).at hy
    obtain ⟨ad', cap', rfl⟩ := hs'.len
    have hpc := HC.out j p hp
    have hbb : b < w.heap.size := World.block_lt_of_cell? w _ hpc
    have hpw : wr.cell? ⟨b, off + j, none⟩ = some (.int .u8 (p : Int)) := by rw [hbel.cell (p := ⟨b, off + j, none⟩) hbb]; exact hpc
    have hbb2 : b < wr.heap.size := by have := hbel.size; omega
    have hblk : b' < wr.heap.size := World.block_lt_of_cell? wr _ c0
    have hbx : w.heap.size + 1 < wr.heap.size := World.block_lt_of_cell? wr _ q0
    have hzw := hbel.size
    have hk1 : (0 : Int) ≤ (j : Int) := by omega
    have hk2 : (j : Int) < (xs.length : Int) := by omega
    have HZ : Hid (∀ W, Ext (wr.alloc (.cells #[.int .u8 (y.k : Int), .string y.ra, .string y.nm, .int .i64 y.d, .slice ad' y.sub.length cap'] 25)) W → Calls Tryz.prog 133 #[.agg #[.int .u8 (y.k : Int), .string y.ra, .string y.nm, .int .i64 y.d, .slice ad' y.sub.length cap']] W fun e w' => e = .returned (.int .u8 ((y.sort : Nat) : Int)) ∧ Below W.heap.size W w') :=
     Lib.hid fun W hW => HI.out y (List.mem_of_getElem? hy) _ W (hs'.frame ((below_a1 wr _).trans (Below.mono hW (by simp)))) (HL.out.frame ((hbel.alloc hzw _).trans (Below.mono hW (by simp; omega))))
    have HYs : Hid ((Ex.sorts xs)[j]? = some y.sort) := Lib.hid (sorts_get hy)
    have HPs := Lib.hid hp
    clear hy hs' hp hpc
    go_wp2
    refine wp_region_ext (fun W' => W'.cell? ⟨wr.heap.size, 0, none⟩ = some (.int .u8 (y.k : Int)) ∧ W'.cell? ⟨wr.heap.size, 1, none⟩ = some (.string y.ra) ∧ W'.cell? ⟨wr.heap.size, 2, none⟩ = some (.string y.nm) ∧ W'.cell? ⟨wr.heap.size, 3, none⟩ = some (.int .i64 y.d) ∧ W'.cell? ⟨wr.heap.size, 4, none⟩ = some (.slice ad' y.sub.length cap') ∧ W'.cell? ⟨w.heap.size + 1, 0, none⟩ = some (.slice (some ⟨b, off, none⟩) xs.length capp) ∧ W'.cell? ⟨b, off + j, none⟩ = some (.int .u8 (p : Int))) (fun W' hW' => ⟨hW'.cell (by go_simp), hW'.cell (by go_simp), hW'.cell (by go_simp), hW'.cell (by go_simp), hW'.cell (by go_simp), hW'.cell (by go_simp), hW'.cell (by go_simp)⟩) (by kernel_rfl) (by kernel_rfl) ?_
    intro HCW
    repeat (first | go_big_quiet_skip | (go_big_quiet_want; apply Exists.intro; refine ⟨fun W hW => ?_, ?_⟩; (focus (obtain ⟨p0, p1, p2, p3, p4, p5, p6⟩ := HCW W hW; go_simp; first | done | rfl | with_reducible exact ext_callsE HZ.out W hW)); (simp only [Act.put, List.setIfInBounds_toArray, List.set_cons_zero, List.set_cons_succ]); go_big_quiet_on))
    refine wpQuiet_nil ?_
    intro W hW
    have q2 : W.cell? ⟨w.heap.size + 1, 0, none⟩ = some (.slice (some ⟨b, off, none⟩) xs.length capp) := hW.cell (by go_simp)
    have q3 : W.cell? ⟨w.heap.size + 1, 1, none⟩ = some (.int .u8 (own : Int)) := hW.cell (by go_simp)
    have hb3 : Below w.heap.size w W := (hbel.alloc hzw _).trans (Below.mono hW (by simp; omega))
    clear hW HCW HZ hbel q0 q1 hpw c0 c1 c2 c3 c4
    by_cases hyp : y.sort = p
    ·have HN : Hid ((Ex.sorts xs).take (j + 1) = ps.take (j + 1)) := Lib.hid (take_succ_eq HT.out (by rw [HYs.out, hyp]) HPs.out)
     have hyp' : ((y.sort : Int) == (p : Int)) = true := by rw [hyp]; simp
     have hyp2 : ((y.sort : Int) != (p : Int)) = false := by rw [hyp]; simp
     go_wp2
     go_roundw
     case rel => exact ⟨j + 1, by omega, by go_num, HN, hb3, q2, q3⟩
     case measure => simp [intOf]; omega
    ·have HF : Hid (R = 0) := Lib.hid (HX.out (fun h => by
      have h1 := HYs.out
      rw [h, HPs.out] at h1
      exact hyp (Option.some.inj h1).symm))
     have hyp2 : ((y.sort : Int) != (p : Int)) = true := by rw [bne_iff_ne]; omega
     go_wp2
     go_ret
     exact ⟨by rw [HF.out]; rfl, hb3⟩
   ·obtain rfl : j = xs.length := by omega
    have HF : Hid (R = own) := Lib.hid (HY.out (by
     have h := HT.out
     rw [HG.out, List.take_length, List.take_of_length_le (by rw [Ex.sorts_length, HG.out]; exact Nat.le_refl _)] at h
     exact h))
    go_wp2
    go_ret
    exact ⟨by rw [HF.out]; rfl, hbel⟩
 ·have HF : Hid (partSort ra nm d (Ex.sorts xs) ps own = 0) := Lib.hid (sorted_no_parts (fun h => hgood ⟨h.1, h.2.1, h.2.2.1, by rw [← Ex.sorts_length xs, h.2.2.2]⟩))
  generalize partSort ra nm d (Ex.sorts xs) ps own = R at *
  go_enter Tryz.func133, Tryz.ntmps133
  go_wp2_with fail
  all_goals first
   | (go_ret; exact ⟨by rw [HF.out]; rfl, hb0⟩)
   | (exfalso; exact hgood ⟨(sz_nil _).2 (by assumption), (sz_nil _).2 (by assumption), by first | assumption | (rename_i hq _; simpa using hq) | simp_all, by omega⟩)
set_option maxRecDepth 100000 in
theorem sorted_any : ∀ (N : Nat) (x : Ex) (s : Value) (w : World), x.bulk ≤ N → x.bulk ≤ 2000000 → RdE w x.sub s → x.k < 256 → LookS w →
  Calls Tryz.prog 133 #[x.val s] w fun e w' => e = .returned (.int .u8 ((x.sort : Nat) : Int)) ∧ Below w.heap.size w w' := by
 intro N
 induction N with
 | zero =>
  intro x s w h0
  rw [Ex.bulk_eq] at h0
  omega
 | succ N ih =>
  intro x s w hN hB hs hk8 hL
  obtain ⟨ad, cap, rfl⟩ := hs.len
  have HS := Lib.hid hs
  have HI := Lib.hid ih
  have HL := Lib.hid hL
  have hbq := x.bulk_eq
  have hlen := Ex.bulks_len x.sub
  have hlt0 := x.sub_lt
  have hn : x.sub.length ≤ 2000000 := by omega
  have hr1 : x.ra.size ≤ 2000000 := by omega
  have hr2 : x.nm.size ≤ 2000000 := by omega
  have hb0 := below_a1 w (.cells #[.int .u8 x.k, .string x.ra, .string x.nm, .int .i64 x.d, .slice ad x.sub.length cap] 25)
  have hso := x.sort_eq
  unfold sortOf at hso
  rw [Ex.sorts_length] at hso
  obtain ⟨bm, hm, hall⟩ := hL
  have hsh := hall _ hb0 x.k hk8
  have hmb : 1 < w.heap.size := World.block_lt_of_cell? w _ hm
  clear hs ih hbq hall
  cases hsk : shapeOf x.k with
  | none =>
   rw [hsk] at hsh hso
   simp only [] at hso
   simp only [ShapeAt] at hsh
   have HLf := Lib.hid (leaf_core x.k x.sub.length x.ra x.nm x.d ad cap)
   rw [hso]
   unfold Ex.val
   generalize hX : leafSort x.k x.ra x.nm x.d x.sub.length = LS at *
   clear hX hso hsk
   go_enter Tryz.func133, Tryz.ntmps133
   go_wp2_with fail
   refine (HLf.out _ hn hr1 hr2).mono ?_
   rintro e w1 ⟨rfl, hb1⟩
   have hb2 : Below w.heap.size w w1 := (below_a2 w _ _).trans (hb1.mono (by simp; omega))
   clear hb1
   go_wp2
   go_ret
   exact ⟨rfl, hb2⟩
  | some q =>
   obtain ⟨ps, own⟩ := q
   rw [hsk] at hsh hso
   simp only [] at hso
   obtain ⟨b, off, capp, h4, h5⟩ := hsh
   rw [hso]
   exact sorted_core x.k x.ra x.nm x.d x.sub ad cap ps own bm b off capp w hn (Lib.hid fun y hy s W hr hl => by
    have hlt := Ex.mem_lt hy
    have hk : y.k < 256 := by
     obtain ⟨j, hj⟩ := List.mem_iff_getElem?.1 hy
     obtain ⟨_, _, _, _, _, _, _, _, _, _, h⟩ := HS.out.at hj
     exact h
    exact HI.out y s W (by omega) (by omega) hr hk hl) HS HL hm h4 (Lib.hid h5)
end Go.Proofs.YtkonookacfmfgaaGreatDoor

namespace Go.Proofs.YtkonookacfmfgaaGreatDoor
open Go.RowKit
theorem Ex.err_many {x : Ex} (h : 500 < x.size ∨ 60 < x.depth) : x.err = 4 := by unfold Ex.err; rw [if_pos h]
theorem Ex.err_bad {x : Ex} (h : ¬ (500 < x.size ∨ 60 < x.depth)) (h1 : x.sort = 0) : x.err = 8 := by unfold Ex.err; rw [if_neg h, if_pos h1]
theorem Ex.err_ok {x : Ex} (h : ¬ (500 < x.size ∨ 60 < x.depth)) (h1 : x.sort ≠ 0) : x.err = 0 := by unfold Ex.err; rw [if_neg h, if_neg h1]
set_option maxHeartbeats 1000000 in
set_option maxRecDepth 100000 in
theorem ochk_any (x : Ex) (s : Value) (w : World) (hB : x.bulk ≤ 2000000) (hs : RdE w x.sub s) (hk8 : x.k < 256) (hL : LookS w) :
  Calls Tryz.prog 132 #[x.val s] w fun e w' => e = .returned (.int .i64 x.err) ∧ Below w.heap.size w w' := by
 obtain ⟨ad, cap, rfl⟩ := hs.len
 have hb0 := below_a1 w (.cells #[.int .u8 x.k, .string x.ra, .string x.nm, .int .i64 x.d, .slice ad x.sub.length cap] 25)
 have HE : Hid (∀ W, Below w.heap.size w W → RdE W x.sub (.slice ad x.sub.length cap) ∧ LookS W) := Lib.hid fun W hW => ⟨hs.frame hW, hL.frame hW⟩
 have H1 := Lib.hid (osize_any x.bulk x _ _ (Nat.le_refl _) hB (HE.out _ hb0).1)
 have hsz := x.size_le
 have hdp := x.depth_le
 clear hs hL
 have hkeep : ∀ (A B : World), Below A.heap.size A B → (∀ (j : Nat) (u : Value), A.cell? ⟨w.heap.size, j, none⟩ = some u → B.cell? ⟨w.heap.size, j, none⟩ = some u) := fun A B hb j u h => by
  rw [hb.cell (p := ⟨w.heap.size, j, none⟩) (World.block_lt_of_cell? A _ h)]; exact h
 have HK := Lib.hid hkeep
 clear hkeep
 have HM := Lib.hid (Ex.err_many (x := x))
 have HB := Lib.hid (Ex.err_bad (x := x))
 have HO := Lib.hid (Ex.err_ok (x := x))
 generalize x.err = R at *
 unfold Ex.val at H1 ⊢
 go_enter Tryz.func132, Tryz.ntmps132
 go_wp2_with fail
 refine H1.out.mono ?_
 rintro e w1 ⟨rfl, hb1⟩
 have hb2 : Below w.heap.size w w1 := hb0.trans (hb1.mono (by simp))
 have c0 := HK.out _ _ hb1 0 (.int .u8 x.k) (by go_simp)
 have c1 := HK.out _ _ hb1 1 (.string x.ra) (by go_simp)
 have c2 := HK.out _ _ hb1 2 (.string x.nm) (by go_simp)
 have c3 := HK.out _ _ hb1 3 (.int .i64 x.d) (by go_simp)
 have c4 := HK.out _ _ hb1 4 (.slice ad x.sub.length cap) (by go_simp)
 clear hb1 H1 hb0
 have H2 := Lib.hid (odepth_any x.bulk x _ 60 w1 (Nat.le_refl _) hB (by omega) (HE.out _ hb2).1)
 unfold Ex.val at H2
 by_cases hsz5 : 500 < x.size
 ·have HF := Lib.hid (HM.out (.inl hsz5))
  have t1 : (500 : Int) < (x.size : Int) := by omega
  go_wp2
  go_ret
  exact ⟨by rw [HF.out]; rfl, hb2⟩
 ·have t1 : decide ((500 : Int) < (x.size : Int)) = false := by rw [decide_eq_false_iff_not]; omega
  have t1' : decide (500 < x.size) = false := by rw [decide_eq_false_iff_not]; omega
  obtain ⟨m, hm, hmd⟩ : ∃ m : Nat, min (60 + 1) x.depth = m ∧ (60 < m ↔ 60 < x.depth) := ⟨_, rfl, by omega⟩
  rw [hm] at H2
  go_wp2_with fail
  refine H2.out.mono ?_
  rintro e w2 ⟨rfl, hb3⟩
  have hb4 : Below w.heap.size w w2 := hb2.trans (hb3.mono hb2.size)
  have d0 := HK.out _ _ hb3 0 _ c0
  have d1 := HK.out _ _ hb3 1 _ c1
  have d2 := HK.out _ _ hb3 2 _ c2
  have d3 := HK.out _ _ hb3 3 _ c3
  have d4 := HK.out _ _ hb3 4 _ c4
  clear hb3 H2 hb2 c0 c1 c2 c3 c4
  have H3 := Lib.hid (sorted_any x.bulk x _ w2 (Nat.le_refl _) hB (HE.out _ hb4).1 hk8 (HE.out _ hb4).2)
  unfold Ex.val at H3
  by_cases hdp6 : 60 < x.depth
  ·have HF := Lib.hid (HM.out (.inr hdp6))
   have t2 : (60 : Int) < (m : Int) := by omega
   go_wp2
   go_ret
   exact ⟨by rw [HF.out]; rfl, hb4⟩
  ·have t2 : decide ((60 : Int) < (m : Int)) = false := by rw [decide_eq_false_iff_not]; omega
   have t2' : decide (60 < m) = false := by rw [decide_eq_false_iff_not]; omega
   go_wp2_with fail
   refine H3.out.mono ?_
   rintro e w3 ⟨rfl, hb5⟩
   have hb6 : Below w.heap.size w w3 := hb4.trans (hb5.mono hb4.size)
   clear hb5 H3 hb4 d0 d1 d2 d3 d4
   by_cases hT : x.sort = 0
   ·have HF := Lib.hid (HB.out (by omega) hT)
    have t3 : ((x.sort : Int) == 0) = true := by rw [hT]; rfl
    go_wp2
    go_ret
    exact ⟨by rw [HF.out]; rfl, hb6⟩
   ·have HF := Lib.hid (HO.out (by omega) hT)
    have t3 : ((x.sort : Int) == 0) = false := by simpa using hT
    go_wp2
    go_ret
    exact ⟨by rw [HF.out]; rfl, hb6⟩
set_option maxHeartbeats 1000000 in
set_option maxRecDepth 100000 in
theorem onum_any (x : Ex) (s : Value) (w : World) (hB : x.bulk ≤ 2000000) (hs : RdE w x.sub s) (hk8 : x.k < 256) (hL : LookS w) :
  Calls Tryz.prog 91 #[x.val s] w fun e w' => e = .returned (.bool (x.isA 1)) ∧ Below w.heap.size w w' := by
 obtain ⟨ad, cap, rfl⟩ := hs.len
 have hb0 := below_a1 w (.cells #[.int .u8 x.k, .string x.ra, .string x.nm, .int .i64 x.d, .slice ad x.sub.length cap] 25)
 have HE : Hid (∀ W, Below w.heap.size w W → RdE W x.sub (.slice ad x.sub.length cap) ∧ LookS W) := Lib.hid fun W hW => ⟨hs.frame hW, hL.frame hW⟩
 have H1 := Lib.hid (ochk_any x _ _ hB (HE.out _ hb0).1 hk8 (HE.out _ hb0).2)
 clear hs hL
 have HA : Hid (x.isA 1 = (decide (x.err = 0) && decide (x.sort = 1))) := Lib.hid rfl
 unfold Ex.val at H1 ⊢
 generalize x.isA 1 = R at *
 generalize x.err = E at *
 go_enter Tryz.func91, Tryz.ntmps91
 go_wp2_with fail
 refine H1.out.mono ?_
 rintro e w1 ⟨rfl, hb1⟩
 have hb2 : Below w.heap.size w w1 := hb0.trans (hb1.mono (by simp))
 have c0 : w1.cell? ⟨w.heap.size, 0, none⟩ = some (.int .u8 x.k) := by rw [hb1.cell (p := ⟨w.heap.size, 0, none⟩) (by simp)]; go_simp
 have c1 : w1.cell? ⟨w.heap.size, 1, none⟩ = some (.string x.ra) := by rw [hb1.cell (p := ⟨w.heap.size, 1, none⟩) (by simp)]; go_simp
 have c2 : w1.cell? ⟨w.heap.size, 2, none⟩ = some (.string x.nm) := by rw [hb1.cell (p := ⟨w.heap.size, 2, none⟩) (by simp)]; go_simp
 have c3 : w1.cell? ⟨w.heap.size, 3, none⟩ = some (.int .i64 x.d) := by rw [hb1.cell (p := ⟨w.heap.size, 3, none⟩) (by simp)]; go_simp
 have c4 : w1.cell? ⟨w.heap.size, 4, none⟩ = some (.slice ad x.sub.length cap) := by rw [hb1.cell (p := ⟨w.heap.size, 4, none⟩) (by simp)]; go_simp
 clear hb1 H1 hb0
 have H3 := Lib.hid (sorted_any x.bulk x _ w1 (Nat.le_refl _) hB (HE.out _ hb2).1 hk8 (HE.out _ hb2).2)
 unfold Ex.val at H3
 generalize x.sort = T at *
 by_cases hE : E = 0
 ·have t0 : (E == 0) = true := by rw [hE]; rfl
  go_wp2_with fail
  refine H3.out.mono ?_
  rintro e w3 ⟨rfl, hb5⟩
  have hb6 : Below w.heap.size w w3 := hb2.trans (hb5.mono hb2.size)
  clear hb5 H3 hb2 c0 c1 c2 c3 c4
  by_cases hT : T = 1
  ·have HF : Hid (R = true) := Lib.hid (by rw [HA.out, hE, hT]; rfl)
   have t3 : ((T : Int) == 1) = true := by rw [hT]; rfl
   go_wp2
   go_ret
   exact ⟨ret_bool' HF.out.symm, hb6⟩
  ·have HF : Hid (R = false) := Lib.hid (by rw [HA.out, hE]; simpa using hT)
   have t3 : ((T : Int) == 1) = false := by simp; omega
   go_wp2
   go_ret
   exact ⟨ret_bool' HF.out.symm, hb6⟩
 ·have HF : Hid (R = false) := Lib.hid (by rw [HA.out]; simp [hE])
  have t0 : (E == 0) = false := by simpa using hE
  go_wp2
  go_ret
  exact ⟨ret_bool' HF.out.symm, hb2⟩
set_option maxHeartbeats 1000000 in
set_option maxRecDepth 100000 in
theorem otruth_any (x : Ex) (s : Value) (w : World) (hB : x.bulk ≤ 2000000) (hs : RdE w x.sub s) (hk8 : x.k < 256) (hL : LookS w) :
  Calls Tryz.prog 92 #[x.val s] w fun e w' => e = .returned (.bool (x.isA 2)) ∧ Below w.heap.size w w' := by
 obtain ⟨ad, cap, rfl⟩ := hs.len
 have hb0 := below_a1 w (.cells #[.int .u8 x.k, .string x.ra, .string x.nm, .int .i64 x.d, .slice ad x.sub.length cap] 25)
 have HE : Hid (∀ W, Below w.heap.size w W → RdE W x.sub (.slice ad x.sub.length cap) ∧ LookS W) := Lib.hid fun W hW => ⟨hs.frame hW, hL.frame hW⟩
 have H1 := Lib.hid (ochk_any x _ _ hB (HE.out _ hb0).1 hk8 (HE.out _ hb0).2)
 clear hs hL
 have HA : Hid (x.isA 2 = (decide (x.err = 0) && decide (x.sort = 2))) := Lib.hid rfl
 unfold Ex.val at H1 ⊢
 generalize x.isA 2 = R at *
 generalize x.err = E at *
 go_enter Tryz.func92, Tryz.ntmps92
 go_wp2_with fail
 refine H1.out.mono ?_
 rintro e w1 ⟨rfl, hb1⟩
 have hb2 : Below w.heap.size w w1 := hb0.trans (hb1.mono (by simp))
 have c0 : w1.cell? ⟨w.heap.size, 0, none⟩ = some (.int .u8 x.k) := by rw [hb1.cell (p := ⟨w.heap.size, 0, none⟩) (by simp)]; go_simp
 have c1 : w1.cell? ⟨w.heap.size, 1, none⟩ = some (.string x.ra) := by rw [hb1.cell (p := ⟨w.heap.size, 1, none⟩) (by simp)]; go_simp
 have c2 : w1.cell? ⟨w.heap.size, 2, none⟩ = some (.string x.nm) := by rw [hb1.cell (p := ⟨w.heap.size, 2, none⟩) (by simp)]; go_simp
 have c3 : w1.cell? ⟨w.heap.size, 3, none⟩ = some (.int .i64 x.d) := by rw [hb1.cell (p := ⟨w.heap.size, 3, none⟩) (by simp)]; go_simp
 have c4 : w1.cell? ⟨w.heap.size, 4, none⟩ = some (.slice ad x.sub.length cap) := by rw [hb1.cell (p := ⟨w.heap.size, 4, none⟩) (by simp)]; go_simp
 clear hb1 H1 hb0
 have H3 := Lib.hid (sorted_any x.bulk x _ w1 (Nat.le_refl _) hB (HE.out _ hb2).1 hk8 (HE.out _ hb2).2)
 unfold Ex.val at H3
 generalize x.sort = T at *
 by_cases hE : E = 0
 ·have t0 : (E == 0) = true := by rw [hE]; rfl
  go_wp2_with fail
  refine H3.out.mono ?_
  rintro e w3 ⟨rfl, hb5⟩
  have hb6 : Below w.heap.size w w3 := hb2.trans (hb5.mono hb2.size)
  clear hb5 H3 hb2 c0 c1 c2 c3 c4
  by_cases hT : T = 2
  ·have HF : Hid (R = true) := Lib.hid (by rw [HA.out, hE, hT]; rfl)
   have t3 : ((T : Int) == 2) = true := by rw [hT]; rfl
   go_wp2
   go_ret
   exact ⟨ret_bool' HF.out.symm, hb6⟩
  ·have HF : Hid (R = false) := Lib.hid (by rw [HA.out, hE]; simpa using hT)
   have t3 : ((T : Int) == 2) = false := by simp; omega
   go_wp2
   go_ret
   exact ⟨ret_bool' HF.out.symm, hb6⟩
 ·have HF : Hid (R = false) := Lib.hid (by rw [HA.out]; simp [hE])
  have t0 : (E == 0) = false := by simpa using hE
  go_wp2
  go_ret
  exact ⟨ret_bool' HF.out.symm, hb2⟩
end Go.Proofs.YtkonookacfmfgaaGreatDoor
