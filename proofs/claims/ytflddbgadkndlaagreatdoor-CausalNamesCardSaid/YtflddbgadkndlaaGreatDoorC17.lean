/-
  contract.Size: a sum over the nodes.
-/
import Derived.Test.YtflddbgadkndlaaGreatDoorC15
import Derived.Test.YtflddbgadkndlaaGreatDoorC16
namespace Go.Proofs.YtflddbgadkndlaaGreatDoor
open Go.RowKit Go.Shelf

attribute [local go_sem] Oper.semAt_some

/-- What a node counts. -/
def Con.nsz (c : Con) : Nat := 1 + (if c.ex.bare = true then 0 else c.ex.size)
def nszs (l : List Con) : Nat := (l.map Con.nsz).sum
theorem nszs_append (l m : List Con) : nszs (l ++ m) = nszs l + nszs m := by simp [nszs]
mutual
theorem Con.size_nodes : ∀ c : Con, c.size = nszs c.nodes
  | .mk k f t n x d dd l => by
    rw [Con.size, Con.nodes]
    have h := Con.sizes_nodes l
    simp only [nszs, List.map_cons, List.sum_cons] at h ⊢
    rw [h]; rfl
theorem Con.sizes_nodes : ∀ l : List Con, Con.sizes l = nszs (Con.nodess l)
  | [] => by simp [Con.sizes, Con.nodess, nszs]
  | x :: l => by rw [Con.sizes, Con.nodess, nszs_append, Con.size_nodes x, Con.sizes_nodes l]
end
mutual
theorem Con.nodes_len : ∀ c : Con, c.nodes.length ≤ c.bulk
  | .mk k f t n x d dd l => by rw [Con.nodes, Con.bulk, List.length_cons]; have := Con.nodess_len l; omega
theorem Con.nodess_len : ∀ l : List Con, (Con.nodess l).length ≤ Con.bulks l
  | [] => by simp [Con.nodess]
  | x :: l => by rw [Con.nodess, Con.bulks, List.length_append]; have := Con.nodes_len x; have := Con.nodess_len l; omega
end
theorem nszs_le {w0 : World} (l : List (NdW w0)) : nszs (l.map NdW.con) ≤ l.length * 2000001 := by
  induction l with
  | nil => simp [nszs]
  | cons x l ih =>
    have h1 : x.con.nsz ≤ 2000001 := by
      have h2 := x.2.2
      have h3 := x.con.ex.size_le
      have h4 := x.con.bulk_eq
      have h5 : x.con.bulk ≤ 2000000 := h2
      unfold Con.nsz
      split <;> omega
    simp only [nszs, List.map_cons, List.sum_cons, List.length_cons, Nat.add_mul] at ih ⊢
    omega

theorem Kept.putObj {base D : Nat} (W : World) (l : Nat) (o o' : Obj) (hl : base ≤ l) (h : W.heap[l]? = some o) (hc : o.isCells = false) : Kept base D W (W.putObj l o') := by
  refine ⟨(Below.refl base W).grown (grownBy_putObj' W l o') (by have := (Array.getElem?_eq_some_iff.1 h).1; omega) (fun k e => by cases e; omega), fun b ob _ hb hq => ?_⟩
  rw [World.putObj_heap_other (by rintro rfl; rw [h] at hb; cases hb; rw [hc] at hq; cases hq)]
  exact hb
theorem KeepsOthers.of_below {W W' : World} (h : Below W.heap.size W W') : KeepsOthers W W' := ⟨h.size, fun k o hk _ => by rw [h.block k (Array.getElem?_eq_some_iff.1 hk).1]; exact hk⟩
theorem cbox_own {β : Type} (B : Nat) (x : Con) (es dd ss : Value) : Own (fun (_ : β) W => CBox W B x es dd ss) := fun _ _ _ _ hs hg hr => hs.kept fun _ _ hc => cell_kept hc hg hr

set_option maxHeartbeats 4000000 in
set_option maxRecDepth 100000 in
theorem csize_any (c : Con) (es dd ss : Value) (w : World) (hB : c.bulk ≤ 2000000) (hr : RdN w c es dd ss) :
    Calls Tryz.prog 93 #[c.val es dd ss] w fun e w' => e = .returned (.int .i64 (c.size : Int)) ∧ Below w.heap.size w w' := by
  obtain ⟨ad, cap, rfl⟩ := hr.2.2.1.len
  obtain ⟨ad1, cap1, rfl⟩ := hr.1.len
  obtain ⟨ad2, cap2, rfl⟩ := hr.2.1.len
  have HNo := Lib.hid (fun W => cnodes_any c (.slice ad1 c.ex.sub.length cap1) (.slice ad2 c.ds.length cap2) (.slice ad c.sub.length cap) W)
  refine (callsIn_wide (n := 10)).1 ?_
  unfold Con.val at HNo ⊢
  refine callsIn_of_wp_marks Tryz.func93 rfl trivial ?_ rfl
  simp only [Tryz.ntmps93, List.size_toArray, List.length_cons, List.length_nil, Nat.reduceAdd, Nat.reduceSub, Array.replicate_succ, Array.replicate_zero, List.push_toArray, List.append_toArray, List.nil_append, List.cons_append]
  gi_wp2_with (refine ⟨trivial, ?_⟩; gi_at_call 95; refine (callsIn_wide.2 (HNo.out _)).mono ?_; rintro e w1 ⟨rfl, rfl⟩)
  have hbW := below_a3 w (.cells #[.int .u8 c.k, .string c.fr, .string c.rc, .string c.nm, .int .u8 c.ex.k, .string c.ex.ra, .string c.ex.nm, .int .i64 c.ex.d, .slice ad1 c.ex.sub.length cap1, .int .i64 c.d, .slice ad2 c.ds.length cap2, .slice ad c.sub.length cap] 29) (.cells #[.int .i64 0] 3) (.cells #[.int .u8 c.k, .string c.fr, .string c.rc, .string c.nm, .int .u8 c.ex.k, .string c.ex.ra, .string c.ex.nm, .int .i64 c.ex.d, .slice ad1 c.ex.sub.length cap1, .int .i64 c.d, .slice ad2 c.ds.length cap2, .slice ad c.sub.length cap] 29)
  have bN := (Boxed.new (w.alloc (.cells #[.int .u8 c.k, .string c.fr, .string c.rc, .string c.nm, .int .u8 c.ex.k, .string c.ex.ra, .string c.ex.nm, .int .i64 c.ex.d, .slice ad1 c.ex.sub.length cap1, .int .i64 c.d, .slice ad2 c.ds.length cap2, .slice ad c.sub.length cap] 29)) 3 (.int .i64 0)).alloc (.cells #[.int .u8 c.k, .string c.fr, .string c.rc, .string c.nm, .int .u8 c.ex.k, .string c.ex.ra, .string c.ex.nm, .int .i64 c.ex.d, .slice ad1 c.ex.sub.length cap1, .int .i64 c.d, .slice ad2 c.ds.length cap2, .slice ad c.sub.length cap] 29)
  have bC := CBox.new ((w.alloc (.cells #[.int .u8 c.k, .string c.fr, .string c.rc, .string c.nm, .int .u8 c.ex.k, .string c.ex.ra, .string c.ex.nm, .int .i64 c.ex.d, .slice ad1 c.ex.sub.length cap1, .int .i64 c.d, .slice ad2 c.ds.length cap2, .slice ad c.sub.length cap] 29)).alloc (.cells #[.int .i64 0] 3)) c (.slice ad1 c.ex.sub.length cap1) (.slice ad2 c.ds.length cap2) (.slice ad c.sub.length cap) 29
  simp only [World.size_alloc] at bN bC
  have hsz : (((w.alloc (.cells #[.int .u8 c.k, .string c.fr, .string c.rc, .string c.nm, .int .u8 c.ex.k, .string c.ex.ra, .string c.ex.nm, .int .i64 c.ex.d, .slice ad1 c.ex.sub.length cap1, .int .i64 c.d, .slice ad2 c.ds.length cap2, .slice ad c.sub.length cap] 29)).alloc (.cells #[.int .i64 0] 3)).alloc (.cells #[.int .u8 c.k, .string c.fr, .string c.rc, .string c.nm, .int .u8 c.ex.k, .string c.ex.ra, .string c.ex.nm, .int .i64 c.ex.d, .slice ad1 c.ex.sub.length cap1, .int .i64 c.d, .slice ad2 c.ds.length cap2, .slice ad c.sub.length cap] 29)).heap.size = w.heap.size + 3 := by simp
  obtain ⟨W0, hW0⟩ : ∃ W0, ((w.alloc (.cells #[.int .u8 c.k, .string c.fr, .string c.rc, .string c.nm, .int .u8 c.ex.k, .string c.ex.ra, .string c.ex.nm, .int .i64 c.ex.d, .slice ad1 c.ex.sub.length cap1, .int .i64 c.d, .slice ad2 c.ds.length cap2, .slice ad c.sub.length cap] 29)).alloc (.cells #[.int .i64 0] 3)).alloc (.cells #[.int .u8 c.k, .string c.fr, .string c.rc, .string c.nm, .int .u8 c.ex.k, .string c.ex.ra, .string c.ex.nm, .int .i64 c.ex.d, .slice ad1 c.ex.sub.length cap1, .int .i64 c.d, .slice ad2 c.ds.length cap2, .slice ad c.sub.length cap] 29) = W0 := ⟨_, rfl⟩
  rw [hW0] at hbW bN bC hsz ⊢
  have hnl := c.nodes_len
  have HSz := Lib.hid c.size_nodes
  clear hW0 HNo
  refine wpIn_rangeFunc_ownH rfl (by decide) (gf := 121) (lb := #[.pointer (some ⟨w.heap.size + 1 + 1, 0, none⟩)]) rfl trivial (enters_of Tryz.func121 (by kernel_rfl) rfl)
    (cnodes_stops w Fence.wide rfl trivial trivial rfl 9 c _ _ _ W0 hB hr hbW _ bC) (fun h k => h.trans k) (fun W l o o' hl h hc _ => Kept.putObj W l o o' (by omega) h hc) (Below.refl _ _) (fun _ => rfl)
    (fun pre W => Boxed W (w.heap.size + 1) 3 (.int .i64 ((nszs (pre.map NdW.con) : Nat) : Int)) ∧ (Below w.heap.size w W ∧ W0.heap.size ≤ W.heap.size))
    (fun _ _ _ => False)
    (OwnFrom.and (Own.from (boxed_own _ _ _) _) (OwnFrom.and (ownFrom_below (Nat.le_refl _) (by omega)) (fun _ _ _ _ hs hg _ => Nat.le_trans hs hg.size)))
    (fun _ _ _ _ _ hs _ _ => hs)
    ⟨bN, hbW, Nat.le_refl _⟩
    (fun x a' W => ∃ Bx, W0.heap.size ≤ Bx ∧ CBox W Bx x.1.1 x.1.2.1 x.1.2.2.1 x.1.2.2.2 ∧ a' = { tmps := #[.agg #[.int .u8 c.k, .string c.fr, .string c.rc, .string c.nm, .int .u8 c.ex.k, .string c.ex.ra, .string c.ex.nm, .int .i64 c.ex.d, .slice ad1 c.ex.sub.length cap1, .int .i64 c.d, .slice ad2 c.ds.length cap2, .slice ad c.sub.length cap], .pointer (some ⟨w.heap.size, 0, none⟩), .int .i64 0, .pointer (some ⟨w.heap.size + 1, 0, none⟩), .pointer (some ⟨Bx, 0, none⟩), .agg #[.int .u8 c.k, .string c.fr, .string c.rc, .string c.nm, .int .u8 c.ex.k, .string c.ex.ra, .string c.ex.nm, .int .i64 c.ex.d, .slice ad1 c.ex.sub.length cap1, .int .i64 c.d, .slice ad2 c.ds.length cap2, .slice ad c.sub.length cap], .func (.func 121) #[] #[.pointer (some ⟨w.heap.size + 1 + 1, 0, none⟩)], x.1.1.val x.1.2.1 x.1.2.2.1 x.1.2.2.2, undef, undef, undef, undef, undef, undef, undef, undef, undef, undef, undef, undef], defers := [] })
    (fun x a' s A B row hs hg hr => by
      obtain ⟨Bx, h1, h2, h3⟩ := hs
      exact ⟨Bx, h1, cbox_own (β := Unit) Bx _ _ _ _ () A B row h2 hg (fun r e => (hr r e).2), h3⟩)
    ?assign ?body ?done ?stop
  case assign =>
    rintro l pre ⟨⟨y, es', dd', ss'⟩, hy, hyB⟩ W K ⟨hi, hbi, hZ0⟩ hK
    have hy2 : RdN w y es' dd' ss' := hy
    obtain ⟨adp, capp, rfl⟩ := hy2.2.2.1.len
    obtain ⟨ad1p, cap1p, rfl⟩ := hy2.1.len
    obtain ⟨ad2p, cap2p, rfl⟩ := hy2.2.1.len
    have hz := hbi.size
    have hl := hi.lt
    have hk := hK _ _ ((KeepsOthers.alloc W (.cells #[.int .u8 y.k, .string y.fr, .string y.rc, .string y.nm, .int .u8 y.ex.k, .string y.ex.ra, .string y.ex.nm, .int .i64 y.ex.d, .slice ad1p y.ex.sub.length cap1p, .int .i64 y.d, .slice ad2p y.ds.length cap2p, .slice adp y.sub.length capp] 29)).from _) (Kept.alloc W hz _) ⟨hi.alloc _, hbi.alloc hz _, Nat.le_trans hZ0 (by simp)⟩ ⟨W.heap.size, hZ0, CBox.new W y _ _ _ _, rfl⟩
    unfold NdW.enc Con.val
    unfold Con.val at hk
    clear hK
    gi_wp2
    exact hk
  case body =>
    rintro l pre ⟨⟨y, es', dd', ss'⟩, hy, hyB⟩ a' W hl ⟨r, hlr⟩ ⟨hi, hbi, hZ0⟩ ⟨Bx, hBx, hbox, rfl⟩ hlt
    have hy2 : RdN w y es' dd' ss' := hy
    obtain ⟨adp, capp, rfl⟩ := hy2.2.2.1.len
    obtain ⟨ad1p, cap1p, rfl⟩ := hy2.1.len
    obtain ⟨ad2p, cap2p, rfl⟩ := hy2.2.1.len
    have hsum := nszs_le pre
    obtain ⟨S, hS⟩ : ∃ S, nszs (pre.map NdW.con) = S := ⟨_, rfl⟩
    rw [hS] at hi hsum
    have hyb : y.bulk ≤ 2000000 := hyB
    have hye := y.bulk_eq
    have hyx : y.ex.bulk ≤ 2000000 := by omega
    have hys := y.ex.size_le
    have hS0 : S ≤ 4000002000000 := by omega
    have HSN : Hid (nszs ((pre ++ [(⟨(y, .slice ad1p y.ex.sub.length cap1p, .slice ad2p y.ds.length cap2p, .slice adp y.sub.length capp), hy, hyB⟩ : NdW w)]).map NdW.con) = S + (1 + (if y.ex.bare = true then 0 else y.ex.size))) := Lib.hid (by
      rw [List.map_append, nszs_append, hS]; simp [nszs, NdW.con, Con.nsz])
    have e1 : IntKind.i64.wrap ((S : Int) + 1) = (S : Int) + 1 := IntWalk.i64_in _ (by omega)
    have hbi1 : Below w.heap.size w (W.setCell ⟨w.heap.size + 1, 0, none⟩ (.int .i64 ((S : Int) + 1))) := hbi.setCell (p := ⟨w.heap.size + 1, 0, none⟩) (by simp) _
    have hi1 := hi.set (.int .i64 ((S : Int) + 1))
    have hbx1 := hbox.far (a := ⟨w.heap.size + 1, 0, none⟩) (show Bx ≠ w.heap.size + 1 by omega) (.int .i64 ((S : Int) + 1))
    have HK1 : Hid (KeepsOthers W (W.setCell ⟨w.heap.size + 1, 0, none⟩ (.int .i64 ((S : Int) + 1))) ∧ Kept w.heap.size W0.heap.size W (W.setCell ⟨w.heap.size + 1, 0, none⟩ (.int .i64 ((S : Int) + 1)))) :=
      Lib.hid ⟨KeepsOthers.setCell _ _ _, Kept.setCell W (by omega) (by omega) _⟩
    have HBr := Lib.hid (fun W' (hb : Below w.heap.size w W') => bare_any y.ex _ W' (hy2.1.frame hb))
    have HSz2 := Lib.hid (fun W' (hb : Below w.heap.size w W') => osize_any y.ex.bulk y.ex _ W' (Nat.le_refl _) hyx (hy2.1.frame hb))
    unfold Ex.val at HBr HSz2
    have hc := hi.cell
    have hf := hi.frozen
    unfold Con.val
    obtain ⟨c0, c1, c2, c3, c4, c5, c6, c7, c8, c9, c10, c11⟩ := hbox
    clear hS hsum hye hys hyb hyx hlr
    have laid : ∀ w2, Below (W.setCell ⟨w.heap.size + 1, 0, none⟩ (.int .i64 ((S : Int) + 1))).heap.size (W.setCell ⟨w.heap.size + 1, 0, none⟩ (.int .i64 ((S : Int) + 1))) w2 →
        CBox w2 Bx y (.slice ad1p y.ex.sub.length cap1p) (.slice ad2p y.ds.length cap2p) (.slice adp y.sub.length capp) ∧ Boxed w2 (w.heap.size + 1) 3 (.int .i64 ((S : Int) + 1)) ∧ Below w.heap.size w w2 ∧ W0.heap.size ≤ w2.heap.size ∧ KeepsOthers W w2 ∧ Kept w.heap.size W0.heap.size W w2 := fun w2 hb2 => by
      have hz2 := hb2.size
      refine ⟨hbx1.low hb2, (hb2.block _ hi1.lt).trans hi1, hbi1.trans (hb2.mono (by simp; omega)), by simp at hz2; omega, HK1.out.1.trans (KeepsOthers.of_below hb2), HK1.out.2.trans (Kept.of_below (by simp; omega) hb2)⟩
    have HL := Lib.hid laid
    clear laid hi hbi hi1 hbx1 HK1 bC bN HSz hnl
    cases hq : y.ex.bare with
    | true =>
      rw [hq] at HSN HBr
      simp only [if_true, Nat.add_zero] at HSN
      clear hq
      gi_wp2_with (refine ⟨trivial, ?_⟩; gi_at_call 118; refine (CallsIn.inRound l (callsIn_wide.2 (HBr.out _ hbi1))).mono ?_; rintro e w2 ⟨rfl, hb2⟩)
      obtain ⟨k0, k1, k2, k3, k4, k5⟩ := HL.out w2 hb2
      exact ⟨k4.from _, k5, by rw [HSN.out]; exact k1, k2, k3⟩
    | false =>
      rw [hq] at HSN HBr
      simp only [Bool.false_eq_true, if_false] at HSN
      have hys := y.ex.size_le
      have hyx : y.ex.bulk ≤ 2000000 := by
        have h1 := y.bulk_eq
        have h2 : y.bulk ≤ 2000000 := hyB
        omega
      have e2 : IntKind.i64.wrap ((S : Int) + 1 + (y.ex.size : Int)) = (S : Int) + 1 + (y.ex.size : Int) := IntWalk.i64_in _ (by omega)
      clear hq hys hyx
      gi_wp2_with (refine ⟨trivial, ?_⟩; gi_at_call 118; refine (CallsIn.inRound l (callsIn_wide.2 (HBr.out _ hbi1))).mono ?_; rintro e w2 ⟨rfl, hb2⟩)
      obtain ⟨k0, k1, k2, k3, k4, k5⟩ := HL.out w2 hb2
      clear c0 c1 c2 c3 c4 c5 c6 c7 c8 c9 c10 c11 hbi1 hc hf HBr e1 HL hb2
      have hc2 := k1.cell
      have hf2 := k1.frozen
      have hBx2 := k0.lt
      obtain ⟨c0, c1, c2, c3, c4, c5, c6, c7, c8, c9, c10, c11⟩ := k0
      have HL3 : Hid (∀ w3, Below w2.drew.heap.size w2.drew w3 → Boxed w3 (w.heap.size + 1) 3 (.int .i64 ((S : Int) + 1)) ∧ KeepsFrom W0.heap.size W (w3.setCell ⟨w.heap.size + 1, 0, none⟩ (.int .i64 ((S : Int) + 1 + (y.ex.size : Int)))) ∧ Kept w.heap.size W0.heap.size W (w3.setCell ⟨w.heap.size + 1, 0, none⟩ (.int .i64 ((S : Int) + 1 + (y.ex.size : Int)))) ∧
          Boxed (w3.setCell ⟨w.heap.size + 1, 0, none⟩ (.int .i64 ((S : Int) + 1 + (y.ex.size : Int)))) (w.heap.size + 1) 3 (.int .i64 ((S : Int) + 1 + (y.ex.size : Int))) ∧ Below w.heap.size w (w3.setCell ⟨w.heap.size + 1, 0, none⟩ (.int .i64 ((S : Int) + 1 + (y.ex.size : Int)))) ∧ W0.heap.size ≤ w3.heap.size) := Lib.hid fun w3 hb3' => by
        have hb3 : Below w2.heap.size w2 w3 := ((Below.refl _ w2).drew).trans hb3'
        have h1 : Boxed w3 (w.heap.size + 1) 3 (.int .i64 ((S : Int) + 1)) := (hb3.block _ k1.lt).trans k1
        have hz3 := hb3.size
        exact ⟨h1, ((k4.trans (KeepsOthers.of_below hb3)).trans (KeepsOthers.setCell _ _ _)).from _, (k5.trans (Kept.of_below (by omega) hb3)).trans (Kept.setCell w3 (by omega) (by omega) _), h1.set _, (k2.trans (hb3.mono (by omega))).setCell (p := ⟨w.heap.size + 1, 0, none⟩) (by simp) _, by omega⟩
      have hmx : Tryz.prog.follows .mixedOrders = true := by kernel_rfl
      have k2d : Below w.heap.size w w2.drew := k2.drew
      clear k4 k5 k3 k1
      gi_region_with_o (refine ⟨trivial, ?_⟩; gi_at_call 119; refine (CallsIn.inRound l (callsIn_wide.2 (HSz2.out _ k2d))).mono ?_; rintro e w3 ⟨rfl, hb3⟩; obtain ⟨j1, j2, j3, j4, j5, j6⟩ := HL3.out w3 hb3; have hc3 := j1.cell; have hf3 := j1.frozen)
      all_goals gi_wp2
      all_goals (try go_bits)
      all_goals exact ⟨j2, j3, by rw [HSN.out, show ((S + (1 + y.ex.size) : Nat) : Int) = (S : Int) + 1 + (y.ex.size : Int) by omega]; exact j4, j5, Nat.le_trans j6 (by simp)⟩
  case done =>
    rintro D xs W hD hS ⟨hi, hbi, hZ0⟩ hK
    rw [hS, ← HSz.out] at hi
    have hc := hi.cell
    have hb3 := hbi.trans (belowK_b (w := w) (Nat.le_refl _) W D (.deferred (some [])) (.deferred none) (by omega) hK rfl rfl)
    gi_wp2
    refine ⟨by simp, .inl ⟨_, _, rfl, run_takeDeferred hK, ?_⟩⟩
    exact ⟨_, results_tmp rfl _ _ _, rfl, hb3⟩
  case stop =>
    rintro D c pre W _ _ h _
    exact h.elim
end Go.Proofs.YtflddbgadkndlaaGreatDoor
