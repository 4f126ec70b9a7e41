/-
  novationref08.Check, Number, Truth. contract.Depth; novationref09.Size, Depth.
-/
import Derived.Test.YtkonookacfmfgaaGreatDoorC30
import Derived.Test.YtkonookacfmfgaaGreatDoorC31
import Derived.Test.YtkonookacfmfgaaGreatDoorC17
import Derived.Test.YtkonookacfmfgaaGreatDoorC07
namespace Go.Proofs.YtkonookacfmfgaaGreatDoor
open Go.RowKit
theorem cell_newA (w : World) (vs : List Value) (t : TypeId) {i : Nat} {u : Value} (h : vs[i]? = some u) : (w.alloc (.cells vs.toArray t)).cell? ⟨w.heap.size, i, none⟩ = some u := by
 have e : (w.alloc (.cells vs.toArray t)).heap[w.heap.size]? = some (.cells vs.toArray t (0, 0)) := by
  show (w.heap.push _)[w.heap.size]? = _
  simp
 unfold World.cell?
 simp only [e, Option.isSome_none, Bool.false_eq_true, if_false]
 simpa using h
theorem err_big {x : Ex} (h : 500 < x.size ∨ 60 < x.depth) : x.err = 4 := if_pos h
theorem err_bad {x : Ex} (h : ¬ (500 < x.size ∨ 60 < x.depth)) (h0 : x.sort = 0) : x.err = 8 := by unfold Ex.err; rw [if_neg h, if_pos h0]
theorem err_ok {x : Ex} (h : ¬ (500 < x.size ∨ 60 < x.depth)) (h0 : x.sort ≠ 0) : x.err = 0 := by unfold Ex.err; rw [if_neg h, if_neg h0]
set_option maxHeartbeats 1000000 in
set_option maxRecDepth 100000 in
theorem rxcheck_any (x : Ex) (s : Value) (w : World) (hB : x.bulk ≤ 1100000) (hk8 : x.k < 256) (hs : RdE w x.sub s) :
  Calls Tryz.prog 139 #[x.val s] w fun e w' => e = .returned (.int .i64 x.err) ∧ Below w.heap.size w w' := by
 obtain ⟨ad, cap, rfl⟩ := hs.len
 have HS := Lib.hid hs
 have H1 := Lib.hid fun (V : World) (h : RdE V x.sub (.slice ad x.sub.length cap)) => rsize_any x.bulk x _ V (Nat.le_refl _) (by omega) h
 have H2 := Lib.hid fun (V : World) (h : RdE V x.sub (.slice ad x.sub.length cap)) => rdepth_any x.bulk x _ V (Nat.le_refl _) (by omega) h
 have H3 := Lib.hid fun (V : World) (h : RdE V x.sub (.slice ad x.sub.length cap)) => rsort_any x.bulk x _ V (Nat.le_refl _) hB hk8 h
 have hb0 := below_a1 w (.cells #[.int .u8 x.k, .string x.ra, .string x.nm, .int .i64 x.d, .slice ad x.sub.length cap] 25)
 have hc : ∀ (i : Nat) (u : Value), [Value.int .u8 x.k, .string x.ra, .string x.nm, .int .i64 x.d, .slice ad x.sub.length cap][i]? = some u → (w.alloc (.cells #[.int .u8 x.k, .string x.ra, .string x.nm, .int .i64 x.d, .slice ad x.sub.length cap] 25)).cell? ⟨w.heap.size, i, none⟩ = some u := fun i u h => cell_newA w _ _ h
 have HC := Lib.hid hc
 unfold Ex.val at H1 H2 H3 ⊢
 clear hs hc
 go_enter Tryz.func139, Tryz.ntmps139
 go_wp2_with fail
 refine (H1.out _ (HS.out.frame hb0)).mono ?_
 rintro e w1 ⟨rfl, hb1⟩
 have hw1 := hb0.trans (hb1.mono hb0.size)
 have cl : ∀ V, Below (w.alloc (.cells #[.int .u8 x.k, .string x.ra, .string x.nm, .int .i64 x.d, .slice ad x.sub.length cap] 25)).heap.size (w.alloc (.cells #[.int .u8 x.k, .string x.ra, .string x.nm, .int .i64 x.d, .slice ad x.sub.length cap] 25)) V → ∀ (i : Nat) (u : Value), [Value.int .u8 x.k, .string x.ra, .string x.nm, .int .i64 x.d, .slice ad x.sub.length cap][i]? = some u → V.cell? ⟨w.heap.size, i, none⟩ = some u := fun V hV i u h => by
  rw [hV.cell (p := ⟨w.heap.size, i, none⟩) (World.block_lt_of_cell? _ _ (HC.out i u h))]; exact HC.out i u h
 have HL := Lib.hid cl
 clear cl
 by_cases h1 : 500 < x.size
 ·have g1 : decide ((500 : Int) < (x.size : Int)) = true := by rw [decide_eq_true_eq]; omega
  have HE := Lib.hid (err_big (x := x) (.inl h1))
  clear h1
  go_wp2
  go_ret
  exact ⟨by rw [HE.out]; rfl, hw1⟩
 ·have g1 : decide ((500 : Int) < (x.size : Int)) = false := by rw [decide_eq_false_iff_not]; omega
  have c0 := HL.out _ hb1 0 _ rfl
  have c1 := HL.out _ hb1 1 _ rfl
  have c2 := HL.out _ hb1 2 _ rfl
  have c3 := HL.out _ hb1 3 _ rfl
  have c4 := HL.out _ hb1 4 _ rfl
  go_wp2_with fail
  refine (H2.out _ (HS.out.frame hw1)).mono ?_
  rintro e w2 ⟨rfl, hb2⟩
  have hw2 := hw1.trans (hb2.mono hw1.size)
  have hb2' := hb1.trans (hb2.mono hb1.size)
  clear c0 c1 c2 c3 c4
  by_cases h2 : 60 < x.depth
  ·have g2 : decide ((60 : Int) < (x.depth : Int)) = true := by rw [decide_eq_true_eq]; omega
   have HE := Lib.hid (err_big (x := x) (.inr h2))
   clear h2
   go_wp2
   go_ret
   exact ⟨by rw [HE.out]; rfl, hw2⟩
  ·have g2 : decide ((60 : Int) < (x.depth : Int)) = false := by rw [decide_eq_false_iff_not]; omega
   have hn : ¬ (500 < x.size ∨ 60 < x.depth) := by omega
   have HNn := Lib.hid hn
   have c0 := HL.out _ hb2' 0 _ rfl
   have c1 := HL.out _ hb2' 1 _ rfl
   have c2 := HL.out _ hb2' 2 _ rfl
   have c3 := HL.out _ hb2' 3 _ rfl
   have c4 := HL.out _ hb2' 4 _ rfl
   clear h1 h2 hn
   go_wp2_with fail
   refine (H3.out _ (HS.out.frame hw2)).mono ?_
   rintro e w3 ⟨rfl, hb3⟩
   have hw3 := hw2.trans (hb3.mono hw2.size)
   clear c0 c1 c2 c3 c4
   by_cases h3 : x.sort = 0
   ·have HE := Lib.hid (err_bad HNn.out h3)
    have g3 : (((x.sort : Nat) : Int) == 0) = true := by rw [h3]; rfl
    clear h3
    go_wp2
    go_ret
    exact ⟨by rw [HE.out]; rfl, hw3⟩
   ·have HE := Lib.hid (err_ok HNn.out h3)
    have g3 : (((x.sort : Nat) : Int) == 0) = false := by rw [beq_eq_false_iff_ne]; omega
    clear h3
    go_wp2
    go_ret
    exact ⟨by rw [HE.out]; rfl, hw3⟩
set_option maxHeartbeats 1000000 in
set_option maxRecDepth 100000 in
theorem rnumber_any (x : Ex) (s : Value) (w : World) (hB : x.bulk ≤ 1100000) (hk8 : x.k < 256) (hs : RdE w x.sub s) :
  Calls Tryz.prog 111 #[x.val s] w fun e w' => e = .returned (.bool (x.isA 1)) ∧ Below w.heap.size w w' := by
 obtain ⟨ad, cap, rfl⟩ := hs.len
 have HS := Lib.hid hs
 have H1 := Lib.hid fun (V : World) (h : RdE V x.sub (.slice ad x.sub.length cap)) => rxcheck_any x _ V hB hk8 h
 have H3 := Lib.hid fun (V : World) (h : RdE V x.sub (.slice ad x.sub.length cap)) => rsort_any x.bulk x _ V (Nat.le_refl _) hB hk8 h
 have hb0 := below_a1 w (.cells #[.int .u8 x.k, .string x.ra, .string x.nm, .int .i64 x.d, .slice ad x.sub.length cap] 25)
 have hc : ∀ (i : Nat) (u : Value), [Value.int .u8 x.k, .string x.ra, .string x.nm, .int .i64 x.d, .slice ad x.sub.length cap][i]? = some u → (w.alloc (.cells #[.int .u8 x.k, .string x.ra, .string x.nm, .int .i64 x.d, .slice ad x.sub.length cap] 25)).cell? ⟨w.heap.size, i, none⟩ = some u := fun i u h => cell_newA w _ _ h
 have HC := Lib.hid hc
 have HA : Hid (x.isA 1 = (decide (x.err = 0) && decide (x.sort = 1))) := Lib.hid rfl
 unfold Ex.val at H1 H3 ⊢
 clear hs hc
 go_enter Tryz.func111, Tryz.ntmps111
 go_wp2_with fail
 refine (H1.out _ (HS.out.frame hb0)).mono ?_
 rintro e w1 ⟨rfl, hb1⟩
 have hw1 := hb0.trans (hb1.mono hb0.size)
 by_cases h1 : x.err = 0
 ·have g1 : (x.err == 0) = true := by rw [h1]; rfl
  have HQ : Hid (x.isA 1 = decide (x.sort = 1)) := Lib.hid (by rw [HA.out, decide_eq_true h1]; rfl)
  have cl : ∀ (i : Nat) (u : Value), [Value.int .u8 x.k, .string x.ra, .string x.nm, .int .i64 x.d, .slice ad x.sub.length cap][i]? = some u → w1.cell? ⟨w.heap.size, i, none⟩ = some u := fun i u h => by
   rw [hb1.cell (p := ⟨w.heap.size, i, none⟩) (World.block_lt_of_cell? _ _ (HC.out i u h))]; exact HC.out i u h
  have c0 := cl 0 _ rfl
  have c1 := cl 1 _ rfl
  have c2 := cl 2 _ rfl
  have c3 := cl 3 _ rfl
  have c4 := cl 4 _ rfl
  clear h1 cl
  go_wp2_with fail
  refine (H3.out _ (HS.out.frame hw1)).mono ?_
  rintro e w2 ⟨rfl, hb2⟩
  have hw2 := hw1.trans (hb2.mono hw1.size)
  clear c0 c1 c2 c3 c4
  go_wp2
  go_ret
  exact ⟨ret_bool' (by rw [HQ.out, Bool.eq_iff_iff]; simp; omega), hw2⟩
 ·have g1 : (x.err == 0) = false := by rw [beq_eq_false_iff_ne]; exact h1
  have HQ : Hid (x.isA 1 = false) := Lib.hid (by rw [HA.out, decide_eq_false h1]; rfl)
  clear h1
  go_wp2
  go_ret
  exact ⟨ret_bool' (by rw [HQ.out]), hw1⟩
set_option maxHeartbeats 1000000 in
set_option maxRecDepth 100000 in
theorem rtruth_any (x : Ex) (s : Value) (w : World) (hB : x.bulk ≤ 1100000) (hk8 : x.k < 256) (hs : RdE w x.sub s) :
  Calls Tryz.prog 112 #[x.val s] w fun e w' => e = .returned (.bool (x.isA 2)) ∧ Below w.heap.size w w' := by
 obtain ⟨ad, cap, rfl⟩ := hs.len
 have HS := Lib.hid hs
 have H1 := Lib.hid fun (V : World) (h : RdE V x.sub (.slice ad x.sub.length cap)) => rxcheck_any x _ V hB hk8 h
 have H3 := Lib.hid fun (V : World) (h : RdE V x.sub (.slice ad x.sub.length cap)) => rsort_any x.bulk x _ V (Nat.le_refl _) hB hk8 h
 have hb0 := below_a1 w (.cells #[.int .u8 x.k, .string x.ra, .string x.nm, .int .i64 x.d, .slice ad x.sub.length cap] 25)
 have hc : ∀ (i : Nat) (u : Value), [Value.int .u8 x.k, .string x.ra, .string x.nm, .int .i64 x.d, .slice ad x.sub.length cap][i]? = some u → (w.alloc (.cells #[.int .u8 x.k, .string x.ra, .string x.nm, .int .i64 x.d, .slice ad x.sub.length cap] 25)).cell? ⟨w.heap.size, i, none⟩ = some u := fun i u h => cell_newA w _ _ h
 have HC := Lib.hid hc
 have HA : Hid (x.isA 2 = (decide (x.err = 0) && decide (x.sort = 2))) := Lib.hid rfl
 unfold Ex.val at H1 H3 ⊢
 clear hs hc
 go_enter Tryz.func112, Tryz.ntmps112
 go_wp2_with fail
 refine (H1.out _ (HS.out.frame hb0)).mono ?_
 rintro e w1 ⟨rfl, hb1⟩
 have hw1 := hb0.trans (hb1.mono hb0.size)
 by_cases h1 : x.err = 0
 ·have g1 : (x.err == 0) = true := by rw [h1]; rfl
  have HQ : Hid (x.isA 2 = decide (x.sort = 2)) := Lib.hid (by rw [HA.out, decide_eq_true h1]; rfl)
  have cl : ∀ (i : Nat) (u : Value), [Value.int .u8 x.k, .string x.ra, .string x.nm, .int .i64 x.d, .slice ad x.sub.length cap][i]? = some u → w1.cell? ⟨w.heap.size, i, none⟩ = some u := fun i u h => by
   rw [hb1.cell (p := ⟨w.heap.size, i, none⟩) (World.block_lt_of_cell? _ _ (HC.out i u h))]; exact HC.out i u h
  have c0 := cl 0 _ rfl
  have c1 := cl 1 _ rfl
  have c2 := cl 2 _ rfl
  have c3 := cl 3 _ rfl
  have c4 := cl 4 _ rfl
  clear h1 cl
  go_wp2_with fail
  refine (H3.out _ (HS.out.frame hw1)).mono ?_
  rintro e w2 ⟨rfl, hb2⟩
  have hw2 := hw1.trans (hb2.mono hw1.size)
  clear c0 c1 c2 c3 c4
  go_wp2
  go_ret
  exact ⟨ret_bool' (by rw [HQ.out, Bool.eq_iff_iff]; simp; omega), hw2⟩
 ·have g1 : (x.err == 0) = false := by rw [beq_eq_false_iff_ne]; exact h1
  have HQ : Hid (x.isA 2 = false) := Lib.hid (by rw [HA.out, decide_eq_false h1]; rfl)
  clear h1
  go_wp2
  go_ret
  exact ⟨ret_bool' (by rw [HQ.out]), hw1⟩
end Go.Proofs.YtkonookacfmfgaaGreatDoor

namespace Go.Proofs.YtkonookacfmfgaaGreatDoor
open Go.RowKit
set_option maxHeartbeats 2000000 in
set_option maxRecDepth 100000 in
theorem cdepth_any : ∀ (N : Nat) (x : Con) (es dd ss : Value) (w : World), x.bulk ≤ N → x.bulk ≤ 2000000 → RdN w x es dd ss →
  Calls Tryz.prog 66 #[x.val es dd ss] w fun e w' => e = .returned (.int .i64 (x.depth : Int)) ∧ Below w.heap.size w w' := by
 intro N
 induction N with
 | zero =>
  intro x es dd ss w h0
  rw [Con.bulk_eq] at h0
  omega
 | succ N ih =>
  intro x es dd ss w hN hB hr
  obtain ⟨ad, cap, rfl⟩ := hr.2.2.1.len
  obtain ⟨ad1, cap1, rfl⟩ := hr.1.len
  obtain ⟨ad2, cap2, rfl⟩ := hr.2.1.len
  have HS := Lib.hid hr.2.2.1
  have HE := Lib.hid hr.1
  have HI := Lib.hid ih
  have hlen := Con.bulks_len x.sub
  have hlt0 := x.sub_lt
  have hbe := x.bulk_eq
  have hsz := x.size_le
  have hdz := x.depth_le
  have hes := x.ex.size_le
  have hed := x.ex.depth_le
  have hsq := Lib.hid x.depth_eq
  have hn : x.sub.length ≤ 2000000 := by omega
  have hxb : x.ex.bulk ≤ 2000000 := by omega
  have hb0 := below_a1 w (.cells #[.int .u8 x.k, .string x.fr, .string x.rc, .string x.nm, .int .u8 x.ex.k, .string x.ex.ra, .string x.ex.nm, .int .i64 x.ex.d, .slice ad1 x.ex.sub.length cap1, .int .i64 x.d, .slice ad2 x.ds.length cap2, .slice ad x.sub.length cap] 29)
  have HB0 := CBox.new w x (.slice ad1 x.ex.sub.length cap1) (.slice ad2 x.ds.length cap2) (.slice ad x.sub.length cap) 29
  have HBr := Lib.hid (bare_any x.ex _ _ (HE.out.frame hb0))
  clear hr ih hbe
  unfold Con.val
  unfold Ex.val at HBr
  go_enter Tryz.func66, Tryz.ntmps66
  go_wp2_with fail
  refine HBr.out.mono ?_
  rintro e w1 ⟨rfl, hb1⟩
  have hb2 : Below w.heap.size w w1 := hb0.trans (hb1.mono (by simp))
  have hz1 := hb1.size
  simp only [World.size_alloc] at hz1
  have HB1 := HB0.low hb1
  clear hb0 HB0 hb1 HBr
  obtain ⟨c0, c1, c2, c3, c4, c5, c6, c7, c8, c9, c10, c11⟩ := HB1
  obtain ⟨E0, HZ, HN, hE0, HQ⟩ : ∃ E0 : Nat, Hid (x.ex.bare = true → E0 = 0) ∧ Hid (x.ex.bare = false → x.ex.depth = E0) ∧ E0 ≤ 2000000 ∧ Hid (x.depth = max E0 (Con.depths x.sub) + 1) := ⟨if x.ex.bare = true then 0 else x.ex.depth, Lib.hid (fun h => by rw [h]; rfl), Lib.hid (fun h => by rw [h]; rfl), by split <;> omega, Lib.hid hsq.out⟩
  clear hsq
  cases hq : x.ex.bare
  case' true =>
   replace HZ : Hid (E0 = 0) := Lib.hid (HZ.out hq)
   clear HN hq c0 c1 c2 c3 c4 c5 c6 c7 c8 c9 c10
   go_wp2
  case' false =>
   replace HN : Hid (x.ex.depth = E0) := Lib.hid (HN.out hq)
   have HX := Lib.hid (cxdepth_any x.ex.bulk x.ex _ w1 (Nat.le_refl _) hxb (HE.out.frame hb2))
   rw [HN.out] at HX
   unfold Ex.val at HX
   clear hq HZ HN
   go_wp2_with fail
   refine HX.out.mono ?_
   rintro e w2 ⟨rfl, hb3⟩
   replace hb2 := hb2.trans (hb3.mono (by omega))
   replace c11 : w2.cell? ⟨w.heap.size, 11, none⟩ = some (.slice ad x.sub.length cap) := by rw [hb3.cell (p := ⟨w.heap.size, 11, none⟩) (show w.heap.size < _ by omega)]; exact c11
   replace hz1 : w.heap.size + 1 ≤ w2.heap.size := by have := hb3.size; omega
   clear c0 c1 c2 c3 c4 c5 c6 c7 c8 c9 c10 hb3 HX
   try clear w1
   rename World => w1
   go_wp2
  all_goals
   go_loopw [3, 16] (fun n i wr => ∃ (k S : Nat), k ≤ x.sub.length ∧ i = .int .i64 (k : Int) ∧ n = .int .i64 (S : Int) ∧ S ≤ 4000002 ∧ Hid (S = max E0 (Con.depths (x.sub.take k))) ∧ Below w.heap.size w wr ∧ wr.cell? ⟨w.heap.size, 11, none⟩ = some (.slice ad x.sub.length cap)) (fun _ i _ => x.sub.length - (intOf i).toNat)
   case atStart => exact ⟨0, E0, Nat.zero_le _, rfl, by first | rfl | (rw [HZ.out]; rfl), by omega, by show _ = _; simp [Con.depths], hb2, c11⟩
   case round =>
    clear hb2 c11 hz1
    obtain ⟨k, S, hk, rfl, rfl, hS, HSz, hbel, q0⟩ := hrel
    by_cases hlt : k < x.sub.length
    ·obtain ⟨y, hy⟩ : ∃ y, x.sub[k]? = some y := ⟨_, List.getElem?_eq_getElem hlt⟩
     obtain ⟨b, off, es', dd', ss', rfl, ⟨c0, c1, c2, c3, c4, c5, c6, c7, c8, c9, c10, c11⟩, hs'⟩ := (HS.out.frame hbel).cells hy
     obtain ⟨adp, capp, rfl⟩ := hs'.2.2.1.len
     obtain ⟨ad1p, cap1p, rfl⟩ := hs'.1.len
     obtain ⟨ad2p, cap2p, rfl⟩ := hs'.2.1.len
     have hym := Con.mem_lt (List.mem_of_getElem? hy)
     have hblk : b < wr.heap.size := World.block_lt_of_cell? wr _ c0
     have hbx : w.heap.size < wr.heap.size := World.block_lt_of_cell? wr _ q0
     have hzw := hbel.size
     have HSn : Hid (max S y.depth = max E0 (Con.depths (x.sub.take (k + 1)))) := by show _ = _; rw [Con.depths_snoc hy]; have := HSz.out; omega
     have hSn : max S y.depth ≤ 4000002 := by have := HSn.out; have := Con.depths_take x.sub (k + 1); have := HQ.out; have := x.size_le; have := x.depth_le; omega
     have e1 : (max (S : Int) (y.depth : Int)) = ((max S y.depth : Nat) : Int) := by omega
     have hk1 : (0 : Int) ≤ (k : Int) := by omega
     have hk2 : (k : Int) < (x.sub.length : Int) := by omega
     have HC := Lib.hid (HI.out y _ _ _ (wr.alloc (.cells #[.int .u8 y.k, .string y.fr, .string y.rc, .string y.nm, .int .u8 y.ex.k, .string y.ex.ra, .string y.ex.nm, .int .i64 y.ex.d, .slice ad1p y.ex.sub.length cap1p, .int .i64 y.d, .slice ad2p y.ds.length cap2p, .slice adp y.sub.length capp] 29)) (by omega) (by omega) (hs'.frame (below_a1 _ _)))
     unfold Con.val at HC
     clear hy hym hs'
     go_wp2_with fail
     refine HC.out.mono ?_
     rintro e w1 ⟨rfl, hb1⟩
     have q1 : w1.cell? ⟨w.heap.size, 11, none⟩ = some (.slice (some ⟨b, off, none⟩) x.sub.length cap) := by rw [hb1.cell (p := ⟨w.heap.size, 11, none⟩) (by simp; omega)]; go_simp
     have hb2 := (hbel.alloc hzw _).trans (hb1.mono (by simp; omega))
     clear hb1 hbel q0 HC c0 c1 c2 c3 c4 c5 c6 c7 c8 c9 c10 c11
     go_wp2
     go_roundw
     case rel => exact ⟨k + 1, max S y.depth, by omega, by go_num, by first | rfl | go_num, hSn, HSn, hb2, q1⟩
     case measure => simp [intOf]; omega
    ·obtain rfl : k = x.sub.length := by omega
     have HF : Hid ((S : Int) + 1 = (x.depth : Int)) := by
      show _ = _
      have h := HSz.out
      have h2 := HQ.out
      rw [List.take_length] at h
      omega
     go_wp2
     go_ret
     exact ⟨by rw [HF.out]; rfl, hbel⟩
set_option maxHeartbeats 2000000 in
set_option maxRecDepth 100000 in
theorem rcsize_any : ∀ (N : Nat) (x : Con) (es dd ss : Value) (w : World), x.bulk ≤ N → x.bulk ≤ 2000000 → RdN w x es dd ss →
  Calls Tryz.prog 74 #[x.val es dd ss] w fun e w' => e = .returned (.int .i64 (x.size : Int)) ∧ Below w.heap.size w w' := by
 intro N
 induction N with
 | zero =>
  intro x es dd ss w h0
  rw [Con.bulk_eq] at h0
  omega
 | succ N ih =>
  intro x es dd ss w hN hB hr
  obtain ⟨ad, cap, rfl⟩ := hr.2.2.1.len
  obtain ⟨ad1, cap1, rfl⟩ := hr.1.len
  obtain ⟨ad2, cap2, rfl⟩ := hr.2.1.len
  have HS := Lib.hid hr.2.2.1
  have HE := Lib.hid hr.1
  have HI := Lib.hid ih
  have hlen := Con.bulks_len x.sub
  have hlt0 := x.sub_lt
  have hbe := x.bulk_eq
  have hsz := x.size_le
  have hdz := x.depth_le
  have hes := x.ex.size_le
  have hed := x.ex.depth_le
  have hsq := Lib.hid x.size_eq
  have hn : x.sub.length ≤ 2000000 := by omega
  have hxb : x.ex.bulk ≤ 2000000 := by omega
  have hb0 := below_a1 w (.cells #[.int .u8 x.k, .string x.fr, .string x.rc, .string x.nm, .int .u8 x.ex.k, .string x.ex.ra, .string x.ex.nm, .int .i64 x.ex.d, .slice ad1 x.ex.sub.length cap1, .int .i64 x.d, .slice ad2 x.ds.length cap2, .slice ad x.sub.length cap] 29)
  have HB0 := CBox.new w x (.slice ad1 x.ex.sub.length cap1) (.slice ad2 x.ds.length cap2) (.slice ad x.sub.length cap) 29
  have HBr := Lib.hid (rbare_any x.ex _ _ (HE.out.frame hb0))
  clear hr ih hbe
  unfold Con.val
  unfold Ex.val at HBr
  go_enter Tryz.func74, Tryz.ntmps74
  go_wp2_with fail
  refine HBr.out.mono ?_
  rintro e w1 ⟨rfl, hb1⟩
  have hb2 : Below w.heap.size w w1 := hb0.trans (hb1.mono (by simp))
  have hz1 := hb1.size
  simp only [World.size_alloc] at hz1
  have HB1 := HB0.low hb1
  clear hb0 HB0 hb1 HBr
  obtain ⟨c0, c1, c2, c3, c4, c5, c6, c7, c8, c9, c10, c11⟩ := HB1
  obtain ⟨E0, HZ, HN, hE0, HQ⟩ : ∃ E0 : Nat, Hid (x.ex.bare = true → E0 = 0) ∧ Hid (x.ex.bare = false → x.ex.size = E0) ∧ E0 ≤ 2000000 ∧ Hid (x.size = 1 + E0 + Con.sizes x.sub) := ⟨if x.ex.bare = true then 0 else x.ex.size, Lib.hid (fun h => by rw [h]; rfl), Lib.hid (fun h => by rw [h]; rfl), by split <;> omega, Lib.hid hsq.out⟩
  clear hsq
  cases hq : x.ex.bare
  case' true =>
   replace HZ : Hid (E0 = 0) := Lib.hid (HZ.out hq)
   clear HN hq c0 c1 c2 c3 c4 c5 c6 c7 c8 c9 c10
   go_wp2
  case' false =>
   replace HN : Hid (x.ex.size = E0) := Lib.hid (HN.out hq)
   have HX := Lib.hid (rsize_any x.ex.bulk x.ex _ w1 (Nat.le_refl _) hxb (HE.out.frame hb2))
   rw [HN.out] at HX
   unfold Ex.val at HX
   have e0 : IntKind.i64.wrap (1 + (E0 : Int)) = ((1 + E0 : Nat) : Int) := by rw [IntWalk.i64_in _ (by omega)]; omega
   clear hq HZ HN
   go_wp2_with fail
   refine HX.out.mono ?_
   rintro e w2 ⟨rfl, hb3⟩
   replace hb2 := hb2.trans (hb3.mono (by omega))
   replace c11 : w2.cell? ⟨w.heap.size, 11, none⟩ = some (.slice ad x.sub.length cap) := by rw [hb3.cell (p := ⟨w.heap.size, 11, none⟩) (show w.heap.size < _ by omega)]; exact c11
   replace hz1 : w.heap.size + 1 ≤ w2.heap.size := by have := hb3.size; omega
   clear c0 c1 c2 c3 c4 c5 c6 c7 c8 c9 c10 hb3 HX
   try clear w1
   rename World => w1
   go_wp2
  all_goals
   go_loopw [3, 4] (fun n i wr => ∃ (k S : Nat), k ≤ x.sub.length ∧ i = .int .i64 (k : Int) ∧ n = .int .i64 (S : Int) ∧ S ≤ 4000002 ∧ Hid (S = 1 + E0 + Con.sizes (x.sub.take k)) ∧ Below w.heap.size w wr ∧ wr.cell? ⟨w.heap.size, 11, none⟩ = some (.slice ad x.sub.length cap)) (fun _ i _ => x.sub.length - (intOf i).toNat)
   case atStart => exact ⟨0, 1 + E0, Nat.zero_le _, rfl, by first | rfl | (rw [HZ.out]; rfl), by omega, by show _ = _; simp [Con.sizes], hb2, c11⟩
   case round =>
    clear hb2 c11 hz1
    obtain ⟨k, S, hk, rfl, rfl, hS, HSz, hbel, q0⟩ := hrel
    by_cases hlt : k < x.sub.length
    ·obtain ⟨y, hy⟩ : ∃ y, x.sub[k]? = some y := ⟨_, List.getElem?_eq_getElem hlt⟩
     obtain ⟨b, off, es', dd', ss', rfl, ⟨c0, c1, c2, c3, c4, c5, c6, c7, c8, c9, c10, c11⟩, hs'⟩ := (HS.out.frame hbel).cells hy
     obtain ⟨adp, capp, rfl⟩ := hs'.2.2.1.len
     obtain ⟨ad1p, cap1p, rfl⟩ := hs'.1.len
     obtain ⟨ad2p, cap2p, rfl⟩ := hs'.2.1.len
     have hym := Con.mem_lt (List.mem_of_getElem? hy)
     have hblk : b < wr.heap.size := World.block_lt_of_cell? wr _ c0
     have hbx : w.heap.size < wr.heap.size := World.block_lt_of_cell? wr _ q0
     have hzw := hbel.size
     have HSn : Hid (S + y.size = 1 + E0 + Con.sizes (x.sub.take (k + 1))) := by show _ = _; rw [Con.sizes_snoc hy]; have := HSz.out; omega
     have hSn : S + y.size ≤ 4000002 := by have := HSn.out; have := Con.sizes_take x.sub (k + 1); have := HQ.out; have := x.size_le; have := x.depth_le; omega
     have e1 : IntKind.i64.wrap ((S : Int) + (y.size : Int)) = ((S + y.size : Nat) : Int) := by rw [IntWalk.i64_in _ (by omega)]; omega
     have hk1 : (0 : Int) ≤ (k : Int) := by omega
     have hk2 : (k : Int) < (x.sub.length : Int) := by omega
     have HC := Lib.hid (HI.out y _ _ _ wr (by omega) (by omega) hs')
     unfold Con.val at HC
     clear hy hym hs'
     go_wp2_with fail
     refine HC.out.mono ?_
     rintro e w1 ⟨rfl, hb1⟩
     have q1 : w1.cell? ⟨w.heap.size, 11, none⟩ = some (.slice (some ⟨b, off, none⟩) x.sub.length cap) := by rw [hb1.cell (p := ⟨w.heap.size, 11, none⟩) hbx]; exact q0
     have hb2 := hbel.trans (hb1.mono hzw)
     clear hb1 hbel q0 HC c0 c1 c2 c3 c4 c5 c6 c7 c8 c9 c10 c11
     go_wp2
     go_roundw
     case rel => exact ⟨k + 1, S + y.size, by omega, by go_num, by first | rfl | go_num, hSn, HSn, hb2, q1⟩
     case measure => simp [intOf]; omega
    ·obtain rfl : k = x.sub.length := by omega
     have HF : Hid ((S : Int) = (x.size : Int)) := by
      show _ = _
      have h := HSz.out
      have h2 := HQ.out
      rw [List.take_length] at h
      omega
     go_wp2
     go_ret
     exact ⟨by rw [HF.out]; rfl, hbel⟩
set_option maxHeartbeats 2000000 in
set_option maxRecDepth 100000 in
theorem rcdepth_any : ∀ (N : Nat) (x : Con) (es dd ss : Value) (w : World), x.bulk ≤ N → x.bulk ≤ 2000000 → RdN w x es dd ss →
  Calls Tryz.prog 75 #[x.val es dd ss] w fun e w' => e = .returned (.int .i64 (x.depth : Int)) ∧ Below w.heap.size w w' := by
 intro N
 induction N with
 | zero =>
  intro x es dd ss w h0
  rw [Con.bulk_eq] at h0
  omega
 | succ N ih =>
  intro x es dd ss w hN hB hr
  obtain ⟨ad, cap, rfl⟩ := hr.2.2.1.len
  obtain ⟨ad1, cap1, rfl⟩ := hr.1.len
  obtain ⟨ad2, cap2, rfl⟩ := hr.2.1.len
  have HS := Lib.hid hr.2.2.1
  have HE := Lib.hid hr.1
  have HI := Lib.hid ih
  have hlen := Con.bulks_len x.sub
  have hlt0 := x.sub_lt
  have hbe := x.bulk_eq
  have hsz := x.size_le
  have hdz := x.depth_le
  have hes := x.ex.size_le
  have hed := x.ex.depth_le
  have hsq := Lib.hid x.depth_eq
  have hn : x.sub.length ≤ 2000000 := by omega
  have hxb : x.ex.bulk ≤ 2000000 := by omega
  have hb0 := below_a1 w (.cells #[.int .u8 x.k, .string x.fr, .string x.rc, .string x.nm, .int .u8 x.ex.k, .string x.ex.ra, .string x.ex.nm, .int .i64 x.ex.d, .slice ad1 x.ex.sub.length cap1, .int .i64 x.d, .slice ad2 x.ds.length cap2, .slice ad x.sub.length cap] 29)
  have HB0 := CBox.new w x (.slice ad1 x.ex.sub.length cap1) (.slice ad2 x.ds.length cap2) (.slice ad x.sub.length cap) 29
  have HBr := Lib.hid (rbare_any x.ex _ _ (HE.out.frame hb0))
  clear hr ih hbe
  unfold Con.val
  unfold Ex.val at HBr
  go_enter Tryz.func75, Tryz.ntmps75
  go_wp2_with fail
  refine HBr.out.mono ?_
  rintro e w1 ⟨rfl, hb1⟩
  have hb2 : Below w.heap.size w w1 := hb0.trans (hb1.mono (by simp))
  have hz1 := hb1.size
  simp only [World.size_alloc] at hz1
  have HB1 := HB0.low hb1
  clear hb0 HB0 hb1 HBr
  obtain ⟨c0, c1, c2, c3, c4, c5, c6, c7, c8, c9, c10, c11⟩ := HB1
  obtain ⟨E0, HZ, HN, hE0, HQ⟩ : ∃ E0 : Nat, Hid (x.ex.bare = true → E0 = 0) ∧ Hid (x.ex.bare = false → x.ex.depth = E0) ∧ E0 ≤ 2000000 ∧ Hid (x.depth = max E0 (Con.depths x.sub) + 1) := ⟨if x.ex.bare = true then 0 else x.ex.depth, Lib.hid (fun h => by rw [h]; rfl), Lib.hid (fun h => by rw [h]; rfl), by split <;> omega, Lib.hid hsq.out⟩
  clear hsq
  cases hq : x.ex.bare
  case' true =>
   replace HZ : Hid (E0 = 0) := Lib.hid (HZ.out hq)
   clear HN hq c0 c1 c2 c3 c4 c5 c6 c7 c8 c9 c10
   go_wp2
  case' false =>
   replace HN : Hid (x.ex.depth = E0) := Lib.hid (HN.out hq)
   have HX := Lib.hid (rdepth_any x.ex.bulk x.ex _ w1 (Nat.le_refl _) hxb (HE.out.frame hb2))
   rw [HN.out] at HX
   unfold Ex.val at HX
   clear hq HZ HN
   go_wp2_with fail
   refine HX.out.mono ?_
   rintro e w2 ⟨rfl, hb3⟩
   replace hb2 := hb2.trans (hb3.mono (by omega))
   replace c11 : w2.cell? ⟨w.heap.size, 11, none⟩ = some (.slice ad x.sub.length cap) := by rw [hb3.cell (p := ⟨w.heap.size, 11, none⟩) (show w.heap.size < _ by omega)]; exact c11
   replace hz1 : w.heap.size + 1 ≤ w2.heap.size := by have := hb3.size; omega
   clear c0 c1 c2 c3 c4 c5 c6 c7 c8 c9 c10 hb3 HX
   try clear w1
   rename World => w1
   go_wp2
  all_goals
   go_loopw [3, 4] (fun n i wr => ∃ (k S : Nat), k ≤ x.sub.length ∧ i = .int .i64 (k : Int) ∧ n = .int .i64 (S : Int) ∧ S ≤ 4000002 ∧ Hid (S = max E0 (Con.depths (x.sub.take k))) ∧ Below w.heap.size w wr ∧ wr.cell? ⟨w.heap.size, 11, none⟩ = some (.slice ad x.sub.length cap)) (fun _ i _ => x.sub.length - (intOf i).toNat)
   case atStart => exact ⟨0, E0, Nat.zero_le _, rfl, by first | rfl | (rw [HZ.out]; rfl), by omega, by show _ = _; simp [Con.depths], hb2, c11⟩
   case round =>
    clear hb2 c11 hz1
    obtain ⟨k, S, hk, rfl, rfl, hS, HSz, hbel, q0⟩ := hrel
    by_cases hlt : k < x.sub.length
    ·obtain ⟨y, hy⟩ : ∃ y, x.sub[k]? = some y := ⟨_, List.getElem?_eq_getElem hlt⟩
     obtain ⟨b, off, es', dd', ss', rfl, ⟨c0, c1, c2, c3, c4, c5, c6, c7, c8, c9, c10, c11⟩, hs'⟩ := (HS.out.frame hbel).cells hy
     obtain ⟨adp, capp, rfl⟩ := hs'.2.2.1.len
     obtain ⟨ad1p, cap1p, rfl⟩ := hs'.1.len
     obtain ⟨ad2p, cap2p, rfl⟩ := hs'.2.1.len
     have hym := Con.mem_lt (List.mem_of_getElem? hy)
     have hblk : b < wr.heap.size := World.block_lt_of_cell? wr _ c0
     have hbx : w.heap.size < wr.heap.size := World.block_lt_of_cell? wr _ q0
     have hzw := hbel.size
     have HSn : Hid (max S y.depth = max E0 (Con.depths (x.sub.take (k + 1)))) := by show _ = _; rw [Con.depths_snoc hy]; have := HSz.out; omega
     have hSn : max S y.depth ≤ 4000002 := by have := HSn.out; have := Con.depths_take x.sub (k + 1); have := HQ.out; have := x.size_le; have := x.depth_le; omega
     have e1 : (max (S : Int) (y.depth : Int)) = ((max S y.depth : Nat) : Int) := by omega
     have hk1 : (0 : Int) ≤ (k : Int) := by omega
     have hk2 : (k : Int) < (x.sub.length : Int) := by omega
     have HC := Lib.hid (HI.out y _ _ _ wr (by omega) (by omega) hs')
     unfold Con.val at HC
     clear hy hym hs'
     go_wp2_with fail
     refine HC.out.mono ?_
     rintro e w1 ⟨rfl, hb1⟩
     have q1 : w1.cell? ⟨w.heap.size, 11, none⟩ = some (.slice (some ⟨b, off, none⟩) x.sub.length cap) := by rw [hb1.cell (p := ⟨w.heap.size, 11, none⟩) hbx]; exact q0
     have hb2 := hbel.trans (hb1.mono hzw)
     clear hb1 hbel q0 HC c0 c1 c2 c3 c4 c5 c6 c7 c8 c9 c10 c11
     go_wp2
     go_roundw
     case rel => exact ⟨k + 1, max S y.depth, by omega, by go_num, by first | rfl | go_num, hSn, HSn, hb2, q1⟩
     case measure => simp [intOf]; omega
    ·obtain rfl : k = x.sub.length := by omega
     have HF : Hid ((S : Int) + 1 = (x.depth : Int)) := by
      show _ = _
      have h := HSz.out
      have h2 := HQ.out
      rw [List.take_length] at h
      omega
     go_wp2
     go_ret
     exact ⟨by rw [HF.out]; rfl, hbel⟩
end Go.Proofs.YtkonookacfmfgaaGreatDoor
