/-
  contract.Depth; novationref09.Size, Depth. observable.leaf. observable.sorted, Check, Number, Truth.
-/
import Derived.Test.YtflddbgadkndlaaGreatDoorC18
import Derived.Test.YtflddbgadkndlaaGreatDoorC07
import Derived.Test.YtflddbgadkndlaaGreatDoorC06
import Derived.Test.YtflddbgadkndlaaGreatDoorC12
import Derived.Test.YtflddbgadkndlaaGreatDoorC08
namespace Go.Proofs.YtflddbgadkndlaaGreatDoor
open Go.RowKit

set_option maxHeartbeats 2000000 in
set_option maxRecDepth 100000 in
theorem cdepth_any : ∀ (N : Nat) (x : Con) (es dd ss : Value) (w : World), x.bulk ≤ N → x.bulk ≤ 2000000 → RdN w x es dd ss →
    Calls Tryz.prog 94 #[x.val es dd ss] w fun e w' => e = .returned (.int .i64 (x.depth : Int)) ∧ Below w.heap.size w w' := by
  intro N
  induction N with
  | zero =>
    intro x es dd ss w h0
    rw [Con.bulk_eq] at h0
    omega
  | succ N ih =>
    intro x es dd ss w hN hB hr
    obtain ⟨ad, cap, rfl⟩ := hr.2.2.1.len
    obtain ⟨ad1, cap1, rfl⟩ := hr.1.len
    obtain ⟨ad2, cap2, rfl⟩ := hr.2.1.len
    have HS := Lib.hid hr.2.2.1
    have HE := Lib.hid hr.1
    have HI := Lib.hid ih
    have hlen := Con.bulks_len x.sub
    have hlt0 := x.sub_lt
    have hbe := x.bulk_eq
    have hsz := x.size_le
    have hdz := x.depth_le
    have hes := x.ex.size_le
    have hed := x.ex.depth_le
    have hsq := Lib.hid x.depth_eq
    have hn : x.sub.length ≤ 2000000 := by omega
    have hxb : x.ex.bulk ≤ 2000000 := by omega
    have hb0 := below_a1 w (.cells #[.int .u8 x.k, .string x.fr, .string x.rc, .string x.nm, .int .u8 x.ex.k, .string x.ex.ra, .string x.ex.nm, .int .i64 x.ex.d, .slice ad1 x.ex.sub.length cap1, .int .i64 x.d, .slice ad2 x.ds.length cap2, .slice ad x.sub.length cap] 29)
    have HB0 := CBox.new w x (.slice ad1 x.ex.sub.length cap1) (.slice ad2 x.ds.length cap2) (.slice ad x.sub.length cap) 29
    have HBr := Lib.hid (bare_any x.ex _ _ (HE.out.frame hb0))
    clear hr ih hbe
    unfold Con.val
    unfold Ex.val at HBr
    go_enter Tryz.func94, Tryz.ntmps94
    go_wp2_with fail
    refine HBr.out.mono ?_
    rintro e w1 ⟨rfl, hb1⟩
    have hb2 : Below w.heap.size w w1 := hb0.trans (hb1.mono (by simp))
    have hz1 := hb1.size
    simp only [World.size_alloc] at hz1
    have HB1 := HB0.low hb1
    clear hb0 HB0 hb1 HBr
    obtain ⟨c0, c1, c2, c3, c4, c5, c6, c7, c8, c9, c10, c11⟩ := HB1
    obtain ⟨E0, HZ, HN, hE0, HQ⟩ : ∃ E0 : Nat, Hid (x.ex.bare = true → E0 = 0) ∧ Hid (x.ex.bare = false → x.ex.depth = E0) ∧ E0 ≤ 2000000 ∧ Hid (x.depth = max E0 (Con.depths x.sub) + 1) := ⟨if x.ex.bare = true then 0 else x.ex.depth, Lib.hid (fun h => by rw [h]; rfl), Lib.hid (fun h => by rw [h]; rfl), by split <;> omega, Lib.hid hsq.out⟩
    clear hsq
    cases hq : x.ex.bare
    case' true =>
      replace HZ : Hid (E0 = 0) := Lib.hid (HZ.out hq)
      clear HN hq c0 c1 c2 c3 c4 c5 c6 c7 c8 c9 c10
      go_wp2
    case' false =>
      replace HN : Hid (x.ex.depth = E0) := Lib.hid (HN.out hq)
      have HX := Lib.hid (cxdepth_any x.ex.bulk x.ex _ w1 (Nat.le_refl _) hxb (HE.out.frame hb2))
      rw [HN.out] at HX
      unfold Ex.val at HX
      clear hq HZ HN
      go_wp2_with fail
      refine HX.out.mono ?_
      rintro e w2 ⟨rfl, hb3⟩
      replace hb2 := hb2.trans (hb3.mono (by omega))
      replace c11 : w2.cell? ⟨w.heap.size, 11, none⟩ = some (.slice ad x.sub.length cap) := by rw [hb3.cell (p := ⟨w.heap.size, 11, none⟩) (show w.heap.size < _ by omega)]; exact c11
      replace hz1 : w.heap.size + 1 ≤ w2.heap.size := by have := hb3.size; omega
      clear c0 c1 c2 c3 c4 c5 c6 c7 c8 c9 c10 hb3 HX
      try clear w1
      rename World => w1
      go_wp2
    all_goals
      go_loopw [3, 16] (fun n i wr => ∃ (k S : Nat), k ≤ x.sub.length ∧ i = .int .i64 (k : Int) ∧ n = .int .i64 (S : Int) ∧ S ≤ 4000002 ∧ Hid (S = max E0 (Con.depths (x.sub.take k))) ∧ Below w.heap.size w wr ∧ wr.cell? ⟨w.heap.size, 11, none⟩ = some (.slice ad x.sub.length cap)) (fun _ i _ => x.sub.length - (intOf i).toNat)
      case atStart => exact ⟨0, E0, Nat.zero_le _, rfl, by first | rfl | (rw [HZ.out]; rfl), by omega, by show _ = _; simp [Con.depths], hb2, c11⟩
      case round =>
        clear hb2 c11 hz1
        obtain ⟨k, S, hk, rfl, rfl, hS, HSz, hbel, q0⟩ := hrel
        by_cases hlt : k < x.sub.length
        · obtain ⟨y, hy⟩ : ∃ y, x.sub[k]? = some y := ⟨_, List.getElem?_eq_getElem hlt⟩
          obtain ⟨b, off, es', dd', ss', rfl, ⟨c0, c1, c2, c3, c4, c5, c6, c7, c8, c9, c10, c11⟩, hs'⟩ := (HS.out.frame hbel).cells hy
          obtain ⟨adp, capp, rfl⟩ := hs'.2.2.1.len
          obtain ⟨ad1p, cap1p, rfl⟩ := hs'.1.len
          obtain ⟨ad2p, cap2p, rfl⟩ := hs'.2.1.len
          have hym := Con.mem_lt (List.mem_of_getElem? hy)
          have hblk : b < wr.heap.size := World.block_lt_of_cell? wr _ c0
          have hbx : w.heap.size < wr.heap.size := World.block_lt_of_cell? wr _ q0
          have hzw := hbel.size
          have HSn : Hid (max S y.depth = max E0 (Con.depths (x.sub.take (k + 1)))) := by show _ = _; rw [Con.depths_snoc hy]; have := HSz.out; omega
          have hSn : max S y.depth ≤ 4000002 := by have := HSn.out; have := Con.depths_take x.sub (k + 1); have := HQ.out; have := x.size_le; have := x.depth_le; omega
          have e1 : (max (S : Int) (y.depth : Int)) = ((max S y.depth : Nat) : Int) := by omega
          have hk1 : (0 : Int) ≤ (k : Int) := by omega
          have hk2 : (k : Int) < (x.sub.length : Int) := by omega
          have HC := Lib.hid (HI.out y _ _ _ (wr.alloc (.cells #[.int .u8 y.k, .string y.fr, .string y.rc, .string y.nm, .int .u8 y.ex.k, .string y.ex.ra, .string y.ex.nm, .int .i64 y.ex.d, .slice ad1p y.ex.sub.length cap1p, .int .i64 y.d, .slice ad2p y.ds.length cap2p, .slice adp y.sub.length capp] 29)) (by omega) (by omega) (hs'.frame (below_a1 _ _)))
          unfold Con.val at HC
          clear hy hym hs'
          go_wp2_with fail
          refine HC.out.mono ?_
          rintro e w1 ⟨rfl, hb1⟩
          have q1 : w1.cell? ⟨w.heap.size, 11, none⟩ = some (.slice (some ⟨b, off, none⟩) x.sub.length cap) := by rw [hb1.cell (p := ⟨w.heap.size, 11, none⟩) (by simp; omega)]; go_simp
          have hb2 := (hbel.alloc hzw _).trans (hb1.mono (by simp; omega))
          clear hb1 hbel q0 HC c0 c1 c2 c3 c4 c5 c6 c7 c8 c9 c10 c11
          go_wp2
          go_roundw
          case rel => exact ⟨k + 1, max S y.depth, by omega, by go_num, by first | rfl | go_num, hSn, HSn, hb2, q1⟩
          case measure => simp [intOf]; omega
        · obtain rfl : k = x.sub.length := by omega
          have HF : Hid ((S : Int) + 1 = (x.depth : Int)) := by
            show _ = _
            have h := HSz.out
            have h2 := HQ.out
            rw [List.take_length] at h
            omega
          go_wp2
          go_ret
          exact ⟨by rw [HF.out]; rfl, hbel⟩

set_option maxHeartbeats 2000000 in
set_option maxRecDepth 100000 in
theorem rcsize_any : ∀ (N : Nat) (x : Con) (es dd ss : Value) (w : World), x.bulk ≤ N → x.bulk ≤ 2000000 → RdN w x es dd ss →
    Calls Tryz.prog 102 #[x.val es dd ss] w fun e w' => e = .returned (.int .i64 (x.size : Int)) ∧ Below w.heap.size w w' := by
  intro N
  induction N with
  | zero =>
    intro x es dd ss w h0
    rw [Con.bulk_eq] at h0
    omega
  | succ N ih =>
    intro x es dd ss w hN hB hr
    obtain ⟨ad, cap, rfl⟩ := hr.2.2.1.len
    obtain ⟨ad1, cap1, rfl⟩ := hr.1.len
    obtain ⟨ad2, cap2, rfl⟩ := hr.2.1.len
    have HS := Lib.hid hr.2.2.1
    have HE := Lib.hid hr.1
    have HI := Lib.hid ih
    have hlen := Con.bulks_len x.sub
    have hlt0 := x.sub_lt
    have hbe := x.bulk_eq
    have hsz := x.size_le
    have hdz := x.depth_le
    have hes := x.ex.size_le
    have hed := x.ex.depth_le
    have hsq := Lib.hid x.size_eq
    have hn : x.sub.length ≤ 2000000 := by omega
    have hxb : x.ex.bulk ≤ 2000000 := by omega
    have hb0 := below_a1 w (.cells #[.int .u8 x.k, .string x.fr, .string x.rc, .string x.nm, .int .u8 x.ex.k, .string x.ex.ra, .string x.ex.nm, .int .i64 x.ex.d, .slice ad1 x.ex.sub.length cap1, .int .i64 x.d, .slice ad2 x.ds.length cap2, .slice ad x.sub.length cap] 29)
    have HB0 := CBox.new w x (.slice ad1 x.ex.sub.length cap1) (.slice ad2 x.ds.length cap2) (.slice ad x.sub.length cap) 29
    have HBr := Lib.hid (rbare_any x.ex _ _ (HE.out.frame hb0))
    clear hr ih hbe
    unfold Con.val
    unfold Ex.val at HBr
    go_enter Tryz.func102, Tryz.ntmps102
    go_wp2_with fail
    refine HBr.out.mono ?_
    rintro e w1 ⟨rfl, hb1⟩
    have hb2 : Below w.heap.size w w1 := hb0.trans (hb1.mono (by simp))
    have hz1 := hb1.size
    simp only [World.size_alloc] at hz1
    have HB1 := HB0.low hb1
    clear hb0 HB0 hb1 HBr
    obtain ⟨c0, c1, c2, c3, c4, c5, c6, c7, c8, c9, c10, c11⟩ := HB1
    obtain ⟨E0, HZ, HN, hE0, HQ⟩ : ∃ E0 : Nat, Hid (x.ex.bare = true → E0 = 0) ∧ Hid (x.ex.bare = false → x.ex.size = E0) ∧ E0 ≤ 2000000 ∧ Hid (x.size = 1 + E0 + Con.sizes x.sub) := ⟨if x.ex.bare = true then 0 else x.ex.size, Lib.hid (fun h => by rw [h]; rfl), Lib.hid (fun h => by rw [h]; rfl), by split <;> omega, Lib.hid hsq.out⟩
    clear hsq
    cases hq : x.ex.bare
    case' true =>
      replace HZ : Hid (E0 = 0) := Lib.hid (HZ.out hq)
      clear HN hq c0 c1 c2 c3 c4 c5 c6 c7 c8 c9 c10
      go_wp2
    case' false =>
      replace HN : Hid (x.ex.size = E0) := Lib.hid (HN.out hq)
      have HX := Lib.hid (rsize_any x.ex.bulk x.ex _ w1 (Nat.le_refl _) hxb (HE.out.frame hb2))
      rw [HN.out] at HX
      unfold Ex.val at HX
      have e0 : IntKind.i64.wrap (1 + (E0 : Int)) = ((1 + E0 : Nat) : Int) := by rw [IntWalk.i64_in _ (by omega)]; omega
      clear hq HZ HN
      go_wp2_with fail
      refine HX.out.mono ?_
      rintro e w2 ⟨rfl, hb3⟩
      replace hb2 := hb2.trans (hb3.mono (by omega))
      replace c11 : w2.cell? ⟨w.heap.size, 11, none⟩ = some (.slice ad x.sub.length cap) := by rw [hb3.cell (p := ⟨w.heap.size, 11, none⟩) (show w.heap.size < _ by omega)]; exact c11
      replace hz1 : w.heap.size + 1 ≤ w2.heap.size := by have := hb3.size; omega
      clear c0 c1 c2 c3 c4 c5 c6 c7 c8 c9 c10 hb3 HX
      try clear w1
      rename World => w1
      go_wp2
    all_goals
      go_loopw [3, 4] (fun n i wr => ∃ (k S : Nat), k ≤ x.sub.length ∧ i = .int .i64 (k : Int) ∧ n = .int .i64 (S : Int) ∧ S ≤ 4000002 ∧ Hid (S = 1 + E0 + Con.sizes (x.sub.take k)) ∧ Below w.heap.size w wr ∧ wr.cell? ⟨w.heap.size, 11, none⟩ = some (.slice ad x.sub.length cap)) (fun _ i _ => x.sub.length - (intOf i).toNat)
      case atStart => exact ⟨0, 1 + E0, Nat.zero_le _, rfl, by first | rfl | (rw [HZ.out]; rfl), by omega, by show _ = _; simp [Con.sizes], hb2, c11⟩
      case round =>
        clear hb2 c11 hz1
        obtain ⟨k, S, hk, rfl, rfl, hS, HSz, hbel, q0⟩ := hrel
        by_cases hlt : k < x.sub.length
        · obtain ⟨y, hy⟩ : ∃ y, x.sub[k]? = some y := ⟨_, List.getElem?_eq_getElem hlt⟩
          obtain ⟨b, off, es', dd', ss', rfl, ⟨c0, c1, c2, c3, c4, c5, c6, c7, c8, c9, c10, c11⟩, hs'⟩ := (HS.out.frame hbel).cells hy
          obtain ⟨adp, capp, rfl⟩ := hs'.2.2.1.len
          obtain ⟨ad1p, cap1p, rfl⟩ := hs'.1.len
          obtain ⟨ad2p, cap2p, rfl⟩ := hs'.2.1.len
          have hym := Con.mem_lt (List.mem_of_getElem? hy)
          have hblk : b < wr.heap.size := World.block_lt_of_cell? wr _ c0
          have hbx : w.heap.size < wr.heap.size := World.block_lt_of_cell? wr _ q0
          have hzw := hbel.size
          have HSn : Hid (S + y.size = 1 + E0 + Con.sizes (x.sub.take (k + 1))) := by show _ = _; rw [Con.sizes_snoc hy]; have := HSz.out; omega
          have hSn : S + y.size ≤ 4000002 := by have := HSn.out; have := Con.sizes_take x.sub (k + 1); have := HQ.out; have := x.size_le; have := x.depth_le; omega
          have e1 : IntKind.i64.wrap ((S : Int) + (y.size : Int)) = ((S + y.size : Nat) : Int) := by rw [IntWalk.i64_in _ (by omega)]; omega
          have hk1 : (0 : Int) ≤ (k : Int) := by omega
          have hk2 : (k : Int) < (x.sub.length : Int) := by omega
          have HC := Lib.hid (HI.out y _ _ _ wr (by omega) (by omega) hs')
          unfold Con.val at HC
          clear hy hym hs'
          go_wp2_with fail
          refine HC.out.mono ?_
          rintro e w1 ⟨rfl, hb1⟩
          have q1 : w1.cell? ⟨w.heap.size, 11, none⟩ = some (.slice (some ⟨b, off, none⟩) x.sub.length cap) := by rw [hb1.cell (p := ⟨w.heap.size, 11, none⟩) hbx]; exact q0
          have hb2 := hbel.trans (hb1.mono hzw)
          clear hb1 hbel q0 HC c0 c1 c2 c3 c4 c5 c6 c7 c8 c9 c10 c11
          go_wp2
          go_roundw
          case rel => exact ⟨k + 1, S + y.size, by omega, by go_num, by first | rfl | go_num, hSn, HSn, hb2, q1⟩
          case measure => simp [intOf]; omega
        · obtain rfl : k = x.sub.length := by omega
          have HF : Hid ((S : Int) = (x.size : Int)) := by
            show _ = _
            have h := HSz.out
            have h2 := HQ.out
            rw [List.take_length] at h
            omega
          go_wp2
          go_ret
          exact ⟨by rw [HF.out]; rfl, hbel⟩

set_option maxHeartbeats 2000000 in
set_option maxRecDepth 100000 in
theorem rcdepth_any : ∀ (N : Nat) (x : Con) (es dd ss : Value) (w : World), x.bulk ≤ N → x.bulk ≤ 2000000 → RdN w x es dd ss →
    Calls Tryz.prog 103 #[x.val es dd ss] w fun e w' => e = .returned (.int .i64 (x.depth : Int)) ∧ Below w.heap.size w w' := by
  intro N
  induction N with
  | zero =>
    intro x es dd ss w h0
    rw [Con.bulk_eq] at h0
    omega
  | succ N ih =>
    intro x es dd ss w hN hB hr
    obtain ⟨ad, cap, rfl⟩ := hr.2.2.1.len
    obtain ⟨ad1, cap1, rfl⟩ := hr.1.len
    obtain ⟨ad2, cap2, rfl⟩ := hr.2.1.len
    have HS := Lib.hid hr.2.2.1
    have HE := Lib.hid hr.1
    have HI := Lib.hid ih
    have hlen := Con.bulks_len x.sub
    have hlt0 := x.sub_lt
    have hbe := x.bulk_eq
    have hsz := x.size_le
    have hdz := x.depth_le
    have hes := x.ex.size_le
    have hed := x.ex.depth_le
    have hsq := Lib.hid x.depth_eq
    have hn : x.sub.length ≤ 2000000 := by omega
    have hxb : x.ex.bulk ≤ 2000000 := by omega
    have hb0 := below_a1 w (.cells #[.int .u8 x.k, .string x.fr, .string x.rc, .string x.nm, .int .u8 x.ex.k, .string x.ex.ra, .string x.ex.nm, .int .i64 x.ex.d, .slice ad1 x.ex.sub.length cap1, .int .i64 x.d, .slice ad2 x.ds.length cap2, .slice ad x.sub.length cap] 29)
    have HB0 := CBox.new w x (.slice ad1 x.ex.sub.length cap1) (.slice ad2 x.ds.length cap2) (.slice ad x.sub.length cap) 29
    have HBr := Lib.hid (rbare_any x.ex _ _ (HE.out.frame hb0))
    clear hr ih hbe
    unfold Con.val
    unfold Ex.val at HBr
    go_enter Tryz.func103, Tryz.ntmps103
    go_wp2_with fail
    refine HBr.out.mono ?_
    rintro e w1 ⟨rfl, hb1⟩
    have hb2 : Below w.heap.size w w1 := hb0.trans (hb1.mono (by simp))
    have hz1 := hb1.size
    simp only [World.size_alloc] at hz1
    have HB1 := HB0.low hb1
    clear hb0 HB0 hb1 HBr
    obtain ⟨c0, c1, c2, c3, c4, c5, c6, c7, c8, c9, c10, c11⟩ := HB1
    obtain ⟨E0, HZ, HN, hE0, HQ⟩ : ∃ E0 : Nat, Hid (x.ex.bare = true → E0 = 0) ∧ Hid (x.ex.bare = false → x.ex.depth = E0) ∧ E0 ≤ 2000000 ∧ Hid (x.depth = max E0 (Con.depths x.sub) + 1) := ⟨if x.ex.bare = true then 0 else x.ex.depth, Lib.hid (fun h => by rw [h]; rfl), Lib.hid (fun h => by rw [h]; rfl), by split <;> omega, Lib.hid hsq.out⟩
    clear hsq
    cases hq : x.ex.bare
    case' true =>
      replace HZ : Hid (E0 = 0) := Lib.hid (HZ.out hq)
      clear HN hq c0 c1 c2 c3 c4 c5 c6 c7 c8 c9 c10
      go_wp2
    case' false =>
      replace HN : Hid (x.ex.depth = E0) := Lib.hid (HN.out hq)
      have HX := Lib.hid (rdepth_any x.ex.bulk x.ex _ w1 (Nat.le_refl _) hxb (HE.out.frame hb2))
      rw [HN.out] at HX
      unfold Ex.val at HX
      clear hq HZ HN
      go_wp2_with fail
      refine HX.out.mono ?_
      rintro e w2 ⟨rfl, hb3⟩
      replace hb2 := hb2.trans (hb3.mono (by omega))
      replace c11 : w2.cell? ⟨w.heap.size, 11, none⟩ = some (.slice ad x.sub.length cap) := by rw [hb3.cell (p := ⟨w.heap.size, 11, none⟩) (show w.heap.size < _ by omega)]; exact c11
      replace hz1 : w.heap.size + 1 ≤ w2.heap.size := by have := hb3.size; omega
      clear c0 c1 c2 c3 c4 c5 c6 c7 c8 c9 c10 hb3 HX
      try clear w1
      rename World => w1
      go_wp2
    all_goals
      go_loopw [3, 4] (fun n i wr => ∃ (k S : Nat), k ≤ x.sub.length ∧ i = .int .i64 (k : Int) ∧ n = .int .i64 (S : Int) ∧ S ≤ 4000002 ∧ Hid (S = max E0 (Con.depths (x.sub.take k))) ∧ Below w.heap.size w wr ∧ wr.cell? ⟨w.heap.size, 11, none⟩ = some (.slice ad x.sub.length cap)) (fun _ i _ => x.sub.length - (intOf i).toNat)
      case atStart => exact ⟨0, E0, Nat.zero_le _, rfl, by first | rfl | (rw [HZ.out]; rfl), by omega, by show _ = _; simp [Con.depths], hb2, c11⟩
      case round =>
        clear hb2 c11 hz1
        obtain ⟨k, S, hk, rfl, rfl, hS, HSz, hbel, q0⟩ := hrel
        by_cases hlt : k < x.sub.length
        · obtain ⟨y, hy⟩ : ∃ y, x.sub[k]? = some y := ⟨_, List.getElem?_eq_getElem hlt⟩
          obtain ⟨b, off, es', dd', ss', rfl, ⟨c0, c1, c2, c3, c4, c5, c6, c7, c8, c9, c10, c11⟩, hs'⟩ := (HS.out.frame hbel).cells hy
          obtain ⟨adp, capp, rfl⟩ := hs'.2.2.1.len
          obtain ⟨ad1p, cap1p, rfl⟩ := hs'.1.len
          obtain ⟨ad2p, cap2p, rfl⟩ := hs'.2.1.len
          have hym := Con.mem_lt (List.mem_of_getElem? hy)
          have hblk : b < wr.heap.size := World.block_lt_of_cell? wr _ c0
          have hbx : w.heap.size < wr.heap.size := World.block_lt_of_cell? wr _ q0
          have hzw := hbel.size
          have HSn : Hid (max S y.depth = max E0 (Con.depths (x.sub.take (k + 1)))) := by show _ = _; rw [Con.depths_snoc hy]; have := HSz.out; omega
          have hSn : max S y.depth ≤ 4000002 := by have := HSn.out; have := Con.depths_take x.sub (k + 1); have := HQ.out; have := x.size_le; have := x.depth_le; omega
          have e1 : (max (S : Int) (y.depth : Int)) = ((max S y.depth : Nat) : Int) := by omega
          have hk1 : (0 : Int) ≤ (k : Int) := by omega
          have hk2 : (k : Int) < (x.sub.length : Int) := by omega
          have HC := Lib.hid (HI.out y _ _ _ wr (by omega) (by omega) hs')
          unfold Con.val at HC
          clear hy hym hs'
          go_wp2_with fail
          refine HC.out.mono ?_
          rintro e w1 ⟨rfl, hb1⟩
          have q1 : w1.cell? ⟨w.heap.size, 11, none⟩ = some (.slice (some ⟨b, off, none⟩) x.sub.length cap) := by rw [hb1.cell (p := ⟨w.heap.size, 11, none⟩) hbx]; exact q0
          have hb2 := hbel.trans (hb1.mono hzw)
          clear hb1 hbel q0 HC c0 c1 c2 c3 c4 c5 c6 c7 c8 c9 c10 c11
          go_wp2
          go_roundw
          case rel => exact ⟨k + 1, max S y.depth, by omega, by go_num, by first | rfl | go_num, hSn, HSn, hb2, q1⟩
          case measure => simp [intOf]; omega
        · obtain rfl : k = x.sub.length := by omega
          have HF : Hid ((S : Int) + 1 = (x.depth : Int)) := by
            show _ = _
            have h := HSz.out
            have h2 := HQ.out
            rw [List.take_length] at h
            omega
          go_wp2
          go_ret
          exact ⟨by rw [HF.out]; rfl, hbel⟩
end Go.Proofs.YtflddbgadkndlaaGreatDoor

namespace Go.Proofs.YtflddbgadkndlaaGreatDoor
open Go.RowKit

theorem leafSort_yes {k : Nat} {ra nm : ByteArray} {d : Int} {n : Nat} (h : leafOk k ra nm d n) : leafSort k ra nm d n = 1 := by unfold leafSort; rw [if_pos h]
theorem leafSort_no {k : Nat} {ra nm : ByteArray} {d : Int} {n : Nat} (h : ¬ leafOk k ra nm d n) : leafSort k ra nm d n = 0 := by unfold leafSort; rw [if_neg h]

set_option maxHeartbeats 2000000 in
set_option maxRecDepth 100000 in
theorem leaf_core (k n : Nat) (ra nm : ByteArray) (d : Int) (ad : Option Addr) (cap : Nat) (w : World) (hn : n ≤ 2000000) (h1 : ra.size ≤ 2000000) (h2 : nm.size ≤ 2000000) :
    Calls Tryz.prog 196 #[.agg #[.int .u8 (k : Int), .string ra, .string nm, .int .i64 d, .slice ad n cap]] w fun e w' => e = .returned (.int .u8 ((leafSort k ra nm d n : Nat) : Int)) ∧ Below w.heap.size w w' := by
  have HR := Lib.hid (fun W => rat_any ra W (by omega))
  have HN := Lib.hid (fun W => name_any nm W (by omega))
  have HD := Lib.hid (fun W => within_any d W)
  have HY := Lib.hid (@leafSort_yes k ra nm d n)
  have HX := Lib.hid (@leafSort_no k ra nm d n)
  generalize hLS : leafSort k ra nm d n = LS at *
  clear hLS
  by_cases hz : n = 0
  · subst hz
    by_cases hk1 : k = 1
    · subst hk1
      go_enter Tryz.func196, Tryz.ntmps196
      go_wp2_with fail
      refine (HR.out _).mono ?_
      rintro e w1 ⟨rfl, hb1⟩
      have q2 : w1.cell? ⟨w.heap.size, 2, none⟩ = some (.string nm) := by rw [hb1.cell (p := ⟨w.heap.size, 2, none⟩) (by simp)]; go_simp
      have q3 : w1.cell? ⟨w.heap.size, 3, none⟩ = some (.int .i64 d) := by rw [hb1.cell (p := ⟨w.heap.size, 3, none⟩) (by simp)]; go_simp
      have hb2 : Below w.heap.size w w1 := (below_a1 _ _).trans (hb1.mono (by simp))
      clear hb1
      go_wp2
      all_goals
        go_ret
        first
          | exact ⟨by rw [HY.out (by clear HR HN HD; simp_all [leafOk, emp_nil])]; rfl, hb2⟩
          | exact ⟨by rw [HX.out (by clear HR HN HD; simp_all [leafOk, emp_nil])]; rfl, hb2⟩
    · by_cases hk2 : k = 2
      · subst hk2
        cases hnm : isNm (bl nm) <;> cases hdy : isDay d <;> rw [hnm] at HN <;> rw [hdy] at HD
        all_goals
          go_enter Tryz.func196, Tryz.ntmps196
          go_wp2_with (first | (refine (HN.out _).mono ?_; rintro e w1 ⟨rfl, rfl⟩) | (refine (HD.out _).mono ?_; rintro e w1 ⟨rfl, rfl⟩))
          all_goals
            go_ret
            first
              | exact ⟨by rw [HY.out (by clear HR HN HD; simp_all [leafOk, emp_nil])]; rfl, below_a1 _ _⟩
              | exact ⟨by rw [HX.out (by clear HR HN HD; simp_all [leafOk, emp_nil])]; rfl, below_a1 _ _⟩
      · by_cases hk3 : k = 3
        · subst hk3
          cases hnm : isNm (bl nm) <;> rw [hnm] at HN
          all_goals
            go_enter Tryz.func196, Tryz.ntmps196
            go_wp2_with (first | (refine (HN.out _).mono ?_; rintro e w1 ⟨rfl, rfl⟩))
            all_goals
              go_ret
              first
                | exact ⟨by rw [HY.out (by clear HR HN HD; simp_all [leafOk, emp_nil])]; rfl, below_a1 _ _⟩
                | exact ⟨by rw [HX.out (by clear HR HN HD; simp_all [leafOk, emp_nil])]; rfl, below_a1 _ _⟩
        · have HF : Hid (LS = 0) := Lib.hid (HX.out (by simp [leafOk, *]))
          go_enter Tryz.func196, Tryz.ntmps196
          go_wp2_with fail
          all_goals
            go_ret
            exact ⟨by rw [HF.out]; rfl, below_a1 _ _⟩
  · have HF : Hid (LS = 0) := Lib.hid (HX.out (by simp [leafOk, hz]))
    have hz' : ((n : Int) == 0) = false := by simpa using hz
    go_enter Tryz.func196, Tryz.ntmps196
    go_wp2_with fail
    all_goals
      go_ret
      exact ⟨by rw [HF.out]; rfl, below_a1 _ _⟩
end Go.Proofs.YtflddbgadkndlaaGreatDoor

namespace Go.Proofs.YtflddbgadkndlaaGreatDoor
open Go.RowKit

/-- What a look-up among the shapes answers, at the block g and ever after. -/
def ShapeAt (w : World) (bm : Nat) (W : World) (k : Nat) : Option (List Nat × Nat) → Prop
  | none => (Instr.lookup 225 (.map (some bm)) (.int .u8 (k : Int)) true).run Tryz.prog W = .ok (.tuple #[.agg #[.slice none 0 0, .int .u8 0], .bool false]) W
  | some (ps, own) => ∃ b off cap, (Instr.lookup 225 (.map (some bm)) (.int .u8 (k : Int)) true).run Tryz.prog W = .ok (.tuple #[.agg #[.slice (some ⟨b, off, none⟩) ps.length cap, .int .u8 (own : Int)], .bool true]) W ∧
      ∀ (j p : Nat), ps[j]? = some p → w.cell? ⟨b, off + j, none⟩ = some (.int .u8 (p : Int))
/-- The variable 'shapes' holds its table, and every later world reads it so. -/
def LookS (w : World) : Prop := ∃ bm, w.cell? ⟨1, 0, none⟩ = some (.map (some bm)) ∧ ∀ W, Below w.heap.size w W → ∀ k, k < 256 → ShapeAt w bm W k (shapeOf k)
theorem LookS.frame {w w' : World} (h : LookS w) (hb : Below w.heap.size w w') : LookS w' := by
  obtain ⟨bm, hc, h2⟩ := h
  refine ⟨bm, by rw [hb.cell (p := ⟨1, 0, none⟩) (World.block_lt_of_cell? w _ hc)]; exact hc, fun W hW k hk => ?_⟩
  have h3 := h2 W (hb.trans (hW.mono hb.size)) k hk
  cases hs : shapeOf k with
  | none => rw [hs] at h3; exact h3
  | some q =>
    obtain ⟨ps, own⟩ := q
    rw [hs] at h3
    obtain ⟨b, off, cap, h4, h5⟩ := h3
    refine ⟨b, off, cap, h4, fun j p hj => ?_⟩
    have h6 := h5 j p hj
    rw [hb.cell (p := ⟨b, off + j, none⟩) (World.block_lt_of_cell? w _ h6)]
    exact h6

theorem sorted_no_parts {ra nm : ByteArray} {d : Int} {l ps : List Nat} {own : Nat} (h : ¬ (ra.size = 0 ∧ nm.size = 0 ∧ d = 0 ∧ l = ps)) : partSort ra nm d l ps own = 0 := by unfold partSort; rw [if_neg h]
theorem sorted_parts {ra nm : ByteArray} {d : Int} {l ps : List Nat} {own : Nat} (h : ra.size = 0 ∧ nm.size = 0 ∧ d = 0 ∧ l = ps) : partSort ra nm d l ps own = own := by unfold partSort; rw [if_pos h]

theorem take_succ_eq {l ps : List Nat} {k a : Nat} (h : l.take k = ps.take k) (h1 : l[k]? = some a) (h2 : ps[k]? = some a) : l.take (k + 1) = ps.take (k + 1) := by
  rw [take_snoc_get h1, take_snoc_get h2, h]
theorem sorts_get {xs : List Ex} {k : Nat} {y : Ex} (h : xs[k]? = some y) : (Ex.sorts xs)[k]? = some y.sort := by
  rw [Ex.sorts_eq, List.getElem?_map, h]; rfl

set_option maxHeartbeats 2000000 in
set_option maxRecDepth 100000 in
theorem sorted_core (k : Nat) (ra nm : ByteArray) (d : Int) (xs : List Ex) (ad : Option Addr) (cap : Nat) (ps : List Nat) (own bm b off capp : Nat) (w : World) (hn : xs.length ≤ 2000000)
    (HI : Hid (∀ y, y ∈ xs → ∀ (s : Value) (W : World), RdE W y.sub s → LookS W → Calls Tryz.prog 170 #[y.val s] W fun e w' => e = .returned (.int .u8 ((y.sort : Nat) : Int)) ∧ Below W.heap.size W w'))
    (HS : Hid (RdE w xs (.slice ad xs.length cap))) (HL : Hid (LookS w)) (hm : w.cell? ⟨1, 0, none⟩ = some (.map (some bm)))
    (hsh : (Instr.lookup 225 (.map (some bm)) (.int .u8 (k : Int)) true).run Tryz.prog (w.alloc (.cells #[.int .u8 (k : Int), .string ra, .string nm, .int .i64 d, .slice ad xs.length cap] 25)) = .ok (.tuple #[.agg #[.slice (some ⟨b, off, none⟩) ps.length capp, .int .u8 (own : Int)], .bool true]) (w.alloc (.cells #[.int .u8 (k : Int), .string ra, .string nm, .int .i64 d, .slice ad xs.length cap] 25)))
    (HC : Hid (∀ (j p : Nat), ps[j]? = some p → w.cell? ⟨b, off + j, none⟩ = some (.int .u8 (p : Int)))) :
    Calls Tryz.prog 170 #[.agg #[.int .u8 (k : Int), .string ra, .string nm, .int .i64 d, .slice ad xs.length cap]] w fun e w' => e = .returned (.int .u8 ((partSort ra nm d (Ex.sorts xs) ps own : Nat) : Int)) ∧ Below w.heap.size w w' := by
  have hmb : 1 < w.heap.size := World.block_lt_of_cell? w _ hm
  have hb0 := below_a2 w (.cells #[.int .u8 (k : Int), .string ra, .string nm, .int .i64 d, .slice ad xs.length cap] 25) (.cells #[.slice (some ⟨b, off, none⟩) ps.length capp, .int .u8 (own : Int)] 223)
  by_cases hgood : ra.size = 0 ∧ nm.size = 0 ∧ d = 0 ∧ xs.length = ps.length
  · obtain ⟨g1, g2, rfl, g4⟩ := hgood
    have HX : Hid (Ex.sorts xs ≠ ps → partSort ra nm 0 (Ex.sorts xs) ps own = 0) := Lib.hid (fun h => sorted_no_parts (fun hh => h hh.2.2.2))
    have HY : Hid (Ex.sorts xs = ps → partSort ra nm 0 (Ex.sorts xs) ps own = own) := Lib.hid (fun h => sorted_parts ⟨g1, g2, rfl, h⟩)
    rw [sz_nil] at g1 g2
    generalize partSort ra nm 0 (Ex.sorts xs) ps own = R at *
    rw [← g4] at hsh hb0
    have HG := Lib.hid g4
    clear g4
    go_enter Tryz.func170, Tryz.ntmps170
    go_wp2_with fail
    go_loopw [43] (fun i wr => ∃ (j : Nat), j ≤ xs.length ∧ i = .int .i64 (j : Int) ∧ Hid ((Ex.sorts xs).take j = ps.take j) ∧ Below w.heap.size w wr ∧ wr.cell? ⟨w.heap.size + 1, 0, none⟩ = some (.slice (some ⟨b, off, none⟩) xs.length capp) ∧ wr.cell? ⟨w.heap.size + 1, 1, none⟩ = some (.int .u8 (own : Int))) (fun i _ => xs.length - (intOf i).toNat)
    case atStart => exact ⟨0, Nat.zero_le _, rfl, Lib.hid (by simp), hb0, by go_simp, by go_simp⟩
    case round =>
      clear hb0
      obtain ⟨j, hj, rfl, HT, hbel, q0, q1⟩ := hrel
      by_cases hlt : j < xs.length
      · obtain ⟨y, hy⟩ : ∃ y, xs[j]? = some y := ⟨_, List.getElem?_eq_getElem hlt⟩
        obtain ⟨p, hp⟩ : ∃ p, ps[j]? = some p := ⟨_, List.getElem?_eq_getElem (by have := HG.out; omega)⟩
        obtain ⟨b', off', s', rfl, c0, c1, c2, c3, c4, hs', hk8⟩ := (HS.out.frame hbel).at hy
        obtain ⟨ad', cap', rfl⟩ := hs'.len
        have hpc := HC.out j p hp
        have hbb : b < w.heap.size := World.block_lt_of_cell? w _ hpc
        have hpw : wr.cell? ⟨b, off + j, none⟩ = some (.int .u8 (p : Int)) := by rw [hbel.cell (p := ⟨b, off + j, none⟩) hbb]; exact hpc
        have hbb2 : b < wr.heap.size := by have := hbel.size; omega
        have hblk : b' < wr.heap.size := World.block_lt_of_cell? wr _ c0
        have hbx : w.heap.size + 1 < wr.heap.size := World.block_lt_of_cell? wr _ q0
        have hzw := hbel.size
        have hk1 : (0 : Int) ≤ (j : Int) := by omega
        have hk2 : (j : Int) < (xs.length : Int) := by omega
        have HZ : Hid (∀ W, Ext (wr.alloc (.cells #[.int .u8 (y.k : Int), .string y.ra, .string y.nm, .int .i64 y.d, .slice ad' y.sub.length cap'] 25)) W → Calls Tryz.prog 170 #[.agg #[.int .u8 (y.k : Int), .string y.ra, .string y.nm, .int .i64 y.d, .slice ad' y.sub.length cap']] W fun e w' => e = .returned (.int .u8 ((y.sort : Nat) : Int)) ∧ Below W.heap.size W w') :=
          Lib.hid fun W hW => HI.out y (List.mem_of_getElem? hy) _ W (hs'.frame ((below_a1 wr _).trans (Below.mono hW (by simp)))) (HL.out.frame ((hbel.alloc hzw _).trans (Below.mono hW (by simp; omega))))
        have HYs : Hid ((Ex.sorts xs)[j]? = some y.sort) := Lib.hid (sorts_get hy)
        have HPs := Lib.hid hp
        clear hy hs' hp hpc
        go_wp2
        refine wp_region_ext (fun W' => W'.cell? ⟨wr.heap.size, 0, none⟩ = some (.int .u8 (y.k : Int)) ∧ W'.cell? ⟨wr.heap.size, 1, none⟩ = some (.string y.ra) ∧ W'.cell? ⟨wr.heap.size, 2, none⟩ = some (.string y.nm) ∧ W'.cell? ⟨wr.heap.size, 3, none⟩ = some (.int .i64 y.d) ∧ W'.cell? ⟨wr.heap.size, 4, none⟩ = some (.slice ad' y.sub.length cap') ∧ W'.cell? ⟨w.heap.size + 1, 0, none⟩ = some (.slice (some ⟨b, off, none⟩) xs.length capp) ∧ W'.cell? ⟨b, off + j, none⟩ = some (.int .u8 (p : Int))) (fun W' hW' => ⟨hW'.cell (by go_simp), hW'.cell (by go_simp), hW'.cell (by go_simp), hW'.cell (by go_simp), hW'.cell (by go_simp), hW'.cell (by go_simp), hW'.cell (by go_simp)⟩) (by kernel_rfl) (by kernel_rfl) ?_
        intro HCW
        repeat (first | go_big_quiet_skip | (go_big_quiet_want; apply Exists.intro; refine ⟨fun W hW => ?_, ?_⟩; (focus (obtain ⟨p0, p1, p2, p3, p4, p5, p6⟩ := HCW W hW; go_simp; first | done | rfl | with_reducible exact ext_callsE HZ.out W hW)); (simp only [Act.put, List.setIfInBounds_toArray, List.set_cons_zero, List.set_cons_succ]); go_big_quiet_on))
        refine wpQuiet_nil ?_
        intro W hW
        have q2 : W.cell? ⟨w.heap.size + 1, 0, none⟩ = some (.slice (some ⟨b, off, none⟩) xs.length capp) := hW.cell (by go_simp)
        have q3 : W.cell? ⟨w.heap.size + 1, 1, none⟩ = some (.int .u8 (own : Int)) := hW.cell (by go_simp)
        have hb3 : Below w.heap.size w W := (hbel.alloc hzw _).trans (Below.mono hW (by simp; omega))
        clear hW HCW HZ hbel q0 q1 hpw c0 c1 c2 c3 c4
        by_cases hyp : y.sort = p
        · have HN : Hid ((Ex.sorts xs).take (j + 1) = ps.take (j + 1)) := Lib.hid (take_succ_eq HT.out (by rw [HYs.out, hyp]) HPs.out)
          have hyp' : ((y.sort : Int) == (p : Int)) = true := by rw [hyp]; simp
          have hyp2 : ((y.sort : Int) != (p : Int)) = false := by rw [hyp]; simp
          go_wp2
          go_roundw
          case rel => exact ⟨j + 1, by omega, by go_num, HN, hb3, q2, q3⟩
          case measure => simp [intOf]; omega
        · have HF : Hid (R = 0) := Lib.hid (HX.out (fun h => by
            have h1 := HYs.out
            rw [h, HPs.out] at h1
            exact hyp (Option.some.inj h1).symm))
          have hyp2 : ((y.sort : Int) != (p : Int)) = true := by rw [bne_iff_ne]; omega
          go_wp2
          go_ret
          exact ⟨by rw [HF.out]; rfl, hb3⟩
      · obtain rfl : j = xs.length := by omega
        have HF : Hid (R = own) := Lib.hid (HY.out (by
          have h := HT.out
          rw [HG.out, List.take_length, List.take_of_length_le (by rw [Ex.sorts_length, HG.out]; exact Nat.le_refl _)] at h
          exact h))
        go_wp2
        go_ret
        exact ⟨by rw [HF.out]; rfl, hbel⟩
  · have HF : Hid (partSort ra nm d (Ex.sorts xs) ps own = 0) := Lib.hid (sorted_no_parts (fun h => hgood ⟨h.1, h.2.1, h.2.2.1, by rw [← Ex.sorts_length xs, h.2.2.2]⟩))
    generalize partSort ra nm d (Ex.sorts xs) ps own = R at *
    go_enter Tryz.func170, Tryz.ntmps170
    go_wp2_with fail
    all_goals first
      | (go_ret; exact ⟨by rw [HF.out]; rfl, hb0⟩)
      | (exfalso; exact hgood ⟨(sz_nil _).2 (by assumption), (sz_nil _).2 (by assumption), by first | assumption | (rename_i hq _; simpa using hq) | simp_all, by omega⟩)

set_option maxRecDepth 100000 in
theorem sorted_any : ∀ (N : Nat) (x : Ex) (s : Value) (w : World), x.bulk ≤ N → x.bulk ≤ 2000000 → RdE w x.sub s → x.k < 256 → LookS w →
    Calls Tryz.prog 170 #[x.val s] w fun e w' => e = .returned (.int .u8 ((x.sort : Nat) : Int)) ∧ Below w.heap.size w w' := by
  intro N
  induction N with
  | zero =>
    intro x s w h0
    rw [Ex.bulk_eq] at h0
    omega
  | succ N ih =>
    intro x s w hN hB hs hk8 hL
    obtain ⟨ad, cap, rfl⟩ := hs.len
    have HS := Lib.hid hs
    have HI := Lib.hid ih
    have HL := Lib.hid hL
    have hbq := x.bulk_eq
    have hlen := Ex.bulks_len x.sub
    have hlt0 := x.sub_lt
    have hn : x.sub.length ≤ 2000000 := by omega
    have hr1 : x.ra.size ≤ 2000000 := by omega
    have hr2 : x.nm.size ≤ 2000000 := by omega
    have hb0 := below_a1 w (.cells #[.int .u8 x.k, .string x.ra, .string x.nm, .int .i64 x.d, .slice ad x.sub.length cap] 25)
    have hso := x.sort_eq
    unfold sortOf at hso
    rw [Ex.sorts_length] at hso
    obtain ⟨bm, hm, hall⟩ := hL
    have hsh := hall _ hb0 x.k hk8
    have hmb : 1 < w.heap.size := World.block_lt_of_cell? w _ hm
    clear hs ih hbq hall
    cases hsk : shapeOf x.k with
    | none =>
      rw [hsk] at hsh hso
      simp only [] at hso
      simp only [ShapeAt] at hsh
      have HLf := Lib.hid (leaf_core x.k x.sub.length x.ra x.nm x.d ad cap)
      rw [hso]
      unfold Ex.val
      generalize hX : leafSort x.k x.ra x.nm x.d x.sub.length = LS at *
      clear hX hso hsk
      go_enter Tryz.func170, Tryz.ntmps170
      go_wp2_with fail
      refine (HLf.out _ hn hr1 hr2).mono ?_
      rintro e w1 ⟨rfl, hb1⟩
      have hb2 : Below w.heap.size w w1 := (below_a2 w _ _).trans (hb1.mono (by simp; omega))
      clear hb1
      go_wp2
      go_ret
      exact ⟨rfl, hb2⟩
    | some q =>
      obtain ⟨ps, own⟩ := q
      rw [hsk] at hsh hso
      simp only [] at hso
      obtain ⟨b, off, capp, h4, h5⟩ := hsh
      rw [hso]
      exact sorted_core x.k x.ra x.nm x.d x.sub ad cap ps own bm b off capp w hn (Lib.hid fun y hy s W hr hl => by
        have hlt := Ex.mem_lt hy
        have hk : y.k < 256 := by
          obtain ⟨j, hj⟩ := List.mem_iff_getElem?.1 hy
          obtain ⟨_, _, _, _, _, _, _, _, _, _, h⟩ := HS.out.at hj
          exact h
        exact HI.out y s W (by omega) (by omega) hr hk hl) HS HL hm h4 (Lib.hid h5)
end Go.Proofs.YtflddbgadkndlaaGreatDoor
