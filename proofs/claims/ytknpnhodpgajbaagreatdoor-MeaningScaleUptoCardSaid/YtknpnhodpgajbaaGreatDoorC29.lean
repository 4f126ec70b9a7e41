/-
  novationref10.work, Heavy; novationlaw10.great: they answer. The union of two contracts: plain. The union: one step of the merge, plain. The variables of a law about two contracts and what is known. The variables of a law about one contract and what is known.
-/
import Derived.Test.YtknpnhodpgajbaaGreatDoorC27
import Derived.Test.YtknpnhodpgajbaaGreatDoorC08
import Derived.Test.YtknpnhodpgajbaaGreatDoorC28
import Derived.Deep.RegionHeld3
import Derived.Test.YtknpnhodpgajbaaGreatDoorC18
namespace Go.Proofs.YtknpnhodpgajbaaGreatDoor
open Go.RowKit
set_option maxHeartbeats 2000000 in
set_option maxRecDepth 100000 in
theorem work_any : ∀ (N : Nat) (x : Con) (es dd ss : Value) (w : World), x.bulk ≤ N → x.bulk ≤ 2000000 → RdN w x es dd ss →
  Calls Tryz.prog 81 #[x.val es dd ss] w fun e w' => (∃ m : Int, e = .returned (.int .i64 m)) ∧ Below w.heap.size w w' := by
 intro N
 induction N with
 | zero =>
  intro x es dd ss w h0
  rw [Con.bulk_eq] at h0
  omega
 | succ N ih =>
  intro x es dd ss w hN hB hs
  obtain ⟨ad, cap, rfl⟩ := hs.2.2.1.len
  obtain ⟨ad1, cap1, rfl⟩ := hs.1.len
  obtain ⟨ad2, cap2, rfl⟩ := hs.2.1.len
  have HS := Lib.hid hs.2.2.1
  have HE := Lib.hid hs.1
  have HI := Lib.hid ih
  have hsq1 := x.bulk_eq
  have hlen := Con.bulks_len x.sub
  have hn : x.sub.length ≤ 2000000 := by omega
  have hexb : x.ex.bulk ≤ 2000000 := by omega
  obtain ⟨W1, hW1, hb2, hz1, bx⟩ : ∃ W, w.alloc (.cells #[.int .u8 x.k, .string x.fr, .string x.rc, .string x.nm, .int .u8 x.ex.k, .string x.ex.ra, .string x.ex.nm, .int .i64 x.ex.d, .slice ad1 x.ex.sub.length cap1, .int .i64 x.d, .slice ad2 x.ds.length cap2, .slice ad x.sub.length cap] 29) = W ∧ Below w.heap.size w W ∧ w.heap.size < W.heap.size ∧ BoxN W w.heap.size 29 (x.cells (.slice ad1 x.ex.sub.length cap1) (.slice ad2 x.ds.length cap2) (.slice ad x.sub.length cap)) :=
   ⟨_, rfl, below_a1 _ _, by simp, BoxN.new w _ _⟩
  have HZ : Hid (∀ W, Below W1.heap.size W1 W → Calls Tryz.prog 137 #[.agg #[.int .u8 x.ex.k, .string x.ex.ra, .string x.ex.nm, .int .i64 x.ex.d, .slice ad1 x.ex.sub.length cap1]] W fun e w' => e = .returned (.int .i64 (x.ex.size : Int)) ∧ Below W.heap.size W w') :=
   Lib.hid fun W hW => rsize_any x.ex.bulk x.ex _ W (Nat.le_refl _) hexb (HE.out.frame (hb2.trans (hW.mono (by omega))))
  have HBx : Hid (∀ W, Below W1.heap.size W1 W → W.cell? ⟨w.heap.size, 4, none⟩ = some (.int .u8 x.ex.k) ∧ W.cell? ⟨w.heap.size, 5, none⟩ = some (.string x.ex.ra) ∧ W.cell? ⟨w.heap.size, 6, none⟩ = some (.string x.ex.nm) ∧ W.cell? ⟨w.heap.size, 7, none⟩ = some (.int .i64 x.ex.d) ∧ W.cell? ⟨w.heap.size, 8, none⟩ = some (.slice ad1 x.ex.sub.length cap1) ∧ W.cell? ⟨w.heap.size, 10, none⟩ = some (.slice ad2 x.ds.length cap2) ∧ W.cell? ⟨w.heap.size, 11, none⟩ = some (.slice ad x.sub.length cap)) := Lib.hid fun W hW => by
   have h := bx.below hW bx.lt
   exact ⟨h.cell (j := 4) rfl, h.cell (j := 5) rfl, h.cell (j := 6) rfl, h.cell (j := 7) rfl, h.cell (j := 8) rfl, h.cell (j := 10) rfl, h.cell (j := 11) rfl⟩
  obtain ⟨c4, c5, c6, c7, c8, c10, c11⟩ := HBx.out W1 (Below.refl _ _)
  have hd : Below W1.heap.size W1 W1.drew := (Below.refl _ _).drew
  clear hs ih hsq1 bx
  unfold Con.val
  go_enter Tryz.func81, Tryz.ntmps81
  go_upto_region 1 with (fail)
  clear hW1
  go_upto_region 2 with (fail)
  go_cut [3] from 5 to 13 (fun v wc => (∃ m : Int, v = .int .i64 m) ∧ Below W1.heap.size W1 wc)
  case first =>
   by_cases hm1 : (1 : Int) < (x.ds.length : Int)
   all_goals (try have hm2 : (x.ds.length : Int) ≤ 1 := Int.not_lt.1 hm1)
   all_goals
    go_wp2_with fail
    go_region_held3 (fun W => W.cell? ⟨w.heap.size, 4, none⟩ = some (.int .u8 x.ex.k) ∧ W.cell? ⟨w.heap.size, 5, none⟩ = some (.string x.ex.ra) ∧ W.cell? ⟨w.heap.size, 6, none⟩ = some (.string x.ex.nm) ∧ W.cell? ⟨w.heap.size, 7, none⟩ = some (.int .i64 x.ex.d) ∧ W.cell? ⟨w.heap.size, 8, none⟩ = some (.slice ad1 x.ex.sub.length cap1) ∧ W.cell? ⟨w.heap.size, 10, none⟩ = some (.slice ad2 x.ds.length cap2))
     (first | assumption | exact ⟨by assumption, by assumption, by assumption, by assumption, by assumption, by assumption⟩ | go_keep)
     (first | (go_at_call 137; refine (HZ.out _ hd).mono ?_; rintro e w5 ⟨rfl, hb5⟩; have hb6 := hd.trans hb5; obtain ⟨x4, x5, x6, x7, x8, x10, _⟩ := HBx.out _ hb6))
    all_goals
     go_wp2
     go_meet
     exact ⟨⟨_, rfl⟩, hb6⟩
  case rest =>
   obtain ⟨⟨m0, rfl⟩, hbc⟩ := hcut
   have q11 : wc.cell? ⟨w.heap.size, 11, none⟩ = some (.slice ad x.sub.length cap) := (HBx.out wc hbc).2.2.2.2.2.2
   have hb3 := hb2.trans (hbc.mono hb2.size)
   clear hbc HBx HZ hd c4 c5 c6 c7 c8 c10 c11 hb2 HE
   go_wp2_with fail
   go_loopw [3, 4] (fun n i wr => ∃ (k : Nat) (S : Int), k ≤ x.sub.length ∧ i = .int .i64 (k : Int) ∧ n = .int .i64 S ∧ Below w.heap.size w wr ∧ wr.cell? ⟨w.heap.size, 11, none⟩ = some (.slice ad x.sub.length cap)) (fun _ i _ => x.sub.length - (intOf i).toNat)
   case atStart => exact ⟨0, m0, Nat.zero_le _, rfl, rfl, hb3, q11⟩
   case round =>
    clear hb3
    obtain ⟨k, S, hk, rfl, rfl, hbel, q0⟩ := hrel
    by_cases hlt : k < x.sub.length
    ·by_cases hli : S < 100000
     ·obtain ⟨y, hy⟩ : ∃ y, x.sub[k]? = some y := ⟨_, List.getElem?_eq_getElem hlt⟩
      obtain ⟨b, off, es', dd', ss', rfl, ⟨c0, c1, c2, c3, c4, c5, c6, c7, c8, c9, c10, c11⟩, hs'⟩ := (HS.out.frame hbel).cells hy
      have hym := Con.mem_lt (List.mem_of_getElem? hy)
      have hblk : b < wr.heap.size := World.block_lt_of_cell? wr _ c0
      have hbx : w.heap.size < wr.heap.size := World.block_lt_of_cell? wr _ q0
      have hzw := hbel.size
      have hk1 : (0 : Int) ≤ (k : Int) := by omega
      have hk2 : (k : Int) < (x.sub.length : Int) := by omega
      have HC := Lib.hid (HI.out y es' dd' ss' wr (by omega) (by omega) hs')
      unfold Con.val at HC
      clear hy hym hs'
      go_wp2_with fail
      refine HC.out.mono ?_
      rintro e w1 ⟨⟨m, rfl⟩, hb1⟩
      have q1 : w1.cell? ⟨w.heap.size, 11, none⟩ = some (.slice (some ⟨b, off, none⟩) x.sub.length cap) := by rw [hb1.cell (p := ⟨w.heap.size, 11, none⟩) hbx]; exact q0
      have hb2 := hbel.trans (hb1.mono hzw)
      clear hb1 hbel q0 HC c0 c1 c2 c3 c4 c5 c6 c7 c8 c9 c10 c11
      go_wp2
      go_roundw
      case rel => exact ⟨k + 1, _, by omega, by go_num, rfl, hb2, q1⟩
      case measure => simp [intOf]; omega
     ·go_wp2
      go_ret
      exact ⟨⟨_, rfl⟩, hbel⟩
    ·go_wp2
     go_ret
     exact ⟨⟨_, rfl⟩, hbel⟩
structure Bx2 (W : World) (B : Nat) (c : Con) (es dd ss : Value) (E : EvD) : Prop where
 c : BoxN W B 29 (c.cells es dd ss)
 v : BoxN W (B + 1) 33 [.slice E.af E.F.length E.cf, .slice E.ac E.C.length E.cc]
theorem bx2_world (w : World) (c : Con) (es dd ss : Value) (E : EvD) : ∃ W, (w.alloc (.cells #[.int .u8 c.k, .string c.fr, .string c.rc, .string c.nm, .int .u8 c.ex.k, .string c.ex.ra, .string c.ex.nm, .int .i64 c.ex.d, es, .int .i64 c.d, dd, ss] 29)).alloc (.cells #[.slice E.af E.F.length E.cf, .slice E.ac E.C.length E.cc] 33) = W ∧ Below w.heap.size w W ∧ w.heap.size + 2 ≤ W.heap.size ∧ Bx2 W w.heap.size c es dd ss E := by
 refine ⟨_, rfl, below_a2 _ _ _, by simp, ?_⟩
 have hc := BoxN.new w (c.cells es dd ss) 29
 have hv := BoxN.new (w.alloc (.cells (c.cells es dd ss).toArray 29)) [.slice E.af E.F.length E.cf, .slice E.ac E.C.length E.cc] 33
 simp only [World.size_alloc] at hv
 exact ⟨hc.alloc _, hv⟩
theorem Bx2.below {W W' : World} {B : Nat} {c : Con} {es dd ss : Value} {E : EvD} (h : Bx2 W B c es dd ss E) (hb : Below W.heap.size W W') : Bx2 W' B c es dd ss E := ⟨h.c.below hb h.c.lt, h.v.below hb h.v.lt⟩
set_option maxHeartbeats 1000000 in
set_option maxRecDepth 100000 in
theorem heavy_any (x : Con) (es dd ss : Value) (E : EvD) (w : World) (hB : x.bulk ≤ 2000000) (hs : RdN w x es dd ss) (hE : E.Rd w) :
  Calls Tryz.prog 39 #[x.val es dd ss, E.val] w (BoolPost w) := by
 obtain ⟨ad, cap, rfl⟩ := hs.2.2.1.len
 obtain ⟨ad1, cap1, rfl⟩ := hs.1.len
 obtain ⟨ad2, cap2, rfl⟩ := hs.2.1.len
 obtain ⟨W0, hW0, hb0, hz0, bx⟩ := bx2_world w x (.slice ad1 x.ex.sub.length cap1) (.slice ad2 x.ds.length cap2) (.slice ad x.sub.length cap) E
 have HC := Lib.hid (work_any x.bulk x _ _ _ W0 (Nat.le_refl _) hB (hs.frame hb0))
 unfold Con.val at HC
 have c0 : W0.cell? ⟨w.heap.size, 0, none⟩ = some (.int .u8 x.k) := bx.c.cell (j := 0) rfl
 have c1 : W0.cell? ⟨w.heap.size, 1, none⟩ = some (.string x.fr) := bx.c.cell (j := 1) rfl
 have c2 : W0.cell? ⟨w.heap.size, 2, none⟩ = some (.string x.rc) := bx.c.cell (j := 2) rfl
 have c3 : W0.cell? ⟨w.heap.size, 3, none⟩ = some (.string x.nm) := bx.c.cell (j := 3) rfl
 have c4 : W0.cell? ⟨w.heap.size, 4, none⟩ = some (.int .u8 x.ex.k) := bx.c.cell (j := 4) rfl
 have c5 : W0.cell? ⟨w.heap.size, 5, none⟩ = some (.string x.ex.ra) := bx.c.cell (j := 5) rfl
 have c6 : W0.cell? ⟨w.heap.size, 6, none⟩ = some (.string x.ex.nm) := bx.c.cell (j := 6) rfl
 have c7 : W0.cell? ⟨w.heap.size, 7, none⟩ = some (.int .i64 x.ex.d) := bx.c.cell (j := 7) rfl
 have c8 : W0.cell? ⟨w.heap.size, 8, none⟩ = some (.slice ad1 x.ex.sub.length cap1) := bx.c.cell (j := 8) rfl
 have c9 : W0.cell? ⟨w.heap.size, 9, none⟩ = some (.int .i64 x.d) := bx.c.cell (j := 9) rfl
 have c10 : W0.cell? ⟨w.heap.size, 10, none⟩ = some (.slice ad2 x.ds.length cap2) := bx.c.cell (j := 10) rfl
 have c11 : W0.cell? ⟨w.heap.size, 11, none⟩ = some (.slice ad x.sub.length cap) := bx.c.cell (j := 11) rfl
 have HB := Lib.hid bx
 have h1 := hE.nf
 have h2 := hE.nc
 have h3 : IntKind.i64.wrap (10 + (E.F.length : Int)) = 10 + (E.F.length : Int) := IntWalk.i64_in _ (by omega)
 have h4 : IntKind.i64.wrap (10 + (E.F.length : Int) + (E.C.length : Int)) = 10 + (E.F.length : Int) + (E.C.length : Int) := IntWalk.i64_in _ (by omega)
 have Hb0 := Lib.hid hb0
 clear hs bx hE hb0
 show Calls _ _ #[.agg #[.int .u8 x.k, .string x.fr, .string x.rc, .string x.nm, .int .u8 x.ex.k, .string x.ex.ra, .string x.ex.nm, .int .i64 x.ex.d, .slice ad1 x.ex.sub.length cap1, .int .i64 x.d, .slice ad2 x.ds.length cap2, .slice ad x.sub.length cap], .agg #[.slice E.af E.F.length E.cf, .slice E.ac E.C.length E.cc]] _ _
 go_enter Tryz.func39, Tryz.ntmps39
 go_upto_region 2 with (fail)
 go_wp2_with (go_at_call 81; refine HC.out.mono ?_; rintro e w1 ⟨⟨m, rfl⟩, hb1⟩; have hB1 := HB.out.below hb1; have v0 : w1.cell? ⟨w.heap.size + 1, 0, none⟩ = some (.slice E.af E.F.length E.cf) := hB1.v.cell (j := 0) rfl; have v1 : w1.cell? ⟨w.heap.size + 1, 1, none⟩ = some (.slice E.ac E.C.length E.cc) := hB1.v.cell (j := 1) rfl)
 all_goals
  go_ret
  exact .mk _ rfl (Hb0.out.trans (hb1.mono Hb0.out.size))
set_option maxHeartbeats 2000000 in
set_option maxRecDepth 100000 in
theorem great10_any (x : Con) (es dd ss : Value) (E : EvD) (w : World) (hB : x.bulk ≤ 2000000) (hs : RdN w x es dd ss) (hE : E.Rd w) (hf : ∀ f ∈ E.F, f.small) (hc : ∀ c ∈ E.C, c.small) :
  Calls Tryz.prog 9 #[x.val es dd ss, E.val] w (BoolPost w) := by
 obtain ⟨ad, cap, rfl⟩ := hs.2.2.1.len
 obtain ⟨ad1, cap1, rfl⟩ := hs.1.len
 obtain ⟨ad2, cap2, rfl⟩ := hs.2.1.len
 obtain ⟨W0, hW0, hb0, hz0, bx⟩ := bx2_world w x (.slice ad1 x.ex.sub.length cap1) (.slice ad2 x.ds.length cap2) (.slice ad x.sub.length cap) E
 have HG : Hid (∀ W, Below W0.heap.size W0 W → Calls Tryz.prog 37 #[.agg #[.int .u8 x.k, .string x.fr, .string x.rc, .string x.nm, .int .u8 x.ex.k, .string x.ex.ra, .string x.ex.nm, .int .i64 x.ex.d, .slice ad1 x.ex.sub.length cap1, .int .i64 x.d, .slice ad2 x.ds.length cap2, .slice ad x.sub.length cap]] W (BoolPost W)) := Lib.hid fun W hb => cgreat_any x _ _ _ W hB ((hs.frame hb0).frame hb)
 have HE : Hid (∀ W, Below W0.heap.size W0 W → Calls Tryz.prog 38 #[.agg #[.slice E.af E.F.length E.cf, .slice E.ac E.C.length E.cc]] W (BoolPost W)) := Lib.hid fun W hb => (great_any E.F E.C E.af E.ac E.cf E.cc W hE.nf hE.nc ((hE.frame hb0).frame hb).f ((hE.frame hb0).frame hb).c hf hc).mono fun e w' h => .mk _ h.1 h.2
 have HH : Hid (∀ W, Below W0.heap.size W0 W → Calls Tryz.prog 39 #[.agg #[.int .u8 x.k, .string x.fr, .string x.rc, .string x.nm, .int .u8 x.ex.k, .string x.ex.ra, .string x.ex.nm, .int .i64 x.ex.d, .slice ad1 x.ex.sub.length cap1, .int .i64 x.d, .slice ad2 x.ds.length cap2, .slice ad x.sub.length cap], .agg #[.slice E.af E.F.length E.cf, .slice E.ac E.C.length E.cc]] W (BoolPost W)) := Lib.hid fun W hb => heavy_any x _ _ _ E W hB ((hs.frame hb0).frame hb) ((hE.frame hb0).frame hb)
 have c0 : W0.cell? ⟨w.heap.size, 0, none⟩ = some (.int .u8 x.k) := bx.c.cell (j := 0) rfl
 have c1 : W0.cell? ⟨w.heap.size, 1, none⟩ = some (.string x.fr) := bx.c.cell (j := 1) rfl
 have c2 : W0.cell? ⟨w.heap.size, 2, none⟩ = some (.string x.rc) := bx.c.cell (j := 2) rfl
 have c3 : W0.cell? ⟨w.heap.size, 3, none⟩ = some (.string x.nm) := bx.c.cell (j := 3) rfl
 have c4 : W0.cell? ⟨w.heap.size, 4, none⟩ = some (.int .u8 x.ex.k) := bx.c.cell (j := 4) rfl
 have c5 : W0.cell? ⟨w.heap.size, 5, none⟩ = some (.string x.ex.ra) := bx.c.cell (j := 5) rfl
 have c6 : W0.cell? ⟨w.heap.size, 6, none⟩ = some (.string x.ex.nm) := bx.c.cell (j := 6) rfl
 have c7 : W0.cell? ⟨w.heap.size, 7, none⟩ = some (.int .i64 x.ex.d) := bx.c.cell (j := 7) rfl
 have c8 : W0.cell? ⟨w.heap.size, 8, none⟩ = some (.slice ad1 x.ex.sub.length cap1) := bx.c.cell (j := 8) rfl
 have c9 : W0.cell? ⟨w.heap.size, 9, none⟩ = some (.int .i64 x.d) := bx.c.cell (j := 9) rfl
 have c10 : W0.cell? ⟨w.heap.size, 10, none⟩ = some (.slice ad2 x.ds.length cap2) := bx.c.cell (j := 10) rfl
 have c11 : W0.cell? ⟨w.heap.size, 11, none⟩ = some (.slice ad x.sub.length cap) := bx.c.cell (j := 11) rfl
 have HB := Lib.hid bx
 have Hb0 := Lib.hid hb0
 clear hs bx hE hb0 hf hc
 show Calls _ _ #[.agg #[.int .u8 x.k, .string x.fr, .string x.rc, .string x.nm, .int .u8 x.ex.k, .string x.ex.ra, .string x.ex.nm, .int .i64 x.ex.d, .slice ad1 x.ex.sub.length cap1, .int .i64 x.d, .slice ad2 x.ds.length cap2, .slice ad x.sub.length cap], .agg #[.slice E.af E.F.length E.cf, .slice E.ac E.C.length E.cc]] _ _
 go_enter Tryz.func9, Tryz.ntmps9
 go_upto_region 1 with (fail)
 clear hW0
 go_wp2_with (first | (go_at_call 37; refine (HG.out _ (Below.refl _ _)).mono ?_; rintro e w1 ⟨⟨b1, rfl⟩, hb1⟩; have hB1 := HB.out.below hb1; have pv0 : w1.cell? ⟨w.heap.size + 1, 0, none⟩ = some (.slice E.af E.F.length E.cf) := hB1.v.cell (j := 0) rfl; have pv1 : w1.cell? ⟨w.heap.size + 1, 1, none⟩ = some (.slice E.ac E.C.length E.cc) := hB1.v.cell (j := 1) rfl; have hbA := Hb0.out.trans (hb1.mono Hb0.out.size); cases b1) | (go_at_call 38; refine (HE.out _ hb1).mono ?_; rintro e w2 ⟨⟨b2, rfl⟩, hb2⟩; have hB2 := hB1.below hb2; have qv0 : w2.cell? ⟨w.heap.size + 1, 0, none⟩ = some (.slice E.af E.F.length E.cf) := hB2.v.cell (j := 0) rfl; have qv1 : w2.cell? ⟨w.heap.size + 1, 1, none⟩ = some (.slice E.ac E.C.length E.cc) := hB2.v.cell (j := 1) rfl; have k0 : w2.cell? ⟨w.heap.size, 0, none⟩ = some (.int .u8 x.k) := hB2.c.cell (j := 0) rfl; have k1 : w2.cell? ⟨w.heap.size, 1, none⟩ = some (.string x.fr) := hB2.c.cell (j := 1) rfl; have k2 : w2.cell? ⟨w.heap.size, 2, none⟩ = some (.string x.rc) := hB2.c.cell (j := 2) rfl; have k3 : w2.cell? ⟨w.heap.size, 3, none⟩ = some (.string x.nm) := hB2.c.cell (j := 3) rfl; have k4 : w2.cell? ⟨w.heap.size, 4, none⟩ = some (.int .u8 x.ex.k) := hB2.c.cell (j := 4) rfl; have k5 : w2.cell? ⟨w.heap.size, 5, none⟩ = some (.string x.ex.ra) := hB2.c.cell (j := 5) rfl; have k6 : w2.cell? ⟨w.heap.size, 6, none⟩ = some (.string x.ex.nm) := hB2.c.cell (j := 6) rfl; have k7 : w2.cell? ⟨w.heap.size, 7, none⟩ = some (.int .i64 x.ex.d) := hB2.c.cell (j := 7) rfl; have k8 : w2.cell? ⟨w.heap.size, 8, none⟩ = some (.slice ad1 x.ex.sub.length cap1) := hB2.c.cell (j := 8) rfl; have k9 : w2.cell? ⟨w.heap.size, 9, none⟩ = some (.int .i64 x.d) := hB2.c.cell (j := 9) rfl; have k10 : w2.cell? ⟨w.heap.size, 10, none⟩ = some (.slice ad2 x.ds.length cap2) := hB2.c.cell (j := 10) rfl; have k11 : w2.cell? ⟨w.heap.size, 11, none⟩ = some (.slice ad x.sub.length cap) := hB2.c.cell (j := 11) rfl; have hb12 := hb1.trans (hb2.mono hb1.size); have hbB := hbA.trans (hb2.mono hbA.size); cases b2) | (go_at_call 39; refine (HH.out _ hb12).mono ?_; rintro e w3 ⟨⟨b3, rfl⟩, hb3⟩; have hbC := hbB.trans (hb3.mono hbB.size)))
 all_goals
  go_ret
  first | exact .mk _ rfl hbC | exact .mk _ rfl hbB | exact .mk _ rfl hbA
end Go.Proofs.YtknpnhodpgajbaaGreatDoor

namespace Go.Proofs.YtknpnhodpgajbaaGreatDoor
open Go.RowKit
def bothM (a b : Con) : Con := .mk 3 mE mE mE xZ 0 [] [a, b]
theorem both_err {a b : Con} (h : (bothM a b).err = 0) : a.err = 0 ∧ b.err = 0 := by
 have hs : ¬ (500 < (bothM a b).size ∨ 60 < (bothM a b).depth) := by
  intro h1; unfold Con.err at h; rw [if_pos h1] at h; cases h
 have hf : (bothM a b).formed = true := by
  unfold Con.err at h; rw [if_neg hs] at h; split at h
  ·assumption
  ·cases h
 have e1 : (bothM a b).size = 1 + 0 + (a.size + (b.size + 0)) := by rw [bothM, Con.size, Con.sizes, Con.sizes, Con.sizes]; rfl
 have e2 : (bothM a b).depth = max 0 (max a.depth (max b.depth 0)) + 1 := by rw [bothM, Con.depth, Con.depths, Con.depths, Con.depths]; rfl
 rw [Con.formed_eq, Bool.and_eq_true, Con.formeds_eq] at hf
 have hl := List.all_eq_true.1 hf.2
 have ha : a.formed = true := hl a (by simp [bothM, Con.sub])
 have hb : b.formed = true := hl b (by simp [bothM, Con.sub])
 constructor
 ·unfold Con.err; rw [if_neg (by omega), if_pos ha]
 ·unfold Con.err; rw [if_neg (by omega), if_pos hb]
theorem andR_err {α β : Type} {a : Int × α} {z : β} {f : α → Int × β} (h : a.1 ≠ 0) : andR a z f = (a.1, z) := if_pos h
theorem andR_go {α β : Type} {a : Int × α} {z : β} {f : α → Int × β} (h : a.1 = 0) : andR a z f = f a.2 := if_neg fun k => k h
theorem both_flows (a b : Con) (F : List Fx) (C : List Ch) (day fin : Int) : (bothM a b).flows F C day fin = if fin ≤ day then (0, []) else andR (a.flows F C day fin) [] fun x => andR (b.flows F C day fin) [] fun y => (0, x ++ y) := by
 rw [bothM, Con.flows]
 by_cases h : fin ≤ day
 ·rw [if_pos h, if_pos h]
 ·rw [if_neg h, if_neg h]; rfl
theorem flows_late (a : Con) (F : List Fx) (C : List Ch) (day fin : Int) (h : fin ≤ day) : a.flows F C day fin = (0, []) := by
 cases a; rw [Con.flows.eq_def]; simp only; rw [if_pos h]
theorem befR_nil {c : Con} {day fin : Int} {F : List Fx} {C : List Ch} (h : (befR c day fin F C).1 ≠ 0) : (befR c day fin F C).2 = [] := by
 unfold befR at h ⊢
 repeat' split
 all_goals first
  | rfl
  | skip
 rename_i h1 h2 h3
 rw [if_neg h1, if_neg h2, if_neg h3] at h
 by_cases h0 : (c.flows F C day fin).1 = 0
 ·rw [andR_go h0] at h; exact absurd rfl h
 ·rw [andR_err h0]
theorem befR_ok {c : Con} (h : c.err = 0) (day fin : Int) (F : List Fx) (C : List Ch) : befR c day fin F C = if envErr F C ≠ 0 then (envErr F C, []) else if day < 0 ∨ 99999 < day ∨ fin < 0 ∨ 100000 < fin then (2, []) else andR (c.flows F C day fin) [] fun l => (0, srtFl l) := if_neg fun k => k h
theorem befR_both (a b : Con) (day fin : Int) (F : List Fx) (C : List Ch) (h : (bothM a b).err = 0) :
  ((befR a day fin F C).1 ≠ 0 → befR (bothM a b) day fin F C = ((befR a day fin F C).1, [])) ∧
  ((befR a day fin F C).1 = 0 → (befR b day fin F C).1 ≠ 0 → befR (bothM a b) day fin F C = ((befR b day fin F C).1, [])) ∧
  ((befR a day fin F C).1 = 0 → (befR b day fin F C).1 = 0 → befR (bothM a b) day fin F C = (0, mrgFl (befR a day fin F C).2 (befR b day fin F C).2)) := by
 obtain ⟨ha, hb⟩ := both_err h
 rw [befR_ok h, befR_ok ha, befR_ok hb]
 by_cases he : envErr F C = 0
 ·simp only [if_neg (show ¬ (envErr F C ≠ 0) from fun k => k he)]
  by_cases hd : day < 0 ∨ 99999 < day ∨ fin < 0 ∨ 100000 < fin
  ·simp only [if_pos hd]; simp
  ·simp only [if_neg hd]
   rw [both_flows]
   by_cases hl : fin ≤ day
   ·rw [if_pos hl, flows_late a _ _ _ _ hl, flows_late b _ _ _ _ hl]
    exact ⟨fun k => absurd rfl k, fun _ k => absurd rfl k, fun _ _ => by simp [andR, srtFl, nil_mrgFl]⟩
   ·rw [if_neg hl]
    generalize a.flows F C day fin = A
    generalize b.flows F C day fin = B
    by_cases h1 : A.1 = 0
    ·rw [andR_go h1, andR_go h1]
     by_cases h2 : B.1 = 0
     ·rw [andR_go h2, andR_go h2]
      refine ⟨fun k => absurd rfl k, fun _ k => absurd rfl k, fun _ _ => ?_⟩
      rw [andR_go rfl]
      show (0, srtFl (A.2 ++ B.2)) = _
      rw [srtFl_append]
     ·rw [andR_err h2, andR_err h2]
      exact ⟨fun k => absurd rfl k, fun _ _ => andR_err h2, fun _ k => absurd k h2⟩
    ·rw [andR_err h1, andR_err h1]
     exact ⟨fun _ => andR_err h1, fun k => absurd k h1, fun k => absurd k h1⟩
 ·simp only [if_pos (show envErr F C ≠ 0 from he)]; simp [he]
end Go.Proofs.YtknpnhodpgajbaaGreatDoor

namespace Go.Proofs.YtknpnhodpgajbaaGreatDoor
open Go.RowKit
theorem drop_head {α : Type} {U t : List α} {n : Nat} {z : α} (h : U.drop n = z :: t) : U[n]? = some z ∧ U.drop (n + 1) = t := by
 have h1 : (U.drop n)[0]? = some z := by rw [h]; rfl
 rw [List.getElem?_drop, Nat.add_zero] at h1
 refine ⟨h1, ?_⟩
 have h2 : (U.drop n).drop 1 = t := by rw [h]; rfl
 rw [List.drop_drop] at h2
 exact h2
theorem drop_at {α : Type} {U : List α} {n : Nat} {z : α} (h : U[n]? = some z) : U.drop n = z :: U.drop (n + 1) := by
 obtain ⟨hn, rfl⟩ := List.getElem?_eq_some_iff.1 h
 exact List.drop_eq_getElem_cons hn
theorem mrg_stepB {U A B : List Fl} {x y : Nat} {g : Fl} (h : U.drop (x + y) = mrgFl (A.drop x) (B.drop y)) (hg : B[y]? = some g) (hx : A.length ≤ x ∨ ∃ f, A[x]? = some f ∧ g.d < f.d) :
  U[x + y]? = some g ∧ U.drop (x + (y + 1)) = mrgFl (A.drop x) (B.drop (y + 1)) := by
 rw [drop_at hg] at h
 rcases hx with hx | ⟨f, hf, hlt⟩
 ·rw [List.drop_eq_nil_of_le hx, nil_mrgFl] at h
  rw [List.drop_eq_nil_of_le hx, nil_mrgFl]
  exact drop_head h
 ·rw [drop_at hf, mrgFl_cons, if_pos hlt] at h
  rw [drop_at hf]
  exact drop_head h
theorem mrg_stepA {U A B : List Fl} {x y : Nat} {f : Fl} (h : U.drop (x + y) = mrgFl (A.drop x) (B.drop y)) (hf : A[x]? = some f) (hy : B.length ≤ y ∨ ∃ g, B[y]? = some g ∧ ¬ g.d < f.d) :
  U[x + y]? = some f ∧ U.drop (x + 1 + y) = mrgFl (A.drop (x + 1)) (B.drop y) := by
 rw [drop_at hf] at h
 rw [show x + 1 + y = x + y + 1 by omega]
 rcases hy with hy | ⟨g, hg, hlt⟩
 ·rw [List.drop_eq_nil_of_le hy, mrgFl_nil] at h
  rw [List.drop_eq_nil_of_le hy, mrgFl_nil]
  exact drop_head h
 ·rw [drop_at hg, mrgFl_cons, if_neg hlt] at h
  rw [drop_at hg]
  exact drop_head h
theorem befR_len (c : Con) (day fin : Int) (F : List Fx) (C : List Ch) : (befR c day fin F C).2.length ≤ c.bulk := by
 unfold befR
 repeat' split
 all_goals first
  | exact Nat.zero_le _
  | skip
 unfold andR
 split
 ·exact Nat.zero_le _
 ·show (srtFl _).length ≤ _
  rw [srtFl_len]
  exact flows_len F C c.bulk c (Nat.le_refl _) day fin
end Go.Proofs.YtknpnhodpgajbaaGreatDoor

namespace Go.Proofs.YtknpnhodpgajbaaGreatDoor
open Go.RowKit
structure BxU (W : World) (B : Nat) (a b : Con) (es dd ss es2 dd2 ss2 : Value) (E : EvD) : Prop where
 a : BoxN W B 29 (a.cells es dd ss)
 b : BoxN W (B + 1) 29 (b.cells es2 dd2 ss2)
 v : BoxN W (B + 1 + 1) 33 [.slice E.af E.F.length E.cf, .slice E.ac E.C.length E.cc]
theorem BxU.below {W W' : World} {B : Nat} {a b : Con} {es dd ss es2 dd2 ss2 : Value} {E : EvD} (h : BxU W B a b es dd ss es2 dd2 ss2 E) (hb : Below W.heap.size W W') : BxU W' B a b es dd ss es2 dd2 ss2 E :=
 ⟨h.a.below hb h.a.lt, h.b.below hb h.b.lt, h.v.below hb h.v.lt⟩
theorem bxu_world (w : World) (a b : Con) (es dd ss es2 dd2 ss2 : Value) (E : EvD) : ∃ W, ((w.alloc (.cells (a.cells es dd ss).toArray 29)).alloc (.cells (b.cells es2 dd2 ss2).toArray 29)).alloc (.cells #[.slice E.af E.F.length E.cf, .slice E.ac E.C.length E.cc] 33) = W ∧ Below w.heap.size w W ∧ w.heap.size + 3 ≤ W.heap.size ∧ BxU W w.heap.size a b es dd ss es2 dd2 ss2 E := by
 refine ⟨_, rfl, below_a3 _ _ _ _, by simp, ?_⟩
 have h1 := BoxN.new w (a.cells es dd ss) 29
 have h2 := BoxN.new (w.alloc (.cells (a.cells es dd ss).toArray 29)) (b.cells es2 dd2 ss2) 29
 have h3 := BoxN.new ((w.alloc (.cells (a.cells es dd ss).toArray 29)).alloc (.cells (b.cells es2 dd2 ss2).toArray 29)) [.slice E.af E.F.length E.cf, .slice E.ac E.C.length E.cc] 33
 simp only [World.size_alloc] at h2 h3
 exact ⟨(h1.alloc _).alloc _, h2.alloc _, h3⟩
end Go.Proofs.YtknpnhodpgajbaaGreatDoor

namespace Go.Proofs.YtknpnhodpgajbaaGreatDoor
open Go.RowKit
structure BxP (W : World) (B : Nat) (a : Con) (es dd ss : Value) (E : EvD) : Prop where
 a : BoxN W B 29 (a.cells es dd ss)
 v : BoxN W (B + 1) 33 [.slice E.af E.F.length E.cf, .slice E.ac E.C.length E.cc]
theorem BxP.below {W W' : World} {B : Nat} {a : Con} {es dd ss : Value} {E : EvD} (h : BxP W B a es dd ss E) (hb : Below W.heap.size W W') : BxP W' B a es dd ss E :=
 ⟨h.a.below hb h.a.lt, h.v.below hb h.v.lt⟩
theorem bxp_world (w : World) (a : Con) (es dd ss : Value) (E : EvD) : ∃ W, (w.alloc (.cells (a.cells es dd ss).toArray 29)).alloc (.cells #[.slice E.af E.F.length E.cf, .slice E.ac E.C.length E.cc] 33) = W ∧ Below w.heap.size w W ∧ w.heap.size + 2 ≤ W.heap.size ∧ BxP W w.heap.size a es dd ss E := by
 refine ⟨_, rfl, below_a2 _ _ _, by simp, ?_⟩
 have h1 := BoxN.new w (a.cells es dd ss) 29
 have h2 := BoxN.new (w.alloc (.cells (a.cells es dd ss).toArray 29)) [.slice E.af E.F.length E.cf, .slice E.ac E.C.length E.cc] 33
 simp only [World.size_alloc] at h2
 exact ⟨h1.alloc _, h2⟩
end Go.Proofs.YtknpnhodpgajbaaGreatDoor
