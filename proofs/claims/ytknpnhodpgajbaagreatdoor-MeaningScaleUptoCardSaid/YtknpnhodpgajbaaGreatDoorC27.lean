/-
  novationref09.count, weight, Great: they answer, and change nothing that was there. novationref08.GreatEnv.  Printed by tools/gengreat.py. Is a contract in order: the same by computation. Law 10's examples: plain. Contracts and expressions that a program builds can be read. meaning.Flows. novationlaw10.con, now, pay, known, twice.
-/
import Derived.Test.YtknpnhodpgajbaaGreatDoorC08
import Derived.Test.YtknpnhodpgajbaaGreatDoorC26
import Derived.Test.YtknpnhodpgajbaaGreatDoorC10
import Derived.Test.YtknpnhodpgajbaaGreatDoorC07
import Derived.Deep.CutBlock
import Derived.Test.YtknpnhodpgajbaaGreatDoorC17
import Derived.Test.YtknpnhodpgajbaaGreatDoorC01
namespace Go.Proofs.YtknpnhodpgajbaaGreatDoor
open Go.RowKit
set_option maxHeartbeats 1000000 in
set_option maxRecDepth 100000 in
theorem ccount_any : ∀ (N : Nat) (x : Con) (es dd ss : Value) (lim deep : Int) (w : World), x.bulk ≤ N → x.bulk ≤ 2000000 → RdN w x es dd ss → 0 ≤ lim → lim ≤ 1000 → 0 ≤ deep → deep ≤ 1000 →
  Calls Tryz.prog 79 #[x.val es dd ss, .int .i64 lim, .int .i64 deep] w (CountPost x.bulk w) := by
 intro N
 induction N with
 | zero =>
  intro x es dd ss lim deep w h0
  rw [Con.bulk_eq] at h0
  omega
 | succ N ih =>
  intro x es dd ss lim deep w hN hB hs hl0 hl1 hd0 hd1
  obtain ⟨ad, cap, rfl⟩ := hs.2.2.1.len
  obtain ⟨ad1, cap1, rfl⟩ := hs.1.len
  obtain ⟨ad2, cap2, rfl⟩ := hs.2.1.len
  have HS := Lib.hid hs.2.2.1
  have HI := Lib.hid ih
  have hlen := Con.bulks_len x.sub
  have hlt0 := x.sub_lt
  have hsq := Lib.hid x.bulk_eq
  have hsub := Con.sub_lt x
  have hn : x.sub.length ≤ 2000000 := by omega
  have hb0 := below_a1 w (.cells #[.int .u8 x.k, .string x.fr, .string x.rc, .string x.nm, .int .u8 x.ex.k, .string x.ex.ra, .string x.ex.nm, .int .i64 x.ex.d, .slice ad1 x.ex.sub.length cap1, .int .i64 x.d, .slice ad2 x.ds.length cap2, .slice ad x.sub.length cap] 29)
  clear hs ih
  unfold Con.val
  by_cases hdz : deep = 0
  ·subst hdz
   have H1 : Hid (1 ≤ x.bulk) := Lib.hid (by have := hsq.out; omega)
   go_enter Tryz.func79, Tryz.ntmps79
   go_wp2_with fail
   go_ret2
   exact .mk 1 false rfl H1.out hb0
  have hde : (deep == 0) = false := by simpa using hdz
  go_enter Tryz.func79, Tryz.ntmps79
  go_wp2_with fail
  go_loopw [8, 9] (fun n i wr => ∃ (k S : Nat), k ≤ x.sub.length ∧ i = .int .i64 (k : Int) ∧ n = .int .i64 (S : Int) ∧ S ≤ 2000000 ∧ Hid (S ≤ 1 + Con.bulks (x.sub.take k)) ∧ Below w.heap.size w wr ∧ wr.cell? ⟨w.heap.size, 11, none⟩ = some (.slice ad x.sub.length cap)) (fun _ i _ => x.sub.length - (intOf i).toNat)
  case atStart => exact ⟨0, 1, Nat.zero_le _, rfl, rfl, by omega, Lib.hid (by have := hsq.out; omega), hb0, by go_simp⟩
  case round =>
   clear hb0
   obtain ⟨k, S, hk, rfl, rfl, hS, HSz, hbel, q0⟩ := hrel
   have HS0 : Hid (S ≤ x.bulk) := Lib.hid (by have := hsq.out; have := HSz.out; have := Con.bulks_take x.sub k; omega)
   by_cases hlt : k < x.sub.length
   ·by_cases hli : (S : Int) ≤ lim
    ·obtain ⟨y, hy⟩ : ∃ y, x.sub[k]? = some y := ⟨_, List.getElem?_eq_getElem hlt⟩
     obtain ⟨b, off, es', dd', ss', rfl, ⟨c0, c1, c2, c3, c4, c5, c6, c7, c8, c9, c10, c11⟩, hs'⟩ := (HS.out.frame hbel).cells hy
     have hym := Con.mem_lt (List.mem_of_getElem? hy)
     have hblk : b < wr.heap.size := World.block_lt_of_cell? wr _ c0
     have hbx : w.heap.size < wr.heap.size := World.block_lt_of_cell? wr _ q0
     have hzw := hbel.size
     have HSn := Lib.hid (Con.bulks_snoc hy)
     have HSq := Lib.hid (Con.bulks_take x.sub (k + 1))
     have hk1 : (0 : Int) ≤ (k : Int) := by omega
     have hk2 : (k : Int) < (x.sub.length : Int) := by omega
     have e1 : IntKind.i64.wrap (lim - (S : Int)) = lim - (S : Int) := by rw [IntWalk.i64_in _ (by omega)]
     have e2 : IntKind.i64.wrap (deep - 1) = deep - 1 := by rw [IntWalk.i64_in _ (by omega)]
     have HC := Lib.hid (HI.out y es' dd' ss' (lim - (S : Int)) (deep - 1) wr (by omega) (by omega) hs' (by omega) (by omega) (by omega) (by omega))
     unfold Con.val at HC
     clear hy hym hs'
     go_wp2_with fail
     refine HC.out.mono ?_
     rintro e w1 ⟨⟨m, g, rfl, hm⟩, hb1⟩
     have q1 : w1.cell? ⟨w.heap.size, 11, none⟩ = some (.slice (some ⟨b, off, none⟩) x.sub.length cap) := by rw [hb1.cell (p := ⟨w.heap.size, 11, none⟩) hbx]; exact q0
     have hb2 := hbel.trans (hb1.mono hzw)
     clear hb1 hbel q0 HC c0 c1 c2 c3 c4 c5 c6 c7 c8 c9 c10 c11
     cases g with
     | false =>
      go_wp2
      go_ret2
      exact .mk S false rfl HS0.out hb2
     | true =>
      have HSm : Hid (S + m ≤ 1 + Con.bulks (x.sub.take (k + 1))) := Lib.hid (by have := HSn.out; have := HSz.out; omega)
      have hSm : S + m ≤ 2000000 := by have := hsq.out; have := HSm.out; have := HSq.out; omega
      have e3 : IntKind.i64.wrap ((S : Int) + (m : Int)) = ((S + m : Nat) : Int) := by rw [IntWalk.i64_in _ (by omega)]; omega
      go_wp2
      go_roundw
      case rel => exact ⟨k + 1, S + m, by omega, by go_num, rfl, hSm, HSm, hb2, q1⟩
      case measure => simp [intOf]; omega
    ·go_wp2
     go_ret2
     exact .mk S true rfl HS0.out hbel
   ·go_wp2
    go_ret2
    exact .mk S true rfl HS0.out hbel
set_option maxHeartbeats 2000000 in
set_option maxRecDepth 100000 in
theorem cweight_any : ∀ (N : Nat) (x : Con) (es dd ss : Value) (w : World), x.bulk ≤ N → x.bulk ≤ 2000000 → RdN w x es dd ss →
  Calls Tryz.prog 80 #[x.val es dd ss] w (NatPost (200000 * x.bulk) w) := by
 intro N
 induction N with
 | zero =>
  intro x es dd ss w h0
  rw [Con.bulk_eq] at h0
  omega
 | succ N ih =>
  intro x es dd ss w hN hB hs
  obtain ⟨ad, cap, rfl⟩ := hs.2.2.1.len
  obtain ⟨ad1, cap1, rfl⟩ := hs.1.len
  obtain ⟨ad2, cap2, rfl⟩ := hs.2.1.len
  have HS := Lib.hid hs.2.2.1
  have HE := Lib.hid hs.1
  have HI := Lib.hid ih
  have hlen := Con.bulks_len x.sub
  have hlt0 := x.sub_lt
  have hsq := Lib.hid x.bulk_eq
  have hsq1 := x.bulk_eq
  have hesz := x.ex.size_le
  have hn : x.sub.length ≤ 2000000 := by omega
  have hexb : x.ex.bulk ≤ 2000000 := by omega
  have hn1 : x.ds.length ≤ 2000000 := by omega
  have hf1 : x.fr.size ≤ 2000000 := by omega
  have hf2 : x.rc.size ≤ 2000000 := by omega
  have hf3 : x.nm.size ≤ 2000000 := by omega
  have hf4 : x.ex.size ≤ 2000000 := by omega
  have hb0 := below_a1 w (.cells #[.int .u8 x.k, .string x.fr, .string x.rc, .string x.nm, .int .u8 x.ex.k, .string x.ex.ra, .string x.ex.nm, .int .i64 x.ex.d, .slice ad1 x.ex.sub.length cap1, .int .i64 x.d, .slice ad2 x.ds.length cap2, .slice ad x.sub.length cap] 29)
  have HG := Lib.hid (xgreat_any x.ex _ _ (by omega) (HE.out.frame hb0))
  have H2 : Hid (200000 ≤ 200000 * x.bulk) := Lib.hid (by omega)
  clear hs ih hsq1 hesz
  unfold Con.val
  unfold Ex.val at HG
  go_enter Tryz.func80, Tryz.ntmps80
  go_wp2_with fail
  refine HG.out.mono ?_
  rintro e w1 ⟨⟨g, rfl⟩, hb1⟩
  have hz1 := hb1.size
  simp only [World.size_alloc] at hz1
  have c : ∀ j u, (w.alloc (.cells #[.int .u8 x.k, .string x.fr, .string x.rc, .string x.nm, .int .u8 x.ex.k, .string x.ex.ra, .string x.ex.nm, .int .i64 x.ex.d, .slice ad1 x.ex.sub.length cap1, .int .i64 x.d, .slice ad2 x.ds.length cap2, .slice ad x.sub.length cap] 29)).cell? ⟨w.heap.size, j, none⟩ = some u → w1.cell? ⟨w.heap.size, j, none⟩ = some u := fun j u h => by
   rw [hb1.cell (p := ⟨w.heap.size, j, none⟩) (by simp)]; exact h
  have c1 := c 1 (.string x.fr) (by go_simp)
  have c2 := c 2 (.string x.rc) (by go_simp)
  have c3 := c 3 (.string x.nm) (by go_simp)
  have c4 := c 4 (.int .u8 x.ex.k) (by go_simp)
  have c5 := c 5 (.string x.ex.ra) (by go_simp)
  have c6 := c 6 (.string x.ex.nm) (by go_simp)
  have c7 := c 7 (.int .i64 x.ex.d) (by go_simp)
  have c8 := c 8 (.slice ad1 x.ex.sub.length cap1) (by go_simp)
  have c10 := c 10 (.slice ad2 x.ds.length cap2) (by go_simp)
  have c11 := c 11 (.slice ad x.sub.length cap) (by go_simp)
  have hb2 := hb0.trans (hb1.mono (by simp))
  have HZ : Hid (∀ W, Ext w1 W → Calls Tryz.prog 137 #[.agg #[.int .u8 x.ex.k, .string x.ex.ra, .string x.ex.nm, .int .i64 x.ex.d, .slice ad1 x.ex.sub.length cap1]] W fun e w' => e = .returned (.int .i64 (x.ex.size : Int)) ∧ Below W.heap.size W w') :=
   Lib.hid fun W hW => rsize_any x.ex.bulk x.ex _ W (Nat.le_refl _) hexb (HE.out.frame (hb2.trans (Below.mono hW (by omega))))
  clear c hb0 hb1 HG
  cases g with
  | true =>
   go_wp2
   go_ret
   exact .mk 200000 rfl H2.out hb2
  | false =>
   obtain ⟨T, hT, hTl, hTb⟩ : ∃ T : Nat, (x.fr.size : Int) + (x.rc.size : Int) + (x.nm.size : Int) + (x.ds.length : Int) + 4 * (x.ex.size : Int) = (T : Int) ∧ T ≤ 20000000 ∧ Hid (T + 200000 * Con.bulks x.sub ≤ 200000 * x.bulk) :=
    ⟨x.fr.size + x.rc.size + x.nm.size + x.ds.length + 4 * x.ex.size, by omega, by omega, Lib.hid (by have := hsq.out; have := x.ex.size_le; omega)⟩
   have e1 : IntKind.i64.wrap ((x.fr.size : Int) + (x.rc.size : Int)) = (x.fr.size : Int) + (x.rc.size : Int) := IntWalk.i64_in _ (by omega)
   have e2 : IntKind.i64.wrap ((x.fr.size : Int) + (x.rc.size : Int) + (x.nm.size : Int)) = (x.fr.size : Int) + (x.rc.size : Int) + (x.nm.size : Int) := IntWalk.i64_in _ (by omega)
   have e3 : IntKind.i64.wrap ((x.fr.size : Int) + (x.rc.size : Int) + (x.nm.size : Int) + (x.ds.length : Int)) = (x.fr.size : Int) + (x.rc.size : Int) + (x.nm.size : Int) + (x.ds.length : Int) := IntWalk.i64_in _ (by omega)
   have e4 : IntKind.i64.wrap (4 * (x.ex.size : Int)) = 4 * (x.ex.size : Int) := IntWalk.i64_in _ (by omega)
   have e5 : IntKind.i64.wrap (T : Int) = (T : Int) := IntWalk.i64_in _ (by omega)
   go_wp2
   refine wp_region_ext (fun W' => W'.cell? ⟨w.heap.size, 1, none⟩ = some (.string x.fr) ∧ W'.cell? ⟨w.heap.size, 2, none⟩ = some (.string x.rc) ∧ W'.cell? ⟨w.heap.size, 3, none⟩ = some (.string x.nm) ∧ W'.cell? ⟨w.heap.size, 4, none⟩ = some (.int .u8 x.ex.k) ∧ W'.cell? ⟨w.heap.size, 5, none⟩ = some (.string x.ex.ra) ∧ W'.cell? ⟨w.heap.size, 6, none⟩ = some (.string x.ex.nm) ∧ W'.cell? ⟨w.heap.size, 7, none⟩ = some (.int .i64 x.ex.d) ∧ W'.cell? ⟨w.heap.size, 8, none⟩ = some (.slice ad1 x.ex.sub.length cap1) ∧ W'.cell? ⟨w.heap.size, 10, none⟩ = some (.slice ad2 x.ds.length cap2) ∧ W'.cell? ⟨w.heap.size, 11, none⟩ = some (.slice ad x.sub.length cap)) (fun W' hW' => ⟨hW'.cell (by go_simp), hW'.cell (by go_simp), hW'.cell (by go_simp), hW'.cell (by go_simp), hW'.cell (by go_simp), hW'.cell (by go_simp), hW'.cell (by go_simp), hW'.cell (by go_simp), hW'.cell (by go_simp), hW'.cell (by go_simp)⟩) (by kernel_rfl) (by kernel_rfl) ?_
   intro HCW
   repeat (first | go_big_quiet_skip | (go_big_quiet_want; apply Exists.intro; refine ⟨fun W hW => ?_, ?_⟩; (focus (obtain ⟨q1, q2, q3, q4, q5, q6, q7, q8, q10, q11⟩ := HCW W hW; go_simp; first | done | rfl | with_reducible exact ext_callsE HZ.out W hW)); (simp only [Act.put, List.setIfInBounds_toArray, List.set_cons_zero, List.set_cons_succ]); go_big_quiet_on))
   refine wpQuiet_nil ?_
   intro W hW
   obtain ⟨q1, q2, q3, q4, q5, q6, q7, q8, q10, q11⟩ := HCW W hW
   have hW := hW.below
   have hb3 := hb2.trans (hW.mono (by omega))
   have hbx : w.heap.size < W.heap.size := by have := hW.size; omega
   clear hb2 hW HCW HZ
   clear e1 e2 e3 e4 e5
   go_wp2
   go_loopw [3, 4] (fun n i wr => ∃ (k S : Nat), k ≤ x.sub.length ∧ i = .int .i64 (k : Int) ∧ n = .int .i64 (S : Int) ∧ S ≤ 1000000000000 ∧ Hid (S ≤ T + 200000 * Con.bulks (x.sub.take k)) ∧ Below w.heap.size w wr ∧ wr.cell? ⟨w.heap.size, 11, none⟩ = some (.slice ad x.sub.length cap)) (fun _ i _ => x.sub.length - (intOf i).toNat)
   case atStart => exact ⟨0, T, Nat.zero_le _, rfl, rfl, by omega, Lib.hid (by omega), hb3, q11⟩
   case round =>
    clear hb3
    obtain ⟨k, S, hk, rfl, rfl, hS, HSz, hbel, q0⟩ := hrel
    have HS0 : Hid (S ≤ 200000 * x.bulk) := Lib.hid (by have := HSz.out; have := hTb.out; have := Con.bulks_take x.sub k; omega)
    by_cases hlt : k < x.sub.length
    ·by_cases hli : (S : Int) < 100000
     ·obtain ⟨y, hy⟩ : ∃ y, x.sub[k]? = some y := ⟨_, List.getElem?_eq_getElem hlt⟩
      obtain ⟨b, off, es', dd', ss', rfl, ⟨c0, c1, c2, c3, c4, c5, c6, c7, c8, c9, c10, c11⟩, hs'⟩ := (HS.out.frame hbel).cells hy
      have hym := Con.mem_lt (List.mem_of_getElem? hy)
      have hblk : b < wr.heap.size := World.block_lt_of_cell? wr _ c0
      have hbx : w.heap.size < wr.heap.size := World.block_lt_of_cell? wr _ q0
      have hzw := hbel.size
      have HSn := Lib.hid (Con.bulks_snoc hy)
      have HSq := Lib.hid (Con.bulks_take x.sub (k + 1))
      have hk1 : (0 : Int) ≤ (k : Int) := by omega
      have hk2 : (k : Int) < (x.sub.length : Int) := by omega
      have HC := Lib.hid (HI.out y es' dd' ss' wr (by omega) (by omega) hs')
      unfold Con.val at HC
      clear hy hym hs'
      go_wp2_with fail
      refine HC.out.mono ?_
      rintro e w1 ⟨⟨m, rfl, hm⟩, hb1⟩
      have q1 : w1.cell? ⟨w.heap.size, 11, none⟩ = some (.slice (some ⟨b, off, none⟩) x.sub.length cap) := by rw [hb1.cell (p := ⟨w.heap.size, 11, none⟩) hbx]; exact q0
      have hb2 := hbel.trans (hb1.mono hzw)
      clear hb1 hbel q0 HC c0 c1 c2 c3 c4 c5 c6 c7 c8 c9 c10 c11
      have HSm : Hid (S + m ≤ T + 200000 * Con.bulks (x.sub.take (k + 1))) := Lib.hid (by have := HSn.out; have := HSz.out; omega)
      have hSm : S + m ≤ 1000000000000 := by have := hsq.out; have := HSm.out; have := HSq.out; have := hTb.out; omega
      have e3 : IntKind.i64.wrap ((S : Int) + (m : Int)) = ((S + m : Nat) : Int) := by rw [IntWalk.i64_in _ (by omega)]; omega
      go_wp2
      go_roundw
      case rel => exact ⟨k + 1, S + m, by omega, by go_num, rfl, hSm, HSm, hb2, q1⟩
      case measure => simp [intOf]; omega
     ·go_wp2
      go_ret
      exact .mk S rfl HS0.out hbel
    ·go_wp2
     go_ret
     exact .mk S rfl HS0.out hbel
set_option maxHeartbeats 1000000 in
set_option maxRecDepth 100000 in
theorem cgreat_any (x : Con) (es dd ss : Value) (w : World) (hB : x.bulk ≤ 2000000) (hs : RdN w x es dd ss) :
  Calls Tryz.prog 37 #[x.val es dd ss] w (BoolPost w) := by
 have HS := Lib.hid hs
 obtain ⟨ad, cap, rfl⟩ := hs.2.2.1.len
 obtain ⟨ad1, cap1, rfl⟩ := hs.1.len
 obtain ⟨ad2, cap2, rfl⟩ := hs.2.1.len
 have hb0 := below_a1 w (.cells #[.int .u8 x.k, .string x.fr, .string x.rc, .string x.nm, .int .u8 x.ex.k, .string x.ex.ra, .string x.ex.nm, .int .i64 x.ex.d, .slice ad1 x.ex.sub.length cap1, .int .i64 x.d, .slice ad2 x.ds.length cap2, .slice ad x.sub.length cap] 29)
 have HC := Lib.hid (ccount_any x.bulk x _ _ _ 600 100 _ (Nat.le_refl _) hB (HS.out.frame hb0) (by omega) (by omega) (by omega) (by omega))
 clear hs
 unfold Con.val at HC ⊢
 go_enter Tryz.func37, Tryz.ntmps37
 go_wp2_with fail
 refine HC.out.mono ?_
 rintro e w1 ⟨⟨n, g, rfl, hn⟩, hb1⟩
 have hz1 := hb1.size
 simp only [World.size_alloc] at hz1
 have c : ∀ j u, (w.alloc (.cells #[.int .u8 x.k, .string x.fr, .string x.rc, .string x.nm, .int .u8 x.ex.k, .string x.ex.ra, .string x.ex.nm, .int .i64 x.ex.d, .slice ad1 x.ex.sub.length cap1, .int .i64 x.d, .slice ad2 x.ds.length cap2, .slice ad x.sub.length cap] 29)).cell? ⟨w.heap.size, j, none⟩ = some u → w1.cell? ⟨w.heap.size, j, none⟩ = some u := fun j u h => by
  rw [hb1.cell (p := ⟨w.heap.size, j, none⟩) (by simp)]; exact h
 have c0 := c 0 (.int .u8 x.k) (by go_simp)
 have c1 := c 1 (.string x.fr) (by go_simp)
 have c2 := c 2 (.string x.rc) (by go_simp)
 have c3 := c 3 (.string x.nm) (by go_simp)
 have c4 := c 4 (.int .u8 x.ex.k) (by go_simp)
 have c5 := c 5 (.string x.ex.ra) (by go_simp)
 have c6 := c 6 (.string x.ex.nm) (by go_simp)
 have c7 := c 7 (.int .i64 x.ex.d) (by go_simp)
 have c8 := c 8 (.slice ad1 x.ex.sub.length cap1) (by go_simp)
 have c9 := c 9 (.int .i64 x.d) (by go_simp)
 have c10 := c 10 (.slice ad2 x.ds.length cap2) (by go_simp)
 have c11 := c 11 (.slice ad x.sub.length cap) (by go_simp)
 have hb2 := hb0.trans (hb1.mono (by simp))
 have HB := Lib.hid (cweight_any x.bulk x _ _ _ w1 (Nat.le_refl _) hB (HS.out.frame hb2))
 unfold Con.val at HB
 clear c hb0 hb1 HC
 cases g with
 | false =>
  go_wp2
  go_ret
  exact .mk _ rfl hb2
 | true =>
  by_cases h6 : (600 : Int) < (n : Int)
  ·go_wp2
   go_ret
   exact .mk _ rfl hb2
  ·go_wp2_with fail
   refine HB.out.mono ?_
   rintro e w2 ⟨⟨m, rfl, hm⟩, hb3⟩
   have hb4 := hb2.trans (hb3.mono (by omega))
   clear hb2 hb3 HB
   go_wp2
   go_ret
   exact .mk _ rfl hb4
end Go.Proofs.YtknpnhodpgajbaaGreatDoor

namespace Go.Proofs.YtknpnhodpgajbaaGreatDoor
open Go.RowKit
def fxSum : List Fx → Nat
 | [] => 0
 | f :: l => f.nm.size + f.vl.size + fxSum l
def chSum : List Ch → Nat
 | [] => 0
 | f :: l => f.pt.size + f.nm.size + chSum l
theorem fxSum_append (l m : List Fx) : fxSum (l ++ m) = fxSum l + fxSum m := by
 induction l with
 | nil => simp [fxSum]
 | cons a l ih => simp [fxSum, ih]; omega
theorem chSum_append (l m : List Ch) : chSum (l ++ m) = chSum l + chSum m := by
 induction l with
 | nil => simp [chSum]
 | cons a l ih => simp [chSum, ih]; omega
theorem fxSum_snoc {l : List Fx} {k : Nat} {f : Fx} (h : l[k]? = some f) : fxSum (l.take (k + 1)) = fxSum (l.take k) + (f.nm.size + f.vl.size) := by
 rw [List.take_add_one, h, fxSum_append]; simp [fxSum]
theorem chSum_snoc {l : List Ch} {k : Nat} {f : Ch} (h : l[k]? = some f) : chSum (l.take (k + 1)) = chSum (l.take k) + (f.pt.size + f.nm.size) := by
 rw [List.take_add_one, h, chSum_append]; simp [chSum]
def greatB (fs : List Fx) (cs : List Ch) : Bool := decide (1100 < fs.length ∨ 1100 < cs.length ∨ 20000 < fxSum fs + chSum cs)
set_option maxHeartbeats 4000000 in
set_option maxRecDepth 100000 in
theorem great_loop (fs : List Fx) (cs : List Ch) (af ac : Option Addr) (cf cc : Nat) (w : World) (_hn : fs.length ≤ 1100000) (_hm : cs.length ≤ 1100000)
  (hf : Rd Fx.cells 3 w af fs) (hc : Rd Ch.cells 4 w ac cs) (hfs : ∀ f ∈ fs, f.small) (hcs : ∀ c ∈ cs, c.small) (h1 : ¬ 1100 < fs.length) (h2 : ¬ 1100 < cs.length) :
  Calls Tryz.prog 38 #[.agg #[.slice af fs.length cf, .slice ac cs.length cc]] w fun e w' => e = .returned (.bool (greatB fs cs)) ∧ Below w.heap.size w w' := by
 have hbw := fun a => below_a1 w a
 have t1 : decide ((1100 : Int) < (fs.length : Int)) = false := by rw [decide_eq_false_iff_not]; omega
 have t2 : decide ((1100 : Int) < (cs.length : Int)) = false := by rw [decide_eq_false_iff_not]; omega
 have HL : Hid (fs.length ≤ 1100 ∧ cs.length ≤ 1100) := ⟨by omega, by omega⟩
 have h1' : fs.length ≤ 1100 := by omega
 have h2' : cs.length ≤ 1100 := by omega
 have Rfs := Lib.hid hf
 have Rcs := Lib.hid hc
 have Hfs := Lib.hid hfs
 have Hcs := Lib.hid hcs
 clear hf hc hfs hcs h1 h2
 go_enter Tryz.func38, Tryz.ntmps38
 go_upto_block 0 with fail
 clear t1 t2
 go_cut [3, 4] from 16 to 39 (fun s _ wc => ∃ S0 : Nat, s = .int .i64 S0 ∧ Hid (S0 = fxSum fs) ∧ S0 ≤ 2420000000 ∧ Below w.heap.size w wc ∧ (wc.cell? ⟨w.heap.size, 0, none⟩ = some (.slice af fs.length cf) ∧ wc.cell? ⟨w.heap.size, 1, none⟩ = some (.slice ac cs.length cc)))
 case first =>
  go_wp2_with fail
  go_loopw [3, 4] (fun s i wr => ∃ (k S : Nat), k ≤ fs.length ∧ i = .int .i64 k ∧ s = .int .i64 S ∧ Hid (S = fxSum (fs.take k)) ∧ S ≤ k * 2200000 ∧ Below w.heap.size w wr ∧ (wr.cell? ⟨w.heap.size, 0, none⟩ = some (.slice af fs.length cf) ∧ wr.cell? ⟨w.heap.size, 1, none⟩ = some (.slice ac cs.length cc))) (fun _ i _ => fs.length - (intOf i).toNat)
  case atStart => exact ⟨0, 0, Nat.zero_le _, rfl, rfl, Lib.hid rfl, by omega, hbw _, by go_simp, by go_simp⟩
  case round =>
   obtain ⟨k, S, hk, rfl, rfl, HS, hSk, hbel, b0, b1⟩ := hrel
   by_cases hlt : k < fs.length
   ·obtain ⟨f, hf⟩ : ∃ f, fs[k]? = some f := ⟨_, List.getElem?_eq_getElem hlt⟩
    have HRf := ((Rfs.out.below hbel).fx hf)
    have hsm := Hfs.out f (List.mem_of_getElem? hf)
    have HT := Lib.hid (fxSum_snoc hf)
    clear hf
    obtain ⟨b, off, rfl, hc1, hc2, hc3⟩ := HRf
    have hA : f.nm.size ≤ 1100000 := hsm.1
    have hB : f.vl.size ≤ 1100000 := hsm.2
    clear hsm
    have hk1 : (0 : Int) ≤ (k : Int) := by omega
    have hk2 : (k : Int) < (fs.length : Int) := by omega
    have e1 : IntKind.i64.wrap ((S : Int) + (f.nm.size : Int)) = (S : Int) + (f.nm.size : Int) := IntWalk.i64_in _ (by omega)
    have e2 : IntKind.i64.wrap ((S : Int) + (f.nm.size : Int) + (f.vl.size : Int)) = (S : Int) + (f.nm.size : Int) + (f.vl.size : Int) := IntWalk.i64_in _ (by omega)
    have HS2 : Hid (S + f.nm.size + f.vl.size = fxSum (fs.take (k + 1))) := by show _ = _; have h1 := HS.out; have h2 := HT.out; omega
    go_wp2
    go_quiet (fail)
    clear e1 e2
    go_wp2
    go_roundw
    case rel => exact ⟨k + 1, S + f.nm.size + f.vl.size, by omega, by go_num, by go_num, HS2, by omega, below_drewN hbel _, by first | assumption | go_simp, by first | assumption | go_simp⟩
    case measure => simp [intOf]; omega
   ·obtain rfl : k = fs.length := by omega
    have HS2 : Hid (S = fxSum fs) := by have h := HS.out; rw [List.take_length] at h; exact h
    clear HS hlt hk
    go_wp2
    go_meet
    exact ⟨S, rfl, HS2, by omega, hbel, b0, b1⟩
 case rest =>
  obtain ⟨S0, rfl, HS0, hS0, hbel, b0, b1⟩ := hcut
  go_wp2
  go_loopw [3, 5] (fun s i wr => ∃ (k S : Nat), k ≤ cs.length ∧ i = .int .i64 k ∧ s = .int .i64 S ∧ Hid (S = S0 + chSum (cs.take k)) ∧ S ≤ 2420000000 + k * 2200000 ∧ Below w.heap.size w wr ∧ (wr.cell? ⟨w.heap.size, 0, none⟩ = some (.slice af fs.length cf) ∧ wr.cell? ⟨w.heap.size, 1, none⟩ = some (.slice ac cs.length cc))) (fun _ i _ => cs.length - (intOf i).toNat)
  case atStart => exact ⟨0, S0, Nat.zero_le _, rfl, rfl, Lib.hid rfl, by omega, hbel, b0, b1⟩
  case round =>
   clear hbel b0 b1
   obtain ⟨k, S, hk, rfl, rfl, HS, hSk, hbel, b0, b1⟩ := hrel
   by_cases hlt : k < cs.length
   ·obtain ⟨f, hf⟩ : ∃ f, cs[k]? = some f := ⟨_, List.getElem?_eq_getElem hlt⟩
    have HRf := ((Rcs.out.below hbel).ch hf)
    have hsm := Hcs.out f (List.mem_of_getElem? hf)
    have HT := Lib.hid (chSum_snoc hf)
    clear hf
    obtain ⟨b, off, rfl, hc1, hc2, hc3, hc4⟩ := HRf
    have hA : f.pt.size ≤ 1100000 := hsm.1
    have hB : f.nm.size ≤ 1100000 := hsm.2
    clear hsm
    have hk1 : (0 : Int) ≤ (k : Int) := by omega
    have hk2 : (k : Int) < (cs.length : Int) := by omega
    have e1 : IntKind.i64.wrap ((S : Int) + (f.pt.size : Int)) = (S : Int) + (f.pt.size : Int) := IntWalk.i64_in _ (by omega)
    have e2 : IntKind.i64.wrap ((S : Int) + (f.pt.size : Int) + (f.nm.size : Int)) = (S : Int) + (f.pt.size : Int) + (f.nm.size : Int) := IntWalk.i64_in _ (by omega)
    have HS2 : Hid (S + f.pt.size + f.nm.size = S0 + chSum (cs.take (k + 1))) := by show _ = _; have h1 := HS.out; have h2 := HT.out; omega
    go_wp2
    go_quiet (fail)
    clear e1 e2
    go_wp2
    go_roundw
    case rel => exact ⟨k + 1, S + f.pt.size + f.nm.size, by omega, by go_num, by go_num, HS2, by omega, below_drewN hbel _, by first | assumption | go_simp, by first | assumption | go_simp⟩
    case measure => simp [intOf]; omega
   ·obtain rfl : k = cs.length := by omega
    have HS2 : Hid (S = S0 + chSum cs) := by have h := HS.out; rw [List.take_length] at h; exact h
    clear HS hlt hk
    have HR : Hid (greatB fs cs = decide ((20000 : Int) < (S : Int))) := by
     show _ = _
     rw [greatB, Bool.eq_iff_iff, decide_eq_true_eq, decide_eq_true_eq]
     have h1 := HS0.out
     have h2 := HS2.out
     have h3 := HL.out
     omega
    go_wp2
    go_ret
    exact ⟨ret_bool' HR.out.symm, hbel⟩
set_option maxHeartbeats 1000000 in
set_option maxRecDepth 100000 in
theorem great_any (fs : List Fx) (cs : List Ch) (af ac : Option Addr) (cf cc : Nat) (w : World) (hn : fs.length ≤ 1100000) (hm : cs.length ≤ 1100000)
  (hf : Rd Fx.cells 3 w af fs) (hc : Rd Ch.cells 4 w ac cs) (hfs : ∀ f ∈ fs, f.small) (hcs : ∀ c ∈ cs, c.small) :
  Calls Tryz.prog 38 #[.agg #[.slice af fs.length cf, .slice ac cs.length cc]] w fun e w' => e = .returned (.bool (greatB fs cs)) ∧ Below w.heap.size w w' := by
 by_cases h1 : 1100 < fs.length
 ·have HR : Hid (greatB fs cs = true) := by show _ = _; rw [greatB, decide_eq_true_eq]; exact .inl h1
  have t1 : decide ((1100 : Int) < (fs.length : Int)) = true := by rw [decide_eq_true_eq]; omega
  clear h1 hf hc hfs hcs
  go_enter Tryz.func38, Tryz.ntmps38
  go_wp2
  go_ret
  exact ⟨ret_bool' HR.out.symm, below_a1 _ _⟩
 ·by_cases h2 : 1100 < cs.length
  ·have HR : Hid (greatB fs cs = true) := by show _ = _; rw [greatB, decide_eq_true_eq]; exact .inr (.inl h2)
   have t1 : decide ((1100 : Int) < (fs.length : Int)) = false := by rw [decide_eq_false_iff_not]; omega
   have t2 : decide ((1100 : Int) < (cs.length : Int)) = true := by rw [decide_eq_true_eq]; omega
   clear h1 h2 hf hc hfs hcs
   go_enter Tryz.func38, Tryz.ntmps38
   go_wp2
   go_ret
   exact ⟨ret_bool' HR.out.symm, below_a1 _ _⟩
  ·exact great_loop fs cs af ac cf cc w hn hm hf hc hfs hcs h1 h2
end Go.Proofs.YtknpnhodpgajbaaGreatDoor

namespace Go.Proofs.YtknpnhodpgajbaaGreatDoor
open Go.RowKit
instance (k : Nat) (ra nm : ByteArray) (d : Int) (n : Nat) : Decidable (leafOk k ra nm d n) := by unfold leafOk; infer_instance
def sortOfB (k : Nat) (ra nm : ByteArray) (d : Int) (l : List Nat) : Nat :=
 match shapeOf k with
 | none => if leafOk k ra nm d l.length then 1 else 0
 | some (ps, own) => if ra.size = 0 ∧ nm.size = 0 ∧ d = 0 ∧ l = ps then own else 0
theorem sortOfB_eq (k : Nat) (ra nm : ByteArray) (d : Int) (l : List Nat) : sortOf k ra nm d l = sortOfB k ra nm d l := by
 unfold sortOf sortOfB leafSort partSort
 cases shapeOf k with
 | none =>
  simp only
  by_cases h : leafOk k ra nm d l.length
  ·rw [if_pos h, if_pos h]
  ·rw [if_neg h, if_neg h]
 | some p => rfl
mutual
def Ex.sortB : Ex → Nat
 | .mk k r n d l => sortOfB k r n d (Ex.sortsB l)
def Ex.sortsB : List Ex → List Nat
 | [] => []
 | x :: l => Ex.sortB x :: Ex.sortsB l
end
mutual
theorem Ex.sortB_eq : ∀ x : Ex, x.sort = x.sortB
 | .mk k r n d l => by rw [Ex.sort, Ex.sortB, Ex.sortsB_eq l, sortOfB_eq]
theorem Ex.sortsB_eq : ∀ l : List Ex, Ex.sorts l = Ex.sortsB l
 | [] => by rw [Ex.sorts, Ex.sortsB]
 | x :: l => by rw [Ex.sorts, Ex.sortsB, Ex.sortB_eq x, Ex.sortsB_eq l]
end
def Ex.errB (x : Ex) : Int := if 500 < x.size ∨ 60 < x.depth then 4 else if x.sortB = 0 then 8 else 0
def Ex.isAB (x : Ex) (t : Nat) : Bool := decide (x.errB = 0) && decide (x.sortB = t)
theorem Ex.isAB_eq (x : Ex) (t : Nat) : x.isA t = x.isAB t := by unfold Ex.isA Ex.isAB Ex.err Ex.errB; rw [Ex.sortB_eq]
def nodeOkB (c : Con) : Bool :=
 let nobody := decide (c.fr.size = 0)
 let noTo := decide (c.rc.size = 0)
 let noName := decide (c.nm.size = 0)
 let noDate := decide (c.d = 0)
 let noDays := decide (c.ds.length = 0)
 let n := c.sub.length
 if c.k = 1 then decide (n = 0) && (nobody && (noTo && (noName && (noDate && (noDays && c.ex.bare)))))
 else if c.k = 2 then decide (n = 0) && (isNm (bl c.fr) && (isNm (bl c.rc) && (!decide (c.fr = c.rc) && (isNm (bl c.nm) && (c.ex.isAB 1 && (noDate && noDays))))))
 else if c.k = 3 then decide (n = 2) && (nobody && (noTo && (noName && (noDate && (noDays && c.ex.bare)))))
 else if c.k = 4 then decide (n = 1) && (nobody && (noTo && (noName && (noDate && (noDays && c.ex.isAB 1)))))
 else if c.k = 5 then decide (n = 2) && (nobody && (noTo && (noName && (noDate && (noDays && c.ex.isAB 2)))))
 else if c.k = 6 then decide (n = 1) && (nobody && (noTo && (noName && (isDay c.d && (noDays && c.ex.bare)))))
 else if c.k = 7 then decide (n = 2) && (isNm (bl c.fr) && (noTo && (isNm (bl c.nm) && (noDate && (noDays && c.ex.bare)))))
 else if c.k = 8 then decide (n = 1) && (isNm (bl c.fr) && (noTo && (isNm (bl c.nm) && (noDate && (isDays c.ds && c.ex.bare)))))
 else if c.k = 9 ∨ c.k = 10 then decide (n = 1) && (nobody && (noTo && (noName && (noDate && (isDays c.ds && c.ex.isAB 2)))))
 else false
theorem nodeOkB_eq (c : Con) : nodeOk c = nodeOkB c := by unfold nodeOk nodeOkB; simp only [Ex.isAB_eq]
mutual
def Con.formedB : Con → Bool
 | .mk k fr rc nm ex d ds l => nodeOkB (.mk k fr rc nm ex d ds l) && Con.formedsB l
def Con.formedsB : List Con → Bool
 | [] => true
 | x :: l => Con.formedB x && Con.formedsB l
end
mutual
theorem Con.formedB_eq : ∀ x : Con, x.formed = x.formedB
 | .mk k fr rc nm ex d ds l => by rw [Con.formed, Con.formedB, Con.formedsB_eq l, nodeOkB_eq]
theorem Con.formedsB_eq : ∀ l : List Con, Con.formeds l = Con.formedsB l
 | [] => by rw [Con.formeds, Con.formedsB]
 | x :: l => by rw [Con.formeds, Con.formedsB, Con.formedB_eq x, Con.formedsB_eq l]
end
def Con.errB (x : Con) : Int := if 500 < x.size ∨ 60 < x.depth then 4 else if x.formedB = true then 0 else 8
theorem Con.errB_eq (x : Con) : x.err = x.errB := by unfold Con.err Con.errB; rw [Con.formedB_eq]
end Go.Proofs.YtknpnhodpgajbaaGreatDoor

namespace Go.Proofs.YtknpnhodpgajbaaGreatDoor
open Go.RowKit
def mE : ByteArray := ⟨#[]⟩
def mAnn : ByteArray := ⟨#[65, 110, 110]⟩
def mBob : ByteArray := ⟨#[66, 111, 98]⟩
def mUSD : ByteArray := ⟨#[85, 83, 68]⟩
def mSpot : ByteArray := ⟨#[115, 112, 111, 116]⟩
def m0 : ByteArray := ⟨#[48]⟩
def m1 : ByteArray := ⟨#[49]⟩
def m2 : ByteArray := ⟨#[50]⟩
def m3 : ByteArray := ⟨#[51]⟩
def mM3 : ByteArray := ⟨#[45, 51]⟩
def m72 : ByteArray := ⟨#[55, 47, 50]⟩
def xZ : Ex := .mk 0 mE mE 0 []
def xCon (r : ByteArray) : Ex := .mk 1 r mE 0 []
def xNow : Ex := .mk 3 mE mSpot 0 []
def xSub : Ex := .mk 5 mE mE 0 [xNow, xCon m3]
def xMax : Ex := .mk 7 mE mE 0 [xSub, xCon m0]
def xTwice : Ex := .mk 6 mE mE 0 [xMax, xCon m2]
def cPay : Con := .mk 2 mAnn mBob mUSD xTwice 0 [] []
def cScale : Con := .mk 4 mE mE mE (xCon mM3) 0 [] [cPay]
def fKnown : List Fx := [⟨mSpot, 5, m72⟩, ⟨mSpot, 6, m2⟩]
theorem cPay_err : cPay.err = 0 := by rw [Con.errB_eq]; decide +kernel
theorem cScale_err : cScale.err = 0 := by rw [Con.errB_eq]; decide +kernel
theorem env_known : envErr fKnown [] = 0 := by decide +kernel
theorem flows10_pay : cPay.flows fKnown [] 5 100000 = (0, [⟨5, mAnn, mBob, mUSD, m1⟩]) := by kernel_rfl
theorem flows10_scale : cScale.flows fKnown [] 5 100000 = (0, [⟨5, mBob, mAnn, mUSD, m3⟩]) := by kernel_rfl
theorem befR_pay : befR cPay 5 100000 fKnown [] = (0, [⟨5, mAnn, mBob, mUSD, m1⟩]) := by
 rw [befR, if_neg (fun h => h cPay_err), if_neg (fun h => h env_known), if_neg (by decide), flows10_pay]; rfl
theorem befR_scale : befR cScale 5 100000 fKnown [] = (0, [⟨5, mBob, mAnn, mUSD, m3⟩]) := by
 rw [befR, if_neg (fun h => h cScale_err), if_neg (fun h => h env_known), if_neg (by decide), flows10_scale]; rfl
end Go.Proofs.YtknpnhodpgajbaaGreatDoor

namespace Go.Proofs.YtknpnhodpgajbaaGreatDoor
open Go.RowKit
theorem cell_new (w : World) (vs : List Value) (t : TypeId) {i : Nat} {u : Value} (h : vs[i]? = some u) : (w.alloc (.cells vs.toArray t)).cell? ⟨w.heap.size, i, none⟩ = some u := by
 have e : (w.alloc (.cells vs.toArray t)).heap[w.heap.size]? = some (.cells vs.toArray t (0, 0)) := by
  show (w.heap.push _)[w.heap.size]? = _
  simp
 unfold World.cell?
 simp only [e, Option.isSome_none, Bool.false_eq_true, if_false]
 simpa using h
theorem rdE_nil (w : World) : RdE w [] (.slice none 0 0) := .mk none 0 [] (fun _ => .slice none 0 0) (fun j x h => by simp at h) (fun j x h => by simp at h)
theorem rdC_nil (w : World) : RdC w [] (.slice none 0 0) := .mk none 0 [] (fun _ => .slice none 0 0) (fun _ => .slice none 0 0) (fun _ => .slice none 0 0) (fun j x h => by simp at h) (fun j x h => by simp at h) (fun j x h => by simp at h) (fun j x h => by simp at h)
theorem rdI_nil (w : World) : RdI w [] (.slice none 0 0) := ⟨none, 0, rfl, ⟨Nat.le_refl _, fun _ => rfl⟩, fun j d h => by simp at h⟩
theorem rdC_one {w : World} {B cap : Nat} {x : Con} {es dd ss : Value} (hc : ∀ i u, (x.cells es dd ss)[i]? = some u → w.cell? ⟨B, i, none⟩ = some u) (hr : RdN w x es dd ss) : RdC w [x] (.slice (some ⟨B, 0, none⟩) 1 cap) := by
 refine .mk (some ⟨B, 0, none⟩) cap [x] (fun _ => es) (fun _ => dd) (fun _ => ss) (fun j y h => ?_) (fun j y h => ?_) (fun j y h => ?_) (fun j y h => ?_)
 all_goals
  cases j with
  | succ j => simp at h
  | zero => ?_
 all_goals (simp only [List.getElem?_cons_zero, Option.some.injEq] at h; subst h)
 ·exact ⟨hr.2.2.2, B, 0, rfl, fun i u hu => by simpa using hc i u hu⟩
 ·exact hr.1
 ·exact hr.2.1
 ·exact hr.2.2.1
theorem rdE_two {w : World} {B cap : Nat} {x y : Ex} {s1 s2 : Value} (hx8 : x.k < 256) (hy8 : y.k < 256) (hc : ∀ i u, (x.cells s1 ++ y.cells s2)[i]? = some u → w.cell? ⟨B, i, none⟩ = some u) (h1 : RdE w x.sub s1) (h2 : RdE w y.sub s2) : RdE w [x, y] (.slice (some ⟨B, 0, none⟩) 2 cap) := by
 refine .mk (some ⟨B, 0, none⟩) cap [x, y] (fun j => if j = 0 then s1 else s2) (fun j z h => ?_) (fun j z h => ?_)
 ·match j, h with
  | 0, h => cases h; exact ⟨hx8, B, 0, rfl, hc 0 _ rfl, hc 1 _ rfl, hc 2 _ rfl, hc 3 _ rfl, hc 4 _ rfl⟩
  | 1, h => cases h; exact ⟨hy8, B, 0, rfl, hc 5 _ rfl, hc 6 _ rfl, hc 7 _ rfl, hc 8 _ rfl, hc 9 _ rfl⟩
 ·match j, h with
  | 0, h => cases h; exact h1
  | 1, h => cases h; exact h2
theorem rdC_two {w : World} {B cap : Nat} {x y : Con} {es dd ss es2 dd2 ss2 : Value} (hc : ∀ i u, (x.cells es dd ss ++ y.cells es2 dd2 ss2)[i]? = some u → w.cell? ⟨B, i, none⟩ = some u) (hr : RdN w x es dd ss) (hr2 : RdN w y es2 dd2 ss2) : RdC w [x, y] (.slice (some ⟨B, 0, none⟩) 2 cap) := by
 refine .mk (some ⟨B, 0, none⟩) cap [x, y] (fun j => if j = 0 then es else es2) (fun j => if j = 0 then dd else dd2) (fun j => if j = 0 then ss else ss2) (fun j z h => ?_) (fun j z h => ?_) (fun j z h => ?_) (fun j z h => ?_)
 ·match j, h with
  | 0, h =>
   cases h
   refine ⟨hr.2.2.2, B, 0, rfl, fun i u hu => ?_⟩
   have hi : i < 12 := (List.getElem?_eq_some_iff.1 hu).1
   rw [show 0 + 0 * 12 + i = i by omega]
   exact hc i u (by rw [List.getElem?_append_left hi]; exact hu)
  | 1, h =>
   cases h
   refine ⟨hr2.2.2.2, B, 0, rfl, fun i u hu => ?_⟩
   rw [show 0 + 1 * 12 + i = 12 + i by omega]
   exact hc (12 + i) u (by rw [List.getElem?_append_right (by show 12 ≤ _; omega)]; show _[12 + i - 12]? = _; rw [Nat.add_sub_cancel_left]; exact hu)
 ·match j, h with
  | 0, h => cases h; exact hr.1
  | 1, h => cases h; exact hr2.1
 ·match j, h with
  | 0, h => cases h; exact hr.2.1
  | 1, h => cases h; exact hr2.2.1
 ·match j, h with
  | 0, h => cases h; exact hr.2.2.1
  | 1, h => cases h; exact hr2.2.2.1
end Go.Proofs.YtknpnhodpgajbaaGreatDoor

namespace Go.Proofs.YtknpnhodpgajbaaGreatDoor
open Go.RowKit
set_option maxHeartbeats 1000000 in
set_option maxRecDepth 100000 in
theorem mflows_any (c : Con) (es dd ss : Value) (day : Int) (E : EvD) (w : World) (h : BfH c es dd ss E w) :
  Calls Tryz.prog 12 #[c.val es dd ss, .int .i64 day, E.val] w (BfP w (befR c day 100000 E.F E.C)) := by
 obtain ⟨a1, n1, rfl⟩ := h.rd.1.len
 obtain ⟨a2, n2, rfl⟩ := h.rd.2.1.len
 obtain ⟨a3, n3, rfl⟩ := h.rd.2.2.1.len
 obtain ⟨W0, hW0, hb0, hz0, bc, bv⟩ : ∃ W, (w.alloc (.cells #[.int .u8 c.k, .string c.fr, .string c.rc, .string c.nm, .int .u8 c.ex.k, .string c.ex.ra, .string c.ex.nm, .int .i64 c.ex.d, .slice a1 c.ex.sub.length n1, .int .i64 c.d, .slice a2 c.ds.length n2, .slice a3 c.sub.length n3] 29)).alloc (.cells #[.slice E.af E.F.length E.cf, .slice E.ac E.C.length E.cc] 33) = W ∧ Below w.heap.size w W ∧ w.heap.size + 2 ≤ W.heap.size ∧ BoxN W w.heap.size 29 (c.cells (.slice a1 c.ex.sub.length n1) (.slice a2 c.ds.length n2) (.slice a3 c.sub.length n3)) ∧ BoxN W (w.heap.size + 1) 33 [.slice E.af E.F.length E.cf, .slice E.ac E.C.length E.cc] := by
  refine ⟨_, rfl, below_a2 _ _ _, by simp, ?_⟩
  have hc := BoxN.new w (c.cells (.slice a1 c.ex.sub.length n1) (.slice a2 c.ds.length n2) (.slice a3 c.sub.length n3)) 29
  have hv := BoxN.new (w.alloc (.cells (c.cells (.slice a1 c.ex.sub.length n1) (.slice a2 c.ds.length n2) (.slice a3 c.sub.length n3)).toArray 29)) [.slice E.af E.F.length E.cf, .slice E.ac E.C.length E.cc] 33
  simp only [World.size_alloc] at hv
  exact ⟨hc.alloc _, hv⟩
 have HC : Hid (Calls Tryz.prog 14 #[.agg #[.int .u8 c.k, .string c.fr, .string c.rc, .string c.nm, .int .u8 c.ex.k, .string c.ex.ra, .string c.ex.nm, .int .i64 c.ex.d, .slice a1 c.ex.sub.length n1, .int .i64 c.d, .slice a2 c.ds.length n2, .slice a3 c.sub.length n3], .int .i64 day, .int .i64 100000, .agg #[.slice E.af E.F.length E.cf, .slice E.ac E.C.length E.cc]] W0 (BfP W0 (befR c day 100000 E.F E.C))) := before_any c _ _ _ day 100000 E W0 (h.frame hb0)
 have Hb0 := Lib.hid hb0
 have c0 : W0.cell? ⟨w.heap.size, 0, none⟩ = some (.int .u8 c.k) := bc.cell (j := 0) rfl
 have c1 : W0.cell? ⟨w.heap.size, 1, none⟩ = some (.string c.fr) := bc.cell (j := 1) rfl
 have c2 : W0.cell? ⟨w.heap.size, 2, none⟩ = some (.string c.rc) := bc.cell (j := 2) rfl
 have c3 : W0.cell? ⟨w.heap.size, 3, none⟩ = some (.string c.nm) := bc.cell (j := 3) rfl
 have c4 : W0.cell? ⟨w.heap.size, 4, none⟩ = some (.int .u8 c.ex.k) := bc.cell (j := 4) rfl
 have c5 : W0.cell? ⟨w.heap.size, 5, none⟩ = some (.string c.ex.ra) := bc.cell (j := 5) rfl
 have c6 : W0.cell? ⟨w.heap.size, 6, none⟩ = some (.string c.ex.nm) := bc.cell (j := 6) rfl
 have c7 : W0.cell? ⟨w.heap.size, 7, none⟩ = some (.int .i64 c.ex.d) := bc.cell (j := 7) rfl
 have c8 : W0.cell? ⟨w.heap.size, 8, none⟩ = some (.slice a1 c.ex.sub.length n1) := bc.cell (j := 8) rfl
 have c9 : W0.cell? ⟨w.heap.size, 9, none⟩ = some (.int .i64 c.d) := bc.cell (j := 9) rfl
 have c10 : W0.cell? ⟨w.heap.size, 10, none⟩ = some (.slice a2 c.ds.length n2) := bc.cell (j := 10) rfl
 have c11 : W0.cell? ⟨w.heap.size, 11, none⟩ = some (.slice a3 c.sub.length n3) := bc.cell (j := 11) rfl
 have v0 : W0.cell? ⟨w.heap.size + 1, 0, none⟩ = some (.slice E.af E.F.length E.cf) := bv.cell (j := 0) rfl
 have v1 : W0.cell? ⟨w.heap.size + 1, 1, none⟩ = some (.slice E.ac E.C.length E.cc) := bv.cell (j := 1) rfl
 show Calls _ _ #[.agg #[.int .u8 c.k, .string c.fr, .string c.rc, .string c.nm, .int .u8 c.ex.k, .string c.ex.ra, .string c.ex.nm, .int .i64 c.ex.d, .slice a1 c.ex.sub.length n1, .int .i64 c.d, .slice a2 c.ds.length n2, .slice a3 c.sub.length n3], .int .i64 day, .agg #[.slice E.af E.F.length E.cf, .slice E.ac E.C.length E.cc]] _ _
 generalize befR c day 100000 E.F E.C = R at HC ⊢
 clear h bc bv hb0
 show Calls _ _ _ _ (fun e w' => ∃ ad cap, e = .returned (.tuple #[.slice ad R.2.length cap, .int .i64 R.1]) ∧ Below w.heap.size w w' ∧ R.2.length ≤ cap ∧ (ad = none → cap = 0) ∧ Rd Fl.cells 5 w' ad R.2)
 go_enter Tryz.func12, Tryz.ntmps12
 go_upto_region 1 with (fail)
 clear hW0
 go_wp2_with (go_at_call 14; refine HC.out.mono ?_; rintro e w1 ⟨ad, cap, rfl, hb1, q⟩)
 go_ret2
 exact ⟨_, _, rfl, Hb0.out.trans (hb1.mono Hb0.out.size), q⟩
end Go.Proofs.YtknpnhodpgajbaaGreatDoor

namespace Go.Proofs.YtknpnhodpgajbaaGreatDoor
open Go.RowKit
set_option maxRecDepth 100000 in
theorem con10_any (r : ByteArray) (w : World) : Calls Tryz.prog 22 #[.string r] w fun e w' => e = .returned (.agg #[.int .u8 1, .string r, .string ⟨#[]⟩, .int .i64 0, .slice none 0 0]) ∧ Below w.heap.size w w' := by
 go_enter Tryz.func22, Tryz.ntmps22
 go_wp2
 refine bodyPost_ret (v := .agg #[.int .u8 1, .string r, .string ⟨#[]⟩, .int .i64 0, .slice none 0 0]) (by simp [results, Tryz.results22, go_sem]) rfl ?_
 exact ⟨rfl, below_a1 _ _⟩
set_option maxRecDepth 100000 in
theorem now10_any (n : ByteArray) (w : World) : Calls Tryz.prog 28 #[.string n] w fun e w' => e = .returned (.agg #[.int .u8 3, .string ⟨#[]⟩, .string n, .int .i64 0, .slice none 0 0]) ∧ Below w.heap.size w w' := by
 go_enter Tryz.func28, Tryz.ntmps28
 go_wp2
 refine bodyPost_ret (v := .agg #[.int .u8 3, .string ⟨#[]⟩, .string n, .int .i64 0, .slice none 0 0]) (by simp [results, Tryz.results28, go_sem]) rfl ?_
 exact ⟨rfl, below_a1 _ _⟩
set_option maxRecDepth 100000 in
theorem pay10_any (k : Int) (r n : ByteArray) (d : Int) (ad : Option Addr) (m cap : Nat) (w : World) : Calls Tryz.prog 29 #[.agg #[.int .u8 k, .string r, .string n, .int .i64 d, .slice ad m cap]] w fun e w' =>
  e = .returned (.agg #[.int .u8 2, .string ⟨#[65, 110, 110]⟩, .string ⟨#[66, 111, 98]⟩, .string ⟨#[85, 83, 68]⟩, .int .u8 k, .string r, .string n, .int .i64 d, .slice ad m cap, .int .i64 0, .slice none 0 0, .slice none 0 0]) ∧ Below w.heap.size w w' := by
 go_enter Tryz.func29, Tryz.ntmps29
 go_wp2
 refine bodyPost_ret (v := .agg #[.int .u8 2, .string ⟨#[65, 110, 110]⟩, .string ⟨#[66, 111, 98]⟩, .string ⟨#[85, 83, 68]⟩, .int .u8 k, .string r, .string n, .int .i64 d, .slice ad m cap, .int .i64 0, .slice none 0 0, .slice none 0 0]) (by simp [results, Tryz.results29, go_sem]) rfl ?_
 exact ⟨rfl, below_a2 _ _ _⟩
set_option maxRecDepth 100000 in
theorem known10_any (w : World) : Calls Tryz.prog 27 #[] w fun e w' => ∃ B, e = .returned (.agg #[.slice (some ⟨B, 0, none⟩) 2 2, .slice none 0 0]) ∧ Rd Fx.cells 3 w' (some ⟨B, 0, none⟩) fKnown ∧ Below w.heap.size w w' := by
 go_enter Tryz.func27, Tryz.ntmps27
 go_wp2
 refine bodyPost_ret (v := .agg #[.slice (some ⟨w.heap.size + 1, 0, none⟩) 2 2, .slice none 0 0]) (by simp [results, Tryz.results27, go_sem]) rfl ?_
 refine ⟨_, rfl, fun j x hj => ⟨_, 0, rfl, fun i u hu => ?_⟩, below_a2 _ _ _⟩
 have h1 := cell_new (w.alloc (.cells #[.slice (some ⟨w.heap.size + 1, 0, none⟩) 2 2, .slice none 0 0] 33)) (fKnown.flatMap Fx.cells) 94 (flat_get Fx.cells 3 (fun _ => rfl) fKnown j x i u hj hu)
 rw [World.size_alloc] at h1
 rw [Nat.zero_add]
 exact h1
end Go.Proofs.YtknpnhodpgajbaaGreatDoor
