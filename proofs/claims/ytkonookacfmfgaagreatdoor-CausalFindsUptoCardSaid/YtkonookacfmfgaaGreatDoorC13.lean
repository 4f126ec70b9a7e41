/-
  slices.Compact at choices (printed by tools/gencmp.py C). novationref15.SameChoices (printed by tools/gensame.py C). Two fixings compared; membership step by step. The layings of slices.SortFunc at Need, Choice and int (written by the kit's lay-plain.mjs: tools/laysort.sh).
-/
import Derived.Test.YtkonookacfmfgaaGreatDoorC08
import Derived.Test.YtkonookacfmfgaaGreatDoorC12
import Derived.Test.YtkonookacfmfgaaGreatDoorC06
import Derived.Laws.StructEq
import Derived.IntWalk
import Derived.Shelf.SlSortCmp.NoneTotal
import Derived.Ground.SlsfProg
import Derived.Test.YtkonookacfmfgaaGreatDoorProg
namespace Go.Proofs.YtkonookacfmfgaaGreatDoor
open Go.RowKit
theorem cxCells_len (x : ChP) : (cxCells x).length = 4 := rfl
theorem cxCells_zv : ∀ w, (zeroValue 80).run Tryz.prog w = .ok (.agg #[.string ⟨#[]⟩, .string ⟨#[]⟩, .int .i64 0, .bool false]) w := fun w => by go_simp
theorem cxCells_keep {L : List ChP} {k : Nat} {x y z : ChP} (h1 : 1 ≤ k) (hx : L[k - 1]? = some x) (hy : L[k]? = some y) (hne : y ≠ x) {kk : Nat} (hk : (cmpct (L.take k)).length = kk) (hz : L[kk]? = some z) :
  ((((((cRow L k).flatMap cxCells).set (kk * 4) (.string y.1)).set (kk * 4 + 1) (.string y.2.1)).set (kk * 4 + 2) (.int .i64 y.2.2)).set (kk * 4 + 3) (.bool false)) = (cRow L (k + 1)).flatMap cxCells ∧ (cmpct (L.take (k + 1))).length = kk + 1 := by
 subst hk
 obtain ⟨e1, e2⟩ := cRow_keep h1 hx hy hne hz
 refine ⟨?_, by rw [cmpct_new' h1 hx hy hne]; simp⟩
 rw [e1, e2]
 have s0 := set_flat (enc := cxCells) (m := 4) cxCells_len (cmpct (L.take k)) (L.drop ((cmpct (L.take k)).length + 1)) z (y.1, z.2.1, z.2.2) _ 0 (.string y.1) rfl (by decide) rfl
 have s1 := set_flat (enc := cxCells) (m := 4) cxCells_len (cmpct (L.take k)) (L.drop ((cmpct (L.take k)).length + 1)) (y.1, z.2.1, z.2.2) (y.1, y.2.1, z.2.2) _ 1 (.string y.2.1) rfl (by decide) rfl
 have s2 := set_flat (enc := cxCells) (m := 4) cxCells_len (cmpct (L.take k)) (L.drop ((cmpct (L.take k)).length + 1)) (y.1, y.2.1, z.2.2) y _ 2 (.int .i64 y.2.2) rfl (by decide) rfl
 have s3 := set_flat (enc := cxCells) (m := 4) cxCells_len (cmpct (L.take k)) (L.drop ((cmpct (L.take k)).length + 1)) y y _ 3 (.bool false) rfl (by decide) rfl
 simp only [Nat.add_zero] at s0
 rw [s0, s1, s2, s3]
set_option maxHeartbeats 8000000 in
set_option maxRecDepth 100000 in
theorem compactC_any (base : Nat) (L : List ChP) (v : Value) (W : World) (hown : W.ownsRow base 80 4 v L.length (L.flatMap cxCells)) (hlen : L.length ≤ 4000000000000) :
  Calls Tryz.prog 59 #[v] W fun e W' => ∃ v', e = .returned v' ∧ W'.ownsRow base 80 4 v' (cmpct L).length ((cmpct L).flatMap cxCells) ∧ W.grownBy W' v.ownBlock := by
 by_cases hs : L.length < 2
 ·have hc : cmpct L = L := by
   match L, hs with
   | [], _ => rfl
   | [a], _ => rfl
  rw [hc]
  have HO := Lib.hid hown
  obtain ⟨n, hn⟩ : ∃ n, L.length = n := ⟨_, rfl⟩
  obtain ⟨ad, cap, rfl⟩ : ∃ ad cap, v = .slice ad n cap := by
   rcases hown.2 with ⟨rfl, h⟩ | ⟨g, cap, cur, rfl, _⟩
   ·exact ⟨none, 0, by rw [← hn, h]⟩
   ·exact ⟨_, cap, by rw [hn]⟩
  rw [hn] at hs hlen
  clear hown hc
  go_enter Tryz.func59, Tryz.ntmps59
  go_wp2
  go_ret
  exact ⟨_, rfl, HO.out, World.grownBy.refl _ _⟩
 ·obtain ⟨n, hn⟩ : ∃ n, L.length = n := ⟨_, rfl⟩
  have Hn := Lib.hid hn
  obtain ⟨g, cap, rfl, hcap⟩ : ∃ g cap, v = .slice (some ⟨g, 0, none⟩) n cap ∧ n ≤ cap ∧ cap ≤ maxLen := by
   rcases hown.2 with ⟨rfl, h⟩ | ⟨g, cap, cur, rfl, _, _, h1, h2, _⟩
   ·omega
   ·exact ⟨g, cap, by rw [hn], by omega, h2⟩
  rw [hn] at hs hlen hown
  have hR0 := RSt.start hown
  clear hown hn
  obtain ⟨hcap, hcm⟩ := hcap
  go_enter Tryz.func59, Tryz.ntmps59
  go_wp2
  go_loopw [3] (fun i wr => ∃ k : Nat, 1 ≤ k ∧ k ≤ n ∧ i = .int .i64 k ∧ Hid (cmpct (L.take k) = L.take k) ∧ RSt W wr 80 4 g base n cap (L.flatMap cxCells)) (fun i _ => n - (intOf i).toNat)
  case atStart => exact ⟨1, Nat.le_refl _, by omega, rfl, Lib.hid (cmpct_one L), hR0⟩
  case round =>
   clear hR0
   obtain ⟨k, hk1, hk, rfl, Hc, hR⟩ := hrel
   by_cases hlt : k < n
   ·obtain ⟨x, hx⟩ : ∃ x, L[k - 1]? = some x := ⟨_, List.getElem?_eq_getElem (by rw [Hn.out]; omega)⟩
    obtain ⟨y, hy⟩ : ∃ y, L[k]? = some y := ⟨_, List.getElem?_eq_getElem (by rw [Hn.out]; omega)⟩
    obtain ⟨xp, xn, xd⟩ := x
    obtain ⟨yp, yn, yd⟩ := y
    have x0 : wr.cell? ⟨g, (k - 1) * 4, none⟩ = some (.string xp) := by
     have h := hR.at (flat_at cxCells_len hx 0 _ rfl)
     simpa only [Nat.add_zero] using h
    have x1 : wr.cell? ⟨g, (k - 1) * 4 + 1, none⟩ = some (.string xn) := by
     have h := hR.at (flat_at cxCells_len hx 1 _ rfl)
     simpa only [Nat.add_zero] using h
    have x2 : wr.cell? ⟨g, (k - 1) * 4 + 2, none⟩ = some (.int .i64 xd) := by
     have h := hR.at (flat_at cxCells_len hx 2 _ rfl)
     simpa only [Nat.add_zero] using h
    have x3 : wr.cell? ⟨g, (k - 1) * 4 + 3, none⟩ = some (.bool false) := by
     have h := hR.at (flat_at cxCells_len hx 3 _ rfl)
     simpa only [Nat.add_zero] using h
    have y0 : wr.cell? ⟨g, k * 4, none⟩ = some (.string yp) := by
     have h := hR.at (flat_at cxCells_len hy 0 _ rfl)
     simpa only [Nat.add_zero] using h
    have y1 : wr.cell? ⟨g, k * 4 + 1, none⟩ = some (.string yn) := by
     have h := hR.at (flat_at cxCells_len hy 1 _ rfl)
     simpa only [Nat.add_zero] using h
    have y2 : wr.cell? ⟨g, k * 4 + 2, none⟩ = some (.int .i64 yd) := by
     have h := hR.at (flat_at cxCells_len hy 2 _ rfl)
     simpa only [Nat.add_zero] using h
    have y3 : wr.cell? ⟨g, k * 4 + 3, none⟩ = some (.bool false) := by
     have h := hR.at (flat_at cxCells_len hy 3 _ rfl)
     simpa only [Nat.add_zero] using h
    have e1 : IntKind.i64.wrap ((k : Int) - 1) = ((k - 1 : Nat) : Int) := by rw [IntWalk.i64_in _ (by omega)]; omega
    have hl1 : ((k - 1 : Nat) : Int) < (n : Int) := by omega
    have hl0 : (k : Int) < (n : Int) := by omega
    have HX := Lib.hid hx
    have HY := Lib.hid hy
    clear hx hy
    go_wp2_with fail
    have HT0 := Lib.hid (toList_beq yp xp)
    cases t0 : (yp.toList == xp.toList) with
    | false =>
     have Hne : Hid ((yp, yn, yd) ≠ (xp, xn, xd)) := Lib.hid (by rw [HT0.out, decide_eq_false_iff_not] at t0; exact fun e => t0 ((Prod.mk.inj e).1))
     go_quiet (fail)
     go_wp2
     go_roundw
     case rel => exact ⟨k + 1, by omega, by omega, by go_num, Lib.hid (cmpct_full hk1 HX.out HY.out Hne.out Hc.out), hR.drewN _⟩
     case measure => simp [intOf]; omega
    | true =>
     have HT1 := Lib.hid (toList_beq yn xn)
     cases t1 : (yn.toList == xn.toList) with
     | false =>
      have Hne : Hid ((yp, yn, yd) ≠ (xp, xn, xd)) := Lib.hid (by rw [HT1.out, decide_eq_false_iff_not] at t1; exact fun e => t1 ((Prod.mk.inj (Prod.mk.inj e).2).1))
      go_quiet (fail)
      go_wp2
      go_roundw
      case rel => exact ⟨k + 1, by omega, by omega, by go_num, Lib.hid (cmpct_full hk1 HX.out HY.out Hne.out Hc.out), hR.drewN _⟩
      case measure => simp [intOf]; omega
     | true =>
      by_cases t2 : yd = xd
      ·go_quiet (fail)
       have HE : Hid ((yp, yn, yd) = (xp, xn, xd)) := Lib.hid (by rw [HT0.out, decide_eq_true_eq] at t0; rw [HT1.out, decide_eq_true_eq] at t1; rw [t0, t1, t2])
       have HY2 : Hid (L[k]? = some (xp, xn, xd)) := Lib.hid (by rw [← HE.out]; exact HY.out)
       have hR1 := hR.drewN nq
       generalize wr.drewN nq = w1 at hR1 ⊢
       clear x0 x1 x2 x3 y0 y1 y2 y3 hR t0 t1 t2 e1 hl1
       go_wp2
       go_loopw [3, 5] (fun s3 s5 wz => ∃ k2 kk : Nat, 1 ≤ k2 ∧ k + k2 ≤ n ∧ kk < k + k2 ∧ s3 = .int .i64 kk ∧ s5 = .int .i64 k2 ∧ Hid ((cmpct (L.take (k + k2))).length = kk) ∧ RSt W wz 80 4 g base n cap ((cRow L (k + k2)).flatMap cxCells)) (fun _ s5 _ => n - (intOf s5).toNat)
       case atStart =>
        have hh := cRow_half hk1 HX.out HY2.out Hc.out
        exact ⟨1, k, Nat.le_refl _, by omega, by omega, rfl, rfl, Lib.hid hh.2, by rw [hh.1]; exact hR1⟩
       case round =>
        clear hR1 hlt hl0
        obtain ⟨k2, kk, hk2, hkn, hkk, rfl, rfl, Hkk, hR⟩ := hrel
        by_cases hlt : k + k2 < n
        ·obtain ⟨x, hx⟩ : ∃ x, L[k + k2 - 1]? = some x := ⟨_, List.getElem?_eq_getElem (by rw [Hn.out]; omega)⟩
         obtain ⟨y, hy⟩ : ∃ y, L[k + k2]? = some y := ⟨_, List.getElem?_eq_getElem (by rw [Hn.out]; omega)⟩
         obtain ⟨z, hz⟩ : ∃ z, L[kk]? = some z := ⟨_, List.getElem?_eq_getElem (by rw [Hn.out]; omega)⟩
         obtain ⟨up, un, ud⟩ := x
         obtain ⟨vp, vn, vd⟩ := y
         obtain ⟨op, on, od⟩ := z
         have hcx := (cRow_high (L := L) (m := k + k2) (j := k + k2 - 1) (by rw [Hkk.out]; omega)).trans hx
         have hcy := (cRow_high (L := L) (m := k + k2) (j := k + k2) (by rw [Hkk.out]; omega)).trans hy
         have hcz := (cRow_high (L := L) (m := k + k2) (j := kk) (by rw [Hkk.out]; omega)).trans hz
         have x0 : wr.cell? ⟨g, k * 4 + (k2 - 1) * 4, none⟩ = some (.string up) := by
          rw [show k * 4 + (k2 - 1) * 4 = (k + k2 - 1) * 4 by omega]
          have h := hR.at (flat_at cxCells_len hcx 0 _ rfl)
          simpa only [Nat.add_zero] using h
         have x1 : wr.cell? ⟨g, k * 4 + (k2 - 1) * 4 + 1, none⟩ = some (.string un) := by
          rw [show k * 4 + (k2 - 1) * 4 = (k + k2 - 1) * 4 by omega]
          have h := hR.at (flat_at cxCells_len hcx 1 _ rfl)
          simpa only [Nat.add_zero] using h
         have x2 : wr.cell? ⟨g, k * 4 + (k2 - 1) * 4 + 2, none⟩ = some (.int .i64 ud) := by
          rw [show k * 4 + (k2 - 1) * 4 = (k + k2 - 1) * 4 by omega]
          have h := hR.at (flat_at cxCells_len hcx 2 _ rfl)
          simpa only [Nat.add_zero] using h
         have x3 : wr.cell? ⟨g, k * 4 + (k2 - 1) * 4 + 3, none⟩ = some (.bool false) := by
          rw [show k * 4 + (k2 - 1) * 4 = (k + k2 - 1) * 4 by omega]
          have h := hR.at (flat_at cxCells_len hcx 3 _ rfl)
          simpa only [Nat.add_zero] using h
         have y0 : wr.cell? ⟨g, k * 4 + k2 * 4, none⟩ = some (.string vp) := by
          rw [show k * 4 + k2 * 4 = (k + k2) * 4 by omega]
          have h := hR.at (flat_at cxCells_len hcy 0 _ rfl)
          simpa only [Nat.add_zero] using h
         have y1 : wr.cell? ⟨g, k * 4 + k2 * 4 + 1, none⟩ = some (.string vn) := by
          rw [show k * 4 + k2 * 4 = (k + k2) * 4 by omega]
          have h := hR.at (flat_at cxCells_len hcy 1 _ rfl)
          simpa only [Nat.add_zero] using h
         have y2 : wr.cell? ⟨g, k * 4 + k2 * 4 + 2, none⟩ = some (.int .i64 vd) := by
          rw [show k * 4 + k2 * 4 = (k + k2) * 4 by omega]
          have h := hR.at (flat_at cxCells_len hcy 2 _ rfl)
          simpa only [Nat.add_zero] using h
         have y3 : wr.cell? ⟨g, k * 4 + k2 * 4 + 3, none⟩ = some (.bool false) := by
          rw [show k * 4 + k2 * 4 = (k + k2) * 4 by omega]
          have h := hR.at (flat_at cxCells_len hcy 3 _ rfl)
          simpa only [Nat.add_zero] using h
         have z0 : wr.cell? ⟨g, kk * 4, none⟩ = some (.string op) := by
          have h := hR.at (flat_at cxCells_len hcz 0 _ rfl)
          simpa only [Nat.add_zero] using h
         have z1 : wr.cell? ⟨g, kk * 4 + 1, none⟩ = some (.string on) := by
          have h := hR.at (flat_at cxCells_len hcz 1 _ rfl)
          simpa only [Nat.add_zero] using h
         have z2 : wr.cell? ⟨g, kk * 4 + 2, none⟩ = some (.int .i64 od) := by
          have h := hR.at (flat_at cxCells_len hcz 2 _ rfl)
          simpa only [Nat.add_zero] using h
         have z3 : wr.cell? ⟨g, kk * 4 + 3, none⟩ = some (.bool false) := by
          have h := hR.at (flat_at cxCells_len hcz 3 _ rfl)
          simpa only [Nat.add_zero] using h
         have f0 := hR.ice (kk * 4)
         have f1 := hR.ice (kk * 4 + 1)
         have f2 := hR.ice (kk * 4 + 2)
         have f3 := hR.ice (kk * 4 + 3)
         have HX2 := Lib.hid hx
         have HZ2 := Lib.hid hz
         have HY3 := Lib.hid hy
         clear hx hy hz hcx hcy hcz
         have e1 : IntKind.i64.wrap ((k2 : Int) - 1) = ((k2 - 1 : Nat) : Int) := by rw [IntWalk.i64_in _ (by omega)]; omega
         have hl1 : ((k2 - 1 : Nat) : Int) < ((n - k : Nat) : Int) := by omega
         have hl0 : (k2 : Int) < ((n - k : Nat) : Int) := by omega
         go_wp2_with fail
         have HT0 := Lib.hid (toList_beq vp up)
         cases t0 : (vp.toList == up.toList) with
         | false =>
          have Hne : Hid ((vp, vn, vd) ≠ (up, un, ud)) := Lib.hid (by rw [HT0.out, decide_eq_false_iff_not] at t0; exact fun e => t0 ((Prod.mk.inj e).1))
          have hst := cxCells_keep (by omega) HX2.out HY3.out Hne.out Hkk.out HZ2.out
          have hR2 := Lib.hid fun q : Nat => ((((hR.drewN q).set (kk * 4) (.string vp)).set (kk * 4 + 1) (.string vn)).set (kk * 4 + 2) (.int .i64 vd)).set (kk * 4 + 3) (.bool false)
          have HS := Lib.hid hst
          clear hst hR
          go_quiet (fail)
          go_wp2
          go_roundw
          case rel =>
           refine ⟨k2 + 1, kk + 1, by omega, by omega, by omega, by go_num, by go_num, Lib.hid HS.out.2, ?_⟩
           have := hR2.out nq
           rwa [HS.out.1] at this
          case measure => simp [intOf]; omega
         | true =>
          have HT1 := Lib.hid (toList_beq vn un)
          cases t1 : (vn.toList == un.toList) with
          | false =>
           have Hne : Hid ((vp, vn, vd) ≠ (up, un, ud)) := Lib.hid (by rw [HT1.out, decide_eq_false_iff_not] at t1; exact fun e => t1 ((Prod.mk.inj (Prod.mk.inj e).2).1))
           have hst := cxCells_keep (by omega) HX2.out HY3.out Hne.out Hkk.out HZ2.out
           have hR2 := Lib.hid fun q : Nat => ((((hR.drewN q).set (kk * 4) (.string vp)).set (kk * 4 + 1) (.string vn)).set (kk * 4 + 2) (.int .i64 vd)).set (kk * 4 + 3) (.bool false)
           have HS := Lib.hid hst
           clear hst hR
           go_quiet (fail)
           go_wp2
           go_roundw
           case rel =>
            refine ⟨k2 + 1, kk + 1, by omega, by omega, by omega, by go_num, by go_num, Lib.hid HS.out.2, ?_⟩
            have := hR2.out nq
            rwa [HS.out.1] at this
           case measure => simp [intOf]; omega
          | true =>
           by_cases t2 : vd = ud
           ·have HE : Hid ((vp, vn, vd) = (up, un, ud)) := Lib.hid (by rw [HT0.out, decide_eq_true_eq] at t0; rw [HT1.out, decide_eq_true_eq] at t1; rw [t0, t1, t2])
            have HY4 : Hid (L[k + k2]? = some (up, un, ud)) := Lib.hid (by rw [← HE.out]; exact HY3.out)
            have HS := Lib.hid (And.intro (cRow_skip (by omega) HX2.out HY4.out) (cmpct_same' (by omega) HX2.out HY4.out))
            have hR2 := Lib.hid fun q : Nat => hR.drewN q
            clear hR
            go_quiet (fail)
            go_wp2
            go_roundw
            case rel => exact ⟨k2 + 1, kk, by omega, by omega, by omega, rfl, by go_num, Lib.hid (by rw [← Nat.add_assoc, HS.out.2]; exact Hkk.out), by rw [← Nat.add_assoc, HS.out.1]; exact hR2.out nq⟩
            case measure => simp [intOf]; omega
           ·have Hne : Hid ((vp, vn, vd) ≠ (up, un, ud)) := Lib.hid (fun e => t2 ((Prod.mk.inj (Prod.mk.inj e).2).2))
            have hst := cxCells_keep (by omega) HX2.out HY3.out Hne.out Hkk.out HZ2.out
            have hR2 := Lib.hid fun q : Nat => ((((hR.drewN q).set (kk * 4) (.string vp)).set (kk * 4 + 1) (.string vn)).set (kk * 4 + 2) (.int .i64 vd)).set (kk * 4 + 3) (.bool false)
            have HS := Lib.hid hst
            clear hst hR
            go_quiet (fail)
            go_wp2
            go_roundw
            case rel =>
             refine ⟨k2 + 1, kk + 1, by omega, by omega, by omega, by go_num, by go_num, Lib.hid HS.out.2, ?_⟩
             have := hR2.out nq
             rwa [HS.out.1] at this
            case measure => simp [intOf]; omega
        ·have hend : k + k2 = n := by omega
         obtain ⟨vs, hcl⟩ := run_clear_own hR ul_chs _ cxCells_zv rfl (by intro u hu; simp [Value.cells] at hu; rcases hu with rfl | rfl | rfl | rfl <;> rfl) kk (cap - kk) (by omega) 0
         obtain ⟨os', hR3, hos⟩ := hR.sets vs (kk * 4) (kk * 4) (Nat.le_refl _)
         have hfin := ownsRow_cut hR3.own kk (by omega)
         rw [hos] at hfin
         have hkl : (cmpct L).length = kk := by have := Hkk.out; rwa [hend, ← Hn.out, List.take_length] at this
         have hrow := cRow_end (enc := cxCells) (m := 4) cxCells_len L
         rw [Hn.out, ← hend, hkl] at hrow
         rw [hrow] at hfin
         have HF := Lib.hid (And.intro hfin hR3.gr)
         have Hkl := Lib.hid hkl
         clear hfin hrow hos hR3 hR hkl
         go_wp2
         go_ret
         refine ⟨_, rfl, ?_, HF.out.2⟩
         rw [Hkl.out]
         exact HF.out.1
      ·have Hne : Hid ((yp, yn, yd) ≠ (xp, xn, xd)) := Lib.hid (fun e => t2 ((Prod.mk.inj (Prod.mk.inj e).2).2))
       go_quiet (fail)
       go_wp2
       go_roundw
       case rel => exact ⟨k + 1, by omega, by omega, by go_num, Lib.hid (cmpct_full hk1 HX.out HY.out Hne.out Hc.out), hR.drewN _⟩
       case measure => simp [intOf]; omega
   ·have hkn : k = n := by omega
    subst hkn
    have hf : Hid (cmpct L = L) := Lib.hid (by have := Hc.out; rwa [← Hn.out, List.take_length] at this)
    have HR := Lib.hid hR
    clear hR
    go_wp2
    go_ret
    refine ⟨_, rfl, ?_, HR.out.gr⟩
    rw [hf.out, Hn.out]
    exact HR.out.own
end Go.Proofs.YtkonookacfmfgaaGreatDoor

namespace Go.Proofs.YtkonookacfmfgaaGreatDoor
open Go.RowKit
def RdCx (w : World) (l : List ChP) (v : Value) : Prop := ∃ ad cap, v = .slice ad l.length cap ∧ ∀ k x, l[k]? = some x → ∃ b off, ad = some ⟨b, off, none⟩ ∧ w.cell? ⟨b, off + k * 4, none⟩ = some (.string x.1) ∧ w.cell? ⟨b, off + k * 4 + 1, none⟩ = some (.string x.2.1) ∧ w.cell? ⟨b, off + k * 4 + 2, none⟩ = some (.int .i64 x.2.2) ∧ w.cell? ⟨b, off + k * 4 + 3, none⟩ = some (.bool false)
theorem RdCx.low {w w' : World} {l : List ChP} {v : Value} (h : RdCx w l v) (hb : Below w.heap.size w w') : RdCx w' l v := by
 obtain ⟨ad, cap, rfl, h⟩ := h
 refine ⟨ad, cap, rfl, fun k x hk => ?_⟩
 obtain ⟨b, off, e, h0, h1, h2, h3⟩ := h k x hk
 have hl : b < w.heap.size := World.block_lt_of_cell? w _ h0
 exact ⟨b, off, e, by rw [hb.cell (p := ⟨b, off + k * 4, none⟩) hl]; exact h0, by rw [hb.cell (p := ⟨b, off + k * 4 + 1, none⟩) hl]; exact h1, by rw [hb.cell (p := ⟨b, off + k * 4 + 2, none⟩) hl]; exact h2, by rw [hb.cell (p := ⟨b, off + k * 4 + 3, none⟩) hl]; exact h3⟩
theorem RdCx.own {w : World} {base : Nat} {l : List ChP} {v : Value} (h : w.ownsRow base 80 4 v l.length (l.flatMap cxCells)) : RdCx w l v := by
 rcases h.2 with ⟨rfl, h0⟩ | ⟨g, cap, cur, rfl, _⟩
 ·refine ⟨none, 0, by rw [h0], fun k x hk => ?_⟩
  rw [List.eq_nil_of_length_eq_zero h0] at hk
  simp at hk
 ·refine ⟨_, cap, rfl, fun k x hk => ⟨g, 0, rfl, ?_⟩⟩
  have hfl := flat_length cxCells 4 cxCells_len l
  have hkl := (List.getElem?_eq_some_iff.1 hk).1
  have h0 := flat_at cxCells_len hk 0 _ rfl
  have h1 := flat_at cxCells_len hk 1 _ rfl
  have h2 := flat_at cxCells_len hk 2 _ rfl
  have h3 := flat_at cxCells_len hk 3 _ rfl
  refine ⟨?_, ?_, ?_, ?_⟩
  ·rw [Nat.zero_add, h.cellAt (k * 4) (by omega)]; exact h0
  ·rw [Nat.zero_add, h.cellAt (k * 4 + 1) (by omega)]; exact h1
  ·rw [Nat.zero_add, h.cellAt (k * 4 + 2) (by omega)]; exact h2
  ·rw [Nat.zero_add, h.cellAt (k * 4 + 3) (by omega)]; exact h3
set_option maxHeartbeats 4000000 in
set_option maxRecDepth 100000 in
theorem sameChoices_any (a b : List ChP) (va vb : Value) (W : World) (ha : RdCx W a va) (hb : RdCx W b vb) (hla : a.length ≤ 4000000000000) (hlb : b.length ≤ 4000000000000) :
  Calls Tryz.prog 13 #[va, vb] W fun e W' => e = .returned (.bool (decide (a = b))) ∧ Below W.heap.size W W' := by
 obtain ⟨ad, cap, rfl, hra⟩ := ha
 obtain ⟨bd, bcap, rfl, hrb⟩ := hb
 obtain ⟨n, hn⟩ : ∃ n, a.length = n := ⟨_, rfl⟩
 obtain ⟨m, hm⟩ : ∃ m, b.length = m := ⟨_, rfl⟩
 have Hn := Lib.hid hn
 have Hm := Lib.hid hm
 have HA := Lib.hid hra
 have HB := Lib.hid hrb
 rw [hn] at hla ⊢
 rw [hm] at hlb ⊢
 clear hra hrb hn hm
 by_cases hnm : n = m
 ·subst hnm
  obtain ⟨r, hr⟩ : ∃ r, decide (a = b) = r := ⟨_, rfl⟩
  have HR := Lib.hid hr
  rw [hr]
  clear hr
  go_enter Tryz.func13, Tryz.ntmps13
  go_wp2
  go_loopw [5] (fun i wr => ∃ k : Nat, k ≤ n ∧ i = .int .i64 (k : Int) ∧ Hid (∀ j, j < k → a[j]? = b[j]?) ∧ ∃ q, wr = W.drewN q) (fun i _ => n - (intOf i).toNat)
  case atStart => exact ⟨0, Nat.zero_le _, rfl, Lib.hid fun j hj => absurd hj (Nat.not_lt_zero _), 0, rfl⟩
  case round =>
   obtain ⟨k, hk, rfl, Hc, q, rfl⟩ := hrel
   by_cases hlt : k < n
   ·obtain ⟨x, hx⟩ : ∃ x, a[k]? = some x := ⟨_, List.getElem?_eq_getElem (by rw [Hn.out]; exact hlt)⟩
    obtain ⟨y, hy⟩ : ∃ y, b[k]? = some y := ⟨_, List.getElem?_eq_getElem (by rw [Hm.out]; exact hlt)⟩
    obtain ⟨xp, xn, xd⟩ := x
    obtain ⟨yp, yn, yd⟩ := y
    obtain ⟨ba, oa, rfl, x0, x1, x2, x3⟩ := HA.out k _ hx
    obtain ⟨bb, ob, rfl, y0, y1, y2, y3⟩ := HB.out k _ hy
    have HX := Lib.hid hx
    have HY := Lib.hid hy
    have hl0 : (k : Int) < (n : Int) := by omega
    clear hx hy
    go_wp2_with fail
    have HT0 := Lib.hid (toList_beq xp yp)
    cases t0 : (xp.toList == yp.toList) with
    | false =>
     have HF : Hid (false = r) := Lib.hid (by
      rw [← HR.out, eq_comm, decide_eq_false_iff_not]
      rintro rfl
      rw [HT0.out, decide_eq_false_iff_not] at t0
      have e := Option.some.inj (HX.out.symm.trans HY.out)
      exact t0 ((Prod.mk.inj e).1))
     go_quiet (fail)
     go_wp2
     go_ret
     exact ⟨ret_bool' HF.out, below_drewN (below_drewN (Below.refl _ _) _) _⟩
    | true =>
     have HT1 := Lib.hid (toList_beq xn yn)
     cases t1 : (xn.toList == yn.toList) with
     | false =>
      have HF : Hid (false = r) := Lib.hid (by
       rw [← HR.out, eq_comm, decide_eq_false_iff_not]
       rintro rfl
       rw [HT1.out, decide_eq_false_iff_not] at t1
       have e := Option.some.inj (HX.out.symm.trans HY.out)
       exact t1 ((Prod.mk.inj (Prod.mk.inj e).2).1))
      go_quiet (fail)
      go_wp2
      go_ret
      exact ⟨ret_bool' HF.out, below_drewN (below_drewN (Below.refl _ _) _) _⟩
     | true =>
      by_cases t2 : xd = yd
      ·have HE : Hid (a[k]? = b[k]?) := Lib.hid (by rw [HX.out, HY.out]; rw [HT0.out, decide_eq_true_eq] at t0; rw [HT1.out, decide_eq_true_eq] at t1; rw [t0, t1, t2])
       go_quiet (fail)
       go_wp2
       go_roundw
       case rel => exact ⟨k + 1, by omega, by go_num, Lib.hid (same_step Hc.out HE.out), _, rfl⟩
       case measure => simp [intOf]; omega
      ·have HF : Hid (false = r) := Lib.hid (by
        rw [← HR.out, eq_comm, decide_eq_false_iff_not]
        rintro rfl
        skip
        have e := Option.some.inj (HX.out.symm.trans HY.out)
        exact t2 ((Prod.mk.inj (Prod.mk.inj e).2).2))
       go_quiet (fail)
       go_wp2
       go_ret
       exact ⟨ret_bool' HF.out, below_drewN (below_drewN (Below.refl _ _) _) _⟩
   ·have HF : Hid (true = r) := Lib.hid (by
     rw [← HR.out, eq_comm, decide_eq_true_eq]
     apply List.ext_getElem?
     intro j
     rcases Nat.lt_or_ge j k with h | h
     ·exact Hc.out j h
     ·rw [List.getElem?_eq_none (by rw [Hn.out]; omega), List.getElem?_eq_none (by rw [Hm.out]; omega)])
    go_wp2
    go_ret
    exact ⟨ret_bool' HF.out, below_drewN (Below.refl _ _) _⟩
 ·have HF : Hid (false = decide (a = b)) := Lib.hid (by
   rw [eq_comm, decide_eq_false_iff_not]
   rintro rfl
   exact hnm (Hn.out.symm.trans Hm.out))
  go_enter Tryz.func13, Tryz.ntmps13
  go_wp2
  go_ret
  exact ⟨ret_bool' HF.out, Below.refl _ _⟩
end Go.Proofs.YtkonookacfmfgaaGreatDoor

namespace Go.Proofs.YtkonookacfmfgaaGreatDoor
open Go.RowKit
set_option maxRecDepth 1000000 in
theorem eqv_nd (n m : ByteArray) (d e : Int) (w : World) : (Op.equalIn 10000 66 (.agg #[.string n, .int .i64 d]) (.agg #[.string m, .int .i64 e])).run Tryz.prog w = .ok (decide (((n, d) : NdP) = (m, e))) w := by
 have hS : Tryz.prog.underlying 66 = some (.struct (Tryz.prog.fieldsOf 66)) := by kernel_rfl
 have hp : Tryz.prog.stoodInHeld 66 = false := by kernel_rfl
 rw [show (10000 : Nat) = 9999 + 1 from rfl, run_equalIn_agg w 9999 _ _ _ hS hp]
 simp only [Program.fieldsOf, Tryz.underlying66]
 have hE : decide (((n, d) : NdP) = (m, e)) = (if n.toList = m.toList then if d = e then true else false else false) := by
  simp only [toList_eq_iff]
  by_cases h1 : n = m
  ·by_cases h2 : d = e
   ·subst h1 h2; simp
   ·rw [decide_eq_false (by simp [h2])]; simp [h2]
  ·rw [decide_eq_false (by simp [h1])]; simp [h1]
 rw [hE]
 clear hE
 go_simp
 split <;> (try split) <;> simp [*]
theorem mem_step {α : Type} [DecidableEq α] {l : List α} {k : Nat} {x y : α} (h : l[k]? = some y) : eqB (x ∈ l.take (k + 1)) = (eqB (x ∈ l.take k) || decide (y = x)) := by
 rw [take_snoc_get h, Bool.eq_iff_iff, Bool.or_eq_true, eqB_iff, eqB_iff, List.mem_append, List.mem_singleton, decide_eq_true_eq]
 exact ⟨fun h => h.imp id Eq.symm, fun h => h.imp id Eq.symm⟩
end Go.Proofs.YtkonookacfmfgaaGreatDoor

namespace Go.Proofs
open Go.Shelf
def Tryz.laysNeed_ren : Go.Shelf.Ren := ⟨fun | 6 => 49 | 15 => 71 | 14 => 70 | 28 => 105 | 29 => 106 | 20 => 97 | 21 => 98 | 22 => 99 | 23 => 100 | 24 => 101 | 25 => 102 | 26 => 103 | 27 => 104 | 46 => 134 | 47 => 135 | 48 => 136 | 49 => 137 | 50 => 138 | 57 => 151 | n => n, fun | 22 => 32 | 24 => 66 | 25 => 71 | 3 => 3 | 39 => 114 | 0 => 0 | 53 => 133 | 55 => 135 | 4 => 4 | 46 => 127 | 45 => 126 | 50 => 54 | 5 => 5 | 9 => 9 | 66 => 152 | 70 => 156 | 76 => 170 | 77 => 171 | n => n, fun | n => n⟩
theorem Tryz.laysNeed : Go.Proofs.SlLaysF0.n6 Tryz.prog Tryz.laysNeed_ren := {
 mixed := by kernel_rfl
 f6 := ⟨Tryz.f49.name, by decide, Tryz.func49.trans (congrArg some (by kernel_rfl))⟩
 f14 := ⟨Tryz.f70.name, by decide, Tryz.func70.trans (congrArg some (by kernel_rfl))⟩
 f15 := Tryz.func71.trans (congrArg some (by kernel_rfl))
 f20 := ⟨Tryz.f97.name, by decide, Tryz.func97.trans (congrArg some (by kernel_rfl))⟩
 f21 := ⟨Tryz.f98.name, by decide, Tryz.func98.trans (congrArg some (by kernel_rfl))⟩
 f22 := ⟨Tryz.f99.name, by decide, Tryz.func99.trans (congrArg some (by kernel_rfl))⟩
 f23 := ⟨Tryz.f100.name, by decide, Tryz.func100.trans (congrArg some (by kernel_rfl))⟩
 f24 := ⟨Tryz.f101.name, by decide, Tryz.func101.trans (congrArg some (by kernel_rfl))⟩
 f25 := ⟨Tryz.f102.name, by decide, Tryz.func102.trans (congrArg some (by kernel_rfl))⟩
 f26 := ⟨Tryz.f103.name, by decide, Tryz.func103.trans (congrArg some (by kernel_rfl))⟩
 f27 := ⟨Tryz.f104.name, by decide, Tryz.func104.trans (congrArg some (by kernel_rfl))⟩
 f28 := Tryz.func105.trans (congrArg some (by kernel_rfl))
 f29 := Tryz.func106.trans (congrArg some (by kernel_rfl))
 f46 := ⟨Tryz.f134.name, by decide, Tryz.func134.trans (congrArg some (by kernel_rfl))⟩
 f47 := Tryz.func135.trans (congrArg some (by kernel_rfl))
 f48 := Tryz.func136.trans (congrArg some (by kernel_rfl))
 f49 := ⟨Tryz.f137.name, by decide, Tryz.func137.trans (congrArg some (by kernel_rfl))⟩
 f50 := ⟨Tryz.f138.name, by decide, Tryz.func138.trans (congrArg some (by kernel_rfl))⟩
 f57 := ⟨Tryz.f151.name, by decide, Tryz.func151.trans (congrArg some (by kernel_rfl))⟩
 t0 := Tryz.underlying0
 a0 := Tryz.isAgg0
 z0 := Tryz.sizeOf0
 v0 := Tryz.zeroValue0
 t3 := Tryz.underlying3
 a3 := Tryz.isAgg3
 z3 := Tryz.sizeOf3
 v3 := Tryz.zeroValue3
 t4 := Tryz.underlying4
 a4 := Tryz.isAgg4
 z4 := Tryz.sizeOf4
 v4 := Tryz.zeroValue4
 t5 := Tryz.underlying5
 a5 := Tryz.isAgg5
 z5 := Tryz.sizeOf5
 v5 := Tryz.zeroValue5
 t9 := Tryz.underlying9
 a9 := Tryz.isAgg9
 z9 := Tryz.sizeOf9
 v9 := Tryz.zeroValue9
 t22 := Tryz.underlying32
 a22 := Tryz.isAgg32
 z22 := Tryz.sizeOf32
 v22 := Tryz.zeroValue32
 t25 := Tryz.underlying71
 a25 := Tryz.isAgg71
 z25 := Tryz.sizeOf71
 v25 := Tryz.zeroValue71
 t39 := Tryz.underlying114
 a39 := Tryz.isAgg114
 z39 := Tryz.sizeOf114
 v39 := Tryz.zeroValue114
 t45 := Tryz.underlying126
 a45 := Tryz.isAgg126
 z45 := Tryz.sizeOf126
 v45 := Tryz.zeroValue126
 t46 := Tryz.underlying127
 a46 := Tryz.isAgg127
 z46 := Tryz.sizeOf127
 v46 := Tryz.zeroValue127
 t50 := Tryz.underlying54
 a50 := Tryz.isAgg54
 z50 := Tryz.sizeOf54
 v50 := Tryz.zeroValue54
 t53 := Tryz.underlying133
 a53 := Tryz.isAgg133
 z53 := Tryz.sizeOf133
 v53 := Tryz.zeroValue133
 t55 := Tryz.underlying135
 a55 := Tryz.isAgg135
 z55 := Tryz.sizeOf135
 v55 := Tryz.zeroValue135
 t66 := Tryz.underlying152
 a66 := Tryz.isAgg152
 z66 := Tryz.sizeOf152
 v66 := Tryz.zeroValue152
 t70 := Tryz.underlying156
 a70 := Tryz.isAgg156
 z70 := Tryz.sizeOf156
 v70 := Tryz.zeroValue156
 t76 := Tryz.underlying170
 a76 := Tryz.isAgg170
 z76 := Tryz.sizeOf170
 v76 := Tryz.zeroValue170
 t77 := Tryz.underlying171
 a77 := Tryz.isAgg171
 z77 := Tryz.sizeOf171
 v77 := Tryz.zeroValue171 }
def Tryz.laysChoice_ren : Go.Shelf.Ren := ⟨fun | 6 => 58 | 15 => 71 | 14 => 81 | 28 => 105 | 29 => 106 | 20 => 115 | 21 => 116 | 22 => 117 | 23 => 118 | 24 => 119 | 25 => 120 | 26 => 121 | 27 => 122 | 46 => 143 | 47 => 135 | 48 => 136 | 49 => 144 | 50 => 145 | 57 => 153 | n => n, fun | 22 => 38 | 24 => 80 | 25 => 83 | 3 => 3 | 39 => 114 | 0 => 0 | 53 => 133 | 55 => 135 | 4 => 4 | 46 => 127 | 45 => 126 | 50 => 54 | 5 => 5 | 9 => 9 | 66 => 152 | 70 => 156 | 76 => 170 | 77 => 171 | n => n, fun | n => n⟩
theorem Tryz.laysChoice : Go.Proofs.SlLaysF0.n6 Tryz.prog Tryz.laysChoice_ren := {
 mixed := by kernel_rfl
 f6 := ⟨Tryz.f58.name, by decide, Tryz.func58.trans (congrArg some (by kernel_rfl))⟩
 f14 := ⟨Tryz.f81.name, by decide, Tryz.func81.trans (congrArg some (by kernel_rfl))⟩
 f15 := Tryz.func71.trans (congrArg some (by kernel_rfl))
 f20 := ⟨Tryz.f115.name, by decide, Tryz.func115.trans (congrArg some (by kernel_rfl))⟩
 f21 := ⟨Tryz.f116.name, by decide, Tryz.func116.trans (congrArg some (by kernel_rfl))⟩
 f22 := ⟨Tryz.f117.name, by decide, Tryz.func117.trans (congrArg some (by kernel_rfl))⟩
 f23 := ⟨Tryz.f118.name, by decide, Tryz.func118.trans (congrArg some (by kernel_rfl))⟩
 f24 := ⟨Tryz.f119.name, by decide, Tryz.func119.trans (congrArg some (by kernel_rfl))⟩
 f25 := ⟨Tryz.f120.name, by decide, Tryz.func120.trans (congrArg some (by kernel_rfl))⟩
 f26 := ⟨Tryz.f121.name, by decide, Tryz.func121.trans (congrArg some (by kernel_rfl))⟩
 f27 := ⟨Tryz.f122.name, by decide, Tryz.func122.trans (congrArg some (by kernel_rfl))⟩
 f28 := Tryz.func105.trans (congrArg some (by kernel_rfl))
 f29 := Tryz.func106.trans (congrArg some (by kernel_rfl))
 f46 := ⟨Tryz.f143.name, by decide, Tryz.func143.trans (congrArg some (by kernel_rfl))⟩
 f47 := Tryz.func135.trans (congrArg some (by kernel_rfl))
 f48 := Tryz.func136.trans (congrArg some (by kernel_rfl))
 f49 := ⟨Tryz.f144.name, by decide, Tryz.func144.trans (congrArg some (by kernel_rfl))⟩
 f50 := ⟨Tryz.f145.name, by decide, Tryz.func145.trans (congrArg some (by kernel_rfl))⟩
 f57 := ⟨Tryz.f153.name, by decide, Tryz.func153.trans (congrArg some (by kernel_rfl))⟩
 t0 := Tryz.underlying0
 a0 := Tryz.isAgg0
 z0 := Tryz.sizeOf0
 v0 := Tryz.zeroValue0
 t3 := Tryz.underlying3
 a3 := Tryz.isAgg3
 z3 := Tryz.sizeOf3
 v3 := Tryz.zeroValue3
 t4 := Tryz.underlying4
 a4 := Tryz.isAgg4
 z4 := Tryz.sizeOf4
 v4 := Tryz.zeroValue4
 t5 := Tryz.underlying5
 a5 := Tryz.isAgg5
 z5 := Tryz.sizeOf5
 v5 := Tryz.zeroValue5
 t9 := Tryz.underlying9
 a9 := Tryz.isAgg9
 z9 := Tryz.sizeOf9
 v9 := Tryz.zeroValue9
 t22 := Tryz.underlying38
 a22 := Tryz.isAgg38
 z22 := Tryz.sizeOf38
 v22 := Tryz.zeroValue38
 t25 := Tryz.underlying83
 a25 := Tryz.isAgg83
 z25 := Tryz.sizeOf83
 v25 := Tryz.zeroValue83
 t39 := Tryz.underlying114
 a39 := Tryz.isAgg114
 z39 := Tryz.sizeOf114
 v39 := Tryz.zeroValue114
 t45 := Tryz.underlying126
 a45 := Tryz.isAgg126
 z45 := Tryz.sizeOf126
 v45 := Tryz.zeroValue126
 t46 := Tryz.underlying127
 a46 := Tryz.isAgg127
 z46 := Tryz.sizeOf127
 v46 := Tryz.zeroValue127
 t50 := Tryz.underlying54
 a50 := Tryz.isAgg54
 z50 := Tryz.sizeOf54
 v50 := Tryz.zeroValue54
 t53 := Tryz.underlying133
 a53 := Tryz.isAgg133
 z53 := Tryz.sizeOf133
 v53 := Tryz.zeroValue133
 t55 := Tryz.underlying135
 a55 := Tryz.isAgg135
 z55 := Tryz.sizeOf135
 v55 := Tryz.zeroValue135
 t66 := Tryz.underlying152
 a66 := Tryz.isAgg152
 z66 := Tryz.sizeOf152
 v66 := Tryz.zeroValue152
 t70 := Tryz.underlying156
 a70 := Tryz.isAgg156
 z70 := Tryz.sizeOf156
 v70 := Tryz.zeroValue156
 t76 := Tryz.underlying170
 a76 := Tryz.isAgg170
 z76 := Tryz.sizeOf170
 v76 := Tryz.zeroValue170
 t77 := Tryz.underlying171
 a77 := Tryz.isAgg171
 z77 := Tryz.sizeOf171
 v77 := Tryz.zeroValue171 }
def Tryz.laysInt_ren : Go.Shelf.Ren := ⟨fun | 6 => 61 | 15 => 71 | 14 => 82 | 28 => 105 | 29 => 106 | 20 => 123 | 21 => 124 | 22 => 125 | 23 => 126 | 24 => 127 | 25 => 128 | 26 => 129 | 27 => 130 | 46 => 146 | 47 => 135 | 48 => 136 | 49 => 147 | 50 => 148 | 57 => 154 | n => n, fun | 22 => 26 | 24 => 3 | 25 => 88 | 3 => 3 | 39 => 114 | 0 => 0 | 53 => 133 | 55 => 135 | 4 => 4 | 46 => 127 | 45 => 126 | 50 => 54 | 5 => 5 | 9 => 9 | 66 => 152 | 70 => 156 | 76 => 170 | 77 => 171 | n => n, fun | n => n⟩
theorem Tryz.laysInt : Go.Proofs.SlLaysF.n6 Tryz.prog Tryz.laysInt_ren := {
 mixed := by kernel_rfl
 f6 := ⟨Tryz.f61.name, by decide, Tryz.func61.trans (congrArg some (by kernel_rfl))⟩
 f14 := ⟨Tryz.f82.name, by decide, Tryz.func82.trans (congrArg some (by kernel_rfl))⟩
 f15 := Tryz.func71.trans (congrArg some (by kernel_rfl))
 f20 := ⟨Tryz.f123.name, by decide, Tryz.func123.trans (congrArg some (by kernel_rfl))⟩
 f21 := ⟨Tryz.f124.name, by decide, Tryz.func124.trans (congrArg some (by kernel_rfl))⟩
 f22 := ⟨Tryz.f125.name, by decide, Tryz.func125.trans (congrArg some (by kernel_rfl))⟩
 f23 := ⟨Tryz.f126.name, by decide, Tryz.func126.trans (congrArg some (by kernel_rfl))⟩
 f24 := ⟨Tryz.f127.name, by decide, Tryz.func127.trans (congrArg some (by kernel_rfl))⟩
 f25 := ⟨Tryz.f128.name, by decide, Tryz.func128.trans (congrArg some (by kernel_rfl))⟩
 f26 := ⟨Tryz.f129.name, by decide, Tryz.func129.trans (congrArg some (by kernel_rfl))⟩
 f27 := ⟨Tryz.f130.name, by decide, Tryz.func130.trans (congrArg some (by kernel_rfl))⟩
 f28 := Tryz.func105.trans (congrArg some (by kernel_rfl))
 f29 := Tryz.func106.trans (congrArg some (by kernel_rfl))
 f46 := ⟨Tryz.f146.name, by decide, Tryz.func146.trans (congrArg some (by kernel_rfl))⟩
 f47 := Tryz.func135.trans (congrArg some (by kernel_rfl))
 f48 := Tryz.func136.trans (congrArg some (by kernel_rfl))
 f49 := ⟨Tryz.f147.name, by decide, Tryz.func147.trans (congrArg some (by kernel_rfl))⟩
 f50 := ⟨Tryz.f148.name, by decide, Tryz.func148.trans (congrArg some (by kernel_rfl))⟩
 f57 := ⟨Tryz.f154.name, by decide, Tryz.func154.trans (congrArg some (by kernel_rfl))⟩
 t0 := Tryz.underlying0
 a0 := Tryz.isAgg0
 z0 := Tryz.sizeOf0
 v0 := Tryz.zeroValue0
 t3 := Tryz.underlying3
 a3 := Tryz.isAgg3
 z3 := Tryz.sizeOf3
 v3 := Tryz.zeroValue3
 t4 := Tryz.underlying4
 a4 := Tryz.isAgg4
 z4 := Tryz.sizeOf4
 v4 := Tryz.zeroValue4
 t5 := Tryz.underlying5
 a5 := Tryz.isAgg5
 z5 := Tryz.sizeOf5
 v5 := Tryz.zeroValue5
 t9 := Tryz.underlying9
 a9 := Tryz.isAgg9
 z9 := Tryz.sizeOf9
 v9 := Tryz.zeroValue9
 t22 := Tryz.underlying26
 a22 := Tryz.isAgg26
 z22 := Tryz.sizeOf26
 v22 := Tryz.zeroValue26
 a24 := Tryz.isAgg3
 z24 := Tryz.sizeOf3
 t25 := Tryz.underlying88
 a25 := Tryz.isAgg88
 z25 := Tryz.sizeOf88
 v25 := Tryz.zeroValue88
 t39 := Tryz.underlying114
 a39 := Tryz.isAgg114
 z39 := Tryz.sizeOf114
 v39 := Tryz.zeroValue114
 t45 := Tryz.underlying126
 a45 := Tryz.isAgg126
 z45 := Tryz.sizeOf126
 v45 := Tryz.zeroValue126
 t46 := Tryz.underlying127
 a46 := Tryz.isAgg127
 z46 := Tryz.sizeOf127
 v46 := Tryz.zeroValue127
 t50 := Tryz.underlying54
 a50 := Tryz.isAgg54
 z50 := Tryz.sizeOf54
 v50 := Tryz.zeroValue54
 t53 := Tryz.underlying133
 a53 := Tryz.isAgg133
 z53 := Tryz.sizeOf133
 v53 := Tryz.zeroValue133
 t55 := Tryz.underlying135
 a55 := Tryz.isAgg135
 z55 := Tryz.sizeOf135
 v55 := Tryz.zeroValue135
 t66 := Tryz.underlying152
 a66 := Tryz.isAgg152
 z66 := Tryz.sizeOf152
 v66 := Tryz.zeroValue152
 t70 := Tryz.underlying156
 a70 := Tryz.isAgg156
 z70 := Tryz.sizeOf156
 v70 := Tryz.zeroValue156
 t76 := Tryz.underlying170
 a76 := Tryz.isAgg170
 z76 := Tryz.sizeOf170
 v76 := Tryz.zeroValue170
 t77 := Tryz.underlying171
 a77 := Tryz.isAgg171
 z77 := Tryz.sizeOf171
 v77 := Tryz.zeroValue171 }
end Go.Proofs
