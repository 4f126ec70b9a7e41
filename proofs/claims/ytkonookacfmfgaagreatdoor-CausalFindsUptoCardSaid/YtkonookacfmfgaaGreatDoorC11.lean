/-
  novationref15.less, lessChoice, Later. slices.Compact at days (printed by tools/gencmp.py I). causal.leaves: a function is called at all nodes of an expression, in the order of the text. The closures of causal.Needs.
-/
import Derived.Test.YtkonookacfmfgaaGreatDoorC04
import Derived.Test.YtkonookacfmfgaaGreatDoorC09
import Derived.Test.YtkonookacfmfgaaGreatDoorC08
import Derived.Test.YtkonookacfmfgaaGreatDoorC06
import Derived.Laws.StructEq
import Derived.IntWalk
import Derived.Test.YtkonookacfmfgaaGreatDoorC07
import Derived.Laws.EntriesVeiled
namespace Go.Proofs.YtkonookacfmfgaaGreatDoor
open Go.RowKit
set_option maxHeartbeats 400000 in
set_option maxRecDepth 100000 in
theorem rless_any (n1 n2 : ByteArray) (d1 d2 : Int) (w : World) :
  Calls Tryz.prog 141 #[.agg #[.string n1, .int .i64 d1], .agg #[.string n2, .int .i64 d2]] w fun e w' => e = .returned (.bool (ndLt (n1, d1) (n2, d2))) ∧ Below w.heap.size w w' := by
 have HR : Hid (ndLt (n1, d1) (n2, d2) = (Op.bytesLess n1.toList n2.toList || ((n1.toList == n2.toList) && decide (d1 < d2)))) := by
  show _ = _
  rw [toList_beq, ndLt, fxLt, slt, toList_bl, toList_bl]
 go_enter Tryz.func141, Tryz.ntmps141
 go_wp2
 all_goals
  go_ret
  exact ⟨ret_bool' (by rw [HR.out]; first | (simp [*]; done) | simp_all [bytesLess_irrefl]), below_a2 _ _ _⟩
set_option maxHeartbeats 800000 in
set_option maxRecDepth 100000 in
theorem rlessC_any (p1 n1 p2 n2 : ByteArray) (d1 d2 : Int) (w : World) :
  Calls Tryz.prog 142 #[.agg #[.string p1, .string n1, .int .i64 d1, .bool false], .agg #[.string p2, .string n2, .int .i64 d2, .bool false]] w fun e w' => e = .returned (.bool (chxLt (p1, n1, d1) (p2, n2, d2))) ∧ Below w.heap.size w w' := by
 have HR : Hid (chxLt (p1, n1, d1) (p2, n2, d2) = if (p1.toList == p2.toList) = true then ndLt (n1, d1) (n2, d2) else Op.bytesLess p1.toList p2.toList) := by
  show _ = _
  rw [toList_beq, chxLt, chLt, slt, toList_bl, toList_bl]
  by_cases h : p1 = p2 <;> simp [h, ndLt]
 have HL := Lib.hid fun (V : World) => rless_any n1 n2 d1 d2 V
 go_enter Tryz.func142, Tryz.ntmps142
 cases t1 : (p1.toList == p2.toList) with
 | true =>
  rw [t1] at HR
  go_wp2_with fail
  refine (HL.out _).mono ?_
  rintro e w1 ⟨rfl, hb1⟩
  have hb2 := (below_a2 _ _ _).trans (hb1.mono (below_a2 _ _ _).size)
  clear hb1
  go_wp2
  go_ret
  exact ⟨ret_bool' (by rw [HR.out]; rfl), hb2⟩
 | false =>
  rw [t1] at HR
  go_wp2
  all_goals
   go_ret
   exact ⟨ret_bool' (by rw [HR.out]; simp [*]), below_a2 _ _ _⟩
theorem laterD_take {l : List Int} {k : Nat} {x d : Int} (h : l[k]? = some x) : laterD (l.take (k + 1)) d = if d ≤ x then laterD (l.take k) d ++ [x] else laterD (l.take k) d := by
 rw [take_snoc_get h]
 unfold laterD
 rw [List.filter_append]
 by_cases hx : d ≤ x <;> simp [hx]
set_option maxHeartbeats 2000000 in
set_option maxRecDepth 100000 in
theorem rlater_any (l : List Int) (d : Int) (v : Value) (w : World) (hn : l.length ≤ 2000000) (hr : RdI w l v) :
  Calls Tryz.prog 77 #[v, .int .i64 d] w fun e w' => ∃ ad cap, e = .returned (.slice ad (laterD l d).length cap) ∧ w'.ownsRow w.heap.size 3 1 (.slice ad (laterD l d).length cap) (laterD l d).length ((laterD l d).flatMap dyCells) ∧ Below w.heap.size w w' := by
 obtain ⟨i0, hi, hz0, hz1, hz2⟩ := info_parts info_dy
 obtain ⟨ad, cap, rfl, _, hr⟩ := hr
 obtain ⟨n, hln⟩ : ∃ n, l.length = n := ⟨_, rfl⟩
 have HR := Lib.hid hr
 have HLn := Lib.hid hln
 rw [hln] at hn ⊢
 clear hr hln
 go_enter Tryz.func77, Tryz.ntmps77
 go_wp2_with fail
 go_loopw [5, 6] (fun s i wr => ∃ (k M : Nat) (ad2 : Option Addr) (cap2 : Nat), k ≤ n ∧ i = .int .i64 (k : Int) ∧ s = .slice ad2 M cap2 ∧ M ≤ k ∧ Hid (M = (laterD (l.take k) d).length) ∧
   wr.ownsRow w.heap.size 3 1 (.slice ad2 M cap2) M ((laterD (l.take k) d).flatMap dyCells) ∧ Below w.heap.size w wr) (fun _ i _ => n - (intOf i).toNat)
 case atStart => exact ⟨0, 0, none, 0, Nat.zero_le _, rfl, rfl, Nat.le_refl _, Lib.hid rfl, World.ownsRow_nil _ _ _ _, Below.refl _ _⟩
 case round =>
  obtain ⟨k, M, ad2, cap2, hk, rfl, rfl, hM, HM, hown, hbel⟩ := hrel
  by_cases hlt : k < n
  ·obtain ⟨x, hx⟩ : ∃ x, l[k]? = some x := ⟨_, List.getElem?_eq_getElem (by rw [HLn.out]; exact hlt)⟩
   obtain ⟨b, off, rfl, c0⟩ := HR.out k x hx
   replace c0 : wr.cell? ⟨b, off + k, none⟩ = some (.int .i64 x) := by rw [hbel.cell (p := ⟨b, off + k, none⟩) (World.block_lt_of_cell? w _ c0)]; exact c0
   have hk1 : (0 : Int) ≤ (k : Int) := by omega
   have hk2 : (k : Int) < (n : Int) := by omega
   have HX := Lib.hid (laterD_take (d := d) hx)
   have hsz := hbel.size
   clear hx
   by_cases hdx : d ≤ x
   ·have g1 : decide (d ≤ x) = true := decide_eq_true hdx
    rw [if_pos hdx] at HX
    clear hdx
    have hlt1 := hown.lt
    go_wp2_with (at_builtin; refine wpList_append_own _ rfl _ _ 26 rfl w.heap.size 3 i0 (.int .i64 0) 1 8 ul_dys hi hz0 hz1 hz2 rfl (by decide) _ _ _ rfl (hown.alloc _) ⟨wr.heap.size, 0, none⟩ 1 1 [.int .i64 x] rfl rfl (cell_one_new _ _ _) (int_oneCell _ _) ?d1 ?d2 ?d3 ?_)
    case d1 => unfold maxLen; omega
    case d2 => omega
    case d3 => simp; omega
    intro v2 w2 hown2 hgrow2 _
    have hbel2 : Below w.heap.size w w2 := (hbel.alloc hsz _).grown hgrow2 (by simp; omega) (fun k hk => (hlt1 k hk).1)
    obtain ⟨ad3, cap3, rfl, _⟩ := Sl.of_owns hown2
    have HM2 : Hid (M + 1 = (laterD (l.take (k + 1)) d).length) := by show _ = _; rw [HX.out, List.length_append, ← HM.out]; rfl
    have hown3 : w2.ownsRow w.heap.size 3 1 (.slice ad3 (M + 1) cap3) (M + 1) ((laterD (l.take (k + 1)) d).flatMap dyCells) := by
     rw [HX.out, List.flatMap_append]; simpa [dyCells] using hown2
    clear hgrow2 hown2 hown hbel hlt1
    go_wp2
    go_roundw
    case rel => exact ⟨k + 1, M + 1, ad3, cap3, by omega, by go_num, rfl, by omega, HM2, hown3, hbel2⟩
    case measure => simp [intOf]; omega
   ·have g1 : decide (d ≤ x) = false := decide_eq_false hdx
    rw [if_neg hdx] at HX
    clear hdx
    have HM2 : Hid (M = (laterD (l.take (k + 1)) d).length) := by show _ = _; rw [HX.out]; exact HM.out
    rw [← HX.out] at hown
    go_wp2
    go_roundw
    case rel => exact ⟨k + 1, M, ad2, cap2, by omega, by go_num, rfl, by omega, HM2, hown, hbel⟩
    case measure => simp [intOf]; omega
  ·obtain rfl : k = n := by omega
   have HF : Hid (M = (laterD l d).length ∧ wr.ownsRow w.heap.size 3 1 (.slice ad2 M cap2) M ((laterD l d).flatMap dyCells)) := Lib.hid (by
    have h1 := HM.out
    rw [List.take_of_length_le (by rw [HLn.out]; exact Nat.le_refl _)] at h1 hown
    exact ⟨h1, hown⟩)
   clear hown HM
   go_wp2
   go_ret
   obtain ⟨h1, h2⟩ := HF.out
   subst h1
   exact ⟨ad2, cap2, rfl, h2, hbel⟩
end Go.Proofs.YtkonookacfmfgaaGreatDoor

namespace Go.Proofs.YtkonookacfmfgaaGreatDoor
open Go.RowKit
theorem dyCells_len (x : Int) : (dyCells x).length = 1 := rfl
theorem dyCells_zv : ∀ w, (zeroValue 3).run Tryz.prog w = .ok (.int .i64 0) w := fun w => by go_simp
theorem dyCells_keep {L : List Int} {k : Nat} {x y z : Int} (h1 : 1 ≤ k) (hx : L[k - 1]? = some x) (hy : L[k]? = some y) (hne : y ≠ x) {kk : Nat} (hk : (cmpct (L.take k)).length = kk) (hz : L[kk]? = some z) :
  (((cRow L k).flatMap dyCells).set (kk) (.int .i64 y)) = (cRow L (k + 1)).flatMap dyCells ∧ (cmpct (L.take (k + 1))).length = kk + 1 := by
 subst hk
 obtain ⟨e1, e2⟩ := cRow_keep h1 hx hy hne hz
 refine ⟨?_, by rw [cmpct_new' h1 hx hy hne]; simp⟩
 rw [e1, e2]
 have s0 := set_flat (enc := dyCells) (m := 1) dyCells_len (cmpct (L.take k)) (L.drop ((cmpct (L.take k)).length + 1)) z y _ 0 (.int .i64 y) rfl (by decide) rfl
 simp only [Nat.add_zero, Nat.mul_one] at s0
 rw [s0]
set_option maxHeartbeats 8000000 in
set_option maxRecDepth 100000 in
theorem compactI_any (base : Nat) (L : List Int) (v : Value) (W : World) (hown : W.ownsRow base 3 1 v L.length (L.flatMap dyCells)) (hlen : L.length ≤ 4000000000000) :
  Calls Tryz.prog 62 #[v] W fun e W' => ∃ v', e = .returned v' ∧ W'.ownsRow base 3 1 v' (cmpct L).length ((cmpct L).flatMap dyCells) ∧ W.grownBy W' v.ownBlock := by
 by_cases hs : L.length < 2
 ·have hc : cmpct L = L := by
   match L, hs with
   | [], _ => rfl
   | [a], _ => rfl
  rw [hc]
  have HO := Lib.hid hown
  obtain ⟨n, hn⟩ : ∃ n, L.length = n := ⟨_, rfl⟩
  obtain ⟨ad, cap, rfl⟩ : ∃ ad cap, v = .slice ad n cap := by
   rcases hown.2 with ⟨rfl, h⟩ | ⟨g, cap, cur, rfl, _⟩
   ·exact ⟨none, 0, by rw [← hn, h]⟩
   ·exact ⟨_, cap, by rw [hn]⟩
  rw [hn] at hs hlen
  clear hown hc
  go_enter Tryz.func62, Tryz.ntmps62
  go_wp2
  go_ret
  exact ⟨_, rfl, HO.out, World.grownBy.refl _ _⟩
 ·obtain ⟨n, hn⟩ : ∃ n, L.length = n := ⟨_, rfl⟩
  have Hn := Lib.hid hn
  obtain ⟨g, cap, rfl, hcap⟩ : ∃ g cap, v = .slice (some ⟨g, 0, none⟩) n cap ∧ n ≤ cap ∧ cap ≤ maxLen := by
   rcases hown.2 with ⟨rfl, h⟩ | ⟨g, cap, cur, rfl, _, _, h1, h2, _⟩
   ·omega
   ·exact ⟨g, cap, by rw [hn], by omega, h2⟩
  rw [hn] at hs hlen hown
  have hR0 := RSt.start hown
  clear hown hn
  obtain ⟨hcap, hcm⟩ := hcap
  go_enter Tryz.func62, Tryz.ntmps62
  go_wp2
  go_loopw [3] (fun i wr => ∃ k : Nat, 1 ≤ k ∧ k ≤ n ∧ i = .int .i64 k ∧ Hid (cmpct (L.take k) = L.take k) ∧ RSt W wr 3 1 g base n cap (L.flatMap dyCells)) (fun i _ => n - (intOf i).toNat)
  case atStart => exact ⟨1, Nat.le_refl _, by omega, rfl, Lib.hid (cmpct_one L), hR0⟩
  case round =>
   clear hR0
   obtain ⟨k, hk1, hk, rfl, Hc, hR⟩ := hrel
   by_cases hlt : k < n
   ·obtain ⟨x, hx⟩ : ∃ x, L[k - 1]? = some x := ⟨_, List.getElem?_eq_getElem (by rw [Hn.out]; omega)⟩
    obtain ⟨y, hy⟩ : ∃ y, L[k]? = some y := ⟨_, List.getElem?_eq_getElem (by rw [Hn.out]; omega)⟩
    have ⟨xd, hxd⟩ : ∃ xd, x = xd := ⟨_, rfl⟩
    have ⟨yd, hyd⟩ : ∃ yd, y = yd := ⟨_, rfl⟩
    rw [hxd] at hx
    rw [hyd] at hy
    clear hxd hyd
    have x0 : wr.cell? ⟨g, k - 1, none⟩ = some (.int .i64 xd) := by
     have h := hR.at (flat_at dyCells_len hx 0 _ rfl)
     simpa only [Nat.add_zero, Nat.mul_one] using h
    have y0 : wr.cell? ⟨g, k, none⟩ = some (.int .i64 yd) := by
     have h := hR.at (flat_at dyCells_len hy 0 _ rfl)
     simpa only [Nat.add_zero, Nat.mul_one] using h
    have e1 : IntKind.i64.wrap ((k : Int) - 1) = ((k - 1 : Nat) : Int) := by rw [IntWalk.i64_in _ (by omega)]; omega
    have hl1 : ((k - 1 : Nat) : Int) < (n : Int) := by omega
    have hl0 : (k : Int) < (n : Int) := by omega
    have HX := Lib.hid hx
    have HY := Lib.hid hy
    clear hx hy
    go_wp2_with fail
    by_cases t0 : yd = xd
    ·go_quiet (fail)
     have HE : Hid (yd = xd) := Lib.hid (by rw [t0])
     have HY2 : Hid (L[k]? = some xd) := Lib.hid (by rw [← HE.out]; exact HY.out)
     have hR1 := hR.drewN nq
     generalize wr.drewN nq = w1 at hR1 ⊢
     clear x0 y0 hR t0 e1 hl1
     go_wp2
     go_loopw [3, 5] (fun s3 s5 wz => ∃ k2 kk : Nat, 1 ≤ k2 ∧ k + k2 ≤ n ∧ kk < k + k2 ∧ s3 = .int .i64 kk ∧ s5 = .int .i64 k2 ∧ Hid ((cmpct (L.take (k + k2))).length = kk) ∧ RSt W wz 3 1 g base n cap ((cRow L (k + k2)).flatMap dyCells)) (fun _ s5 _ => n - (intOf s5).toNat)
     case atStart =>
      have hh := cRow_half hk1 HX.out HY2.out Hc.out
      exact ⟨1, k, Nat.le_refl _, by omega, by omega, rfl, rfl, Lib.hid hh.2, by rw [hh.1]; exact hR1⟩
     case round =>
      clear hR1 hlt hl0
      obtain ⟨k2, kk, hk2, hkn, hkk, rfl, rfl, Hkk, hR⟩ := hrel
      by_cases hlt : k + k2 < n
      ·obtain ⟨x, hx⟩ : ∃ x, L[k + k2 - 1]? = some x := ⟨_, List.getElem?_eq_getElem (by rw [Hn.out]; omega)⟩
       obtain ⟨y, hy⟩ : ∃ y, L[k + k2]? = some y := ⟨_, List.getElem?_eq_getElem (by rw [Hn.out]; omega)⟩
       obtain ⟨z, hz⟩ : ∃ z, L[kk]? = some z := ⟨_, List.getElem?_eq_getElem (by rw [Hn.out]; omega)⟩
       have ⟨ud, hxd⟩ : ∃ xd, x = xd := ⟨_, rfl⟩
       have ⟨vd, hyd⟩ : ∃ yd, y = yd := ⟨_, rfl⟩
       have ⟨od, hzd⟩ : ∃ yd, z = yd := ⟨_, rfl⟩
       rw [hxd] at hx
       rw [hyd] at hy
       rw [hzd] at hz
       clear hxd hyd hzd
       have hcx := (cRow_high (L := L) (m := k + k2) (j := k + k2 - 1) (by rw [Hkk.out]; omega)).trans hx
       have hcy := (cRow_high (L := L) (m := k + k2) (j := k + k2) (by rw [Hkk.out]; omega)).trans hy
       have hcz := (cRow_high (L := L) (m := k + k2) (j := kk) (by rw [Hkk.out]; omega)).trans hz
       have x0 : wr.cell? ⟨g, k + (k2 - 1), none⟩ = some (.int .i64 ud) := by
        rw [show k + (k2 - 1) = k + k2 - 1 by omega]
        have h := hR.at (flat_at dyCells_len hcx 0 _ rfl)
        simpa only [Nat.add_zero, Nat.mul_one] using h
       have y0 : wr.cell? ⟨g, k + k2, none⟩ = some (.int .i64 vd) := by
        have h := hR.at (flat_at dyCells_len hcy 0 _ rfl)
        simpa only [Nat.add_zero, Nat.mul_one] using h
       have z0 : wr.cell? ⟨g, kk, none⟩ = some (.int .i64 od) := by
        have h := hR.at (flat_at dyCells_len hcz 0 _ rfl)
        simpa only [Nat.add_zero, Nat.mul_one] using h
       have f0 := hR.ice (kk)
       have HX2 := Lib.hid hx
       have HZ2 := Lib.hid hz
       have HY3 := Lib.hid hy
       clear hx hy hz hcx hcy hcz
       have e1 : IntKind.i64.wrap ((k2 : Int) - 1) = ((k2 - 1 : Nat) : Int) := by rw [IntWalk.i64_in _ (by omega)]; omega
       have hl1 : ((k2 - 1 : Nat) : Int) < ((n - k : Nat) : Int) := by omega
       have hl0 : (k2 : Int) < ((n - k : Nat) : Int) := by omega
       go_wp2_with fail
       by_cases t0 : vd = ud
       ·have HE : Hid (vd = ud) := Lib.hid (by rw [t0])
        have HY4 : Hid (L[k + k2]? = some ud) := Lib.hid (by rw [← HE.out]; exact HY3.out)
        have HS := Lib.hid (And.intro (cRow_skip (by omega) HX2.out HY4.out) (cmpct_same' (by omega) HX2.out HY4.out))
        have hR2 := Lib.hid fun q : Nat => hR.drewN q
        clear hR
        go_quiet (fail)
        go_wp2
        go_roundw
        case rel => exact ⟨k2 + 1, kk, by omega, by omega, by omega, rfl, by go_num, Lib.hid (by rw [← Nat.add_assoc, HS.out.2]; exact Hkk.out), by rw [← Nat.add_assoc, HS.out.1]; exact hR2.out nq⟩
        case measure => simp [intOf]; omega
       ·have Hne : Hid (vd ≠ ud) := Lib.hid (fun e => t0 (e))
        have hst := dyCells_keep (by omega) HX2.out HY3.out Hne.out Hkk.out HZ2.out
        have hR2 := Lib.hid fun q : Nat => (hR.drewN q).set (kk) (.int .i64 vd)
        have HS := Lib.hid hst
        clear hst hR
        go_quiet (fail)
        go_wp2
        go_roundw
        case rel =>
         refine ⟨k2 + 1, kk + 1, by omega, by omega, by omega, by go_num, by go_num, Lib.hid HS.out.2, ?_⟩
         have := hR2.out nq
         rwa [HS.out.1] at this
        case measure => simp [intOf]; omega
      ·have hend : k + k2 = n := by omega
       obtain ⟨vs, hcl⟩ := run_clear_own hR ul_dys _ dyCells_zv rfl (by intro u hu; simp [Value.cells] at hu; rcases hu with rfl; rfl) kk (cap - kk) (by omega) 0
       obtain ⟨os', hR3, hos⟩ := hR.sets vs (kk * 1) (kk * 1) (Nat.le_refl _)
       have hfin := ownsRow_cut hR3.own kk (by omega)
       rw [hos] at hfin
       have hkl : (cmpct L).length = kk := by have := Hkk.out; rwa [hend, ← Hn.out, List.take_length] at this
       have hrow := cRow_end (enc := dyCells) (m := 1) dyCells_len L
       rw [Hn.out, ← hend, hkl] at hrow
       rw [hrow] at hfin
       have HF := Lib.hid (And.intro hfin hR3.gr)
       have Hkl := Lib.hid hkl
       clear hfin hrow hos hR3 hR hkl
       simp only [Nat.mul_one] at hcl HF
       go_wp2
       go_ret
       refine ⟨_, rfl, ?_, HF.out.2⟩
       rw [Hkl.out]
       exact HF.out.1
    ·have Hne : Hid (yd ≠ xd) := Lib.hid (fun e => t0 (e))
     go_quiet (fail)
     go_wp2
     go_roundw
     case rel => exact ⟨k + 1, by omega, by omega, by go_num, Lib.hid (cmpct_full hk1 HX.out HY.out Hne.out Hc.out), hR.drewN _⟩
     case measure => simp [intOf]; omega
   ·have hkn : k = n := by omega
    subst hkn
    have hf : Hid (cmpct L = L) := Lib.hid (by have := Hc.out; rwa [← Hn.out, List.take_length] at this)
    have HR := Lib.hid hR
    clear hR
    go_wp2
    go_ret
    refine ⟨_, rfl, ?_, HR.out.gr⟩
    rw [hf.out, Hn.out]
    exact HR.out.own
end Go.Proofs.YtkonookacfmfgaaGreatDoor

namespace Go.Proofs.YtkonookacfmfgaaGreatDoor
open Go.RowKit
theorem Ex.nodess_take {l : List Ex} {k : Nat} {x : Ex} (h : l[k]? = some x) : ∃ r, Ex.nodess l = Ex.nodess (l.take k) ++ (x.nodes ++ r) := by
 refine ⟨Ex.nodess (l.drop (k + 1)), ?_⟩
 rw [← List.append_assoc, ← Ex.nodess_snoc h, ← Ex.nodess_append, List.take_append_drop]
structure LeafOk (w0 : World) (D Bo : Nat) (full : List Ex) (K : List Ex → World → Prop) (f : Nat) (cf : Array Value) : Prop where
 frame : ∀ pre W W', K pre W → Below W.heap.size W W' → K pre W'
 own : ∀ pre W, K pre W → ∀ b, OwnB Bo W b → b < W.heap.size
 box : ∀ pre W, K pre W → Bo < W.heap.size
 ef : ∀ args w, (callFunc f args).run Tryz.prog w = .ok (.enter f args) w
 call : ∀ pre y sy W, K pre W → Below w0.heap.size w0 W → D ≤ W.heap.size → RdE w0 y.sub sy → pre ++ [y] <+: full →
  Calls Tryz.prog f (#[y.val sy] ++ cf) W fun e W' => e = .returned (.tuple #[]) ∧ K (pre ++ [y]) W' ∧ KeptO w0.heap.size D Bo W W'
set_option maxHeartbeats 4000000 in
set_option maxRecDepth 100000 in
theorem leaves_any (w0 : World) (D Bo : Nat) (full : List Ex) (K : List Ex → World → Prop) (f : Nat) (cf : Array Value) (hL : LeafOk w0 D Bo full K f cf) :
  ∀ (N : Nat) (x : Ex) (s : Value) (pre : List Ex) (W : World), x.bulk ≤ N → x.bulk ≤ 2000000 → RdE w0 x.sub s → Below w0.heap.size w0 W → D ≤ W.heap.size → K pre W → pre ++ x.nodes <+: full →
   Calls Tryz.prog 23 #[x.val s, .func (.func f) #[] cf] W fun e W' => e = .returned (.tuple #[]) ∧ K (pre ++ x.nodes) W' ∧ KeptO w0.heap.size D Bo W W' := by
 intro N
 induction N with
 | zero =>
  intro x s pre W h0
  rw [Ex.bulk_eq] at h0
  omega
 | succ N ih =>
  intro x s pre W hN hB hs hbW hDW hK hpf
  obtain ⟨ad, cap, rfl⟩ := hs.len
  have hbo := hL.box _ _ hK
  have hob := hL.own _ _ hK
  have hlen := Ex.bulks_len x.sub
  have hlt0 := x.sub_lt
  have hn : x.sub.length ≤ 2000000 := by omega
  have hbA := below_a1 W (.cells #[.int .u8 x.k, .string x.ra, .string x.nm, .int .i64 x.d, .slice ad x.sub.length cap] 25)
  have hk0 : KeptO w0.heap.size D Bo W (W.alloc (.cells #[.int .u8 x.k, .string x.ra, .string x.nm, .int .i64 x.d, .slice ad x.sub.length cap] 25)) := KeptO.of_below hbW.size hbo hbA
  have hpB := Prv.new hDW hbo hob (.cells #[.int .u8 x.k, .string x.ra, .string x.nm, .int .i64 x.d, .slice ad x.sub.length cap] 25)
  have hK0 := hL.frame _ _ _ hK hbA
  have HBX := Lib.hid (EBox.new W x (.slice ad x.sub.length cap) 25)
  rw [Ex.nodes_eq] at hpf ⊢
  have HPF := Lib.hid hpf
  have hpf1 : pre ++ [x] <+: full := by
   obtain ⟨r, hr⟩ := hpf
   exact ⟨Ex.nodess x.sub ++ r, by rw [← hr]; simp⟩
  have HC := Lib.hid (hL.call pre x _ _ hK0 (hbW.trans hk0.below) (Nat.le_trans hDW hbA.size) hs hpf1)
  have HIH := Lib.hid ih
  have HS := Lib.hid hs
  have hef := hL.ef
  have HFin : Hid (pre ++ [x] ++ Ex.nodess x.sub = pre ++ (x :: Ex.nodess x.sub)) := Lib.hid (by simp)
  unfold Ex.val at HC ⊢
  clear ih hs hpf hpf1 hK hK0 hob
  go_enter Tryz.func23, Tryz.ntmps23
  go_wp2_with fail
  refine HC.out.mono ?_
  rintro e W1 ⟨rfl, hK1, hk1⟩
  obtain ⟨c0, c1, c2, c3, c4⟩ := HBX.out.keptO hpB hk1
  have hlB : W.heap.size < W1.heap.size := World.block_lt_of_cell? W1 _ c0
  have hkk := hk0.trans hk1
  have HK1 : Hid (K (pre ++ [x] ++ Ex.nodess (x.sub.take 0)) W1) := Lib.hid (by simpa [Ex.nodess] using hK1)
  clear HC hk1 hk0 hpB hK1 hbA
  go_wp2_with fail
  go_loopw [12] (fun i wr => ∃ k : Nat, k ≤ x.sub.length ∧ i = .int .i64 (k : Int) ∧ Hid (K (pre ++ [x] ++ Ex.nodess (x.sub.take k)) wr) ∧ KeptO w0.heap.size D Bo W wr) (fun i _ => x.sub.length - (intOf i).toNat)
  case atStart => exact ⟨0, Nat.zero_le _, rfl, HK1, hkk⟩
  case round =>
   clear HK1 hkk c0 c1 c2 c3 c4 hlB
   obtain ⟨k, hk, rfl, HKr, hkr⟩ := hrel
   by_cases hlt : k < x.sub.length
   ·obtain ⟨y, hyk⟩ : ∃ y, x.sub[k]? = some y := ⟨_, List.getElem?_eq_getElem hlt⟩
    have hbwr := hbW.trans hkr.below
    have hDr : D ≤ wr.heap.size := Nat.le_trans hDW hkr.below.size
    obtain ⟨b, off, s', rfl, c0, c1, c2, c3, c4, hs0, _⟩ := HS.out.at hyk
    have lift : ∀ o u, w0.cell? ⟨b, o, none⟩ = some u → wr.cell? ⟨b, o, none⟩ = some u := fun o u h => by
     rw [hbwr.cell (p := ⟨b, o, none⟩) (World.block_lt_of_cell? w0 _ h)]; exact h
    replace c0 := lift _ _ c0
    replace c1 := lift _ _ c1
    replace c2 := lift _ _ c2
    replace c3 := lift _ _ c3
    replace c4 := lift _ _ c4
    clear lift
    obtain ⟨ad', cap', rfl⟩ := hs0.len
    have hym := Ex.mem_lt (List.mem_of_getElem? hyk)
    have hblk : b < wr.heap.size := World.block_lt_of_cell? wr _ c0
    have hk1 : (0 : Int) ≤ (k : Int) := by omega
    have hk2 : (k : Int) < (x.sub.length : Int) := by omega
    have hbor := hL.box _ _ HKr.out
    have hka : KeptO w0.heap.size D Bo wr (wr.alloc (.cells #[.int .u8 y.k, .string y.ra, .string y.nm, .int .i64 y.d, .slice ad' y.sub.length cap'] 25)) := KeptO.of_below hbwr.size hbor (below_a1 _ _)
    have hKa := hL.frame _ _ _ HKr.out (below_a1 wr (.cells #[.int .u8 y.k, .string y.ra, .string y.nm, .int .i64 y.d, .slice ad' y.sub.length cap'] 25))
    have HSn := Lib.hid (Ex.nodess_snoc hyk)
    have hpfy : pre ++ [x] ++ Ex.nodess (x.sub.take k) ++ y.nodes <+: full := by
     obtain ⟨r, hr⟩ := Ex.nodess_take hyk
     obtain ⟨r2, hr2⟩ := HPF.out
     exact ⟨r ++ r2, by rw [← hr2, hr]; simp [List.append_assoc]⟩
    have HC := Lib.hid (HIH.out y _ (pre ++ [x] ++ Ex.nodess (x.sub.take k)) _ (by omega) (by omega) hs0 (hbwr.trans hka.below) (Nat.le_trans hDr hka.below.size) hKa hpfy)
    have HKA := Lib.hid (hkr.trans hka)
    unfold Ex.val at HC
    clear hyk hym hs0 hpfy hKa hka
    go_wp2_with fail
    refine HC.out.mono ?_
    rintro e W4 ⟨rfl, hK4, hk4⟩
    have HK4 : Hid (K (pre ++ [x] ++ Ex.nodess (x.sub.take (k + 1))) W4) := Lib.hid (by rw [HSn.out, ← List.append_assoc]; exact hK4)
    have hk5 := HKA.out.trans hk4
    clear hK4 hk4 HC c0 c1 c2 c3 c4
    go_wp2
    go_roundw
    case rel => exact ⟨k + 1, by omega, by go_num, HK4, hk5⟩
    case measure => simp [intOf]; omega
   ·obtain rfl : k = x.sub.length := by omega
    have HF : Hid (K (pre ++ (x :: Ex.nodess x.sub)) wr ∧ KeptO w0.heap.size D Bo W wr) := Lib.hid ⟨by
     have h := HKr.out
     rw [List.take_length, HFin.out] at h
     exact h, hkr⟩
    go_wp2
    go_end0
    exact ⟨rfl, HF.out.1, HF.out.2⟩
end Go.Proofs.YtkonookacfmfgaaGreatDoor

namespace Go.Proofs.YtkonookacfmfgaaGreatDoor
open Go.RowKit
theorem ul_nds : Tryz.prog.underlying 32 = some (.slice 66) := by kernel_rfl
theorem info_nd : (Tryz.prog.info? 66).map (fun i => (i.zero, i.size, i.bytes)) = some (some (.agg #[.string ⟨#[]⟩, .int .i64 0]), 2, 24) := by kernel_rfl
def ndCells (x : NdP) : List Value := [.string x.1, .int .i64 x.2]
theorem nd_oneCells (x : NdP) : ∀ u ∈ ndCells x, u.oneCell' = true := by intro u hu; simp [ndCells] at hu; rcases hu with rfl | rfl <;> rfl
theorem cell_two_at (w : World) (u v : Value) (t : TypeId) : ∀ j x, [u, v][j]? = some x → (w.alloc (.cells #[u, v] t)).cell? ((⟨w.heap.size, 0, none⟩ : Addr).add j) = some x := by
 intro j x hj
 match j, hj with
 | 0, h => cases h; simp [Addr.add]
 | 1, h => cases h; simp [Addr.add]
abbrev NRow (base Bo : Nat) (L : List NdP) (W : World) : Prop := RowAt ndCells 32 66 2 base Bo L W
def NKey (w0 : World) (D Bo Bd : Nat) (L0 : List NdP) (ds : List Int) (vds : Value) (pre : List Ex) (W : World) : Prop :=
 NRow w0.heap.size Bo (L0 ++ pre.flatMap (xNeed ds)) W ∧ W.cell? ⟨Bd, 0, none⟩ = some vds ∧ Prv D Bo W Bd ∧ DaysAt w0.heap.size D Bo W ds vds
theorem NKey.frame {w0 : World} {D Bo Bd : Nat} {L0 : List NdP} {ds : List Int} {vds : Value} {pre : List Ex} {W W' : World} (h : NKey w0 D Bo Bd L0 ds vds pre W) (hB : w0.heap.size ≤ W.heap.size) (hb : Below W.heap.size W W') : NKey w0 D Bo Bd L0 ds vds pre W' := by
 obtain ⟨h1, h2, h3, h4⟩ := h
 have hbo := h1.box
 exact ⟨h1.frame hb, by rw [hb.cell (p := ⟨Bd, 0, none⟩) h3.2.1]; exact h2, h3.low hbo hb, h4.low hB hbo hb⟩
set_option maxHeartbeats 4000000 in
set_option maxRecDepth 100000 in
theorem needf_any (w0 : World) (D Bo Bd : Nat) (L0 : List NdP) (ds : List Int) (vds : Value) (pre : List Ex) (y : Ex) (sy : Value) (W : World) (hBo : w0.heap.size ≤ Bo) (hBD : Bo < D) (hdl : ds.length ≤ 2000000) (hbd : (L0 ++ (pre ++ [y]).flatMap (xNeed ds)).length ≤ 4000000000000)
  (hK : NKey w0 D Bo Bd L0 ds vds pre W) (hbW : Below w0.heap.size w0 W) (hDW : D ≤ W.heap.size) (hsy : RdE w0 y.sub sy) :
  Calls Tryz.prog 24 #[y.val sy, .pointer (some ⟨Bd, 0, none⟩), .pointer (some ⟨Bo, 0, none⟩)] W fun e W' => e = .returned (.tuple #[]) ∧ NKey w0 D Bo Bd L0 ds vds (pre ++ [y]) W' ∧ KeptO w0.heap.size D Bo W W' := by
 obtain ⟨ad, cap, rfl⟩ := hsy.len
 obtain ⟨i0, hi, hz0, hz1, hz2⟩ := info_parts info_nd
 obtain ⟨hrow, hcd, hpd, hda⟩ := hK
 have hbo := hrow.box
 have hob := hrow.own
 have hbA := below_a1 W (.cells #[.int .u8 y.k, .string y.ra, .string y.nm, .int .i64 y.d, .slice ad y.sub.length cap] 25)
 have hk0 : KeptO w0.heap.size D Bo W (W.alloc (.cells #[.int .u8 y.k, .string y.ra, .string y.nm, .int .i64 y.d, .slice ad y.sub.length cap] 25)) := KeptO.of_below hbW.size hbo hbA
 have hbx := EBox.new W y (.slice ad y.sub.length cap) 25
 have hpB := Prv.new hDW hbo hob (.cells #[.int .u8 y.k, .string y.ra, .string y.nm, .int .i64 y.d, .slice ad y.sub.length cap] 25)
 have hK0 : NKey w0 D Bo Bd L0 ds vds pre (W.alloc (.cells #[.int .u8 y.k, .string y.ra, .string y.nm, .int .i64 y.d, .slice ad y.sub.length cap] 25)) := NKey.frame ⟨hrow, hcd, hpd, hda⟩ hbW.size hbA
 obtain ⟨adv, capv, rfl⟩ := hda.1.len
 have HSt : Hid (L0 ++ (pre ++ [y]).flatMap (xNeed ds) = L0 ++ pre.flatMap (xNeed ds) ++ xNeed ds y) := Lib.hid (by simp [List.flatMap_append])
 unfold Ex.val
 obtain ⟨W1, hW1⟩ : ∃ W1, W.alloc (.cells #[.int .u8 y.k, .string y.ra, .string y.nm, .int .i64 y.d, .slice ad y.sub.length cap] 25) = W1 := ⟨_, rfl⟩
 have hlW : W.heap.size < W1.heap.size := by rw [← hW1]; simp
 rw [hW1] at hbA hk0 hbx hpB hK0
 go_enter Tryz.func24, Tryz.ntmps24
 go_upto_region 1 with fail
 obtain ⟨c0, c1, c2, c3, c4⟩ := hbx
 have HK0 := Lib.hid hK0
 obtain ⟨⟨v, hbv, hown⟩, hcd1, hpd1, hda1⟩ := hK0
 have hlBd := hpd1.2.1
 have hlBo := hbv.lt
 have hcv := hbv.cell
 have hb01 := hbW.trans hk0.below
 obtain ⟨LL, hLL⟩ : ∃ LL, L0 ++ pre.flatMap (xNeed ds) = LL := ⟨_, rfl⟩
 rw [hLL] at hown HSt
 have HLL := Lib.hid hLL
 clear hrow hcd hpd hda hbo hob hW1 hLL
 by_cases h2 : y.k = 2
 ·have t2 : ((y.k : Int) == 2) = true := by rw [h2]; rfl
  have t3 : ((y.k : Int) == 3) = false := by rw [h2]; rfl
  cases ds with
  | nil =>
   have HN : Hid (NKey w0 D Bo Bd L0 [] (.slice adv ([] : List Int).length capv) (pre ++ [y]) W1) := Lib.hid (by
    have h := HK0.out
    unfold NKey at h ⊢
    rw [HLL.out] at h
    rw [HSt.out, show xNeed [] y = [] from rfl, List.append_nil]
    exact h)
   clear h2 hda1 HK0 HSt
   go_wp2_with fail
   go_end0
   exact ⟨rfl, HN.out, hk0⟩
  | cons d0 dr =>
   have HX : Hid (xNeed (d0 :: dr) y = [(y.nm, y.d)]) := Lib.hid (by unfold xNeed; rw [if_neg (by simp), if_pos h2])
   have tl : decide ((0 : Int) < (dr.length : Int) + 1) = true := by rw [decide_eq_true_eq]; omega
   have hlb : LL.length + 1 ≤ 4000000000000 := by
    have h := hbd
    rw [HSt.out, HX.out, List.length_append] at h
    exact h
   clear h2
   go_wp2_with (at_builtin; refine wpList_append_at _ rfl _ _ 32 rfl w0.heap.size 66 i0 (.agg #[.string ⟨#[]⟩, .int .i64 0]) 2 24 ul_nds hi hz0 hz1 hz2 rfl (by decide) _ _ _ rfl (hown.alloc _) ⟨W1.heap.size, 0, none⟩ 1 1 [.string y.nm, .int .i64 y.d] rfl rfl (cell_two_at _ _ _ _) (nd_oneCells (y.nm, y.d)) ?d1 ?d2 ?d3 ?_)
   case d1 => unfold maxLen; omega
   case d2 => omega
   case d3 => have := hb01.size; simp; omega
   intro v' w' hown' hgrow hloc
   obtain ⟨g', cap', rfl⟩ := ownsRow_succ hown'
   obtain ⟨hb1, hb2, hr2, hk2⟩ := RowAt.step (D := D) hbv (by decide) hown hb01.size hBo hBD hown' hgrow hloc
   have HN : Hid (NKey w0 D Bo Bd L0 (d0 :: dr) (.slice adv (d0 :: dr).length capv) (pre ++ [y]) (w'.setCell ⟨Bo, 0, none⟩ (.slice (some ⟨g', 0, none⟩) (LL.length + 1) cap'))) := Lib.hid (by
    refine ⟨⟨_, hb2, ?_⟩, hpd1.cell hk2 hcd1, hpd1.kept hk2, hda1.kept hk2⟩
    rw [HSt.out, HX.out, List.length_append, List.flatMap_append]
    exact hr2)
   have HKK := Lib.hid (hk0.trans hk2)
   have hc5 := hb1.cell
   have hf5 := hb1.frozen
   have e0 := hpB.cell hk2 c0
   have hlB2 := (hpB.kept hk2).2.1
   clear hb2 hr2 hk2 hda1 HK0 HSt HX hown hgrow hown' hloc
   go_wp2_with fail
   go_end0
   exact ⟨rfl, HN.out, HKK.out⟩
 ·have t2 : ((y.k : Int) == 2) = false := by simp; omega
  by_cases h3 : y.k = 3
  ·have t3 : ((y.k : Int) == 3) = true := by rw [h3]; rfl
   have HX : Hid (xNeed ds y = ds.map fun d => (y.nm, d)) := Lib.hid (by
    unfold xNeed
    split
    ·next h => rw [h]; rfl
    ·first | rfl | (rw [if_pos h3]) | (rw [if_neg h2, if_pos h3]))
   have hlb : LL.length + ds.length ≤ 4000000000000 := by
    have h := hbd
    rw [HSt.out, HX.out, List.length_append, List.length_map] at h
    exact h
   have HP := Lib.hid (And.intro hpB (And.intro hpd1 hda1))
   have HC := Lib.hid (And.intro c0 (And.intro c2 hcd1))
   have hR0 : Hid (NRow w0.heap.size Bo (LL ++ (ds.take 0).map fun d => (y.nm, d)) W1) := Lib.hid (by
    rw [List.take_zero, List.map_nil, List.append_nil]; exact ⟨v, hbv, hown⟩)
   clear h2 h3 hown hbv hcv hda1
   go_wp2_with fail
   go_loopw [27] (fun i wr => ∃ k : Nat, k ≤ ds.length ∧ i = .int .i64 (k : Int) ∧ Hid (NRow w0.heap.size Bo (LL ++ (ds.take k).map fun d => (y.nm, d)) wr) ∧ KeptO w0.heap.size D Bo W1 wr) (fun i _ => ds.length - (intOf i).toNat)
   case atStart => exact ⟨0, Nat.zero_le _, rfl, hR0, KeptO.refl _⟩
   case round =>
    clear hR0 c0 c1 c2 c3 c4 hcd1 hlBo hlBd hlW
    obtain ⟨k, hk, rfl, HRr, hkr⟩ := hrel
    by_cases hlt : k < ds.length
    ·obtain ⟨d, hdk⟩ : ∃ d, ds[k]? = some d := ⟨_, List.getElem?_eq_getElem hlt⟩
     obtain ⟨ad', cap', he, _, hrd⟩ := (HP.out.2.2.kept hkr).1
     obtain ⟨rfl, _, rfl⟩ := Value.slice.inj he
     obtain ⟨b, off, rfl, hcd⟩ := hrd k d hdk
     have q2 := HP.out.1.cell hkr HC.out.2.1
     have hlB := (HP.out.1.kept hkr).2.1
     have hbl : b < wr.heap.size := World.block_lt_of_cell? wr _ hcd
     obtain ⟨v, hbv, hown⟩ := HRr.out
     obtain ⟨LK, hLK⟩ : ∃ LK, (LL ++ (ds.take k).map fun d => (y.nm, d)) = LK := ⟨_, rfl⟩
     have HLK : Hid ((LL ++ (ds.take (k + 1)).map fun d => (y.nm, d)) = LK ++ [(y.nm, d)]) := Lib.hid (by rw [take_snoc_get hdk, ← hLK]; simp)
     have HLl : Hid (LK.length = LL.length + k) := Lib.hid (by rw [← hLK]; simp; omega)
     rw [hLK] at hown
     have hcv := hbv.cell
     have hbz := (hb01.trans hkr.below).size
     have hk1 : (0 : Int) ≤ (k : Int) := by omega
     have hk2 : (k : Int) < (ds.length : Int) := by omega
     have hlBo := hbv.lt
     clear hLK hrd hdk he
     go_wp2_with (at_builtin; refine wpList_append_at _ rfl _ _ 32 rfl w0.heap.size 66 i0 (.agg #[.string ⟨#[]⟩, .int .i64 0]) 2 24 ul_nds hi hz0 hz1 hz2 rfl (by decide) _ _ _ rfl (hown.alloc _) ⟨wr.heap.size, 0, none⟩ 1 1 [.string y.nm, .int .i64 d] rfl rfl (cell_two_at _ _ _ _) (nd_oneCells (y.nm, d)) ?d1 ?d2 ?d3 ?_)
     case d1 => have := HLl.out; unfold maxLen; omega
     case d2 => have := HLl.out; omega
     case d3 => first | omega | (simp; omega)
     intro v' w' hown' hgrow hloc
     obtain ⟨g', cap', rfl⟩ := ownsRow_succ hown'
     obtain ⟨hb1, hb2, hr2, hk3⟩ := RowAt.step (D := D) hbv (by decide) hown hbz hBo hBD hown' hgrow hloc
     have HN : Hid (NRow w0.heap.size Bo (LL ++ (ds.take (k + 1)).map fun d => (y.nm, d)) (w'.setCell ⟨Bo, 0, none⟩ (.slice (some ⟨g', 0, none⟩) (LK.length + 1) cap'))) := Lib.hid (by
      refine ⟨_, hb2, ?_⟩
      rw [HLK.out, List.length_append, List.flatMap_append]
      exact hr2)
     have hk5 := hkr.trans hk3
     have hc5 := hb1.cell
     have hf5 := hb1.frozen
     clear hb2 hr2 hk3 hown hgrow hown' hloc hkr hcd q2
     go_wp2_with fail
     go_roundw
     case rel => exact ⟨k + 1, by omega, by go_num, HN, hk5⟩
     case measure => simp [intOf]; omega
    ·obtain rfl : k = ds.length := by omega
     have HN : Hid (NKey w0 D Bo Bd L0 ds (.slice adv ds.length capv) (pre ++ [y]) wr) := Lib.hid (by
      refine ⟨?_, HP.out.2.1.cell hkr HC.out.2.2, HP.out.2.1.kept hkr, HP.out.2.2.kept hkr⟩
      have h := HRr.out
      rw [List.take_length] at h
      rw [HSt.out, HX.out]
      exact h)
     have HKK := Lib.hid (hk0.trans hkr)
     go_wp2
     go_end0
     exact ⟨rfl, HN.out, HKK.out⟩
  ·have t3 : ((y.k : Int) == 3) = false := by simp; omega
   have HN : Hid (NKey w0 D Bo Bd L0 ds (.slice adv ds.length capv) (pre ++ [y]) W1) := Lib.hid (by
    have h := HK0.out
    have hx : xNeed ds y = [] := by
     unfold xNeed
     split
     ·rfl
     ·first | rfl | (rw [if_neg h2, if_neg h3]) | (rw [if_neg h3])
    unfold NKey at h ⊢
    rw [HLL.out] at h
    rw [HSt.out, hx, List.append_nil]
    exact h)
   clear h2 h3 hda1 HK0 HSt
   go_wp2_with fail
   go_end0
   exact ⟨rfl, HN.out, hk0⟩
end Go.Proofs.YtkonookacfmfgaaGreatDoor
