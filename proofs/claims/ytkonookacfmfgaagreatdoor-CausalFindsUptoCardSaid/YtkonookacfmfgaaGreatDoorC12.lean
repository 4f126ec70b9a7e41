/-
  slices.Compact at needs. novationref15.SameNeeds. novationref15.SameDays (printed by tools/gensame.py I). (*novationref15.Found).day: a day is put into the list of a variable that is not the call's own. The closure of causal.Deadlines.
-/
import Derived.Test.YtkonookacfmfgaaGreatDoorC08
import Derived.Test.YtkonookacfmfgaaGreatDoorC11
import Derived.Test.YtkonookacfmfgaaGreatDoorC06
import Derived.Laws.StructEq
import Derived.IntWalk
import Derived.Test.YtkonookacfmfgaaGreatDoorC07
import Derived.Laws.EntriesVeiled
namespace Go.Proofs.YtkonookacfmfgaaGreatDoor
open Go.RowKit
theorem nd_len (x : NdP) : (ndCells x).length = 2 := rfl
theorem zv_nd : ∀ w, (zeroValue 66).run Tryz.prog w = .ok (.agg #[.string ⟨#[]⟩, .int .i64 0]) w := fun w => by go_simp
theorem rowN_keep {L : List NdP} {k : Nat} {x y z : NdP} (h1 : 1 ≤ k) (hx : L[k - 1]? = some x) (hy : L[k]? = some y) (hne : y ≠ x) {kk : Nat} (hk : (cmpct (L.take k)).length = kk) (hz : L[kk]? = some z) :
  (((cRow L k).flatMap ndCells).set (kk * 2) (.string y.1)).set (kk * 2 + 1) (.int .i64 y.2) = (cRow L (k + 1)).flatMap ndCells ∧ (cmpct (L.take (k + 1))).length = kk + 1 := by
 subst hk
 obtain ⟨e1, e2⟩ := cRow_keep h1 hx hy hne hz
 refine ⟨?_, by rw [cmpct_new' h1 hx hy hne]; simp⟩
 rw [e1, e2]
 have s1 := set_flat (enc := ndCells) (m := 2) nd_len (cmpct (L.take k)) (L.drop ((cmpct (L.take k)).length + 1)) z (y.1, z.2) _ 0 (.string y.1) rfl (by decide) rfl
 have s2 := set_flat (enc := ndCells) (m := 2) nd_len (cmpct (L.take k)) (L.drop ((cmpct (L.take k)).length + 1)) (y.1, z.2) y _ 1 (.int .i64 y.2) rfl (by decide) rfl
 simp only [Nat.add_zero] at s1
 rw [s1, s2]
set_option maxHeartbeats 4000000 in
set_option maxRecDepth 100000 in
theorem compactN_any (base : Nat) (L : List NdP) (v : Value) (W : World) (hown : W.ownsRow base 66 2 v L.length (L.flatMap ndCells)) (hlen : L.length ≤ 4000000000000) :
  Calls Tryz.prog 50 #[v] W fun e W' => ∃ v', e = .returned v' ∧ W'.ownsRow base 66 2 v' (cmpct L).length ((cmpct L).flatMap ndCells) ∧ W.grownBy W' v.ownBlock := by
 by_cases hs : L.length < 2
 ·have hc : cmpct L = L := by
   match L, hs with
   | [], _ => rfl
   | [a], _ => rfl
  rw [hc]
  have HO := Lib.hid hown
  obtain ⟨n, hn⟩ : ∃ n, L.length = n := ⟨_, rfl⟩
  obtain ⟨ad, cap, rfl⟩ : ∃ ad cap, v = .slice ad n cap := by
   rcases hown.2 with ⟨rfl, h⟩ | ⟨g, cap, cur, rfl, _⟩
   ·exact ⟨none, 0, by rw [← hn, h]⟩
   ·exact ⟨_, cap, by rw [hn]⟩
  rw [hn] at hs hlen
  clear hown hc
  go_enter Tryz.func50, Tryz.ntmps50
  go_wp2
  go_ret
  exact ⟨_, rfl, HO.out, World.grownBy.refl _ _⟩
 ·obtain ⟨n, hn⟩ : ∃ n, L.length = n := ⟨_, rfl⟩
  have Hn := Lib.hid hn
  obtain ⟨g, cap, rfl, hcap⟩ : ∃ g cap, v = .slice (some ⟨g, 0, none⟩) n cap ∧ n ≤ cap ∧ cap ≤ maxLen := by
   rcases hown.2 with ⟨rfl, h⟩ | ⟨g, cap, cur, rfl, _, _, h1, h2, _⟩
   ·omega
   ·exact ⟨g, cap, by rw [hn], by omega, h2⟩
  rw [hn] at hs hlen hown
  have hR0 := RSt.start hown
  clear hown hn
  obtain ⟨hcap, hcm⟩ := hcap
  go_enter Tryz.func50, Tryz.ntmps50
  go_wp2
  go_loopw [3] (fun i wr => ∃ k : Nat, 1 ≤ k ∧ k ≤ n ∧ i = .int .i64 k ∧ Hid (cmpct (L.take k) = L.take k) ∧ RSt W wr 66 2 g base n cap (L.flatMap ndCells)) (fun i _ => n - (intOf i).toNat)
  case atStart => exact ⟨1, Nat.le_refl _, by omega, rfl, Lib.hid (cmpct_one L), hR0⟩
  case round =>
   clear hR0
   obtain ⟨k, hk1, hk, rfl, Hc, hR⟩ := hrel
   by_cases hlt : k < n
   ·obtain ⟨x, hx⟩ : ∃ x, L[k - 1]? = some x := ⟨_, List.getElem?_eq_getElem (by rw [Hn.out]; omega)⟩
    obtain ⟨y, hy⟩ : ∃ y, L[k]? = some y := ⟨_, List.getElem?_eq_getElem (by rw [Hn.out]; omega)⟩
    obtain ⟨xn, xd⟩ := x
    obtain ⟨yn, yd⟩ := y
    have x0 : wr.cell? ⟨g, (k - 1) * 2, none⟩ = some (.string xn) := hR.at (flat_at nd_len hx 0 _ rfl)
    have x1 : wr.cell? ⟨g, (k - 1) * 2 + 1, none⟩ = some (.int .i64 xd) := hR.at (flat_at nd_len hx 1 _ rfl)
    have y0 : wr.cell? ⟨g, k * 2, none⟩ = some (.string yn) := hR.at (flat_at nd_len hy 0 _ rfl)
    have y1 : wr.cell? ⟨g, k * 2 + 1, none⟩ = some (.int .i64 yd) := hR.at (flat_at nd_len hy 1 _ rfl)
    have e1 : IntKind.i64.wrap ((k : Int) - 1) = ((k - 1 : Nat) : Int) := by rw [IntWalk.i64_in _ (by omega)]; omega
    have hl1 : ((k - 1 : Nat) : Int) < (n : Int) := by omega
    have hl0 : (k : Int) < (n : Int) := by omega
    have HX := Lib.hid hx
    have HY := Lib.hid hy
    clear hx hy
    go_wp2_with fail
    have Hyx := Lib.hid (toList_beq yn xn)
    cases h1 : (yn.toList == xn.toList) with
    | false =>
     have Hne : Hid ((yn, yd) ≠ (xn, xd)) := Lib.hid (by rw [Hyx.out, decide_eq_false_iff_not] at h1; exact fun e => h1 (Prod.mk.inj e).1)
     go_quiet (fail)
     go_wp2
     go_roundw
     case rel => exact ⟨k + 1, by omega, by omega, by go_num, Lib.hid (cmpct_full hk1 HX.out HY.out Hne.out Hc.out), hR.drewN _⟩
     case measure => simp [intOf]; omega
    | true =>
     by_cases h2 : yd = xd
     ·go_quiet (fail)
      have HE : Hid ((yn, yd) = (xn, xd)) := Lib.hid (by rw [Hyx.out, decide_eq_true_eq] at h1; rw [h1, h2])
      have HY2 : Hid (L[k]? = some (xn, xd)) := Lib.hid (by rw [← HE.out]; exact HY.out)
      have hR1 := hR.drewN nq
      generalize wr.drewN nq = w1 at hR1 ⊢
      clear x0 x1 y0 y1 hR h1 h2 e1 hl1
      go_wp2
      go_loopw [3, 5] (fun s3 s5 wz => ∃ k2 kk : Nat, 1 ≤ k2 ∧ k + k2 ≤ n ∧ kk < k + k2 ∧ s3 = .int .i64 kk ∧ s5 = .int .i64 k2 ∧ Hid ((cmpct (L.take (k + k2))).length = kk) ∧ RSt W wz 66 2 g base n cap ((cRow L (k + k2)).flatMap ndCells)) (fun _ s5 _ => n - (intOf s5).toNat)
      case atStart =>
       have hh := cRow_half hk1 HX.out HY2.out Hc.out
       exact ⟨1, k, Nat.le_refl _, by omega, by omega, rfl, rfl, Lib.hid hh.2, by rw [hh.1]; exact hR1⟩
      case round =>
       clear hR1 hlt hl0
       obtain ⟨k2, kk, hk2, hkn, hkk, rfl, rfl, Hkk, hR⟩ := hrel
       by_cases hlt : k + k2 < n
       ·obtain ⟨x, hx⟩ : ∃ x, L[k + k2 - 1]? = some x := ⟨_, List.getElem?_eq_getElem (by rw [Hn.out]; omega)⟩
        obtain ⟨y, hy⟩ : ∃ y, L[k + k2]? = some y := ⟨_, List.getElem?_eq_getElem (by rw [Hn.out]; omega)⟩
        obtain ⟨z, hz⟩ : ∃ z, L[kk]? = some z := ⟨_, List.getElem?_eq_getElem (by rw [Hn.out]; omega)⟩
        obtain ⟨un, ud⟩ := x
        obtain ⟨vn, vd⟩ := y
        obtain ⟨on, od⟩ := z
        have hcx := (cRow_high (L := L) (m := k + k2) (j := k + k2 - 1) (by rw [Hkk.out]; omega)).trans hx
        have hcy := (cRow_high (L := L) (m := k + k2) (j := k + k2) (by rw [Hkk.out]; omega)).trans hy
        have hcz := (cRow_high (L := L) (m := k + k2) (j := kk) (by rw [Hkk.out]; omega)).trans hz
        have x0 : wr.cell? ⟨g, k * 2 + (k2 - 1) * 2, none⟩ = some (.string un) := by rw [show k * 2 + (k2 - 1) * 2 = (k + k2 - 1) * 2 by omega]; exact hR.at (flat_at nd_len hcx 0 _ rfl)
        have x1 : wr.cell? ⟨g, k * 2 + (k2 - 1) * 2 + 1, none⟩ = some (.int .i64 ud) := by rw [show k * 2 + (k2 - 1) * 2 = (k + k2 - 1) * 2 by omega]; exact hR.at (flat_at nd_len hcx 1 _ rfl)
        have y0 : wr.cell? ⟨g, k * 2 + k2 * 2, none⟩ = some (.string vn) := by rw [show k * 2 + k2 * 2 = (k + k2) * 2 by omega]; exact hR.at (flat_at nd_len hcy 0 _ rfl)
        have y1 : wr.cell? ⟨g, k * 2 + k2 * 2 + 1, none⟩ = some (.int .i64 vd) := by rw [show k * 2 + k2 * 2 = (k + k2) * 2 by omega]; exact hR.at (flat_at nd_len hcy 1 _ rfl)
        have z0 : wr.cell? ⟨g, kk * 2, none⟩ = some (.string on) := hR.at (flat_at nd_len hcz 0 _ rfl)
        have z1 : wr.cell? ⟨g, kk * 2 + 1, none⟩ = some (.int .i64 od) := hR.at (flat_at nd_len hcz 1 _ rfl)
        have f0 := hR.ice (kk * 2)
        have f1 := hR.ice (kk * 2 + 1)
        have HX2 := Lib.hid hx
        have HZ2 := Lib.hid hz
        have HY3 := Lib.hid hy
        clear hx hy hz hcx hcy hcz
        have e1 : IntKind.i64.wrap ((k2 : Int) - 1) = ((k2 - 1 : Nat) : Int) := by rw [IntWalk.i64_in _ (by omega)]; omega
        have hl1 : ((k2 - 1 : Nat) : Int) < ((n - k : Nat) : Int) := by omega
        have hl0 : (k2 : Int) < ((n - k : Nat) : Int) := by omega
        have Huv := Lib.hid (toList_beq vn un)
        go_wp2_with fail
        cases h1 : (vn.toList == un.toList) with
        | false =>
         have Hne : Hid ((vn, vd) ≠ (un, ud)) := Lib.hid (by rw [Huv.out, decide_eq_false_iff_not] at h1; exact fun e => h1 (Prod.mk.inj e).1)
         have hst := rowN_keep (by omega) HX2.out HY3.out Hne.out Hkk.out HZ2.out
         have hR2 := Lib.hid fun q : Nat => ((hR.drewN q).set (kk * 2) (.string vn)).set (kk * 2 + 1) (.int .i64 vd)
         have HS := Lib.hid hst
         clear hst hR
         go_quiet (fail)
         go_wp2
         go_roundw
         case rel =>
          refine ⟨k2 + 1, kk + 1, by omega, by omega, by omega, by go_num, by go_num, Lib.hid HS.out.2, ?_⟩
          have := hR2.out nq
          rwa [HS.out.1] at this
         case measure => simp [intOf]; omega
        | true =>
         by_cases h2 : vd = ud
         ·have HE : Hid ((vn, vd) = (un, ud)) := Lib.hid (by rw [Huv.out, decide_eq_true_eq] at h1; rw [h1, h2])
          have HY4 : Hid (L[k + k2]? = some (un, ud)) := Lib.hid (by rw [← HE.out]; exact HY3.out)
          have HS := Lib.hid (And.intro (cRow_skip (by omega) HX2.out HY4.out) (cmpct_same' (by omega) HX2.out HY4.out))
          have hR2 := Lib.hid fun q : Nat => hR.drewN q
          clear hR
          go_quiet (fail)
          go_wp2
          go_roundw
          case rel => exact ⟨k2 + 1, kk, by omega, by omega, by omega, rfl, by go_num, Lib.hid (by rw [← Nat.add_assoc, HS.out.2]; exact Hkk.out), by rw [← Nat.add_assoc, HS.out.1]; exact hR2.out nq⟩
          case measure => simp [intOf]; omega
         ·have Hne : Hid ((vn, vd) ≠ (un, ud)) := Lib.hid (fun e => h2 (Prod.mk.inj e).2)
          have hst := rowN_keep (by omega) HX2.out HY3.out Hne.out Hkk.out HZ2.out
          have hR2 := Lib.hid fun q : Nat => ((hR.drewN q).set (kk * 2) (.string vn)).set (kk * 2 + 1) (.int .i64 vd)
          have HS := Lib.hid hst
          clear hst hR
          go_quiet (fail)
          go_wp2
          go_roundw
          case rel =>
           refine ⟨k2 + 1, kk + 1, by omega, by omega, by omega, by go_num, by go_num, Lib.hid HS.out.2, ?_⟩
           have := hR2.out nq
           rwa [HS.out.1] at this
          case measure => simp [intOf]; omega
       ·have hend : k + k2 = n := by omega
        obtain ⟨vs, hcl⟩ := run_clear_own hR ul_nds _ zv_nd rfl (by intro u hu; simp [Value.cells] at hu; rcases hu with rfl | rfl <;> rfl) kk (cap - kk) (by omega) 0
        obtain ⟨os', hR3, hos⟩ := hR.sets vs (kk * 2) (kk * 2) (Nat.le_refl _)
        have hfin := ownsRow_cut hR3.own kk (by omega)
        rw [hos] at hfin
        have hkl : (cmpct L).length = kk := by have := Hkk.out; rwa [hend, ← Hn.out, List.take_length] at this
        have hrow := cRow_end (enc := ndCells) (m := 2) nd_len L
        rw [Hn.out, ← hend, hkl] at hrow
        rw [hrow] at hfin
        have HF := Lib.hid (And.intro hfin hR3.gr)
        have Hkl := Lib.hid hkl
        clear hfin hrow hos hR3 hR hkl
        go_wp2
        go_ret
        refine ⟨_, rfl, ?_, HF.out.2⟩
        rw [Hkl.out]
        exact HF.out.1
     ·have Hne : Hid ((yn, yd) ≠ (xn, xd)) := Lib.hid (fun e => h2 (Prod.mk.inj e).2)
      go_quiet (fail)
      go_wp2
      go_roundw
      case rel => exact ⟨k + 1, by omega, by omega, by go_num, Lib.hid (cmpct_full hk1 HX.out HY.out Hne.out Hc.out), hR.drewN _⟩
      case measure => simp [intOf]; omega
   ·have hkn : k = n := by omega
    subst hkn
    have hf : Hid (cmpct L = L) := Lib.hid (by have := Hc.out; rwa [← Hn.out, List.take_length] at this)
    have HR := Lib.hid hR
    clear hR
    go_wp2
    go_ret
    refine ⟨_, rfl, ?_, HR.out.gr⟩
    rw [hf.out, Hn.out]
    exact HR.out.own
end Go.Proofs.YtkonookacfmfgaaGreatDoor

namespace Go.Proofs.YtkonookacfmfgaaGreatDoor
open Go.RowKit
def RdNd (w : World) (l : List NdP) (v : Value) : Prop := ∃ ad cap, v = .slice ad l.length cap ∧ ∀ k x, l[k]? = some x → ∃ b off, ad = some ⟨b, off, none⟩ ∧ w.cell? ⟨b, off + k * 2, none⟩ = some (.string x.1) ∧ w.cell? ⟨b, off + k * 2 + 1, none⟩ = some (.int .i64 x.2)
theorem RdNd.low {w w' : World} {l : List NdP} {v : Value} (h : RdNd w l v) (hb : Below w.heap.size w w') : RdNd w' l v := by
 obtain ⟨ad, cap, rfl, h⟩ := h
 refine ⟨ad, cap, rfl, fun k x hk => ?_⟩
 obtain ⟨b, off, e, h0, h1⟩ := h k x hk
 have hl : b < w.heap.size := World.block_lt_of_cell? w _ h0
 exact ⟨b, off, e, by rw [hb.cell (p := ⟨b, off + k * 2, none⟩) hl]; exact h0, by rw [hb.cell (p := ⟨b, off + k * 2 + 1, none⟩) hl]; exact h1⟩
theorem RdNd.own {w : World} {base : Nat} {l : List NdP} {v : Value} (h : w.ownsRow base 66 2 v l.length (l.flatMap ndCells)) : RdNd w l v := by
 rcases h.2 with ⟨rfl, h0⟩ | ⟨g, cap, cur, rfl, _⟩
 ·refine ⟨none, 0, by rw [h0], fun k x hk => ?_⟩
  rw [List.eq_nil_of_length_eq_zero h0] at hk
  simp at hk
 ·refine ⟨_, cap, rfl, fun k x hk => ⟨g, 0, rfl, ?_⟩⟩
  have hfl := flat_length ndCells 2 nd_len l
  have hkl := (List.getElem?_eq_some_iff.1 hk).1
  have h0 := flat_at nd_len hk 0 _ rfl
  have h1 := flat_at nd_len hk 1 _ rfl
  refine ⟨?_, ?_⟩
  ·rw [Nat.zero_add, h.cellAt (k * 2) (by omega)]; exact h0
  ·rw [Nat.zero_add, h.cellAt (k * 2 + 1) (by omega)]; exact h1
theorem same_step {α : Type} {a b : List α} {k : Nat} (h : ∀ j, j < k → a[j]? = b[j]?) (hk : a[k]? = b[k]?) : ∀ j, j < k + 1 → a[j]? = b[j]? := by
 intro j hj
 rcases Nat.lt_or_ge j k with h1 | h1
 ·exact h j h1
 ·have : j = k := by omega
  rw [this]; exact hk
set_option maxHeartbeats 4000000 in
set_option maxRecDepth 100000 in
theorem sameNeeds_any (a b : List NdP) (va vb : Value) (W : World) (ha : RdNd W a va) (hb : RdNd W b vb) (hla : a.length ≤ 4000000000000) (hlb : b.length ≤ 4000000000000) :
  Calls Tryz.prog 12 #[va, vb] W fun e W' => e = .returned (.bool (decide (a = b))) ∧ Below W.heap.size W W' := by
 obtain ⟨ad, cap, rfl, hra⟩ := ha
 obtain ⟨bd, bcap, rfl, hrb⟩ := hb
 obtain ⟨n, hn⟩ : ∃ n, a.length = n := ⟨_, rfl⟩
 obtain ⟨m, hm⟩ : ∃ m, b.length = m := ⟨_, rfl⟩
 have Hn := Lib.hid hn
 have Hm := Lib.hid hm
 have HA := Lib.hid hra
 have HB := Lib.hid hrb
 rw [hn] at hla ⊢
 rw [hm] at hlb ⊢
 clear hra hrb hn hm
 by_cases hnm : n = m
 ·subst hnm
  obtain ⟨r, hr⟩ : ∃ r, decide (a = b) = r := ⟨_, rfl⟩
  have HR := Lib.hid hr
  rw [hr]
  clear hr
  go_enter Tryz.func12, Tryz.ntmps12
  go_wp2
  go_loopw [5] (fun i wr => ∃ k : Nat, k ≤ n ∧ i = .int .i64 (k : Int) ∧ Hid (∀ j, j < k → a[j]? = b[j]?) ∧ ∃ q, wr = W.drewN q) (fun i _ => n - (intOf i).toNat)
  case atStart => exact ⟨0, Nat.zero_le _, rfl, Lib.hid fun j hj => absurd hj (Nat.not_lt_zero _), 0, rfl⟩
  case round =>
   obtain ⟨k, hk, rfl, Hc, q, rfl⟩ := hrel
   by_cases hlt : k < n
   ·obtain ⟨x, hx⟩ : ∃ x, a[k]? = some x := ⟨_, List.getElem?_eq_getElem (by rw [Hn.out]; exact hlt)⟩
    obtain ⟨y, hy⟩ : ∃ y, b[k]? = some y := ⟨_, List.getElem?_eq_getElem (by rw [Hm.out]; exact hlt)⟩
    obtain ⟨xn, xd⟩ := x
    obtain ⟨yn, yd⟩ := y
    obtain ⟨ba, oa, rfl, x0, x1⟩ := HA.out k _ hx
    obtain ⟨bb, ob, rfl, y0, y1⟩ := HB.out k _ hy
    have HX := Lib.hid hx
    have HY := Lib.hid hy
    have Hxy := Lib.hid (toList_beq xn yn)
    have hl0 : (k : Int) < (n : Int) := by omega
    clear hx hy
    go_wp2_with fail
    cases t1 : (xn.toList == yn.toList) with
    | false =>
     have HF : Hid (false = r) := Lib.hid (by
      rw [← HR.out, eq_comm, decide_eq_false_iff_not]
      rintro rfl
      rw [Hxy.out, decide_eq_false_iff_not] at t1
      have h := HX.out.symm.trans HY.out
      exact t1 (Prod.mk.inj (Option.some.inj h)).1)
     go_quiet (fail)
     go_wp2
     go_ret
     exact ⟨ret_bool' HF.out, below_drewN (below_drewN (Below.refl _ _) _) _⟩
    | true =>
     by_cases t2 : xd = yd
     ·have HE : Hid (a[k]? = b[k]?) := Lib.hid (by rw [HX.out, HY.out]; rw [Hxy.out, decide_eq_true_eq] at t1; rw [t1, t2])
      go_quiet (fail)
      go_wp2
      go_roundw
      case rel => exact ⟨k + 1, by omega, by go_num, Lib.hid (same_step Hc.out HE.out), _, rfl⟩
      case measure => simp [intOf]; omega
     ·have HF : Hid (false = r) := Lib.hid (by
       rw [← HR.out, eq_comm, decide_eq_false_iff_not]
       rintro rfl
       have h := HX.out.symm.trans HY.out
       exact t2 (Prod.mk.inj (Option.some.inj h)).2)
      go_quiet (fail)
      go_wp2
      go_ret
      exact ⟨ret_bool' HF.out, below_drewN (below_drewN (Below.refl _ _) _) _⟩
   ·have HF : Hid (true = r) := Lib.hid (by
     rw [← HR.out, eq_comm, decide_eq_true_eq]
     apply List.ext_getElem?
     intro j
     rcases Nat.lt_or_ge j k with h | h
     ·exact Hc.out j h
     ·rw [List.getElem?_eq_none (by rw [Hn.out]; omega), List.getElem?_eq_none (by rw [Hm.out]; omega)])
    go_wp2
    go_ret
    exact ⟨ret_bool' HF.out, below_drewN (Below.refl _ _) _⟩
 ·have HF : Hid (false = decide (a = b)) := Lib.hid (by
   rw [eq_comm, decide_eq_false_iff_not]
   rintro rfl
   exact hnm (Hn.out.symm.trans Hm.out))
  go_enter Tryz.func12, Tryz.ntmps12
  go_wp2
  go_ret
  exact ⟨ret_bool' HF.out, Below.refl _ _⟩
end Go.Proofs.YtkonookacfmfgaaGreatDoor

namespace Go.Proofs.YtkonookacfmfgaaGreatDoor
open Go.RowKit
def RdDy (w : World) (l : List Int) (v : Value) : Prop := ∃ ad cap, v = .slice ad l.length cap ∧ ∀ k x, l[k]? = some x → ∃ b off, ad = some ⟨b, off, none⟩ ∧ w.cell? ⟨b, off + k, none⟩ = some (.int .i64 x)
theorem RdDy.low {w w' : World} {l : List Int} {v : Value} (h : RdDy w l v) (hb : Below w.heap.size w w') : RdDy w' l v := by
 obtain ⟨ad, cap, rfl, h⟩ := h
 refine ⟨ad, cap, rfl, fun k x hk => ?_⟩
 obtain ⟨b, off, e, h0⟩ := h k x hk
 have hl : b < w.heap.size := World.block_lt_of_cell? w _ h0
 exact ⟨b, off, e, by rw [hb.cell (p := ⟨b, off + k, none⟩) hl]; exact h0⟩
theorem RdDy.own {w : World} {base : Nat} {l : List Int} {v : Value} (h : w.ownsRow base 3 1 v l.length (l.flatMap dyCells)) : RdDy w l v := by
 rcases h.2 with ⟨rfl, h0⟩ | ⟨g, cap, cur, rfl, _⟩
 ·refine ⟨none, 0, by rw [h0], fun k x hk => ?_⟩
  rw [List.eq_nil_of_length_eq_zero h0] at hk
  simp at hk
 ·refine ⟨_, cap, rfl, fun k x hk => ⟨g, 0, rfl, ?_⟩⟩
  have hfl := flat_length dyCells 1 dyCells_len l
  have hkl := (List.getElem?_eq_some_iff.1 hk).1
  have h0 := flat_at dyCells_len hk 0 _ rfl
  simp only [Nat.mul_one, Nat.add_zero] at h0
  rw [Nat.zero_add, h.cellAt k (by omega)]; exact h0
set_option maxHeartbeats 4000000 in
set_option maxRecDepth 100000 in
theorem sameDays_any (a b : List Int) (va vb : Value) (W : World) (ha : RdDy W a va) (hb : RdDy W b vb) (hla : a.length ≤ 4000000000000) (hlb : b.length ≤ 4000000000000) :
  Calls Tryz.prog 14 #[va, vb] W fun e W' => e = .returned (.bool (decide (a = b))) ∧ Below W.heap.size W W' := by
 obtain ⟨ad, cap, rfl, hra⟩ := ha
 obtain ⟨bd, bcap, rfl, hrb⟩ := hb
 obtain ⟨n, hn⟩ : ∃ n, a.length = n := ⟨_, rfl⟩
 obtain ⟨m, hm⟩ : ∃ m, b.length = m := ⟨_, rfl⟩
 have Hn := Lib.hid hn
 have Hm := Lib.hid hm
 have HA := Lib.hid hra
 have HB := Lib.hid hrb
 rw [hn] at hla ⊢
 rw [hm] at hlb ⊢
 clear hra hrb hn hm
 by_cases hnm : n = m
 ·subst hnm
  obtain ⟨r, hr⟩ : ∃ r, decide (a = b) = r := ⟨_, rfl⟩
  have HR := Lib.hid hr
  rw [hr]
  clear hr
  go_enter Tryz.func14, Tryz.ntmps14
  go_wp2
  go_loopw [5] (fun i wr => ∃ k : Nat, k ≤ n ∧ i = .int .i64 (k : Int) ∧ Hid (∀ j, j < k → a[j]? = b[j]?) ∧ ∃ q, wr = W.drewN q) (fun i _ => n - (intOf i).toNat)
  case atStart => exact ⟨0, Nat.zero_le _, rfl, Lib.hid fun j hj => absurd hj (Nat.not_lt_zero _), 0, rfl⟩
  case round =>
   obtain ⟨k, hk, rfl, Hc, q, rfl⟩ := hrel
   by_cases hlt : k < n
   ·obtain ⟨x, hx⟩ : ∃ x, a[k]? = some x := ⟨_, List.getElem?_eq_getElem (by rw [Hn.out]; exact hlt)⟩
    obtain ⟨y, hy⟩ : ∃ y, b[k]? = some y := ⟨_, List.getElem?_eq_getElem (by rw [Hm.out]; exact hlt)⟩
    have ⟨xd, hxd⟩ : ∃ xd, x = xd := ⟨_, rfl⟩
    have ⟨yd, hyd⟩ : ∃ yd, y = yd := ⟨_, rfl⟩
    rw [hxd] at hx
    rw [hyd] at hy
    clear hxd hyd
    obtain ⟨ba, oa, rfl, x0⟩ := HA.out k _ hx
    obtain ⟨bb, ob, rfl, y0⟩ := HB.out k _ hy
    have HX := Lib.hid hx
    have HY := Lib.hid hy
    have hl0 : (k : Int) < (n : Int) := by omega
    clear hx hy
    go_wp2_with fail
    by_cases t0 : xd = yd
    ·have HE : Hid (a[k]? = b[k]?) := Lib.hid (by rw [HX.out, HY.out]; rw [t0])
     go_quiet (fail)
     go_wp2
     go_roundw
     case rel => exact ⟨k + 1, by omega, by go_num, Lib.hid (same_step Hc.out HE.out), _, rfl⟩
     case measure => simp [intOf]; omega
    ·have HF : Hid (false = r) := Lib.hid (by
      rw [← HR.out, eq_comm, decide_eq_false_iff_not]
      rintro rfl
      skip
      have e := Option.some.inj (HX.out.symm.trans HY.out)
      exact t0 (e))
     go_quiet (fail)
     go_wp2
     go_ret
     exact ⟨ret_bool' HF.out, below_drewN (below_drewN (Below.refl _ _) _) _⟩
   ·have HF : Hid (true = r) := Lib.hid (by
     rw [← HR.out, eq_comm, decide_eq_true_eq]
     apply List.ext_getElem?
     intro j
     rcases Nat.lt_or_ge j k with h | h
     ·exact Hc.out j h
     ·rw [List.getElem?_eq_none (by rw [Hn.out]; omega), List.getElem?_eq_none (by rw [Hm.out]; omega)])
    go_wp2
    go_ret
    exact ⟨ret_bool' HF.out, below_drewN (Below.refl _ _) _⟩
 ·have HF : Hid (false = decide (a = b)) := Lib.hid (by
   rw [eq_comm, decide_eq_false_iff_not]
   rintro rfl
   exact hnm (Hn.out.symm.trans Hm.out))
  go_enter Tryz.func14, Tryz.ntmps14
  go_wp2
  go_ret
  exact ⟨ret_bool' HF.out, Below.refl _ _⟩
end Go.Proofs.YtkonookacfmfgaaGreatDoor

namespace Go.Proofs.YtkonookacfmfgaaGreatDoor
open Go.RowKit
noncomputable def dayIns (l : List Int) (x : Int) : List Int := if eqB (x ∈ l) = true then l else insD dayLt x l
theorem insP_len {α : Type} (lt : α → α → Bool) (x : α) (l : List α) : (insP lt x l).1.length = l.length + (if (insP lt x l).2 = true then 1 else 0) := by
 unfold insP
 rcases insF_false lt x l [] with ⟨a, b, rfl, _, _, _, e⟩ | ⟨_, e⟩
 ·rw [e]; simp; omega
 ·rw [e]; simp
theorem RdDy.own_far {w : World} {base F j : Nat} {l : List Int} {v u : Value} (h : w.ownsRow base 3 1 v l.length (l.flatMap dyCells)) (hF : F < base) : RdDy (w.setCell ⟨F, j, none⟩ u) l v := by
 have h2 := RdDy.own h
 obtain ⟨ad, cap, rfl, hc⟩ := h2
 refine ⟨ad, cap, rfl, fun k x hk => ?_⟩
 obtain ⟨b, off, rfl, hcell⟩ := hc k x hk
 have hb : base ≤ b := (h.lt b rfl).1
 refine ⟨b, off, rfl, ?_⟩
 rw [World.cell?_setCell_far _ _ _ _ (show F ≠ b by omega)]
 exact hcell
theorem grown_set {w w' : World} {F j : Nat} {u : Value} (h : Below w.heap.size w w') : w.grownBy (w'.setCell ⟨F, j, none⟩ u) (some F) := by
 exact ⟨h.os, h.tape, h.output, by rw [World.size_setCell]; exact h.size, fun k hk hne => (Below.heap_setCell _ _ _ _ (fun e => hne (by rw [e]))).trans (h.block k hk)⟩
theorem grown_below {w w' : World} (h : Below w.heap.size w w') (F : Nat) : w.grownBy w' (some F) := ⟨h.os, h.tape, h.output, h.size, fun k hk _ => h.block k hk⟩
set_option maxHeartbeats 4000000 in
set_option maxRecDepth 100000 in
theorem fday_any (F : Nat) (vN vC b3 : Value) (D : List Int) (x : Int) (ad : Option Addr) (cap : Nat) (W : World) (hD : D.length ≤ 4000000000000)
  (hb : BoxN W F 76 [vN, vC, .slice ad D.length cap, b3]) (hr : RdDy W D (.slice ad D.length cap)) :
  Calls Tryz.prog 79 #[.pointer (some ⟨F, 0, none⟩), .int .i64 x] W fun e W' => e = .returned (.tuple #[]) ∧ W.grownBy W' (some F) ∧ ∃ ad' cap', BoxN W' F 76 [vN, vC, .slice ad' (dayIns D x).length cap', b3] ∧ RdDy W' (dayIns D x) (.slice ad' (dayIns D x).length cap') := by
 obtain ⟨i0, hi, hz0, hz1, hz2⟩ := info_parts info_dy
 obtain ⟨_, _, e0, hrd⟩ := hr
 cases e0
 obtain ⟨n, hln⟩ : ∃ n, D.length = n := ⟨_, rfl⟩
 have HR := Lib.hid hrd
 have HLn := Lib.hid hln
 have HB := Lib.hid hb
 have hF := hb.lt
 have c2 : W.cell? ⟨F, 2, none⟩ = some (.slice ad D.length cap) := hb.cell rfl
 rw [hln] at hD c2
 clear hrd hln hb
 go_enter Tryz.func79, Tryz.ntmps79
 go_wp2_with fail
 go_loopw [4, 5, 6] (fun s dn i wr => ∃ (k M : Nat) (b : Bool) (ad2 : Option Addr) (cap2 : Nat), k ≤ n ∧ i = .int .i64 (k : Int) ∧ s = .slice ad2 M cap2 ∧ dn = .bool b ∧ M ≤ k + 1 ∧ Hid (x ∉ D.take k ∧ (insP dayLt x (D.take k)).2 = b ∧ M = (insP dayLt x (D.take k)).1.length) ∧
   wr.ownsRow W.heap.size 3 1 (.slice ad2 M cap2) M ((insP dayLt x (D.take k)).1.flatMap dyCells) ∧ Below W.heap.size W wr) (fun _ _ i _ => n - (intOf i).toNat)
 case atStart => exact ⟨0, 0, false, none, 0, Nat.zero_le _, rfl, rfl, rfl, by omega, Lib.hid ⟨by simp, rfl, rfl⟩, World.ownsRow_nil _ _ _ _, Below.refl _ _⟩
 case round =>
  clear c2
  obtain ⟨k, M, b, ad2, cap2, hk, rfl, rfl, rfl, hM, HI, hown, hbel⟩ := hrel
  have c2 : wr.cell? ⟨F, 2, none⟩ = some (.slice ad n cap) := by
   rw [hbel.cell (p := ⟨F, 2, none⟩) hF, ← HLn.out]; exact HB.out.cell rfl
  have hsz := hbel.size
  by_cases hlt : k < n
  ·obtain ⟨y, hy⟩ : ∃ y, D[k]? = some y := ⟨_, List.getElem?_eq_getElem (by rw [HLn.out]; exact hlt)⟩
   obtain ⟨bb, off, rfl, c0⟩ := HR.out k y hy
   replace c0 : wr.cell? ⟨bb, off + k, none⟩ = some (.int .i64 y) := by rw [hbel.cell (p := ⟨bb, off + k, none⟩) (World.block_lt_of_cell? W _ c0)]; exact c0
   have hbl : bb < wr.heap.size := World.block_lt_of_cell? wr _ c0
   have hFl : F < wr.heap.size := by omega
   have hk1 : (0 : Int) ≤ (k : Int) := by omega
   have hk2 : (k : Int) < (n : Int) := by omega
   have HP := Lib.hid (insP_take dayLt x hy)
   have HY := Lib.hid hy
   clear hy
   have HP2 := Lib.hid HI.out.2.1
   by_cases hxy : y = x
   ·subst hxy
    have HF : Hid (dayIns D y = D) := Lib.hid (by unfold dayIns; rw [if_pos (eqB_true (List.mem_of_getElem? HY.out))])
    go_wp2
    refine bodyPost_ret (results_none rfl _ _ _) rfl ?_
    refine ⟨rfl, grown_below hbel F, some ⟨bb, off, none⟩, cap, ?_, ?_⟩
    ·rw [HF.out]; exact HB.out.below hbel hF
    ·rw [HF.out]; exact RdDy.low ⟨_, _, rfl, HR.out⟩ hbel
   ·have g1 : (y == x) = false := by rw [beq_eq_false_iff_ne]; exact hxy
    have HM : Hid (x ∉ D.take (k + 1)) := Lib.hid (by
     rw [take_snoc_get HY.out, List.mem_append, List.mem_singleton]
     rintro (h | h)
     ·exact HI.out.1 h
     ·exact hxy h.symm)
    have hxy' := hxy
    clear hxy
    cases b with
    | true =>
     have HS : Hid (insP dayLt x (D.take (k + 1)) = ((insP dayLt x (D.take k)).1 ++ [y], true)) := Lib.hid (by rw [HP.out, insF, if_neg (by rw [HP2.out]; simp), HP2.out])
     have hlt1 := hown.lt
     go_wp2_with (at_builtin; refine wpList_append_own _ rfl _ _ 26 rfl W.heap.size 3 i0 (.int .i64 0) 1 8 ul_dys hi hz0 hz1 hz2 rfl (by decide) _ _ _ rfl (hown.alloc _) ⟨wr.heap.size, 0, none⟩ 1 1 [.int .i64 y] rfl rfl (cell_one_new _ _ _) (int_oneCell _ _) ?d1 ?d2 ?d3 ?_)
     case d1 => unfold maxLen; omega
     case d2 => omega
     case d3 => simp; omega
     intro vw2 w2 hown2 hgrow _
     have hbel2 : Below W.heap.size W w2 := (hbel.alloc hbel.size _).grown hgrow (by simp; have := hbel.size; omega) (fun k hk => (hlt1 k hk).1)
     obtain ⟨adw2, capw2, rfl, _⟩ := Sl.of_owns hown2
     clear hgrow hlt1
     have HN : Hid (x ∉ D.take (k + 1) ∧ (insP dayLt x (D.take (k + 1))).2 = true ∧ M + 1 = (insP dayLt x (D.take (k + 1))).1.length) := Lib.hid ⟨HM.out, by rw [HS.out], by rw [HS.out, List.length_append, ← HI.out.2.2]; rfl⟩
     have hown3 : w2.ownsRow W.heap.size 3 1 (.slice adw2 (M + 1) capw2) (M + 1) ((insP dayLt x (D.take (k + 1))).1.flatMap dyCells) := by
      rw [HS.out, List.flatMap_append]; simpa [dyCells] using hown2
     clear hown2 hown hbel
     go_wp2
     go_roundw
     case rel => exact ⟨k + 1, M + 1, true, adw2, capw2, by omega, by go_num, rfl, rfl, by omega, HN, hown3, hbel2⟩
     case measure => simp [intOf]; omega
    | false =>
     by_cases hl : x < y
     ·have g2 : decide (x < y) = true := decide_eq_true hl
      have HS : Hid (insP dayLt x (D.take (k + 1)) = ((insP dayLt x (D.take k)).1 ++ [x, y], true)) := Lib.hid (by rw [HP.out, insF, if_pos ⟨HP2.out, g2⟩])
      clear hl
      have hlt1 := hown.lt
      go_wp2_with (at_builtin; refine wpList_append_own _ rfl _ _ 26 rfl W.heap.size 3 i0 (.int .i64 0) 1 8 ul_dys hi hz0 hz1 hz2 rfl (by decide) _ _ _ rfl (hown.alloc _) ⟨wr.heap.size, 0, none⟩ 1 1 [.int .i64 x] rfl rfl (cell_one_new _ _ _) (int_oneCell _ _) ?d1 ?d2 ?d3 ?_)
      case d1 => unfold maxLen; omega
      case d2 => omega
      case d3 => simp; omega
      intro vw2 w2 hown2 hgrow _
      have hbel2 : Below W.heap.size W w2 := (hbel.alloc hbel.size _).grown hgrow (by simp; have := hbel.size; omega) (fun k hk => (hlt1 k hk).1)
      obtain ⟨adw2, capw2, rfl, _⟩ := Sl.of_owns hown2
      clear hgrow hlt1
      have HMk : M ≤ k := by have h1 := insP_len dayLt x (D.take k); rw [HP2.out, ← HI.out.2.2] at h1; simp at h1; omega
      replace c2 : w2.cell? ⟨F, 2, none⟩ = some (.slice (some ⟨bb, off, none⟩) n cap) := by
       rw [hbel2.cell (p := ⟨F, 2, none⟩) hF, ← HLn.out]; exact HB.out.cell rfl
      replace c0 : w2.cell? ⟨bb, off + k, none⟩ = some (.int .i64 y) := by
       obtain ⟨b9, off9, e9, h9⟩ := HR.out k y HY.out
       cases e9
       rw [hbel2.cell (p := ⟨bb, off + k, none⟩) (World.block_lt_of_cell? W _ h9)]; exact h9
      have hs2 := hbel2.size
      clear hown hbel hbl hFl
      have hlt1 := hown2.lt
      go_wp2_with (at_builtin; refine wpList_append_own _ rfl _ _ 26 rfl W.heap.size 3 i0 (.int .i64 0) 1 8 ul_dys hi hz0 hz1 hz2 rfl (by decide) _ _ _ rfl (hown2.alloc _) ⟨w2.heap.size, 0, none⟩ 1 1 [.int .i64 y] rfl rfl (cell_one_new _ _ _) (int_oneCell _ _) ?d1 ?d2 ?d3 ?_)
      case d1 => unfold maxLen; omega
      case d2 => omega
      case d3 => simp; omega
      intro vw3 w3 hown3 hgrow _
      have hbel3 : Below W.heap.size W w3 := (hbel2.alloc hbel2.size _).grown hgrow (by simp; have := hbel2.size; omega) (fun k hk => (hlt1 k hk).1)
      obtain ⟨adw3, capw3, rfl, _⟩ := Sl.of_owns hown3
      clear hgrow hlt1
      have HN : Hid (x ∉ D.take (k + 1) ∧ (insP dayLt x (D.take (k + 1))).2 = true ∧ M + 1 + 1 = (insP dayLt x (D.take (k + 1))).1.length) := Lib.hid ⟨HM.out, by rw [HS.out], by rw [HS.out, List.length_append, ← HI.out.2.2]; rfl⟩
      have hown4 : w3.ownsRow W.heap.size 3 1 (.slice adw3 (M + 1 + 1) capw3) (M + 1 + 1) ((insP dayLt x (D.take (k + 1))).1.flatMap dyCells) := by
       rw [HS.out, List.flatMap_append]; simpa [dyCells] using hown3
      clear hown2 hown3 hbel2
      go_wp2
      go_roundw
      case rel => exact ⟨k + 1, M + 1 + 1, true, adw3, capw3, by omega, by go_num, rfl, rfl, by omega, HN, hown4, hbel3⟩
      case measure => simp [intOf]; omega
     ·have g2 : decide (x < y) = false := decide_eq_false hl
      have HS : Hid (insP dayLt x (D.take (k + 1)) = ((insP dayLt x (D.take k)).1 ++ [y], false)) := Lib.hid (by rw [HP.out, insF, if_neg (by show ¬ (_ ∧ decide (x < y) = true); rw [g2]; simp), HP2.out])
      clear hl
      have hlt1 := hown.lt
      go_wp2_with (at_builtin; refine wpList_append_own _ rfl _ _ 26 rfl W.heap.size 3 i0 (.int .i64 0) 1 8 ul_dys hi hz0 hz1 hz2 rfl (by decide) _ _ _ rfl (hown.alloc _) ⟨wr.heap.size, 0, none⟩ 1 1 [.int .i64 y] rfl rfl (cell_one_new _ _ _) (int_oneCell _ _) ?d1 ?d2 ?d3 ?_)
      case d1 => unfold maxLen; omega
      case d2 => omega
      case d3 => simp; omega
      intro vw2 w2 hown2 hgrow _
      have hbel2 : Below W.heap.size W w2 := (hbel.alloc hbel.size _).grown hgrow (by simp; have := hbel.size; omega) (fun k hk => (hlt1 k hk).1)
      obtain ⟨adw2, capw2, rfl, _⟩ := Sl.of_owns hown2
      clear hgrow hlt1
      have HN : Hid (x ∉ D.take (k + 1) ∧ (insP dayLt x (D.take (k + 1))).2 = false ∧ M + 1 = (insP dayLt x (D.take (k + 1))).1.length) := Lib.hid ⟨HM.out, by rw [HS.out], by rw [HS.out, List.length_append, ← HI.out.2.2]; rfl⟩
      have hown3 : w2.ownsRow W.heap.size 3 1 (.slice adw2 (M + 1) capw2) (M + 1) ((insP dayLt x (D.take (k + 1))).1.flatMap dyCells) := by
       rw [HS.out, List.flatMap_append]; simpa [dyCells] using hown2
      clear hown2 hown hbel
      go_wp2
      go_roundw
      case rel => exact ⟨k + 1, M + 1, false, adw2, capw2, by omega, by go_num, rfl, rfl, by omega, HN, hown3, hbel2⟩
      case measure => simp [intOf]; omega
  ·obtain rfl : k = n := by omega
   have HT : Hid (D.take k = D) := Lib.hid (List.take_of_length_le (by rw [HLn.out]; exact Nat.le_refl _))
   rw [HT.out] at HI hown
   have hFl : F < wr.heap.size := by omega
   have HD : Hid (dayIns D x = insD dayLt x D) := Lib.hid (by unfold dayIns; rw [if_neg (fun h => HI.out.1 (eqB_iff.1 h))])
   have hbx := HB.out.below hbel hF
   have z2 := hbx.frozen 2
   clear hlt hk
   cases b with
   | true =>
    have HS : Hid (insD dayLt x D = (insP dayLt x D).1) := Lib.hid (by unfold insD; rw [if_pos HI.out.2.1])
    have HW : Hid (W.grownBy (wr.setCell ⟨F, 2, none⟩ (.slice ad2 M cap2)) (some F) ∧ ∃ ad' cap', BoxN (wr.setCell ⟨F, 2, none⟩ (.slice ad2 M cap2)) F 76 [vN, vC, .slice ad' (dayIns D x).length cap', b3] ∧ RdDy (wr.setCell ⟨F, 2, none⟩ (.slice ad2 M cap2)) (dayIns D x) (.slice ad' (dayIns D x).length cap')) := Lib.hid (by
     refine ⟨grown_set hbel, ad2, cap2, ?_, ?_⟩
     ·rw [HD.out, HS.out, ← HI.out.2.2]; exact hbx.set 2 _
     ·rw [HD.out, HS.out, ← HI.out.2.2]
      have h2 := hown
      rw [HI.out.2.2] at h2
      have h3 := RdDy.own_far (F := F) (j := 2) (u := .slice ad2 M cap2) h2 hF
      rw [← HI.out.2.2] at h3
      exact h3)
    clear hown hbel hbx
    go_wp2
    go_end0
    exact ⟨rfl, HW.out.1, HW.out.2⟩
   | false =>
    have HS : Hid (insD dayLt x D = (insP dayLt x D).1 ++ [x]) := Lib.hid (by unfold insD; rw [if_neg (by rw [HI.out.2.1]; simp)])
    have hlt1 := hown.lt
    go_wp2_with (at_builtin; refine wpList_append_own _ rfl _ _ 26 rfl W.heap.size 3 i0 (.int .i64 0) 1 8 ul_dys hi hz0 hz1 hz2 rfl (by decide) _ _ _ rfl (hown.alloc _) ⟨wr.heap.size, 0, none⟩ 1 1 [.int .i64 x] rfl rfl (cell_one_new _ _ _) (int_oneCell _ _) ?d1 ?d2 ?d3 ?_)
    case d1 => unfold maxLen; omega
    case d2 => omega
    case d3 => simp; omega
    intro vw2 w2 hown2 hgrow _
    have hbel2 : Below W.heap.size W w2 := (hbel.alloc hbel.size _).grown hgrow (by simp; have := hbel.size; omega) (fun k hk => (hlt1 k hk).1)
    obtain ⟨adw2, capw2, rfl, _⟩ := Sl.of_owns hown2
    clear hgrow hlt1
    have hbx2 := HB.out.below hbel2 hF
    have z3 := hbx2.frozen 2
    have hF2 := hbel2.size
    have c3 : w2.cell? ⟨F, 2, none⟩ = some _ := hbx2.cell rfl
    have HW : Hid (W.grownBy (w2.setCell ⟨F, 2, none⟩ (.slice adw2 (M + 1) capw2)) (some F) ∧ ∃ ad' cap', BoxN (w2.setCell ⟨F, 2, none⟩ (.slice adw2 (M + 1) capw2)) F 76 [vN, vC, .slice ad' (dayIns D x).length cap', b3] ∧ RdDy (w2.setCell ⟨F, 2, none⟩ (.slice adw2 (M + 1) capw2)) (dayIns D x) (.slice ad' (dayIns D x).length cap')) := Lib.hid (by
     have hl : (insD dayLt x D).length = M + 1 := by rw [HS.out, List.length_append, ← HI.out.2.2]; rfl
     refine ⟨grown_set hbel2, adw2, capw2, ?_, ?_⟩
     ·rw [HD.out, hl]; exact hbx2.set 2 _
     ·rw [HD.out, hl]
      have h2 : w2.ownsRow W.heap.size 3 1 (.slice adw2 (M + 1) capw2) (insD dayLt x D).length ((insD dayLt x D).flatMap dyCells) := by
       rw [hl, HS.out, List.flatMap_append]; simpa [dyCells] using hown2
      exact RdDy.own_far (F := F) (j := 2) (u := .slice adw2 (M + 1) capw2) h2 hF)
    clear hown hown2 hbel hbel2 hbx hbx2
    go_wp2
    go_end0
    exact ⟨rfl, HW.out.1, HW.out.2⟩
end Go.Proofs.YtkonookacfmfgaaGreatDoor

namespace Go.Proofs.YtkonookacfmfgaaGreatDoor
open Go.RowKit
theorem ul_chs : Tryz.prog.underlying 38 = some (.slice 80) := by kernel_rfl
theorem info_ch : (Tryz.prog.info? 80).map (fun i => (i.zero, i.size, i.bytes)) = some (some (.agg #[.string ⟨#[]⟩, .string ⟨#[]⟩, .int .i64 0, .bool false]), 4, 48) := by kernel_rfl
def cxCells (x : ChP) : List Value := [.string x.1, .string x.2.1, .int .i64 x.2.2, .bool false]
theorem cx_oneCells (x : ChP) : ∀ u ∈ cxCells x, u.oneCell' = true := by intro u hu; simp [cxCells] at hu; rcases hu with rfl | rfl | rfl | rfl <;> rfl
theorem cell_four_at (w : World) (u v s z : Value) (t : TypeId) : ∀ j x, [u, v, s, z][j]? = some x → (w.alloc (.cells #[u, v, s, z] t)).cell? ((⟨w.heap.size, 0, none⟩ : Addr).add j) = some x := by
 intro j x hj
 match j, hj with
 | 0, h => cases h; simp [Addr.add]
 | 1, h => cases h; simp [Addr.add]
 | 2, h => cases h; simp [Addr.add]
 | 3, h => cases h; simp [Addr.add]
abbrev CRow (base Bo : Nat) (L : List ChP) (W : World) : Prop := RowAt cxCells 38 80 4 base Bo L W
set_option maxHeartbeats 4000000 in
set_option maxRecDepth 100000 in
theorem dead_any (w0 : World) (D Bo : Nat) (L0 : List ChP) (p n : ByteArray) (ds : List Int) (v : Value) (W : World) (hBo : w0.heap.size ≤ Bo) (hBD : Bo < D) (hbd : (L0 ++ ds.map fun d => (p, n, d)).length ≤ 1210000000000)
  (hR : CRow w0.heap.size Bo L0 W) (hbW : Below w0.heap.size w0 W) (hdv : DaysAt w0.heap.size D Bo W ds v) :
  Calls Tryz.prog 30 #[.string p, .string n, v, .pointer (some ⟨Bo, 0, none⟩)] W fun e W' => e = .returned (.tuple #[]) ∧ CRow w0.heap.size Bo (L0 ++ ds.map fun d => (p, n, d)) W' ∧ KeptO w0.heap.size D Bo W W' := by
 obtain ⟨i0, hi, hz0, hz1, hz2⟩ := info_parts info_ch
 obtain ⟨adv, capv, rfl⟩ := hdv.1.len
 have hlb : L0.length + ds.length ≤ 1210000000000 := by rwa [List.length_append, List.length_map] at hbd
 have HP := Lib.hid hdv
 have hR0 : Hid (CRow w0.heap.size Bo (L0 ++ (ds.take 0).map fun d => (p, n, d)) W) := Lib.hid (by
  rw [List.take_zero, List.map_nil, List.append_nil]; exact hR)
 clear hR hdv
 go_enter Tryz.func30, Tryz.ntmps30
 go_wp2_with fail
 go_loopw [11] (fun i wr => ∃ k : Nat, k ≤ ds.length ∧ i = .int .i64 (k : Int) ∧ Hid (CRow w0.heap.size Bo (L0 ++ (ds.take k).map fun d => (p, n, d)) wr) ∧ KeptO w0.heap.size D Bo W wr) (fun i _ => ds.length - (intOf i).toNat)
 case atStart => exact ⟨0, Nat.zero_le _, rfl, hR0, KeptO.refl _⟩
 case round =>
  clear hR0
  obtain ⟨k, hk, rfl, HRr, hkr⟩ := hrel
  by_cases hlt : k < ds.length
  ·obtain ⟨d, hdk⟩ : ∃ d, ds[k]? = some d := ⟨_, List.getElem?_eq_getElem hlt⟩
   obtain ⟨ad', cap', he, _, hrd⟩ := (HP.out.kept hkr).1
   obtain ⟨rfl, _, rfl⟩ := Value.slice.inj he
   obtain ⟨b, off, rfl, hcd⟩ := hrd k d hdk
   have hbl : b < wr.heap.size := World.block_lt_of_cell? wr _ hcd
   obtain ⟨v, hbv, hown⟩ := HRr.out
   obtain ⟨LK, hLK⟩ : ∃ LK, (L0 ++ (ds.take k).map fun d => (p, n, d)) = LK := ⟨_, rfl⟩
   have HLK : Hid ((L0 ++ (ds.take (k + 1)).map fun d => (p, n, d)) = LK ++ [(p, n, d)]) := Lib.hid (by rw [take_snoc_get hdk, ← hLK]; simp)
   have HLl : Hid (LK.length = L0.length + k) := Lib.hid (by rw [← hLK]; simp; omega)
   rw [hLK] at hown
   have hcv := hbv.cell
   have hbz := (hbW.trans hkr.below).size
   have hk1 : (0 : Int) ≤ (k : Int) := by omega
   have hk2 : (k : Int) < (ds.length : Int) := by omega
   have hlBo := hbv.lt
   clear hLK hrd hdk he
   go_wp2_with (at_builtin; refine wpList_append_at _ rfl _ _ 38 rfl w0.heap.size 80 i0 (.agg #[.string ⟨#[]⟩, .string ⟨#[]⟩, .int .i64 0, .bool false]) 4 48 ul_chs hi hz0 hz1 hz2 rfl (by decide) _ _ _ rfl (hown.alloc _) ⟨wr.heap.size, 0, none⟩ 1 1 [.string p, .string n, .int .i64 d, .bool false] rfl rfl (cell_four_at _ _ _ _ _ _) (cx_oneCells (p, n, d)) ?d1 ?d2 ?d3 ?_)
   case d1 => have := HLl.out; unfold maxLen; omega
   case d2 => have := HLl.out; omega
   case d3 => first | omega | (simp; omega)
   intro v' w' hown' hgrow hloc
   obtain ⟨g', cap', rfl⟩ := ownsRow_succ hown'
   obtain ⟨hb1, hb2, hr2, hk3⟩ := RowAt.step (D := D) hbv (by decide) hown hbz hBo hBD hown' hgrow hloc
   have HN : Hid (CRow w0.heap.size Bo (L0 ++ (ds.take (k + 1)).map fun d => (p, n, d)) (w'.setCell ⟨Bo, 0, none⟩ (.slice (some ⟨g', 0, none⟩) (LK.length + 1) cap'))) := Lib.hid (by
    refine ⟨_, hb2, ?_⟩
    rw [HLK.out, List.length_append, List.flatMap_append]
    exact hr2)
   have hk5 := hkr.trans hk3
   have hc5 := hb1.cell
   have hf5 := hb1.frozen
   clear hb2 hr2 hk3 hown hgrow hown' hloc hkr hcd
   go_wp2_with fail
   go_roundw
   case rel => exact ⟨k + 1, by omega, by go_num, HN, hk5⟩
   case measure => simp [intOf]; omega
  ·obtain rfl : k = ds.length := by omega
   have HN : Hid (CRow w0.heap.size Bo (L0 ++ ds.map fun d => (p, n, d)) wr) := Lib.hid (by
    have h := HRr.out
    rwa [List.take_length] at h)
   have HKK := Lib.hid hkr
   go_wp2
   go_end0
   exact ⟨rfl, HN.out, HKK.out⟩
end Go.Proofs.YtkonookacfmfgaaGreatDoor
