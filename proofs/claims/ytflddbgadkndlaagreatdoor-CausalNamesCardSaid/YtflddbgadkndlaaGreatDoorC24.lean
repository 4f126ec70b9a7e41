/-
  causal.visit: the parts of a valid contract are noted, in the order of the text. causal.few; causal.Needs. causal.Needs. causal.Causal's visitor; causal.Causal. The closure of causal.Days. slices.Compact at days (printed by tools/gencmp.py I).
-/
import Derived.Test.YtflddbgadkndlaaGreatDoorC16
import Derived.Test.YtflddbgadkndlaaGreatDoorC23
import Derived.Test.YtflddbgadkndlaaGreatDoorC14
import Derived.Test.YtflddbgadkndlaaGreatDoorC15
import Derived.Test.YtflddbgadkndlaaGreatDoorC07
import Derived.Laws.EntriesVeiled
import Derived.Test.YtflddbgadkndlaaGreatDoorC13
import Derived.Test.YtflddbgadkndlaaGreatDoorC06
import Derived.Laws.StructEq
import Derived.IntWalk
namespace Go.Proofs.YtflddbgadkndlaaGreatDoor
open Go.RowKit

theorem nodeOk_rising {c : Con} (h : nodeOk c = true) : c.ds.Pairwise (· < ·) := by
  have key : isDays c.ds = true ∨ c.ds.length = 0 := by
    unfold nodeOk at h
    simp only [] at h
    repeat' split at h
    all_goals simp only [Bool.and_eq_true, decide_eq_true_eq, Bool.false_eq_true] at h
    all_goals simp [h]
  rcases key with h | h
  · unfold isDays at h
    simp only [Bool.and_eq_true, decide_eq_true_eq] at h
    exact h.2.2.2
  · rw [List.eq_nil_of_length_eq_zero h]; exact List.Pairwise.nil
theorem Con.err_rising {c : Con} (h : c.err = 0) : c.rising := fun x hx => by
  unfold Con.err at h
  split at h
  · omega
  · split at h
    · next hf =>
      rw [Con.formed_nodes, List.all_eq_true] at hf
      exact nodeOk_rising (hf x hx)
    · omega

/-- The error of a visit. -/
noncomputable def visErr (c : Con) (day : Int) : Int := if c.err = 0 then (if isDay day = true then 0 else 2) else c.err
noncomputable def visEvs (c : Con) (day : Int) : List Ev := if visErr c day = 0 then c.evs [day] else []

set_option maxHeartbeats 4000000 in
set_option maxRecDepth 100000 in
theorem visit_any (w0 : World) (D Bo : Nat) (c : Con) (es dd ss : Value) (day : Int) (J : List Ev → World → Prop) (fe fc fp : Nat) (ce cc cp : Array Value) (hV : VisOk w0 D Bo (c.evs [day]) J fe fc fp ce cc cp)
    (W : World) (hB : c.bulk ≤ 2000000) (hr : RdN w0 c es dd ss) (hS : LookS w0) (hP : LookP w0) (hbW : Below w0.heap.size w0 W) (hDW : D ≤ W.heap.size) (hJ : J [] W) :
    Calls Tryz.prog 35 #[c.val es dd ss, .int .i64 day, .agg #[.func (.func fe) #[] ce, .func (.func fc) #[] cc, .func (.func fp) #[] cp]] W fun e W' =>
      e = .returned (.int .i64 (visErr c day)) ∧ J (visEvs c day) W' ∧ KeptO w0.heap.size D Bo W W' := by
  obtain ⟨ad, cap, rfl⟩ := hr.2.2.1.len
  obtain ⟨ad1, cap1, rfl⟩ := hr.1.len
  obtain ⟨ad2, cap2, rfl⟩ := hr.2.1.len
  have hbo := hV.box _ _ hJ
  have hob := hV.own _ _ hJ
  have hb2 := below_a2 W (.cells #[.int .u8 c.k, .string c.fr, .string c.rc, .string c.nm, .int .u8 c.ex.k, .string c.ex.ra, .string c.ex.nm, .int .i64 c.ex.d, .slice ad1 c.ex.sub.length cap1, .int .i64 c.d, .slice ad2 c.ds.length cap2, .slice ad c.sub.length cap] 29) (.cells #[.func (.func fe) #[] ce, .func (.func fc) #[] cc, .func (.func fp) #[] cp] 80)
  have hw2 := hbW.trans (hb2.mono hbW.size)
  have HCk := Lib.hid (cchk_any c _ _ _ _ hB (hr.frame hw2) (hS.frame hw2) (hP.frame hw2))
  have HBX := (CBox.new W c (.slice ad1 c.ex.sub.length cap1) (.slice ad2 c.ds.length cap2) (.slice ad c.sub.length cap) 29).low (below_a1 _ (.cells #[.func (.func fe) #[] ce, .func (.func fc) #[] cc, .func (.func fp) #[] cp] 80))
  have HRi := Lib.hid (@Con.err_rising c)
  have HR := Lib.hid hr
  unfold Con.val at HCk ⊢
  go_enter Tryz.func35, Tryz.ntmps35
  go_wp2_with fail
  refine HCk.out.mono ?_
  rintro e W1 ⟨rfl, hb1⟩
  have hz1 := hb1.size
  simp only [World.size_alloc] at hz1
  have hbA : Below W.heap.size W W1 := hb2.trans (hb1.mono (by simp; omega))
  have hJ1 := hV.frame _ _ _ hJ hbA
  have hk1 : KeptO w0.heap.size D Bo W W1 := KeptO.of_below hbW.size hbo hbA
  have hbw1 := hbW.trans hk1.below
  obtain ⟨c0, c1, c2, c3, c4, c5, c6, c7, c8, c9, c10, c11⟩ := HBX.low hb1
  have hpv1 : Prv D Bo W1 (W.heap.size + 1) := by
    have h1 := Prv.new (D := D) (W := W.alloc (.cells #[.int .u8 c.k, .string c.fr, .string c.rc, .string c.nm, .int .u8 c.ex.k, .string c.ex.ra, .string c.ex.nm, .int .i64 c.ex.d, .slice ad1 c.ex.sub.length cap1, .int .i64 c.d, .slice ad2 c.ds.length cap2, .slice ad c.sub.length cap] 29)) (by rw [World.size_alloc]; omega) (by rw [World.size_alloc]; omega) (fun b hb => hV.own _ _ (hV.frame _ _ _ hJ (below_a1 _ _)) b hb) (.cells #[.func (.func fe) #[] ce, .func (.func fc) #[] cc, .func (.func fp) #[] cp] 80)
    rw [World.size_alloc] at h1
    exact h1.low (hV.box _ _ (hV.frame _ _ _ hJ hb2)) hb1
  have v0 : W1.cell? ⟨W.heap.size + 1, 0, none⟩ = some (.func (.func fe) #[] ce) := by rw [hb1.cell (p := ⟨W.heap.size + 1, 0, none⟩) (by simp)]; go_simp
  have v1 : W1.cell? ⟨W.heap.size + 1, 1, none⟩ = some (.func (.func fc) #[] cc) := by rw [hb1.cell (p := ⟨W.heap.size + 1, 1, none⟩) (by simp)]; go_simp
  have v2 : W1.cell? ⟨W.heap.size + 1, 2, none⟩ = some (.func (.func fp) #[] cp) := by rw [hb1.cell (p := ⟨W.heap.size + 1, 2, none⟩) (by simp)]; go_simp
  clear HCk hb1 hb2 hw2 HBX
  by_cases hE : c.err = 0
  · by_cases hd : isDay day = true
    · have HF : Hid (visErr c day = 0 ∧ visEvs c day = c.evs [day]) := Lib.hid (by
        have h : visErr c day = 0 := by unfold visErr; rw [if_pos hE, if_pos hd]
        exact ⟨h, by unfold visEvs; rw [if_pos h]⟩)
      have hri := HRi.out hE
      have hd1 : 0 ≤ day := by have h := hd; unfold isDay at h; simp at h; exact h.1
      have hd2 : day ≤ 99999 := by have h := hd; unfold isDay at h; simp at h; exact h.2
      have t1 : decide (day < 0) = false := by rw [decide_eq_false_iff_not]; omega
      have t2 : decide ((99999 : Int) < day) = false := by rw [decide_eq_false_iff_not]; omega
      have hbo1 := hV.box _ _ hJ1
      have hob1 := hV.own _ _ hJ1
      have hD1 : D ≤ W1.heap.size := by omega
      have ha1 := below_a1 W1 (.cells #[.func (.func 64) #[] #[.pointer (some ⟨W.heap.size + 1, 0, none⟩), .pointer (some ⟨W1.heap.size, 0, none⟩)]] 119)
      have ha2 := below_a1 (W1.alloc (.cells #[.func (.func 64) #[] #[.pointer (some ⟨W.heap.size + 1, 0, none⟩), .pointer (some ⟨W1.heap.size, 0, none⟩)]] 119)) (.cells #[.int .i64 day] 3)
      have ha3 := below_a2 W1 (.cells #[.func (.func 64) #[] #[.pointer (some ⟨W.heap.size + 1, 0, none⟩), .pointer (some ⟨W1.heap.size, 0, none⟩)]] 119) (.cells #[.int .i64 day] 3)
      have hJ2 := hV.frame _ _ _ hJ1 ha1
      have hJ3 := hV.frame _ _ _ hJ1 ha3
      have hk3 : KeptO w0.heap.size D Bo W1 ((W1.alloc (.cells #[.func (.func 64) #[] #[.pointer (some ⟨W.heap.size + 1, 0, none⟩), .pointer (some ⟨W1.heap.size, 0, none⟩)]] 119)).alloc (.cells #[.int .i64 day] 3)) := KeptO.of_below hbw1.size hbo1 ha3
      have hpw2 := (Prv.new hD1 hbo1 hob1 (.cells #[.func (.func 64) #[] #[.pointer (some ⟨W.heap.size + 1, 0, none⟩), .pointer (some ⟨W1.heap.size, 0, none⟩)]] 119)).low (hV.box _ _ hJ2) ha2
      have hpd := Prv.new (D := D) (W := W1.alloc (.cells #[.func (.func 64) #[] #[.pointer (some ⟨W.heap.size + 1, 0, none⟩), .pointer (some ⟨W1.heap.size, 0, none⟩)]] 119)) (by rw [World.size_alloc]; omega) (hV.box _ _ hJ2) (hV.own _ _ hJ2) (.cells #[.int .i64 day] 3)
      rw [World.size_alloc] at hpd
      have hdv : DaysAt w0.heap.size D Bo ((W1.alloc (.cells #[.func (.func 64) #[] #[.pointer (some ⟨W.heap.size + 1, 0, none⟩), .pointer (some ⟨W1.heap.size, 0, none⟩)]] 119)).alloc (.cells #[.int .i64 day] 3)) [day] (.slice (some ⟨W1.heap.size + 1, 0, none⟩) 1 1) :=
        ⟨⟨_, _, rfl, Nat.le_refl _, fun j x hj => by
          cases j with
          | zero => cases hj; exact ⟨_, _, rfl, by go_simp⟩
          | succ j => simp at hj⟩, fun _ b hb => by cases hb; exact .inr hpd⟩
      have HW := Lib.hid (vwalk_any w0 D Bo (W.heap.size + 1) W1.heap.size (c.evs [day]) J fe fc fp ce cc cp hV c.bulk c _ _ _ [day] _ [] _ (Nat.le_refl _) hB hri (by simp) HR.out (hbw1.trans hk3.below) (Nat.le_trans hD1 ha3.size) hJ3 hdv (by simp) (hpv1.kept hk3) hpw2
        (hpv1.cell hk3 v0) (hpv1.cell hk3 v1) (hpv1.cell hk3 v2) (by go_simp))
      unfold Con.val at HW
      have HK3 := Lib.hid (hk1.trans hk3)
      have hlB : W.heap.size < W1.heap.size := by omega
      rw [hE]
      clear hri hd hJ1 hJ2 hJ3 hk3 hpw2 hpd hdv ha1 ha2 ha3 hpv1 v0 v1 v2 hE hob1 HR HRi
      go_wp2_with fail
      refine HW.out.mono ?_
      rintro e W3 ⟨rfl, hJ4, hk4⟩
      have HJ4 : Hid (J (c.evs [day]) W3) := Lib.hid (by simpa using hJ4)
      have HK4 := Lib.hid (HK3.out.trans hk4)
      clear hJ4 hk4 HW c0 c1 c2 c3 c4 c5 c6 c7 c8 c9 c10 c11
      go_wp2_with fail
      go_ret
      exact ⟨by rw [HF.out.1]; rfl, by rw [HF.out.2]; exact HJ4.out, HK4.out⟩
    · have HF : Hid (visErr c day = 2 ∧ visEvs c day = []) := Lib.hid (by
        have h : visErr c day = 2 := by unfold visErr; rw [if_pos hE, if_neg hd]
        exact ⟨h, by unfold visEvs; rw [h]; rfl⟩)
      have HD := Lib.hid hd
      rw [hE]
      clear hd v0 v1 v2 hE
      by_cases hd1 : day < 0
      · go_wp2_with fail
        go_ret
        exact ⟨by rw [HF.out.1]; rfl, by rw [HF.out.2]; exact hJ1, hk1⟩
      · have hd2 : (99999 : Int) < day := by
          have h := HD.out
          unfold isDay at h
          simp at h
          omega
        have t1 : decide (day < 0) = false := by rw [decide_eq_false_iff_not]; exact hd1
        go_wp2_with fail
        go_ret
        exact ⟨by rw [HF.out.1]; rfl, by rw [HF.out.2]; exact hJ1, hk1⟩
  · have HF : Hid (visErr c day = c.err ∧ visEvs c day = []) := Lib.hid (by
      have h : visErr c day = c.err := by unfold visErr; rw [if_neg hE]
      exact ⟨h, by unfold visEvs; rw [h, if_neg hE]⟩)
    have t1 : (c.err != 0) = true := by simpa using hE
    clear v0 v1 v2
    generalize c.err = E at *
    go_wp2_with fail
    go_ret
    exact ⟨by rw [HF.out.1]; rfl, by rw [HF.out.2]; exact hJ1, hk1⟩
end Go.Proofs.YtflddbgadkndlaaGreatDoor

namespace Go.Proofs.YtflddbgadkndlaaGreatDoor
open Go.RowKit

/-- The error behind few. -/
def fewErr (e : Int) (n : Nat) : Int := if e = 0 then (if 1000 < n then 4 else 0) else e
theorem fewErr_ok {e : Int} {n : Nat} (h : e = 0) (hn : n ≤ 1000) : fewErr e n = 0 := by unfold fewErr; rw [if_pos h, if_neg (by omega)]
theorem fewErr_many {e : Int} {n : Nat} (h : e = 0) (hn : ¬ n ≤ 1000) : fewErr e n = 4 := by unfold fewErr; rw [if_pos h, if_pos (by omega)]
theorem fewErr_err {e : Int} {n : Nat} (h : e ≠ 0) : fewErr e n = e := by unfold fewErr; rw [if_neg h]

/-- The list behind few. -/
def fewV (e : Int) (v : Value) (n : Nat) : Value := if fewErr e n = 0 then v else .slice none 0 0
theorem fewV_ok {e : Int} {v : Value} {n : Nat} (h : fewErr e n = 0) : fewV e v n = v := if_pos h
theorem fewV_err {e : Int} {v : Value} {n : Nat} (h : fewErr e n ≠ 0) : fewV e v n = .slice none 0 0 := if_neg h

set_option maxRecDepth 100000 in
theorem fewN_any (ad : Option Addr) (n cap : Nat) (e : Int) (w : World) : Calls Tryz.prog 36 #[.slice ad n cap, .int .i64 e] w fun r w' => r = .returned (.tuple #[fewV e (.slice ad n cap) n, .int .i64 (fewErr e n)]) ∧ w = w' := by
  by_cases he : e = 0
  · by_cases hn : n ≤ 1000
    · have HF := Lib.hid (fewErr_ok he hn)
      subst he
      have h1 : decide ((1000 : Int) < (n : Int)) = false := by rw [decide_eq_false_iff_not]; omega
      go_enter Tryz.func36, Tryz.ntmps36
      go_wp2
      go_ret2
      rw [fewV_ok HF.out, HF.out]
      exact ⟨rfl, rfl⟩
    · have HF := Lib.hid (fewErr_many he hn)
      subst he
      have h1 : decide ((1000 : Int) < (n : Int)) = true := by rw [decide_eq_true_eq]; omega
      go_enter Tryz.func36, Tryz.ntmps36
      go_wp2
      go_ret2
      rw [fewV_err (by rw [HF.out]; decide), HF.out]
      exact ⟨rfl, rfl⟩
  · have HF := Lib.hid (fewErr_err (n := n) he)
    have He := Lib.hid he
    go_enter Tryz.func36, Tryz.ntmps36
    go_wp2
    go_ret2
    rw [fewV_err (by rw [HF.out]; exact He.out), HF.out]
    exact ⟨rfl, rfl⟩
end Go.Proofs.YtflddbgadkndlaaGreatDoor

namespace Go.Proofs.YtflddbgadkndlaaGreatDoor
open Go.RowKit

/-- What Needs answers. -/
noncomputable def nErr (c : Con) (day : Int) : Int := fewErr (visErr c day) (uniq ndLt (evNs (visEvs c day))).length
noncomputable def nSet (c : Con) (day : Int) : List NdP := if nErr c day = 0 then uniq ndLt (evNs (visEvs c day)) else []

theorem visEvs_prefix (c : Con) (day : Int) : visEvs c day <+: c.evs [day] := by
  unfold visEvs
  split
  · exact List.prefix_refl _
  · exact List.nil_prefix
theorem ownsRow_shape {w : World} {base : Nat} {e : TypeId} {size : Nat} {v : Value} {n : Nat} {xs : List Value} (h : w.ownsRow base e size v n xs) : ∃ ad cap, v = .slice ad n cap := by
  rcases h.2 with ⟨rfl, rfl⟩ | ⟨g, cap, _, rfl, _⟩ <;> exact ⟨_, _, rfl⟩

set_option maxHeartbeats 4000000 in
set_option maxRecDepth 100000 in
theorem needs_any (c : Con) (es dd ss : Value) (day : Int) (W : World) (hB : c.bulk ≤ 2000000) (hr : RdN W c es dd ss) (hS : LookS W) (hP : LookP W) :
    Calls Tryz.prog 9 #[c.val es dd ss, .int .i64 day] W fun e W' => ∃ v, e = .returned (.tuple #[v, .int .i64 (nErr c day)]) ∧
      W'.ownsRow W.heap.size 58 2 v (nSet c day).length ((nSet c day).flatMap ndCells) ∧ Below W.heap.size W W' := by
  obtain ⟨ad, cap, rfl⟩ := hr.2.2.1.len
  obtain ⟨ad1, cap1, rfl⟩ := hr.1.len
  obtain ⟨ad2, cap2, rfl⟩ := hr.2.1.len
  have hV := needs_vis W (W.heap.size + 1 + 1) (W.heap.size + 1) c day hB (by omega) (by omega)
  have HVis := Lib.hid fun (W2 : World) => visit_any W (W.heap.size + 1 + 1) (W.heap.size + 1) c _ _ _ day _ _ _ _ _ _ _ hV W2 hB hr hS hP
  unfold Con.val at HVis ⊢
  clear hr hS hP hV
  go_enter Tryz.func9, Tryz.ntmps9
  go_wp2_with fail
  refine (silent_any _).mono ?_
  rintro e w1 ⟨rfl, hb1⟩
  have hz1 := hb1.size
  simp only [World.size_alloc] at hz1
  have hl0 : W.heap.size < w1.heap.size := by omega
  have hb2 := below_a2 W (.cells #[.int .u8 c.k, .string c.fr, .string c.rc, .string c.nm, .int .u8 c.ex.k, .string c.ex.ra, .string c.ex.nm, .int .i64 c.ex.d, .slice ad1 c.ex.sub.length cap1, .int .i64 c.d, .slice ad2 c.ds.length cap2, .slice ad c.sub.length cap] 29) (.cells #[.slice none 0 0] 32)
  obtain ⟨c0, c1, c2, c3, c4, c5, c6, c7, c8, c9, c10, c11⟩ := ((CBox.new W c (.slice ad1 c.ex.sub.length cap1) (.slice ad2 c.ds.length cap2) (.slice ad c.sub.length cap) 29).low (below_a1 _ (.cells #[.slice none 0 0] 32))).low hb1
  have hrow0 : NRow W.heap.size (W.heap.size + 1) [] ((W.alloc (.cells #[.int .u8 c.k, .string c.fr, .string c.rc, .string c.nm, .int .u8 c.ex.k, .string c.ex.ra, .string c.ex.nm, .int .i64 c.ex.d, .slice ad1 c.ex.sub.length cap1, .int .i64 c.d, .slice ad2 c.ds.length cap2, .slice ad c.sub.length cap] 29)).alloc (.cells #[.slice none 0 0] 32)) :=
    ⟨.slice none 0 0, by have := Boxed.new (W.alloc (.cells #[.int .u8 c.k, .string c.fr, .string c.rc, .string c.nm, .int .u8 c.ex.k, .string c.ex.ra, .string c.ex.nm, .int .i64 c.ex.d, .slice ad1 c.ex.sub.length cap1, .int .i64 c.d, .slice ad2 c.ds.length cap2, .slice ad c.sub.length cap] 29)) 32 (.slice none 0 0); rwa [World.size_alloc] at this, World.ownsRow_nil _ _ _ _⟩
  have hb3 := below_a1 w1 (.cells #[.func (.func 32) #[] #[.pointer (some ⟨W.heap.size + 1, 0, none⟩)], .func (.func 61) #[] #[], .func (.func 62) #[] #[]] 80)
  have hrow3 := (hrow0.frame hb1).frame hb3
  have hbA := (hb2.trans (hb1.mono (by simp; omega))).trans (hb3.mono (by omega))
  have HBA := Lib.hid hbA
  have HV := Lib.hid (HVis.out _ hbA (by rw [World.size_alloc]; omega) ⟨hrow3, by rw [World.size_alloc]; omega⟩)
  clear hb1 hb2 hb3 hrow0 hrow3 hbA hz1 HVis
  go_wp2_with fail
  refine HV.out.mono ?_
  rintro e w3 ⟨rfl, hJ, hk⟩
  obtain ⟨⟨v, hbv, hown⟩, hz3⟩ := hJ
  have hlen := (Con.found_len c day hB (visEvs_prefix c day)).1
  have hcv := hbv.cell
  have hbF : Below W.heap.size W w3 := HBA.out.trans hk.below
  have HC := Lib.hid fun (w4 : World) (hb : Below w3.drew.heap.size w3.drew w4) => (hb.cell (p := ⟨W.heap.size + 1, 0, none⟩) hbv.lt).trans hcv
  have HO := Lib.hid fun (w4 : World) (hb : Below w3.drew.heap.size w3.drew w4) => (ownsRow_below' (hown.drew) hb)
  have HZ := Lib.hid fun (w4 : World) (hb : Below w3.drew.heap.size w3.drew w4) => Nat.le_trans hz3 hb.size
  have HB := Lib.hid fun (w4 : World) (hb : Below w3.drew.heap.size w3.drew w4) => hbF.drew.trans (hb.mono hz3)
  have HL := Lib.hid hlen
  obtain ⟨LN, hLN⟩ : ∃ LN, evNs (visEvs c day) = LN := ⟨_, rfl⟩
  obtain ⟨ve, hve⟩ : ∃ ve, visErr c day = ve := ⟨_, rfl⟩
  have HE : Hid (nErr c day = fewErr ve (uniq ndLt LN).length ∧ nSet c day = if fewErr ve (uniq ndLt LN).length = 0 then uniq ndLt LN else []) := Lib.hid (by
    unfold nSet
    have : nErr c day = fewErr ve (uniq ndLt LN).length := by unfold nErr; rw [hLN, hve]
    rw [this, hLN]
    exact ⟨rfl, rfl⟩)
  rw [hLN] at HL HO
  rw [hve]
  clear hbv hown hk hz3 hlen hbF hLN hve HV HBA
  go_wp2_with fail
  go_region_with (first
    | (go_at_call 38; refine (ndOrder_any _).mono ?_; rintro e w4 ⟨rfl, hb4⟩; have hc4 := HC.out w4 hb4; have ho4 := HO.out w4 hb4)
    | (go_at_call 37; refine (uniqN_any W.heap.size LN _ _ ho4 HL.out (HZ.out _ hb4)).mono ?_; rintro e w5 ⟨v5, rfl, h5, hb5⟩; obtain ⟨adU, capU, rfl⟩ := ownsRow_shape h5)
    | (go_at_call 36; refine (fewN_any _ _ _ _ _).mono ?_; rintro e w6 ⟨rfl, rfl⟩))
  all_goals
    go_wp2
    go_ret2
    rw [HE.out.1, HE.out.2]
    refine ⟨_, rfl, ?_, (HB.out _ hb4).trans hb5⟩
    by_cases hf : fewErr ve (uniq ndLt LN).length = 0
    · rw [if_pos hf, fewV_ok hf]; exact h5
    · rw [if_neg hf, fewV_err hf]; exact World.ownsRow_nil _ _ _ _
end Go.Proofs.YtflddbgadkndlaaGreatDoor

namespace Go.Proofs.YtflddbgadkndlaaGreatDoor
open Go.RowKit

set_option maxHeartbeats 2000000 in
set_option maxRecDepth 100000 in
theorem latex_any (w0 : World) (D Bo : Nat) (b0 : Bool) (x : Ex) (s : Value) (ds : List Int) (v : Value) (W : World) (hBo : w0.heap.size ≤ Bo) (hBD : Bo < D) (hB : x.bulk ≤ 2000000)
    (hR : Boxed W Bo 4 (.bool b0)) (hbW : Below w0.heap.size w0 W) (hDW : D ≤ W.heap.size) (hs : RdE w0 x.sub s) (hdv : DaysAt w0.heap.size D Bo W ds v) :
    Calls Tryz.prog 47 #[x.val s, v, .pointer (some ⟨Bo, 0, none⟩)] W fun e W' => e = .returned (.tuple #[]) ∧ Boxed W' Bo 4 (.bool (b0 || x.nodes.any (xLate ds))) ∧ KeptO w0.heap.size D Bo W W' := by
  obtain ⟨ad, cap, rfl⟩ := hs.len
  obtain ⟨adv, capv, rfl⟩ := hdv.1.len
  have hbo := hR.lt
  have hb1 := below_a1 W (.cells #[.int .u8 x.k, .string x.ra, .string x.nm, .int .i64 x.d, .slice ad x.sub.length cap] 25)
  have hb2 := below_a2 W (.cells #[.int .u8 x.k, .string x.ra, .string x.nm, .int .i64 x.d, .slice ad x.sub.length cap] 25) (.cells #[.slice adv ds.length capv] 26)
  have hR1 := Boxed.low hR hb1
  have hR2 := Boxed.low hR hb2
  have hk2 : KeptO w0.heap.size D Bo W ((W.alloc (.cells #[.int .u8 x.k, .string x.ra, .string x.nm, .int .i64 x.d, .slice ad x.sub.length cap] 25)).alloc (.cells #[.slice adv ds.length capv] 26)) := KeptO.of_below hbW.size hbo hb2
  have hpd := Prv.new (D := D) (W := W.alloc (.cells #[.int .u8 x.k, .string x.ra, .string x.nm, .int .i64 x.d, .slice ad x.sub.length cap] 25)) (by rw [World.size_alloc]; omega) hR1.lt (fun b hb => absurd hb (notOwn_bool hR1 b)) (.cells #[.slice adv ds.length capv] 26)
  rw [World.size_alloc] at hpd
  have hcd : ((W.alloc (.cells #[.int .u8 x.k, .string x.ra, .string x.nm, .int .i64 x.d, .slice ad x.sub.length cap] 25)).alloc (.cells #[.slice adv ds.length capv] 26)).cell? ⟨W.heap.size + 1, 0, none⟩ = some (.slice adv ds.length capv) := by go_simp
  have hK0 : LKey w0 D Bo (W.heap.size + 1) b0 ds (.slice adv ds.length capv) [] ((W.alloc (.cells #[.int .u8 x.k, .string x.ra, .string x.nm, .int .i64 x.d, .slice ad x.sub.length cap] 25)).alloc (.cells #[.slice adv ds.length capv] 26)) := by
    refine ⟨?_, hcd, hpd, hdv.kept hk2⟩
    rw [List.any_nil, Bool.or_false]; exact hR2
  have hL : LeafOk w0 D Bo x.nodes (fun pre W' => LKey w0 D Bo (W.heap.size + 1) b0 ds (.slice adv ds.length capv) pre W' ∧ w0.heap.size ≤ W'.heap.size) 48 #[.pointer (some ⟨Bo, 0, none⟩), .pointer (some ⟨W.heap.size + 1, 0, none⟩)] :=
    { frame := fun pre W1 W2 h hb => ⟨h.1.frame h.2 hb, Nat.le_trans h.2 hb.size⟩
      own := fun pre W1 h b hb => absurd hb (notOwn_bool h.1.1 b)
      box := fun pre W1 h => h.1.1.lt
      ef := enters_of Tryz.func48 (by kernel_rfl) rfl
      call := fun pre y sy W1 h hbw hD hsy hp => by
        exact (latef_any w0 D Bo (W.heap.size + 1) b0 ds _ pre y sy W1 hBo hBD h.1 hbw hsy).mono fun e W2 ⟨he, h2, h3⟩ => ⟨he, ⟨h2, Nat.le_trans h.2 h3.below.size⟩, h3⟩ }
  have hLv := leaves_any w0 D Bo x.nodes _ 48 _ hL x.bulk x (.slice ad x.sub.length cap) [] _ (Nat.le_refl _) hB hs (hbW.trans hk2.below) (Nat.le_trans hDW hb2.size) ⟨hK0, Nat.le_trans hbW.size hb2.size⟩ (by simp)
  have HLv := Lib.hid hLv
  have HK := Lib.hid hk2
  unfold Ex.val at HLv ⊢
  clear hLv hL hK0 hcd hpd hk2 hR2 hR1 hR hdv hs
  go_enter Tryz.func47, Tryz.ntmps47
  go_wp2_with fail
  refine HLv.out.mono ?_
  rintro e W3 ⟨rfl, ⟨⟨h3, _⟩, _⟩, hk3⟩
  have HF : Hid (Boxed W3 Bo 4 (.bool (b0 || x.nodes.any (xLate ds))) ∧ KeptO w0.heap.size D Bo W W3) := Lib.hid ⟨by simpa using h3, HK.out.trans hk3⟩
  clear h3 hk3 HLv
  go_wp2_with fail
  go_end0
  exact ⟨rfl, HF.out.1, HF.out.2⟩


/-- The visitor of Causal. -/
theorem late_vis (w0 : World) (D Bo : Nat) (c : Con) (day : Int) (hBo : w0.heap.size ≤ Bo) (hBD : Bo < D) :
    VisOk w0 D Bo (c.evs [day]) (fun evs W => Boxed W Bo 4 (.bool (evLt evs)) ∧ w0.heap.size ≤ W.heap.size) 47 61 62 #[.pointer (some ⟨Bo, 0, none⟩)] #[] #[] where
  frame := fun pre W1 W2 h hb => ⟨Boxed.low h.1 hb, Nat.le_trans h.2 hb.size⟩
  own := fun pre W h b hb => absurd hb (notOwn_bool h.1 b)
  box := fun pre W h => h.1.lt
  ee := enters_of Tryz.func47 (by kernel_rfl) rfl
  ec := enters_of Tryz.func61 (by kernel_rfl) rfl
  ep := enters_of Tryz.func62 (by kernel_rfl) rfl
  expr := fun pre x s ds v W h hbW hDW hs hxb hdl hdv hp => by
    have e1 : evLt (pre ++ [.expr x ds]) = (evLt pre || x.nodes.any (xLate ds)) := by rw [evLt_append]; simp [evLt, evLate]
    rw [e1]
    exact (latex_any w0 D Bo (evLt pre) x s ds v W hBo hBD hxb h.1 hbW hDW hs hdv).mono fun e W' ⟨he, h1, h2⟩ => ⟨he, ⟨h1, Nat.le_trans h.2 h2.below.size⟩, h2⟩
  choice := fun pre p n ds v W h hbW hDW hdl hdv hp => by
    have e1 : evLt (pre ++ [.choice p n ds]) = evLt pre := by rw [evLt_append]; simp [evLt, evLate]
    rw [e1]
    exact (silent2_any p n v W).mono fun e W' ⟨he, hw⟩ => ⟨he, hw ▸ h, hw ▸ KeptO.refl W⟩
  pay := fun pre ds v W h hbW hDW hdl hdv hp => by
    have e1 : evLt (pre ++ [.pay ds]) = evLt pre := by rw [evLt_append]; simp [evLt, evLate]
    rw [e1]
    exact (silent3_any v W).mono fun e W' ⟨he, hw⟩ => ⟨he, hw ▸ h, hw ▸ KeptO.refl W⟩

/-- What Causal answers. -/
noncomputable def causErr (c : Con) (day : Int) : Int := if visErr c day = 0 then (if evLt (visEvs c day) = true then 34 else 0) else visErr c day

set_option maxHeartbeats 4000000 in
set_option maxRecDepth 100000 in
theorem causal_any (c : Con) (es dd ss : Value) (day : Int) (W : World) (hB : c.bulk ≤ 2000000) (hr : RdN W c es dd ss) (hS : LookS W) (hP : LookP W) :
    Calls Tryz.prog 18 #[c.val es dd ss, .int .i64 day] W fun e W' => e = .returned (.int .i64 (causErr c day)) ∧ Below W.heap.size W W' := by
  obtain ⟨ad, cap, rfl⟩ := hr.2.2.1.len
  obtain ⟨ad1, cap1, rfl⟩ := hr.1.len
  obtain ⟨ad2, cap2, rfl⟩ := hr.2.1.len
  have hV := late_vis W (W.heap.size + 1 + 1) (W.heap.size + 1) c day (by omega) (by omega)
  have HVis := Lib.hid fun (W2 : World) => visit_any W (W.heap.size + 1 + 1) (W.heap.size + 1) c _ _ _ day _ _ _ _ _ _ _ hV W2 hB hr hS hP
  unfold Con.val at HVis ⊢
  clear hr hS hP hV
  go_enter Tryz.func18, Tryz.ntmps18
  go_wp2_with fail
  refine (silent_any _).mono ?_
  rintro e w1 ⟨rfl, hb1⟩
  have hz1 := hb1.size
  simp only [World.size_alloc] at hz1
  have hl0 : W.heap.size < w1.heap.size := by omega
  have hb2 := below_a2 W (.cells #[.int .u8 c.k, .string c.fr, .string c.rc, .string c.nm, .int .u8 c.ex.k, .string c.ex.ra, .string c.ex.nm, .int .i64 c.ex.d, .slice ad1 c.ex.sub.length cap1, .int .i64 c.d, .slice ad2 c.ds.length cap2, .slice ad c.sub.length cap] 29) (.cells #[.bool false] 4)
  obtain ⟨c0, c1, c2, c3, c4, c5, c6, c7, c8, c9, c10, c11⟩ := ((CBox.new W c (.slice ad1 c.ex.sub.length cap1) (.slice ad2 c.ds.length cap2) (.slice ad c.sub.length cap) 29).low (below_a1 _ (.cells #[.bool false] 4))).low hb1
  have hrow0 : Boxed ((W.alloc (.cells #[.int .u8 c.k, .string c.fr, .string c.rc, .string c.nm, .int .u8 c.ex.k, .string c.ex.ra, .string c.ex.nm, .int .i64 c.ex.d, .slice ad1 c.ex.sub.length cap1, .int .i64 c.d, .slice ad2 c.ds.length cap2, .slice ad c.sub.length cap] 29)).alloc (.cells #[.bool false] 4)) (W.heap.size + 1) 4 (.bool (evLt [])) := by
    have := Boxed.new (W.alloc (.cells #[.int .u8 c.k, .string c.fr, .string c.rc, .string c.nm, .int .u8 c.ex.k, .string c.ex.ra, .string c.ex.nm, .int .i64 c.ex.d, .slice ad1 c.ex.sub.length cap1, .int .i64 c.d, .slice ad2 c.ds.length cap2, .slice ad c.sub.length cap] 29)) 4 (.bool false)
    rwa [World.size_alloc] at this
  have hb3 := below_a1 w1 (.cells #[.func (.func 47) #[] #[.pointer (some ⟨W.heap.size + 1, 0, none⟩)], .func (.func 61) #[] #[], .func (.func 62) #[] #[]] 80)
  have hrow3 := Boxed.low (Boxed.low hrow0 hb1) hb3
  have hbA := (hb2.trans (hb1.mono (by simp; omega))).trans (hb3.mono (by omega))
  have HBA := Lib.hid hbA
  have HV := Lib.hid (HVis.out _ hbA (by rw [World.size_alloc]; omega) ⟨hrow3, by rw [World.size_alloc]; omega⟩)
  clear hb1 hb2 hb3 hrow0 hrow3 hbA hz1 HVis
  go_wp2_with fail
  refine HV.out.mono ?_
  rintro e w3 ⟨rfl, hJ, hk⟩
  obtain ⟨hbv, _⟩ := hJ
  have hcv := hbv.cell
  have HBF := Lib.hid (HBA.out.trans hk.below)
  obtain ⟨ve, hve⟩ : ∃ ve, visErr c day = ve := ⟨_, rfl⟩
  obtain ⟨lt, hlt⟩ : ∃ lt, evLt (visEvs c day) = lt := ⟨_, rfl⟩
  have HE : Hid (causErr c day = if ve = 0 then (if lt = true then 34 else 0) else ve) := Lib.hid (by unfold causErr; rw [hve, hlt])
  rw [hlt] at hcv
  rw [hve]
  clear hbv hk HV HBA hve hlt
  by_cases hE : ve = 0
  · subst hE
    cases lt with
    | true =>
      go_wp2
      go_ret
      exact ⟨ret_int' HE.out.symm, HBF.out⟩
    | false =>
      go_wp2
      go_ret
      exact ⟨ret_int' HE.out.symm, HBF.out⟩
  · have HN : Hid (causErr c day = ve) := Lib.hid (by rw [HE.out, if_neg hE])
    clear HE
    go_wp2
    go_ret
    exact ⟨ret_int' HN.out.symm, HBF.out⟩
end Go.Proofs.YtflddbgadkndlaaGreatDoor

namespace Go.Proofs.YtflddbgadkndlaaGreatDoor
open Go.RowKit

theorem ul_dys : Tryz.prog.underlying 26 = some (.slice 3) := by kernel_rfl
theorem info_dy : (Tryz.prog.info? 3).map (fun i => (i.zero, i.size, i.bytes)) = some (some (.int .i64 0), 1, 8) := by kernel_rfl
def dyCells (x : Int) : List Value := [.int .i64 x]
theorem dy_flat (L : List Int) : L.flatMap dyCells = L.map (Value.int .i64) := by
  induction L with
  | nil => rfl
  | cons x l ih => rw [List.flatMap_cons, List.map_cons, ih]; rfl
abbrev DRow (base Bo : Nat) (L : List Int) (W : World) : Prop := RowAt dyCells 26 3 1 base Bo L W

/-- Behind an append without a block of its own, and the store. -/
theorem RowAt.step0 {t e : TypeId} {size base D Bo : Nat} {W w1 : World} {v v' : Value} {k m : Nat} {xs ys : List Value} (hv : Boxed W Bo t v) (hte : t ≠ e) (hrow : W.ownsRow base e size v k xs) (hbase : base ≤ W.heap.size) (hB : base ≤ Bo) (hD : Bo < D)
    (hown' : w1.ownsRow base e size v' m ys) (hgrow : W.grownBy w1 v.ownBlock) (hloc : v'.ownBlock = v.ownBlock ∨ ∃ g, v'.ownBlock = some g ∧ W.heap.size ≤ g) :
    Boxed w1 Bo t v ∧ Boxed (w1.setCell ⟨Bo, 0, none⟩ v') Bo t v' ∧ (w1.setCell ⟨Bo, 0, none⟩ v').ownsRow base e size v' m ys ∧ KeptO base D Bo W (w1.setCell ⟨Bo, 0, none⟩ v') := by
  have hv1 : Boxed w1 Bo t v := hv.kept hgrow (hv.not_row hte hrow)
  have h2 := hv1.set v'
  refine ⟨hv1, h2, hown'.kept (grownBy_setCell' w1 Bo v') (.inr (hv1.not_row hte hown').symm), ?_, fun b hb hl ho => ?_⟩
  · exact ((Below.refl base W).grown hgrow hbase fun j ej => (hrow.lt j ej).1).setCell (p := ⟨Bo, 0, none⟩) hB v'
  · have hne : some b ≠ v.ownBlock := fun e => ho ⟨v, hv.cell, e.symm⟩
    refine ⟨?_, ?_⟩
    · rw [Below.heap_setCell _ _ _ _ (show b ≠ Bo by omega), hgrow.block b hl hne]
    · rintro ⟨u, hu, hub⟩
      rw [h2.cell] at hu
      cases hu
      rcases hloc with e | ⟨g, e, hg⟩
      · exact hne (by rw [← e, hub])
      · rw [e] at hub
        cases hub
        omega

set_option maxHeartbeats 4000000 in
set_option maxRecDepth 100000 in
theorem dayf_any (w0 : World) (D Bo : Nat) (L0 : List Int) (ds : List Int) (v : Value) (W : World) (hne : ds ≠ []) (hBo : w0.heap.size ≤ Bo) (hBD : Bo < D) (hbd : (L0 ++ ds).length ≤ 4000000000000)
    (hR : DRow w0.heap.size Bo L0 W) (hbW : Below w0.heap.size w0 W) (hdv : DaysAt w0.heap.size D Bo W ds v) :
    Calls Tryz.prog 44 #[v, .pointer (some ⟨Bo, 0, none⟩)] W fun e W' => e = .returned (.tuple #[]) ∧ DRow w0.heap.size Bo (L0 ++ ds) W' ∧ KeptO w0.heap.size D Bo W W' := by
  obtain ⟨i0, hi, hz0, hz1, hz2⟩ := info_parts info_dy
  obtain ⟨ad, capv, rfl, hcap, hrd⟩ := hdv.1
  have hlb : L0.length + ds.length ≤ 4000000000000 := by rwa [List.length_append] at hbd
  obtain ⟨b, off, rfl, _⟩ := hrd 0 _ (List.head?_eq_getElem? ▸ List.head?_eq_some_head hne)
  obtain ⟨u, hbv, hown⟩ := hR
  have hcv := hbv.cell
  have hfz := hbv.frozen
  have hnews : ∀ j u, (ds.flatMap dyCells)[j]? = some u → W.cell? ((⟨b, off, none⟩ : Addr).add j) = some u := by
    intro j u hj
    rw [dy_flat, List.getElem?_map] at hj
    cases hd : ds[j]? with
    | none => rw [hd] at hj; cases hj
    | some d =>
      rw [hd] at hj
      cases hj
      obtain ⟨b2, off2, e, hc⟩ := hrd j d hd
      cases e
      have ea : (⟨b, off, none⟩ : Addr).add j = ⟨b, off + j, none⟩ := by unfold Addr.add; split <;> simp_all
      rw [ea]; exact hc
  have hbz := hbW.size
  have hnl : (ds.flatMap dyCells).length = ds.length * 1 := by rw [dy_flat, List.length_map, Nat.mul_one]
  have h1c : ∀ u ∈ ds.flatMap dyCells, u.oneCell' = true := by intro u hu; rw [dy_flat, List.mem_map] at hu; obtain ⟨d, _, rfl⟩ := hu; rfl
  clear hrd hdv
  go_enter Tryz.func44, Tryz.ntmps44
  go_wp2_with (at_builtin; refine wpList_append_at _ rfl _ _ 26 rfl w0.heap.size 3 i0 (.int .i64 0) 1 8 ul_dys hi hz0 hz1 hz2 rfl (by decide) _ _ _ rfl hown ⟨b, off, none⟩ ds.length capv (ds.flatMap dyCells) rfl hnl hnews h1c ?d1 ?d2 ?d3 ?_)
  case d1 => unfold maxLen; omega
  case d2 => omega
  case d3 => omega
  intro v' w' hown' hgrow hloc
  obtain ⟨hb1, hb2, hr2, hk3⟩ := RowAt.step0 (D := D) hbv (by decide) hown hbz hBo hBD hown' hgrow hloc
  have HN : Hid (DRow w0.heap.size Bo (L0 ++ ds) (w'.setCell ⟨Bo, 0, none⟩ v') ∧ KeptO w0.heap.size D Bo W (w'.setCell ⟨Bo, 0, none⟩ v')) := Lib.hid (by
    refine ⟨⟨_, hb2, ?_⟩, hk3⟩
    rw [List.length_append, List.flatMap_append]
    exact hr2)
  have hc5 := hb1.cell
  have hf5 := hb1.frozen
  obtain ⟨a1, a2, rfl⟩ : ∃ a1 a2, v' = .slice a1 (L0.length + ds.length) a2 := by
    rcases hown'.2 with ⟨rfl, h⟩ | ⟨g, cap, _, rfl, _⟩
    · exact ⟨none, 0, by rw [h]⟩
    · exact ⟨_, _, rfl⟩
  clear hb2 hr2 hk3 hown hgrow hown' hloc
  go_wp2_with fail
  go_end0
  exact ⟨rfl, HN.out.1, HN.out.2⟩
end Go.Proofs.YtflddbgadkndlaaGreatDoor

namespace Go.Proofs.YtflddbgadkndlaaGreatDoor
open Go.RowKit

theorem dyCells_len (x : Int) : (dyCells x).length = 1 := rfl
theorem dyCells_zv : ∀ w, (zeroValue 3).run Tryz.prog w = .ok (.int .i64 0) w := fun w => by go_simp
/-- An element stored. -/
theorem dyCells_keep {L : List Int} {k : Nat} {x y z : Int} (h1 : 1 ≤ k) (hx : L[k - 1]? = some x) (hy : L[k]? = some y) (hne : y ≠ x) {kk : Nat} (hk : (cmpct (L.take k)).length = kk) (hz : L[kk]? = some z) :
    (((cRow L k).flatMap dyCells).set (kk) (.int .i64 y)) = (cRow L (k + 1)).flatMap dyCells ∧ (cmpct (L.take (k + 1))).length = kk + 1 := by
  subst hk
  obtain ⟨e1, e2⟩ := cRow_keep h1 hx hy hne hz
  refine ⟨?_, by rw [cmpct_new' h1 hx hy hne]; simp⟩
  rw [e1, e2]
  have s0 := set_flat (enc := dyCells) (m := 1) dyCells_len (cmpct (L.take k)) (L.drop ((cmpct (L.take k)).length + 1)) z y _ 0 (.int .i64 y) rfl (by decide) rfl
  simp only [Nat.add_zero, Nat.mul_one] at s0
  rw [s0]

set_option maxHeartbeats 8000000 in
set_option maxRecDepth 100000 in
theorem compactI_any (base : Nat) (L : List Int) (v : Value) (W : World) (hown : W.ownsRow base 3 1 v L.length (L.flatMap dyCells)) (hlen : L.length ≤ 4000000000000) :
    Calls Tryz.prog 79 #[v] W fun e W' => ∃ v', e = .returned v' ∧ W'.ownsRow base 3 1 v' (cmpct L).length ((cmpct L).flatMap dyCells) ∧ W.grownBy W' v.ownBlock := by
  by_cases hs : L.length < 2
  · have hc : cmpct L = L := by
      match L, hs with
      | [], _ => rfl
      | [a], _ => rfl
    rw [hc]
    have HO := Lib.hid hown
    obtain ⟨n, hn⟩ : ∃ n, L.length = n := ⟨_, rfl⟩
    obtain ⟨ad, cap, rfl⟩ : ∃ ad cap, v = .slice ad n cap := by
      rcases hown.2 with ⟨rfl, h⟩ | ⟨g, cap, cur, rfl, _⟩
      · exact ⟨none, 0, by rw [← hn, h]⟩
      · exact ⟨_, cap, by rw [hn]⟩
    rw [hn] at hs hlen
    clear hown hc
    go_enter Tryz.func79, Tryz.ntmps79
    go_wp2
    go_ret
    exact ⟨_, rfl, HO.out, World.grownBy.refl _ _⟩
  · obtain ⟨n, hn⟩ : ∃ n, L.length = n := ⟨_, rfl⟩
    have Hn := Lib.hid hn
    obtain ⟨g, cap, rfl, hcap⟩ : ∃ g cap, v = .slice (some ⟨g, 0, none⟩) n cap ∧ n ≤ cap ∧ cap ≤ maxLen := by
      rcases hown.2 with ⟨rfl, h⟩ | ⟨g, cap, cur, rfl, _, _, h1, h2, _⟩
      · omega
      · exact ⟨g, cap, by rw [hn], by omega, h2⟩
    rw [hn] at hs hlen hown
    have hR0 := RSt.start hown
    clear hown hn
    obtain ⟨hcap, hcm⟩ := hcap
    go_enter Tryz.func79, Tryz.ntmps79
    go_wp2
    go_loopw [3] (fun i wr => ∃ k : Nat, 1 ≤ k ∧ k ≤ n ∧ i = .int .i64 k ∧ Hid (cmpct (L.take k) = L.take k) ∧ RSt W wr 3 1 g base n cap (L.flatMap dyCells)) (fun i _ => n - (intOf i).toNat)
    case atStart => exact ⟨1, Nat.le_refl _, by omega, rfl, Lib.hid (cmpct_one L), hR0⟩
    case round =>
      clear hR0
      obtain ⟨k, hk1, hk, rfl, Hc, hR⟩ := hrel
      by_cases hlt : k < n
      · obtain ⟨x, hx⟩ : ∃ x, L[k - 1]? = some x := ⟨_, List.getElem?_eq_getElem (by rw [Hn.out]; omega)⟩
        obtain ⟨y, hy⟩ : ∃ y, L[k]? = some y := ⟨_, List.getElem?_eq_getElem (by rw [Hn.out]; omega)⟩
        have ⟨xd, hxd⟩ : ∃ xd, x = xd := ⟨_, rfl⟩
        have ⟨yd, hyd⟩ : ∃ yd, y = yd := ⟨_, rfl⟩
        rw [hxd] at hx
        rw [hyd] at hy
        clear hxd hyd
        have x0 : wr.cell? ⟨g, k - 1, none⟩ = some (.int .i64 xd) := by
          have h := hR.at (flat_at dyCells_len hx 0 _ rfl)
          simpa only [Nat.add_zero, Nat.mul_one] using h
        have y0 : wr.cell? ⟨g, k, none⟩ = some (.int .i64 yd) := by
          have h := hR.at (flat_at dyCells_len hy 0 _ rfl)
          simpa only [Nat.add_zero, Nat.mul_one] using h
        have e1 : IntKind.i64.wrap ((k : Int) - 1) = ((k - 1 : Nat) : Int) := by rw [IntWalk.i64_in _ (by omega)]; omega
        have hl1 : ((k - 1 : Nat) : Int) < (n : Int) := by omega
        have hl0 : (k : Int) < (n : Int) := by omega
        have HX := Lib.hid hx
        have HY := Lib.hid hy
        clear hx hy
        go_wp2_with fail
        by_cases t0 : yd = xd
        · go_quiet (fail)
          have HE : Hid (yd = xd) := Lib.hid (by rw [t0])
          have HY2 : Hid (L[k]? = some xd) := Lib.hid (by rw [← HE.out]; exact HY.out)
          have hR1 := hR.drewN nq
          generalize wr.drewN nq = w1 at hR1 ⊢
          clear x0 y0 hR t0 e1 hl1
          go_wp2
          go_loopw [3, 5] (fun s3 s5 wz => ∃ k2 kk : Nat, 1 ≤ k2 ∧ k + k2 ≤ n ∧ kk < k + k2 ∧ s3 = .int .i64 kk ∧ s5 = .int .i64 k2 ∧ Hid ((cmpct (L.take (k + k2))).length = kk) ∧ RSt W wz 3 1 g base n cap ((cRow L (k + k2)).flatMap dyCells)) (fun _ s5 _ => n - (intOf s5).toNat)
          case atStart =>
            have hh := cRow_half hk1 HX.out HY2.out Hc.out
            exact ⟨1, k, Nat.le_refl _, by omega, by omega, rfl, rfl, Lib.hid hh.2, by rw [hh.1]; exact hR1⟩
          case round =>
            clear hR1 hlt hl0
            obtain ⟨k2, kk, hk2, hkn, hkk, rfl, rfl, Hkk, hR⟩ := hrel
            by_cases hlt : k + k2 < n
            · obtain ⟨x, hx⟩ : ∃ x, L[k + k2 - 1]? = some x := ⟨_, List.getElem?_eq_getElem (by rw [Hn.out]; omega)⟩
              obtain ⟨y, hy⟩ : ∃ y, L[k + k2]? = some y := ⟨_, List.getElem?_eq_getElem (by rw [Hn.out]; omega)⟩
              obtain ⟨z, hz⟩ : ∃ z, L[kk]? = some z := ⟨_, List.getElem?_eq_getElem (by rw [Hn.out]; omega)⟩
              have ⟨ud, hxd⟩ : ∃ xd, x = xd := ⟨_, rfl⟩
              have ⟨vd, hyd⟩ : ∃ yd, y = yd := ⟨_, rfl⟩
              have ⟨od, hzd⟩ : ∃ yd, z = yd := ⟨_, rfl⟩
              rw [hxd] at hx
              rw [hyd] at hy
              rw [hzd] at hz
              clear hxd hyd hzd
              have hcx := (cRow_high (L := L) (m := k + k2) (j := k + k2 - 1) (by rw [Hkk.out]; omega)).trans hx
              have hcy := (cRow_high (L := L) (m := k + k2) (j := k + k2) (by rw [Hkk.out]; omega)).trans hy
              have hcz := (cRow_high (L := L) (m := k + k2) (j := kk) (by rw [Hkk.out]; omega)).trans hz
              have x0 : wr.cell? ⟨g, k + (k2 - 1), none⟩ = some (.int .i64 ud) := by
                rw [show k + (k2 - 1) = k + k2 - 1 by omega]
                have h := hR.at (flat_at dyCells_len hcx 0 _ rfl)
                simpa only [Nat.add_zero, Nat.mul_one] using h
              have y0 : wr.cell? ⟨g, k + k2, none⟩ = some (.int .i64 vd) := by
                have h := hR.at (flat_at dyCells_len hcy 0 _ rfl)
                simpa only [Nat.add_zero, Nat.mul_one] using h
              have z0 : wr.cell? ⟨g, kk, none⟩ = some (.int .i64 od) := by
                have h := hR.at (flat_at dyCells_len hcz 0 _ rfl)
                simpa only [Nat.add_zero, Nat.mul_one] using h
              have f0 := hR.ice (kk)
              have HX2 := Lib.hid hx
              have HZ2 := Lib.hid hz
              have HY3 := Lib.hid hy
              clear hx hy hz hcx hcy hcz
              have e1 : IntKind.i64.wrap ((k2 : Int) - 1) = ((k2 - 1 : Nat) : Int) := by rw [IntWalk.i64_in _ (by omega)]; omega
              have hl1 : ((k2 - 1 : Nat) : Int) < ((n - k : Nat) : Int) := by omega
              have hl0 : (k2 : Int) < ((n - k : Nat) : Int) := by omega
              go_wp2_with fail
              by_cases t0 : vd = ud
              · have HE : Hid (vd = ud) := Lib.hid (by rw [t0])
                have HY4 : Hid (L[k + k2]? = some ud) := Lib.hid (by rw [← HE.out]; exact HY3.out)
                have HS := Lib.hid (And.intro (cRow_skip (by omega) HX2.out HY4.out) (cmpct_same' (by omega) HX2.out HY4.out))
                have hR2 := Lib.hid fun q : Nat => hR.drewN q
                clear hR
                go_quiet (fail)
                go_wp2
                go_roundw
                case rel => exact ⟨k2 + 1, kk, by omega, by omega, by omega, rfl, by go_num, Lib.hid (by rw [← Nat.add_assoc, HS.out.2]; exact Hkk.out), by rw [← Nat.add_assoc, HS.out.1]; exact hR2.out nq⟩
                case measure => simp [intOf]; omega
              · have Hne : Hid (vd ≠ ud) := Lib.hid (fun e => t0 (e))
                have hst := dyCells_keep (by omega) HX2.out HY3.out Hne.out Hkk.out HZ2.out
                have hR2 := Lib.hid fun q : Nat => (hR.drewN q).set (kk) (.int .i64 vd)
                have HS := Lib.hid hst
                clear hst hR
                go_quiet (fail)
                go_wp2
                go_roundw
                case rel =>
                  refine ⟨k2 + 1, kk + 1, by omega, by omega, by omega, by go_num, by go_num, Lib.hid HS.out.2, ?_⟩
                  have := hR2.out nq
                  rwa [HS.out.1] at this
                case measure => simp [intOf]; omega
            · have hend : k + k2 = n := by omega
              obtain ⟨vs, hcl⟩ := run_clear_own hR ul_dys _ dyCells_zv rfl (by intro u hu; simp [Value.cells] at hu; rcases hu with rfl; rfl) kk (cap - kk) (by omega) 0
              obtain ⟨os', hR3, hos⟩ := hR.sets vs (kk * 1) (kk * 1) (Nat.le_refl _)
              have hfin := ownsRow_cut hR3.own kk (by omega)
              rw [hos] at hfin
              have hkl : (cmpct L).length = kk := by have := Hkk.out; rwa [hend, ← Hn.out, List.take_length] at this
              have hrow := cRow_end (enc := dyCells) (m := 1) dyCells_len L
              rw [Hn.out, ← hend, hkl] at hrow
              rw [hrow] at hfin
              have HF := Lib.hid (And.intro hfin hR3.gr)
              have Hkl := Lib.hid hkl
              clear hfin hrow hos hR3 hR hkl
              simp only [Nat.mul_one] at hcl HF
              go_wp2
              go_ret
              refine ⟨_, rfl, ?_, HF.out.2⟩
              rw [Hkl.out]
              exact HF.out.1
        · have Hne : Hid (yd ≠ xd) := Lib.hid (fun e => t0 (e))
          go_quiet (fail)
          go_wp2
          go_roundw
          case rel => exact ⟨k + 1, by omega, by omega, by go_num, Lib.hid (cmpct_full hk1 HX.out HY.out Hne.out Hc.out), hR.drewN _⟩
          case measure => simp [intOf]; omega
      · have hkn : k = n := by omega
        subst hkn
        have hf : Hid (cmpct L = L) := Lib.hid (by have := Hc.out; rwa [← Hn.out, List.take_length] at this)
        have HR := Lib.hid hR
        clear hR
        go_wp2
        go_ret
        refine ⟨_, rfl, ?_, HR.out.gr⟩
        rw [hf.out, Hn.out]
        exact HR.out.own
end Go.Proofs.YtflddbgadkndlaaGreatDoor
