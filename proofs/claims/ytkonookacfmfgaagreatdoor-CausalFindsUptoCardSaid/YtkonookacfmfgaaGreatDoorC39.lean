/-
  causal.visit: the parts of a valid contract are noted, in the order of the text. causal.few; causal.Needs. causal.Needs. causal.Deadlines. causal.unique at days. causal.Days. The closures of causal.Causal.
-/
import Derived.Test.YtkonookacfmfgaaGreatDoorC35
import Derived.Test.YtkonookacfmfgaaGreatDoorC38
import Derived.Test.YtkonookacfmfgaaGreatDoorC14
import Derived.Test.YtkonookacfmfgaaGreatDoorC34
import Derived.Test.YtkonookacfmfgaaGreatDoorC33
import Derived.Test.YtkonookacfmfgaaGreatDoorC11
import Derived.Test.YtkonookacfmfgaaGreatDoorC04
import Derived.Laws.EntriesVeiled
import Derived.Sort.OwnSortedInts
import Derived.BigRegion
namespace Go.Proofs.YtkonookacfmfgaaGreatDoor
open Go.RowKit
theorem nodeOk_rising {c : Con} (h : nodeOk c = true) : c.ds.Pairwise (· < ·) := by
 have key : isDays c.ds = true ∨ c.ds.length = 0 := by
  unfold nodeOk at h
  simp only [] at h
  repeat' split at h
  all_goals simp only [Bool.and_eq_true, decide_eq_true_eq, Bool.false_eq_true] at h
  all_goals simp [h]
 rcases key with h | h
 ·unfold isDays at h
  simp only [Bool.and_eq_true, decide_eq_true_eq] at h
  exact h.2.2.2
 ·rw [List.eq_nil_of_length_eq_zero h]; exact List.Pairwise.nil
theorem Con.err_rising {c : Con} (h : c.err = 0) : c.rising := fun x hx => by
 unfold Con.err at h
 split at h
 ·omega
 ·split at h
  ·next hf =>
   rw [Con.formed_nodes, List.all_eq_true] at hf
   exact nodeOk_rising (hf x hx)
  ·omega
noncomputable def visErr (c : Con) (day : Int) : Int := if c.err = 0 then (if isDay day = true then 0 else 2) else c.err
noncomputable def visEvs (c : Con) (day : Int) : List Ev := if visErr c day = 0 then c.evs [day] else []
set_option maxHeartbeats 4000000 in
set_option maxRecDepth 100000 in
theorem visit_any (w0 : World) (D Bo : Nat) (c : Con) (es dd ss : Value) (day : Int) (J : List Ev → World → Prop) (fe fc fp : Nat) (ce cc cp : Array Value) (hV : VisOk w0 D Bo (c.evs [day]) J fe fc fp ce cc cp)
  (W : World) (hB : c.bulk ≤ 2000000) (hr : RdN w0 c es dd ss) (hS : LookS w0) (hP : LookP w0) (hbW : Below w0.heap.size w0 W) (hDW : D ≤ W.heap.size) (hJ : J [] W) :
  Calls Tryz.prog 25 #[c.val es dd ss, .int .i64 day, .agg #[.func (.func fe) #[] ce, .func (.func fc) #[] cc, .func (.func fp) #[] cp]] W fun e W' =>
   e = .returned (.int .i64 (visErr c day)) ∧ J (visEvs c day) W' ∧ KeptO w0.heap.size D Bo W W' := by
 obtain ⟨ad, cap, rfl⟩ := hr.2.2.1.len
 obtain ⟨ad1, cap1, rfl⟩ := hr.1.len
 obtain ⟨ad2, cap2, rfl⟩ := hr.2.1.len
 have hbo := hV.box _ _ hJ
 have hob := hV.own _ _ hJ
 have hb2 := below_a2 W (.cells #[.int .u8 c.k, .string c.fr, .string c.rc, .string c.nm, .int .u8 c.ex.k, .string c.ex.ra, .string c.ex.nm, .int .i64 c.ex.d, .slice ad1 c.ex.sub.length cap1, .int .i64 c.d, .slice ad2 c.ds.length cap2, .slice ad c.sub.length cap] 29) (.cells #[.func (.func fe) #[] ce, .func (.func fc) #[] cc, .func (.func fp) #[] cp] 62)
 have hw2 := hbW.trans (hb2.mono hbW.size)
 have HCk := Lib.hid (cchk_any c _ _ _ _ hB (hr.frame hw2) (hS.frame hw2) (hP.frame hw2))
 have HBX := (CBox.new W c (.slice ad1 c.ex.sub.length cap1) (.slice ad2 c.ds.length cap2) (.slice ad c.sub.length cap) 29).low (below_a1 _ (.cells #[.func (.func fe) #[] ce, .func (.func fc) #[] cc, .func (.func fp) #[] cp] 62))
 have HRi := Lib.hid (@Con.err_rising c)
 have HR := Lib.hid hr
 unfold Con.val at HCk ⊢
 go_enter Tryz.func25, Tryz.ntmps25
 go_wp2_with fail
 refine HCk.out.mono ?_
 rintro e W1 ⟨rfl, hb1⟩
 have hz1 := hb1.size
 simp only [World.size_alloc] at hz1
 have hbA : Below W.heap.size W W1 := hb2.trans (hb1.mono (by simp; omega))
 have hJ1 := hV.frame _ _ _ hJ hbA
 have hk1 : KeptO w0.heap.size D Bo W W1 := KeptO.of_below hbW.size hbo hbA
 have hbw1 := hbW.trans hk1.below
 obtain ⟨c0, c1, c2, c3, c4, c5, c6, c7, c8, c9, c10, c11⟩ := HBX.low hb1
 have hpv1 : Prv D Bo W1 (W.heap.size + 1) := by
  have h1 := Prv.new (D := D) (W := W.alloc (.cells #[.int .u8 c.k, .string c.fr, .string c.rc, .string c.nm, .int .u8 c.ex.k, .string c.ex.ra, .string c.ex.nm, .int .i64 c.ex.d, .slice ad1 c.ex.sub.length cap1, .int .i64 c.d, .slice ad2 c.ds.length cap2, .slice ad c.sub.length cap] 29)) (by rw [World.size_alloc]; omega) (by rw [World.size_alloc]; omega) (fun b hb => hV.own _ _ (hV.frame _ _ _ hJ (below_a1 _ _)) b hb) (.cells #[.func (.func fe) #[] ce, .func (.func fc) #[] cc, .func (.func fp) #[] cp] 62)
  rw [World.size_alloc] at h1
  exact h1.low (hV.box _ _ (hV.frame _ _ _ hJ hb2)) hb1
 have v0 : W1.cell? ⟨W.heap.size + 1, 0, none⟩ = some (.func (.func fe) #[] ce) := by rw [hb1.cell (p := ⟨W.heap.size + 1, 0, none⟩) (by simp)]; go_simp
 have v1 : W1.cell? ⟨W.heap.size + 1, 1, none⟩ = some (.func (.func fc) #[] cc) := by rw [hb1.cell (p := ⟨W.heap.size + 1, 1, none⟩) (by simp)]; go_simp
 have v2 : W1.cell? ⟨W.heap.size + 1, 2, none⟩ = some (.func (.func fp) #[] cp) := by rw [hb1.cell (p := ⟨W.heap.size + 1, 2, none⟩) (by simp)]; go_simp
 clear HCk hb1 hb2 hw2 HBX
 by_cases hE : c.err = 0
 ·by_cases hd : isDay day = true
  ·have HF : Hid (visErr c day = 0 ∧ visEvs c day = c.evs [day]) := Lib.hid (by
    have h : visErr c day = 0 := by unfold visErr; rw [if_pos hE, if_pos hd]
    exact ⟨h, by unfold visEvs; rw [if_pos h]⟩)
   have hri := HRi.out hE
   have hd1 : 0 ≤ day := by have h := hd; unfold isDay at h; simp at h; exact h.1
   have hd2 : day ≤ 99999 := by have h := hd; unfold isDay at h; simp at h; exact h.2
   have t1 : decide (day < 0) = false := by rw [decide_eq_false_iff_not]; omega
   have t2 : decide ((99999 : Int) < day) = false := by rw [decide_eq_false_iff_not]; omega
   have hbo1 := hV.box _ _ hJ1
   have hob1 := hV.own _ _ hJ1
   have hD1 : D ≤ W1.heap.size := by omega
   have ha1 := below_a1 W1 (.cells #[.func (.func 47) #[] #[.pointer (some ⟨W.heap.size + 1, 0, none⟩), .pointer (some ⟨W1.heap.size, 0, none⟩)]] 96)
   have ha2 := below_a1 (W1.alloc (.cells #[.func (.func 47) #[] #[.pointer (some ⟨W.heap.size + 1, 0, none⟩), .pointer (some ⟨W1.heap.size, 0, none⟩)]] 96)) (.cells #[.int .i64 day] 3)
   have ha3 := below_a2 W1 (.cells #[.func (.func 47) #[] #[.pointer (some ⟨W.heap.size + 1, 0, none⟩), .pointer (some ⟨W1.heap.size, 0, none⟩)]] 96) (.cells #[.int .i64 day] 3)
   have hJ2 := hV.frame _ _ _ hJ1 ha1
   have hJ3 := hV.frame _ _ _ hJ1 ha3
   have hk3 : KeptO w0.heap.size D Bo W1 ((W1.alloc (.cells #[.func (.func 47) #[] #[.pointer (some ⟨W.heap.size + 1, 0, none⟩), .pointer (some ⟨W1.heap.size, 0, none⟩)]] 96)).alloc (.cells #[.int .i64 day] 3)) := KeptO.of_below hbw1.size hbo1 ha3
   have hpw2 := (Prv.new hD1 hbo1 hob1 (.cells #[.func (.func 47) #[] #[.pointer (some ⟨W.heap.size + 1, 0, none⟩), .pointer (some ⟨W1.heap.size, 0, none⟩)]] 96)).low (hV.box _ _ hJ2) ha2
   have hpd := Prv.new (D := D) (W := W1.alloc (.cells #[.func (.func 47) #[] #[.pointer (some ⟨W.heap.size + 1, 0, none⟩), .pointer (some ⟨W1.heap.size, 0, none⟩)]] 96)) (by rw [World.size_alloc]; omega) (hV.box _ _ hJ2) (hV.own _ _ hJ2) (.cells #[.int .i64 day] 3)
   rw [World.size_alloc] at hpd
   have hdv : DaysAt w0.heap.size D Bo ((W1.alloc (.cells #[.func (.func 47) #[] #[.pointer (some ⟨W.heap.size + 1, 0, none⟩), .pointer (some ⟨W1.heap.size, 0, none⟩)]] 96)).alloc (.cells #[.int .i64 day] 3)) [day] (.slice (some ⟨W1.heap.size + 1, 0, none⟩) 1 1) :=
    ⟨⟨_, _, rfl, ⟨Nat.le_refl _, fun h => by cases h⟩, fun j x hj => by
     cases j with
     | zero => cases hj; exact ⟨_, _, rfl, by go_simp⟩
     | succ j => simp at hj⟩, fun _ b hb => by cases hb; exact .inr hpd⟩
   have HW := Lib.hid (vwalk_any w0 D Bo (W.heap.size + 1) W1.heap.size (c.evs [day]) J fe fc fp ce cc cp hV c.bulk c _ _ _ [day] _ [] _ (Nat.le_refl _) hB hri (by simp) HR.out (hbw1.trans hk3.below) (Nat.le_trans hD1 ha3.size) hJ3 hdv (by simp) (hpv1.kept hk3) hpw2
    (hpv1.cell hk3 v0) (hpv1.cell hk3 v1) (hpv1.cell hk3 v2) (by go_simp))
   unfold Con.val at HW
   have HK3 := Lib.hid (hk1.trans hk3)
   have hlB : W.heap.size < W1.heap.size := by omega
   rw [hE]
   clear hri hd hJ1 hJ2 hJ3 hk3 hpw2 hpd hdv ha1 ha2 ha3 hpv1 v0 v1 v2 hE hob1 HR HRi
   go_wp2_with fail
   refine HW.out.mono ?_
   rintro e W3 ⟨rfl, hJ4, hk4⟩
   have HJ4 : Hid (J (c.evs [day]) W3) := Lib.hid (by simpa using hJ4)
   have HK4 := Lib.hid (HK3.out.trans hk4)
   clear hJ4 hk4 HW c0 c1 c2 c3 c4 c5 c6 c7 c8 c9 c10 c11
   go_wp2_with fail
   go_ret
   exact ⟨by rw [HF.out.1]; rfl, by rw [HF.out.2]; exact HJ4.out, HK4.out⟩
  ·have HF : Hid (visErr c day = 2 ∧ visEvs c day = []) := Lib.hid (by
    have h : visErr c day = 2 := by unfold visErr; rw [if_pos hE, if_neg hd]
    exact ⟨h, by unfold visEvs; rw [h]; rfl⟩)
   have HD := Lib.hid hd
   rw [hE]
   clear hd v0 v1 v2 hE
   by_cases hd1 : day < 0
   ·go_wp2_with fail
    go_ret
    exact ⟨by rw [HF.out.1]; rfl, by rw [HF.out.2]; exact hJ1, hk1⟩
   ·have hd2 : (99999 : Int) < day := by
     have h := HD.out
     unfold isDay at h
     simp at h
     omega
    have t1 : decide (day < 0) = false := by rw [decide_eq_false_iff_not]; exact hd1
    go_wp2_with fail
    go_ret
    exact ⟨by rw [HF.out.1]; rfl, by rw [HF.out.2]; exact hJ1, hk1⟩
 ·have HF : Hid (visErr c day = c.err ∧ visEvs c day = []) := Lib.hid (by
   have h : visErr c day = c.err := by unfold visErr; rw [if_neg hE]
   exact ⟨h, by unfold visEvs; rw [h, if_neg hE]⟩)
  have t1 : (c.err != 0) = true := by simpa using hE
  clear v0 v1 v2
  generalize c.err = E at *
  go_wp2_with fail
  go_ret
  exact ⟨by rw [HF.out.1]; rfl, by rw [HF.out.2]; exact hJ1, hk1⟩
end Go.Proofs.YtkonookacfmfgaaGreatDoor

namespace Go.Proofs.YtkonookacfmfgaaGreatDoor
open Go.RowKit
def fewErr (e : Int) (n : Nat) : Int := if e = 0 then (if 1000 < n then 4 else 0) else e
theorem fewErr_ok {e : Int} {n : Nat} (h : e = 0) (hn : n ≤ 1000) : fewErr e n = 0 := by unfold fewErr; rw [if_pos h, if_neg (by omega)]
theorem fewErr_many {e : Int} {n : Nat} (h : e = 0) (hn : ¬ n ≤ 1000) : fewErr e n = 4 := by unfold fewErr; rw [if_pos h, if_pos (by omega)]
theorem fewErr_err {e : Int} {n : Nat} (h : e ≠ 0) : fewErr e n = e := by unfold fewErr; rw [if_neg h]
def fewV (e : Int) (v : Value) (n : Nat) : Value := if fewErr e n = 0 then v else .slice none 0 0
theorem fewV_ok {e : Int} {v : Value} {n : Nat} (h : fewErr e n = 0) : fewV e v n = v := if_pos h
theorem fewV_err {e : Int} {v : Value} {n : Nat} (h : fewErr e n ≠ 0) : fewV e v n = .slice none 0 0 := if_neg h
set_option maxRecDepth 100000 in
theorem fewN_any (ad : Option Addr) (n cap : Nat) (e : Int) (w : World) : Calls Tryz.prog 26 #[.slice ad n cap, .int .i64 e] w fun r w' => r = .returned (.tuple #[fewV e (.slice ad n cap) n, .int .i64 (fewErr e n)]) ∧ w = w' := by
 by_cases he : e = 0
 ·by_cases hn : n ≤ 1000
  ·have HF := Lib.hid (fewErr_ok he hn)
   subst he
   have h1 : decide ((1000 : Int) < (n : Int)) = false := by rw [decide_eq_false_iff_not]; omega
   go_enter Tryz.func26, Tryz.ntmps26
   go_wp2
   go_ret2
   rw [fewV_ok HF.out, HF.out]
   exact ⟨rfl, rfl⟩
  ·have HF := Lib.hid (fewErr_many he hn)
   subst he
   have h1 : decide ((1000 : Int) < (n : Int)) = true := by rw [decide_eq_true_eq]; omega
   go_enter Tryz.func26, Tryz.ntmps26
   go_wp2
   go_ret2
   rw [fewV_err (by rw [HF.out]; decide), HF.out]
   exact ⟨rfl, rfl⟩
 ·have HF := Lib.hid (fewErr_err (n := n) he)
  have He := Lib.hid he
  go_enter Tryz.func26, Tryz.ntmps26
  go_wp2
  go_ret2
  rw [fewV_err (by rw [HF.out]; exact He.out), HF.out]
  exact ⟨rfl, rfl⟩
end Go.Proofs.YtkonookacfmfgaaGreatDoor

namespace Go.Proofs.YtkonookacfmfgaaGreatDoor
open Go.RowKit
noncomputable def nErr (c : Con) (day : Int) : Int := fewErr (visErr c day) (uniq ndLt (evNs (visEvs c day))).length
noncomputable def nSet (c : Con) (day : Int) : List NdP := if nErr c day = 0 then uniq ndLt (evNs (visEvs c day)) else []
theorem visEvs_prefix (c : Con) (day : Int) : visEvs c day <+: c.evs [day] := by
 unfold visEvs
 split
 ·exact List.prefix_refl _
 ·exact List.nil_prefix
theorem ownsRow_shape {w : World} {base : Nat} {e : TypeId} {size : Nat} {v : Value} {n : Nat} {xs : List Value} (h : w.ownsRow base e size v n xs) : ∃ ad cap, v = .slice ad n cap := by
 rcases h.2 with ⟨rfl, rfl⟩ | ⟨g, cap, _, rfl, _⟩ <;> exact ⟨_, _, rfl⟩
set_option maxHeartbeats 4000000 in
set_option maxRecDepth 100000 in
theorem needs_any (c : Con) (es dd ss : Value) (day : Int) (W : World) (hB : c.bulk ≤ 2000000) (hr : RdN W c es dd ss) (hS : LookS W) (hP : LookP W) :
  Calls Tryz.prog 6 #[c.val es dd ss, .int .i64 day] W fun e W' => ∃ v, e = .returned (.tuple #[v, .int .i64 (nErr c day)]) ∧
   W'.ownsRow W.heap.size 66 2 v (nSet c day).length ((nSet c day).flatMap ndCells) ∧ Below W.heap.size W W' := by
 obtain ⟨ad, cap, rfl⟩ := hr.2.2.1.len
 obtain ⟨ad1, cap1, rfl⟩ := hr.1.len
 obtain ⟨ad2, cap2, rfl⟩ := hr.2.1.len
 have hV := needs_vis W (W.heap.size + 1 + 1) (W.heap.size + 1) c day hB (by omega) (by omega)
 have HVis := Lib.hid fun (W2 : World) => visit_any W (W.heap.size + 1 + 1) (W.heap.size + 1) c _ _ _ day _ _ _ _ _ _ _ hV W2 hB hr hS hP
 unfold Con.val at HVis ⊢
 clear hr hS hP hV
 go_enter Tryz.func6, Tryz.ntmps6
 go_wp2_with fail
 refine (silent_any _).mono ?_
 rintro e w1 ⟨rfl, hb1⟩
 have hz1 := hb1.size
 simp only [World.size_alloc] at hz1
 have hl0 : W.heap.size < w1.heap.size := by omega
 have hb2 := below_a2 W (.cells #[.int .u8 c.k, .string c.fr, .string c.rc, .string c.nm, .int .u8 c.ex.k, .string c.ex.ra, .string c.ex.nm, .int .i64 c.ex.d, .slice ad1 c.ex.sub.length cap1, .int .i64 c.d, .slice ad2 c.ds.length cap2, .slice ad c.sub.length cap] 29) (.cells #[.slice none 0 0] 32)
 obtain ⟨c0, c1, c2, c3, c4, c5, c6, c7, c8, c9, c10, c11⟩ := ((CBox.new W c (.slice ad1 c.ex.sub.length cap1) (.slice ad2 c.ds.length cap2) (.slice ad c.sub.length cap) 29).low (below_a1 _ (.cells #[.slice none 0 0] 32))).low hb1
 have hrow0 : NRow W.heap.size (W.heap.size + 1) [] ((W.alloc (.cells #[.int .u8 c.k, .string c.fr, .string c.rc, .string c.nm, .int .u8 c.ex.k, .string c.ex.ra, .string c.ex.nm, .int .i64 c.ex.d, .slice ad1 c.ex.sub.length cap1, .int .i64 c.d, .slice ad2 c.ds.length cap2, .slice ad c.sub.length cap] 29)).alloc (.cells #[.slice none 0 0] 32)) :=
  ⟨.slice none 0 0, by have := Boxed.new (W.alloc (.cells #[.int .u8 c.k, .string c.fr, .string c.rc, .string c.nm, .int .u8 c.ex.k, .string c.ex.ra, .string c.ex.nm, .int .i64 c.ex.d, .slice ad1 c.ex.sub.length cap1, .int .i64 c.d, .slice ad2 c.ds.length cap2, .slice ad c.sub.length cap] 29)) 32 (.slice none 0 0); rwa [World.size_alloc] at this, World.ownsRow_nil _ _ _ _⟩
 have hb3 := below_a1 w1 (.cells #[.func (.func 22) #[] #[.pointer (some ⟨W.heap.size + 1, 0, none⟩)], .func (.func 44) #[] #[], .func (.func 45) #[] #[]] 62)
 have hrow3 := (hrow0.frame hb1).frame hb3
 have hbA := (hb2.trans (hb1.mono (by simp; omega))).trans (hb3.mono (by omega))
 have HBA := Lib.hid hbA
 have HV := Lib.hid (HVis.out _ hbA (by rw [World.size_alloc]; omega) ⟨hrow3, by rw [World.size_alloc]; omega⟩)
 clear hb1 hb2 hb3 hrow0 hrow3 hbA hz1 HVis
 go_wp2_with fail
 refine HV.out.mono ?_
 rintro e w3 ⟨rfl, hJ, hk⟩
 obtain ⟨⟨v, hbv, hown⟩, hz3⟩ := hJ
 have hlen := (Con.found_len c day hB (visEvs_prefix c day)).1
 have hcv := hbv.cell
 have hbF : Below W.heap.size W w3 := HBA.out.trans hk.below
 have HC := Lib.hid fun (w4 : World) (hb : Below w3.drew.heap.size w3.drew w4) => (hb.cell (p := ⟨W.heap.size + 1, 0, none⟩) hbv.lt).trans hcv
 have HO := Lib.hid fun (w4 : World) (hb : Below w3.drew.heap.size w3.drew w4) => (ownsRow_below' (hown.drew) hb)
 have HZ := Lib.hid fun (w4 : World) (hb : Below w3.drew.heap.size w3.drew w4) => Nat.le_trans hz3 hb.size
 have HB := Lib.hid fun (w4 : World) (hb : Below w3.drew.heap.size w3.drew w4) => hbF.drew.trans (hb.mono hz3)
 have HL := Lib.hid hlen
 obtain ⟨LN, hLN⟩ : ∃ LN, evNs (visEvs c day) = LN := ⟨_, rfl⟩
 obtain ⟨ve, hve⟩ : ∃ ve, visErr c day = ve := ⟨_, rfl⟩
 have HE : Hid (nErr c day = fewErr ve (uniq ndLt LN).length ∧ nSet c day = if fewErr ve (uniq ndLt LN).length = 0 then uniq ndLt LN else []) := Lib.hid (by
  unfold nSet
  have : nErr c day = fewErr ve (uniq ndLt LN).length := by unfold nErr; rw [hLN, hve]
  rw [this, hLN]
  exact ⟨rfl, rfl⟩)
 rw [hLN] at HL HO
 rw [hve]
 clear hbv hown hk hz3 hlen hbF hLN hve HV HBA
 go_wp2_with fail
 go_region_with (first
  | (go_at_call 28; refine (ndOrder_any _).mono ?_; rintro e w4 ⟨rfl, hb4⟩; have hc4 := HC.out w4 hb4; have ho4 := HO.out w4 hb4)
  | (go_at_call 27; refine (uniqN_any W.heap.size LN _ _ ho4 HL.out (HZ.out _ hb4)).mono ?_; rintro e w5 ⟨v5, rfl, h5, hb5⟩; obtain ⟨adU, capU, rfl⟩ := ownsRow_shape h5)
  | (go_at_call 26; refine (fewN_any _ _ _ _ _).mono ?_; rintro e w6 ⟨rfl, rfl⟩))
 all_goals
  go_wp2
  go_ret2
  rw [HE.out.1, HE.out.2]
  refine ⟨_, rfl, ?_, (HB.out _ hb4).trans hb5⟩
  by_cases hf : fewErr ve (uniq ndLt LN).length = 0
  ·rw [if_pos hf, fewV_ok hf]; exact h5
  ·rw [if_neg hf, fewV_err hf]; exact World.ownsRow_nil _ _ _ _
end Go.Proofs.YtkonookacfmfgaaGreatDoor

namespace Go.Proofs.YtkonookacfmfgaaGreatDoor
open Go.RowKit
theorem Con.found_lenM (c : Con) (day : Int) (M : Nat) (hM : 1 ≤ M) (hB : c.bulk ≤ M) {pre : List Ev} (hp : pre <+: c.evs [day]) :
  (evNs pre).length ≤ M * M ∧ (evCs pre).length ≤ M * M ∧ (evDs pre).length ≤ M * M := by
 obtain ⟨r, hr⟩ := hp
 have hm : ∀ e ∈ pre, evMost M e := fun e he => Con.evs_most M hM c [day] hB (by simpa using hM) e (by rw [← hr]; simp [he])
 have hw : evWs pre ≤ M := by
  have h1 := Con.evs_w c [day]
  rw [← hr, evWs_append] at h1
  omega
 have h1 := flat_most evNeeds M (fun _ => evNeeds_len) pre hm
 have h2 := flat_most evChs M (fun _ => evChs_len) pre hm
 have h3 := flat_most evDays M (fun _ => evDays_len) pre hm
 have h4 := Nat.mul_le_mul_right M hw
 exact ⟨Nat.le_trans h1 h4, Nat.le_trans h2 h4, Nat.le_trans h3 h4⟩
set_option maxRecDepth 100000 in
theorem fewC_any (ad : Option Addr) (n cap : Nat) (e : Int) (w : World) : Calls Tryz.prog 31 #[.slice ad n cap, .int .i64 e] w fun r w' => r = .returned (.tuple #[fewV e (.slice ad n cap) n, .int .i64 (fewErr e n)]) ∧ w = w' := by
 by_cases he : e = 0
 ·by_cases hn : n ≤ 1000
  ·have HF := Lib.hid (fewErr_ok he hn)
   subst he
   have h1 : decide ((1000 : Int) < (n : Int)) = false := by rw [decide_eq_false_iff_not]; omega
   go_enter Tryz.func31, Tryz.ntmps31
   go_wp2
   go_ret2
   rw [fewV_ok HF.out, HF.out]
   exact ⟨rfl, rfl⟩
  ·have HF := Lib.hid (fewErr_many he hn)
   subst he
   have h1 : decide ((1000 : Int) < (n : Int)) = true := by rw [decide_eq_true_eq]; omega
   go_enter Tryz.func31, Tryz.ntmps31
   go_wp2
   go_ret2
   rw [fewV_err (by rw [HF.out]; decide), HF.out]
   exact ⟨rfl, rfl⟩
 ·have HF := Lib.hid (fewErr_err (n := n) he)
  have He := Lib.hid he
  go_enter Tryz.func31, Tryz.ntmps31
  go_wp2
  go_ret2
  rw [fewV_err (by rw [HF.out]; exact He.out), HF.out]
  exact ⟨rfl, rfl⟩
theorem dead_vis (w0 : World) (D Bo : Nat) (c : Con) (day : Int) (hB : c.bulk ≤ 1100000) (hBo : w0.heap.size ≤ Bo) (hBD : Bo < D) :
  VisOk w0 D Bo (c.evs [day]) (fun evs W => CRow w0.heap.size Bo (evCs evs) W ∧ w0.heap.size ≤ W.heap.size) 43 30 45 #[] #[.pointer (some ⟨Bo, 0, none⟩)] #[] where
 frame := fun pre W1 W2 h hb => ⟨h.1.frame hb, Nat.le_trans h.2 hb.size⟩
 own := fun pre W h => h.1.own
 box := fun pre W h => h.1.box
 ee := enters_of Tryz.func43 (by kernel_rfl) rfl
 ec := enters_of Tryz.func30 (by kernel_rfl) rfl
 ep := enters_of Tryz.func45 (by kernel_rfl) rfl
 expr := fun pre x s ds v W h hbW hDW hs hxb hdl hdv hp => by
  have e1 : evCs (pre ++ [.expr x ds]) = evCs pre := by rw [evCs_append]; simp [evCs, evChs]
  rw [e1]
  exact (silent1_any x s v W W (hs.frame hbW)).mono fun e W' ⟨he, hw⟩ => ⟨he, ⟨h.1.frame hw, Nat.le_trans h.2 hw.size⟩, KeptO.of_below hbW.size h.1.box hw⟩
 choice := fun pre p n ds v W h hbW hDW hdl hdv hp => by
  have hlen := (Con.found_lenM c day 1100000 (by omega) hB hp).2.1
  have e1 : evCs (pre ++ [.choice p n ds]) = evCs pre ++ ds.map fun d => (p, n, d) := by rw [evCs_append]; simp [evCs, evChs]
  rw [e1] at hlen ⊢
  exact (dead_any w0 D Bo (evCs pre) p n ds v W hBo hBD hlen h.1 hbW hdv).mono fun e W' ⟨he, h1, h2⟩ => ⟨he, ⟨h1, Nat.le_trans h.2 h2.below.size⟩, h2⟩
 pay := fun pre ds v W h hbW hDW hdl hdv hp => by
  have e1 : evCs (pre ++ [.pay ds]) = evCs pre := by rw [evCs_append]; simp [evCs, evChs]
  rw [e1]
  exact (silent3_any v W).mono fun e W' ⟨he, hw⟩ => ⟨he, hw ▸ h, hw ▸ KeptO.refl W⟩
noncomputable def dErr (c : Con) (day : Int) : Int := fewErr (visErr c day) (uniq chxLt (evCs (visEvs c day))).length
noncomputable def dSet (c : Con) (day : Int) : List ChP := if dErr c day = 0 then uniq chxLt (evCs (visEvs c day)) else []
set_option maxHeartbeats 4000000 in
set_option maxRecDepth 100000 in
theorem deadlines_any (c : Con) (es dd ss : Value) (day : Int) (W : World) (hB : c.bulk ≤ 1100000) (hr : RdN W c es dd ss) (hS : LookS W) (hP : LookP W) :
  Calls Tryz.prog 8 #[c.val es dd ss, .int .i64 day] W fun e W' => ∃ v, e = .returned (.tuple #[v, .int .i64 (dErr c day)]) ∧
   W'.ownsRow W.heap.size 80 4 v (dSet c day).length ((dSet c day).flatMap cxCells) ∧ Below W.heap.size W W' := by
 obtain ⟨ad, cap, rfl⟩ := hr.2.2.1.len
 obtain ⟨ad1, cap1, rfl⟩ := hr.1.len
 obtain ⟨ad2, cap2, rfl⟩ := hr.2.1.len
 have hV := dead_vis W (W.heap.size + 1 + 1) (W.heap.size + 1) c day hB (by omega) (by omega)
 have HVis := Lib.hid fun (W2 : World) => visit_any W (W.heap.size + 1 + 1) (W.heap.size + 1) c _ _ _ day _ _ _ _ _ _ _ hV W2 (by omega) hr hS hP
 unfold Con.val at HVis ⊢
 clear hr hS hP hV
 go_enter Tryz.func8, Tryz.ntmps8
 go_wp2_with fail
 refine (silent_any _).mono ?_
 rintro e w1 ⟨rfl, hb1⟩
 have hz1 := hb1.size
 simp only [World.size_alloc] at hz1
 have hl0 : W.heap.size < w1.heap.size := by omega
 have hb2 := below_a2 W (.cells #[.int .u8 c.k, .string c.fr, .string c.rc, .string c.nm, .int .u8 c.ex.k, .string c.ex.ra, .string c.ex.nm, .int .i64 c.ex.d, .slice ad1 c.ex.sub.length cap1, .int .i64 c.d, .slice ad2 c.ds.length cap2, .slice ad c.sub.length cap] 29) (.cells #[.slice none 0 0] 38)
 obtain ⟨c0, c1, c2, c3, c4, c5, c6, c7, c8, c9, c10, c11⟩ := ((CBox.new W c (.slice ad1 c.ex.sub.length cap1) (.slice ad2 c.ds.length cap2) (.slice ad c.sub.length cap) 29).low (below_a1 _ (.cells #[.slice none 0 0] 38))).low hb1
 have hrow0 : CRow W.heap.size (W.heap.size + 1) [] ((W.alloc (.cells #[.int .u8 c.k, .string c.fr, .string c.rc, .string c.nm, .int .u8 c.ex.k, .string c.ex.ra, .string c.ex.nm, .int .i64 c.ex.d, .slice ad1 c.ex.sub.length cap1, .int .i64 c.d, .slice ad2 c.ds.length cap2, .slice ad c.sub.length cap] 29)).alloc (.cells #[.slice none 0 0] 38)) :=
  ⟨.slice none 0 0, by have := Boxed.new (W.alloc (.cells #[.int .u8 c.k, .string c.fr, .string c.rc, .string c.nm, .int .u8 c.ex.k, .string c.ex.ra, .string c.ex.nm, .int .i64 c.ex.d, .slice ad1 c.ex.sub.length cap1, .int .i64 c.d, .slice ad2 c.ds.length cap2, .slice ad c.sub.length cap] 29)) 38 (.slice none 0 0); rwa [World.size_alloc] at this, World.ownsRow_nil _ _ _ _⟩
 have hb3 := below_a1 w1 (.cells #[.func (.func 43) #[] #[], .func (.func 30) #[] #[.pointer (some ⟨W.heap.size + 1, 0, none⟩)], .func (.func 45) #[] #[]] 62)
 have hrow3 := (hrow0.frame hb1).frame hb3
 have hbA := (hb2.trans (hb1.mono (by simp; omega))).trans (hb3.mono (by omega))
 have HBA := Lib.hid hbA
 have HV := Lib.hid (HVis.out _ hbA (by rw [World.size_alloc]; omega) ⟨hrow3, by rw [World.size_alloc]; omega⟩)
 clear hb1 hb2 hb3 hrow0 hrow3 hbA hz1 HVis
 go_wp2_with fail
 refine HV.out.mono ?_
 rintro e w3 ⟨rfl, hJ, hk⟩
 obtain ⟨⟨v, hbv, hown⟩, hz3⟩ := hJ
 have hlen : (evCs (visEvs c day)).length ≤ 4000000000000 := Nat.le_trans (Con.found_lenM c day 1100000 (by omega) hB (visEvs_prefix c day)).2.1 (by omega)
 have hcv := hbv.cell
 have hbF : Below W.heap.size W w3 := HBA.out.trans hk.below
 have HC := Lib.hid fun (w4 : World) (hb : Below w3.drew.heap.size w3.drew w4) => (hb.cell (p := ⟨W.heap.size + 1, 0, none⟩) hbv.lt).trans hcv
 have HO := Lib.hid fun (w4 : World) (hb : Below w3.drew.heap.size w3.drew w4) => (ownsRow_below' (hown.drew) hb)
 have HZ := Lib.hid fun (w4 : World) (hb : Below w3.drew.heap.size w3.drew w4) => Nat.le_trans hz3 hb.size
 have HB := Lib.hid fun (w4 : World) (hb : Below w3.drew.heap.size w3.drew w4) => hbF.drew.trans (hb.mono hz3)
 have HL := Lib.hid hlen
 obtain ⟨LN, hLN⟩ : ∃ LN, evCs (visEvs c day) = LN := ⟨_, rfl⟩
 obtain ⟨ve, hve⟩ : ∃ ve, visErr c day = ve := ⟨_, rfl⟩
 have HE : Hid (dErr c day = fewErr ve (uniq chxLt LN).length ∧ dSet c day = if fewErr ve (uniq chxLt LN).length = 0 then uniq chxLt LN else []) := Lib.hid (by
  unfold dSet
  have : dErr c day = fewErr ve (uniq chxLt LN).length := by unfold dErr; rw [hLN, hve]
  rw [this, hLN]
  exact ⟨rfl, rfl⟩)
 rw [hLN] at HL HO
 rw [hve]
 clear hbv hown hk hz3 hlen hbF hLN hve HV HBA
 go_wp2_with fail
 go_region_with (first
  | (go_at_call 33; refine (cxOrder_any _).mono ?_; rintro e w4 ⟨rfl, hb4⟩; have hc4 := HC.out w4 hb4; have ho4 := HO.out w4 hb4)
  | (go_at_call 32; refine (uniqC_any W.heap.size LN _ _ ho4 HL.out (HZ.out _ hb4)).mono ?_; rintro e w5 ⟨v5, rfl, h5, hb5⟩; obtain ⟨adU, capU, rfl⟩ := ownsRow_shape h5)
  | (go_at_call 31; refine (fewC_any _ _ _ _ _).mono ?_; rintro e w6 ⟨rfl, rfl⟩))
 all_goals
  go_wp2
  go_ret2
  rw [HE.out.1, HE.out.2]
  refine ⟨_, rfl, ?_, (HB.out _ hb4).trans hb5⟩
  by_cases hf : fewErr ve (uniq chxLt LN).length = 0
  ·rw [if_pos hf, fewV_ok hf]; exact h5
  ·rw [if_neg hf, fewV_err hf]; exact World.ownsRow_nil _ _ _ _
end Go.Proofs.YtkonookacfmfgaaGreatDoor

namespace Go.Proofs.YtkonookacfmfgaaGreatDoor
open Go.RowKit
open Go.Sort (Holds grow SWO)
theorem cmpI_lt : ltOf cmpI = dayLt := by
 funext x y
 unfold ltOf cmpI dayLt
 by_cases h1 : x < y
 ·simp [h1]
 ·by_cases h2 : y < x <;> simp [h1, h2]
theorem cmpI_enter : ∀ args w, (callFunc 54 args).run Tryz.prog w = .ok (.enter 54 args) w := enters_of Tryz.func54 (by kernel_rfl) rfl
set_option maxRecDepth 100000 in
theorem sortI_any (base : Nat) (L : List Int) (v : Value) (W : World) (hown : W.ownsRow base 3 1 v L.length (L.flatMap dyCells)) (hlen : L.length ≤ 4000000000000) :
  Calls Tryz.prog 61 #[v, .func (.func 54) #[] #[]] W fun e W' => e = .returned (.tuple #[]) ∧
   W'.ownsRow base 3 1 v L.length ((L.mergeSort fun x y => !dayLt y x).flatMap dyCells) ∧ W.grownBy W' v.ownBlock := by
 rcases hown.2 with ⟨rfl, h0⟩ | ⟨g, cap, cur, rfl, hbg, hh, hn, hc, hs, ht⟩
 ·have hL : L = [] := List.eq_nil_of_length_eq_zero h0
  subst hL
  have h := AnyF.slices_SortFunc_none (P := Tryz.prog) (ρ := Tryz.laysInt_ren) { Tryz.laysInt with } none 0 (.func (.func 54) #[] #[]) W
  refine Calls.mono (by exact h) ?_
  rintro e W' ⟨rfl, rfl⟩
  exact ⟨rfl, by simpa using hown, World.grownBy.refl _ _⟩
 ·have hblk : g < W.heap.size := (Array.getElem?_eq_some_iff.1 hh).1
  rw [dy_flat, Nat.mul_one] at ht
  have h := Any.slices_SortFunc_total (α := Int) Tryz.laysInt (Value.int .i64) (fun _ => rfl) cmpI (by rw [cmpI_lt]; exact swo_of_sto day_sto) 54 #[] g 0 cap L.toArray W cmpI_enter
   (fun m os dk _ x y => (cmpI_any x y _).mono fun e w' ⟨he, hw⟩ => ⟨he, 0, #[], by rw [← hw]; simp [grow]; rfl⟩) (holds_of_blockI hh ht) hblk (by simp; omega) (by rw [cmpI_lt]; exact fun x y h1 h2 => day_sto.conn x y h1 h2)
  refine Calls.mono (by exact h) ?_
  rintro e W' ⟨rfl, q, os, rfl⟩
  rw [cmpI_lt]
  have h1 := ownsRow_sortedI (n := q) (os := os) (ss := L) (ts := L.mergeSort fun x y => !dayLt y x) (List.length_mergeSort _) hbg hh hn hc hs
  rw [dy_flat]
  exact ⟨rfl, h1, grownBy_sortedI _⟩
def dyOrder : Value := .agg #[.func (.func 54) #[] #[]]
set_option maxHeartbeats 1000000 in
set_option maxRecDepth 100000 in
theorem uniqI_any (base : Nat) (L : List Int) (v : Value) (W : World) (hown : W.ownsRow base 3 1 v L.length (L.flatMap dyCells)) (hlen : L.length ≤ 4000000000000) (hbase : base ≤ W.heap.size) :
  Calls Tryz.prog 35 #[v, dyOrder] W fun e W' => ∃ v', e = .returned v' ∧ W'.ownsRow base 3 1 v' (uniq dayLt L).length ((uniq dayLt L).flatMap dyCells) ∧ Below base W W' := by
 have hb0 := below_a1 W (.cells #[.func (.func 54) #[] #[]] 90)
 have hown1 := ownsRow_below' hown hb0
 have hS := sortI_any base L v _ hown1 hlen
 have Hb0 := Lib.hid hb0
 have Hl := Lib.hid hlen
 obtain ⟨ad, n, cap, hv⟩ : ∃ ad n cap, v = .slice ad n cap := by
  rcases hown.2 with ⟨rfl, h⟩ | ⟨g, cap, cur, rfl, _⟩ <;> exact ⟨_, _, _, rfl⟩
 have HO := Lib.hid hown1
 subst hv
 clear hown hown1 hb0 hlen
 unfold dyOrder
 go_enter Tryz.func35, Tryz.ntmps35
 go_wp2_with (go_at_call 61; refine hS.mono ?_; rintro e w1 ⟨rfl, h1, h2⟩)
 have hml : (L.mergeSort fun x y => !dayLt y x).length = L.length := List.length_mergeSort _
 rw [← hml] at h1
 have hC := compactI_any base _ _ w1 h1 (by rw [hml]; exact Hl.out)
 have hb1 := (Hb0.out.mono hbase).grown h2 (by simp; omega) (fun k e => (HO.out.lt k e).1)
 have hlt1 := fun k e => (h1.lt k e).1
 clear h1 h2
 go_wp2_with (go_at_call 62; refine hC.mono ?_; rintro e w2 ⟨v2, rfl, h3, h4⟩)
 go_ret
 exact ⟨_, rfl, h3, hb1.grown h4 (Nat.le_trans hbase hb1.size) hlt1⟩
set_option maxRecDepth 100000 in
theorem dyOrder_any (W : World) : Calls Tryz.prog 36 #[] W fun e W' => e = .returned dyOrder ∧ Below W.heap.size W W' := by
 go_enter Tryz.func36, Tryz.ntmps36
 go_wp2
 refine bodyPost_ret (v := .agg #[.func (.func 54) #[] #[]]) (by simp [results, Tryz.results36, go_sem]) rfl ?_
 exact ⟨rfl, below_a1 _ _⟩
end Go.Proofs.YtkonookacfmfgaaGreatDoor

namespace Go.Proofs.YtkonookacfmfgaaGreatDoor
open Go.RowKit
theorem headEv_pay (c : Con) (d0 : Int) (r : List Int) (l : List Int) (h : Ev.pay l ∈ headEv c (d0 :: r) d0) : l ≠ [] := by
 unfold headEv at h
 repeat' split at h
 all_goals simp at h
 rw [h]; simp
mutual
theorem Con.evs_pay : ∀ (c : Con) (ds : List Int) (l : List Int), Ev.pay l ∈ c.evs ds → l ≠ []
 | .mk k f t n x d dd s, [], l, he => by rw [Con.evs_nil] at he; cases he
 | .mk k f t n x d dd s, d0 :: r, l, he => by
  rw [Con.evs_cons] at he
  rcases List.mem_append.1 he with he | he
  ·exact headEv_pay _ _ _ _ he
  ·exact Con.evss_pay s _ l he
theorem Con.evss_pay : ∀ (s : List Con) (ds : List Int) (l : List Int), Ev.pay l ∈ Con.evss s ds → l ≠ []
 | [], _, _, he => by rw [Con.evss] at he; cases he
 | c :: s, ds, l, he => by
  rw [Con.evss] at he
  rcases List.mem_append.1 he with he | he
  ·exact Con.evs_pay c ds l he
  ·exact Con.evss_pay s ds l he
end
theorem days_vis (w0 : World) (D Bo : Nat) (c : Con) (day : Int) (hB : c.bulk ≤ 2000000) (hBo : w0.heap.size ≤ Bo) (hBD : Bo < D) :
  VisOk w0 D Bo (c.evs [day]) (fun evs W => DRow w0.heap.size Bo (evDs evs) W ∧ w0.heap.size ≤ W.heap.size) 43 44 34 #[] #[] #[.pointer (some ⟨Bo, 0, none⟩)] where
 frame := fun pre W1 W2 h hb => ⟨h.1.frame hb, Nat.le_trans h.2 hb.size⟩
 own := fun pre W h => h.1.own
 box := fun pre W h => h.1.box
 ee := enters_of Tryz.func43 (by kernel_rfl) rfl
 ec := enters_of Tryz.func44 (by kernel_rfl) rfl
 ep := enters_of Tryz.func34 (by kernel_rfl) rfl
 expr := fun pre x s ds v W h hbW hDW hs hxb hdl hdv hp => by
  have e1 : evDs (pre ++ [.expr x ds]) = evDs pre := by rw [evDs_append]; simp [evDs, evDays]
  rw [e1]
  exact (silent1_any x s v W W (hs.frame hbW)).mono fun e W' ⟨he, hw⟩ => ⟨he, ⟨h.1.frame hw, Nat.le_trans h.2 hw.size⟩, KeptO.of_below hbW.size h.1.box hw⟩
 choice := fun pre p n ds v W h hbW hDW hdl hdv hp => by
  have e1 : evDs (pre ++ [.choice p n ds]) = evDs pre := by rw [evDs_append]; simp [evDs, evDays]
  rw [e1]
  exact (silent2_any p n v W).mono fun e W' ⟨he, hw⟩ => ⟨he, hw ▸ h, hw ▸ KeptO.refl W⟩
 pay := fun pre ds v W h hbW hDW hdl hdv hp => by
  have hlen := (Con.found_len c day hB hp).2.2
  have hne : ds ≠ [] := Con.evs_pay c [day] ds (by obtain ⟨r, hr⟩ := hp; rw [← hr]; simp)
  have e1 : evDs (pre ++ [.pay ds]) = evDs pre ++ ds := by rw [evDs_append]; simp [evDs, evDays]
  rw [e1] at hlen ⊢
  exact (dayf_any w0 D Bo (evDs pre) ds v W hne hBo hBD hlen h.1 hbW hdv).mono fun e W' ⟨he, h1, h2⟩ => ⟨he, ⟨h1, Nat.le_trans h.2 h2.below.size⟩, h2⟩
noncomputable def ySet (c : Con) (day : Int) : List Int := if visErr c day = 0 then uniq dayLt (evDs (visEvs c day)) else []
set_option maxHeartbeats 4000000 in
set_option maxRecDepth 100000 in
theorem causalDays_any (c : Con) (es dd ss : Value) (day : Int) (W : World) (hB : c.bulk ≤ 2000000) (hr : RdN W c es dd ss) (hS : LookS W) (hP : LookP W) :
  Calls Tryz.prog 10 #[c.val es dd ss, .int .i64 day] W fun e W' => ∃ v, e = .returned (.tuple #[v, .int .i64 (visErr c day)]) ∧
   W'.ownsRow W.heap.size 3 1 v (ySet c day).length ((ySet c day).flatMap dyCells) ∧ Below W.heap.size W W' := by
 obtain ⟨ad, cap, rfl⟩ := hr.2.2.1.len
 obtain ⟨ad1, cap1, rfl⟩ := hr.1.len
 obtain ⟨ad2, cap2, rfl⟩ := hr.2.1.len
 have hV := days_vis W (W.heap.size + 1 + 1) (W.heap.size + 1) c day hB (by omega) (by omega)
 have HVis := Lib.hid fun (W2 : World) => visit_any W (W.heap.size + 1 + 1) (W.heap.size + 1) c _ _ _ day _ _ _ _ _ _ _ hV W2 hB hr hS hP
 unfold Con.val at HVis ⊢
 clear hr hS hP hV
 go_enter Tryz.func10, Tryz.ntmps10
 go_wp2_with fail
 refine (silent_any _).mono ?_
 rintro e w1 ⟨rfl, hb1⟩
 have hz1 := hb1.size
 simp only [World.size_alloc] at hz1
 have hl0 : W.heap.size < w1.heap.size := by omega
 have hb2 := below_a2 W (.cells #[.int .u8 c.k, .string c.fr, .string c.rc, .string c.nm, .int .u8 c.ex.k, .string c.ex.ra, .string c.ex.nm, .int .i64 c.ex.d, .slice ad1 c.ex.sub.length cap1, .int .i64 c.d, .slice ad2 c.ds.length cap2, .slice ad c.sub.length cap] 29) (.cells #[.slice none 0 0] 26)
 obtain ⟨c0, c1, c2, c3, c4, c5, c6, c7, c8, c9, c10, c11⟩ := ((CBox.new W c (.slice ad1 c.ex.sub.length cap1) (.slice ad2 c.ds.length cap2) (.slice ad c.sub.length cap) 29).low (below_a1 _ (.cells #[.slice none 0 0] 26))).low hb1
 have hrow0 : DRow W.heap.size (W.heap.size + 1) [] ((W.alloc (.cells #[.int .u8 c.k, .string c.fr, .string c.rc, .string c.nm, .int .u8 c.ex.k, .string c.ex.ra, .string c.ex.nm, .int .i64 c.ex.d, .slice ad1 c.ex.sub.length cap1, .int .i64 c.d, .slice ad2 c.ds.length cap2, .slice ad c.sub.length cap] 29)).alloc (.cells #[.slice none 0 0] 26)) :=
  ⟨.slice none 0 0, by have := Boxed.new (W.alloc (.cells #[.int .u8 c.k, .string c.fr, .string c.rc, .string c.nm, .int .u8 c.ex.k, .string c.ex.ra, .string c.ex.nm, .int .i64 c.ex.d, .slice ad1 c.ex.sub.length cap1, .int .i64 c.d, .slice ad2 c.ds.length cap2, .slice ad c.sub.length cap] 29)) 26 (.slice none 0 0); rwa [World.size_alloc] at this, World.ownsRow_nil _ _ _ _⟩
 have hb3 := below_a1 w1 (.cells #[.func (.func 43) #[] #[], .func (.func 44) #[] #[], .func (.func 34) #[] #[.pointer (some ⟨W.heap.size + 1, 0, none⟩)]] 62)
 have hrow3 := (hrow0.frame hb1).frame hb3
 have hbA := (hb2.trans (hb1.mono (by simp; omega))).trans (hb3.mono (by omega))
 have HBA := Lib.hid hbA
 have HV := Lib.hid (HVis.out _ hbA (by rw [World.size_alloc]; omega) ⟨hrow3, by rw [World.size_alloc]; omega⟩)
 clear hb1 hb2 hb3 hrow0 hrow3 hbA hz1 HVis
 go_wp2_with fail
 refine HV.out.mono ?_
 rintro e w3 ⟨rfl, hJ, hk⟩
 obtain ⟨⟨v, hbv, hown⟩, hz3⟩ := hJ
 have hlen := (Con.found_len c day hB (visEvs_prefix c day)).2.2
 have hcv := hbv.cell
 have hbF : Below W.heap.size W w3 := HBA.out.trans hk.below
 by_cases hE : visErr c day = 0
 ·have HC := Lib.hid fun (w4 : World) (hb : Below w3.drew.heap.size w3.drew w4) => (hb.cell (p := ⟨W.heap.size + 1, 0, none⟩) hbv.lt).trans hcv
  have HO := Lib.hid fun (w4 : World) (hb : Below w3.drew.heap.size w3.drew w4) => (ownsRow_below' (hown.drew) hb)
  have HZ := Lib.hid fun (w4 : World) (hb : Below w3.drew.heap.size w3.drew w4) => Nat.le_trans hz3 hb.size
  have HB := Lib.hid fun (w4 : World) (hb : Below w3.drew.heap.size w3.drew w4) => hbF.drew.trans (hb.mono hz3)
  have HL := Lib.hid hlen
  obtain ⟨LN, hLN⟩ : ∃ LN, evDs (visEvs c day) = LN := ⟨_, rfl⟩
  have HS : Hid (visErr c day = 0 ∧ ySet c day = uniq dayLt LN) := Lib.hid (by
   unfold ySet
   rw [if_pos hE, hLN]
   exact ⟨hE, rfl⟩)
  rw [hLN] at HL HO
  rw [hE]
  clear hbv hown hk hz3 hlen hbF hLN HV HBA hE
  go_wp2_with fail
  go_region_with (first
   | (go_at_call 36; refine (dyOrder_any _).mono ?_; rintro e w4 ⟨rfl, hb4⟩; have hc4 := HC.out w4 hb4; have ho4 := HO.out w4 hb4)
   | (go_at_call 35; refine (uniqI_any W.heap.size LN _ _ ho4 HL.out (HZ.out _ hb4)).mono ?_; rintro e w5 ⟨v5, rfl, h5, hb5⟩; obtain ⟨adU, capU, rfl⟩ := ownsRow_shape h5))
  all_goals
   go_wp2
   go_ret2
   rw [HS.out.1, HS.out.2]
   exact ⟨_, rfl, h5, (HB.out _ hb4).trans hb5⟩
 ·have HS : Hid (ySet c day = []) := Lib.hid (if_neg hE)
  have HBF := Lib.hid hbF
  obtain ⟨ve, hve⟩ : ∃ ve, visErr c day = ve := ⟨_, rfl⟩
  have Hve := Lib.hid hve
  rw [hve] at hE ⊢
  clear hbv hown hk hz3 hlen hbF HV HBA hve
  go_wp2
  go_ret2
  rw [HS.out, Hve.out]
  exact ⟨_, rfl, World.ownsRow_nil _ _ _ _, HBF.out⟩
end Go.Proofs.YtkonookacfmfgaaGreatDoor

namespace Go.Proofs.YtkonookacfmfgaaGreatDoor
open Go.RowKit
def LKey (w0 : World) (D Bo Bd : Nat) (b0 : Bool) (ds : List Int) (vds : Value) (pre : List Ex) (W : World) : Prop :=
 Boxed W Bo 4 (.bool (b0 || pre.any (xLate ds))) ∧ W.cell? ⟨Bd, 0, none⟩ = some vds ∧ Prv D Bo W Bd ∧ DaysAt w0.heap.size D Bo W ds vds
theorem Boxed.low {W W' : World} {B : Nat} {t : TypeId} {v : Value} (h : Boxed W B t v) (hb : Below W.heap.size W W') : Boxed W' B t v := (hb.block _ h.lt).trans h
theorem LKey.frame {w0 : World} {D Bo Bd : Nat} {b0 : Bool} {ds : List Int} {vds : Value} {pre : List Ex} {W W' : World} (h : LKey w0 D Bo Bd b0 ds vds pre W) (hB : w0.heap.size ≤ W.heap.size) (hb : Below W.heap.size W W') : LKey w0 D Bo Bd b0 ds vds pre W' := by
 obtain ⟨h1, h2, h3, h4⟩ := h
 exact ⟨Boxed.low h1 hb, by rw [hb.cell (p := ⟨Bd, 0, none⟩) h3.2.1]; exact h2, h3.low h1.lt hb, h4.low hB h1.lt hb⟩
theorem notOwn_bool {Bo : Nat} {W : World} {b : Bool} {t : TypeId} (h : Boxed W Bo t (.bool b)) (k : Nat) : ¬ OwnB Bo W k := by
 rintro ⟨v, hv, hk⟩
 rw [h.cell] at hv
 cases hv
 simp [Value.ownBlock] at hk
theorem LKey.step {w0 : World} {D Bo Bd : Nat} {b0 : Bool} {ds : List Int} {vds : Value} {pre : List Ex} {W : World} (h : LKey w0 D Bo Bd b0 ds vds pre W) (hBo : w0.heap.size ≤ Bo) (hBD : Bo < D) (y : Ex) (b : Bool) (hb : b = (b0 || pre.any (xLate ds) || xLate ds y)) :
  LKey w0 D Bo Bd b0 ds vds (pre ++ [y]) (W.drew.setCell ⟨Bo, 0, none⟩ (.bool b)) ∧ KeptO w0.heap.size D Bo W (W.drew.setCell ⟨Bo, 0, none⟩ (.bool b)) := by
 obtain ⟨h1, h2, h3, h4⟩ := h
 have h1d : Boxed W.drew Bo 4 (.bool (b0 || pre.any (xLate ds))) := h1
 have hs : Boxed (W.drew.setCell ⟨Bo, 0, none⟩ (.bool b)) Bo 4 (.bool b) := h1d.set _
 have hk : KeptO w0.heap.size D Bo W (W.drew.setCell ⟨Bo, 0, none⟩ (.bool b)) := by
  refine ⟨(Below.refl _ W).drew.setCell (p := ⟨Bo, 0, none⟩) hBo _, fun k hD hl _ => ⟨?_, notOwn_bool hs k⟩⟩
  rw [Below.heap_setCell _ _ _ _ (show k ≠ Bo by omega)]
  rfl
 refine ⟨⟨?_, h3.cell hk h2, h3.kept hk, h4.kept hk⟩, hk⟩
 have e : (b0 || (pre ++ [y]).any (xLate ds)) = b := by rw [hb, List.any_append, List.any_cons, List.any_nil, Bool.or_false, Bool.or_assoc]
 rw [e]
 exact hs
set_option maxHeartbeats 4000000 in
set_option maxRecDepth 100000 in
theorem latef_any (w0 : World) (D Bo Bd : Nat) (b0 : Bool) (ds : List Int) (vds : Value) (pre : List Ex) (y : Ex) (sy : Value) (W : World) (hBo : w0.heap.size ≤ Bo) (hBD : Bo < D)
  (hK : LKey w0 D Bo Bd b0 ds vds pre W) (hbW : Below w0.heap.size w0 W) (hsy : RdE w0 y.sub sy) :
  Calls Tryz.prog 38 #[y.val sy, .pointer (some ⟨Bo, 0, none⟩), .pointer (some ⟨Bd, 0, none⟩)] W fun e W' => e = .returned (.tuple #[]) ∧ LKey w0 D Bo Bd b0 ds vds (pre ++ [y]) W' ∧ KeptO w0.heap.size D Bo W W' := by
 obtain ⟨ad, cap, rfl⟩ := hsy.len
 have hbo := hK.1.lt
 have hbA := below_a1 W (.cells #[.int .u8 y.k, .string y.ra, .string y.nm, .int .i64 y.d, .slice ad y.sub.length cap] 25)
 have hk0 : KeptO w0.heap.size D Bo W (W.alloc (.cells #[.int .u8 y.k, .string y.ra, .string y.nm, .int .i64 y.d, .slice ad y.sub.length cap] 25)) := KeptO.of_below hbW.size hbo hbA
 have hbx := EBox.new W y (.slice ad y.sub.length cap) 25
 have hK0 := hK.frame hbW.size hbA
 unfold Ex.val
 obtain ⟨W1, hW1⟩ : ∃ W1, W.alloc (.cells #[.int .u8 y.k, .string y.ra, .string y.nm, .int .i64 y.d, .slice ad y.sub.length cap] 25) = W1 := ⟨_, rfl⟩
 have hlW : W.heap.size < W1.heap.size := by rw [← hW1]; simp
 rw [hW1] at hbA hk0 hbx hK0
 obtain ⟨lt, hlt⟩ : ∃ lt, (b0 || pre.any (xLate ds)) = lt := ⟨_, rfl⟩
 have HF := Lib.hid fun (b : Bool) (hb : b = (lt || xLate ds y)) => (hK0.step hBo hBD y b (by rw [hlt]; exact hb)).imp id hk0.trans
 obtain ⟨hbv, hcd1, hpd1, hda1⟩ := hK0
 rw [hlt] at hbv
 have hcv := hbv.cell
 have hfz := hbv.frozen
 have hlBo := hbv.lt
 have hlBd := hpd1.2.1
 go_enter Tryz.func38, Tryz.ntmps38
 go_upto_region 1 with fail
 obtain ⟨c0, c1, c2, c3, c4⟩ := hbx
 obtain ⟨adv, capv, rfl, _, hrd⟩ := hda1.1
 clear hbv hda1 hpd1 hK hk0 hbA hlt
 cases lt with
 | true =>
  have hN := HF.out true (by simp)
  have HN := Lib.hid hN
  clear hN hrd
  go_region
  all_goals
   go_wp2
   go_end0
   exact ⟨rfl, HN.out.1, HN.out.2⟩
 | false =>
  by_cases h2 : y.k = 2
  ·have t2 : ((y.k : Int) == 2) = true := by rw [h2]; rfl
   cases ds with
   | nil =>
    have HN := Lib.hid (HF.out false (by simp [xLate]))
    clear hrd h2
    go_region
    all_goals
     go_wp2
     go_end0
     exact ⟨rfl, HN.out.1, HN.out.2⟩
   | cons d0 dr =>
    obtain ⟨b, off, rfl, hc0⟩ := hrd 0 d0 rfl
    rw [Nat.add_zero] at hc0
    have tl : decide ((0 : Int) < (dr.length : Int) + 1) = true := by rw [decide_eq_true_eq]; omega
    have HN := Lib.hid (HF.out (decide (d0 < y.d)) (by simp [xLate, h2]))
    have hbl : b < W1.heap.size := World.block_lt_of_cell? W1 _ hc0
    clear hrd h2
    go_region
    all_goals
     go_wp2
     go_end0
     exact ⟨rfl, HN.out.1, HN.out.2⟩
  ·have t2 : ((y.k : Int) == 2) = false := by simp; omega
   have HN := Lib.hid (HF.out false (by unfold xLate; split <;> simp [h2]))
   clear hrd h2
   go_region
   all_goals
    go_wp2
    go_end0
    exact ⟨rfl, HN.out.1, HN.out.2⟩
end Go.Proofs.YtkonookacfmfgaaGreatDoor
