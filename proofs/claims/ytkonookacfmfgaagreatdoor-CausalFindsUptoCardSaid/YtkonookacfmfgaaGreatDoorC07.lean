/-
  A variable that holds a contract, an expression; novationref09.Bare, Days. What the walk over the parts of a contract may lean on: the visitor's three functions, and what they keep. append onto a slice of the call's own: where the row lies then; a variable that holds such a slice. A region that draws its order, by an invariant: each operation once, whatever stands before it. A region that draws its order, whose values are known: the facts for wp_region_inv, for any number of operations. Variables of any number of cells. What a call that hands back a slice of its own answers; filters of a list taken up to k. A world whose blocks of one's own are turned; rows of one's own as lists that can be read.
-/
import Derived.Test.YtkonookacfmfgaaGreatDoorC06
import Derived.Test.YtkonookacfmfgaaGreatDoorC01
import Derived.Test.YtkonookacfmfgaaGreatDoorC04
import Derived.Test.YtkonookacfmfgaaGreatDoorC05
import Derived.Laws.AppendOwn
import Derived.RangeFuncBox
import Derived.Maps.AppendAt
import Derived.StillTail
import Derived.RegionTactic
namespace Go.Proofs.YtkonookacfmfgaaGreatDoor
open Go.RowKit
def CBox (W : World) (B : Nat) (x : Con) (es dd ss : Value) : Prop :=
 W.cell? ⟨B, 0, none⟩ = some (.int .u8 x.k) ∧ W.cell? ⟨B, 1, none⟩ = some (.string x.fr) ∧ W.cell? ⟨B, 2, none⟩ = some (.string x.rc) ∧ W.cell? ⟨B, 3, none⟩ = some (.string x.nm)
  ∧ W.cell? ⟨B, 4, none⟩ = some (.int .u8 x.ex.k) ∧ W.cell? ⟨B, 5, none⟩ = some (.string x.ex.ra) ∧ W.cell? ⟨B, 6, none⟩ = some (.string x.ex.nm) ∧ W.cell? ⟨B, 7, none⟩ = some (.int .i64 x.ex.d) ∧ W.cell? ⟨B, 8, none⟩ = some es
  ∧ W.cell? ⟨B, 9, none⟩ = some (.int .i64 x.d) ∧ W.cell? ⟨B, 10, none⟩ = some dd ∧ W.cell? ⟨B, 11, none⟩ = some ss
theorem CBox.new (w : World) (x : Con) (es dd ss : Value) (t : TypeId) : CBox (w.alloc (.cells #[.int .u8 x.k, .string x.fr, .string x.rc, .string x.nm, .int .u8 x.ex.k, .string x.ex.ra, .string x.ex.nm, .int .i64 x.ex.d, es, .int .i64 x.d, dd, ss] t)) w.heap.size x es dd ss :=
 ⟨by go_simp, by go_simp, by go_simp, by go_simp, by go_simp, by go_simp, by go_simp, by go_simp, by go_simp, by go_simp, by go_simp, by go_simp⟩
theorem CBox.lt {W : World} {B : Nat} {x : Con} {es dd ss : Value} (h : CBox W B x es dd ss) : B < W.heap.size := World.block_lt_of_cell? W _ h.1
theorem CBox.kept {W W' : World} {B : Nat} {x : Con} {es dd ss : Value} (h : CBox W B x es dd ss) (k : ∀ o u, W.cell? ⟨B, o, none⟩ = some u → W'.cell? ⟨B, o, none⟩ = some u) : CBox W' B x es dd ss := by
 obtain ⟨c0, c1, c2, c3, c4, c5, c6, c7, c8, c9, c10, c11⟩ := h
 exact ⟨k _ _ c0, k _ _ c1, k _ _ c2, k _ _ c3, k _ _ c4, k _ _ c5, k _ _ c6, k _ _ c7, k _ _ c8, k _ _ c9, k _ _ c10, k _ _ c11⟩
theorem CBox.below {W W' : World} {B n : Nat} {x : Con} {es dd ss : Value} (h : CBox W B x es dd ss) (hb : Below n W W') (hB : B < n) : CBox W' B x es dd ss :=
 h.kept fun o u hc => by rw [hb.cell (p := ⟨B, o, none⟩) hB]; exact hc
theorem CBox.low {W W' : World} {B : Nat} {x : Con} {es dd ss : Value} (h : CBox W B x es dd ss) (hb : Below W.heap.size W W') : CBox W' B x es dd ss := h.below hb h.lt
theorem CBox.far {W : World} {B : Nat} {x : Con} {es dd ss : Value} (h : CBox W B x es dd ss) {a : Addr} (ha : B ≠ a.block) (u : Value) : CBox (W.setCell a u) B x es dd ss :=
 h.kept fun o v hc => by rw [World.cell?_of_block (w := W) (Below.heap_setCell _ _ _ _ ha)]; exact hc
def EBox (W : World) (B : Nat) (x : Ex) (s : Value) : Prop :=
 W.cell? ⟨B, 0, none⟩ = some (.int .u8 x.k) ∧ W.cell? ⟨B, 1, none⟩ = some (.string x.ra) ∧ W.cell? ⟨B, 2, none⟩ = some (.string x.nm) ∧ W.cell? ⟨B, 3, none⟩ = some (.int .i64 x.d) ∧ W.cell? ⟨B, 4, none⟩ = some s
theorem EBox.new (w : World) (x : Ex) (s : Value) (t : TypeId) : EBox (w.alloc (.cells #[.int .u8 x.k, .string x.ra, .string x.nm, .int .i64 x.d, s] t)) w.heap.size x s :=
 ⟨by go_simp, by go_simp, by go_simp, by go_simp, by go_simp⟩
theorem EBox.lt {W : World} {B : Nat} {x : Ex} {s : Value} (h : EBox W B x s) : B < W.heap.size := World.block_lt_of_cell? W _ h.1
theorem EBox.kept {W W' : World} {B : Nat} {x : Ex} {s : Value} (h : EBox W B x s) (k : ∀ o u, W.cell? ⟨B, o, none⟩ = some u → W'.cell? ⟨B, o, none⟩ = some u) : EBox W' B x s := by
 obtain ⟨c0, c1, c2, c3, c4⟩ := h
 exact ⟨k _ _ c0, k _ _ c1, k _ _ c2, k _ _ c3, k _ _ c4⟩
theorem EBox.below {W W' : World} {B n : Nat} {x : Ex} {s : Value} (h : EBox W B x s) (hb : Below n W W') (hB : B < n) : EBox W' B x s :=
 h.kept fun o u hc => by rw [hb.cell (p := ⟨B, o, none⟩) hB]; exact hc
theorem EBox.low {W W' : World} {B : Nat} {x : Ex} {s : Value} (h : EBox W B x s) (hb : Below W.heap.size W W') : EBox W' B x s := h.below hb h.lt
set_option maxHeartbeats 1000000 in
set_option maxRecDepth 100000 in
theorem rbare_any (x : Ex) (s : Value) (w : World) (hs : RdE w x.sub s) :
  Calls Tryz.prog 107 #[x.val s] w fun e w' => e = .returned (.bool x.bare) ∧ Below w.heap.size w w' := by
 obtain ⟨ad, cap, rfl⟩ := hs.len
 clear hs
 unfold Ex.val
 go_enter Tryz.func107, Tryz.ntmps107
 go_wp2_with fail
 all_goals
  go_ret
  exact ⟨ret_bool' (by simp [Ex.bare, emp_nil, len_nil, *]), below_a1 _ _⟩
set_option maxHeartbeats 4000000 in
set_option maxRecDepth 100000 in
theorem rdays_any (l : List Int) (v : Value) (w : World) (hn : l.length ≤ 2000000) (hr : RdI w l v) :
  Calls Tryz.prog 110 #[v] w fun e w' => e = .returned (.bool (isDays l)) ∧ Below w.heap.size w w' := by
 have HR := Lib.hid hr
 obtain ⟨ad, cap, rfl, _⟩ := hr
 go_enter Tryz.func110, Tryz.ntmps110
 go_wp2_with fail
 go_loopw [3] (fun i wr => ∃ (k : Nat), k ≤ l.length ∧ i = .int .i64 (k : Int) ∧ Hid (risen l k) ∧ Below w.heap.size w wr) (fun i _ => l.length - (intOf i).toNat)
 case atStart => exact ⟨0, Nat.zero_le _, rfl, Lib.hid (fun j hj => by omega), Below.refl _ _⟩
 case round =>
  obtain ⟨k, hk, rfl, HRi, hbel⟩ := hrel
  by_cases hlt : k < l.length
  ·obtain ⟨d, hd⟩ : ∃ d, l[k]? = some d := ⟨_, List.getElem?_eq_getElem hlt⟩
   obtain ⟨ad', cap', he, _, hr2⟩ := HR.out.frame hbel
   obtain ⟨rfl, _, rfl⟩ := Value.slice.inj he
   obtain ⟨b, off, rfl, c0⟩ := hr2 k d hd
   have hblk : b < wr.heap.size := World.block_lt_of_cell? wr _ c0
   have hk1 : (0 : Int) ≤ (k : Int) := by omega
   have hk2 : (k : Int) < (l.length : Int) := by omega
   have HW := Lib.hid (fun W => rday_any d W)
   have hzw := hbel.size
   clear he
   cases hday : isDay d with
   | false =>
    rw [hday] at HW
    have HF : Hid (isDays l = false) := Lib.hid (isDays_no hd (.inl hday))
    clear hd hday hr2
    go_wp2
    refine wp_region_ext (fun W' => W'.cell? ⟨b, off + k, none⟩ = some (.int .i64 d)) (fun W' hW' => hW'.cell (by go_simp)) (by kernel_rfl) (by kernel_rfl) ?_
    intro HCW
    repeat (first | go_big_quiet_skip | (go_big_quiet_want; apply Exists.intro; refine ⟨fun W hW => ?_, ?_⟩; (focus (have q0 := HCW W hW; go_simp; first | done | rfl | with_reducible exact ext_same HW.out W hW)); (simp only [Act.put, List.setIfInBounds_toArray, List.set_cons_zero, List.set_cons_succ]); go_big_quiet_on))
    refine wpQuiet_nil ?_
    intro W hW
    have hW := hW.below
    go_wp2
    go_ret
    exact ⟨ret_bool' HF.out.symm, hbel.trans (hW.mono hzw)⟩
   | true =>
    rw [hday] at HW
    cases k with
    | zero =>
     rw [Nat.add_zero] at c0
     have HN : Hid (risen l (0 + 1)) := Lib.hid (risen_succ HRi.out hd hday (fun i c e => by omega))
     clear hd hday hr2
     go_wp2
     refine wp_region_ext (fun W' => W'.cell? ⟨b, off, none⟩ = some (.int .i64 d)) (fun W' hW' => hW'.cell (by go_simp)) (by kernel_rfl) (by kernel_rfl) ?_
     intro HCW
     repeat (first | go_big_quiet_skip | (go_big_quiet_want; apply Exists.intro; refine ⟨fun W hW => ?_, ?_⟩; (focus (have q0 := HCW W hW; go_simp; first | done | rfl | with_reducible exact ext_same HW.out W hW)); (simp only [Act.put, List.setIfInBounds_toArray, List.set_cons_zero, List.set_cons_succ]); go_big_quiet_on))
     refine wpQuiet_nil ?_
     intro W hW
     have hW := hW.below
     go_wp2
     go_roundw
     case rel => exact ⟨1, by omega, by go_num, HN, hbel.trans (hW.mono hzw)⟩
     case measure => simp [intOf]; omega
    | succ j =>
     obtain ⟨c, hc⟩ : ∃ c, l[j]? = some c := ⟨_, List.getElem?_eq_getElem (by omega)⟩
     have c1 : wr.cell? ⟨b, off + j, none⟩ = some (.int .i64 c) := by
      obtain ⟨b', off', e, h⟩ := hr2 j c hc
      cases e
      exact h
     have ek : ((j + 1 : Nat) : Int) = (j : Int) + 1 := by omega
     have e1 : (j : Int) + 1 - 1 = (j : Int) := by omega
     have e2 : IntKind.i64.wrap ((j : Int) + 1 - 1) = (j : Int) := by rw [IntWalk.i64_in _ (by omega)]; omega
     have e3 : IntKind.i64.wrap (j : Int) = (j : Int) := IntWalk.i64_in _ (by omega)
     have e4 : ((j : Int) + 1).toNat = j + 1 := by omega
     have e5 : IntKind.i64.wrap ((j : Int) + 1 + 1) = (j : Int) + 1 + 1 := IntWalk.i64_in _ (by omega)
     have hj0 : decide ((0 : Int) < (j : Int) + 1) = true := by rw [decide_eq_true_eq]; omega
     have hj1 : (0 : Int) ≤ (j : Int) + 1 := by omega
     have hj2 : (j : Int) < (l.length : Int) := by omega
     have hj3 : j < l.length := by omega
     have hj4 : (j : Int) + 1 < (l.length : Int) := by omega
     rw [ek]
     rw [ek] at hk1 hk2
     clear ek
     by_cases hcd : d ≤ c
     ·have HF : Hid (isDays l = false) := Lib.hid (isDays_no hd (.inr ⟨j, c, rfl, hc, hcd⟩))
      have u : decide (d ≤ c) = true := by simpa using hcd
      clear hd hday hc hr2
      go_wp2
      refine wp_region_ext (fun W' => W'.cell? ⟨b, off + (j + 1), none⟩ = some (.int .i64 d) ∧ W'.cell? ⟨b, off + j, none⟩ = some (.int .i64 c)) (fun W' hW' => ⟨hW'.cell (by go_simp), hW'.cell (by go_simp)⟩) (by kernel_rfl) (by kernel_rfl) ?_
      intro HCW
      repeat (first | go_big_quiet_skip | (go_big_quiet_want; apply Exists.intro; refine ⟨fun W hW => ?_, ?_⟩; (focus (obtain ⟨q0, q1⟩ := HCW W hW; go_simp; first | done | rfl | with_reducible exact ext_same HW.out W hW)); (simp only [Act.put, List.setIfInBounds_toArray, List.set_cons_zero, List.set_cons_succ]); go_big_quiet_on))
      refine wpQuiet_nil ?_
      intro W hW
      have hW := hW.below
      go_wp2
      go_ret
      exact ⟨ret_bool' HF.out.symm, hbel.trans (hW.mono hzw)⟩
     ·have HN : Hid (risen l (j + 1 + 1)) := Lib.hid (risen_succ HRi.out hd hday (fun i c' e hc' => by
       obtain rfl : i = j := by omega
       obtain rfl := Option.some.inj (hc.symm.trans hc')
       omega))
      have u : decide (d ≤ c) = false := by rw [decide_eq_false_iff_not]; exact hcd
      clear hd hday hc hr2
      go_wp2
      refine wp_region_ext (fun W' => W'.cell? ⟨b, off + (j + 1), none⟩ = some (.int .i64 d) ∧ W'.cell? ⟨b, off + j, none⟩ = some (.int .i64 c)) (fun W' hW' => ⟨hW'.cell (by go_simp), hW'.cell (by go_simp)⟩) (by kernel_rfl) (by kernel_rfl) ?_
      intro HCW
      repeat (first | go_big_quiet_skip | (go_big_quiet_want; apply Exists.intro; refine ⟨fun W hW => ?_, ?_⟩; (focus (obtain ⟨q0, q1⟩ := HCW W hW; go_simp; first | done | rfl | with_reducible exact ext_same HW.out W hW)); (simp only [Act.put, List.setIfInBounds_toArray, List.set_cons_zero, List.set_cons_succ]); go_big_quiet_on))
      refine wpQuiet_nil ?_
      intro W hW
      have hW := hW.below
      go_wp2
      go_roundw
      case rel => exact ⟨j + 1 + 1, by omega, by go_num, HN, hbel.trans (hW.mono hzw)⟩
      case measure => simp [intOf]; omega
  ·obtain rfl : k = l.length := by omega
   by_cases h1 : 1 ≤ l.length
   ·by_cases h2 : l.length ≤ 100
    ·have HF : Hid (isDays l = true) := Lib.hid ((isDays_iff l).2 ⟨h1, h2, HRi.out⟩)
     have t1 : decide ((1 : Int) ≤ (l.length : Int)) = true := by rw [decide_eq_true_eq]; omega
     have t2 : decide ((l.length : Int) ≤ 100) = true := by rw [decide_eq_true_eq]; omega
     go_wp2
     go_ret
     exact ⟨ret_bool' HF.out.symm, hbel⟩
    ·have HF : Hid (isDays l = false) := Lib.hid (by rw [Bool.eq_false_iff]; intro h; exact h2 ((isDays_iff l).1 h).2.1)
     have t1 : decide ((1 : Int) ≤ (l.length : Int)) = true := by rw [decide_eq_true_eq]; omega
     have t2 : decide ((l.length : Int) ≤ 100) = false := by rw [decide_eq_false_iff_not]; omega
     have t3 : decide (l.length ≤ 100) = false := by rw [decide_eq_false_iff_not]; omega
     go_wp2
     go_ret
     exact ⟨ret_bool' HF.out.symm, hbel⟩
   ·have HF : Hid (isDays l = false) := Lib.hid (by rw [Bool.eq_false_iff]; intro h; exact h1 ((isDays_iff l).1 h).1)
    have t1 : decide ((1 : Int) ≤ (l.length : Int)) = false := by rw [decide_eq_false_iff_not]; omega
    have t3 : decide (1 ≤ l.length) = false := by rw [decide_eq_false_iff_not]; omega
    go_wp2
    go_ret
    exact ⟨ret_bool' HF.out.symm, hbel⟩
end Go.Proofs.YtkonookacfmfgaaGreatDoor

namespace Go.Proofs.YtkonookacfmfgaaGreatDoor
open Go.RowKit
def OwnB (Bo : Nat) (W : World) (b : Nat) : Prop := ∃ v, W.cell? ⟨Bo, 0, none⟩ = some v ∧ v.ownBlock = some b
theorem OwnB.low {Bo : Nat} {W W' : World} (hBo : Bo < W.heap.size) (h : Below W.heap.size W W') (b : Nat) : OwnB Bo W' b ↔ OwnB Bo W b := by
 unfold OwnB
 rw [h.cell (p := ⟨Bo, 0, none⟩) hBo]
structure KeptO (base D Bo : Nat) (W W' : World) : Prop where
 below : Below base W W'
 cells : ∀ b, D ≤ b → b < W.heap.size → ¬ OwnB Bo W b → W'.heap[b]? = W.heap[b]? ∧ ¬ OwnB Bo W' b
section
variable {base D Bo : Nat}
theorem KeptO.refl (W : World) : KeptO base D Bo W W := ⟨Below.refl _ _, fun _ _ _ h => ⟨rfl, h⟩⟩
theorem KeptO.trans {a b c : World} (h : KeptO base D Bo a b) (k : KeptO base D Bo b c) : KeptO base D Bo a c :=
 ⟨h.below.trans k.below, fun i hi hl ho => by
  obtain ⟨h1, h2⟩ := h.cells i hi hl ho
  obtain ⟨k1, k2⟩ := k.cells i hi (Nat.lt_of_lt_of_le hl h.below.size) h2
  exact ⟨k1.trans h1, k2⟩⟩
theorem KeptO.of_below {W W' : World} (hb : base ≤ W.heap.size) (hBo : Bo < W.heap.size) (h : Below W.heap.size W W') : KeptO base D Bo W W' :=
 ⟨h.mono hb, fun i _ hl ho => ⟨h.block i hl, fun hh => ho ((OwnB.low hBo h i).1 hh)⟩⟩
def Prv (D Bo : Nat) (W : World) (B : Nat) : Prop := D ≤ B ∧ B < W.heap.size ∧ ¬ OwnB Bo W B
theorem Prv.kept {W W' : World} {B : Nat} (h : Prv D Bo W B) (k : KeptO base D Bo W W') : Prv D Bo W' B :=
 ⟨h.1, Nat.lt_of_lt_of_le h.2.1 k.below.size, (k.cells B h.1 h.2.1 h.2.2).2⟩
theorem Prv.cell {W W' : World} {B o : Nat} {v : Value} (h : Prv D Bo W B) (k : KeptO base D Bo W W') (hc : W.cell? ⟨B, o, none⟩ = some v) : W'.cell? ⟨B, o, none⟩ = some v := by
 rw [World.cell?_of_block (w := W) (k.cells B h.1 h.2.1 h.2.2).1]; exact hc
theorem Prv.low {W W' : World} {B : Nat} (h : Prv D Bo W B) (hBo : Bo < W.heap.size) (hb : Below W.heap.size W W') : Prv D Bo W' B :=
 ⟨h.1, Nat.lt_of_lt_of_le h.2.1 hb.size, fun hh => h.2.2 ((OwnB.low hBo hb B).1 hh)⟩
theorem Prv.new {W : World} (hD : D ≤ W.heap.size) (hBo : Bo < W.heap.size) (ho : ∀ b, OwnB Bo W b → b < W.heap.size) (o : Obj) : Prv D Bo (W.alloc o) W.heap.size :=
 ⟨hD, by simp, fun hh => by have := ho _ ((OwnB.low hBo (below_a1 W o) _).1 hh); omega⟩
theorem CBox.keptO {W W' : World} {B : Nat} {x : Con} {es dd ss : Value} (h : CBox W B x es dd ss) (hp : Prv D Bo W B) (k : KeptO base D Bo W W') : CBox W' B x es dd ss := h.kept fun _ _ hc => hp.cell k hc
theorem EBox.keptO {W W' : World} {B : Nat} {x : Ex} {s : Value} (h : EBox W B x s) (hp : Prv D Bo W B) (k : KeptO base D Bo W W') : EBox W' B x s := h.kept fun _ _ hc => hp.cell k hc
def DaysAt (base D Bo : Nat) (W : World) (ds : List Int) (v : Value) : Prop := RdI W ds v ∧ (ds ≠ [] → ∀ b, v.ownBlock = some b → b < base ∨ Prv D Bo W b)
theorem DaysAt.of_blocks {W W' : World} {ds : List Int} {v : Value} (h : DaysAt base D Bo W ds v) (h1 : ∀ b, b < base → W'.heap[b]? = W.heap[b]?) (h2 : ∀ b, Prv D Bo W b → W'.heap[b]? = W.heap[b]? ∧ Prv D Bo W' b) : DaysAt base D Bo W' ds v := by
 obtain ⟨⟨ad, cap, rfl, hc, hr⟩, ho⟩ := h
 refine ⟨⟨ad, cap, rfl, hc, fun j d hj => ?_⟩, fun hne b hb => ?_⟩
 ·obtain ⟨b, off, rfl, hcell⟩ := hr j d hj
  refine ⟨b, off, rfl, ?_⟩
  have hb : W'.heap[b]? = W.heap[b]? := by
   rcases ho (by rintro rfl; simp at hj) b rfl with hb | hb
   ·exact h1 b hb
   ·exact (h2 b hb).1
  rw [World.cell?_of_block (w := W) hb]
  exact hcell
 ·rcases ho hne b hb with h | h
  ·exact .inl h
  ·exact .inr (h2 b h).2
theorem DaysAt.kept {W W' : World} {ds : List Int} {v : Value} (h : DaysAt base D Bo W ds v) (k : KeptO base D Bo W W') : DaysAt base D Bo W' ds v :=
 h.of_blocks (fun b hb => k.below.block b hb) fun b hb => ⟨(k.cells b hb.1 hb.2.1 hb.2.2).1, hb.kept k⟩
theorem DaysAt.low {W W' : World} {ds : List Int} {v : Value} (h : DaysAt base D Bo W ds v) (hB : base ≤ W.heap.size) (hBo : Bo < W.heap.size) (hb : Below W.heap.size W W') : DaysAt base D Bo W' ds v :=
 h.kept (KeptO.of_below hB hBo hb)
end
structure VisOk (w0 : World) (D Bo : Nat) (full : List Ev) (J : List Ev → World → Prop) (fe fc fp : Nat) (ce cc cp : Array Value) : Prop where
 frame : ∀ pre W W', J pre W → Below W.heap.size W W' → J pre W'
 own : ∀ pre W, J pre W → ∀ b, OwnB Bo W b → b < W.heap.size
 box : ∀ pre W, J pre W → Bo < W.heap.size
 ee : ∀ args w, (callFunc fe args).run Tryz.prog w = .ok (.enter fe args) w
 ec : ∀ args w, (callFunc fc args).run Tryz.prog w = .ok (.enter fc args) w
 ep : ∀ args w, (callFunc fp args).run Tryz.prog w = .ok (.enter fp args) w
 expr : ∀ pre x s ds v W, J pre W → Below w0.heap.size w0 W → D ≤ W.heap.size → RdE w0 x.sub s → x.bulk ≤ 2000000 → ds.length ≤ 2000000 → DaysAt w0.heap.size D Bo W ds v → pre ++ [.expr x ds] <+: full →
  Calls Tryz.prog fe (#[x.val s, v] ++ ce) W fun e W' => e = .returned (.tuple #[]) ∧ J (pre ++ [.expr x ds]) W' ∧ KeptO w0.heap.size D Bo W W'
 choice : ∀ pre p n ds v W, J pre W → Below w0.heap.size w0 W → D ≤ W.heap.size → ds.length ≤ 2000000 → DaysAt w0.heap.size D Bo W ds v → pre ++ [.choice p n ds] <+: full →
  Calls Tryz.prog fc (#[.string p, .string n, v] ++ cc) W fun e W' => e = .returned (.tuple #[]) ∧ J (pre ++ [.choice p n ds]) W' ∧ KeptO w0.heap.size D Bo W W'
 pay : ∀ pre ds v W, J pre W → Below w0.heap.size w0 W → D ≤ W.heap.size → ds.length ≤ 2000000 → DaysAt w0.heap.size D Bo W ds v → pre ++ [.pay ds] <+: full →
  Calls Tryz.prog fp (#[v] ++ cp) W fun e W' => e = .returned (.tuple #[]) ∧ J (pre ++ [.pay ds]) W' ∧ KeptO w0.heap.size D Bo W W'
end Go.Proofs.YtkonookacfmfgaaGreatDoor

namespace Go.Proofs.YtkonookacfmfgaaGreatDoor
open Go.RowKit
theorem run_append_at {P : Program} (w : World) (base : Nat) (t ty e : TypeId) (i : TypeInfo) (z : Value) (size bytes : Nat) (ht : P.underlying t = some (.slice e)) (hi : P.info? e = some i) (hz : i.zero = some z)
  (hsize : i.size = size) (hby : i.bytes = bytes) (v : Value) (n : Nat) (xs : List Value) (hown : w.ownsRow base e size v n xs)
  (a : Addr) (m c : Nat) (news : List Value) (hl : news.length = m * size) (hnews : ∀ j u, news[j]? = some u → w.cell? (a.add j) = some u) (h1 : ∀ u ∈ news, u.oneCell' = true)
  (h63 : n + m ≤ maxLen) (hbytes : (n + m) * bytes ≤ 140737488355328) {v' : Value} {w' : World} (hrun : (Builtin.append_ #[t, t] ty #[v, .slice (some a) m c]).run P w = .ok v' w') :
  v'.ownBlock = v.ownBlock ∨ ∃ g, v'.ownBlock = some g ∧ w.heap.size ≤ g := by
 subst hsize
 subst hby
 have hsmall : n + m ≤ 9223372036854775807 := by simp only [maxLen] at h63; omega
 rcases hown.2 with ⟨rfl, rfl⟩ | ⟨g, cap, cur, rfl, hbg, hg, hnc, hcm, hcs, htake⟩
 ·by_cases hm : m = 0
  ·subst hm
   left
   have hr : (Builtin.append_ #[t, t] ty #[.slice none 0 0, .slice (some a) 0 c]).run P w = .ok (.slice none 0 0) w := by
    simp [Builtin.append_, run_underlying ht, sizeOf, typeInfo, hi, Builtin.lenOf, Builtin.firstCells, loadCells, loadCellsFrom]
   rw [hr] at hrun
   cases hrun
   rfl
  ·right
   have hr := run_append_nil (P := P) w t ty e i z ht hi hz a m c news hl hnews (by omega) (by omega) (by have hb := hbytes; simp only [Nat.zero_add] at hb; omega)
   rw [hr] at hrun
   cases hrun
   exact ⟨_, rfl, Nat.le_refl _⟩
 ·by_cases hroom : n + m ≤ cap
  ·left
   have hfit : n * i.size + news.length ≤ cur.size := by rw [hl, hcs, ← Nat.add_mul]; exact Nat.mul_le_mul_right _ hroom
   have hr := run_append_room (P := P) w t ty e i ht hi g n cap cur hg a m c news hl hnews h1 hroom hfit
   rw [hr] at hrun
   cases hrun
   rfl
  ·right
   have holds : ∀ j u, xs[j]? = some u → w.cell? ((⟨g, 0, none⟩ : Addr).add j) = some u := hown.cells (g := g) rfl
   have hr := run_append_grow (P := P) w t ty e i z ht hi hz ⟨g, 0, none⟩ n cap xs hown.1 holds a m c news hl hnews (by omega) (by omega) (growslice_fits (by omega) hbytes)
   rw [hr] at hrun
   cases hrun
   exact ⟨_, rfl, Nat.le_refl _⟩
theorem wpList_append_at {P : Program} (w : World) {ops : Array Oper} {rest : List Oper} {o : Oper} {a : Act} {Q : Exit → Act → World → Prop} (hgd : o.guard = none) (s x : Operand) (t : TypeId)
  (ho : o.op = .call { callee := .builtin .append, args := #[s, x], argTypes := #[t, t] })
  (base : Nat) (e : TypeId) (i : TypeInfo) (z : Value) (size bytes : Nat) (ht : P.underlying t = some (.slice e)) (hi : P.info? e = some i) (hz : i.zero = some z)
  (hsize : i.size = size) (hby : i.bytes = bytes) (hzs : z.cells.size = size) (hsz : 0 < size)
  (v : Value) (n : Nat) (xs : List Value) (hs : a.eval s = v) (hown : w.ownsRow base e size v n xs)
  (ad : Addr) (m c : Nat) (news : List Value) (hx : a.eval x = .slice (some ad) m c) (hl : news.length = m * size) (hnews : ∀ j u, news[j]? = some u → w.cell? (ad.add j) = some u) (h1 : ∀ u ∈ news, u.oneCell' = true)
  (h63 : n + m ≤ maxLen) (hbytes : (n + m) * bytes ≤ 140737488355328) (hbase : base ≤ w.heap.size)
  (h : ∀ v' w', w'.ownsRow base e size v' (n + m) (xs ++ news) → w.grownBy w' v.ownBlock → (v'.ownBlock = v.ownBlock ∨ ∃ g, v'.ownBlock = some g ∧ w.heap.size ≤ g) → wpList P ops Q rest (a.put o.dst v') w') : wpList P ops Q (o :: rest) a w := by
 refine wpList_plain hgd fun K hK => ?_
 obtain ⟨v', w', hr, h2, h3, _⟩ := run_append_own (P := P) w base t o.type e i z size bytes ht hi hz hsize hby hzs hsz v n xs hown ad m c news hl hnews h1 h63 hbytes hbase
 have h4 := run_append_at w base t o.type e i z size bytes ht hi hz hsize hby v n xs hown ad m c news hl hnews h1 h63 hbytes hr
 unfold Oper.wp execOp
 simp only [ho, resolve, invoke, builtin, Sem.run_bind, Sem.run_pure, Result.andThen_ok, List.map_toArray, List.map_cons, List.map_nil, hs, hx, hr]
 exact hK _ _ (h v' w' h2 h3 h4)
def RowAt {α : Type} (enc : α → List Value) (t e : TypeId) (m base Bo : Nat) (L : List α) (W : World) : Prop := ∃ v, Boxed W Bo t v ∧ W.ownsRow base e m v L.length (L.flatMap enc)
section
variable {α : Type} {enc : α → List Value} {t e : TypeId} {m base Bo : Nat} {L : List α} {W : World}
theorem RowAt.frame {W' : World} (h : RowAt enc t e m base Bo L W) (hb : Below W.heap.size W W') : RowAt enc t e m base Bo L W' := by
 obtain ⟨v, h1, h2⟩ := h
 exact ⟨v, (hb.block _ h1.lt).trans h1, ownsRow_below' h2 hb⟩
theorem RowAt.box (h : RowAt enc t e m base Bo L W) : Bo < W.heap.size := by
 obtain ⟨v, h1, _⟩ := h
 exact h1.lt
theorem RowAt.own (h : RowAt enc t e m base Bo L W) (b : Nat) (hb : OwnB Bo W b) : b < W.heap.size := by
 obtain ⟨v, h1, h2⟩ := h
 obtain ⟨u, hu, hub⟩ := hb
 rw [h1.cell] at hu
 cases hu
 exact (h2.lt b hub).2
theorem RowAt.ownB (h1 : ∃ v, Boxed W Bo t v ∧ W.ownsRow base e m v L.length (L.flatMap enc)) (b : Nat) (hb : OwnB Bo W b) : base ≤ b := by
 obtain ⟨v, h1, h2⟩ := h1
 obtain ⟨u, hu, hub⟩ := hb
 rw [h1.cell] at hu
 cases hu
 exact (h2.lt b hub).1
end
theorem RowAt.step {t e : TypeId} {size base D Bo : Nat} {W w1 : World} {v v' : Value} {k m : Nat} {xs ys : List Value} {tmp : Obj} (hv : Boxed W Bo t v) (hte : t ≠ e) (hrow : W.ownsRow base e size v k xs) (hbase : base ≤ W.heap.size) (hB : base ≤ Bo) (hD : Bo < D)
  (hown' : w1.ownsRow base e size v' m ys) (hgrow : (W.alloc tmp).grownBy w1 v.ownBlock) (hloc : v'.ownBlock = v.ownBlock ∨ ∃ g, v'.ownBlock = some g ∧ W.heap.size + 1 ≤ g) :
  Boxed w1 Bo t v ∧ Boxed (w1.setCell ⟨Bo, 0, none⟩ v') Bo t v' ∧ (w1.setCell ⟨Bo, 0, none⟩ v').ownsRow base e size v' m ys ∧ KeptO base D Bo W (w1.setCell ⟨Bo, 0, none⟩ v') := by
 obtain ⟨h1, h2, h3, _, h5⟩ := Boxed.appended hv hte hrow hbase hB hown' hgrow
 refine ⟨h1, h2, h3, h5, fun b hb hl ho => ?_⟩
 have hne : some b ≠ v.ownBlock := fun e => ho ⟨v, hv.cell, e.symm⟩
 refine ⟨?_, ?_⟩
 ·rw [Below.heap_setCell _ _ _ _ (show b ≠ Bo by omega), hgrow.block b (by simp; omega) hne, Below.heap_alloc _ _ _ hl]
 ·rintro ⟨u, hu, hub⟩
  rw [h2.cell] at hu
  cases hu
  rcases hloc with e | ⟨g, e, hg⟩
  ·exact hne (by rw [← e, hub])
  ·rw [e] at hub
   cases hub
   omega
end Go.Proofs.YtkonookacfmfgaaGreatDoor

namespace Go.Proofs.YtkonookacfmfgaaGreatDoor
open Go.RowKit
def upd (L : Nat → Bool) (i : Nat) : Nat → Bool := fun j => if j = i then true else L j
def cnt : List Bool → Nat
 | [] => 0
 | b :: l => (if b then 0 else 1) + cnt l
theorem cnt_set : ∀ {l : List Bool} {i : Nat}, l[i]? = some false → cnt (l.set i true) + 1 = cnt l
 | [], i, h => by simp at h
 | b :: l, 0, h => by
  simp at h; subst h
  simp [cnt]; omega
 | b :: l, i + 1, h => by
  have := cnt_set (l := l) (i := i) (by simpa using h)
  simp only [List.set_cons_succ, cnt]
  omega
theorem cnt_zero : ∀ {l : List Bool}, cnt l = 0 → ∀ j, j < l.length → l[j]? = some true
 | [], _, j, hj => by simp at hj
 | b :: l, h, j, hj => by
  simp only [cnt] at h
  cases b with
  | false => simp at h
  | true =>
   cases j with
   | zero => rfl
   | succ j => simpa using cnt_zero (l := l) (by simpa using h) j (by simpa using hj)
theorem cnt_replicate : ∀ n, cnt (List.replicate n false) = n
 | 0 => rfl
 | n + 1 => by rw [List.replicate_succ, cnt, cnt_replicate n]; simp; omega
section
variable {P : Program} {ops : Array Oper} {md : Region.Mode}
def fwdB (md : Region.Mode) (ops : Array Oper) : Bool :=
 (List.range ops.size).all fun j => match ops[j]? with | some o => o.after.all fun e => !Region.binds md e || decide (e.on < j) | none => true
theorem fwd_spec (h : fwdB md ops = true) {j : Nat} {o : Oper} (ho : ops[j]? = some o) : ∀ e ∈ o.after, Region.binds md e = true → e.on < j := by
 intro e he hb
 have hj : j < ops.size := (Array.getElem?_eq_some_iff.1 ho).1
 have h1 := List.all_eq_true.1 h j (List.mem_range.2 hj)
 simp only [ho] at h1
 have h2 := Array.all_eq_true'.1 h1 e he
 simp only [hb, Bool.not_true, Bool.false_or, decide_eq_true_eq] at h2
 exact h2
theorem getD_both' {listed : Array Bool} {j : Nat} (hj : j < listed.size) : listed.getD j true = listed.getD j false := by
 simp [hj]
theorem ready_all (hf : fwdB md ops = true) {listed : Array Bool} (hs : listed.size = ops.size) (hr : Region.ready md ops listed = []) : ∀ j, j < ops.size → listed.getD j false = true := by
 intro j
 induction j using Nat.strongRecOn with
 | _ j ih =>
  intro hj
  cases h : listed.getD j false with
  | true => rfl
  | false =>
   exfalso
   obtain ⟨o, ho⟩ : ∃ o, ops[j]? = some o := ⟨_, Array.getElem?_eq_getElem hj⟩
   have : j ∈ Region.ready md ops listed := mem_ready.2 ⟨by rw [getD_both' (by omega)]; exact h, o, ho, fun e he hb => ih e.on (fwd_spec hf ho e he hb) (by have := fwd_spec hf ho e he hb; omega)⟩
   rw [hr] at this
   cases this
theorem upd_listed {listed : Array Bool} {i : Nat} (hi : i < listed.size) : (fun j => (listed.setIfInBounds i true).getD j false) = upd (fun j => listed.getD j false) i := by
 funext j
 unfold upd
 by_cases h : j = i
 ·subst h
  rw [if_pos rfl]
  simp [hi]
 ·rw [if_neg h, getD_set_ne false (fun e => h e.symm)]
theorem wpAny_inv {Q : Exit → Act → World → Prop} {Inv : (Nat → Bool) → Act → World → Prop} (hf : fwdB md ops = true)
  (hst : ∀ L a w, Inv L a w → ∀ i o, ops[i]? = some o → L i = false → (∀ e ∈ o.after, Region.binds md e = true → L e.on = true) → wpOp P ops Q i (Inv (upd L i)) a w)
  (hend : ∀ L a w, Inv L a w → (∀ j, j < ops.size → L j = true) → Q .normal a w) :
  ∀ (f : Nat) (listed : Array Bool) (a : Act) (w : World), listed.size = ops.size → cnt listed.toList ≤ f → Inv (fun j => listed.getD j false) a w → wpAny P md ops Q f listed a w
 | 0, listed, a, w, hs, hc, h => by
  have hall : ∀ j, j < ops.size → listed.getD j false = true := fun j hj => by
   have := cnt_zero (Nat.le_zero.1 hc) j (by simpa [hs] using hj)
   have hj' : j < listed.size := by omega
   simp [hj'] at this ⊢
   exact this
  refine ⟨?_, hend _ _ _ h hall⟩
  rw [List.eq_nil_iff_forall_not_mem]
  intro i hi
  obtain ⟨h1, o, ho, _⟩ := mem_ready.1 hi
  have hj : i < ops.size := (Array.getElem?_eq_some_iff.1 ho).1
  rw [getD_both' (by omega), hall i hj] at h1
  cases h1
 | f + 1, listed, a, w, hs, hc, h => by
  refine ⟨fun hr => hend _ _ _ h (ready_all hf hs hr), fun i hi => ?_⟩
  obtain ⟨h1, o, ho, h2⟩ := mem_ready.1 hi
  have hj : i < listed.size := by have := (Array.getElem?_eq_some_iff.1 ho).1; omega
  have h3 : listed.getD i false = false := by rw [← getD_both' hj]; exact h1
  have h4 : listed.toList[i]? = some false := by simp [hj] at h3 ⊢; exact h3
  refine wpOp_mono (fun a' w' h5 => ?_) (hst _ a w h i o ho h3 h2)
  refine wpAny_inv hf hst hend f (listed.setIfInBounds i true) a' w' (by simpa using hs) ?_ ?_
  ·have := cnt_set h4
   rw [Array.toList_setIfInBounds]
   omega
  ·rw [upd_listed hj]; exact h5
def predB (md : Region.Mode) (ops : Array Oper) (i j : Nat) : Bool :=
 match ops[i]? with | some o => o.after.any fun e => Region.binds md e && e.on == j | none => false
theorem pred_spec {i j : Nat} {o : Oper} {L : Nat → Bool} (ho : ops[i]? = some o) (hp : ∀ e ∈ o.after, Region.binds md e = true → L e.on = true) (h : predB md ops i j = true) : L j = true := by
 unfold predB at h
 simp only [ho] at h
 obtain ⟨e, he, h1⟩ := Array.any_eq_true'.1 h
 simp only [Bool.and_eq_true, beq_iff_eq] at h1
 rw [← h1.2]
 exact hp e he h1.1
theorem wp_region_inv {id : Nat} {Q : Exit → Act → World → Prop} {a : Act} {w : World} (Inv : (Nat → Bool) → Act → World → Prop) (hm : P.follows .mixedOrders = true) (hf : fwdB .any ops = true)
  (h0 : Inv (fun _ => false) a w.drew)
  (hst : ∀ L a w, Inv L a w → ∀ i o, ops[i]? = some o → L i = false → (∀ e ∈ o.after, Region.binds .any e = true → L e.on = true) → wpOp P ops Q i (Inv (upd L i)) a w)
  (hend : ∀ L a w, Inv L a w → (∀ j, j < ops.size → L j = true) → Q .normal a w) : (Code.region id ops true).wp P Q a w := by
 refine wp_region_any hm (wpAny_inv hf hst hend ops.size _ _ _ (by simp) ?_ ?_)
 ·simp [cnt_replicate]
 ·have e : (fun j => (Array.replicate ops.size false).getD j false) = fun _ => false := by
   funext j
   by_cases hj : j < ops.size <;> simp [hj]
  rw [e]; exact h0
end
end Go.Proofs.YtkonookacfmfgaaGreatDoor

namespace Go.Proofs.YtkonookacfmfgaaGreatDoor
open Go.RowKit
structure VInv (W0 : World) (vals cur : List Value) (L : Nat → Bool) (w : World) : Prop where
 b : Below W0.heap.size W0 w
 len : cur.length = vals.length
 f : ∀ (i : Nat) (v : Value), L i = true → vals[i]? = some v → cur[i]? = some v
section
variable {W0 w w' : World} {vals cur : List Value} {L : Nat → Bool}
theorem VInv.start (h : Below W0.heap.size W0 w) (hl : cur.length = vals.length) : VInv W0 vals cur (fun _ => false) w := ⟨h, hl, fun _ _ h => by cases h⟩
theorem VInv.ext (h : VInv W0 vals cur L w) (hb : Below w.heap.size w w') : VInv W0 vals cur L w' := ⟨h.b.trans (hb.mono h.b.size), h.len, h.f⟩
theorem VInv.step (h : VInv W0 vals cur L w) {i : Nat} {v : Value} (hv : vals[i]? = some v) : VInv W0 vals (cur.set i v) (upd L i) w := by
 have hi : i < cur.length := by rw [h.len]; exact (List.getElem?_eq_some_iff.1 hv).1
 refine ⟨h.b, by rw [List.length_set]; exact h.len, fun j u hj hu => ?_⟩
 by_cases e : j = i
 ·subst e
  rw [List.getElem?_set_self hi, ← hv, hu]
 ·rw [List.getElem?_set_ne (fun e' => e e'.symm)]
  exact h.f j u (by rw [← hj]; unfold upd; rw [if_neg e]) hu
theorem VInv.at (h : VInv W0 vals cur L w) {i : Nat} {u v : Value} (hL : L i = true) (hv : vals[i]? = some v) (hu : cur[i]? = some u) : u = v := Option.some.inj (hu.symm.trans (h.f i v hL hv))
end
end Go.Proofs.YtkonookacfmfgaaGreatDoor

namespace Go.Proofs.YtkonookacfmfgaaGreatDoor
open Go.RowKit
def BoxN (W : World) (B : Nat) (t : TypeId) (cs : List Value) : Prop := W.heap[B]? = some (.cells cs.toArray t (0, 0))
section
variable {W W' : World} {B : Nat} {t : TypeId} {cs : List Value}
theorem BoxN.lt (h : BoxN W B t cs) : B < W.heap.size := (Array.getElem?_eq_some_iff.1 h).1
theorem BoxN.cell (h : BoxN W B t cs) {j : Nat} {u : Value} (hj : cs[j]? = some u) : W.cell? ⟨B, j, none⟩ = some u := by
 simp [World.cell?, show W.heap[B]? = _ from h, hj]
theorem BoxN.frozen (h : BoxN W B t cs) (o : Nat) : W.frozen? ⟨B, o, none⟩ = false := by simp [World.frozen?, show W.heap[B]? = _ from h]
theorem BoxN.of_block (h : BoxN W B t cs) (e : W'.heap[B]? = W.heap[B]?) : BoxN W' B t cs := e.trans h
theorem BoxN.new (w : World) (cs : List Value) (t : TypeId) : BoxN (w.alloc (.cells cs.toArray t)) w.heap.size t cs := by
 show (w.heap.push _)[w.heap.size]? = _
 simp
theorem BoxN.alloc (h : BoxN W B t cs) (o : Obj) : BoxN (W.alloc o) B t cs := h.of_block (Below.heap_alloc _ _ _ h.lt)
theorem BoxN.below {B0 : Nat} (h : BoxN W B t cs) (hb : Below B0 W W') (hB : B < B0) : BoxN W' B t cs := h.of_block (hb.block _ hB)
theorem BoxN.set (h : BoxN W B t cs) (j : Nat) (x : Value) : BoxN (W.setCell ⟨B, j, none⟩ x) B t (cs.set j x) := by
 have e := heap_set_same h j x
 unfold BoxN
 rw [e]
 simp
theorem BoxN.far (h : BoxN W B t cs) {a : Addr} (ha : B ≠ a.block) (x : Value) : BoxN (W.setCell a x) B t cs := h.of_block (Below.heap_setCell _ _ _ _ ha)
end
theorem Boxed2.far {W : World} {B : Nat} {t : TypeId} {u v : Value} (h : Boxed2 W B t u v) {a : Addr} (ha : B ≠ a.block) (x : Value) : Boxed2 (W.setCell a x) B t u v := h.of_block (Below.heap_setCell _ _ _ _ ha)
theorem Boxed2.low {W W' : World} {B B0 : Nat} {t : TypeId} {u v : Value} (h : Boxed2 W B t u v) (hb : Below B0 W W') (hB : B < B0) : Boxed2 W' B t u v := h.of_block (hb.block _ hB)
theorem Boxed2.n {W : World} {B : Nat} {t : TypeId} {u v : Value} (h : Boxed2 W B t u v) : BoxN W B t [u, v] := h
theorem BoxN.two {W : World} {B : Nat} {t : TypeId} {u v : Value} (h : BoxN W B t [u, v]) : Boxed2 W B t u v := h
end Go.Proofs.YtkonookacfmfgaaGreatDoor

namespace Go.Proofs.YtkonookacfmfgaaGreatDoor
open Go.RowKit
theorem cell_three_new (w : World) (a b c : Value) (t : TypeId) : ∀ j u, [a, b, c][j]? = some u → (w.alloc (.cells #[a, b, c] t)).cell? ((⟨w.heap.size, 0, none⟩ : Addr).add j) = some u := by
 intro j u hj
 match j, hj with
 | 0, hj => simp at hj; subst hj; simp [Addr.add]
 | 1, hj => simp at hj; subst hj; simp [Addr.add]
 | 2, hj => simp at hj; subst hj; simp [Addr.add]
theorem cell_four_new (w : World) (a b c d : Value) (t : TypeId) : ∀ j u, [a, b, c, d][j]? = some u → (w.alloc (.cells #[a, b, c, d] t)).cell? ((⟨w.heap.size, 0, none⟩ : Addr).add j) = some u := by
 intro j u hj
 match j, hj with
 | 0, hj => simp at hj; subst hj; simp [Addr.add]
 | 1, hj => simp at hj; subst hj; simp [Addr.add]
 | 2, hj => simp at hj; subst hj; simp [Addr.add]
 | 3, hj => simp at hj; subst hj; simp [Addr.add]
theorem filter_take_true {α : Type} {p : α → Bool} {l : List α} {k : Nat} {f : α} (hf : l[k]? = some f) (hp : p f = true) : (l.take (k + 1)).filter p = (l.take k).filter p ++ [f] := by
 rw [List.take_add_one, hf, List.filter_append]; simp [hp]
theorem filter_take_false {α : Type} {p : α → Bool} {l : List α} {k : Nat} {f : α} (hf : l[k]? = some f) (hp : p f = false) : (l.take (k + 1)).filter p = (l.take k).filter p := by
 rw [List.take_add_one, hf, List.filter_append]; simp [hp]
theorem filter_take_le {α : Type} (p : α → Bool) (l : List α) (k : Nat) : ((l.take k).filter p).length ≤ k :=
 Nat.le_trans (List.length_filter_le _ _) (List.length_take_le _ _)
def OwnPost {α : Type} (enc : α → List Value) (E : TypeId) (m : Nat) (w : World) (l : List α) (e : Ending) (w' : World) : Prop :=
 ∃ ad cap, e = .returned (.slice ad l.length cap) ∧ w'.ownsRow w.heap.size E m (.slice ad l.length cap) l.length (l.flatMap enc) ∧ Below w.heap.size w w'
theorem cells_string : Tryz.prog.cellsOf 9 = 1 := by kernel_rfl
theorem cells_int : Tryz.prog.cellsOf 3 = 1 := by kernel_rfl
theorem cells_bool : Tryz.prog.cellsOf 4 = 1 := by kernel_rfl
end Go.Proofs.YtkonookacfmfgaaGreatDoor

namespace Go.Proofs.YtkonookacfmfgaaGreatDoor
open Go.RowKit
structure Turned (lo hi : Nat) (w w' : World) : Prop where
 os : w'.os = w.os
 tape : w'.tape = w.tape
 output : w'.output = w.output
 size : w'.heap.size = w.heap.size
 block : ∀ k, k < lo ∨ hi ≤ k → w'.heap[k]? = w.heap[k]?
theorem Turned.refl (lo hi : Nat) (w : World) : Turned lo hi w w := ⟨rfl, rfl, rfl, rfl, fun _ _ => rfl⟩
theorem Turned.below {lo hi : Nat} {w w' : World} (h : Turned lo hi w w') : Below lo w w' := ⟨h.os, h.tape, h.output, Nat.le_of_eq h.size.symm, fun k hk => h.block k (.inl hk)⟩
theorem Turned.setCell {lo hi : Nat} {w w' : World} (h : Turned lo hi w w') {a : Addr} (h1 : lo ≤ a.block) (h2 : a.block < hi) (u : Value) : Turned lo hi w (w'.setCell a u) :=
 ⟨h.os, h.tape, h.output, by rw [← h.size]; simp [World.setCell], fun k hk => (Below.heap_setCell _ _ _ _ (by omega)).trans (h.block k hk)⟩
theorem Turned.boxed {lo hi : Nat} {w w' : World} (h : Turned lo hi w w') {B : Nat} {t : TypeId} {u v : Value} (b : Boxed2 w B t u v) (hB : B < lo ∨ hi ≤ B) : Boxed2 w' B t u v := b.of_block (h.block B hB)
theorem owns_some {w : World} {base n c m : Nat} {e : TypeId} {a : Option Addr} {xs : List Value} (h : w.ownsRow base e m (.slice a n c) n xs) (hn : 0 < n) : ∃ g, a = some ⟨g, 0, none⟩ := by
 rcases h.2 with ⟨h', h0⟩ | ⟨g, cap, cur, h', _⟩
 ·omega
 ·exact ⟨g, (Value.slice.inj h').1⟩
end Go.Proofs.YtkonookacfmfgaaGreatDoor
