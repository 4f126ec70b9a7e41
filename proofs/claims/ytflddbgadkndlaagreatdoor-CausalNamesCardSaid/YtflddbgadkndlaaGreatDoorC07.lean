/-
  A variable that holds a contract, an expression; novationref09.Bare, Days. What the walk over the parts of a contract may lean on: the visitor's three functions, and what they keep. causal.leaves: a function is called at all nodes of an expression, in the order of the text. causal.silent: a visitor that notes nothing. The closures of causal.Causal.
-/
import Derived.Test.YtflddbgadkndlaaGreatDoorC06
import Derived.Test.YtflddbgadkndlaaGreatDoorC01
import Derived.Test.YtflddbgadkndlaaGreatDoorC04
import Derived.Test.YtflddbgadkndlaaGreatDoorC05
import Derived.Laws.EntriesVeiled
import Derived.BigRegion
namespace Go.Proofs.YtflddbgadkndlaaGreatDoor
open Go.RowKit

/-- The contract x in the variable at block B. -/
def CBox (W : World) (B : Nat) (x : Con) (es dd ss : Value) : Prop :=
  W.cell? ⟨B, 0, none⟩ = some (.int .u8 x.k) ∧ W.cell? ⟨B, 1, none⟩ = some (.string x.fr) ∧ W.cell? ⟨B, 2, none⟩ = some (.string x.rc) ∧ W.cell? ⟨B, 3, none⟩ = some (.string x.nm)
    ∧ W.cell? ⟨B, 4, none⟩ = some (.int .u8 x.ex.k) ∧ W.cell? ⟨B, 5, none⟩ = some (.string x.ex.ra) ∧ W.cell? ⟨B, 6, none⟩ = some (.string x.ex.nm) ∧ W.cell? ⟨B, 7, none⟩ = some (.int .i64 x.ex.d) ∧ W.cell? ⟨B, 8, none⟩ = some es
    ∧ W.cell? ⟨B, 9, none⟩ = some (.int .i64 x.d) ∧ W.cell? ⟨B, 10, none⟩ = some dd ∧ W.cell? ⟨B, 11, none⟩ = some ss
theorem CBox.new (w : World) (x : Con) (es dd ss : Value) (t : TypeId) : CBox (w.alloc (.cells #[.int .u8 x.k, .string x.fr, .string x.rc, .string x.nm, .int .u8 x.ex.k, .string x.ex.ra, .string x.ex.nm, .int .i64 x.ex.d, es, .int .i64 x.d, dd, ss] t)) w.heap.size x es dd ss :=
  ⟨by go_simp, by go_simp, by go_simp, by go_simp, by go_simp, by go_simp, by go_simp, by go_simp, by go_simp, by go_simp, by go_simp, by go_simp⟩
theorem CBox.lt {W : World} {B : Nat} {x : Con} {es dd ss : Value} (h : CBox W B x es dd ss) : B < W.heap.size := World.block_lt_of_cell? W _ h.1
theorem CBox.kept {W W' : World} {B : Nat} {x : Con} {es dd ss : Value} (h : CBox W B x es dd ss) (k : ∀ o u, W.cell? ⟨B, o, none⟩ = some u → W'.cell? ⟨B, o, none⟩ = some u) : CBox W' B x es dd ss := by
  obtain ⟨c0, c1, c2, c3, c4, c5, c6, c7, c8, c9, c10, c11⟩ := h
  exact ⟨k _ _ c0, k _ _ c1, k _ _ c2, k _ _ c3, k _ _ c4, k _ _ c5, k _ _ c6, k _ _ c7, k _ _ c8, k _ _ c9, k _ _ c10, k _ _ c11⟩
theorem CBox.below {W W' : World} {B n : Nat} {x : Con} {es dd ss : Value} (h : CBox W B x es dd ss) (hb : Below n W W') (hB : B < n) : CBox W' B x es dd ss :=
  h.kept fun o u hc => by rw [hb.cell (p := ⟨B, o, none⟩) hB]; exact hc
theorem CBox.low {W W' : World} {B : Nat} {x : Con} {es dd ss : Value} (h : CBox W B x es dd ss) (hb : Below W.heap.size W W') : CBox W' B x es dd ss := h.below hb h.lt
theorem CBox.far {W : World} {B : Nat} {x : Con} {es dd ss : Value} (h : CBox W B x es dd ss) {a : Addr} (ha : B ≠ a.block) (u : Value) : CBox (W.setCell a u) B x es dd ss :=
  h.kept fun o v hc => by rw [World.cell?_of_block (w := W) (Below.heap_setCell _ _ _ _ ha)]; exact hc
/-- The expression x in the variable at block B. -/
def EBox (W : World) (B : Nat) (x : Ex) (s : Value) : Prop :=
  W.cell? ⟨B, 0, none⟩ = some (.int .u8 x.k) ∧ W.cell? ⟨B, 1, none⟩ = some (.string x.ra) ∧ W.cell? ⟨B, 2, none⟩ = some (.string x.nm) ∧ W.cell? ⟨B, 3, none⟩ = some (.int .i64 x.d) ∧ W.cell? ⟨B, 4, none⟩ = some s
theorem EBox.new (w : World) (x : Ex) (s : Value) (t : TypeId) : EBox (w.alloc (.cells #[.int .u8 x.k, .string x.ra, .string x.nm, .int .i64 x.d, s] t)) w.heap.size x s :=
  ⟨by go_simp, by go_simp, by go_simp, by go_simp, by go_simp⟩
theorem EBox.lt {W : World} {B : Nat} {x : Ex} {s : Value} (h : EBox W B x s) : B < W.heap.size := World.block_lt_of_cell? W _ h.1
theorem EBox.kept {W W' : World} {B : Nat} {x : Ex} {s : Value} (h : EBox W B x s) (k : ∀ o u, W.cell? ⟨B, o, none⟩ = some u → W'.cell? ⟨B, o, none⟩ = some u) : EBox W' B x s := by
  obtain ⟨c0, c1, c2, c3, c4⟩ := h
  exact ⟨k _ _ c0, k _ _ c1, k _ _ c2, k _ _ c3, k _ _ c4⟩
theorem EBox.below {W W' : World} {B n : Nat} {x : Ex} {s : Value} (h : EBox W B x s) (hb : Below n W W') (hB : B < n) : EBox W' B x s :=
  h.kept fun o u hc => by rw [hb.cell (p := ⟨B, o, none⟩) hB]; exact hc
theorem EBox.low {W W' : World} {B : Nat} {x : Ex} {s : Value} (h : EBox W B x s) (hb : Below W.heap.size W W') : EBox W' B x s := h.below hb h.lt

set_option maxHeartbeats 1000000 in
set_option maxRecDepth 100000 in
theorem rbare_any (x : Ex) (s : Value) (w : World) (hs : RdE w x.sub s) :
    Calls Tryz.prog 141 #[x.val s] w fun e w' => e = .returned (.bool x.bare) ∧ Below w.heap.size w w' := by
  obtain ⟨ad, cap, rfl⟩ := hs.len
  clear hs
  unfold Ex.val
  go_enter Tryz.func141, Tryz.ntmps141
  go_wp2_with fail
  all_goals
    go_ret
    exact ⟨ret_bool' (by simp [Ex.bare, emp_nil, len_nil, *]), below_a1 _ _⟩

set_option maxHeartbeats 4000000 in
set_option maxRecDepth 100000 in
theorem rdays_any (l : List Int) (v : Value) (w : World) (hn : l.length ≤ 2000000) (hr : RdI w l v) :
    Calls Tryz.prog 144 #[v] w fun e w' => e = .returned (.bool (isDays l)) ∧ Below w.heap.size w w' := by
  have HR := Lib.hid hr
  obtain ⟨ad, cap, rfl, _⟩ := hr
  go_enter Tryz.func144, Tryz.ntmps144
  go_wp2_with fail
  go_loopw [3] (fun i wr => ∃ (k : Nat), k ≤ l.length ∧ i = .int .i64 (k : Int) ∧ Hid (risen l k) ∧ Below w.heap.size w wr) (fun i _ => l.length - (intOf i).toNat)
  case atStart => exact ⟨0, Nat.zero_le _, rfl, Lib.hid (fun j hj => by omega), Below.refl _ _⟩
  case round =>
    obtain ⟨k, hk, rfl, HRi, hbel⟩ := hrel
    by_cases hlt : k < l.length
    · obtain ⟨d, hd⟩ : ∃ d, l[k]? = some d := ⟨_, List.getElem?_eq_getElem hlt⟩
      obtain ⟨ad', cap', he, _, hr2⟩ := HR.out.frame hbel
      obtain ⟨rfl, _, rfl⟩ := Value.slice.inj he
      obtain ⟨b, off, rfl, c0⟩ := hr2 k d hd
      have hblk : b < wr.heap.size := World.block_lt_of_cell? wr _ c0
      have hk1 : (0 : Int) ≤ (k : Int) := by omega
      have hk2 : (k : Int) < (l.length : Int) := by omega
      have HW := Lib.hid (fun W => rday_any d W)
      have hzw := hbel.size
      clear he
      cases hday : isDay d with
      | false =>
        rw [hday] at HW
        have HF : Hid (isDays l = false) := Lib.hid (isDays_no hd (.inl hday))
        clear hd hday hr2
        go_wp2
        refine wp_region_ext (fun W' => W'.cell? ⟨b, off + k, none⟩ = some (.int .i64 d)) (fun W' hW' => hW'.cell (by go_simp)) (by kernel_rfl) (by kernel_rfl) ?_
        intro HCW
        repeat (first | go_big_quiet_skip | (go_big_quiet_want; apply Exists.intro; refine ⟨fun W hW => ?_, ?_⟩; (focus (have q0 := HCW W hW; go_simp; first | done | rfl | with_reducible exact ext_same HW.out W hW)); (simp only [Act.put, List.setIfInBounds_toArray, List.set_cons_zero, List.set_cons_succ]); go_big_quiet_on))
        refine wpQuiet_nil ?_
        intro W hW
        have hW := hW.below
        go_wp2
        go_ret
        exact ⟨ret_bool' HF.out.symm, hbel.trans (hW.mono hzw)⟩
      | true =>
        rw [hday] at HW
        cases k with
        | zero =>
          rw [Nat.add_zero] at c0
          have HN : Hid (risen l (0 + 1)) := Lib.hid (risen_succ HRi.out hd hday (fun i c e => by omega))
          clear hd hday hr2
          go_wp2
          refine wp_region_ext (fun W' => W'.cell? ⟨b, off, none⟩ = some (.int .i64 d)) (fun W' hW' => hW'.cell (by go_simp)) (by kernel_rfl) (by kernel_rfl) ?_
          intro HCW
          repeat (first | go_big_quiet_skip | (go_big_quiet_want; apply Exists.intro; refine ⟨fun W hW => ?_, ?_⟩; (focus (have q0 := HCW W hW; go_simp; first | done | rfl | with_reducible exact ext_same HW.out W hW)); (simp only [Act.put, List.setIfInBounds_toArray, List.set_cons_zero, List.set_cons_succ]); go_big_quiet_on))
          refine wpQuiet_nil ?_
          intro W hW
          have hW := hW.below
          go_wp2
          go_roundw
          case rel => exact ⟨1, by omega, by go_num, HN, hbel.trans (hW.mono hzw)⟩
          case measure => simp [intOf]; omega
        | succ j =>
          obtain ⟨c, hc⟩ : ∃ c, l[j]? = some c := ⟨_, List.getElem?_eq_getElem (by omega)⟩
          have c1 : wr.cell? ⟨b, off + j, none⟩ = some (.int .i64 c) := by
            obtain ⟨b', off', e, h⟩ := hr2 j c hc
            cases e
            exact h
          have ek : ((j + 1 : Nat) : Int) = (j : Int) + 1 := by omega
          have e1 : (j : Int) + 1 - 1 = (j : Int) := by omega
          have e2 : IntKind.i64.wrap ((j : Int) + 1 - 1) = (j : Int) := by rw [IntWalk.i64_in _ (by omega)]; omega
          have e3 : IntKind.i64.wrap (j : Int) = (j : Int) := IntWalk.i64_in _ (by omega)
          have e4 : ((j : Int) + 1).toNat = j + 1 := by omega
          have e5 : IntKind.i64.wrap ((j : Int) + 1 + 1) = (j : Int) + 1 + 1 := IntWalk.i64_in _ (by omega)
          have hj0 : decide ((0 : Int) < (j : Int) + 1) = true := by rw [decide_eq_true_eq]; omega
          have hj1 : (0 : Int) ≤ (j : Int) + 1 := by omega
          have hj2 : (j : Int) < (l.length : Int) := by omega
          have hj3 : j < l.length := by omega
          have hj4 : (j : Int) + 1 < (l.length : Int) := by omega
          rw [ek]
          rw [ek] at hk1 hk2
          clear ek
          by_cases hcd : d ≤ c
          · have HF : Hid (isDays l = false) := Lib.hid (isDays_no hd (.inr ⟨j, c, rfl, hc, hcd⟩))
            have u : decide (d ≤ c) = true := by simpa using hcd
            clear hd hday hc hr2
            go_wp2
            refine wp_region_ext (fun W' => W'.cell? ⟨b, off + (j + 1), none⟩ = some (.int .i64 d) ∧ W'.cell? ⟨b, off + j, none⟩ = some (.int .i64 c)) (fun W' hW' => ⟨hW'.cell (by go_simp), hW'.cell (by go_simp)⟩) (by kernel_rfl) (by kernel_rfl) ?_
            intro HCW
            repeat (first | go_big_quiet_skip | (go_big_quiet_want; apply Exists.intro; refine ⟨fun W hW => ?_, ?_⟩; (focus (obtain ⟨q0, q1⟩ := HCW W hW; go_simp; first | done | rfl | with_reducible exact ext_same HW.out W hW)); (simp only [Act.put, List.setIfInBounds_toArray, List.set_cons_zero, List.set_cons_succ]); go_big_quiet_on))
            refine wpQuiet_nil ?_
            intro W hW
            have hW := hW.below
            go_wp2
            go_ret
            exact ⟨ret_bool' HF.out.symm, hbel.trans (hW.mono hzw)⟩
          · have HN : Hid (risen l (j + 1 + 1)) := Lib.hid (risen_succ HRi.out hd hday (fun i c' e hc' => by
              obtain rfl : i = j := by omega
              obtain rfl := Option.some.inj (hc.symm.trans hc')
              omega))
            have u : decide (d ≤ c) = false := by rw [decide_eq_false_iff_not]; exact hcd
            clear hd hday hc hr2
            go_wp2
            refine wp_region_ext (fun W' => W'.cell? ⟨b, off + (j + 1), none⟩ = some (.int .i64 d) ∧ W'.cell? ⟨b, off + j, none⟩ = some (.int .i64 c)) (fun W' hW' => ⟨hW'.cell (by go_simp), hW'.cell (by go_simp)⟩) (by kernel_rfl) (by kernel_rfl) ?_
            intro HCW
            repeat (first | go_big_quiet_skip | (go_big_quiet_want; apply Exists.intro; refine ⟨fun W hW => ?_, ?_⟩; (focus (obtain ⟨q0, q1⟩ := HCW W hW; go_simp; first | done | rfl | with_reducible exact ext_same HW.out W hW)); (simp only [Act.put, List.setIfInBounds_toArray, List.set_cons_zero, List.set_cons_succ]); go_big_quiet_on))
            refine wpQuiet_nil ?_
            intro W hW
            have hW := hW.below
            go_wp2
            go_roundw
            case rel => exact ⟨j + 1 + 1, by omega, by go_num, HN, hbel.trans (hW.mono hzw)⟩
            case measure => simp [intOf]; omega
    · obtain rfl : k = l.length := by omega
      by_cases h1 : 1 ≤ l.length
      · by_cases h2 : l.length ≤ 100
        · have HF : Hid (isDays l = true) := Lib.hid ((isDays_iff l).2 ⟨h1, h2, HRi.out⟩)
          have t1 : decide ((1 : Int) ≤ (l.length : Int)) = true := by rw [decide_eq_true_eq]; omega
          have t2 : decide ((l.length : Int) ≤ 100) = true := by rw [decide_eq_true_eq]; omega
          go_wp2
          go_ret
          exact ⟨ret_bool' HF.out.symm, hbel⟩
        · have HF : Hid (isDays l = false) := Lib.hid (by rw [Bool.eq_false_iff]; intro h; exact h2 ((isDays_iff l).1 h).2.1)
          have t1 : decide ((1 : Int) ≤ (l.length : Int)) = true := by rw [decide_eq_true_eq]; omega
          have t2 : decide ((l.length : Int) ≤ 100) = false := by rw [decide_eq_false_iff_not]; omega
          have t3 : decide (l.length ≤ 100) = false := by rw [decide_eq_false_iff_not]; omega
          go_wp2
          go_ret
          exact ⟨ret_bool' HF.out.symm, hbel⟩
      · have HF : Hid (isDays l = false) := Lib.hid (by rw [Bool.eq_false_iff]; intro h; exact h1 ((isDays_iff l).1 h).1)
        have t1 : decide ((1 : Int) ≤ (l.length : Int)) = false := by rw [decide_eq_false_iff_not]; omega
        have t3 : decide (1 ≤ l.length) = false := by rw [decide_eq_false_iff_not]; omega
        go_wp2
        go_ret
        exact ⟨ret_bool' HF.out.symm, hbel⟩
end Go.Proofs.YtflddbgadkndlaaGreatDoor

namespace Go.Proofs.YtflddbgadkndlaaGreatDoor
open Go.RowKit

/-- Block b is the row of the slice in the variable at Bo. -/
def OwnB (Bo : Nat) (W : World) (b : Nat) : Prop := ∃ v, W.cell? ⟨Bo, 0, none⟩ = some v ∧ v.ownBlock = some b
theorem OwnB.low {Bo : Nat} {W W' : World} (hBo : Bo < W.heap.size) (h : Below W.heap.size W W') (b : Nat) : OwnB Bo W' b ↔ OwnB Bo W b := by
  unfold OwnB
  rw [h.cell (p := ⟨Bo, 0, none⟩) hBo]
/-- All below base is kept; what lies from D on too, but for the row behind Bo. -/
structure KeptO (base D Bo : Nat) (W W' : World) : Prop where
  below : Below base W W'
  cells : ∀ b, D ≤ b → b < W.heap.size → ¬ OwnB Bo W b → W'.heap[b]? = W.heap[b]? ∧ ¬ OwnB Bo W' b
section
variable {base D Bo : Nat}
theorem KeptO.refl (W : World) : KeptO base D Bo W W := ⟨Below.refl _ _, fun _ _ _ h => ⟨rfl, h⟩⟩
theorem KeptO.trans {a b c : World} (h : KeptO base D Bo a b) (k : KeptO base D Bo b c) : KeptO base D Bo a c :=
  ⟨h.below.trans k.below, fun i hi hl ho => by
    obtain ⟨h1, h2⟩ := h.cells i hi hl ho
    obtain ⟨k1, k2⟩ := k.cells i hi (Nat.lt_of_lt_of_le hl h.below.size) h2
    exact ⟨k1.trans h1, k2⟩⟩
theorem KeptO.of_below {W W' : World} (hb : base ≤ W.heap.size) (hBo : Bo < W.heap.size) (h : Below W.heap.size W W') : KeptO base D Bo W W' :=
  ⟨h.mono hb, fun i _ hl ho => ⟨h.block i hl, fun hh => ho ((OwnB.low hBo h i).1 hh)⟩⟩
/-- A variable of the walk's own. -/
def Prv (D Bo : Nat) (W : World) (B : Nat) : Prop := D ≤ B ∧ B < W.heap.size ∧ ¬ OwnB Bo W B
theorem Prv.kept {W W' : World} {B : Nat} (h : Prv D Bo W B) (k : KeptO base D Bo W W') : Prv D Bo W' B :=
  ⟨h.1, Nat.lt_of_lt_of_le h.2.1 k.below.size, (k.cells B h.1 h.2.1 h.2.2).2⟩
theorem Prv.cell {W W' : World} {B o : Nat} {v : Value} (h : Prv D Bo W B) (k : KeptO base D Bo W W') (hc : W.cell? ⟨B, o, none⟩ = some v) : W'.cell? ⟨B, o, none⟩ = some v := by
  rw [World.cell?_of_block (w := W) (k.cells B h.1 h.2.1 h.2.2).1]; exact hc
theorem Prv.low {W W' : World} {B : Nat} (h : Prv D Bo W B) (hBo : Bo < W.heap.size) (hb : Below W.heap.size W W') : Prv D Bo W' B :=
  ⟨h.1, Nat.lt_of_lt_of_le h.2.1 hb.size, fun hh => h.2.2 ((OwnB.low hBo hb B).1 hh)⟩
theorem Prv.new {W : World} (hD : D ≤ W.heap.size) (hBo : Bo < W.heap.size) (ho : ∀ b, OwnB Bo W b → b < W.heap.size) (o : Obj) : Prv D Bo (W.alloc o) W.heap.size :=
  ⟨hD, by simp, fun hh => by have := ho _ ((OwnB.low hBo (below_a1 W o) _).1 hh); omega⟩
theorem CBox.keptO {W W' : World} {B : Nat} {x : Con} {es dd ss : Value} (h : CBox W B x es dd ss) (hp : Prv D Bo W B) (k : KeptO base D Bo W W') : CBox W' B x es dd ss := h.kept fun _ _ hc => hp.cell k hc
theorem EBox.keptO {W W' : World} {B : Nat} {x : Ex} {s : Value} (h : EBox W B x s) (hp : Prv D Bo W B) (k : KeptO base D Bo W W') : EBox W' B x s := h.kept fun _ _ hc => hp.cell k hc
/-- Days that can be read, in old memory or in memory that is kept. -/
def DaysAt (base D Bo : Nat) (W : World) (ds : List Int) (v : Value) : Prop := RdI W ds v ∧ (ds ≠ [] → ∀ b, v.ownBlock = some b → b < base ∨ Prv D Bo W b)
theorem DaysAt.of_blocks {W W' : World} {ds : List Int} {v : Value} (h : DaysAt base D Bo W ds v) (h1 : ∀ b, b < base → W'.heap[b]? = W.heap[b]?) (h2 : ∀ b, Prv D Bo W b → W'.heap[b]? = W.heap[b]? ∧ Prv D Bo W' b) : DaysAt base D Bo W' ds v := by
  obtain ⟨⟨ad, cap, rfl, hc, hr⟩, ho⟩ := h
  refine ⟨⟨ad, cap, rfl, hc, fun j d hj => ?_⟩, fun hne b hb => ?_⟩
  · obtain ⟨b, off, rfl, hcell⟩ := hr j d hj
    refine ⟨b, off, rfl, ?_⟩
    have hb : W'.heap[b]? = W.heap[b]? := by
      rcases ho (by rintro rfl; simp at hj) b rfl with hb | hb
      · exact h1 b hb
      · exact (h2 b hb).1
    rw [World.cell?_of_block (w := W) hb]
    exact hcell
  · rcases ho hne b hb with h | h
    · exact .inl h
    · exact .inr (h2 b h).2
theorem DaysAt.kept {W W' : World} {ds : List Int} {v : Value} (h : DaysAt base D Bo W ds v) (k : KeptO base D Bo W W') : DaysAt base D Bo W' ds v :=
  h.of_blocks (fun b hb => k.below.block b hb) fun b hb => ⟨(k.cells b hb.1 hb.2.1 hb.2.2).1, hb.kept k⟩
theorem DaysAt.low {W W' : World} {ds : List Int} {v : Value} (h : DaysAt base D Bo W ds v) (hB : base ≤ W.heap.size) (hBo : Bo < W.heap.size) (hb : Below W.heap.size W W') : DaysAt base D Bo W' ds v :=
  h.kept (KeptO.of_below hB hBo hb)
end

/-- The visitor's functions: each notes one part more. -/
structure VisOk (w0 : World) (D Bo : Nat) (full : List Ev) (J : List Ev → World → Prop) (fe fc fp : Nat) (ce cc cp : Array Value) : Prop where
  frame : ∀ pre W W', J pre W → Below W.heap.size W W' → J pre W'
  own : ∀ pre W, J pre W → ∀ b, OwnB Bo W b → b < W.heap.size
  box : ∀ pre W, J pre W → Bo < W.heap.size
  ee : ∀ args w, (callFunc fe args).run Tryz.prog w = .ok (.enter fe args) w
  ec : ∀ args w, (callFunc fc args).run Tryz.prog w = .ok (.enter fc args) w
  ep : ∀ args w, (callFunc fp args).run Tryz.prog w = .ok (.enter fp args) w
  expr : ∀ pre x s ds v W, J pre W → Below w0.heap.size w0 W → D ≤ W.heap.size → RdE w0 x.sub s → x.bulk ≤ 2000000 → ds.length ≤ 2000000 → DaysAt w0.heap.size D Bo W ds v → pre ++ [.expr x ds] <+: full →
    Calls Tryz.prog fe (#[x.val s, v] ++ ce) W fun e W' => e = .returned (.tuple #[]) ∧ J (pre ++ [.expr x ds]) W' ∧ KeptO w0.heap.size D Bo W W'
  choice : ∀ pre p n ds v W, J pre W → Below w0.heap.size w0 W → D ≤ W.heap.size → ds.length ≤ 2000000 → DaysAt w0.heap.size D Bo W ds v → pre ++ [.choice p n ds] <+: full →
    Calls Tryz.prog fc (#[.string p, .string n, v] ++ cc) W fun e W' => e = .returned (.tuple #[]) ∧ J (pre ++ [.choice p n ds]) W' ∧ KeptO w0.heap.size D Bo W W'
  pay : ∀ pre ds v W, J pre W → Below w0.heap.size w0 W → D ≤ W.heap.size → ds.length ≤ 2000000 → DaysAt w0.heap.size D Bo W ds v → pre ++ [.pay ds] <+: full →
    Calls Tryz.prog fp (#[v] ++ cp) W fun e W' => e = .returned (.tuple #[]) ∧ J (pre ++ [.pay ds]) W' ∧ KeptO w0.heap.size D Bo W W'
end Go.Proofs.YtflddbgadkndlaaGreatDoor

namespace Go.Proofs.YtflddbgadkndlaaGreatDoor
open Go.RowKit

theorem Ex.nodess_take {l : List Ex} {k : Nat} {x : Ex} (h : l[k]? = some x) : ∃ r, Ex.nodess l = Ex.nodess (l.take k) ++ (x.nodes ++ r) := by
  refine ⟨Ex.nodess (l.drop (k + 1)), ?_⟩
  rw [← List.append_assoc, ← Ex.nodess_snoc h, ← Ex.nodess_append, List.take_append_drop]

/-- A function that notes one node more. -/
structure LeafOk (w0 : World) (D Bo : Nat) (full : List Ex) (K : List Ex → World → Prop) (f : Nat) (cf : Array Value) : Prop where
  frame : ∀ pre W W', K pre W → Below W.heap.size W W' → K pre W'
  own : ∀ pre W, K pre W → ∀ b, OwnB Bo W b → b < W.heap.size
  box : ∀ pre W, K pre W → Bo < W.heap.size
  ef : ∀ args w, (callFunc f args).run Tryz.prog w = .ok (.enter f args) w
  call : ∀ pre y sy W, K pre W → Below w0.heap.size w0 W → D ≤ W.heap.size → RdE w0 y.sub sy → pre ++ [y] <+: full →
    Calls Tryz.prog f (#[y.val sy] ++ cf) W fun e W' => e = .returned (.tuple #[]) ∧ K (pre ++ [y]) W' ∧ KeptO w0.heap.size D Bo W W'

set_option maxHeartbeats 4000000 in
set_option maxRecDepth 100000 in
theorem leaves_any (w0 : World) (D Bo : Nat) (full : List Ex) (K : List Ex → World → Prop) (f : Nat) (cf : Array Value) (hL : LeafOk w0 D Bo full K f cf) :
    ∀ (N : Nat) (x : Ex) (s : Value) (pre : List Ex) (W : World), x.bulk ≤ N → x.bulk ≤ 2000000 → RdE w0 x.sub s → Below w0.heap.size w0 W → D ≤ W.heap.size → K pre W → pre ++ x.nodes <+: full →
      Calls Tryz.prog 33 #[x.val s, .func (.func f) #[] cf] W fun e W' => e = .returned (.tuple #[]) ∧ K (pre ++ x.nodes) W' ∧ KeptO w0.heap.size D Bo W W' := by
  intro N
  induction N with
  | zero =>
    intro x s pre W h0
    rw [Ex.bulk_eq] at h0
    omega
  | succ N ih =>
    intro x s pre W hN hB hs hbW hDW hK hpf
    obtain ⟨ad, cap, rfl⟩ := hs.len
    have hbo := hL.box _ _ hK
    have hob := hL.own _ _ hK
    have hlen := Ex.bulks_len x.sub
    have hlt0 := x.sub_lt
    have hn : x.sub.length ≤ 2000000 := by omega
    have hbA := below_a1 W (.cells #[.int .u8 x.k, .string x.ra, .string x.nm, .int .i64 x.d, .slice ad x.sub.length cap] 25)
    have hk0 : KeptO w0.heap.size D Bo W (W.alloc (.cells #[.int .u8 x.k, .string x.ra, .string x.nm, .int .i64 x.d, .slice ad x.sub.length cap] 25)) := KeptO.of_below hbW.size hbo hbA
    have hpB := Prv.new hDW hbo hob (.cells #[.int .u8 x.k, .string x.ra, .string x.nm, .int .i64 x.d, .slice ad x.sub.length cap] 25)
    have hK0 := hL.frame _ _ _ hK hbA
    have HBX := Lib.hid (EBox.new W x (.slice ad x.sub.length cap) 25)
    rw [Ex.nodes_eq] at hpf ⊢
    have HPF := Lib.hid hpf
    have hpf1 : pre ++ [x] <+: full := by
      obtain ⟨r, hr⟩ := hpf
      exact ⟨Ex.nodess x.sub ++ r, by rw [← hr]; simp⟩
    have HC := Lib.hid (hL.call pre x _ _ hK0 (hbW.trans hk0.below) (Nat.le_trans hDW hbA.size) hs hpf1)
    have HIH := Lib.hid ih
    have HS := Lib.hid hs
    have hef := hL.ef
    have HFin : Hid (pre ++ [x] ++ Ex.nodess x.sub = pre ++ (x :: Ex.nodess x.sub)) := Lib.hid (by simp)
    unfold Ex.val at HC ⊢
    clear ih hs hpf hpf1 hK hK0 hob
    go_enter Tryz.func33, Tryz.ntmps33
    go_wp2_with fail
    refine HC.out.mono ?_
    rintro e W1 ⟨rfl, hK1, hk1⟩
    obtain ⟨c0, c1, c2, c3, c4⟩ := HBX.out.keptO hpB hk1
    have hlB : W.heap.size < W1.heap.size := World.block_lt_of_cell? W1 _ c0
    have hkk := hk0.trans hk1
    have HK1 : Hid (K (pre ++ [x] ++ Ex.nodess (x.sub.take 0)) W1) := Lib.hid (by simpa [Ex.nodess] using hK1)
    clear HC hk1 hk0 hpB hK1 hbA
    go_wp2_with fail
    go_loopw [12] (fun i wr => ∃ k : Nat, k ≤ x.sub.length ∧ i = .int .i64 (k : Int) ∧ Hid (K (pre ++ [x] ++ Ex.nodess (x.sub.take k)) wr) ∧ KeptO w0.heap.size D Bo W wr) (fun i _ => x.sub.length - (intOf i).toNat)
    case atStart => exact ⟨0, Nat.zero_le _, rfl, HK1, hkk⟩
    case round =>
      clear HK1 hkk c0 c1 c2 c3 c4 hlB
      obtain ⟨k, hk, rfl, HKr, hkr⟩ := hrel
      by_cases hlt : k < x.sub.length
      · obtain ⟨y, hyk⟩ : ∃ y, x.sub[k]? = some y := ⟨_, List.getElem?_eq_getElem hlt⟩
        have hbwr := hbW.trans hkr.below
        have hDr : D ≤ wr.heap.size := Nat.le_trans hDW hkr.below.size
        obtain ⟨b, off, s', rfl, c0, c1, c2, c3, c4, hs0, _⟩ := HS.out.at hyk
        have lift : ∀ o u, w0.cell? ⟨b, o, none⟩ = some u → wr.cell? ⟨b, o, none⟩ = some u := fun o u h => by
          rw [hbwr.cell (p := ⟨b, o, none⟩) (World.block_lt_of_cell? w0 _ h)]; exact h
        replace c0 := lift _ _ c0
        replace c1 := lift _ _ c1
        replace c2 := lift _ _ c2
        replace c3 := lift _ _ c3
        replace c4 := lift _ _ c4
        clear lift
        obtain ⟨ad', cap', rfl⟩ := hs0.len
        have hym := Ex.mem_lt (List.mem_of_getElem? hyk)
        have hblk : b < wr.heap.size := World.block_lt_of_cell? wr _ c0
        have hk1 : (0 : Int) ≤ (k : Int) := by omega
        have hk2 : (k : Int) < (x.sub.length : Int) := by omega
        have hbor := hL.box _ _ HKr.out
        have hka : KeptO w0.heap.size D Bo wr (wr.alloc (.cells #[.int .u8 y.k, .string y.ra, .string y.nm, .int .i64 y.d, .slice ad' y.sub.length cap'] 25)) := KeptO.of_below hbwr.size hbor (below_a1 _ _)
        have hKa := hL.frame _ _ _ HKr.out (below_a1 wr (.cells #[.int .u8 y.k, .string y.ra, .string y.nm, .int .i64 y.d, .slice ad' y.sub.length cap'] 25))
        have HSn := Lib.hid (Ex.nodess_snoc hyk)
        have hpfy : pre ++ [x] ++ Ex.nodess (x.sub.take k) ++ y.nodes <+: full := by
          obtain ⟨r, hr⟩ := Ex.nodess_take hyk
          obtain ⟨r2, hr2⟩ := HPF.out
          exact ⟨r ++ r2, by rw [← hr2, hr]; simp [List.append_assoc]⟩
        have HC := Lib.hid (HIH.out y _ (pre ++ [x] ++ Ex.nodess (x.sub.take k)) _ (by omega) (by omega) hs0 (hbwr.trans hka.below) (Nat.le_trans hDr hka.below.size) hKa hpfy)
        have HKA := Lib.hid (hkr.trans hka)
        unfold Ex.val at HC
        clear hyk hym hs0 hpfy hKa hka
        go_wp2_with fail
        refine HC.out.mono ?_
        rintro e W4 ⟨rfl, hK4, hk4⟩
        have HK4 : Hid (K (pre ++ [x] ++ Ex.nodess (x.sub.take (k + 1))) W4) := Lib.hid (by rw [HSn.out, ← List.append_assoc]; exact hK4)
        have hk5 := HKA.out.trans hk4
        clear hK4 hk4 HC c0 c1 c2 c3 c4
        go_wp2
        go_roundw
        case rel => exact ⟨k + 1, by omega, by go_num, HK4, hk5⟩
        case measure => simp [intOf]; omega
      · obtain rfl : k = x.sub.length := by omega
        have HF : Hid (K (pre ++ (x :: Ex.nodess x.sub)) wr ∧ KeptO w0.heap.size D Bo W wr) := Lib.hid ⟨by
          have h := HKr.out
          rw [List.take_length, HFin.out] at h
          exact h, hkr⟩
        go_wp2
        go_end0
        exact ⟨rfl, HF.out.1, HF.out.2⟩
end Go.Proofs.YtflddbgadkndlaaGreatDoor

namespace Go.Proofs.YtflddbgadkndlaaGreatDoor
open Go.RowKit

set_option maxRecDepth 100000 in
theorem silent1_any (x : Ex) (s v : Value) (w0 w : World) (hs : RdE w0 x.sub s) : Calls Tryz.prog 60 #[x.val s, v] w fun e w' => e = .returned (.tuple #[]) ∧ Below w.heap.size w w' := by
  obtain ⟨ad, cap, rfl⟩ := hs.len
  clear hs
  unfold Ex.val
  go_enter Tryz.func60, Tryz.ntmps60
  go_wp2
  go_end0
  exact ⟨rfl, below_a1 _ _⟩
set_option maxRecDepth 100000 in
theorem silent2_any (p n : ByteArray) (v : Value) (w : World) : Calls Tryz.prog 61 #[.string p, .string n, v] w fun e w' => e = .returned (.tuple #[]) ∧ w = w' := by
  go_enter Tryz.func61, Tryz.ntmps61
  go_wp2
  go_end0
  exact ⟨rfl, rfl⟩
set_option maxRecDepth 100000 in
theorem silent3_any (v : Value) (w : World) : Calls Tryz.prog 62 #[v] w fun e w' => e = .returned (.tuple #[]) ∧ w = w' := by
  go_enter Tryz.func62, Tryz.ntmps62
  go_wp2
  go_end0
  exact ⟨rfl, rfl⟩
set_option maxRecDepth 100000 in
theorem silent_any (w : World) : Calls Tryz.prog 31 #[] w fun e w' => e = .returned (.agg #[.func (.func 60) #[] #[], .func (.func 61) #[] #[], .func (.func 62) #[] #[]]) ∧ Below w.heap.size w w' := by
  go_enter Tryz.func31, Tryz.ntmps31
  go_wp2
  refine bodyPost_ret (v := .agg #[.func (.func 60) #[] #[], .func (.func 61) #[] #[], .func (.func 62) #[] #[]]) (by simp [results, Tryz.results31, go_sem]) rfl ?_
  exact ⟨rfl, below_a1 _ _⟩
end Go.Proofs.YtflddbgadkndlaaGreatDoor

namespace Go.Proofs.YtflddbgadkndlaaGreatDoor
open Go.RowKit

/-- What the closure keeps from node to node. -/
def LKey (w0 : World) (D Bo Bd : Nat) (b0 : Bool) (ds : List Int) (vds : Value) (pre : List Ex) (W : World) : Prop :=
  Boxed W Bo 4 (.bool (b0 || pre.any (xLate ds))) ∧ W.cell? ⟨Bd, 0, none⟩ = some vds ∧ Prv D Bo W Bd ∧ DaysAt w0.heap.size D Bo W ds vds
theorem Boxed.low {W W' : World} {B : Nat} {t : TypeId} {v : Value} (h : Boxed W B t v) (hb : Below W.heap.size W W') : Boxed W' B t v := (hb.block _ h.lt).trans h
theorem LKey.frame {w0 : World} {D Bo Bd : Nat} {b0 : Bool} {ds : List Int} {vds : Value} {pre : List Ex} {W W' : World} (h : LKey w0 D Bo Bd b0 ds vds pre W) (hB : w0.heap.size ≤ W.heap.size) (hb : Below W.heap.size W W') : LKey w0 D Bo Bd b0 ds vds pre W' := by
  obtain ⟨h1, h2, h3, h4⟩ := h
  exact ⟨Boxed.low h1 hb, by rw [hb.cell (p := ⟨Bd, 0, none⟩) h3.2.1]; exact h2, h3.low h1.lt hb, h4.low hB h1.lt hb⟩
theorem notOwn_bool {Bo : Nat} {W : World} {b : Bool} {t : TypeId} (h : Boxed W Bo t (.bool b)) (k : Nat) : ¬ OwnB Bo W k := by
  rintro ⟨v, hv, hk⟩
  rw [h.cell] at hv
  cases hv
  simp [Value.ownBlock] at hk
/-- A truth value stored. -/
theorem LKey.step {w0 : World} {D Bo Bd : Nat} {b0 : Bool} {ds : List Int} {vds : Value} {pre : List Ex} {W : World} (h : LKey w0 D Bo Bd b0 ds vds pre W) (hBo : w0.heap.size ≤ Bo) (hBD : Bo < D) (y : Ex) (b : Bool) (hb : b = (b0 || pre.any (xLate ds) || xLate ds y)) :
    LKey w0 D Bo Bd b0 ds vds (pre ++ [y]) (W.drew.setCell ⟨Bo, 0, none⟩ (.bool b)) ∧ KeptO w0.heap.size D Bo W (W.drew.setCell ⟨Bo, 0, none⟩ (.bool b)) := by
  obtain ⟨h1, h2, h3, h4⟩ := h
  have h1d : Boxed W.drew Bo 4 (.bool (b0 || pre.any (xLate ds))) := h1
  have hs : Boxed (W.drew.setCell ⟨Bo, 0, none⟩ (.bool b)) Bo 4 (.bool b) := h1d.set _
  have hk : KeptO w0.heap.size D Bo W (W.drew.setCell ⟨Bo, 0, none⟩ (.bool b)) := by
    refine ⟨(Below.refl _ W).drew.setCell (p := ⟨Bo, 0, none⟩) hBo _, fun k hD hl _ => ⟨?_, notOwn_bool hs k⟩⟩
    rw [Below.heap_setCell _ _ _ _ (show k ≠ Bo by omega)]
    rfl
  refine ⟨⟨?_, h3.cell hk h2, h3.kept hk, h4.kept hk⟩, hk⟩
  have e : (b0 || (pre ++ [y]).any (xLate ds)) = b := by rw [hb, List.any_append, List.any_cons, List.any_nil, Bool.or_false, Bool.or_assoc]
  rw [e]
  exact hs

set_option maxHeartbeats 4000000 in
set_option maxRecDepth 100000 in
theorem latef_any (w0 : World) (D Bo Bd : Nat) (b0 : Bool) (ds : List Int) (vds : Value) (pre : List Ex) (y : Ex) (sy : Value) (W : World) (hBo : w0.heap.size ≤ Bo) (hBD : Bo < D)
    (hK : LKey w0 D Bo Bd b0 ds vds pre W) (hbW : Below w0.heap.size w0 W) (hsy : RdE w0 y.sub sy) :
    Calls Tryz.prog 48 #[y.val sy, .pointer (some ⟨Bo, 0, none⟩), .pointer (some ⟨Bd, 0, none⟩)] W fun e W' => e = .returned (.tuple #[]) ∧ LKey w0 D Bo Bd b0 ds vds (pre ++ [y]) W' ∧ KeptO w0.heap.size D Bo W W' := by
  obtain ⟨ad, cap, rfl⟩ := hsy.len
  have hbo := hK.1.lt
  have hbA := below_a1 W (.cells #[.int .u8 y.k, .string y.ra, .string y.nm, .int .i64 y.d, .slice ad y.sub.length cap] 25)
  have hk0 : KeptO w0.heap.size D Bo W (W.alloc (.cells #[.int .u8 y.k, .string y.ra, .string y.nm, .int .i64 y.d, .slice ad y.sub.length cap] 25)) := KeptO.of_below hbW.size hbo hbA
  have hbx := EBox.new W y (.slice ad y.sub.length cap) 25
  have hK0 := hK.frame hbW.size hbA
  unfold Ex.val
  obtain ⟨W1, hW1⟩ : ∃ W1, W.alloc (.cells #[.int .u8 y.k, .string y.ra, .string y.nm, .int .i64 y.d, .slice ad y.sub.length cap] 25) = W1 := ⟨_, rfl⟩
  have hlW : W.heap.size < W1.heap.size := by rw [← hW1]; simp
  rw [hW1] at hbA hk0 hbx hK0
  obtain ⟨lt, hlt⟩ : ∃ lt, (b0 || pre.any (xLate ds)) = lt := ⟨_, rfl⟩
  have HF := Lib.hid fun (b : Bool) (hb : b = (lt || xLate ds y)) => (hK0.step hBo hBD y b (by rw [hlt]; exact hb)).imp id hk0.trans
  obtain ⟨hbv, hcd1, hpd1, hda1⟩ := hK0
  rw [hlt] at hbv
  have hcv := hbv.cell
  have hfz := hbv.frozen
  have hlBo := hbv.lt
  have hlBd := hpd1.2.1
  go_enter Tryz.func48, Tryz.ntmps48
  go_upto_region 1 with fail
  obtain ⟨c0, c1, c2, c3, c4⟩ := hbx
  obtain ⟨adv, capv, rfl, _, hrd⟩ := hda1.1
  clear hbv hda1 hpd1 hK hk0 hbA hlt
  cases lt with
  | true =>
    have hN := HF.out true (by simp)
    have HN := Lib.hid hN
    clear hN hrd
    go_region
    all_goals
      go_wp2
      go_end0
      exact ⟨rfl, HN.out.1, HN.out.2⟩
  | false =>
    by_cases h2 : y.k = 2
    · have t2 : ((y.k : Int) == 2) = true := by rw [h2]; rfl
      cases ds with
      | nil =>
        have HN := Lib.hid (HF.out false (by simp [xLate]))
        clear hrd h2
        go_region
        all_goals
          go_wp2
          go_end0
          exact ⟨rfl, HN.out.1, HN.out.2⟩
      | cons d0 dr =>
        obtain ⟨b, off, rfl, hc0⟩ := hrd 0 d0 rfl
        rw [Nat.add_zero] at hc0
        have tl : decide ((0 : Int) < (dr.length : Int) + 1) = true := by rw [decide_eq_true_eq]; omega
        have HN := Lib.hid (HF.out (decide (d0 < y.d)) (by simp [xLate, h2]))
        have hbl : b < W1.heap.size := World.block_lt_of_cell? W1 _ hc0
        clear hrd h2
        go_region
        all_goals
          go_wp2
          go_end0
          exact ⟨rfl, HN.out.1, HN.out.2⟩
    · have t2 : ((y.k : Int) == 2) = false := by simp; omega
      have HN := Lib.hid (HF.out false (by unfold xLate; split <;> simp [h2]))
      clear hrd h2
      go_region
      all_goals
        go_wp2
        go_end0
        exact ⟨rfl, HN.out.1, HN.out.2⟩
end Go.Proofs.YtflddbgadkndlaaGreatDoor
