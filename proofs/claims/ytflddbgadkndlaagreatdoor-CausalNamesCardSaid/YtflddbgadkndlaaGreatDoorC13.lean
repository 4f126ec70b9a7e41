/-
  slices.IndexFunc, slices.ContainsFunc and observable.ordered at fixings and at choices.  Printed by tools/genidx.py. Facts of the types of knowledge; what a call that hands back knowledge of its own answers. A world whose blocks of one's own are turned; rows of one's own as lists that can be read. A round that writes into one element of a row of the call's own. slices.SortFunc and slices.Compact on a row of the call's own: the plain part.
-/
import Derived.Test.YtflddbgadkndlaaGreatDoorC12
import Derived.Test.YtflddbgadkndlaaGreatDoorC01
import Derived.Maps.AppendAt
import Derived.Test.YtflddbgadkndlaaGreatDoorC04
import Derived.Test.YtflddbgadkndlaaGreatDoorC08
import Derived.Test.YtflddbgadkndlaaGreatDoorC05
import Derived.Laws.IdiomCopy
namespace Go.Proofs.YtflddbgadkndlaaGreatDoor
open Go.RowKit

def idxR : Option Nat → Int
  | some k => (k : Int)
  | none => -1
theorem idxR_any {α : Type} (p : α → Bool) (l : List α) : decide ((0 : Int) ≤ idxR (l.findIdx? p)) = l.any p := by
  rw [Bool.eq_iff_iff, decide_eq_true_eq, List.any_eq_true]
  constructor
  · intro h
    cases hf : l.findIdx? p with
    | none => rw [hf] at h; simp [idxR] at h
    | some k =>
      obtain ⟨hk, h1, _⟩ := List.findIdx?_eq_some_iff_getElem.1 hf
      exact ⟨_, List.getElem_mem hk, h1⟩
  · intro ⟨x, hx, hp⟩
    cases hf : l.findIdx? p with
    | none => exact absurd hp (by simpa using List.findIdx?_eq_none_iff.1 hf x hx)
    | some k => simp [idxR]
theorem findIdx_some {α : Type} {p : α → Bool} {l : List α} {k : Nat} {x : α} (hk : l[k]? = some x) (hp : p x = true) (ha : ∀ y ∈ l.take k, p y = false) : l.findIdx? p = some k := by
  obtain ⟨hlt, rfl⟩ := List.getElem?_eq_some_iff.1 hk
  refine List.findIdx?_eq_some_iff_getElem.2 ⟨hlt, hp, fun j hj => ?_⟩
  have := ha l[j] (List.mem_take_iff_getElem.2 ⟨j, by omega, rfl⟩)
  simpa using this
theorem findIdx_none {α : Type} {p : α → Bool} {l : List α} (ha : ∀ y ∈ l, p y = false) : l.findIdx? p = none := List.findIdx?_eq_none_iff.2 ha
theorem all_take_succ {α : Type} {p : α → Bool} {l : List α} {k : Nat} {x : α} (hk : l[k]? = some x) (hp : p x = false) (ha : ∀ y ∈ l.take k, p y = false) : ∀ y ∈ l.take (k + 1), p y = false := by
  intro y hy
  rw [List.take_add_one, hk] at hy
  rcases List.mem_append.1 hy with h | h
  · exact ha y h
  · simp at h; subst h; exact hp
/-- Each element is before the next. -/
def incB {α : Type} (lt : α → α → Bool) : List α → Bool
  | x :: y :: l => lt x y && incB lt (y :: l)
  | _ => true
theorem incB_take {α : Type} {lt : α → α → Bool} : ∀ {l : List α} {k : Nat}, incB lt l = true → incB lt (l.take k) = true
  | [], k, _ => by cases k <;> rfl
  | [x], k, _ => by cases k with | zero => rfl | succ k => cases k <;> rfl
  | x :: y :: l, 0, _ => rfl
  | x :: y :: l, 1, _ => rfl
  | x :: y :: l, k + 2, h => by
    rw [incB, Bool.and_eq_true] at h
    show (lt x y && incB lt ((y :: l).take (k + 1))) = true
    rw [h.1, incB_take h.2]; rfl
theorem incB_snoc {α : Type} {lt : α → α → Bool} : ∀ {l : List α} {k : Nat} {x y : α}, l[k]? = some x → l[k + 1]? = some y → incB lt (l.take (k + 2)) = (incB lt (l.take (k + 1)) && lt x y)
  | [], k, x, y, h, _ => by simp at h
  | [a], 0, x, y, h, h2 => by simp at h2
  | [a], k + 1, x, y, h, _ => by simp at h
  | a :: b :: l, 0, x, y, h, h2 => by
    simp at h h2; subst h h2
    show (lt a b && incB lt [b]) = (incB lt [a] && lt a b)
    simp [incB]
  | a :: b :: l, k + 1, x, y, h, h2 => by
    show (lt a b && incB lt ((b :: l).take (k + 2))) = ((lt a b && incB lt ((b :: l).take (k + 1))) && lt x y)
    rw [incB_snoc (l := b :: l) (k := k) (by simpa using h) (by simpa using h2), Bool.and_assoc]
theorem incB_le_one {α : Type} {lt : α → α → Bool} {l : List α} (h : l.length ≤ 1) : incB lt l = true := by
  match l, h with
  | [], _ => rfl
  | [_], _ => rfl
theorem incB_false_of_take {α : Type} {lt : α → α → Bool} {l : List α} {k : Nat} (h : incB lt (l.take k) = false) : incB lt l = false := by
  rw [Bool.eq_false_iff] at h ⊢
  exact fun hh => h (incB_take hh)
def Fx.lt (a b : Fx) : Bool := fxLt a.nm a.d b.nm b.d
def Ch.lt (a b : Ch) : Bool := chLt a.pt a.nm a.d b.pt b.nm b.d
def Fx.small (f : Fx) : Prop := f.nm.size ≤ 1100000 ∧ f.vl.size ≤ 1100000
def Ch.small (c : Ch) : Prop := c.pt.size ≤ 1100000 ∧ c.nm.size ≤ 1100000

set_option maxHeartbeats 1000000 in
set_option maxRecDepth 100000 in
theorem indexFx_any (l : List Fx) (ad : Option Addr) (cap : Nat) (w : World) (hn : l.length ≤ 1100000) (hr : Rd Fx.cells 3 w ad l) (hsm : ∀ f ∈ l, f.small) :
    Calls Tryz.prog 116 #[.slice ad l.length cap, .func (.func 80) #[] #[]] w fun e w' => e = .returned (.int .i64 (idxR (l.findIdx? fxBad))) ∧ Below w.heap.size w w' := by
  have HS := Lib.hid hsm
  have HD := Lib.hid hr
  clear hsm hr
  go_enter Tryz.func116, Tryz.ntmps116
  go_wp2
  go_loopw [8] (fun i wr => ∃ k : Nat, k ≤ l.length ∧ i = .int .i64 k ∧ Hid (∀ y ∈ l.take k, fxBad y = false) ∧ Below w.heap.size w wr) (fun i _ => l.length - (intOf i).toNat)
  case atStart => exact ⟨0, Nat.zero_le _, rfl, Lib.hid (by simp), Below.refl _ _⟩
  case round =>
    obtain ⟨k, hk, rfl, Hall, hbel⟩ := hrel
    by_cases hlt : k < l.length
    · obtain ⟨f, hf⟩ : ∃ f, l[k]? = some f := ⟨_, List.getElem?_eq_getElem hlt⟩
      have hfm : f ∈ l := List.mem_of_getElem? hf
      have HRf : Hid (∃ b off, ad = some ⟨b, off, none⟩ ∧ _) := ((HD.out.below hbel).fx hf)
      have HC := Lib.hid (fun W => fixCl_any f W (HS.out f hfm).1 (HS.out f hfm).2)
      have HF := Lib.hid hf
      clear hf hfm
      obtain ⟨b, off, rfl, hc1, hc2, hc3⟩ := HRf
      have hsz := hbel.size
      simp only [Fx.val, fxV] at HC
      cases hp : fxBad f with
      | true =>
        have HR : Hid (l.findIdx? fxBad = some k) := findIdx_some HF.out hp Hall.out
        rw [hp] at HC
        clear hp
        go_wp2_with (go_at_call 80; refine (HC.out _).mono ?_; rintro e w1 ⟨rfl, hb1⟩)
        go_ret
        exact ⟨by rw [HR.out]; rfl, hbel.trans (hb1.mono hsz)⟩
      | false =>
        have Hall2 : Hid (∀ y ∈ l.take (k + 1), fxBad y = false) := all_take_succ HF.out hp Hall.out
        rw [hp] at HC
        clear hp
        go_wp2_with (go_at_call 80; refine (HC.out _).mono ?_; rintro e w1 ⟨rfl, hb1⟩)
        go_roundw
        case rel => exact ⟨k + 1, by omega, by go_num, Hall2, hbel.trans (hb1.mono hsz)⟩
        case measure => simp [intOf]; omega
    · obtain rfl : k = l.length := by omega
      have HR : Hid (l.findIdx? fxBad = none) := findIdx_none (by have := Hall.out; rwa [List.take_length] at this)
      go_wp2
      go_ret
      exact ⟨by rw [HR.out]; rfl, hbel⟩

set_option maxRecDepth 100000 in
theorem containsFx_any (l : List Fx) (ad : Option Addr) (cap : Nat) (w : World) (hn : l.length ≤ 1100000) (hr : Rd Fx.cells 3 w ad l) (hsm : ∀ f ∈ l, f.small) :
    Calls Tryz.prog 85 #[.slice ad l.length cap, .func (.func 80) #[] #[]] w fun e w' => e = .returned (.bool (l.any fxBad)) ∧ Below w.heap.size w w' := by
  have HI := Lib.hid (indexFx_any l ad cap w hn hr hsm)
  have HE := Lib.hid (idxR_any fxBad l)
  clear hsm hr
  go_enter Tryz.func85, Tryz.ntmps85
  go_wp2_with (go_at_call 116; refine HI.out.mono ?_; rintro e w1 ⟨rfl, hb1⟩)
  go_ret
  exact ⟨ret_bool' HE.out, hb1⟩

set_option maxHeartbeats 1000000 in
set_option maxRecDepth 100000 in
theorem orderedFx_any (l : List Fx) (ad : Option Addr) (cap : Nat) (w : World) (hn : l.length ≤ 1100000) (hr : Rd Fx.cells 3 w ad l) :
    Calls Tryz.prog 87 #[.slice ad l.length cap, .func (.func 88) #[] #[]] w fun e w' => e = .returned (.bool (incB Fx.lt l)) ∧ Below w.heap.size w w' := by
  have HD := Lib.hid hr
  clear hr
  go_enter Tryz.func87, Tryz.ntmps87
  go_wp2
  go_loopw [5] (fun i wr => ∃ k : Nat, (k + 1 ≤ l.length ∨ k = 0) ∧ i = .int .i64 ((k : Int) + 1) ∧ Hid (incB Fx.lt (l.take (k + 1)) = true) ∧ Below w.heap.size w wr) (fun i _ => l.length + 1 - (intOf i).toNat)
  case atStart => exact ⟨0, .inr rfl, by go_num, incB_le_one (by rw [List.length_take]; omega), Below.refl _ _⟩
  case round =>
    obtain ⟨k, hk, rfl, Hall, hbel⟩ := hrel
    by_cases hlt : k + 1 < l.length
    · obtain ⟨f, hf⟩ : ∃ f, l[k]? = some f := ⟨_, List.getElem?_eq_getElem (by omega)⟩
      obtain ⟨g, hg⟩ : ∃ g, l[k + 1]? = some g := ⟨_, List.getElem?_eq_getElem hlt⟩
      have HRf := ((HD.out.below hbel).fx hf)
      have HRg := ((HD.out.below hbel).fx hg)
      have HI := Lib.hid (incB_snoc (lt := Fx.lt) hf hg)
      clear hf hg
      obtain ⟨b, off, rfl, hc1, hc2, hc3⟩ := HRf
      obtain ⟨b', off', he, hd1, hd2, hd3⟩ := HRg
      obtain ⟨rfl, rfl⟩ : b = b' ∧ off = off' := by simpa using he
      clear he
      have hsz := hbel.size
      have HC : Hid (∀ W, Calls Tryz.prog 88 #[f.val, g.val] W fun e w' => e = .returned (.int .i64 (fxCmp f.nm f.d g.nm g.d)) ∧ Below W.heap.size W w') := fun W => fixings_any _ _ _ _ _ _ _
      simp only [Fx.val, fxV] at HC
      have HL := Lib.hid (fxCmp_lt f.nm g.nm f.d g.d)
      have e1 : (k : Int) + 1 - 1 = (k : Int) := by omega
      have e2 : IntKind.i64.wrap ((k : Int) + 1 - 1) = (k : Int) := by rw [IntWalk.i64_in _ (by omega)]; omega
      have e3 : IntKind.i64.wrap (k : Int) = (k : Int) := IntWalk.i64_in _ (by omega)
      have e4 : ((k : Int) + 1).toNat = k + 1 := by omega
      have hk2 : (0 : Int) ≤ (k : Int) + 1 := by omega
      have hk3 : (k : Int) + 1 < (l.length : Int) := by omega
      have hk0 : (0 : Int) ≤ (k : Int) := by omega
      have hbl : b < wr.heap.size := World.block_lt_of_cell? wr _ hc1
      have hk1 : (k : Int) < (l.length : Int) := by omega
      obtain ⟨C, hC⟩ : ∃ C, fxCmp f.nm f.d g.nm g.d = C := ⟨_, rfl⟩
      rw [hC] at HC HL
      clear hC
      cases hp : Fx.lt f g with
      | true =>
        have Hall2 : Hid (incB Fx.lt (l.take (k + 1 + 1)) = true) := by show _ = _; rw [HI.out, Hall.out, hp]; rfl
        have t1 : decide ((0 : Int) ≤ C) = false := by
          have h := HL.out
          rw [show fxLt f.nm f.d g.nm g.d = true from hp, decide_eq_true_eq] at h
          rw [decide_eq_false_iff_not]; omega
        have Hall2 : Hid (incB Fx.lt (l.take (k + 1 + 1)) = true) := by show _ = _; rw [HI.out, Hall.out, hp]; rfl
        clear hp
        go_wp2
        go_region_held3 (fun w' => w'.cell? ⟨b, off + k * 3, none⟩ = some (.string f.nm) ∧ w'.cell? ⟨b, off + k * 3 + 1, none⟩ = some (.int .i64 f.d) ∧ w'.cell? ⟨b, off + k * 3 + 2, none⟩ = some (.string f.vl) ∧ w'.cell? ⟨b, off + (k + 1) * 3, none⟩ = some (.string g.nm) ∧ w'.cell? ⟨b, off + (k + 1) * 3 + 1, none⟩ = some (.int .i64 g.d) ∧ w'.cell? ⟨b, off + (k + 1) * 3 + 2, none⟩ = some (.string g.vl)) (first | go_keep | (simp only [kc]; go_keep))
          (first | (go_at_call 88; refine (HC.out _).mono ?_; rintro e w1 ⟨rfl, hb1⟩; have kc := fun o => hb1.cell (p := ⟨b, o, none⟩) hbl))
        go_wp2
        go_roundw
        case rel =>
          exact ⟨k + 1, .inl (by omega), by go_num, Hall2, hbel.drew.trans (hb1.mono hsz)⟩
        case measure => simp [intOf]; omega
      | false =>
        have HR : Hid (incB Fx.lt l = false) := incB_false_of_take (k := k + 1 + 1) (by rw [HI.out, Hall.out, hp]; rfl)
        have t1 : decide ((0 : Int) ≤ C) = true := by
          have h := HL.out
          rw [show fxLt f.nm f.d g.nm g.d = false from hp, decide_eq_false_iff_not] at h
          rw [decide_eq_true_eq]; omega
        clear hp
        go_wp2
        go_region_held3 (fun w' => w'.cell? ⟨b, off + k * 3, none⟩ = some (.string f.nm) ∧ w'.cell? ⟨b, off + k * 3 + 1, none⟩ = some (.int .i64 f.d) ∧ w'.cell? ⟨b, off + k * 3 + 2, none⟩ = some (.string f.vl) ∧ w'.cell? ⟨b, off + (k + 1) * 3, none⟩ = some (.string g.nm) ∧ w'.cell? ⟨b, off + (k + 1) * 3 + 1, none⟩ = some (.int .i64 g.d) ∧ w'.cell? ⟨b, off + (k + 1) * 3 + 2, none⟩ = some (.string g.vl)) (first | go_keep | (simp only [kc]; go_keep))
          (first | (go_at_call 88; refine (HC.out _).mono ?_; rintro e w1 ⟨rfl, hb1⟩; have kc := fun o => hb1.cell (p := ⟨b, o, none⟩) hbl))
        go_wp2
        go_ret
        exact ⟨ret_bool' HR.out.symm, hbel.drew.trans (hb1.mono hsz)⟩
    · have HR : Hid (incB Fx.lt l = true) := by
        show _ = _
        have := Hall.out
        rwa [List.take_of_length_le (by omega)] at this
      have t1 : ¬ ((k : Int) + 1 < (l.length : Int)) := by omega
      go_wp2
      go_ret
      exact ⟨ret_bool' HR.out.symm, hbel⟩

set_option maxHeartbeats 1000000 in
set_option maxRecDepth 100000 in
theorem indexCh_any (l : List Ch) (ad : Option Addr) (cap : Nat) (w : World) (hn : l.length ≤ 1100000) (hr : Rd Ch.cells 4 w ad l) (hsm : ∀ f ∈ l, f.small) :
    Calls Tryz.prog 117 #[.slice ad l.length cap, .func (.func 84) #[] #[]] w fun e w' => e = .returned (.int .i64 (idxR (l.findIdx? chBad))) ∧ Below w.heap.size w w' := by
  have HS := Lib.hid hsm
  have HD := Lib.hid hr
  clear hsm hr
  go_enter Tryz.func117, Tryz.ntmps117
  go_wp2
  go_loopw [8] (fun i wr => ∃ k : Nat, k ≤ l.length ∧ i = .int .i64 k ∧ Hid (∀ y ∈ l.take k, chBad y = false) ∧ Below w.heap.size w wr) (fun i _ => l.length - (intOf i).toNat)
  case atStart => exact ⟨0, Nat.zero_le _, rfl, Lib.hid (by simp), Below.refl _ _⟩
  case round =>
    obtain ⟨k, hk, rfl, Hall, hbel⟩ := hrel
    by_cases hlt : k < l.length
    · obtain ⟨f, hf⟩ : ∃ f, l[k]? = some f := ⟨_, List.getElem?_eq_getElem hlt⟩
      have hfm : f ∈ l := List.mem_of_getElem? hf
      have HRf : Hid (∃ b off, ad = some ⟨b, off, none⟩ ∧ _) := ((HD.out.below hbel).ch hf)
      have HC := Lib.hid (fun W => pickCl_any f W (HS.out f hfm).1 (HS.out f hfm).2)
      have HF := Lib.hid hf
      clear hf hfm
      obtain ⟨b, off, rfl, hc1, hc2, hc3, hc4⟩ := HRf
      have hsz := hbel.size
      simp only [Ch.val, chV] at HC
      cases hp : chBad f with
      | true =>
        have HR : Hid (l.findIdx? chBad = some k) := findIdx_some HF.out hp Hall.out
        rw [hp] at HC
        clear hp
        go_wp2_with (go_at_call 84; refine (HC.out _).mono ?_; rintro e w1 ⟨rfl, hb1⟩)
        go_ret
        exact ⟨by rw [HR.out]; rfl, hbel.trans (hb1.mono hsz)⟩
      | false =>
        have Hall2 : Hid (∀ y ∈ l.take (k + 1), chBad y = false) := all_take_succ HF.out hp Hall.out
        rw [hp] at HC
        clear hp
        go_wp2_with (go_at_call 84; refine (HC.out _).mono ?_; rintro e w1 ⟨rfl, hb1⟩)
        go_roundw
        case rel => exact ⟨k + 1, by omega, by go_num, Hall2, hbel.trans (hb1.mono hsz)⟩
        case measure => simp [intOf]; omega
    · obtain rfl : k = l.length := by omega
      have HR : Hid (l.findIdx? chBad = none) := findIdx_none (by have := Hall.out; rwa [List.take_length] at this)
      go_wp2
      go_ret
      exact ⟨by rw [HR.out]; rfl, hbel⟩

set_option maxRecDepth 100000 in
theorem containsCh_any (l : List Ch) (ad : Option Addr) (cap : Nat) (w : World) (hn : l.length ≤ 1100000) (hr : Rd Ch.cells 4 w ad l) (hsm : ∀ f ∈ l, f.small) :
    Calls Tryz.prog 86 #[.slice ad l.length cap, .func (.func 84) #[] #[]] w fun e w' => e = .returned (.bool (l.any chBad)) ∧ Below w.heap.size w w' := by
  have HI := Lib.hid (indexCh_any l ad cap w hn hr hsm)
  have HE := Lib.hid (idxR_any chBad l)
  clear hsm hr
  go_enter Tryz.func86, Tryz.ntmps86
  go_wp2_with (go_at_call 117; refine HI.out.mono ?_; rintro e w1 ⟨rfl, hb1⟩)
  go_ret
  exact ⟨ret_bool' HE.out, hb1⟩

set_option maxHeartbeats 1000000 in
set_option maxRecDepth 100000 in
theorem orderedCh_any (l : List Ch) (ad : Option Addr) (cap : Nat) (w : World) (hn : l.length ≤ 1100000) (hr : Rd Ch.cells 4 w ad l) :
    Calls Tryz.prog 89 #[.slice ad l.length cap, .func (.func 90) #[] #[]] w fun e w' => e = .returned (.bool (incB Ch.lt l)) ∧ Below w.heap.size w w' := by
  have HD := Lib.hid hr
  clear hr
  go_enter Tryz.func89, Tryz.ntmps89
  go_wp2
  go_loopw [5] (fun i wr => ∃ k : Nat, (k + 1 ≤ l.length ∨ k = 0) ∧ i = .int .i64 ((k : Int) + 1) ∧ Hid (incB Ch.lt (l.take (k + 1)) = true) ∧ Below w.heap.size w wr) (fun i _ => l.length + 1 - (intOf i).toNat)
  case atStart => exact ⟨0, .inr rfl, by go_num, incB_le_one (by rw [List.length_take]; omega), Below.refl _ _⟩
  case round =>
    obtain ⟨k, hk, rfl, Hall, hbel⟩ := hrel
    by_cases hlt : k + 1 < l.length
    · obtain ⟨f, hf⟩ : ∃ f, l[k]? = some f := ⟨_, List.getElem?_eq_getElem (by omega)⟩
      obtain ⟨g, hg⟩ : ∃ g, l[k + 1]? = some g := ⟨_, List.getElem?_eq_getElem hlt⟩
      have HRf := ((HD.out.below hbel).ch hf)
      have HRg := ((HD.out.below hbel).ch hg)
      have HI := Lib.hid (incB_snoc (lt := Ch.lt) hf hg)
      clear hf hg
      obtain ⟨b, off, rfl, hc1, hc2, hc3, hc4⟩ := HRf
      obtain ⟨b', off', he, hd1, hd2, hd3, hd4⟩ := HRg
      obtain ⟨rfl, rfl⟩ : b = b' ∧ off = off' := by simpa using he
      clear he
      have hsz := hbel.size
      have HC : Hid (∀ W, Calls Tryz.prog 90 #[f.val, g.val] W fun e w' => e = .returned (.int .i64 (chCmp f.pt f.nm f.d g.pt g.nm g.d)) ∧ Below W.heap.size W w') := fun W => choices_any _ _ _ _ _ _ _ _ _
      simp only [Ch.val, chV] at HC
      have HL := Lib.hid (chCmp_lt f.pt g.pt f.nm g.nm f.d g.d)
      have e1 : (k : Int) + 1 - 1 = (k : Int) := by omega
      have e2 : IntKind.i64.wrap ((k : Int) + 1 - 1) = (k : Int) := by rw [IntWalk.i64_in _ (by omega)]; omega
      have e3 : IntKind.i64.wrap (k : Int) = (k : Int) := IntWalk.i64_in _ (by omega)
      have e4 : ((k : Int) + 1).toNat = k + 1 := by omega
      have hk2 : (0 : Int) ≤ (k : Int) + 1 := by omega
      have hk3 : (k : Int) + 1 < (l.length : Int) := by omega
      have hk0 : (0 : Int) ≤ (k : Int) := by omega
      have hbl : b < wr.heap.size := World.block_lt_of_cell? wr _ hc1
      have hk1 : (k : Int) < (l.length : Int) := by omega
      obtain ⟨C, hC⟩ : ∃ C, chCmp f.pt f.nm f.d g.pt g.nm g.d = C := ⟨_, rfl⟩
      rw [hC] at HC HL
      clear hC
      cases hp : Ch.lt f g with
      | true =>
        have Hall2 : Hid (incB Ch.lt (l.take (k + 1 + 1)) = true) := by show _ = _; rw [HI.out, Hall.out, hp]; rfl
        have t1 : decide ((0 : Int) ≤ C) = false := by
          have h := HL.out
          rw [show chLt f.pt f.nm f.d g.pt g.nm g.d = true from hp, decide_eq_true_eq] at h
          rw [decide_eq_false_iff_not]; omega
        have Hall2 : Hid (incB Ch.lt (l.take (k + 1 + 1)) = true) := by show _ = _; rw [HI.out, Hall.out, hp]; rfl
        clear hp
        go_wp2
        go_region_held3 (fun w' => w'.cell? ⟨b, off + k * 4, none⟩ = some (.string f.pt) ∧ w'.cell? ⟨b, off + k * 4 + 1, none⟩ = some (.string f.nm) ∧ w'.cell? ⟨b, off + k * 4 + 2, none⟩ = some (.int .i64 f.d) ∧ w'.cell? ⟨b, off + k * 4 + 3, none⟩ = some (.bool f.first) ∧ w'.cell? ⟨b, off + (k + 1) * 4, none⟩ = some (.string g.pt) ∧ w'.cell? ⟨b, off + (k + 1) * 4 + 1, none⟩ = some (.string g.nm) ∧ w'.cell? ⟨b, off + (k + 1) * 4 + 2, none⟩ = some (.int .i64 g.d) ∧ w'.cell? ⟨b, off + (k + 1) * 4 + 3, none⟩ = some (.bool g.first)) (first | go_keep | (simp only [kc]; go_keep))
          (first | (go_at_call 90; refine (HC.out _).mono ?_; rintro e w1 ⟨rfl, hb1⟩; have kc := fun o => hb1.cell (p := ⟨b, o, none⟩) hbl))
        go_wp2
        go_roundw
        case rel =>
          exact ⟨k + 1, .inl (by omega), by go_num, Hall2, hbel.drew.trans (hb1.mono hsz)⟩
        case measure => simp [intOf]; omega
      | false =>
        have HR : Hid (incB Ch.lt l = false) := incB_false_of_take (k := k + 1 + 1) (by rw [HI.out, Hall.out, hp]; rfl)
        have t1 : decide ((0 : Int) ≤ C) = true := by
          have h := HL.out
          rw [show chLt f.pt f.nm f.d g.pt g.nm g.d = false from hp, decide_eq_false_iff_not] at h
          rw [decide_eq_true_eq]; omega
        clear hp
        go_wp2
        go_region_held3 (fun w' => w'.cell? ⟨b, off + k * 4, none⟩ = some (.string f.pt) ∧ w'.cell? ⟨b, off + k * 4 + 1, none⟩ = some (.string f.nm) ∧ w'.cell? ⟨b, off + k * 4 + 2, none⟩ = some (.int .i64 f.d) ∧ w'.cell? ⟨b, off + k * 4 + 3, none⟩ = some (.bool f.first) ∧ w'.cell? ⟨b, off + (k + 1) * 4, none⟩ = some (.string g.pt) ∧ w'.cell? ⟨b, off + (k + 1) * 4 + 1, none⟩ = some (.string g.nm) ∧ w'.cell? ⟨b, off + (k + 1) * 4 + 2, none⟩ = some (.int .i64 g.d) ∧ w'.cell? ⟨b, off + (k + 1) * 4 + 3, none⟩ = some (.bool g.first)) (first | go_keep | (simp only [kc]; go_keep))
          (first | (go_at_call 90; refine (HC.out _).mono ?_; rintro e w1 ⟨rfl, hb1⟩; have kc := fun o => hb1.cell (p := ⟨b, o, none⟩) hbl))
        go_wp2
        go_ret
        exact ⟨ret_bool' HR.out.symm, hbel.drew.trans (hb1.mono hsz)⟩
    · have HR : Hid (incB Ch.lt l = true) := by
        show _ = _
        have := Hall.out
        rwa [List.take_of_length_le (by omega)] at this
      have t1 : ¬ ((k : Int) + 1 < (l.length : Int)) := by omega
      go_wp2
      go_ret
      exact ⟨ret_bool' HR.out.symm, hbel⟩
end Go.Proofs.YtflddbgadkndlaaGreatDoor

namespace Go.Proofs.YtflddbgadkndlaaGreatDoor
open Go.RowKit

theorem cell_three_new (w : World) (a b c : Value) (t : TypeId) : ∀ j u, [a, b, c][j]? = some u → (w.alloc (.cells #[a, b, c] t)).cell? ((⟨w.heap.size, 0, none⟩ : Addr).add j) = some u := by
  intro j u hj
  match j, hj with
  | 0, hj => simp at hj; subst hj; simp [Addr.add]
  | 1, hj => simp at hj; subst hj; simp [Addr.add]
  | 2, hj => simp at hj; subst hj; simp [Addr.add]
theorem cell_four_new (w : World) (a b c d : Value) (t : TypeId) : ∀ j u, [a, b, c, d][j]? = some u → (w.alloc (.cells #[a, b, c, d] t)).cell? ((⟨w.heap.size, 0, none⟩ : Addr).add j) = some u := by
  intro j u hj
  match j, hj with
  | 0, hj => simp at hj; subst hj; simp [Addr.add]
  | 1, hj => simp at hj; subst hj; simp [Addr.add]
  | 2, hj => simp at hj; subst hj; simp [Addr.add]
  | 3, hj => simp at hj; subst hj; simp [Addr.add]
theorem fx_oneCell (f : Fx) : ∀ u ∈ f.cells, u.oneCell' = true := by
  intro u hu
  simp [Fx.cells] at hu
  rcases hu with rfl | rfl | rfl <;> rfl
theorem ch_oneCell (f : Ch) : ∀ u ∈ f.cells, u.oneCell' = true := by
  intro u hu
  simp [Ch.cells] at hu
  rcases hu with rfl | rfl | rfl | rfl <;> rfl
theorem filter_take_true {α : Type} {p : α → Bool} {l : List α} {k : Nat} {f : α} (hf : l[k]? = some f) (hp : p f = true) : (l.take (k + 1)).filter p = (l.take k).filter p ++ [f] := by
  rw [List.take_add_one, hf, List.filter_append]; simp [hp]
theorem filter_take_false {α : Type} {p : α → Bool} {l : List α} {k : Nat} {f : α} (hf : l[k]? = some f) (hp : p f = false) : (l.take (k + 1)).filter p = (l.take k).filter p := by
  rw [List.take_add_one, hf, List.filter_append]; simp [hp]
theorem filter_take_le {α : Type} (p : α → Bool) (l : List α) (k : Nat) : ((l.take k).filter p).length ≤ k :=
  Nat.le_trans (List.length_filter_le _ _) (List.length_take_le _ _)
/-- A slice of the call's own comes back. -/
def OwnPost {α : Type} (enc : α → List Value) (E : TypeId) (m : Nat) (w : World) (l : List α) (e : Ending) (w' : World) : Prop :=
  ∃ ad cap, e = .returned (.slice ad l.length cap) ∧ w'.ownsRow w.heap.size E m (.slice ad l.length cap) l.length (l.flatMap enc) ∧ Below w.heap.size w w'
theorem cells_string : Tryz.prog.cellsOf 9 = 1 := by kernel_rfl
theorem cells_int : Tryz.prog.cellsOf 3 = 1 := by kernel_rfl
theorem cells_bool : Tryz.prog.cellsOf 4 = 1 := by kernel_rfl
def Ch.fits (f : Ch) : Prop := (Lit.int .i64 f.d).wf = true
def Fx.fits (f : Fx) : Prop := (Lit.int .i64 f.d).wf = true
theorem ul_fixings : Tryz.prog.underlying 66 = some (.slice 65) := by kernel_rfl
theorem ul_choices : Tryz.prog.underlying 38 = some (.slice 60) := by kernel_rfl
theorem info_fixing : (Tryz.prog.info? 65).map (fun i => (i.zero, i.size, i.bytes)) = some (some (.agg #[.string ⟨#[]⟩, .int .i64 0, .string ⟨#[]⟩]), 3, 40) := by kernel_rfl
theorem info_choice : (Tryz.prog.info? 60).map (fun i => (i.zero, i.size, i.bytes)) = some (some (.agg #[.string ⟨#[]⟩, .string ⟨#[]⟩, .int .i64 0, .bool false]), 4, 48) := by kernel_rfl

/-- What a call hands back that makes knowledge. -/
def EnvPost (w : World) (er : Int) (fs : List Fx) (cs : List Ch) (e : Ending) (w' : World) : Prop :=
  ∃ a1 c1 a2 c2, e = .returned (.tuple #[.agg #[.slice a1 fs.length c1, .slice a2 cs.length c2], .int .i64 er]) ∧
    w'.ownsRow w.heap.size 65 3 (.slice a1 fs.length c1) fs.length (fs.flatMap Fx.cells) ∧
    w'.ownsRow w.heap.size 60 4 (.slice a2 cs.length c2) cs.length (cs.flatMap Ch.cells) ∧ Below w.heap.size w w'
theorem envPost_none {w w' : World} {er : Int} (hb : Below w.heap.size w w') : EnvPost w er [] [] (.returned (.tuple #[.agg #[.slice none 0 0, .slice none 0 0], .int .i64 er])) w' :=
  ⟨none, 0, none, 0, rfl, World.ownsRow_nil _ _ _ _, World.ownsRow_nil _ _ _ _, hb⟩
end Go.Proofs.YtflddbgadkndlaaGreatDoor

namespace Go.Proofs.YtflddbgadkndlaaGreatDoor
open Go.RowKit

theorem rd_fx {w : World} {base n c : Nat} {e : TypeId} {a : Option Addr} {l : List Fx} (h : w.ownsRow base e 3 (.slice a n c) n (l.flatMap Fx.cells)) : Rd Fx.cells 3 w a l := by
  obtain ⟨hl, h2⟩ := h
  have e : n = l.length := by rw [flat_length Fx.cells 3 (fun _ => rfl)] at hl; omega
  subst e
  exact Rd.of_sl (enc := Fx.cells) (m := 3) (fun _ => rfl) (by decide) (Sl.of_owns ⟨hl, h2⟩)
theorem rd_ch {w : World} {base n c : Nat} {e : TypeId} {a : Option Addr} {l : List Ch} (h : w.ownsRow base e 4 (.slice a n c) n (l.flatMap Ch.cells)) : Rd Ch.cells 4 w a l := by
  obtain ⟨hl, h2⟩ := h
  have e : n = l.length := by rw [flat_length Ch.cells 4 (fun _ => rfl)] at hl; omega
  subst e
  exact Rd.of_sl (enc := Ch.cells) (m := 4) (fun _ => rfl) (by decide) (Sl.of_owns ⟨hl, h2⟩)

/-- W' is W but for blocks from lo on and below hi. -/
structure Turned (lo hi : Nat) (w w' : World) : Prop where
  os : w'.os = w.os
  tape : w'.tape = w.tape
  output : w'.output = w.output
  size : w'.heap.size = w.heap.size
  block : ∀ k, k < lo ∨ hi ≤ k → w'.heap[k]? = w.heap[k]?
theorem Turned.refl (lo hi : Nat) (w : World) : Turned lo hi w w := ⟨rfl, rfl, rfl, rfl, fun _ _ => rfl⟩
theorem Turned.below {lo hi : Nat} {w w' : World} (h : Turned lo hi w w') : Below lo w w' := ⟨h.os, h.tape, h.output, Nat.le_of_eq h.size.symm, fun k hk => h.block k (.inl hk)⟩
theorem Turned.setCell {lo hi : Nat} {w w' : World} (h : Turned lo hi w w') {a : Addr} (h1 : lo ≤ a.block) (h2 : a.block < hi) (u : Value) : Turned lo hi w (w'.setCell a u) :=
  ⟨h.os, h.tape, h.output, by rw [← h.size]; simp [World.setCell], fun k hk => (Below.heap_setCell _ _ _ _ (by omega)).trans (h.block k hk)⟩
theorem Turned.boxed {lo hi : Nat} {w w' : World} (h : Turned lo hi w w') {B : Nat} {t : TypeId} {u v : Value} (b : Boxed2 w B t u v) (hB : B < lo ∨ hi ≤ B) : Boxed2 w' B t u v := b.of_block (h.block B hB)
theorem owns_some {w : World} {base n c m : Nat} {e : TypeId} {a : Option Addr} {xs : List Value} (h : w.ownsRow base e m (.slice a n c) n xs) (hn : 0 < n) : ∃ g, a = some ⟨g, 0, none⟩ := by
  rcases h.2 with ⟨h', h0⟩ | ⟨g, cap, cur, h', _⟩
  · omega
  · exact ⟨g, (Value.slice.inj h').1⟩

end Go.Proofs.YtflddbgadkndlaaGreatDoor

namespace Go.Proofs.YtflddbgadkndlaaGreatDoor
open Go.RowKit

structure RSt (wr W : World) (T : TypeId) (m g B0 n cap : Nat) (os : List Value) : Prop where
  gr : wr.grownBy W (some g)
  own : W.ownsRow B0 T m (.slice (some ⟨g, 0, none⟩) n cap) n os
section
variable {wr W W' : World} {T : TypeId} {m g B0 n cap : Nat} {os : List Value}
theorem RSt.start (h : wr.ownsRow B0 T m (.slice (some ⟨g, 0, none⟩) n cap) n os) : RSt wr wr T m g B0 n cap os := ⟨World.grownBy.refl _ _, h⟩
theorem RSt.lt (h : RSt wr W T m g B0 n cap os) : B0 ≤ g ∧ g < W.heap.size := h.own.lt g rfl
theorem RSt.ext (h : RSt wr W T m g B0 n cap os) (hb : Below W.heap.size W W') : RSt wr W' T m g B0 n cap os :=
  ⟨h.gr.trans ⟨hb.os, hb.tape, hb.output, hb.size, fun k hk _ => hb.block k hk⟩, ownsRow_below' h.own hb⟩
theorem RSt.alloc (h : RSt wr W T m g B0 n cap os) (o : Obj) : RSt wr (W.alloc o) T m g B0 n cap os := h.ext (below_a1 _ _)
theorem RSt.set (h : RSt wr W T m g B0 n cap os) (j : Nat) (u : Value) : RSt wr (W.setCell ⟨g, j, none⟩ u) T m g B0 n cap (os.set j u) :=
  ⟨h.gr.trans (h.own.stored j u).2, (h.own.stored j u).1⟩
theorem RSt.but (h : RSt wr W T m g B0 n cap os) {K : Nat} (hK : wr.heap.size ≤ K) (hg : g < wr.heap.size) (hb : Below K W W') (hs : W.heap.size ≤ W'.heap.size) (ho : ∀ b, b ≠ K → W'.heap[b]? = W.heap[b]?) : RSt wr W' T m g B0 n cap os := by
  refine ⟨⟨hb.os.trans h.gr.os, hb.tape.trans h.gr.tape, hb.output.trans h.gr.output, Nat.le_trans h.gr.size hs, fun k hk hne => (ho k (by omega)).trans (h.gr.block k hk hne)⟩, ownsRow_kept h.own fun k hk _ => ho k ?_⟩
  have : g = k := by simpa [Value.ownBlock] using hk
  omega
/-- The frame from an elder world. -/
theorem RSt.below {W0 : World} {B : Nat} (h : RSt wr W T m g B0 n cap os) (h0 : Below B W0 wr) (hB : B ≤ wr.heap.size) (hg : B ≤ g) : Below B W0 W :=
  h0.grown h.gr hB (fun k hk => by obtain rfl := Option.some.inj hk; exact hg)
theorem RSt.box {B : Nat} {t : TypeId} {cs : List Value} (h : RSt wr W T m g B0 n cap os) (hb : BoxN wr B t cs) (hB : B ≠ g) : BoxN W B t cs :=
  hb.of_block (h.gr.block B hb.lt (by simpa using hB))
theorem RSt.box2 {B : Nat} {t : TypeId} {u v : Value} (h : RSt wr W T m g B0 n cap os) (hb : Boxed2 wr B t u v) (hB : B ≠ g) : Boxed2 W B t u v :=
  hb.of_block (h.gr.block B hb.lt (by simpa using hB))
theorem RSt.at (h : RSt wr W T m g B0 n cap os) {j : Nat} {u : Value} (hj : os[j]? = some u) : W.cell? ⟨g, j, none⟩ = some u := by
  have hl : os.length = n * m := h.own.1
  rw [h.own.cellAt j (by rw [← hl]; exact (List.getElem?_eq_some_iff.1 hj).1)]
  exact hj
theorem RSt.ice (h : RSt wr W T m g B0 n cap os) (j : Nat) : W.frozen? ⟨g, j, none⟩ = false := h.own.frozenAt j
end
/-- A list, changed up to k. -/
def upTo {α : Type} (f : α → α) (l : List α) (k : Nat) : List α := (l.take k).map f ++ l.drop k
theorem upTo_zero {α : Type} (f : α → α) (l : List α) : upTo f l 0 = l := by simp [upTo]
theorem upTo_end {α : Type} (f : α → α) (l : List α) : upTo f l l.length = l.map f := by simp [upTo]
theorem upTo_len {α : Type} (f : α → α) (l : List α) (k : Nat) : (upTo f l k).length = l.length := by
  simp [upTo]; omega
theorem drop_get {α : Type} {l : List α} {k : Nat} {x : α} (h : l[k]? = some x) : l.drop k = x :: l.drop (k + 1) := by
  obtain ⟨h1, h2⟩ := List.getElem?_eq_some_iff.1 h
  rw [List.drop_eq_getElem_cons h1, h2]
theorem upTo_split {α : Type} (f : α → α) {l : List α} {k : Nat} {x : α} (h : l[k]? = some x) : upTo f l k = (l.take k).map f ++ (x :: l.drop (k + 1)) := by rw [upTo, drop_get h]
theorem upTo_succ {α : Type} (f : α → α) {l : List α} {k : Nat} {x : α} (h : l[k]? = some x) : upTo f l (k + 1) = (l.take k).map f ++ (f x :: l.drop (k + 1)) := by
  rw [upTo, take_snoc_get h, List.map_append]; simp
theorem upTo_same {α : Type} (f : α → α) {l : List α} {k : Nat} {x : α} (h : l[k]? = some x) (hf : f x = x) : upTo f l (k + 1) = upTo f l k := by rw [upTo_succ f h, upTo_split f h, hf]
theorem set_flat {α : Type} {enc : α → List Value} {m : Nat} (hm : ∀ x, (enc x).length = m) (A B : List α) (x y : α) (k j : Nat) (u : Value) (hA : A.length = k) (hj : j < m) (hs : (enc x).set j u = enc y) :
    ((A ++ (x :: B)).flatMap enc).set (k * m + j) u = (A ++ (y :: B)).flatMap enc := by
  have hl : (A.flatMap enc).length = k * m := by rw [flat_length enc m hm, hA]
  rw [List.flatMap_append, List.flatMap_append, List.flatMap_cons, List.flatMap_cons, List.set_append_right _ _ (by omega), hl]
  rw [show k * m + j - k * m = j by omega, List.set_append_left _ _ (by rw [hm]; exact hj), hs]
theorem get_flat {α : Type} {enc : α → List Value} {m : Nat} (hm : ∀ x, (enc x).length = m) (A B : List α) (x : α) (k j : Nat) (u : Value) (hA : A.length = k) (hs : (enc x)[j]? = some u) :
    ((A ++ (x :: B)).flatMap enc)[k * m + j]? = some u := by
  have hl : (A.flatMap enc).length = k * m := by rw [flat_length enc m hm, hA]
  rw [List.flatMap_append, List.flatMap_cons, List.getElem?_append_right (by omega), hl, show k * m + j - k * m = j by omega, List.getElem?_append_left (List.getElem?_eq_some_iff.1 hs).1, hs]
end Go.Proofs.YtflddbgadkndlaaGreatDoor

namespace Go.Proofs.YtflddbgadkndlaaGreatDoor
open Go.RowKit

section
variable {α : Type}
/-- The place of an element in the flat row. -/
theorem flat_at {enc : α → List Value} {m : Nat} (hm : ∀ x, (enc x).length = m) {C : List α} {k : Nat} {y : α} (hy : C[k]? = some y) (j : Nat) (u : Value) (hu : (enc y)[j]? = some u) : (C.flatMap enc)[k * m + j]? = some u := by
  have hk := (List.getElem?_eq_some_iff.1 hy).1
  have e : C = C.take k ++ (y :: C.drop (k + 1)) := by rw [← drop_get hy, List.take_append_drop]
  rw [e]
  exact get_flat (enc := enc) (m := m) hm (C.take k) (C.drop (k + 1)) y k j u (by rw [List.length_take]; omega) hu
end

/-! ### Compact -/
section
variable {α : Type} [DecidableEq α]
theorem cmpct_snoc : ∀ (l : List α) (x y : α), cmpct (l ++ [x] ++ [y]) = if x = y then cmpct (l ++ [x]) else cmpct (l ++ [x]) ++ [y]
  | [], x, y => by
    show cmpct [x, y] = if x = y then cmpct [x] else cmpct [x] ++ [y]
    by_cases h : x = y
    · subst h; simp [cmpct]
    · simp [cmpct, h]
  | [a], x, y => by
    show cmpct (a :: x :: [y]) = if x = y then cmpct (a :: x :: []) else cmpct (a :: x :: []) ++ [y]
    simp only [cmpct]
    by_cases h : x = y <;> by_cases h2 : a = x <;> simp [h, h2]
  | a :: b :: l, x, y => by
    have ih := cmpct_snoc (b :: l) x y
    show cmpct (a :: b :: (l ++ [x] ++ [y])) = if x = y then cmpct (a :: b :: (l ++ [x])) else cmpct (a :: b :: (l ++ [x])) ++ [y]
    have ih2 : cmpct (b :: (l ++ [x] ++ [y])) = if x = y then cmpct (b :: (l ++ [x])) else cmpct (b :: (l ++ [x])) ++ [y] := ih
    rw [cmpct, cmpct, ih2]
    by_cases h : x = y <;> by_cases h2 : a = b <;> simp [h, h2]
theorem cmpct_len : ∀ l : List α, (cmpct l).length ≤ l.length
  | [] => by simp [cmpct]
  | [x] => by simp [cmpct]
  | x :: y :: l => by
    have := cmpct_len (y :: l)
    rw [cmpct]
    split
    · simp at this ⊢; omega
    · simp at this ⊢; omega
omit [DecidableEq α] in
theorem take_two {L : List α} {m : Nat} {x y : α} (hx : L[m]? = some x) (hy : L[m + 1]? = some y) : L.take (m + 2) = L.take m ++ [x] ++ [y] := by
  rw [take_snoc_get hy, take_snoc_get hx]
/-- One place more. -/
theorem cmpct_same {L : List α} {m : Nat} {x : α} (hx : L[m]? = some x) (hy : L[m + 1]? = some x) : cmpct (L.take (m + 2)) = cmpct (L.take (m + 1)) := by
  rw [take_two hx hy, cmpct_snoc, if_pos rfl, ← take_snoc_get hx]
theorem cmpct_new {L : List α} {m : Nat} {x y : α} (hx : L[m]? = some x) (hy : L[m + 1]? = some y) (hne : x ≠ y) : cmpct (L.take (m + 2)) = cmpct (L.take (m + 1)) ++ [y] := by
  rw [take_two hx hy, cmpct_snoc, if_neg hne, ← take_snoc_get hx]
theorem cmpct_same' {L : List α} {k : Nat} {x : α} (h1 : 1 ≤ k) (hx : L[k - 1]? = some x) (hy : L[k]? = some x) : cmpct (L.take (k + 1)) = cmpct (L.take k) := by
  obtain ⟨m, rfl⟩ : ∃ m, k = m + 1 := ⟨k - 1, by omega⟩
  exact cmpct_same hx hy
theorem cmpct_new' {L : List α} {k : Nat} {x y : α} (h1 : 1 ≤ k) (hx : L[k - 1]? = some x) (hy : L[k]? = some y) (hne : y ≠ x) : cmpct (L.take (k + 1)) = cmpct (L.take k) ++ [y] := by
  obtain ⟨m, rfl⟩ : ∃ m, k = m + 1 := ⟨k - 1, by omega⟩
  exact cmpct_new hx hy (Ne.symm hne)
theorem cmpct_full {L : List α} {k : Nat} {x y : α} (h1 : 1 ≤ k) (hx : L[k - 1]? = some x) (hy : L[k]? = some y) (hne : y ≠ x) (h : cmpct (L.take k) = L.take k) : cmpct (L.take (k + 1)) = L.take (k + 1) := by
  rw [cmpct_new' h1 hx hy hne, h, ← take_snoc_get hy]
theorem cmpct_half {L : List α} {k : Nat} {x : α} (h1 : 1 ≤ k) (hx : L[k - 1]? = some x) (hy : L[k]? = some x) (h : cmpct (L.take k) = L.take k) : cmpct (L.take (k + 1)) = L.take k := by
  rw [cmpct_same' h1 hx hy, h]
theorem cmpct_one (L : List α) : cmpct (L.take 1) = L.take 1 := by
  cases L with
  | nil => simp [cmpct]
  | cons a l => simp [cmpct]
/-- The row while Compact runs: what is kept of m places, then as it was. -/
def cRow (L : List α) (m : Nat) : List α := cmpct (L.take m) ++ L.drop (cmpct (L.take m)).length
theorem cRow_len (L : List α) (m : Nat) : (cRow L m).length = L.length := by
  have h := cmpct_len (L.take m)
  have : (L.take m).length ≤ L.length := by rw [List.length_take]; omega
  rw [cRow, List.length_append, List.length_drop]; omega
theorem cRow_high {L : List α} {m j : Nat} (h : (cmpct (L.take m)).length ≤ j) : (cRow L m)[j]? = L[j]? := by
  rw [cRow, List.getElem?_append_right h, List.getElem?_drop]
  congr 1; omega
theorem cRow_plain {L : List α} {m : Nat} (h : cmpct (L.take m) = L.take m) (hm : m ≤ L.length) : cRow L m = L := by
  rw [cRow, h, List.length_take, Nat.min_eq_left hm, List.take_append_drop]
end

section
variable {α : Type} [DecidableEq α]
/-- The row, at the first two that are equal. -/
theorem cRow_half {L : List α} {k : Nat} {x : α} (h1 : 1 ≤ k) (hx : L[k - 1]? = some x) (hy : L[k]? = some x) (h : cmpct (L.take k) = L.take k) : cRow L (k + 1) = L ∧ (cmpct (L.take (k + 1))).length = k := by
  have e := cmpct_half h1 hx hy h
  have hk := (List.getElem?_eq_some_iff.1 hy).1
  have hl : (L.take k).length = k := by rw [List.length_take]; omega
  refine ⟨?_, by rw [e, hl]⟩
  rw [cRow, e, hl, List.take_append_drop]
/-- One place more, that equals the one before it: nothing is stored. -/
theorem cRow_skip {L : List α} {k : Nat} {x : α} (h1 : 1 ≤ k) (hx : L[k - 1]? = some x) (hy : L[k]? = some x) : cRow L (k + 1) = cRow L k := by
  rw [cRow, cmpct_same' h1 hx hy, cRow]
/-- One place more, that does not: it is stored behind what is kept. -/
theorem cRow_keep {L : List α} {k : Nat} {x y z : α} (h1 : 1 ≤ k) (hx : L[k - 1]? = some x) (hy : L[k]? = some y) (hne : y ≠ x) (hz : L[(cmpct (L.take k)).length]? = some z) :
    cRow L k = cmpct (L.take k) ++ (z :: L.drop ((cmpct (L.take k)).length + 1)) ∧ cRow L (k + 1) = cmpct (L.take k) ++ (y :: L.drop ((cmpct (L.take k)).length + 1)) := by
  refine ⟨by rw [cRow, drop_get hz], ?_⟩
  rw [cRow, cmpct_new' h1 hx hy hne, List.length_append, List.append_assoc]; rfl
end

theorem cRow_end {α : Type} [DecidableEq α] {enc : α → List Value} {m : Nat} (hm : ∀ x, (enc x).length = m) (L : List α) : ((cRow L L.length).flatMap enc).take ((cmpct L).length * m) = (cmpct L).flatMap enc := by
  have hl := flat_length enc m hm (cmpct L)
  rw [cRow, List.take_length, List.flatMap_append, List.take_append_of_le_length (by rw [hl]; exact Nat.le_refl _), List.take_of_length_le (by rw [hl]; exact Nat.le_refl _)]

/-! ### Runs of stores into the row -/
theorem RSt.sets {wr W : World} {T : TypeId} {m g B0 n cap : Nat} {os : List Value} (h : RSt wr W T m g B0 n cap os) : ∀ (vs : List Value) (o K : Nat), K ≤ o → ∃ os', RSt wr (W.setCells g o vs) T m g B0 n cap os' ∧ os'.take K = os.take K := by
  intro vs
  induction vs generalizing W os with
  | nil => intro o K _; exact ⟨os, h, rfl⟩
  | cons v r ih =>
    intro o K hK
    obtain ⟨os', h1, h2⟩ := ih (h.set o v) (o + 1) K (by omega)
    refine ⟨os', h1, ?_⟩
    rw [h2, List.take_set_of_le hK]
theorem RSt.drewN {wr W : World} {T : TypeId} {m g B0 n cap : Nat} {os : List Value} (h : RSt wr W T m g B0 n cap os) (q : Nat) : RSt wr (W.drewN q) T m g B0 n cap os := h.ext (below_drewN (Below.refl _ _) q)
theorem RSt.drew {wr W : World} {T : TypeId} {m g B0 n cap : Nat} {os : List Value} (h : RSt wr W T m g B0 n cap os) : RSt wr W.drew T m g B0 n cap os := h.ext (Below.refl _ _).drew

/-- clear at a row of the call's own. -/
theorem run_clear_own {P : Program} {wr W : World} {t e : TypeId} {m g B0 n cap : Nat} {os : List Value} (h : RSt wr W e m g B0 n cap os) (ht : P.underlying t = some (.slice e)) (z : Value) (hv : ∀ w, (zeroValue e).run P w = .ok z w) (hz : z.cells.size = m) (h1 : ∀ u ∈ z.cells, u.oneCell' = true)
    (k c : Nat) (hk : k ≤ n) (ty : TypeId) : ∃ vs, (Builtin.clear_ #[t] ty #[.slice (some ⟨g, k * m, none⟩) (n - k) c]).run P W = .ok (.tuple #[]) (W.setCells g (k * m) vs) := by
  obtain ⟨q, hq⟩ : ∃ q, n - k = q := ⟨_, rfl⟩
  rw [hq]
  cases q with
  | zero => exact ⟨[], by simp [Builtin.clear_, run_underlying ht, World.setCells]⟩
  | succ q =>
    have hos := h.own.1
    have hmk : k * m + (q + 1) * m = n * m := by rw [← Nat.add_mul]; congr 1; omega
    have hl : (Builtin.zeroCells z.cells (q + 1)).toList.length = (q + 1) * m := by simp [Builtin.zeroCells, hz]
    have hst := run_storeCells_cells (P := P) g (k * m) (Builtin.zeroCells z.cells (q + 1)).toList 0 W
      (fun j hj => by
        rw [hl] at hj
        have hlt : k * m + j < os.length := by rw [hos]; omega
        rw [Nat.add_zero, h.at (List.getElem?_eq_getElem hlt)]; rfl)
      (fun j _ => h.ice _)
      (fun v hv' => by
        simp only [Builtin.zeroCells, Array.toList_map, List.mem_map] at hv'
        obtain ⟨i, hi, rfl⟩ := hv'
        have hm0 : 0 < z.cells.size := by
          rcases Nat.eq_zero_or_pos z.cells.size with h0 | h0
          · simp [h0] at hi
          · exact h0
        have hlt := Nat.mod_lt i hm0
        rw [getElem!_pos z.cells _ hlt]
        exact h1 _ (Array.getElem_mem hlt))
    refine ⟨(Builtin.zeroCells z.cells (q + 1)).toList, ?_⟩
    simp [Builtin.clear_, run_underlying ht, hv, hst]
end Go.Proofs.YtflddbgadkndlaaGreatDoor
