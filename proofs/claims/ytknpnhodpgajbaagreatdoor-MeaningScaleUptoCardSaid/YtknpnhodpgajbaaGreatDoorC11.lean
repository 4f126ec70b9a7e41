/-
  observable.index at fixings and at choices, Find, Chosen.  Printed by tools/genfind.py. integer.plus: the sum of two magnitudes.  Printed by tools/genplus.py.
-/
import Derived.Test.YtknpnhodpgajbaaGreatDoorC07
import Derived.Test.YtknpnhodpgajbaaGreatDoorC02
namespace Go.Proofs.YtknpnhodpgajbaaGreatDoor
open Go.RowKit
theorem cmpS_zero (a b : ByteArray) : decide (cmpS a b = 0) = decide (a = b) := by
 unfold cmpS
 by_cases h : slt a b = true
 ·have : a ≠ b := by rintro rfl; rw [slt_irrefl] at h; cases h
  simp [h, this]
 ·by_cases h2 : a = b
  ·subst h2; simp [slt_irrefl]
  ·simp [h, h2]
theorem cmpI_zero (a b : Int) : decide (cmpI a b = 0) = decide (a = b) := by
 unfold cmpI
 rcases Int.lt_trichotomy a b with h | h | h
 ·simp [h]; omega
 ·subst h; simp
 ·rw [if_neg (by omega), if_pos h]; simp; omega
theorem orI_zero (a : Int) (l : List Int) : decide (orI (a :: l) = 0) = (decide (a = 0) && decide (orI l = 0)) := by
 rw [orI]
 by_cases h : a = 0 <;> simp [h]
theorem fxCmp_zero (n1 n2 : ByteArray) (d1 d2 : Int) : decide (fxCmp n1 d1 n2 d2 = 0) = (decide (n1 = n2) && decide (d1 = d2)) := by
 rw [fxCmp, orI_zero, orI_zero, cmpS_zero, cmpI_zero]
 simp [orI]
theorem chCmp_zero (p1 p2 n1 n2 : ByteArray) (d1 d2 : Int) : decide (chCmp p1 n1 d1 p2 n2 d2 = 0) = (decide (p1 = p2) && (decide (n1 = n2) && decide (d1 = d2))) := by
 rw [chCmp, orI_zero, orI_zero, orI_zero, cmpS_zero, cmpS_zero, cmpI_zero]
 simp [orI]
def fxIs (g : Fx) (f : Fx) : Bool := decide (f.nm = g.nm) && decide (f.d = g.d)
def chIs (g : Ch) (f : Ch) : Bool := decide (f.pt = g.pt) && (decide (f.nm = g.nm) && decide (f.d = g.d))
theorem find_idx {α : Type} (p : α → Bool) (l : List α) : l.find? p = (l.findIdx? p).bind fun k => l[k]? := by
 cases hf : l.findIdx? p with
 | none =>
  rw [List.find?_eq_none.2 (fun x hx => by simpa using List.findIdx?_eq_none_iff.1 hf x hx)]; rfl
 | some k =>
  obtain ⟨hk, h1, h2⟩ := List.findIdx?_eq_some_iff_getElem.1 hf
  rw [Option.bind_some, List.getElem?_eq_getElem hk]
  exact List.find?_eq_some_iff_getElem.2 ⟨h1, k, hk, rfl, fun j hj => by simpa using h2 j hj⟩
def FxKey (W : World) (B : Nat) (g : Fx) : Prop := W.cell? ⟨B + 1, 0, none⟩ = some (.func (.func 73) #[] #[]) ∧ (∀ i u, g.cells[i]? = some u → W.cell? ⟨B, i, none⟩ = some u)
theorem FxKey.below {W W' : World} {B : Nat} {g : Fx} (h : FxKey W B g) (hb : Below W.heap.size W W') : FxKey W' B g :=
 ⟨by rw [hb.cell (p := ⟨B + 1, 0, none⟩) (World.block_lt_of_cell? W _ h.1)]; exact h.1, fun i u hu => by
  have h2 := h.2 i u hu
  rw [hb.cell (p := ⟨B, i, none⟩) (World.block_lt_of_cell? W _ h2)]; exact h2⟩
set_option maxHeartbeats 1000000 in
set_option maxRecDepth 100000 in
theorem idxClFx_any (f g : Fx) (B : Nat) (w : World) (hk : FxKey w B g) :
  Calls Tryz.prog 212 #[f.val, .pointer (some ⟨B + 1, 0, none⟩), .pointer (some ⟨B, 0, none⟩)] w fun e w' => e = .returned (.bool (fxIs g f)) ∧ Below w.heap.size w w' := by
 have q0 := hk.1
 have k0 := hk.2 0 _ rfl; have k1 := hk.2 1 _ rfl; have k2 := hk.2 2 _ rfl
 have HE : Hid ((fxCmp f.nm f.d g.nm g.d == 0) = fxIs g f) := by
  show _ = _
  rw [← show decide (fxCmp f.nm f.d g.nm g.d = 0) = fxIs g f from fxCmp_zero f.nm g.nm f.d g.d]
  rw [Bool.eq_iff_iff]; simp
 have HC : Hid (∀ W, Calls Tryz.prog 73 #[f.val, g.val] W fun e w' => e = .returned (.int .i64 (fxCmp f.nm f.d g.nm g.d)) ∧ Below W.heap.size W w') := fun W => fixings_any _ _ _ _ _ _ _
 simp only [Fx.val, fxV] at HC ⊢
 generalize fxCmp f.nm f.d g.nm g.d = C at HC HE
 have hB : B + 1 < w.heap.size := World.block_lt_of_cell? w _ q0
 have hB0 : B < w.heap.size := by omega
 clear hk
 go_enter Tryz.func212, Tryz.ntmps212
 go_wp2_with (go_at_call 73; refine (HC.out _).mono ?_; rintro e w1 ⟨rfl, hb1⟩)
 go_ret
 exact ⟨ret_bool' HE.out, (below_a1 _ _).trans (hb1.mono (by simp))⟩
set_option maxHeartbeats 1000000 in
set_option maxRecDepth 100000 in
theorem idxKFx_any (l : List Fx) (g : Fx) (B : Nat) (ad : Option Addr) (cap : Nat) (w : World) (hn : l.length ≤ 1100000) (hr : Rd Fx.cells 3 w ad l) (hk : FxKey w B g) :
  Calls Tryz.prog 128 #[.slice ad l.length cap, .func (.func 212) #[] #[.pointer (some ⟨B + 1, 0, none⟩), .pointer (some ⟨B, 0, none⟩)]] w fun e w' => e = .returned (.int .i64 (idxR (l.findIdx? (fxIs g)))) ∧ Below w.heap.size w w' := by
 have HK := Lib.hid hk
 have HD := Lib.hid hr
 clear hk hr
 go_enter Tryz.func128, Tryz.ntmps128
 go_wp2
 go_loopw [8] (fun i wr => ∃ k : Nat, k ≤ l.length ∧ i = .int .i64 k ∧ Hid (∀ y ∈ l.take k, fxIs g y = false) ∧ Below w.heap.size w wr) (fun i _ => l.length - (intOf i).toNat)
 case atStart => exact ⟨0, Nat.zero_le _, rfl, Lib.hid (by simp), Below.refl _ _⟩
 case round =>
  obtain ⟨k, hk, rfl, Hall, hbel⟩ := hrel
  by_cases hlt : k < l.length
  ·obtain ⟨f, hf⟩ : ∃ f, l[k]? = some f := ⟨_, List.getElem?_eq_getElem hlt⟩
   have HRf : Hid (∃ b off, ad = some ⟨b, off, none⟩ ∧ _) := ((HD.out.below hbel).fx hf)
   have HC := Lib.hid (idxClFx_any f g B wr (HK.out.below hbel))
   have HF := Lib.hid hf
   clear hf
   obtain ⟨b, off, rfl, hc1, hc2, hc3⟩ := HRf
   have hsz := hbel.size
   simp only [Fx.val, fxV] at HC
   cases hp : fxIs g f with
   | true =>
    have HR : Hid (l.findIdx? (fxIs g) = some k) := findIdx_some HF.out hp Hall.out
    rw [hp] at HC
    clear hp
    go_wp2_with (go_at_call 212; refine HC.out.mono ?_; rintro e w1 ⟨rfl, hb1⟩)
    go_ret
    exact ⟨by rw [HR.out]; rfl, hbel.trans (hb1.mono hsz)⟩
   | false =>
    have Hall2 : Hid (∀ y ∈ l.take (k + 1), fxIs g y = false) := all_take_succ HF.out hp Hall.out
    rw [hp] at HC
    clear hp
    go_wp2_with (go_at_call 212; refine HC.out.mono ?_; rintro e w1 ⟨rfl, hb1⟩)
    go_roundw
    case rel => exact ⟨k + 1, by omega, by go_num, Hall2, hbel.trans (hb1.mono hsz)⟩
    case measure => simp [intOf]; omega
  ·obtain rfl : k = l.length := by omega
   have HR : Hid (l.findIdx? (fxIs g) = none) := findIdx_none (by have := Hall.out; rwa [List.take_length] at this)
   go_wp2
   go_ret
   exact ⟨by rw [HR.out]; rfl, hbel⟩
set_option maxHeartbeats 1000000 in
set_option maxRecDepth 100000 in
theorem findFx_any (l : List Fx) (g : Fx) (ad : Option Addr) (cap : Nat) (w : World) (hn : l.length ≤ 1100000) (hr : Rd Fx.cells 3 w ad l) :
  Calls Tryz.prog 208 #[.slice ad l.length cap, g.val, .func (.func 73) #[] #[]] w fun e w' => e = .returned (.int .i64 (idxR (l.findIdx? (fxIs g)))) ∧ Below w.heap.size w w' := by
 have hb0 : Below w.heap.size w ((w.alloc (.cells #[.string g.nm, .int .i64 g.d, .string g.vl] 94)).alloc (.cells #[.func (.func 73) #[] #[]] 120)) := below_a2 _ _ _
 have hk : FxKey ((w.alloc (.cells #[.string g.nm, .int .i64 g.d, .string g.vl] 94)).alloc (.cells #[.func (.func 73) #[] #[]] 120)) w.heap.size g := by
  refine ⟨by go_simp, fun i u hu => ?_⟩
  have hi : i < 3 := (List.getElem?_eq_some_iff.1 hu).1
  match i, hi with
  | 0, _ => (cases hu; go_simp) | 1, _ => (cases hu; go_simp) | 2, _ => (cases hu; go_simp)
 have HC := Lib.hid (idxKFx_any l g w.heap.size ad cap _ hn (hr.below hb0) hk)
 have HB := Lib.hid hb0
 clear hk hr hb0
 simp only [Fx.val, fxV]
 go_enter Tryz.func208, Tryz.ntmps208
 go_wp2_with (go_at_call 128; refine HC.out.mono ?_; rintro e w1 ⟨rfl, hb1⟩)
 go_ret
 exact ⟨rfl, HB.out.trans (hb1.mono HB.out.size)⟩
def ChKey (W : World) (B : Nat) (g : Ch) : Prop := W.cell? ⟨B + 1, 0, none⟩ = some (.func (.func 75) #[] #[]) ∧ (∀ i u, g.cells[i]? = some u → W.cell? ⟨B, i, none⟩ = some u)
theorem ChKey.below {W W' : World} {B : Nat} {g : Ch} (h : ChKey W B g) (hb : Below W.heap.size W W') : ChKey W' B g :=
 ⟨by rw [hb.cell (p := ⟨B + 1, 0, none⟩) (World.block_lt_of_cell? W _ h.1)]; exact h.1, fun i u hu => by
  have h2 := h.2 i u hu
  rw [hb.cell (p := ⟨B, i, none⟩) (World.block_lt_of_cell? W _ h2)]; exact h2⟩
set_option maxHeartbeats 1000000 in
set_option maxRecDepth 100000 in
theorem idxClCh_any (f g : Ch) (B : Nat) (w : World) (hk : ChKey w B g) :
  Calls Tryz.prog 133 #[f.val, .pointer (some ⟨B + 1, 0, none⟩), .pointer (some ⟨B, 0, none⟩)] w fun e w' => e = .returned (.bool (chIs g f)) ∧ Below w.heap.size w w' := by
 have q0 := hk.1
 have k0 := hk.2 0 _ rfl; have k1 := hk.2 1 _ rfl; have k2 := hk.2 2 _ rfl; have k3 := hk.2 3 _ rfl
 have HE : Hid ((chCmp f.pt f.nm f.d g.pt g.nm g.d == 0) = chIs g f) := by
  show _ = _
  rw [← show decide (chCmp f.pt f.nm f.d g.pt g.nm g.d = 0) = chIs g f from chCmp_zero f.pt g.pt f.nm g.nm f.d g.d]
  rw [Bool.eq_iff_iff]; simp
 have HC : Hid (∀ W, Calls Tryz.prog 75 #[f.val, g.val] W fun e w' => e = .returned (.int .i64 (chCmp f.pt f.nm f.d g.pt g.nm g.d)) ∧ Below W.heap.size W w') := fun W => choices_any _ _ _ _ _ _ _ _ _
 simp only [Ch.val, chV] at HC ⊢
 generalize chCmp f.pt f.nm f.d g.pt g.nm g.d = C at HC HE
 have hB : B + 1 < w.heap.size := World.block_lt_of_cell? w _ q0
 have hB0 : B < w.heap.size := by omega
 clear hk
 go_enter Tryz.func133, Tryz.ntmps133
 go_wp2_with (go_at_call 75; refine (HC.out _).mono ?_; rintro e w1 ⟨rfl, hb1⟩)
 go_ret
 exact ⟨ret_bool' HE.out, (below_a1 _ _).trans (hb1.mono (by simp))⟩
set_option maxHeartbeats 1000000 in
set_option maxRecDepth 100000 in
theorem idxKCh_any (l : List Ch) (g : Ch) (B : Nat) (ad : Option Addr) (cap : Nat) (w : World) (hn : l.length ≤ 1100000) (hr : Rd Ch.cells 4 w ad l) (hk : ChKey w B g) :
  Calls Tryz.prog 129 #[.slice ad l.length cap, .func (.func 133) #[] #[.pointer (some ⟨B + 1, 0, none⟩), .pointer (some ⟨B, 0, none⟩)]] w fun e w' => e = .returned (.int .i64 (idxR (l.findIdx? (chIs g)))) ∧ Below w.heap.size w w' := by
 have HK := Lib.hid hk
 have HD := Lib.hid hr
 clear hk hr
 go_enter Tryz.func129, Tryz.ntmps129
 go_wp2
 go_loopw [8] (fun i wr => ∃ k : Nat, k ≤ l.length ∧ i = .int .i64 k ∧ Hid (∀ y ∈ l.take k, chIs g y = false) ∧ Below w.heap.size w wr) (fun i _ => l.length - (intOf i).toNat)
 case atStart => exact ⟨0, Nat.zero_le _, rfl, Lib.hid (by simp), Below.refl _ _⟩
 case round =>
  obtain ⟨k, hk, rfl, Hall, hbel⟩ := hrel
  by_cases hlt : k < l.length
  ·obtain ⟨f, hf⟩ : ∃ f, l[k]? = some f := ⟨_, List.getElem?_eq_getElem hlt⟩
   have HRf : Hid (∃ b off, ad = some ⟨b, off, none⟩ ∧ _) := ((HD.out.below hbel).ch hf)
   have HC := Lib.hid (idxClCh_any f g B wr (HK.out.below hbel))
   have HF := Lib.hid hf
   clear hf
   obtain ⟨b, off, rfl, hc1, hc2, hc3, hc4⟩ := HRf
   have hsz := hbel.size
   simp only [Ch.val, chV] at HC
   cases hp : chIs g f with
   | true =>
    have HR : Hid (l.findIdx? (chIs g) = some k) := findIdx_some HF.out hp Hall.out
    rw [hp] at HC
    clear hp
    go_wp2_with (go_at_call 133; refine HC.out.mono ?_; rintro e w1 ⟨rfl, hb1⟩)
    go_ret
    exact ⟨by rw [HR.out]; rfl, hbel.trans (hb1.mono hsz)⟩
   | false =>
    have Hall2 : Hid (∀ y ∈ l.take (k + 1), chIs g y = false) := all_take_succ HF.out hp Hall.out
    rw [hp] at HC
    clear hp
    go_wp2_with (go_at_call 133; refine HC.out.mono ?_; rintro e w1 ⟨rfl, hb1⟩)
    go_roundw
    case rel => exact ⟨k + 1, by omega, by go_num, Hall2, hbel.trans (hb1.mono hsz)⟩
    case measure => simp [intOf]; omega
  ·obtain rfl : k = l.length := by omega
   have HR : Hid (l.findIdx? (chIs g) = none) := findIdx_none (by have := Hall.out; rwa [List.take_length] at this)
   go_wp2
   go_ret
   exact ⟨by rw [HR.out]; rfl, hbel⟩
set_option maxHeartbeats 1000000 in
set_option maxRecDepth 100000 in
theorem findCh_any (l : List Ch) (g : Ch) (ad : Option Addr) (cap : Nat) (w : World) (hn : l.length ≤ 1100000) (hr : Rd Ch.cells 4 w ad l) :
  Calls Tryz.prog 76 #[.slice ad l.length cap, g.val, .func (.func 75) #[] #[]] w fun e w' => e = .returned (.int .i64 (idxR (l.findIdx? (chIs g)))) ∧ Below w.heap.size w w' := by
 have hb0 : Below w.heap.size w ((w.alloc (.cells #[.string g.pt, .string g.nm, .int .i64 g.d, .bool g.first] 67)).alloc (.cells #[.func (.func 75) #[] #[]] 122)) := below_a2 _ _ _
 have hk : ChKey ((w.alloc (.cells #[.string g.pt, .string g.nm, .int .i64 g.d, .bool g.first] 67)).alloc (.cells #[.func (.func 75) #[] #[]] 122)) w.heap.size g := by
  refine ⟨by go_simp, fun i u hu => ?_⟩
  have hi : i < 4 := (List.getElem?_eq_some_iff.1 hu).1
  match i, hi with
  | 0, _ => (cases hu; go_simp) | 1, _ => (cases hu; go_simp) | 2, _ => (cases hu; go_simp) | 3, _ => (cases hu; go_simp)
 have HC := Lib.hid (idxKCh_any l g w.heap.size ad cap _ hn (hr.below hb0) hk)
 have HB := Lib.hid hb0
 clear hk hr hb0
 simp only [Ch.val, chV]
 go_enter Tryz.func76, Tryz.ntmps76
 go_wp2_with (go_at_call 129; refine HC.out.mono ?_; rintro e w1 ⟨rfl, hb1⟩)
 go_ret
 exact ⟨rfl, HB.out.trans (hb1.mono HB.out.size)⟩
theorem idxR_some {α : Type} {p : α → Bool} {l : List α} {k : Nat} (h : l.findIdx? p = some k) : ∃ x, l[k]? = some x ∧ l.find? p = some x := by
 obtain ⟨hk, _, _⟩ := List.findIdx?_eq_some_iff_getElem.1 h
 exact ⟨_, List.getElem?_eq_getElem hk, by rw [find_idx, h, Option.bind_some, List.getElem?_eq_getElem hk]⟩
def fndT : Option Fx → Value
 | some f => .tuple #[.string f.vl, .bool true]
 | none => .tuple #[.string ⟨#[]⟩, .bool false]
set_option maxHeartbeats 1000000 in
set_option maxRecDepth 100000 in
theorem ofind_any (l : List Fx) (nm : ByteArray) (d : Int) (ad : Option Addr) (cap : Nat) (vc : Value) (w : World) (hn : l.length ≤ 1100000) (hr : Rd Fx.cells 3 w ad l) :
  Calls Tryz.prog 196 #[.agg #[.slice ad l.length cap, vc], .string nm, .int .i64 d] w fun e w' => e = .returned (fndT (l.find? (fxIs ⟨nm, d, ⟨#[]⟩⟩))) ∧ Below w.heap.size w w' := by
 have hb0 : Below w.heap.size w (w.alloc (.cells #[.slice ad l.length cap, vc] 33)) := below_a1 _ _
 have HC := Lib.hid (findFx_any l ⟨nm, d, ⟨#[]⟩⟩ ad cap _ hn (hr.below hb0))
 have HR : Hid (∀ W, Below w.heap.size w W → ∀ j x, l[j]? = some x → _) := fun W hb j x hj => (hr.below hb).fx hj
 simp only [Fx.val, fxV] at HC
 have HB := Lib.hid hb0
 clear hr hb0
 cases hf : l.findIdx? (fxIs ⟨nm, d, ⟨#[]⟩⟩) with
 | none =>
  have HE : Hid (l.find? (fxIs ⟨nm, d, ⟨#[]⟩⟩) = none) := by show _ = _; rw [find_idx, hf]; rfl
  rw [hf] at HC
  generalize l.find? (fxIs ⟨nm, d, ⟨#[]⟩⟩) = R at *
  clear hf
  have HC : Hid (Calls _ _ _ _ fun e w' => e = .returned (.int .i64 (-1)) ∧ _) := HC
  go_enter Tryz.func196, Tryz.ntmps196
  go_wp2_with (refine HC.out.mono ?_; rintro e w1 ⟨rfl, hb1⟩)
  go_ret2
  exact ⟨by rw [HE.out]; rfl, HB.out.trans (hb1.mono HB.out.size)⟩
 | some k =>
  obtain ⟨x, hx, hfx⟩ := idxR_some hf
  have HE := Lib.hid hfx
  rw [hf] at HC
  generalize l.find? (fxIs ⟨nm, d, ⟨#[]⟩⟩) = R at *
  have hk := (List.getElem?_eq_some_iff.1 hx).1
  have hk1 : (0 : Int) ≤ (k : Int) := by omega
  have hk2 : (k : Int) < (l.length : Int) := by omega
  have HX := Lib.hid hx
  clear hf hfx hx
  have HC : Hid (Calls _ _ _ _ fun e w' => e = .returned (.int .i64 (k : Int)) ∧ _) := HC
  go_enter Tryz.func196, Tryz.ntmps196
  go_wp2_with fail
  refine HC.out.mono ?_
  rintro e w1 ⟨rfl, hb1⟩
  have hb2 : Below w.heap.size w w1 := HB.out.trans (hb1.mono HB.out.size)
  obtain ⟨b, off, rfl, hc1, hc2, hc3⟩ := HR.out w1 hb2 k x HX.out
  have q0 : w1.cell? ⟨w.heap.size, 0, none⟩ = some (.slice (some ⟨b, off, none⟩) l.length cap) := by rw [hb1.cell (p := ⟨w.heap.size, 0, none⟩) (by simp)]; go_simp
  clear hb1 HC
  go_wp2
  go_ret2
  exact ⟨by rw [HE.out]; rfl, hb2⟩
def chsB : Option Ch → Bool
 | some c => c.first
 | none => false
set_option maxHeartbeats 1000000 in
set_option maxRecDepth 100000 in
theorem ochosen_any (l : List Ch) (pt nm : ByteArray) (d : Int) (ad : Option Addr) (cap : Nat) (vf : Value) (w : World) (hn : l.length ≤ 1100000) (hr : Rd Ch.cells 4 w ad l) :
  Calls Tryz.prog 26 #[.agg #[vf, .slice ad l.length cap], .string pt, .string nm, .int .i64 d] w fun e w' => e = .returned (.bool (chsB (l.find? (chIs ⟨pt, nm, d, false⟩)))) ∧ Below w.heap.size w w' := by
 have hb0 : Below w.heap.size w (w.alloc (.cells #[vf, .slice ad l.length cap] 33)) := below_a1 _ _
 have HC := Lib.hid (findCh_any l ⟨pt, nm, d, false⟩ ad cap _ hn (hr.below hb0))
 have HR : Hid (∀ W, Below w.heap.size w W → ∀ j x, l[j]? = some x → _) := fun W hb j x hj => (hr.below hb).ch hj
 simp only [Ch.val, chV] at HC
 have HB := Lib.hid hb0
 clear hr hb0
 cases hf : l.findIdx? (chIs ⟨pt, nm, d, false⟩) with
 | none =>
  have HE : Hid (l.find? (chIs ⟨pt, nm, d, false⟩) = none) := by show _ = _; rw [find_idx, hf]; rfl
  rw [hf] at HC
  generalize l.find? (chIs ⟨pt, nm, d, false⟩) = R at *
  clear hf
  have HC : Hid (Calls _ _ _ _ fun e w' => e = .returned (.int .i64 (-1)) ∧ _) := HC
  go_enter Tryz.func26, Tryz.ntmps26
  go_wp2_with (refine HC.out.mono ?_; rintro e w1 ⟨rfl, hb1⟩)
  go_ret
  exact ⟨by rw [HE.out]; rfl, HB.out.trans (hb1.mono HB.out.size)⟩
 | some k =>
  obtain ⟨x, hx, hfx⟩ := idxR_some hf
  have HE := Lib.hid hfx
  rw [hf] at HC
  generalize l.find? (chIs ⟨pt, nm, d, false⟩) = R at *
  have hk := (List.getElem?_eq_some_iff.1 hx).1
  have hk1 : (0 : Int) ≤ (k : Int) := by omega
  have hk2 : (k : Int) < (l.length : Int) := by omega
  have HX := Lib.hid hx
  clear hf hfx hx
  have HC : Hid (Calls _ _ _ _ fun e w' => e = .returned (.int .i64 (k : Int)) ∧ _) := HC
  go_enter Tryz.func26, Tryz.ntmps26
  go_wp2_with fail
  refine HC.out.mono ?_
  rintro e w1 ⟨rfl, hb1⟩
  have hb2 : Below w.heap.size w w1 := HB.out.trans (hb1.mono HB.out.size)
  obtain ⟨b, off, rfl, hc1, hc2, hc3, hc4⟩ := HR.out w1 hb2 k x HX.out
  have q0 : w1.cell? ⟨w.heap.size, 1, none⟩ = some (.slice (some ⟨b, off, none⟩) l.length cap) := by rw [hb1.cell (p := ⟨w.heap.size, 1, none⟩) (by simp)]; go_simp
  clear hb1 HC
  go_wp2
  go_ret
  exact ⟨by rw [HE.out]; rfl, hb2⟩
end Go.Proofs.YtknpnhodpgajbaaGreatDoor

namespace Go.Proofs.YtknpnhodpgajbaaGreatDoor
open Go.RowKit
theorem plus_step (A Bv O P x y c d r : Nat) (h : O + c * P = A + Bv) (hd : d + r * 1000000000 = x + y + c) : (O + P * d) + r * (P * 1000000000) = (A + P * x) + (Bv + P * y) := by
 have e1 : P * (d + r * 1000000000) = P * (x + y + c) := by rw [hd]
 rw [Nat.mul_add, Nat.mul_add, Nat.mul_add] at e1
 have e2 : P * (r * 1000000000) = r * (P * 1000000000) := by rw [← Nat.mul_assoc, ← Nat.mul_assoc, Nat.mul_comm P r]
 rw [e2] at e1
 rw [Nat.mul_comm c P] at h
 omega
def PlusInv (xs ys o : List Nat) (k c : Nat) : Prop :=
 o.length = k ∧ Dig 1000000000 o ∧ val 1000000000 o + c * 1000000000 ^ k = val 1000000000 (xs.take k) + val 1000000000 (ys.take k)
theorem PlusInv.start (xs ys : List Nat) : PlusInv xs ys [] 0 0 := ⟨rfl, Dig.nil _, by simp [val]⟩
theorem PlusInv.step {xs ys o : List Nat} {k c d r : Nat} (h : PlusInv xs ys o k c) (hd : d < 1000000000) (e : d + r * 1000000000 = xs.getD k 0 + ys.getD k 0 + c) : PlusInv xs ys (o ++ [d]) (k + 1) r := by
 obtain ⟨h1, h2, h3⟩ := h
 refine ⟨by simp [h1], h2.snoc hd, ?_⟩
 rw [val_take_succ, val_take_succ, val_snoc, h1, Nat.pow_succ]
 exact plus_step _ _ _ _ _ _ _ _ _ h3 e
theorem PlusInv.fin {xs ys o : List Nat} {c : Nat} (h : PlusInv xs ys o xs.length c) (hl : ys.length ≤ xs.length) : val 1000000000 (o ++ [c]) = val 1000000000 xs + val 1000000000 ys := by
 obtain ⟨h1, h2, h3⟩ := h
 rw [List.take_of_length_le (Nat.le_refl _), List.take_of_length_le hl] at h3
 rw [val_snoc, h1, Nat.mul_comm]
 exact h3
set_option maxHeartbeats 1000000 in
set_option maxRecDepth 100000 in
theorem plus_ge (a b : Value) (xs ys : List Nat) (w : World) (ha : Sl w a 1 xs.length (nums .u32 xs)) (hb : Sl w b 1 ys.length (nums .u32 ys))
  (dx : Dig 1000000000 xs) (dy : Dig 1000000000 ys) (lx : xs.length ≤ 100000) (_ly : ys.length ≤ 100000) (hlen : ys.length ≤ xs.length) :
  Calls Tryz.prog 193 #[a, b] w fun e w' => ∃ v rs, e = .returned v ∧ OwnMag w w' v rs ∧ val 1000000000 rs = val 1000000000 xs + val 1000000000 ys := by
 obtain ⟨ad, ca, rfl, h1, h3⟩ := ha.nums
 obtain ⟨bd, cb, rfl, h1', h3'⟩ := hb.nums
 obtain ⟨i0, hi, hz0, hz1, hz2⟩ := info_parts Tryz.info_u32
 clear ha hb
 obtain ⟨N, hN⟩ : ∃ N, N = xs.length + 1 := ⟨_, rfl⟩
 have HN := Lib.hid hN
 have hNl : N ≤ 100001 := by omega
 have hN1 : xs.length + 1 ≤ N := by omega
 have hN2 : N ≤ xs.length + 1 := by omega
 clear hN
 go_enter Tryz.func193, Tryz.ntmps193
 go_wp2_with (at_make; refine wpList_make_own _ rfl _ _ 157 rfl w.heap.size 197 i0 (.int .u32 0) 1 Tryz.ul_u32s hi hz0 hz1 _ _ _ N rfl rfl ?b0 ?b1 ?b2 ?b3 ?_)
 case b0 => rw [HN.out]; simp
 case b1 => rw [hz2]; omega
 case b2 => unfold maxLen; omega
 case b3 => exact Nat.le_refl _
 intro w1 hown hgrow
 have hbel : Below w.heap.size w w1 := (Below.refl _ _).grown hgrow (Nat.le_refl _) (by simp)
 clear hgrow
 go_wp2
 go_loopw [5, 6, 23] (fun o c i wr => ∃ (k b1 : Nat) (os : List Nat), k ≤ xs.length ∧ b1 ≤ 1 ∧ i = .int .i64 k ∧ c = .int .u32 b1 ∧ o = .slice (some ⟨w.heap.size, 0, none⟩) k N ∧
   wr.ownsRow w.heap.size 197 1 (.slice (some ⟨w.heap.size, 0, none⟩) k N) k (nums .u32 os) ∧ Hid (PlusInv xs ys os k b1) ∧ Below w.heap.size w wr)
  (fun _ _ i _ => xs.length - (intOf i).toNat)
 case atStart => exact ⟨0, 0, [], Nat.zero_le _, by omega, rfl, rfl, rfl, hown, PlusInv.start _ _, hbel⟩
 case round =>
  clear hown hbel
  obtain ⟨k, b1, os, hk, hb1, rfl, rfl, rfl, hown, Hinv, hbel⟩ := hrel
  by_cases hlt : k < xs.length
  ·obtain ⟨b, off, rfl, hc⟩ := h3.resolve_left (by omega)
   have hck := cell_later hbel (hc k hlt)
   have hx9 := dx.at (by decide) k
   have hy9 := dy.at (by decide) k
   obtain ⟨x, hx⟩ : ∃ x, x = xs.getD k 0 := ⟨_, rfl⟩
   obtain ⟨y, hy⟩ : ∃ y, y = ys.getD k 0 := ⟨_, rfl⟩
   rw [← hx] at hck hx9
   rw [← hy] at hy9
   have Hx := Lib.hid hx; clear hx
   have Hy := Lib.hid hy; clear hy
   clear hc h3
   have hsz := hbel.size
   by_cases hly : k < ys.length
   ·obtain ⟨b', off', rfl, hd⟩ := h3'.resolve_left (by omega)
    have hdk := cell_later hbel (hd k hly)
    rw [← Hy.out] at hdk
    clear hd h3'
    go_wp2_with (at_builtin; refine wpList_append_fits _ rfl _ _ 157 rfl w.heap.size 197 i0 1 Tryz.ul_u32s hi hz1 w.heap.size k N (nums .u32 os) rfl (hown.alloc _) ⟨wr.heap.size, 0, none⟩ 1 1 [_] rfl rfl (cell_one_new _ _ _) (int_oneCell _ _) (by omega) ?_)
    intro w2 hown2 hgrow2
    have ed : (((x : Int) + b1 + y) % 1000000000 : Int) = (((x + b1 + y) % 1000000000 : Nat) : Int) := by omega
    rw [ed, nums_snoc] at hown2
    have hbel2 : Below w.heap.size w w2 := (hbel.alloc hsz _).grown hgrow2 (by simp; omega) (by intro k hk; simp at hk; omega)
    have HR : Hid (PlusInv xs ys (os ++ [(x + b1 + y) % 1000000000]) (k + 1) ((x + b1 + y) / 1000000000)) := Hinv.out.step (Nat.mod_lt _ (by decide)) (by rw [← Hx.out, ← Hy.out]; omega)
    clear ed hgrow2 hown hbel
    go_wp2
    go_roundw
    case rel => exact ⟨k + 1, (x + b1 + y) / 1000000000, os ++ [(x + b1 + y) % 1000000000], by omega, by omega, by go_num, by go_num, rfl, hown2, HR, hbel2⟩
    case measure => simp [intOf]; omega
   ·have hy0 : ys.getD k 0 = 0 := by simp only [List.getD, List.getElem?_eq_none (by omega : ys.length ≤ k), Option.getD_none]
    have Hy0 := Lib.hid hy0; clear hy0
    go_wp2_with (at_builtin; refine wpList_append_fits _ rfl _ _ 157 rfl w.heap.size 197 i0 1 Tryz.ul_u32s hi hz1 w.heap.size k N (nums .u32 os) rfl (hown.alloc _) ⟨wr.heap.size, 0, none⟩ 1 1 [_] rfl rfl (cell_one_new _ _ _) (int_oneCell _ _) (by omega) ?_)
    intro w2 hown2 hgrow2
    have ed : (((x : Int) + b1) % 1000000000 : Int) = (((x + b1) % 1000000000 : Nat) : Int) := by omega
    rw [ed, nums_snoc] at hown2
    have hbel2 : Below w.heap.size w w2 := (hbel.alloc hsz _).grown hgrow2 (by simp; omega) (by intro k hk; simp at hk; omega)
    have HR : Hid (PlusInv xs ys (os ++ [(x + b1) % 1000000000]) (k + 1) ((x + b1) / 1000000000)) := Hinv.out.step (Nat.mod_lt _ (by decide)) (by rw [← Hx.out, Hy0.out]; omega)
    clear ed hgrow2 hown hbel
    go_wp2
    go_roundw
    case rel => exact ⟨k + 1, (x + b1) / 1000000000, os ++ [(x + b1) % 1000000000], by omega, by omega, by go_num, by go_num, rfl, hown2, HR, hbel2⟩
    case measure => simp [intOf]; omega
  ·obtain rfl : k = xs.length := by omega
   have hdg := Hinv.out.2.1
   have hos : os.length = xs.length := Hinv.out.1
   have Hos := Lib.hid hos; clear hos
   have hsz := hbel.size
   go_wp2_with (at_builtin; refine wpList_append_fits _ rfl _ _ 157 rfl w.heap.size 197 i0 1 Tryz.ul_u32s hi hz1 w.heap.size xs.length N (nums .u32 os) rfl (hown.alloc _) ⟨wr.heap.size, 0, none⟩ 1 1 [_] rfl rfl (cell_one_new _ _ _) (int_oneCell _ _) (by omega) ?_)
   intro w2 hown2 hgrow2
   rw [nums_snoc] at hown2
   have hbel2 : Below w.heap.size w w2 := (hbel.alloc hsz _).grown hgrow2 (by simp; omega) (by intro k hk; simp at hk; omega)
   have e1 : xs.length + 1 = (os ++ [b1]).length := by rw [List.length_append, Hos.out]; rfl
   have HF := Lib.hid (Hinv.out.fin (by omega))
   have hdg2 : Dig 1000000000 (os ++ [b1]) := hdg.snoc (by omega)
   have hown3 : w2.ownsRow w.heap.size 197 1 (.slice (some ⟨w.heap.size, 0, none⟩) (xs.length + 1) N) (os ++ [b1]).length (nums .u32 (os ++ [b1])) := by rw [← e1]; exact hown2
   have hsl : Sl w2 (.slice (some ⟨w.heap.size, 0, none⟩) (xs.length + 1) N) 1 (os ++ [b1]).length (nums .u32 (os ++ [b1])) := Sl.of_owns hown3
   have E1 := Lib.hid e1
   clear e1 hgrow2 hown hbel hown2
   go_wp2_with fail
   refine (trim_any (.slice (some ⟨w.heap.size, 0, none⟩) (xs.length + 1) N) (os ++ [b1]) w2 hsl (by have := E1.out; omega)).mono ?_
   rintro e w' ⟨v', rfl, Hv, rfl⟩
   go_wp2
   go_ret
   exact ⟨_, _, rfl, ⟨own_trim hown3 Hv.out, trimL_nrm hdg2, hbel2⟩, (trimL_val _ _).trans HF.out⟩
set_option maxHeartbeats 1000000 in
set_option maxRecDepth 100000 in
theorem plus_lt (a b : Value) (xs ys : List Nat) (w : World) (ha : Sl w a 1 xs.length (nums .u32 xs)) (hb : Sl w b 1 ys.length (nums .u32 ys))
  (dx : Dig 1000000000 xs) (dy : Dig 1000000000 ys) (lx : xs.length ≤ 100000) (ly : ys.length ≤ 100000) (hlen : xs.length < ys.length) :
  Calls Tryz.prog 193 #[a, b] w fun e w' => ∃ v rs, e = .returned v ∧ OwnMag w w' v rs ∧ val 1000000000 rs = val 1000000000 xs + val 1000000000 ys := by
 obtain ⟨ad, ca, rfl, h1, h3⟩ := ha.nums
 obtain ⟨bd, cb, rfl, h1', h3'⟩ := hb.nums
 obtain ⟨i0, hi, hz0, hz1, hz2⟩ := info_parts Tryz.info_u32
 clear ha hb
 obtain ⟨N, hN⟩ : ∃ N, N = ys.length + 1 := ⟨_, rfl⟩
 have HN := Lib.hid hN
 have hNl : N ≤ 100001 := by omega
 have hN1 : ys.length + 1 ≤ N := by omega
 have hN2 : N ≤ ys.length + 1 := by omega
 clear hN
 go_enter Tryz.func193, Tryz.ntmps193
 go_wp2_with (at_make; refine wpList_make_own _ rfl _ _ 157 rfl w.heap.size 197 i0 (.int .u32 0) 1 Tryz.ul_u32s hi hz0 hz1 _ _ _ N rfl rfl ?b0 ?b1 ?b2 ?b3 ?_)
 case b0 => rw [HN.out]; simp
 case b1 => rw [hz2]; omega
 case b2 => unfold maxLen; omega
 case b3 => exact Nat.le_refl _
 intro w1 hown hgrow
 have hbel : Below w.heap.size w w1 := (Below.refl _ _).grown hgrow (Nat.le_refl _) (by simp)
 clear hgrow
 go_wp2
 go_loopw [5, 6, 23] (fun o c i wr => ∃ (k b1 : Nat) (os : List Nat), k ≤ ys.length ∧ b1 ≤ 1 ∧ i = .int .i64 k ∧ c = .int .u32 b1 ∧ o = .slice (some ⟨w.heap.size, 0, none⟩) k N ∧
   wr.ownsRow w.heap.size 197 1 (.slice (some ⟨w.heap.size, 0, none⟩) k N) k (nums .u32 os) ∧ Hid (PlusInv ys xs os k b1) ∧ Below w.heap.size w wr)
  (fun _ _ i _ => ys.length - (intOf i).toNat)
 case atStart => exact ⟨0, 0, [], Nat.zero_le _, by omega, rfl, rfl, rfl, hown, PlusInv.start _ _, hbel⟩
 case round =>
  clear hown hbel
  obtain ⟨k, b1, os, hk, hb1, rfl, rfl, rfl, hown, Hinv, hbel⟩ := hrel
  by_cases hlt : k < ys.length
  ·obtain ⟨b, off, rfl, hc⟩ := h3'.resolve_left (by omega)
   have hck := cell_later hbel (hc k hlt)
   have hx9 := dy.at (by decide) k
   have hy9 := dx.at (by decide) k
   obtain ⟨x, hx⟩ : ∃ x, x = ys.getD k 0 := ⟨_, rfl⟩
   obtain ⟨y, hy⟩ : ∃ y, y = xs.getD k 0 := ⟨_, rfl⟩
   rw [← hx] at hck hx9
   rw [← hy] at hy9
   have Hx := Lib.hid hx; clear hx
   have Hy := Lib.hid hy; clear hy
   clear hc h3'
   have hsz := hbel.size
   by_cases hly : k < xs.length
   ·obtain ⟨b', off', rfl, hd⟩ := h3.resolve_left (by omega)
    have hdk := cell_later hbel (hd k hly)
    rw [← Hy.out] at hdk
    clear hd h3
    go_wp2_with (at_builtin; refine wpList_append_fits _ rfl _ _ 157 rfl w.heap.size 197 i0 1 Tryz.ul_u32s hi hz1 w.heap.size k N (nums .u32 os) rfl (hown.alloc _) ⟨wr.heap.size, 0, none⟩ 1 1 [_] rfl rfl (cell_one_new _ _ _) (int_oneCell _ _) (by omega) ?_)
    intro w2 hown2 hgrow2
    have ed : (((x : Int) + b1 + y) % 1000000000 : Int) = (((x + b1 + y) % 1000000000 : Nat) : Int) := by omega
    rw [ed, nums_snoc] at hown2
    have hbel2 : Below w.heap.size w w2 := (hbel.alloc hsz _).grown hgrow2 (by simp; omega) (by intro k hk; simp at hk; omega)
    have HR : Hid (PlusInv ys xs (os ++ [(x + b1 + y) % 1000000000]) (k + 1) ((x + b1 + y) / 1000000000)) := Hinv.out.step (Nat.mod_lt _ (by decide)) (by rw [← Hx.out, ← Hy.out]; omega)
    clear ed hgrow2 hown hbel
    go_wp2
    go_roundw
    case rel => exact ⟨k + 1, (x + b1 + y) / 1000000000, os ++ [(x + b1 + y) % 1000000000], by omega, by omega, by go_num, by go_num, rfl, hown2, HR, hbel2⟩
    case measure => simp [intOf]; omega
   ·have hy0 : xs.getD k 0 = 0 := by simp only [List.getD, List.getElem?_eq_none (by omega : xs.length ≤ k), Option.getD_none]
    have Hy0 := Lib.hid hy0; clear hy0
    go_wp2_with (at_builtin; refine wpList_append_fits _ rfl _ _ 157 rfl w.heap.size 197 i0 1 Tryz.ul_u32s hi hz1 w.heap.size k N (nums .u32 os) rfl (hown.alloc _) ⟨wr.heap.size, 0, none⟩ 1 1 [_] rfl rfl (cell_one_new _ _ _) (int_oneCell _ _) (by omega) ?_)
    intro w2 hown2 hgrow2
    have ed : (((x : Int) + b1) % 1000000000 : Int) = (((x + b1) % 1000000000 : Nat) : Int) := by omega
    rw [ed, nums_snoc] at hown2
    have hbel2 : Below w.heap.size w w2 := (hbel.alloc hsz _).grown hgrow2 (by simp; omega) (by intro k hk; simp at hk; omega)
    have HR : Hid (PlusInv ys xs (os ++ [(x + b1) % 1000000000]) (k + 1) ((x + b1) / 1000000000)) := Hinv.out.step (Nat.mod_lt _ (by decide)) (by rw [← Hx.out, Hy0.out]; omega)
    clear ed hgrow2 hown hbel
    go_wp2
    go_roundw
    case rel => exact ⟨k + 1, (x + b1) / 1000000000, os ++ [(x + b1) % 1000000000], by omega, by omega, by go_num, by go_num, rfl, hown2, HR, hbel2⟩
    case measure => simp [intOf]; omega
  ·obtain rfl : k = ys.length := by omega
   have hdg := Hinv.out.2.1
   have hos : os.length = ys.length := Hinv.out.1
   have Hos := Lib.hid hos; clear hos
   have hsz := hbel.size
   go_wp2_with (at_builtin; refine wpList_append_fits _ rfl _ _ 157 rfl w.heap.size 197 i0 1 Tryz.ul_u32s hi hz1 w.heap.size ys.length N (nums .u32 os) rfl (hown.alloc _) ⟨wr.heap.size, 0, none⟩ 1 1 [_] rfl rfl (cell_one_new _ _ _) (int_oneCell _ _) (by omega) ?_)
   intro w2 hown2 hgrow2
   rw [nums_snoc] at hown2
   have hbel2 : Below w.heap.size w w2 := (hbel.alloc hsz _).grown hgrow2 (by simp; omega) (by intro k hk; simp at hk; omega)
   have e1 : ys.length + 1 = (os ++ [b1]).length := by rw [List.length_append, Hos.out]; rfl
   have HF := Lib.hid (Hinv.out.fin (by omega))
   have hdg2 : Dig 1000000000 (os ++ [b1]) := hdg.snoc (by omega)
   have hown3 : w2.ownsRow w.heap.size 197 1 (.slice (some ⟨w.heap.size, 0, none⟩) (ys.length + 1) N) (os ++ [b1]).length (nums .u32 (os ++ [b1])) := by rw [← e1]; exact hown2
   have hsl : Sl w2 (.slice (some ⟨w.heap.size, 0, none⟩) (ys.length + 1) N) 1 (os ++ [b1]).length (nums .u32 (os ++ [b1])) := Sl.of_owns hown3
   have E1 := Lib.hid e1
   clear e1 hgrow2 hown hbel hown2
   go_wp2_with fail
   refine (trim_any (.slice (some ⟨w.heap.size, 0, none⟩) (ys.length + 1) N) (os ++ [b1]) w2 hsl (by have := E1.out; omega)).mono ?_
   rintro e w' ⟨v', rfl, Hv, rfl⟩
   go_wp2
   go_ret
   exact ⟨_, _, rfl, ⟨own_trim hown3 Hv.out, trimL_nrm hdg2, hbel2⟩, (trimL_val _ _).trans (HF.out.trans (Nat.add_comm _ _))⟩
theorem plus_any (a b : Value) (xs ys : List Nat) (w : World) (ha : Sl w a 1 xs.length (nums .u32 xs)) (hb : Sl w b 1 ys.length (nums .u32 ys))
  (dx : Dig 1000000000 xs) (dy : Dig 1000000000 ys) (lx : xs.length ≤ 100000) (ly : ys.length ≤ 100000) :
  Calls Tryz.prog 193 #[a, b] w fun e w' => ∃ v rs, e = .returned v ∧ OwnMag w w' v rs ∧ val 1000000000 rs = val 1000000000 xs + val 1000000000 ys := by
 rcases Nat.lt_or_ge xs.length ys.length with h | h
 ·exact plus_lt a b xs ys w ha hb dx dy lx ly h
 ·exact plus_ge a b xs ys w ha hb dx dy lx ly h
end Go.Proofs.YtknpnhodpgajbaaGreatDoor
