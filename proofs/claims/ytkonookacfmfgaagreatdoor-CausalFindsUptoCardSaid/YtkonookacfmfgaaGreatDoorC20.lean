/-
  novationref01: at, Greater, Zero; novationref02: Slash. slices.Reverse of bytes of the call's own. novationref01.Digits.  Printed by tools/genrefdig.py.
-/
import Derived.Test.YtkonookacfmfgaaGreatDoorC02
import Derived.Test.YtkonookacfmfgaaGreatDoorC03
namespace Go.Proofs.YtkonookacfmfgaaGreatDoor
open Go.RowKit
set_option maxHeartbeats 400000 in
set_option maxRecDepth 100000 in
theorem at_any (v : Value) (xs : List Nat) (k : Nat) (w : World) (hv : Sl w v 1 xs.length (nums .i64 xs)) (_ : xs.length ≤ 1000000) :
  Calls Tryz.prog 185 #[v, .int .i64 k] w fun e w' => e = .returned (.int .i64 (xs.getD k 0 : Nat)) ∧ w = w' := by
 obtain ⟨ad, cap, rfl, h1, h3⟩ := hv.nums
 clear hv
 by_cases h : k < xs.length
 ·obtain ⟨b, off, rfl, hc⟩ := h3.resolve_left (by omega)
  have hck := hc k h
  clear hc h3
  obtain ⟨y, hy⟩ : ∃ y, xs.getD k 0 = y := ⟨_, rfl⟩
  rw [hy] at hck ⊢
  go_enter Tryz.func185, Tryz.ntmps185
  go_wp2
  go_ret
  exact ⟨rfl, rfl⟩
 ·have e : xs.getD k 0 = 0 := by simp only [List.getD, List.getElem?_eq_none (by omega : xs.length ≤ k), Option.getD_none]
  rw [e]
  go_enter Tryz.func185, Tryz.ntmps185
  go_wp2
  go_ret
  exact ⟨rfl, rfl⟩
theorem cmpD_max {b : Nat} (hb : 1 < b) {xs ys : List Nat} (hx : Dig b xs) (hy : Dig b ys) (k : Nat) (h1 : xs.length ≤ k) (h2 : ys.length ≤ k) : cmpD k xs ys = sgn (val b xs) (val b ys) := by
 rw [cmpD_eq hb hx hy, List.take_of_length_le h1, List.take_of_length_le h2]
set_option maxHeartbeats 400000 in
set_option maxRecDepth 100000 in
theorem greater_lt (a b : Value) (xs ys : List Nat) (w : World) (ha : Sl w a 1 xs.length (nums .i64 xs)) (hb : Sl w b 1 ys.length (nums .i64 ys)) (dx : Dig 10 xs) (dy : Dig 10 ys) (lx : xs.length ≤ 1000000) (ly : ys.length ≤ 1000000) (hlt : xs.length < ys.length) :
  Calls Tryz.prog 174 #[a, b] w fun e w' => e = .returned (.int .i64 (sgn (val 10 xs) (val 10 ys))) ∧ w = w' := by
 have HA := Lib.hid (fun k => at_any a xs k w ha lx)
 have HB := Lib.hid (fun k => at_any b ys k w hb ly)
 have HS := Lib.hid (cmpD_max (by decide) dx dy ys.length (by omega) (by omega))
 obtain ⟨ad, ca, rfl, _⟩ := id ha
 obtain ⟨bd, cb, rfl, _⟩ := id hb
 clear ha hb dx dy
 go_enter Tryz.func174, Tryz.ntmps174
 go_wp2
 go_loopw [5] (fun i wr => ∃ k : Nat, k ≤ ys.length ∧ i = .int .i64 (k - 1) ∧ Hid (cmpD k xs ys = cmpD ys.length xs ys) ∧ Hid (wr = w))
  (fun i _ => (intOf i + 1).toNat)
 case atStart => exact ⟨ys.length, Nat.le_refl _, by go_num, rfl, rfl⟩
 case round =>
  obtain ⟨k, hk, rfl, Hrel, hw⟩ := hrel
  obtain rfl := hw.out
  by_cases h0 : 0 < k
  ·obtain ⟨k, rfl⟩ : ∃ k', k = k' + 1 := ⟨k - 1, by omega⟩
   have e1 : ((k + 1 : Nat) : Int) - 1 = (k : Int) := by omega
   rw [e1]
   obtain ⟨x, hx⟩ : ∃ x, xs.getD k 0 = x := ⟨_, rfl⟩
   obtain ⟨y, hy⟩ : ∃ y, ys.getD k 0 = y := ⟨_, rfl⟩
   have HAk := Lib.hid (HA.out k)
   have HBk := Lib.hid (HB.out k)
   rw [hx] at HAk
   rw [hy] at HBk
   have Hx := Lib.hid hx; clear hx
   have Hy := Lib.hid hy; clear hy
   by_cases he : x = y
   ·subst he
    have hq2 : ((x : Int) != (x : Int)) = false := by simp
    go_wp2_with fail
    refine HAk.out.mono ?_
    rintro e w1 ⟨rfl, rfl⟩
    go_wp2_with fail
    refine HBk.out.mono ?_
    rintro e w1 ⟨rfl, rfl⟩
    go_wp2
    go_roundw
    case rel =>
     refine ⟨k, by omega, by go_num, ?_, by first | exact rfl | exact trivial⟩
     have e := Hrel.out
     rw [cmpD, if_pos (by rw [Hx.out, Hy.out])] at e
     exact e
    case measure => simp [intOf]
   ·have hne : ((x : Int) != (y : Int)) = true := by rw [bne_iff_ne]; omega
    by_cases hxy : x < y
    ·go_wp2_with fail
     refine HAk.out.mono ?_
     rintro e w1 ⟨rfl, rfl⟩
     go_wp2_with fail
     refine HBk.out.mono ?_
     rintro e w1 ⟨rfl, rfl⟩
     go_wp2_with fail
     refine HAk.out.mono ?_
     rintro e w1 ⟨rfl, rfl⟩
     go_wp2_with fail
     refine HBk.out.mono ?_
     rintro e w1 ⟨rfl, rfl⟩
     go_wp2
     go_ret
     refine ⟨ret_int' ?_, rfl⟩
     have e := Hrel.out
     rw [cmpD, if_neg (by rw [Hx.out, Hy.out]; exact he), if_pos (by rw [Hx.out, Hy.out]; exact hxy)] at e
     rw [← HS.out]
     exact e
    ·go_wp2_with fail
     refine HAk.out.mono ?_
     rintro e w1 ⟨rfl, rfl⟩
     go_wp2_with fail
     refine HBk.out.mono ?_
     rintro e w1 ⟨rfl, rfl⟩
     go_wp2_with fail
     refine HAk.out.mono ?_
     rintro e w1 ⟨rfl, rfl⟩
     go_wp2_with fail
     refine HBk.out.mono ?_
     rintro e w1 ⟨rfl, rfl⟩
     go_wp2
     go_ret
     refine ⟨ret_int' ?_, rfl⟩
     have e := Hrel.out
     rw [cmpD, if_neg (by rw [Hx.out, Hy.out]; exact he), if_neg (by rw [Hx.out, Hy.out]; exact hxy)] at e
     rw [← HS.out]
     exact e
  ·obtain rfl : k = 0 := by omega
   go_wp2
   go_ret
   refine ⟨ret_int' ?_, rfl⟩
   rw [← HS.out]
   exact Hrel.out
set_option maxHeartbeats 400000 in
set_option maxRecDepth 100000 in
theorem greater_ge (a b : Value) (xs ys : List Nat) (w : World) (ha : Sl w a 1 xs.length (nums .i64 xs)) (hb : Sl w b 1 ys.length (nums .i64 ys)) (dx : Dig 10 xs) (dy : Dig 10 ys) (lx : xs.length ≤ 1000000) (ly : ys.length ≤ 1000000) (hlt : ys.length ≤ xs.length) :
  Calls Tryz.prog 174 #[a, b] w fun e w' => e = .returned (.int .i64 (sgn (val 10 xs) (val 10 ys))) ∧ w = w' := by
 have HA := Lib.hid (fun k => at_any a xs k w ha lx)
 have HB := Lib.hid (fun k => at_any b ys k w hb ly)
 have HS := Lib.hid (cmpD_max (by decide) dx dy xs.length (by omega) (by omega))
 obtain ⟨ad, ca, rfl, _⟩ := id ha
 obtain ⟨bd, cb, rfl, _⟩ := id hb
 clear ha hb dx dy
 go_enter Tryz.func174, Tryz.ntmps174
 go_wp2
 go_loopw [5] (fun i wr => ∃ k : Nat, k ≤ xs.length ∧ i = .int .i64 (k - 1) ∧ Hid (cmpD k xs ys = cmpD xs.length xs ys) ∧ Hid (wr = w))
  (fun i _ => (intOf i + 1).toNat)
 case atStart => exact ⟨xs.length, Nat.le_refl _, by go_num, rfl, rfl⟩
 case round =>
  obtain ⟨k, hk, rfl, Hrel, hw⟩ := hrel
  obtain rfl := hw.out
  by_cases h0 : 0 < k
  ·obtain ⟨k, rfl⟩ : ∃ k', k = k' + 1 := ⟨k - 1, by omega⟩
   have e1 : ((k + 1 : Nat) : Int) - 1 = (k : Int) := by omega
   rw [e1]
   obtain ⟨x, hx⟩ : ∃ x, xs.getD k 0 = x := ⟨_, rfl⟩
   obtain ⟨y, hy⟩ : ∃ y, ys.getD k 0 = y := ⟨_, rfl⟩
   have HAk := Lib.hid (HA.out k)
   have HBk := Lib.hid (HB.out k)
   rw [hx] at HAk
   rw [hy] at HBk
   have Hx := Lib.hid hx; clear hx
   have Hy := Lib.hid hy; clear hy
   by_cases he : x = y
   ·subst he
    have hq2 : ((x : Int) != (x : Int)) = false := by simp
    go_wp2_with fail
    refine HAk.out.mono ?_
    rintro e w1 ⟨rfl, rfl⟩
    go_wp2_with fail
    refine HBk.out.mono ?_
    rintro e w1 ⟨rfl, rfl⟩
    go_wp2
    go_roundw
    case rel =>
     refine ⟨k, by omega, by go_num, ?_, by first | exact rfl | exact trivial⟩
     have e := Hrel.out
     rw [cmpD, if_pos (by rw [Hx.out, Hy.out])] at e
     exact e
    case measure => simp [intOf]
   ·have hne : ((x : Int) != (y : Int)) = true := by rw [bne_iff_ne]; omega
    by_cases hxy : x < y
    ·go_wp2_with fail
     refine HAk.out.mono ?_
     rintro e w1 ⟨rfl, rfl⟩
     go_wp2_with fail
     refine HBk.out.mono ?_
     rintro e w1 ⟨rfl, rfl⟩
     go_wp2_with fail
     refine HAk.out.mono ?_
     rintro e w1 ⟨rfl, rfl⟩
     go_wp2_with fail
     refine HBk.out.mono ?_
     rintro e w1 ⟨rfl, rfl⟩
     go_wp2
     go_ret
     refine ⟨ret_int' ?_, rfl⟩
     have e := Hrel.out
     rw [cmpD, if_neg (by rw [Hx.out, Hy.out]; exact he), if_pos (by rw [Hx.out, Hy.out]; exact hxy)] at e
     rw [← HS.out]
     exact e
    ·go_wp2_with fail
     refine HAk.out.mono ?_
     rintro e w1 ⟨rfl, rfl⟩
     go_wp2_with fail
     refine HBk.out.mono ?_
     rintro e w1 ⟨rfl, rfl⟩
     go_wp2_with fail
     refine HAk.out.mono ?_
     rintro e w1 ⟨rfl, rfl⟩
     go_wp2_with fail
     refine HBk.out.mono ?_
     rintro e w1 ⟨rfl, rfl⟩
     go_wp2
     go_ret
     refine ⟨ret_int' ?_, rfl⟩
     have e := Hrel.out
     rw [cmpD, if_neg (by rw [Hx.out, Hy.out]; exact he), if_neg (by rw [Hx.out, Hy.out]; exact hxy)] at e
     rw [← HS.out]
     exact e
  ·obtain rfl : k = 0 := by omega
   go_wp2
   go_ret
   refine ⟨ret_int' ?_, rfl⟩
   rw [← HS.out]
   exact Hrel.out
theorem greater_any (a b : Value) (xs ys : List Nat) (w : World) (ha : Sl w a 1 xs.length (nums .i64 xs)) (hb : Sl w b 1 ys.length (nums .i64 ys)) (dx : Dig 10 xs) (dy : Dig 10 ys) (lx : xs.length ≤ 1000000) (ly : ys.length ≤ 1000000) :
  Calls Tryz.prog 174 #[a, b] w fun e w' => e = .returned (.int .i64 (sgn (val 10 xs) (val 10 ys))) ∧ w = w' := by
 rcases Nat.lt_or_ge xs.length ys.length with h | h
 ·exact greater_lt a b xs ys w ha hb dx dy lx ly h
 ·exact greater_ge a b xs ys w ha hb dx dy lx ly h
set_option maxHeartbeats 400000 in
set_option maxRecDepth 100000 in
theorem zero_any (a : Value) (xs : List Nat) (w : World) (ha : Sl w a 1 xs.length (nums .i64 xs)) (dx : Dig 10 xs) (lx : xs.length ≤ 1000000) :
  Calls Tryz.prog 166 #[a] w fun e w' => e = .returned (.bool (val 10 xs == 0)) ∧ w = w' := by
 have C := greater_any a (.slice none 0 0) xs [] w ha (Sl.nil _ _) dx (Dig.nil _) lx (by simp)
 have e : (val 10 xs == 0) = (sgn (val 10 xs) (val 10 []) == 0) := by
  show (val 10 xs == 0) = (sgn (val 10 xs) 0 == 0)
  by_cases h : val 10 xs = 0
  ·rw [h]; rfl
  ·rw [sgn_gt (by omega)]
   have : (val 10 xs == 0) = false := by simpa using h
   rw [this]; rfl
 rw [e]
 obtain ⟨S, hS⟩ : ∃ S, sgn (val 10 xs) (val 10 []) = S := ⟨_, rfl⟩
 rw [hS] at C ⊢
 have HC := Lib.hid C
 clear C hS e ha dx
 go_enter Tryz.func166, Tryz.ntmps166
 go_wp2_with fail
 refine HC.out.mono ?_
 rintro e w' ⟨rfl, rfl⟩
 go_wp2
 go_ret
 exact ⟨rfl, rfl⟩
end Go.Proofs.YtkonookacfmfgaaGreatDoor

namespace Go.Proofs.YtkonookacfmfgaaGreatDoor
open Go.RowKit
def RevInv (ds cur : List Nat) (k : Nat) : Prop :=
 cur.length = ds.length ∧ ∀ i, i < ds.length → cur.getD i 0 = if i < k ∨ ds.length ≤ i + k then ds.getD (ds.length - 1 - i) 0 else ds.getD i 0
theorem RevInv.start (ds : List Nat) : RevInv ds ds 0 := ⟨rfl, fun i hi => by rw [if_neg (by omega)]⟩
theorem getD_set (l : List Nat) (i j v : Nat) (hi : i < l.length) : (l.set i v).getD j 0 = if i = j then v else l.getD j 0 := by
 by_cases h : i = j
 ·subst h; simp [List.getD, hi]
 ·rw [if_neg h]; simp only [List.getD]; rw [List.getElem?_set_ne h]
theorem RevInv.step {ds cur : List Nat} {k : Nat} (h : RevInv ds cur k) (hk : k + k + 1 < ds.length) :
  RevInv ds ((cur.set k (cur.getD (ds.length - 1 - k) 0)).set (ds.length - 1 - k) (cur.getD k 0)) (k + 1) := by
 obtain ⟨h1, h2⟩ := h
 refine ⟨by simpa using h1, fun i hi => ?_⟩
 rw [getD_set _ _ _ _ (by simp; omega), getD_set _ _ _ _ (by omega)]
 have a1 := h2 k (by omega)
 have a2 := h2 (ds.length - 1 - k) (by omega)
 rw [if_neg (by omega)] at a1 a2
 by_cases c1 : ds.length - 1 - k = i
 ·rw [if_pos c1, if_pos (by omega), a1, ← c1]; congr 1; omega
 ·rw [if_neg c1]
  by_cases c2 : k = i
  ·rw [if_pos c2, if_pos (by omega), a2, ← c2]
  ·rw [if_neg c2, h2 i hi]
   by_cases c3 : i < k ∨ ds.length ≤ i + k
   ·rw [if_pos c3, if_pos (by omega)]
   ·rw [if_neg c3, if_neg (by omega)]
theorem RevInv.fin {ds cur : List Nat} {k : Nat} (h : RevInv ds cur k) (hk : ds.length ≤ k + k + 1) : cur = ds.reverse := by
 obtain ⟨h1, h2⟩ := h
 apply List.ext_getElem?
 intro i
 by_cases hi : i < ds.length
 ·have a := h2 i hi
  have e : ds.reverse[i]? = some (ds.getD (ds.length - 1 - i) 0) := by
   rw [List.getElem?_reverse hi]
   simp [List.getD, show ds.length - 1 - i < ds.length by omega]
  rw [e]
  have e2 : cur[i]? = some (cur.getD i 0) := by simp [List.getD, show i < cur.length by omega]
  rw [e2, a]
  by_cases c : i < k ∨ ds.length ≤ i + k
  ·rw [if_pos c]
  ·rw [if_neg c]
   have : ds.length - 1 - i = i := by omega
   rw [this]
 ·rw [List.getElem?_eq_none (by omega), List.getElem?_eq_none (by simp; omega)]
theorem own_shape {w : World} {base size n : Nat} {e : TypeId} {v : Value} {xs : List Value} (h : w.ownsRow base e size v n xs) (hn : 0 < n) : ∃ g cap, v = .slice (some ⟨g, 0, none⟩) n cap ∧ base ≤ g ∧ g < w.heap.size ∧ n ≤ cap := by
 rcases h.2 with ⟨_, h0⟩ | ⟨g, cap, cur, rfl, hb, hg, hc, _⟩
 ·omega
 ·exact ⟨g, cap, rfl, hb, (Array.getElem?_eq_some_iff.1 hg).1, hc⟩
theorem grown_trans {a b c : World} {row : Option Nat} (h : a.grownBy b row) (k : b.grownBy c row) : a.grownBy c row :=
 ⟨k.os.trans h.os, k.tape.trans h.tape, k.output.trans h.output, Nat.le_trans h.size k.size, fun j hj hr => (k.block j (Nat.lt_of_lt_of_le hj h.size) hr).trans (h.block j hj hr)⟩
theorem grown_drew {a b : World} {row : Option Nat} (h : a.grownBy b row) : a.grownBy b.drew row := ⟨h.os, h.tape, h.output, h.size, h.block⟩
set_option maxHeartbeats 1000000 in
set_option maxRecDepth 100000 in
theorem reverse_any (g cap base : Nat) (ds : List Nat) (w : World) (hown : w.ownsRow base 5 1 (.slice (some ⟨g, 0, none⟩) ds.length cap) ds.length (nums .u8 ds)) (hl : ds.length ≤ 10000000) :
  Calls Tryz.prog 184 #[.slice (some ⟨g, 0, none⟩) ds.length cap] w fun e w' => e = .returned (.tuple #[]) ∧
   w'.ownsRow base 5 1 (.slice (some ⟨g, 0, none⟩) ds.length cap) ds.length (nums .u8 ds.reverse) ∧ w.grownBy w' (some g) := by
 obtain ⟨n, hn⟩ : ∃ n, ds.length = n := ⟨_, rfl⟩
 have Hn := Lib.hid hn
 rw [hn] at hown hl ⊢
 clear hn
 go_enter Tryz.func184, Tryz.ntmps184
 go_wp2_with fail
 go_loopw [2, 3] (fun i j wr => ∃ (k : Nat) (cur : List Nat), k ≤ n ∧ i = .int .i64 k ∧ j = .int .i64 ((n : Int) - 1 - k) ∧
   wr.ownsRow base 5 1 (.slice (some ⟨g, 0, none⟩) n cap) n (nums .u8 cur) ∧ Hid (RevInv ds cur k) ∧ Hid (w.grownBy wr (some g)))
  (fun i _ _ => n - (intOf i).toNat)
 case atStart => exact ⟨0, ds, Nat.zero_le _, rfl, by go_num, hown, RevInv.start ds, World.grownBy.refl _ _⟩
 case round =>
  clear hown
  obtain ⟨k, cur, hk, rfl, rfl, hown, Hinv, Hg⟩ := hrel
  have hcl : cur.length = n := by rw [← Hn.out]; exact Hinv.out.1
  have Hcl := Lib.hid hcl
  by_cases hlt : k + k + 1 < n
  ·have c1 := (hown.cellAt k (by omega)).trans (nums_at .u8 cur k (by omega))
   have c2 := (hown.cellAt (n - 1 - k) (by omega)).trans (nums_at .u8 cur (n - 1 - k) (by omega))
   have f1 := hown.frozenAt k
   have f2 := hown.frozenAt (n - 1 - k)
   have HR := Hinv.out.step (by rw [Hn.out]; exact hlt)
   rw [Hn.out] at HR
   obtain ⟨x, hx⟩ : ∃ x, cur.getD k 0 = x := ⟨_, rfl⟩
   obtain ⟨y, hy⟩ : ∃ y, cur.getD (n - 1 - k) 0 = y := ⟨_, rfl⟩
   rw [hx, hy] at HR
   rw [hx] at c1
   rw [hy] at c2
   have hR := Lib.hid HR
   clear HR hx hy hcl
   have e1 := hown.stored k (.int .u8 (y : Int))
   rw [nums_set] at e1
   have e2 := e1.1.stored (n - 1 - k) (.int .u8 (x : Int))
   rw [nums_set] at e2
   have HE := Lib.hid (And.intro e2.1 (And.intro e1.2 e2.2))
   clear e1 e2 hown
   have t1 : ((n : Int) - 1 - (k : Int)).toNat = n - 1 - k := by omega
   have i1 : (0 : Int) ≤ (n : Int) - 1 - (k : Int) := by omega
   have i2 : (n : Int) - 1 - (k : Int) < (n : Int) := by omega
   have i3 : (k : Int) < (n : Int) - 1 - (k : Int) := by omega
   go_wp2_with fail
   go_region
   all_goals (try go_wp2)
   all_goals go_roundw
   case rel => exact ⟨k + 1, _, by omega, by go_num, by go_num, HE.out.1.drew, hR, grown_drew (grown_trans Hg.out (grown_trans HE.out.2.1 HE.out.2.2))⟩
   case measure => simp [intOf]; omega
  ·have HF := Hinv.out.fin (by rw [Hn.out]; omega)
   have hF : Hid (wr.ownsRow base 5 1 (.slice (some ⟨g, 0, none⟩) n cap) n (nums .u8 ds.reverse) ∧ w.grownBy wr (some g)) := ⟨by rw [← HF]; exact hown, Hg.out⟩
   have i3 : ¬ (k : Int) < (n : Int) - 1 - (k : Int) := by omega
   clear HF hown hcl
   go_wp2
   go_end0
   exact ⟨rfl, hF.out.1, hF.out.2⟩
end Go.Proofs.YtkonookacfmfgaaGreatDoor

namespace Go.Proofs.YtkonookacfmfgaaGreatDoor
open Go.RowKit
theorem Tryz.ul_ints : Tryz.prog.underlying 26 = some (.slice 3) := by kernel_rfl
theorem Tryz.info_int : (Tryz.prog.info? 3).map (fun i => (i.zero, i.size, i.bytes)) = some (some (.int .i64 0), 1, 8) := by kernel_rfl
def rdig (l : List UInt8) : List Nat := (l.map fun c => c.toNat - 48).reverse
theorem rdig_cons (c : UInt8) (l : List UInt8) : rdig (c :: l) = rdig l ++ [c.toNat - 48] := by simp [rdig]
theorem rdig_length (l : List UInt8) : (rdig l).length = l.length := by simp [rdig]
theorem rdig_val (l : List UInt8) : val 10 (rdig l) = dval l := by
 refine Nat.rec (motive := fun n => ∀ m : List UInt8, m.length = n → val 10 (rdig m) = dval m) ?_ ?_ l.length l rfl
 ·intro m hm; rw [List.eq_nil_of_length_eq_zero hm]; rfl
 ·intro n ih m hm
  rcases List.eq_nil_or_concat m with rfl | ⟨m, c, rfl⟩
  ·rfl
  ·rw [List.concat_eq_append] at hm ⊢
   have e : rdig (m ++ [c]) = (c.toNat - 48) :: rdig m := by simp [rdig]
   rw [e, dval_snoc, val, ih m (by simp at hm; exact hm)]
   omega
theorem rdig_dig {l : List UInt8} (h : l.all isDig = true) : Dig 10 (rdig l) := by
 intro x hx
 simp only [rdig, List.mem_reverse, List.mem_map] at hx
 obtain ⟨c, hc, rfl⟩ := hx
 have := List.all_eq_true.1 h c hc
 simp [isDig] at this
 omega
theorem body_neg (d : List UInt8) : body (45 :: d) = d := by simp [body]
theorem isNeg_neg (d : List UInt8) : isNeg (45 :: d) = true := by simp [isNeg]
theorem bl_drop_cons (s : ByteArray) (k : Nat) (h : k < s.size) : (bl s).drop k = s[k] :: (bl s).drop (k + 1) := by
 have hl : k < (bl s).length := by rw [bl_length]; exact h
 rw [List.drop_eq_getElem_cons hl]
 have e := bl_get s k h
 rw [List.getElem?_eq_getElem hl] at e
 rw [Option.some.inj e]
theorem all_drop_of_all (f : UInt8 → Bool) (l : List UInt8) (k : Nat) (h : l.all f = true) : (l.drop k).all f = true := by
 rw [List.all_eq_true] at h ⊢
 exact fun x hx => h x (List.mem_of_mem_drop hx)
def DigBad (w : World) (e : Ending) (w' : World) : Prop := e = .returned (.tuple #[.slice none 0 0, .bool false, .bool false]) ∧ Below w.heap.size w w'
def DigOk (w : World) (neg : Bool) (xs : List Nat) (e : Ending) (w' : World) : Prop :=
 ∃ v, e = .returned (.tuple #[v, .bool neg, .bool true]) ∧ Sl w' v 1 xs.length (nums .i64 xs) ∧ Below w.heap.size w w'
def DigPost (w : World) (s : ByteArray) (e : Ending) (w' : World) : Prop :=
 if canonI (bl s) = true then DigOk w (isNeg (bl s)) (rdig (body (bl s))) e w' else DigBad w e w'
theorem digPost_bad {w : World} {s : ByteArray} {e : Ending} {w' : World} (h : canonI (bl s) = false) (k : DigBad w e w') : DigPost w s e w' := by
 rw [DigPost, if_neg (by rw [h]; simp)]; exact k
set_option maxHeartbeats 400000 in
set_option maxRecDepth 100000 in
theorem digits_empty (s : ByteArray) (w : World) (h0 : s.size = 0) :
  Calls Tryz.prog 158 #[.string s] w (DigBad w) := by
 have h1 : s.toList = [] := by rw [Lib.toList_data]; exact List.eq_nil_of_length_eq_zero (by rw [← bl_length] at h0; exact h0)
 have h2 : ¬ 0 < s.size := by omega
 have h3 : ((s.size : Int) == 0) = true := by rw [h0]; rfl
 go_enter Tryz.func158, Tryz.ntmps158
 go_wp2
 go_ret3
 exact ⟨rfl, Below.refl _ _⟩
set_option maxHeartbeats 400000 in
set_option maxRecDepth 100000 in
theorem digits_zero (s : ByteArray) (w : World) (hl : s.size ≤ 1100000) (h1 : 1 < s.size) (h0 : s[0] = 48) :
  Calls Tryz.prog 158 #[.string s] w (DigBad w) := by
 have h4 : (0 : Nat) < s.size := by omega
 have h3 : ((s.size : Int) == 0) = false := by rw [beq_eq_false_iff_ne]; omega
 go_enter Tryz.func158, Tryz.ntmps158
 go_wp2
 go_ret3
 exact ⟨rfl, Below.refl _ _⟩
set_option maxHeartbeats 400000 in
set_option maxRecDepth 100000 in
theorem digits_neg0 (s : ByteArray) (w : World) (hl : s.size ≤ 1100000) (h1 : 0 < s.size) (h0 : s[0] = 45) (t : ByteArray) (ht : s.extract 1 s.size = t) (h2 : t.size = 0) :
  Calls Tryz.prog 158 #[.string s] w (DigBad w) := by
 have h3 : ((t.size : Int) == 0) = true := by rw [h2]; rfl
 go_enter Tryz.func158, Tryz.ntmps158
 go_wp2
 go_ret3
 exact ⟨rfl, Below.refl _ _⟩
set_option maxHeartbeats 400000 in
set_option maxRecDepth 100000 in
theorem digits_neg48 (s : ByteArray) (w : World) (hl : s.size ≤ 1100000) (h1 : 0 < s.size) (h0 : s[0] = 45) (t : ByteArray) (ht : s.extract 1 s.size = t) (h2 : 0 < t.size) (h5 : t[0] = 48) :
  Calls Tryz.prog 158 #[.string s] w (DigBad w) := by
 have h3 : ((t.size : Int) == 0) = false := by rw [beq_eq_false_iff_ne]; omega
 have hme : t.size ≤ 1100000 := by
  have et := congrArg List.length (bl_tail s h1)
  rw [ht, bl_length, List.length_tail, bl_length] at et
  omega
 by_cases h6 : 1 < t.size
 ·go_enter Tryz.func158, Tryz.ntmps158
  go_wp2
  go_ret3
  exact ⟨rfl, Below.refl _ _⟩
 ·go_enter Tryz.func158, Tryz.ntmps158
  go_wp2
  go_ret3
  exact ⟨rfl, Below.refl _ _⟩
set_option maxHeartbeats 1000000 in
set_option maxRecDepth 100000 in
theorem digits_pos_a (s : ByteArray) (w : World) (hl : s.size ≤ 1100000) (h1 : 0 < s.size) (hm : s[0] ≠ 45) (h0 : s[0] ≠ 48) :
  Calls Tryz.prog 158 #[.string s] w (DigPost w s) := by
 obtain ⟨i0, hi, hz0, hz1, hz2⟩ := info_parts Tryz.info_int
 have e := bl_cons s h1
 have HC : Hid (canonI (bl s) = (bl s).all isDig) := by
  show _ = _
  have hh : (bl s).head? ≠ some 45 := by rw [e]; simpa using hm
  have hb : ((bl s).head? == some 45) = false := by simpa using hh
  rw [canonI, body, if_neg hh, isNeg, hb, canonD]
  have a1 : (bl s).isEmpty = false := by rw [e]; rfl
  have a2 : ((bl s).head? == some 48 && (decide (1 < (bl s).length) || false)) = false := by
   rw [e]; simp; intro hh; exact absurd hh h0
  rw [a1, a2]; simp
 have HB : Hid (body (bl s) = bl s) := by show _ = _; rw [body, if_neg (by rw [e]; simpa using hm)]
 have HNg : Hid (isNeg (bl s) = false) := by show _ = _; rw [isNeg, e]; simpa using hm
 obtain ⟨c0, hc0⟩ : ∃ c, s[0] = c := ⟨_, rfl⟩
 rw [hc0] at hm h0
 have hm1 : ((c0.toNat : Int) == 45) = false := by simpa using fun hh : (c0.toNat : Int) = 45 => hm (UInt8.toNat_inj.1 (by simpa using (by omega : c0.toNat = 45)))
 have hne : ((s.size : Int) == 0) = false := by rw [beq_eq_false_iff_ne]; omega
 clear e hm
 have hp : ((c0.toNat : Int) == 48) = false := by simpa using fun hh : (c0.toNat : Int) = 48 => h0 (UInt8.toNat_inj.1 (by simpa using (by omega : c0.toNat = 48)))
 clear h0
 go_enter Tryz.func158, Tryz.ntmps158
 go_wp2_with fail
 go_loopw [7, 8] (fun ds i wr => ∃ (k : Nat) (adb : Option Addr) (capb : Nat), k ≤ s.size ∧ i = .int .i64 (k - 1) ∧ ds = .slice adb (s.size - k) capb ∧
   wr.ownsRow w.heap.size 3 1 (.slice adb (s.size - k) capb) (s.size - k) (nums .i64 (rdig ((bl s).drop k))) ∧ Hid (((bl s).drop k).all isDig = true) ∧ Below w.heap.size w wr)
  (fun _ i _ => (intOf i + 1).toNat)
 case atStart => exact ⟨s.size, none, 0, Nat.le_refl _, by go_num, by rw [Nat.sub_self], by rw [Nat.sub_self, List.drop_of_length_le (by rw [bl_length]; exact Nat.le_refl _)]; exact World.ownsRow_nil _ _ _ _, by show _ = _; rw [List.drop_of_length_le (by rw [bl_length]; exact Nat.le_refl _)]; rfl, Below.refl _ _⟩
 case round =>
  obtain ⟨k, adb, capb, hk, rfl, rfl, hown, Hall, hbel⟩ := hrel
  by_cases h0 : 0 < k
  ·obtain ⟨k, rfl⟩ : ∃ k', k = k' + 1 := ⟨k - 1, by omega⟩
   have e1 : ((k + 1 : Nat) : Int) - 1 = (k : Int) := by omega
   rw [e1]
   have Hcons := Lib.hid (bl_drop_cons s k (by omega))
   have hkl : k < s.size := by omega
   obtain ⟨c, hc⟩ : ∃ c, s[k] = c := ⟨_, rfl⟩
   rw [hc] at Hcons
   have hcb : c.toNat < 256 := c.toNat_lt
   by_cases h1 : c.toNat < 48
   ·have HF : Hid (canonI (bl s) = false) := by
     show _ = _
     rw [HC.out, Bool.eq_false_iff]
     intro hall
     have := all_drop_of_all isDig (bl s) k hall
     rw [Hcons.out] at this
     simp [isDig] at this
     omega
    have d1 : decide (((c.toNat : Nat) : Int) < 48) = true := by rw [decide_eq_true_eq]; omega
    have d1' : ¬ ((48 : Int) ≤ ((c.toNat : Nat) : Int)) := by omega
    go_wp2
    go_ret3
    exact digPost_bad HF.out ⟨rfl, hbel⟩
   ·have d1 : decide (((c.toNat : Nat) : Int) < 48) = false := by rw [decide_eq_false_iff_not]; omega
    by_cases h2 : c.toNat ≤ 57
    ·have d2 : decide ((57 : Int) < ((c.toNat : Nat) : Int)) = false := by rw [decide_eq_false_iff_not]; omega
     have Hall2 : Hid (((bl s).drop k).all isDig = true) := by
      show _ = true
      rw [Hcons.out, List.all_cons, Hall.out]
      simp [isDig]; omega
     have hsz := hbel.size
     have x1 : IntKind.u8.wrap ((c.toNat : Int) - 48) = ((c.toNat - 48 : Nat) : Int) := by
      rw [IntWalk.u8_in _ (by omega)]; omega
     obtain ⟨N, hN⟩ : ∃ N, s.size - (k + 1) = N := ⟨_, rfl⟩
     have hN1 : s.size - k = N + 1 := by omega
     have hNb : N ≤ 1100000 := by omega
     have HN1 := Lib.hid hN1
     rw [hN] at hown ⊢
     clear hN hN1
     go_wp2_with (at_builtin; refine wpList_append_own _ rfl _ _ 26 rfl w.heap.size 3 i0 (.int .i64 0) 1 8 Tryz.ul_ints hi hz0 hz1 hz2 rfl (by decide) _ _ _ rfl (hown.alloc _) ⟨wr.heap.size, 0, none⟩ 1 1 [_] rfl rfl (cell_one_new _ _ _) (int_oneCell _ _) ?d1 ?d2 ?d3 ?_)
     case d1 => unfold maxLen; omega
     case d2 => omega
     case d3 => simp; omega
     intro v2 w2 hown2 hgrow2 _
     have hbel2 : Below w.heap.size w w2 := (hbel.alloc hsz _).grown hgrow2 (by simp; omega) (fun k hk => (hown.lt k hk).1)
     have ed : ((c.toNat : Int) - 48) = ((c.toNat - 48 : Nat) : Int) := by omega
     try rw [ed] at hown2
     rw [nums_snoc, ← rdig_cons, ← Hcons.out, ← HN1.out] at hown2
     obtain ⟨ad3, cap3, rfl, _⟩ := Sl.of_owns hown2
     clear hgrow2 hown hbel
     go_wp2
     go_roundw
     case rel => exact ⟨k, ad3, cap3, by omega, by go_num, rfl, hown2, Hall2, hbel2⟩
     case measure => simp [intOf]
    ·have d2 : decide ((57 : Int) < ((c.toNat : Nat) : Int)) = true := by rw [decide_eq_true_eq]; omega
     have d2' : ¬ (((c.toNat : Nat) : Int) ≤ 57) := by omega
     have HF : Hid (canonI (bl s) = false) := by
      show _ = _
      rw [HC.out, Bool.eq_false_iff]
      intro hall
      have := all_drop_of_all isDig (bl s) k hall
      rw [Hcons.out] at this
      simp [isDig] at this
      omega
     go_wp2
     go_ret3
     exact digPost_bad HF.out ⟨rfl, hbel⟩
  ·obtain rfl : k = 0 := by omega
   rw [Nat.sub_zero] at hown ⊢
   have HF : Hid (DigOk w false (rdig (bl s)) (.returned (.tuple #[.slice adb s.size capb, .bool false, .bool true])) wr) := by
    refine ⟨_, rfl, ?_, hbel⟩
    rw [rdig_length, bl_length]
    exact Sl.of_owns hown
   have HP : Hid (DigPost w s (.returned (.tuple #[.slice adb s.size capb, .bool false, .bool true])) wr) := by
    show DigPost _ _ _ _
    rw [DigPost, if_pos (by rw [HC.out]; exact Hall.out), HB.out, HNg.out]
    exact HF.out
   go_wp2
   go_ret3
   exact HP.out
set_option maxHeartbeats 1000000 in
set_option maxRecDepth 100000 in
theorem digits_pos_b (s : ByteArray) (w : World) (_hl : s.size ≤ 1100000) (h1 : 0 < s.size) (hm : s[0] ≠ 45) (h0 : s.size = 1) (hz : s[0] = 48) :
  Calls Tryz.prog 158 #[.string s] w (DigPost w s) := by
 obtain ⟨i0, hi, hz0, hz1, hz2⟩ := info_parts Tryz.info_int
 have e := bl_cons s h1
 have HC : Hid (canonI (bl s) = (bl s).all isDig) := by
  show _ = _
  have hh : (bl s).head? ≠ some 45 := by rw [e]; simpa using hm
  have hb : ((bl s).head? == some 45) = false := by simpa using hh
  rw [canonI, body, if_neg hh, isNeg, hb, canonD]
  have a1 : (bl s).isEmpty = false := by rw [e]; rfl
  have a2 : ((bl s).head? == some 48 && (decide (1 < (bl s).length) || false)) = false := by
   rw [bl_length, h0]; simp
  rw [a1, a2]; simp
 have HB : Hid (body (bl s) = bl s) := by show _ = _; rw [body, if_neg (by rw [e]; simpa using hm)]
 have HNg : Hid (isNeg (bl s) = false) := by show _ = _; rw [isNeg, e]; simpa using hm
 obtain ⟨c0, hc0⟩ : ∃ c, s[0] = c := ⟨_, rfl⟩
 rw [hc0] at hm hz
 have hm1 : ((c0.toNat : Int) == 45) = false := by simpa using fun hh : (c0.toNat : Int) = 45 => hm (UInt8.toNat_inj.1 (by simpa using (by omega : c0.toNat = 45)))
 have hne : ((s.size : Int) == 0) = false := by rw [beq_eq_false_iff_ne]; omega
 clear e hm
 have hq : ¬ 1 < s.size := by omega
 have hp : ((c0.toNat : Int) == 48) = true := by rw [hz]; rfl
 clear hz
 go_enter Tryz.func158, Tryz.ntmps158
 go_wp2_with fail
 go_loopw [7, 8] (fun ds i wr => ∃ (k : Nat) (adb : Option Addr) (capb : Nat), k ≤ s.size ∧ i = .int .i64 (k - 1) ∧ ds = .slice adb (s.size - k) capb ∧
   wr.ownsRow w.heap.size 3 1 (.slice adb (s.size - k) capb) (s.size - k) (nums .i64 (rdig ((bl s).drop k))) ∧ Hid (((bl s).drop k).all isDig = true) ∧ Below w.heap.size w wr)
  (fun _ i _ => (intOf i + 1).toNat)
 case atStart => exact ⟨s.size, none, 0, Nat.le_refl _, by go_num, by rw [Nat.sub_self], by rw [Nat.sub_self, List.drop_of_length_le (by rw [bl_length]; exact Nat.le_refl _)]; exact World.ownsRow_nil _ _ _ _, by show _ = _; rw [List.drop_of_length_le (by rw [bl_length]; exact Nat.le_refl _)]; rfl, Below.refl _ _⟩
 case round =>
  obtain ⟨k, adb, capb, hk, rfl, rfl, hown, Hall, hbel⟩ := hrel
  by_cases h0 : 0 < k
  ·obtain ⟨k, rfl⟩ : ∃ k', k = k' + 1 := ⟨k - 1, by omega⟩
   have e1 : ((k + 1 : Nat) : Int) - 1 = (k : Int) := by omega
   rw [e1]
   have Hcons := Lib.hid (bl_drop_cons s k (by omega))
   have hkl : k < s.size := by omega
   obtain ⟨c, hc⟩ : ∃ c, s[k] = c := ⟨_, rfl⟩
   rw [hc] at Hcons
   have hcb : c.toNat < 256 := c.toNat_lt
   by_cases h1 : c.toNat < 48
   ·have HF : Hid (canonI (bl s) = false) := by
     show _ = _
     rw [HC.out, Bool.eq_false_iff]
     intro hall
     have := all_drop_of_all isDig (bl s) k hall
     rw [Hcons.out] at this
     simp [isDig] at this
     omega
    have d1 : decide (((c.toNat : Nat) : Int) < 48) = true := by rw [decide_eq_true_eq]; omega
    have d1' : ¬ ((48 : Int) ≤ ((c.toNat : Nat) : Int)) := by omega
    go_wp2
    go_ret3
    exact digPost_bad HF.out ⟨rfl, hbel⟩
   ·have d1 : decide (((c.toNat : Nat) : Int) < 48) = false := by rw [decide_eq_false_iff_not]; omega
    by_cases h2 : c.toNat ≤ 57
    ·have d2 : decide ((57 : Int) < ((c.toNat : Nat) : Int)) = false := by rw [decide_eq_false_iff_not]; omega
     have Hall2 : Hid (((bl s).drop k).all isDig = true) := by
      show _ = true
      rw [Hcons.out, List.all_cons, Hall.out]
      simp [isDig]; omega
     have hsz := hbel.size
     have x1 : IntKind.u8.wrap ((c.toNat : Int) - 48) = ((c.toNat - 48 : Nat) : Int) := by
      rw [IntWalk.u8_in _ (by omega)]; omega
     obtain ⟨N, hN⟩ : ∃ N, s.size - (k + 1) = N := ⟨_, rfl⟩
     have hN1 : s.size - k = N + 1 := by omega
     have hNb : N ≤ 1100000 := by omega
     have HN1 := Lib.hid hN1
     rw [hN] at hown ⊢
     clear hN hN1
     go_wp2_with (at_builtin; refine wpList_append_own _ rfl _ _ 26 rfl w.heap.size 3 i0 (.int .i64 0) 1 8 Tryz.ul_ints hi hz0 hz1 hz2 rfl (by decide) _ _ _ rfl (hown.alloc _) ⟨wr.heap.size, 0, none⟩ 1 1 [_] rfl rfl (cell_one_new _ _ _) (int_oneCell _ _) ?d1 ?d2 ?d3 ?_)
     case d1 => unfold maxLen; omega
     case d2 => omega
     case d3 => simp; omega
     intro v2 w2 hown2 hgrow2 _
     have hbel2 : Below w.heap.size w w2 := (hbel.alloc hsz _).grown hgrow2 (by simp; omega) (fun k hk => (hown.lt k hk).1)
     have ed : ((c.toNat : Int) - 48) = ((c.toNat - 48 : Nat) : Int) := by omega
     try rw [ed] at hown2
     rw [nums_snoc, ← rdig_cons, ← Hcons.out, ← HN1.out] at hown2
     obtain ⟨ad3, cap3, rfl, _⟩ := Sl.of_owns hown2
     clear hgrow2 hown hbel
     go_wp2
     go_roundw
     case rel => exact ⟨k, ad3, cap3, by omega, by go_num, rfl, hown2, Hall2, hbel2⟩
     case measure => simp [intOf]
    ·have d2 : decide ((57 : Int) < ((c.toNat : Nat) : Int)) = true := by rw [decide_eq_true_eq]; omega
     have d2' : ¬ (((c.toNat : Nat) : Int) ≤ 57) := by omega
     have HF : Hid (canonI (bl s) = false) := by
      show _ = _
      rw [HC.out, Bool.eq_false_iff]
      intro hall
      have := all_drop_of_all isDig (bl s) k hall
      rw [Hcons.out] at this
      simp [isDig] at this
      omega
     go_wp2
     go_ret3
     exact digPost_bad HF.out ⟨rfl, hbel⟩
  ·obtain rfl : k = 0 := by omega
   rw [Nat.sub_zero] at hown ⊢
   have HF : Hid (DigOk w false (rdig (bl s)) (.returned (.tuple #[.slice adb s.size capb, .bool false, .bool true])) wr) := by
    refine ⟨_, rfl, ?_, hbel⟩
    rw [rdig_length, bl_length]
    exact Sl.of_owns hown
   have HP : Hid (DigPost w s (.returned (.tuple #[.slice adb s.size capb, .bool false, .bool true])) wr) := by
    show DigPost _ _ _ _
    rw [DigPost, if_pos (by rw [HC.out]; exact Hall.out), HB.out, HNg.out]
    exact HF.out
   go_wp2
   go_ret3
   exact HP.out
set_option maxHeartbeats 1000000 in
set_option maxRecDepth 100000 in
theorem digits_neg (s : ByteArray) (w : World) (hl : s.size ≤ 1100000) (h1 : 0 < s.size) (hm : s[0] = 45) (t : ByteArray) (ht : s.extract 1 s.size = t) (h2 : 0 < t.size) (h0 : t[0] ≠ 48) :
  Calls Tryz.prog 158 #[.string s] w (DigPost w s) := by
 obtain ⟨i0, hi, hz0, hz1, hz2⟩ := info_parts Tryz.info_int
 have e := bl_cons s h1
 have et := bl_tail s h1
 rw [ht] at et
 rw [hm, ← et] at e
 have HC : Hid (canonI (bl s) = (bl t).all isDig) := by
  show _ = _
  rw [canonI, e, body_neg, isNeg_neg, canonD]
  have a1 : (bl t).isEmpty = false := by rw [bl_cons t h2]; rfl
  have a2 : ((bl t).head? == some 48 && (decide (1 < (bl t).length) || true)) = false := by rw [bl_cons t h2]; simpa using h0
  rw [a1, a2]; simp
 have HB : Hid (body (bl s) = bl t) := by show _ = _; rw [e, body_neg]
 have HNg : Hid (isNeg (bl s) = true) := by show _ = _; rw [e, isNeg_neg]
 have hme : t.size ≤ 1100000 := by
  have := congrArg List.length et
  rw [bl_length, List.length_tail, bl_length] at this
  omega
 obtain ⟨c0, hc0⟩ : ∃ c, t[0] = c := ⟨_, rfl⟩
 rw [hc0] at h0
 have hp : ((c0.toNat : Int) == 48) = false := by simpa using fun hh : (c0.toNat : Int) = 48 => h0 (UInt8.toNat_inj.1 (by simpa using (by omega : c0.toNat = 48)))
 have hne : ((t.size : Int) == 0) = false := by rw [beq_eq_false_iff_ne]; omega
 clear e et h0
 go_enter Tryz.func158, Tryz.ntmps158
 go_wp2_with fail
 go_loopw [7, 8] (fun ds i wr => ∃ (k : Nat) (adb : Option Addr) (capb : Nat), k ≤ t.size ∧ i = .int .i64 (k - 1) ∧ ds = .slice adb (t.size - k) capb ∧
   wr.ownsRow w.heap.size 3 1 (.slice adb (t.size - k) capb) (t.size - k) (nums .i64 (rdig ((bl t).drop k))) ∧ Hid (((bl t).drop k).all isDig = true) ∧ Below w.heap.size w wr)
  (fun _ i _ => (intOf i + 1).toNat)
 case atStart => exact ⟨t.size, none, 0, Nat.le_refl _, by go_num, by rw [Nat.sub_self], by rw [Nat.sub_self, List.drop_of_length_le (by rw [bl_length]; exact Nat.le_refl _)]; exact World.ownsRow_nil _ _ _ _, by show _ = _; rw [List.drop_of_length_le (by rw [bl_length]; exact Nat.le_refl _)]; rfl, Below.refl _ _⟩
 case round =>
  obtain ⟨k, adb, capb, hk, rfl, rfl, hown, Hall, hbel⟩ := hrel
  by_cases h0 : 0 < k
  ·obtain ⟨k, rfl⟩ : ∃ k', k = k' + 1 := ⟨k - 1, by omega⟩
   have e1 : ((k + 1 : Nat) : Int) - 1 = (k : Int) := by omega
   rw [e1]
   have Hcons := Lib.hid (bl_drop_cons t k (by omega))
   have hkl : k < t.size := by omega
   obtain ⟨c, hc⟩ : ∃ c, t[k] = c := ⟨_, rfl⟩
   rw [hc] at Hcons
   have hcb : c.toNat < 256 := c.toNat_lt
   by_cases h1 : c.toNat < 48
   ·have HF : Hid (canonI (bl s) = false) := by
     show _ = _
     rw [HC.out, Bool.eq_false_iff]
     intro hall
     have := all_drop_of_all isDig (bl t) k hall
     rw [Hcons.out] at this
     simp [isDig] at this
     omega
    have d1 : decide (((c.toNat : Nat) : Int) < 48) = true := by rw [decide_eq_true_eq]; omega
    have d1' : ¬ ((48 : Int) ≤ ((c.toNat : Nat) : Int)) := by omega
    go_wp2
    go_ret3
    exact digPost_bad HF.out ⟨rfl, hbel⟩
   ·have d1 : decide (((c.toNat : Nat) : Int) < 48) = false := by rw [decide_eq_false_iff_not]; omega
    by_cases h2 : c.toNat ≤ 57
    ·have d2 : decide ((57 : Int) < ((c.toNat : Nat) : Int)) = false := by rw [decide_eq_false_iff_not]; omega
     have Hall2 : Hid (((bl t).drop k).all isDig = true) := by
      show _ = true
      rw [Hcons.out, List.all_cons, Hall.out]
      simp [isDig]; omega
     have hsz := hbel.size
     have x1 : IntKind.u8.wrap ((c.toNat : Int) - 48) = ((c.toNat - 48 : Nat) : Int) := by
      rw [IntWalk.u8_in _ (by omega)]; omega
     obtain ⟨N, hN⟩ : ∃ N, t.size - (k + 1) = N := ⟨_, rfl⟩
     have hN1 : t.size - k = N + 1 := by omega
     have hNb : N ≤ 1100000 := by omega
     have HN1 := Lib.hid hN1
     rw [hN] at hown ⊢
     clear hN hN1
     go_wp2_with (at_builtin; refine wpList_append_own _ rfl _ _ 26 rfl w.heap.size 3 i0 (.int .i64 0) 1 8 Tryz.ul_ints hi hz0 hz1 hz2 rfl (by decide) _ _ _ rfl (hown.alloc _) ⟨wr.heap.size, 0, none⟩ 1 1 [_] rfl rfl (cell_one_new _ _ _) (int_oneCell _ _) ?d1 ?d2 ?d3 ?_)
     case d1 => unfold maxLen; omega
     case d2 => omega
     case d3 => simp; omega
     intro v2 w2 hown2 hgrow2 _
     have hbel2 : Below w.heap.size w w2 := (hbel.alloc hsz _).grown hgrow2 (by simp; omega) (fun k hk => (hown.lt k hk).1)
     have ed : ((c.toNat : Int) - 48) = ((c.toNat - 48 : Nat) : Int) := by omega
     try rw [ed] at hown2
     rw [nums_snoc, ← rdig_cons, ← Hcons.out, ← HN1.out] at hown2
     obtain ⟨ad3, cap3, rfl, _⟩ := Sl.of_owns hown2
     clear hgrow2 hown hbel
     go_wp2
     go_roundw
     case rel => exact ⟨k, ad3, cap3, by omega, by go_num, rfl, hown2, Hall2, hbel2⟩
     case measure => simp [intOf]
    ·have d2 : decide ((57 : Int) < ((c.toNat : Nat) : Int)) = true := by rw [decide_eq_true_eq]; omega
     have d2' : ¬ (((c.toNat : Nat) : Int) ≤ 57) := by omega
     have HF : Hid (canonI (bl s) = false) := by
      show _ = _
      rw [HC.out, Bool.eq_false_iff]
      intro hall
      have := all_drop_of_all isDig (bl t) k hall
      rw [Hcons.out] at this
      simp [isDig] at this
      omega
     go_wp2
     go_ret3
     exact digPost_bad HF.out ⟨rfl, hbel⟩
  ·obtain rfl : k = 0 := by omega
   rw [Nat.sub_zero] at hown ⊢
   have HF : Hid (DigOk w true (rdig (bl t)) (.returned (.tuple #[.slice adb t.size capb, .bool true, .bool true])) wr) := by
    refine ⟨_, rfl, ?_, hbel⟩
    rw [rdig_length, bl_length]
    exact Sl.of_owns hown
   have HP : Hid (DigPost w s (.returned (.tuple #[.slice adb t.size capb, .bool true, .bool true])) wr) := by
    show DigPost _ _ _ _
    rw [DigPost, if_pos (by rw [HC.out]; exact Hall.out), HB.out, HNg.out]
    exact HF.out
   go_wp2
   go_ret3
   exact HP.out
theorem digits_any (s : ByteArray) (w : World) (hl : s.size ≤ 1100000) :
  Calls Tryz.prog 158 #[.string s] w (DigPost w s) := by
 have bad : canonI (bl s) = false → Calls Tryz.prog 158 #[.string s] w (DigBad w) → Calls Tryz.prog 158 #[.string s] w (DigPost w s) :=
  fun h k => k.mono fun e w' hb => digPost_bad h hb
 by_cases h1 : 0 < s.size
 ·have e := bl_cons s h1
  by_cases hm : s[0] = 45
  ·have et := bl_tail s h1
   by_cases h2 : 0 < (s.extract 1 s.size).size
   ·by_cases h0 : (s.extract 1 s.size)[0] = 48
    ·refine bad ?_ (digits_neg48 s w hl h1 hm _ rfl h2 h0)
     have e2 := bl_cons _ h2
     rw [h0] at e2
     rw [e, hm, ← et, e2]; simp [canonI, body, isNeg, canonD]
    ·exact digits_neg s w hl h1 hm _ rfl h2 h0
   ·refine bad ?_ (digits_neg0 s w hl h1 hm _ rfl (by omega))
    have e2 : bl (s.extract 1 s.size) = [] := List.eq_nil_of_length_eq_zero (by rw [bl_length]; omega)
    rw [e, hm, ← et, e2]; rfl
  ·by_cases h0 : s[0] = 48
   ·by_cases h2 : 1 < s.size
    ·refine bad ?_ (digits_zero s w hl h2 h0)
     have hn : (bl s).tail ≠ [] := fun hh => by have := congrArg List.length e; rw [hh, bl_length] at this; simp at this; omega
     rw [e, h0]
     cases ht : (bl s).tail with
     | nil => exact absurd ht hn
     | cons a b => simp [canonI, body, isNeg, canonD]
    ·exact digits_pos_b s w hl h1 hm (by omega) h0
   ·exact digits_pos_a s w hl h1 hm h0
 ·refine bad ?_ (digits_empty s w (by omega))
  have : bl s = [] := List.eq_nil_of_length_eq_zero (by rw [bl_length]; omega)
  rw [this]; rfl
end Go.Proofs.YtkonookacfmfgaaGreatDoor
