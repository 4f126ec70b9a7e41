/-
  integer.trim and integer.compare. integer.minus and integer.plus.
-/
import Derived.Test.YtkonookacfmfgaaGreatDoorC01
namespace Go.Proofs.YtkonookacfmfgaaGreatDoor
open Go.RowKit
theorem trimL_take_zero (xs : List Nat) (k : Nat) (h : k < xs.length) (hz : xs.getD k 0 = 0) : trimL (xs.take (k + 1)) = trimL (xs.take k) := by
 rw [take_succ_getD _ _ h, hz, trimL_snoc_zero]
theorem trimL_take_ne (xs : List Nat) (k : Nat) (h : k < xs.length) (hz : xs.getD k 0 ≠ 0) : trimL (xs.take (k + 1)) = xs.take (k + 1) := by
 rw [take_succ_getD _ _ h, trimL_snoc _ _ hz]
set_option maxHeartbeats 400000 in
theorem trim_any (v : Value) (xs : List Nat) (w : World) (hv : Sl w v 1 xs.length (nums .u32 xs)) (hl : xs.length ≤ 1000000) :
  Calls Tryz.prog 180 #[v] w fun e w' => ∃ v', e = .returned v' ∧ Hid (v' = cutTo v (trimL xs).length) ∧ w = w' := by
 obtain ⟨ad, cap, rfl, h1, h3⟩ := hv.nums
 clear hv
 go_enter Tryz.func180, Tryz.ntmps180
 go_wp2
 go_loop [0] (fun m => ∃ k : Nat, k ≤ xs.length ∧ m = .slice ad k cap ∧ Hid (trimL (xs.take k) = trimL xs))
  (fun m => match m with | .slice _ n _ => n | _ => 0)
 case atStart => exact ⟨xs.length, Nat.le_refl _, rfl, by rw [List.take_of_length_le (Nat.le_refl _)]; rfl⟩
 case round =>
  obtain ⟨k, hk, rfl, Hrel⟩ := hrel
  by_cases h0 : 0 < k
  ·obtain ⟨b, off, rfl, hc⟩ := h3.resolve_left (by omega)
   obtain ⟨k, rfl⟩ : ∃ k', k = k' + 1 := ⟨k - 1, by omega⟩
   have hck := hc k (by omega)
   clear hc h3
   by_cases hz : xs.getD k 0 = 0
   ·rw [hz] at hck
    have Hz := Lib.hid hz; clear hz
    go_wp2
    go_round
    case rel => exact ⟨k, by omega, rfl, by rw [← trimL_take_zero xs k (by omega) Hz.out]; exact Hrel⟩
    case measure => simp
   ·obtain ⟨y, hy⟩ : ∃ y, y = xs.getD k 0 := ⟨_, rfl⟩
    rw [← hy] at hck hz
    have Hy := Lib.hid hy; clear hy
    have hz' : ((y : Int) == 0) = false := by simp; omega
    go_wp2
    go_ret
    refine ⟨_, rfl, ?_, rfl⟩
    have hz2 : xs.getD k 0 ≠ 0 := by rw [← Hy.out]; exact hz
    have e := Hrel.out
    rw [trimL_take_ne xs k (by omega) hz2] at e
    show _ = Value.slice _ _ _
    rw [← e, List.length_take, Nat.min_eq_left hk]
    rfl
  ·obtain rfl : k = 0 := by omega
   go_wp2
   go_ret
   refine ⟨_, rfl, ?_, rfl⟩
   have e := Hrel.out
   show _ = Value.slice _ _ _
   rw [← e]
   rfl
theorem drewN_3 (w : World) (a b c : Nat) : ∃ n, ((w.drewN a).drewN b).drewN c = w.drewN n := ⟨a + b + c, by rw [World.drewN_drewN, World.drewN_drewN, Nat.add_assoc]⟩
set_option maxHeartbeats 400000 in
theorem compare_len (ad bd : Option Addr) (m n ca cb : Nat) (w : World) (hm : m ≤ 1000000) (hn : n ≤ 1000000) (hne : m ≠ n) :
  Calls Tryz.prog 178 #[.slice ad m ca, .slice bd n cb] w fun e w' =>
   e = .returned (.int .i64 (if m < n then -1 else 1)) ∧ w = w' := by
 by_cases hlt : m < n
 ·have hb : ((m : Int) != (n : Int)) = true := by rw [bne_iff_ne]; omega
  go_enter Tryz.func178, Tryz.ntmps178
  go_wp2
  go_ret
  exact ⟨rfl, rfl⟩
 ·have hb : ((m : Int) != (n : Int)) = true := by rw [bne_iff_ne]; omega
  go_enter Tryz.func178, Tryz.ntmps178
  go_wp2
  go_ret
  exact ⟨rfl, rfl⟩
set_option maxHeartbeats 400000 in
theorem compare_eq (ad ad' : Option Addr) (ca cb : Nat) (xs ys : List Nat) (w : World) (hn : xs.length = ys.length) (hb : xs.length ≤ 1000000)
  (hc : xs.length = 0 ∨ ∃ b off, ad = some ⟨b, off, none⟩ ∧ ∀ j, j < xs.length → w.cell? ⟨b, off + j, none⟩ = some (.int .u32 ((xs.getD j 0 : Nat) : Int)))
  (hd : ys.length = 0 ∨ ∃ b off, ad' = some ⟨b, off, none⟩ ∧ ∀ j, j < ys.length → w.cell? ⟨b, off + j, none⟩ = some (.int .u32 ((ys.getD j 0 : Nat) : Int))) :
  Calls Tryz.prog 178 #[.slice ad xs.length ca, .slice ad' ys.length cb] w fun e w' =>
   e = .returned (.int .i64 (cmpD xs.length xs ys)) ∧ ∃ n, w' = w.drewN n := by
 rw [← hn] at hd ⊢
 clear hn
 have hq : ((xs.length : Int) != (xs.length : Int)) = false := by simp
 go_enter Tryz.func178, Tryz.ntmps178
 go_wp2
 go_loopw [5] (fun i wr => ∃ k : Nat, k ≤ xs.length ∧ i = .int .i64 (k - 1) ∧ Hid (cmpD k xs ys = cmpD xs.length xs ys) ∧ ∃ n, wr = w.drewN n)
  (fun i _ => (intOf i + 1).toNat)
 case atStart => exact ⟨xs.length, Nat.le_refl _, by go_num, rfl, 0, rfl⟩
 case round =>
  obtain ⟨k, hk, rfl, Hrel, n, rfl⟩ := hrel
  by_cases h0 : 0 < k
  ·obtain ⟨k, rfl⟩ : ∃ k', k = k' + 1 := ⟨k - 1, by omega⟩
   obtain ⟨b, off, rfl, hc2⟩ := hc.resolve_left (by omega)
   obtain ⟨b', off', rfl, hd2⟩ := hd.resolve_left (by omega)
   have h1 := hc2 k (by omega)
   have h2 := hd2 k (by omega)
   clear hc2 hd2
   obtain ⟨x, hx⟩ : ∃ x, x = xs.getD k 0 := ⟨_, rfl⟩
   obtain ⟨y, hy⟩ : ∃ y, y = ys.getD k 0 := ⟨_, rfl⟩
   rw [← hx] at h1
   rw [← hy] at h2
   have Hx := Lib.hid hx; clear hx
   have Hy := Lib.hid hy; clear hy
   clear hc hd
   by_cases he : x = y
   ·subst he
    have hq2 : ((x : Int) != (x : Int)) = false := by simp
    go_wp2_with fail
    go_quiet (fail)
    go_wp2
    go_roundw
    case rel =>
     refine ⟨k, by omega, by go_num, ?_, n + nq, rfl⟩
     have e := Hrel.out
     rw [cmpD, if_pos (by rw [← Hx.out, ← Hy.out])] at e
     exact e
    case measure => simp [intOf]
   ·have hne : ((x : Int) != (y : Int)) = true := by rw [bne_iff_ne]; omega
    by_cases hlt : x < y
    ·go_wp2_with fail
     go_quiet (fail)
     go_wp2_with fail
     go_quiet (fail)
     go_wp2
     go_ret
     refine ⟨ret_int' ?_, drewN_3 _ _ _ _⟩
     have e := Hrel.out
     rw [cmpD, if_neg (by rw [← Hx.out, ← Hy.out]; exact he), if_pos (by rw [← Hx.out, ← Hy.out]; exact hlt)] at e
     exact e
    ·go_wp2_with fail
     go_quiet (fail)
     go_wp2_with fail
     go_quiet (fail)
     go_wp2
     go_ret
     refine ⟨ret_int' ?_, drewN_3 _ _ _ _⟩
     have e := Hrel.out
     rw [cmpD, if_neg (by rw [← Hx.out, ← Hy.out]; exact he), if_neg (by rw [← Hx.out, ← Hy.out]; exact hlt)] at e
     exact e
  ·obtain rfl : k = 0 := by omega
   go_wp2
   go_ret
   refine ⟨ret_int' ?_, _, rfl⟩
   exact Hrel.out
theorem compare_any (a b : Value) (xs ys : List Nat) (w : World) (ha : Sl w a 1 xs.length (nums .u32 xs)) (hb : Sl w b 1 ys.length (nums .u32 ys))
  (hx : Nrm 1000000000 xs) (hy : Nrm 1000000000 ys) (lx : xs.length ≤ 1000000) (ly : ys.length ≤ 1000000) :
  Calls Tryz.prog 178 #[a, b] w fun e w' =>
   e = .returned (.int .i64 (sgn (val 1000000000 xs) (val 1000000000 ys))) ∧ ∃ n, w' = w.drewN n := by
 obtain ⟨ad, ca, rfl, h1, h3⟩ := ha.nums
 obtain ⟨bd, cb, rfl, h1', h3'⟩ := hb.nums
 by_cases hl : xs.length = ys.length
 ·rw [← cmpD_nrm (by decide) hx hy hl]
  exact compare_eq ad bd ca cb xs ys w hl lx h3 h3'
 ·refine (compare_len ad bd _ _ ca cb w lx ly hl).mono ?_
  rintro e w' ⟨rfl, rfl⟩
  refine ⟨ret_int' ?_, 0, rfl⟩
  by_cases hlt : xs.length < ys.length
  ·rw [if_pos hlt, sgn_lt (hx.length_lt_of (by decide) hy hlt)]
  ·rw [if_neg hlt, sgn_gt (hy.length_lt_of (by decide) hx (by omega))]
end Go.Proofs.YtkonookacfmfgaaGreatDoor

namespace Go.Proofs.YtkonookacfmfgaaGreatDoor
open Go.RowKit
theorem Tryz.ul_u32s : Tryz.prog.underlying 195 = some (.slice 133) := by kernel_rfl
theorem Tryz.info_u32 : (Tryz.prog.info? 133).map (fun i => (i.zero, i.size, i.bytes)) = some (some (.int .u32 0), 1, 4) := by kernel_rfl
def OwnMag (W : World) (w : World) (v : Value) (rs : List Nat) : Prop :=
 w.ownsRow W.heap.size 133 1 v rs.length (nums .u32 rs) ∧ Nrm 1000000000 rs ∧ Below W.heap.size W w
theorem own_trim {w : World} {base : Nat} {e : TypeId} {v v' : Value} {xs : List Nat} {k : IntKind} (h : w.ownsRow base e 1 v xs.length (nums k xs)) (hv : v' = cutTo v (trimL xs).length) :
  w.ownsRow base e 1 v' (trimL xs).length (nums k (trimL xs)) := by
 subst hv
 have h2 := ownsRow_cut h (trimL xs).length (trimL_prefix xs).2
 rw [Nat.mul_one, nums_take, ← (trimL_prefix xs).1] at h2
 exact h2
theorem int_oneCell (k : IntKind) (n : Int) : ∀ u ∈ [Value.int k n], u.oneCell' = true := by
 intro u hu; rw [List.mem_singleton] at hu; subst hu; rfl
theorem minus_step (A Bv O P x y c d r : Nat) (h : A + c * P = O + Bv) (hd : d + y + c = x + r * 1000000000) : (A + P * x) + r * (P * 1000000000) = (O + P * d) + (Bv + P * y) := by
 have e1 : P * (d + y + c) = P * (x + r * 1000000000) := by rw [hd]
 rw [Nat.mul_add, Nat.mul_add, Nat.mul_add] at e1
 have e2 : P * (r * 1000000000) = r * (P * 1000000000) := by rw [← Nat.mul_assoc, ← Nat.mul_assoc, Nat.mul_comm P r]
 rw [e2] at e1
 rw [Nat.mul_comm c P] at h
 omega
theorem nrm_len_le {xs ys : List Nat} (hx : Dig 1000000000 xs) (hy : Nrm 1000000000 ys) (h : val 1000000000 ys ≤ val 1000000000 xs) : ys.length ≤ xs.length := by
 by_cases hne : ys = []
 ·subst hne; simp
 ·have h1 := hy.pos hne
  have h2 := val_lt hx
  have h3 := (Nat.pow_lt_pow_iff_right (show 1 < 1000000000 by decide)).1 (Nat.lt_of_le_of_lt (Nat.le_trans h1 h) h2)
  omega
def MinusInv (xs ys o : List Nat) (k c : Nat) : Prop :=
 o.length = k ∧ Dig 1000000000 o ∧ val 1000000000 (xs.take k) + c * 1000000000 ^ k = val 1000000000 o + val 1000000000 (ys.take k)
theorem MinusInv.start (xs ys : List Nat) : MinusInv xs ys [] 0 0 := ⟨rfl, Dig.nil _, by simp [val]⟩
theorem MinusInv.step {xs ys o : List Nat} {k c d r : Nat} (h : MinusInv xs ys o k c) (hd : d < 1000000000) (e : d + ys.getD k 0 + c = xs.getD k 0 + r * 1000000000) : MinusInv xs ys (o ++ [d]) (k + 1) r := by
 obtain ⟨h1, h2, h3⟩ := h
 refine ⟨by simp [h1], h2.snoc hd, ?_⟩
 rw [val_take_succ, val_take_succ, val_snoc, h1, Nat.pow_succ]
 exact minus_step _ _ _ _ _ _ _ _ _ h3 e
theorem MinusInv.fin {xs ys o : List Nat} {c : Nat} (h : MinusInv xs ys o xs.length c) (hl : ys.length ≤ xs.length) (hle : val 1000000000 ys ≤ val 1000000000 xs) (hc : c ≤ 1) :
  val 1000000000 (trimL o) = val 1000000000 xs - val 1000000000 ys := by
 obtain ⟨h1, h2, h3⟩ := h
 rw [List.take_of_length_le (Nat.le_refl _), List.take_of_length_le hl] at h3
 rw [trimL_val]
 have h4 := val_lt h2
 rw [h1] at h4
 by_cases h0 : c = 0
 ·subst h0; omega
 ·obtain rfl : c = 1 := by omega
  omega
set_option maxHeartbeats 1000000 in
set_option maxRecDepth 100000 in
theorem minus_any (a b : Value) (xs ys : List Nat) (w : World) (ha : Sl w a 1 xs.length (nums .u32 xs)) (hb : Sl w b 1 ys.length (nums .u32 ys))
  (dx : Dig 1000000000 xs) (dy : Nrm 1000000000 ys) (hle : val 1000000000 ys ≤ val 1000000000 xs) (lx : xs.length ≤ 100000) :
  Calls Tryz.prog 183 #[a, b] w fun e w' => ∃ v rs, e = .returned v ∧ OwnMag w w' v rs ∧ val 1000000000 rs = val 1000000000 xs - val 1000000000 ys := by
 have hlen := nrm_len_le dx dy hle
 obtain ⟨ad, ca, rfl, h1, h3⟩ := ha.nums
 obtain ⟨bd, cb, rfl, h1', h3'⟩ := hb.nums
 obtain ⟨i0, hi, hz0, hz1, hz2⟩ := info_parts Tryz.info_u32
 have Hle := Lib.hid hle; clear hle ha hb
 go_enter Tryz.func183, Tryz.ntmps183
 go_wp2_with (at_make; refine wpList_make_own _ rfl _ _ 195 rfl w.heap.size 133 i0 (.int .u32 0) 1 Tryz.ul_u32s hi hz0 hz1 _ _ _ xs.length rfl rfl rfl ?b1 ?b2 ?b3 ?_)
 case b1 => rw [hz2]; omega
 case b2 => unfold maxLen; omega
 case b3 => exact Nat.le_refl _
 intro w1 hown hgrow
 have hbel : Below w.heap.size w w1 := (Below.refl _ _).grown hgrow (Nat.le_refl _) (by simp)
 clear hgrow
 go_wp2
 go_loopw [5, 6, 15] (fun o c i wr => ∃ (k b1 : Nat) (os : List Nat), k ≤ xs.length ∧ b1 ≤ 1 ∧ i = .int .i64 k ∧ c = .int .u32 b1 ∧ o = .slice (some ⟨w.heap.size, 0, none⟩) k xs.length ∧
   wr.ownsRow w.heap.size 133 1 (.slice (some ⟨w.heap.size, 0, none⟩) k xs.length) k (nums .u32 os) ∧ Hid (MinusInv xs ys os k b1) ∧ Below w.heap.size w wr)
  (fun _ _ i _ => xs.length - (intOf i).toNat)
 case atStart => exact ⟨0, 0, [], Nat.zero_le _, by omega, rfl, rfl, rfl, hown, MinusInv.start _ _, hbel⟩
 case round =>
  clear hown hbel
  obtain ⟨k, b1, os, hk, hb1, rfl, rfl, rfl, hown, Hinv, hbel⟩ := hrel
  by_cases hlt : k < xs.length
  ·obtain ⟨b, off, rfl, hc⟩ := h3.resolve_left (by omega)
   have hck := cell_later hbel (hc k hlt)
   have hx9 := dx.at (by decide) k
   have hy9 := dy.1.at (by decide) k
   obtain ⟨x, hx⟩ : ∃ x, x = xs.getD k 0 := ⟨_, rfl⟩
   obtain ⟨y, hy⟩ : ∃ y, y = ys.getD k 0 := ⟨_, rfl⟩
   rw [← hx] at hck hx9
   rw [← hy] at hy9
   have Hx := Lib.hid hx; clear hx
   have Hy := Lib.hid hy; clear hy
   clear hc h3
   have hsz := hbel.size
   by_cases hly : k < ys.length
   ·obtain ⟨b', off', rfl, hd⟩ := h3'.resolve_left (by omega)
    have hdk := cell_later hbel (hd k hly)
    rw [← Hy.out] at hdk
    clear hd h3'
    by_cases hxy : x < b1 + y
    ·go_wp2_with (at_builtin; refine wpList_append_fits _ rfl _ _ 195 rfl w.heap.size 133 i0 1 Tryz.ul_u32s hi hz1 w.heap.size k xs.length (nums .u32 os) rfl (hown.alloc _) ⟨wr.heap.size, 0, none⟩ 1 1 [_] rfl rfl (cell_one_new _ _ _) (int_oneCell _ _) (by omega) ?_)
     intro w2 hown2 hgrow2
     have ed : ((x : Int) + 1000000000 - ((b1 : Int) + (y : Int)) : Int) = ((x + 1000000000 - (b1 + y) : Nat) : Int) := by omega
     rw [ed, nums_snoc] at hown2
     have hbel2 : Below w.heap.size w w2 := (hbel.alloc hsz _).grown hgrow2 (by simp; omega) (by intro k hk; simp at hk; omega)
     have HR : Hid (MinusInv xs ys (os ++ [x + 1000000000 - (b1 + y)]) (k + 1) 1) := Hinv.out.step (by omega) (by rw [← Hx.out, ← Hy.out]; omega)
     clear ed hgrow2 hown hbel
     go_wp2
     go_roundw
     case rel => exact ⟨k + 1, 1, os ++ [x + 1000000000 - (b1 + y)], by omega, by omega, by go_num, rfl, rfl, hown2, HR, hbel2⟩
     case measure => simp [intOf]; omega
    ·go_wp2_with (at_builtin; refine wpList_append_fits _ rfl _ _ 195 rfl w.heap.size 133 i0 1 Tryz.ul_u32s hi hz1 w.heap.size k xs.length (nums .u32 os) rfl (hown.alloc _) ⟨wr.heap.size, 0, none⟩ 1 1 [_] rfl rfl (cell_one_new _ _ _) (int_oneCell _ _) (by omega) ?_)
     intro w2 hown2 hgrow2
     have ed : ((x : Int) - ((b1 : Int) + (y : Int)) : Int) = ((x - (b1 + y) : Nat) : Int) := by omega
     rw [ed, nums_snoc] at hown2
     have hbel2 : Below w.heap.size w w2 := (hbel.alloc hsz _).grown hgrow2 (by simp; omega) (by intro k hk; simp at hk; omega)
     have HR : Hid (MinusInv xs ys (os ++ [x - (b1 + y)]) (k + 1) 0) := Hinv.out.step (by omega) (by rw [← Hx.out, ← Hy.out]; omega)
     clear ed hgrow2 hown hbel
     go_wp2
     go_roundw
     case rel => exact ⟨k + 1, 0, os ++ [x - (b1 + y)], by omega, by omega, by go_num, rfl, rfl, hown2, HR, hbel2⟩
     case measure => simp [intOf]; omega
   ·have hy0 : ys.getD k 0 = 0 := by simp only [List.getD, List.getElem?_eq_none (by omega : ys.length ≤ k), Option.getD_none]
    have Hy0 := Lib.hid hy0; clear hy0
    by_cases hxy : x < b1
    ·go_wp2_with (at_builtin; refine wpList_append_fits _ rfl _ _ 195 rfl w.heap.size 133 i0 1 Tryz.ul_u32s hi hz1 w.heap.size k xs.length (nums .u32 os) rfl (hown.alloc _) ⟨wr.heap.size, 0, none⟩ 1 1 [_] rfl rfl (cell_one_new _ _ _) (int_oneCell _ _) (by omega) ?_)
     intro w2 hown2 hgrow2
     have ed : ((x : Int) + 1000000000 - (b1 : Int) : Int) = ((x + 1000000000 - b1 : Nat) : Int) := by omega
     rw [ed, nums_snoc] at hown2
     have hbel2 : Below w.heap.size w w2 := (hbel.alloc hsz _).grown hgrow2 (by simp; omega) (by intro k hk; simp at hk; omega)
     have HR : Hid (MinusInv xs ys (os ++ [x + 1000000000 - b1]) (k + 1) 1) := Hinv.out.step (by omega) (by rw [← Hx.out, Hy0.out]; omega)
     clear ed hgrow2 hown hbel
     go_wp2
     go_roundw
     case rel => exact ⟨k + 1, 1, os ++ [x + 1000000000 - b1], by omega, by omega, by go_num, rfl, rfl, hown2, HR, hbel2⟩
     case measure => simp [intOf]; omega
    ·go_wp2_with (at_builtin; refine wpList_append_fits _ rfl _ _ 195 rfl w.heap.size 133 i0 1 Tryz.ul_u32s hi hz1 w.heap.size k xs.length (nums .u32 os) rfl (hown.alloc _) ⟨wr.heap.size, 0, none⟩ 1 1 [_] rfl rfl (cell_one_new _ _ _) (int_oneCell _ _) (by omega) ?_)
     intro w2 hown2 hgrow2
     have ed : ((x : Int) - (b1 : Int) : Int) = ((x - b1 : Nat) : Int) := by omega
     rw [ed, nums_snoc] at hown2
     have hbel2 : Below w.heap.size w w2 := (hbel.alloc hsz _).grown hgrow2 (by simp; omega) (by intro k hk; simp at hk; omega)
     have HR : Hid (MinusInv xs ys (os ++ [x - b1]) (k + 1) 0) := Hinv.out.step (by omega) (by rw [← Hx.out, Hy0.out]; omega)
     clear ed hgrow2 hown hbel
     go_wp2
     go_roundw
     case rel => exact ⟨k + 1, 0, os ++ [x - b1], by omega, by omega, by go_num, rfl, rfl, hown2, HR, hbel2⟩
     case measure => simp [intOf]; omega
  ·obtain rfl : k = xs.length := by omega
   have HF := Hinv.out.fin hlen Hle.out hb1
   have hos : os.length = xs.length := Hinv.out.1
   have hdg := Hinv.out.2.1
   have hsl := Sl.of_owns hown
   rw [← hos] at hsl hown
   have HF' := Lib.hid HF; clear HF
   have Hos := Lib.hid hos; clear hos
   rw [show xs.length = os.length from Hos.out.symm]
   go_wp2_with fail
   refine (trim_any _ os _ hsl (by have := Hos.out; omega)).mono ?_
   rintro e w' ⟨v', rfl, Hv, rfl⟩
   go_wp2
   go_ret
   exact ⟨_, _, rfl, ⟨own_trim hown Hv.out, trimL_nrm hdg, hbel⟩, HF'.out⟩
end Go.Proofs.YtkonookacfmfgaaGreatDoor
