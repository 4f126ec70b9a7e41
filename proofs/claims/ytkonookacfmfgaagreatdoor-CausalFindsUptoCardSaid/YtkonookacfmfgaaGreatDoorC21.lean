/-
  novationref01.Minus. novationref01.Divide.
-/
import Derived.Test.YtkonookacfmfgaaGreatDoorC20
import Derived.Test.YtkonookacfmfgaaGreatDoorC03
import Derived.Deep.CutBlock
import Derived.Deep.LoopGhost
import Derived.ArgAppend
import Derived.Laws.AppendOwnNone
namespace Go.Proofs.YtkonookacfmfgaaGreatDoor
open Go.RowKit
def MInv (xs ys o : List Nat) (k c : Nat) : Prop :=
 o.length = k ∧ Dig 10 o ∧ val 10 (xs.take k) + c * 10 ^ k = val 10 o + val 10 (ys.take k)
theorem MInv.start (xs ys : List Nat) : MInv xs ys [] 0 0 := ⟨rfl, Dig.nil _, by simp [val]⟩
theorem m_step (A Bv O P x y c d r : Nat) (h : A + c * P = O + Bv) (hd : d + y + c = x + r * 10) : (A + P * x) + r * (P * 10) = (O + P * d) + (Bv + P * y) := by
 have e1 : P * (d + y + c) = P * (x + r * 10) := by rw [hd]
 rw [Nat.mul_add, Nat.mul_add, Nat.mul_add] at e1
 have e2 : P * (r * 10) = r * (P * 10) := by rw [← Nat.mul_assoc, ← Nat.mul_assoc, Nat.mul_comm P r]
 rw [e2] at e1
 rw [Nat.mul_comm c P] at h
 omega
theorem MInv.step {xs ys o : List Nat} {k c d r : Nat} (h : MInv xs ys o k c) (hd : d < 10) (e : d + ys.getD k 0 + c = xs.getD k 0 + r * 10) : MInv xs ys (o ++ [d]) (k + 1) r := by
 obtain ⟨h1, h2, h3⟩ := h
 refine ⟨by simp [h1], h2.snoc hd, ?_⟩
 rw [val_take_succ, val_take_succ, val_snoc, h1, Nat.pow_succ]
 exact m_step _ _ _ _ _ _ _ _ _ h3 e
theorem val_take_of_lt {ys : List Nat} {k : Nat} (h : val 10 ys < 10 ^ k) : val 10 (ys.take k) = val 10 ys := by
 by_cases hk : k ≤ ys.length
 ·have e := val_split 10 ys k hk
  by_cases h0 : val 10 (ys.drop k) = 0
  ·rw [h0] at e; omega
  ·have : 10 ^ k * 1 ≤ 10 ^ k * val 10 (ys.drop k) := Nat.mul_le_mul_left _ (by omega)
   omega
 ·rw [List.take_of_length_le (by omega)]
theorem MInv.fin {xs ys o : List Nat} {c : Nat} (h : MInv xs ys o xs.length c) (dx : Dig 10 xs) (hle : val 10 ys ≤ val 10 xs) (hc : c ≤ 1) :
  val 10 o = val 10 xs - val 10 ys := by
 obtain ⟨h1, h2, h3⟩ := h
 have hx := val_lt dx
 rw [List.take_of_length_le (Nat.le_refl _), val_take_of_lt (by omega)] at h3
 have h4 := val_lt h2
 rw [h1] at h4
 by_cases h0 : c = 0
 ·subst h0; omega
 ·obtain rfl : c = 1 := by omega
  omega
def OwnDig (W : World) (w : World) (v : Value) (rs : List Nat) : Prop :=
 w.ownsRow W.heap.size 3 1 v rs.length (nums .i64 rs) ∧ Dig 10 rs ∧ Below W.heap.size W w
set_option maxHeartbeats 1000000 in
set_option maxRecDepth 100000 in
theorem rminus_any (a b : Value) (xs ys : List Nat) (w : World) (ha : Sl w a 1 xs.length (nums .i64 xs)) (hb : Sl w b 1 ys.length (nums .i64 ys))
  (dx : Dig 10 xs) (dy : Dig 10 ys) (hle : val 10 ys ≤ val 10 xs) (lx : xs.length ≤ 1000000) (ly : ys.length ≤ 1000000) :
  Calls Tryz.prog 175 #[a, b] w fun e w' => ∃ v rs, e = .returned v ∧ OwnDig w w' v rs ∧ rs.length = xs.length ∧ val 10 rs = val 10 xs - val 10 ys := by
 obtain ⟨i0, hi, hz0, hz1, hz2⟩ := info_parts Tryz.info_int
 obtain ⟨ad, ca, rfl, h1, h3⟩ := ha.nums
 obtain ⟨bd, cb, rfl, _⟩ := id hb
 have HB := Lib.hid (fun W (hW : Below w.heap.size w W) k m => (at_any _ ys k (W.drewN m) ((hb.below hW).drewN m) ly).mono fun _ _ h => And.intro h.1 h.2.symm)
 have Hle := Lib.hid hle
 have Hdx := Lib.hid dx
 clear ha hb hle
 go_enter Tryz.func175, Tryz.ntmps175
 go_wp2_with fail
 go_loopw [5, 6, 7] (fun o c i wr => ∃ (k b1 : Nat) (os : List Nat) (adb : Option Addr) (capb : Nat), k ≤ xs.length ∧ b1 ≤ 1 ∧ i = .int .i64 k ∧ c = .int .i64 b1 ∧ o = .slice adb k capb ∧
   wr.ownsRow w.heap.size 3 1 (.slice adb k capb) k (nums .i64 os) ∧ Hid (MInv xs ys os k b1) ∧ Below w.heap.size w wr)
  (fun _ _ i _ => xs.length - (intOf i).toNat)
 case atStart => exact ⟨0, 0, [], none, 0, Nat.zero_le _, by omega, rfl, rfl, rfl, World.ownsRow_nil _ _ _ _, MInv.start _ _, Below.refl _ _⟩
 case round =>
  obtain ⟨k, b1, os, adb, capb, hk, hb1, rfl, rfl, rfl, hown, Hinv, hbel⟩ := hrel
  by_cases hlt : k < xs.length
  ·obtain ⟨b, off, rfl, hc⟩ := h3.resolve_left (by omega)
   have hck := cell_later hbel (hc k hlt)
   have hx9 := dx.at (by decide) k
   have hy9 := dy.at (by decide) k
   have HBk := Lib.hid (HB.out wr hbel k)
   obtain ⟨x, hx⟩ : ∃ x, x = xs.getD k 0 := ⟨_, rfl⟩
   obtain ⟨y, hy⟩ : ∃ y, y = ys.getD k 0 := ⟨_, rfl⟩
   rw [← hx] at hck hx9
   rw [← hy] at hy9 HBk
   have Hx := Lib.hid hx; clear hx
   have Hy := Lib.hid hy; clear hy
   clear hc h3
   have hsz := hbel.size
   by_cases hxy : x < y + b1
   ·have dn : decide ((x : Int) - (y : Int) - (b1 : Int) < 0) = true := by rw [decide_eq_true_eq]; omega
    have dn' : (x : Int) - (y : Int) - (b1 : Int) < 0 := by omega
    go_wp2_with fail
    go_quiet ((go_at_call 185; refine Calls.quiet_of_same (HBk.out _)))
    go_wp2_with (at_builtin; refine wpList_append_own _ rfl _ _ 26 rfl w.heap.size 3 i0 (.int .i64 0) 1 8 Tryz.ul_ints hi hz0 hz1 hz2 rfl (by decide) _ _ _ rfl ((Go.Proofs.YtkonookacfmfgaaGreatDoor.ownsRow_kept hown (fun _ _ _ => rfl)).alloc _) ⟨wr.heap.size, 0, none⟩ 1 1 [_] rfl rfl (cell_one_new _ _ _) (int_oneCell _ _) ?d1 ?d2 ?d3 ?_)
    case d1 => unfold maxLen; omega
    case d2 => omega
    case d3 => simp; omega
    intro v2 w2 hown2 hgrow2 _
    have hbel2 : Below w.heap.size w w2 := ((below_drewN hbel _).alloc hsz _).grown hgrow2 (by simp; omega) (fun k hk => (hown.lt k hk).1)
    have ed : (x : Int) - (y : Int) - (b1 : Int) + 10 = ((x + 10 - y - b1 : Nat) : Int) := by omega
    rw [ed, nums_snoc] at hown2
    have HI : Hid (MInv xs ys (os ++ [x + 10 - y - b1]) (k + 1) 1) := Hinv.out.step (by omega) (by rw [← Hx.out, ← Hy.out]; omega)
    obtain ⟨ad3, cap3, rfl, _⟩ := Sl.of_owns hown2
    clear hgrow2 hown hbel ed
    go_wp2
    go_roundw
    case rel => exact ⟨k + 1, 1, _, ad3, cap3, by omega, by omega, by go_num, rfl, rfl, hown2, HI, hbel2⟩
    case measure => simp [intOf]; omega
   ·have dn : decide ((x : Int) - (y : Int) - (b1 : Int) < 0) = false := by rw [decide_eq_false_iff_not]; omega
    have dn' : ¬ ((x : Int) - (y : Int) - (b1 : Int) < 0) := by omega
    go_wp2_with fail
    go_quiet ((go_at_call 185; refine Calls.quiet_of_same (HBk.out _)))
    go_wp2_with (at_builtin; refine wpList_append_own _ rfl _ _ 26 rfl w.heap.size 3 i0 (.int .i64 0) 1 8 Tryz.ul_ints hi hz0 hz1 hz2 rfl (by decide) _ _ _ rfl ((Go.Proofs.YtkonookacfmfgaaGreatDoor.ownsRow_kept hown (fun _ _ _ => rfl)).alloc _) ⟨wr.heap.size, 0, none⟩ 1 1 [_] rfl rfl (cell_one_new _ _ _) (int_oneCell _ _) ?d1 ?d2 ?d3 ?_)
    case d1 => unfold maxLen; omega
    case d2 => omega
    case d3 => simp; omega
    intro v2 w2 hown2 hgrow2 _
    have hbel2 : Below w.heap.size w w2 := ((below_drewN hbel _).alloc hsz _).grown hgrow2 (by simp; omega) (fun k hk => (hown.lt k hk).1)
    have ed : (x : Int) - (y : Int) - (b1 : Int) = ((x - y - b1 : Nat) : Int) := by omega
    rw [ed, nums_snoc] at hown2
    have HI : Hid (MInv xs ys (os ++ [x - y - b1]) (k + 1) 0) := Hinv.out.step (by omega) (by rw [← Hx.out, ← Hy.out]; omega)
    obtain ⟨ad3, cap3, rfl, _⟩ := Sl.of_owns hown2
    clear hgrow2 hown hbel ed
    go_wp2
    go_roundw
    case rel => exact ⟨k + 1, 0, _, ad3, cap3, by omega, by omega, by go_num, rfl, rfl, hown2, HI, hbel2⟩
    case measure => simp [intOf]; omega
  ·obtain rfl : k = xs.length := by omega
   have HF := Lib.hid (Hinv.out.fin Hdx.out Hle.out hb1)
   have hos := Hinv.out.1
   have Hdig := Lib.hid Hinv.out.2.1
   rw [← hos] at hown
   have HO : Hid (OwnDig w wr (.slice adb os.length capb) os) := ⟨hown, Hdig.out, hbel⟩
   rw [hos] at HO
   have Hos := Lib.hid hos
   clear hown hos hbel
   go_wp2
   go_ret
   exact ⟨_, os, rfl, HO.out, Hos.out, HF.out⟩
end Go.Proofs.YtkonookacfmfgaaGreatDoor

namespace Go.Proofs.YtkonookacfmfgaaGreatDoor
open Go.RowKit
def DInv (xs os rs : List Nat) (B n k : Nat) : Prop :=
 os.length = xs.length ∧ Dig 10 os ∧ Dig 10 rs ∧ rs.length ≤ n + 1 ∧ val 10 rs < B ∧ val 10 (xs.drop k) = B * val 10 (os.drop k) + val 10 rs ∧ ∀ i, i < k → os.getD i 0 = 0
theorem DInv.start (xs : List Nat) (B n : Nat) (hB : 0 < B) : DInv xs (List.replicate xs.length 0) [] B n xs.length :=
 ⟨by simp, fun x hx => by rw [(List.mem_replicate.1 hx).2]; decide, Dig.nil _, by simp, hB, by simp [val], fun i hi => by simp [List.getD, hi]⟩
def DIn (xs os rs : List Nat) (B n k q : Nat) : Prop :=
 os.length = xs.length ∧ Dig 10 os ∧ Dig 10 rs ∧ rs.length ≤ n + 1 ∧ q < 10 ∧ os.getD k 0 = q ∧ val 10 rs + q * B < 10 * B ∧ val 10 (xs.drop k) = B * val 10 (os.drop k) + val 10 rs ∧ ∀ i, i < k → os.getD i 0 = 0
theorem DIn.start {xs os rs ts : List Nat} {B n k x : Nat} (h : DInv xs os rs B n (k + 1)) (hk : k < xs.length) (hx : xs.getD k 0 = x) (dx : x < 10) (hts : val 10 ts = x + 10 * val 10 rs) (hd : Dig 10 ts) (hl : ts.length ≤ n + 1) : DIn xs os ts B n k 0 := by
 obtain ⟨h1, h2, h3, h4, h5, h6, h7⟩ := h
 have e0 := h7 k (by omega)
 refine ⟨h1, h2, hd, hl, by decide, e0, by omega, ?_, fun i hi => h7 i (by omega)⟩
 rw [val_drop _ xs _ hk, val_drop _ os _ (by omega), h6, e0, hx, hts]
 grind
theorem DIn.step {xs os rs ts : List Nat} {B n k q : Nat} (h : DIn xs os rs B n k q) (hk : k < xs.length) (hle : B ≤ val 10 rs) (hts : val 10 ts = val 10 rs - B) (hd : Dig 10 ts) (hl : ts.length = rs.length) : DIn xs (os.set k (q + 1)) ts B n k (q + 1) := by
 obtain ⟨h1, h2, h3, h4, h5, h6, h7, h8, h9⟩ := h
 have hq : (q + 1) * B < 10 * B := by rw [Nat.add_mul]; omega
 have hq10 : q + 1 < 10 := Nat.lt_of_mul_lt_mul_right hq
 refine ⟨by simpa using h1, h2.set _ hq10, hd, by omega, hq10, ?_, ?_, ?_, fun i hi => ?_⟩
 ·simp [List.getD, show k < os.length by omega]
 ·rw [Nat.add_mul]; omega
 ·rw [h8, val_drop _ os _ (by omega), val_drop _ (os.set k (q + 1)) _ (by simp; omega), List.drop_set_of_lt (by omega), h6]
  have e6 : (os.set k (q + 1)).getD k 0 = q + 1 := by simp [List.getD, show k < os.length by omega]
  rw [e6, hts]
  have e1 : B * (q + 1 + 10 * val 10 (os.drop (k + 1))) = B * (q + 10 * val 10 (os.drop (k + 1))) + B := by grind
  rw [e1]
  omega
 ·have := h9 i hi
  simp only [List.getD] at this ⊢
  rw [List.getElem?_set_ne (by omega)]
  exact this
theorem DIn.fin {xs os rs : List Nat} {B n k q : Nat} (h : DIn xs os rs B n k q) (hlt : val 10 rs < B) : DInv xs os rs B n k := by
 obtain ⟨h1, h2, h3, h4, h5, h6, h7, h8, h9⟩ := h
 exact ⟨h1, h2, h3, h4, hlt, h8, h9⟩
theorem DInv.fin {xs os rs : List Nat} {B n : Nat} (h : DInv xs os rs B n 0) : val 10 os = val 10 xs / B ∧ val 10 rs = val 10 xs % B := by
 obtain ⟨h1, h2, h3, h4, h5, h6, h7⟩ := h
 rw [List.drop_zero, List.drop_zero] at h6
 rw [h6]
 have hB : 0 < B := by omega
 exact ⟨by rw [Nat.mul_add_div hB, Nat.div_eq_of_lt h5]; simp, by rw [Nat.mul_add_mod, Nat.mod_eq_of_lt h5]⟩
theorem own_one (W : World) (k : IntKind) (r : Nat) (t : TypeId) : (W.alloc (.cells #[.int k (r : Int)] t)).ownsRow W.heap.size t 1 (.slice (some ⟨W.heap.size, 0, none⟩) 1 1) 1 (nums k [r]) :=
 ⟨rfl, .inr ⟨W.heap.size, 1, #[.int k (r : Int)], rfl, Nat.le_refl _, heap_alloc_new W _, Nat.le_refl _, by decide, rfl, rfl⟩⟩
theorem Sl.cells_at {w : World} {ad : Option Addr} {size n cap : Nat} {cs : List Value} (h : Sl w (.slice ad n cap) size n cs) (hn : 0 < n) :
  ∃ b off, ad = some ⟨b, off, none⟩ ∧ ∀ j u, cs[j]? = some u → w.cell? ⟨b, off + j, none⟩ = some u := by
 obtain ⟨_, _, e, _, _, h3⟩ := h
 cases e
 exact h3.resolve_left (by omega)
def RDivPost (w : World) (xs ys : List Nat) (e : Ending) (w' : World) : Prop :=
 ∃ vq vr qs rs, e = .returned (.tuple #[vq, vr]) ∧ Sl w' vq 1 qs.length (nums .i64 qs) ∧ Sl w' vr 1 rs.length (nums .i64 rs) ∧ Dig 10 qs ∧ Dig 10 rs ∧ qs.length = xs.length ∧ rs.length ≤ (trimL ys).length + 1 ∧
  val 10 qs = val 10 xs / val 10 ys ∧ val 10 rs = val 10 xs % val 10 ys ∧ Below w.heap.size w w'
set_option maxHeartbeats 2000000 in
set_option maxRecDepth 100000 in
theorem rdivide_any (a b : Value) (xs ys : List Nat) (w : World) (ha : Sl w a 1 xs.length (nums .i64 xs)) (hb : Sl w b 1 ys.length (nums .i64 ys))
  (dx : Dig 10 xs) (dy : Dig 10 ys) (hp : 0 < val 10 ys) (lx : xs.length ≤ 100000) (ly : ys.length ≤ 100000) :
  Calls Tryz.prog 167 #[a, b] w (RDivPost w xs ys) := by
 obtain ⟨i0, hi, hz0, hz1, hz2⟩ := info_parts Tryz.info_int
 obtain ⟨ad, ca, rfl, h1, h3⟩ := ha.nums
 obtain ⟨bd, cb, rfl, h4, h5⟩ := hb.nums
 have hyp : 0 < ys.length := List.length_pos_iff.2 (fun e => by rw [e] at hp; simp [val] at hp)
 have HB := Lib.hid hb
 have Hp := Lib.hid hp
 obtain ⟨bb, bo, rfl, h6⟩ := h5.resolve_left (by omega)
 clear ha hb hp h5
 go_enter Tryz.func167, Tryz.ntmps167
 go_upto_block 0 with fail
 go_cut [6] from 12 to 23 (fun n wc => ∃ k : Nat, 1 ≤ k ∧ k ≤ ys.length ∧ n = .int .i64 k ∧ Hid (val 10 (ys.take k) = val 10 ys ∧ k ≤ (trimL ys).length) ∧ Hid (wc = w))
 case first =>
  go_wp2_with fail
  go_loopw [6] (fun n wr => ∃ k : Nat, 1 ≤ k ∧ k ≤ ys.length ∧ n = .int .i64 k ∧ Hid (trimL (ys.take k) = trimL ys) ∧ Hid (wr = w))
   (fun n _ => (intOf n).toNat)
  case atStart => exact ⟨ys.length, hyp, Nat.le_refl _, rfl, by show _ = _; rw [List.take_of_length_le (Nat.le_refl _)], rfl⟩
  case round =>
   obtain ⟨k, hk1, hk2, rfl, Hv, hw⟩ := hrel
   obtain rfl := hw.out
   by_cases h1k : 1 < k
   ·obtain ⟨k, rfl⟩ : ∃ k', k = k' + 1 := ⟨k - 1, by omega⟩
    have hck := h6 k (by omega)
    by_cases hz : ys.getD k 0 = 0
    ·have Hv2 : Hid (trimL (ys.take k) = trimL ys) := by
      show _ = _
      rw [← Hv.out, trimL_take_zero ys k (by omega) hz]
     rw [hz] at hck
     clear hz
     go_wp2
     go_roundw
     case rel => exact ⟨k, by omega, by omega, by go_num, Hv2, by first | exact rfl | exact trivial⟩
     case measure => simp [intOf]
    ·have HvE : Hid (val 10 (ys.take (k + 1)) = val 10 ys ∧ k + 1 ≤ (trimL ys).length) := by
      refine ⟨by rw [← trimL_val, Hv.out, trimL_val], ?_⟩
      rw [← Hv.out, trimL_take_ne ys k (by omega) hz, List.length_take]; omega
     obtain ⟨y, hy⟩ : ∃ y, ys.getD k 0 = y := ⟨_, rfl⟩
     rw [hy] at hck hz
     have hyb : ((y : Int) == 0) = false := by rw [beq_eq_false_iff_ne]; omega
     clear hy
     go_wp2
     go_meet
     exact ⟨k + 1, by omega, hk2, rfl, HvE, by first | exact rfl | exact trivial⟩
   ·obtain rfl : k = 1 := by omega
    have HvE : Hid (val 10 (ys.take 1) = val 10 ys ∧ 1 ≤ (trimL ys).length) := by
     refine ⟨by rw [← trimL_val, Hv.out, trimL_val], ?_⟩
     refine List.length_pos_iff.2 (fun e => ?_)
     have h0 := Hp.out
     rw [← trimL_val, e] at h0
     simp [val] at h0
    go_wp2
    go_meet
    exact ⟨1, by omega, hk2, rfl, HvE, by first | exact rfl | exact trivial⟩
 case rest =>
  obtain ⟨n, hn1, hn2, rfl, Hv, hw⟩ := hcut
  have hW := hw.out.symm
  subst hW
  have HnT := Lib.hid Hv.out.2
  have HZ0 := HB.out.cut n hn2
  rw [Nat.mul_one, nums_take] at HZ0
  have hZ1 : Sl w (.slice (some ⟨bb, bo, none⟩) n cb) 1 n (nums .i64 (ys.take n)) := HZ0
  obtain ⟨zs, hzs⟩ : ∃ zs, ys.take n = zs := ⟨_, rfl⟩
  have Hzl : Hid (zs.length = n) := by show _ = _; rw [← hzs, List.length_take]; omega
  have Hzd : Hid (Dig 10 zs) := by show Dig _ _; rw [← hzs]; exact dy.take _
  have Hzv : Hid (val 10 zs = val 10 ys) := by show _ = _; rw [← hzs]; exact Hv.out.1
  rw [hzs] at hZ1
  obtain ⟨B, hB⟩ : ∃ B, val 10 ys = B := ⟨_, rfl⟩
  rw [hB] at Hzv Hp
  have HBy := Lib.hid hB
  have HBn : Hid (B < 10 ^ n) := by show _ < _; rw [← Hzv.out, ← Hzl.out]; exact val_lt Hzd.out
  have HZ := Lib.hid hZ1
  clear HZ0 hZ1 hzs hB Hv hw HB h6
  have hn100 : n ≤ 100000 := by omega
  go_wp2_with (at_make; refine wpList_make_full _ rfl _ _ 26 rfl w.heap.size 3 i0 (.int .i64 0) 1 Tryz.ul_ints hi hz0 hz1 _ _ _ _ xs.length rfl rfl rfl rfl ?b2 ?b3 ?b4 ?_)
  case b2 => rw [hz2]; omega
  case b3 => unfold maxLen; omega
  case b4 => exact Nat.le_refl _
  intro w1 hown hgrow
  have hbel : Below w.heap.size w w1 := (Below.refl _ _).grown hgrow (Nat.le_refl _) (by simp)
  have hown1 : w1.ownsRow w.heap.size 3 1 (.slice (some ⟨w.heap.size, 0, none⟩) xs.length xs.length) xs.length (nums .i64 (List.replicate xs.length 0)) := by
   rw [toList_madeCells_one] at hown
   simpa [nums] using hown
  clear hgrow hown
  go_wp2_with fail
  go_loopw [8, 9] (fun r i wr => ∃ (k : Nat) (os rs : List Nat) (adr : Option Addr) (capr : Nat), k ≤ xs.length ∧ i = .int .i64 (k - 1) ∧ r = .slice adr rs.length capr ∧
    Sl wr (.slice adr rs.length capr) 1 rs.length (nums .i64 rs) ∧ (rs.length = 0 → adr = none ∧ capr = 0) ∧
    wr.ownsRow w.heap.size 3 1 (.slice (some ⟨w.heap.size, 0, none⟩) xs.length xs.length) xs.length (nums .i64 os) ∧ Hid (DInv xs os rs B n k) ∧ Below w.heap.size w wr)
   (fun _ i _ => (intOf i + 1).toNat)
  case atStart => exact ⟨xs.length, _, [], none, 0, Nat.le_refl _, by go_num, rfl, Sl.nil _ _, fun _ => ⟨rfl, rfl⟩, hown1, DInv.start xs B n Hp.out, hbel⟩
  case round =>
   clear hown1 hbel
   obtain ⟨k, os, rs, adr, capr, hk, rfl, rfl, hS, hnil, hown, Hinv, hbel⟩ := hrel
   by_cases h0 : 0 < k
   ·obtain ⟨k, rfl⟩ : ∃ k', k = k' + 1 := ⟨k - 1, by omega⟩
    have e1 : ((k + 1 : Nat) : Int) - 1 = (k : Int) := by omega
    rw [e1]
    obtain ⟨b, off, rfl, hc⟩ := h3.resolve_left (by omega)
    have hck := cell_later hbel (hc k (by omega))
    have hx9 := dx.at (by decide) k
    obtain ⟨x, hx⟩ : ∃ x, xs.getD k 0 = x := ⟨_, rfl⟩
    rw [hx] at hck hx9
    have Hx := Lib.hid hx
    clear hx hc h3 e1
    have hrl : rs.length ≤ n + 1 := Hinv.out.2.2.2.1
    go_upto_region 10 with fail
    go_cut [8] (fun r wc => ∃ (ar cr : Nat), r = .slice (some ⟨ar, 0, none⟩) (rs.length + 1) cr ∧
     wc.ownsRow wr.heap.size 3 1 (.slice (some ⟨ar, 0, none⟩) (rs.length + 1) cr) (rs.length + 1) (nums .i64 (x :: rs)) ∧ Below wr.heap.size wr wc)
    case first =>
     have ho1 := own_one wr .i64 x 3
     have hb1 : Below wr.heap.size wr (wr.alloc (.cells #[.int .i64 (x : Int)] 3)) := (Below.refl _ _).alloc (Nat.le_refl _) _
     by_cases hr0 : rs.length = 0
     ·obtain ⟨rfl, rfl⟩ := hnil hr0
      have hrs : rs = [] := List.eq_nil_of_length_eq_zero hr0
      subst hrs
      go_wp2_with (at_builtin; refine wpList_append_own_none _ _ 26 rfl wr.heap.size 3 i0 1 Tryz.ul_ints hi _ _ _ rfl ho1 rfl ?_)
      go_wp2
      go_meet
      exact ⟨_, _, rfl, ho1, hb1⟩
     ·obtain ⟨rb, ro, rfl, hcs⟩ := Sl.cells_at hS (by omega)
      go_wp2_with (at_builtin; refine wpList_append_own _ rfl _ _ 26 rfl wr.heap.size 3 i0 (.int .i64 0) 1 8 Tryz.ul_ints hi hz0 hz1 hz2 rfl (by decide) _ _ _ rfl ho1 ⟨rb, ro, none⟩ rs.length capr (nums .i64 rs) rfl (by rw [nums_length, Nat.mul_one]) (fun j u hj => by rw [Addr.add_lit]; exact cell_later hb1 (hcs j u hj)) (nums_oneCell _ _) ?d1 ?d2 ?d3 ?_)
      case d1 => unfold maxLen; omega
      case d2 => omega
      case d3 => simp
      intro v2 w2 hown2 hgrow2 _
      have hb2 : Below wr.heap.size wr w2 := hb1.grown hgrow2 (by simp) (fun k hk => (ho1.lt k hk).1)
      obtain ⟨g, cr, rfl, _⟩ := own_shape hown2 (by omega)
      rw [Nat.add_comm 1 rs.length] at hown2 ⊢
      go_wp2
      go_meet
      exact ⟨_, _, rfl, hown2, hb2⟩
    case rest =>
     obtain ⟨ar, cr, rfl, hown2, hb2⟩ := hcut
     have hbel2 : Below w.heap.size w wc := hbel.trans (hb2.mono hbel.size)
     have hownQ := ownsRow_below' hown hb2
     have hSx := Sl.of_owns hown2
     have hcr : rs.length + 1 ≤ cr := by
      obtain ⟨_, _, e, h, _⟩ := own_shape hown2 (by omega)
      cases e; omega
     have hval : val 10 (x :: rs) = x + 10 * val 10 rs := rfl
     have hdig : Dig 10 (x :: rs) := fun z hz => by
      rcases List.mem_cons.1 hz with rfl | hz
      ·exact hx9
      ·exact Hinv.out.2.2.1 z hz
     have hlt10 : val 10 (x :: rs) < 10 ^ (n + 1) := by
      have h5 := Hinv.out.2.2.2.2.1
      have := HBn.out
      rw [hval, Nat.pow_succ]; omega
     have Hval := Lib.hid hval
     have Hdig := Lib.hid hdig
     have Hlt10 := Lib.hid hlt10
     have HQ := Lib.hid hownQ
     have Hb2 := Lib.hid hbel2
     clear hval hdig hlt10 hownQ hbel2 hown2 hb2 hown hS hbel hnil
     go_upto_if 48 with (fail)
     go_cut [8] (fun r wd => ∃ (ts : List Nat) (ar cr : Nat), r = .slice (some ⟨ar, 0, none⟩) ts.length cr ∧ Sl wd (.slice (some ⟨ar, 0, none⟩) ts.length cr) 1 ts.length (nums .i64 ts) ∧ 0 < ts.length ∧
      Hid (Dig 10 ts ∧ val 10 ts = x + 10 * val 10 rs ∧ ts.length ≤ n + 1) ∧ Hid (wd = wc))
     case first =>
      by_cases hlong : n < rs.length
      ·have dl : decide ((n : Int) + 1 < (rs.length : Int) + 1) = true := by rw [decide_eq_true_eq]; omega
       have hSc := hSx.cut (n + 1) (by omega)
       rw [Nat.mul_one, nums_take] at hSc
       have hv := val_take_of_lt Hlt10.out
       have hd := Hdig.out.take (n + 1)
       have htl : ((x :: rs).take (n + 1)).length = n + 1 := by rw [List.length_take]; simp; omega
       obtain ⟨ts, hts⟩ : ∃ ts, (x :: rs).take (n + 1) = ts := ⟨_, rfl⟩
       rw [hts] at hSc hv hd htl
       have HR : Hid (Dig 10 ts ∧ val 10 ts = x + 10 * val 10 rs ∧ ts.length ≤ n + 1) := ⟨hd, by rw [hv]; exact Hval.out, by omega⟩
       have Htl := Lib.hid htl
       clear hts hv hd htl
       go_wp2
       go_meet
       exact ⟨ts, ar, cr, by rw [Htl.out], by rw [Htl.out]; exact hSc, by rw [Htl.out]; omega, HR, by first | exact rfl | exact trivial⟩
      ·have dl : decide ((n : Int) + 1 < (rs.length : Int) + 1) = false := by rw [decide_eq_false_iff_not]; omega
       have HR : Hid (Dig 10 (x :: rs) ∧ val 10 (x :: rs) = x + 10 * val 10 rs ∧ (x :: rs).length ≤ n + 1) := ⟨Hdig.out, Hval.out, by simp; omega⟩
       go_wp2
       go_meet
       exact ⟨x :: rs, ar, cr, rfl, hSx, by simp, HR, by first | exact rfl | exact trivial⟩
     case rest =>
      obtain ⟨ts, ar2, cr2, rfl, hT, htp, HT, hw2⟩ := hcut
      have hW2 := hw2.out.symm
      subst hW2
      clear hSx hcr
      have HI0 : Hid (DIn xs os ts B n k 0) := DIn.start Hinv.out (by omega) Hx.out hx9 HT.out.2.1 HT.out.1 HT.out.2.2
      go_wp2_with fail
      go_loopg [8] (val 10 ts) (fun kk r wr2 => ∃ (ts2 os2 : List Nat) (q ar cr : Nat), val 10 ts2 = kk ∧ r = .slice (some ⟨ar, 0, none⟩) ts2.length cr ∧
       Sl wr2 (.slice (some ⟨ar, 0, none⟩) ts2.length cr) 1 ts2.length (nums .i64 ts2) ∧ 0 < ts2.length ∧
       wr2.ownsRow w.heap.size 3 1 (.slice (some ⟨w.heap.size, 0, none⟩) xs.length xs.length) xs.length (nums .i64 os2) ∧ Hid (DIn xs os2 ts2 B n k q) ∧ Below w.heap.size w wr2)
      case atStart => exact ⟨ts, os, 0, ar2, cr2, rfl, rfl, hT, htp, HQ.out, HI0, Hb2.out⟩
      case round =>
       clear hT htp HT HI0 HQ Hb2
       obtain ⟨ts2, os2, q, ar3, cr3, hkk, rfl, hT, htp, hown, HI, hbel⟩ := hrel
       have Hkk := Lib.hid hkk
       have hZ3 := HZ.out.below hbel
       have htl : ts2.length ≤ n + 1 := HI.out.2.2.2.1
       have C := greater_any _ _ ts2 zs wr hT (by rw [Hzl.out]; exact hZ3) HI.out.2.2.1 Hzd.out (by omega) (by rw [Hzl.out]; omega)
       rw [Hzv.out] at C
       clear hkk
       by_cases hlt : val 10 ts2 < B
       ·rw [sgn_lt hlt] at C
        have HF := Lib.hid (HI.out.fin hlt)
        have HC := Lib.hid C
        clear C hlt
        go_wp2_with fail
        refine HC.out.mono ?_
        rintro e w3 ⟨rfl, rfl⟩
        go_wp2
        go_roundw
        case rel => exact ⟨k, os2, ts2, _, cr3, by omega, by go_num, rfl, hT, fun e => by omega, hown, HF, hbel⟩
        case measure => simp [intOf]
       ·obtain ⟨S, hS⟩ : ∃ S, sgn (val 10 ts2) B = S := ⟨_, rfl⟩
        have hS0 : (0 : Int) ≤ S := by
         rw [← hS]; unfold sgn; rw [if_neg hlt]; split <;> decide
        have dS : decide ((0 : Int) ≤ S) = true := by rw [decide_eq_true_eq]; exact hS0
        rw [hS] at C
        have HC := Lib.hid C
        have HM := Lib.hid (rminus_any _ _ ts2 zs wr hT (by rw [Hzl.out]; exact hZ3) HI.out.2.2.1 Hzd.out (by rw [Hzv.out]; omega) (by omega) (by rw [Hzl.out]; omega))
        have hle : B ≤ val 10 ts2 := by omega
        have Hle := Lib.hid hle
        clear C hS hlt hle hZ3
        go_wp2_with fail
        refine HC.out.mono ?_
        rintro e w3 ⟨rfl, rfl⟩
        go_wp2_with fail
        refine HM.out.mono ?_
        rintro e w3 ⟨v, us, rfl, ⟨hu1, hu2, hu3⟩, hul, huv⟩
        obtain ⟨g, cg, rfl, hg1, _, _⟩ := own_shape hu1 (by omega)
        have hq3 := ownsRow_below' hown hu3
        have hb3 : Below w.heap.size w w3 := hbel.trans (hu3.mono hbel.size)
        have hq10 : q < 10 := HI.out.2.2.2.2.1
        have hol : k < os2.length := by rw [HI.out.1]; omega
        have hcq := (hq3.cellAt k (by omega)).trans (nums_at .i64 os2 k hol)
        rw [HI.out.2.2.2.2.2.1] at hcq
        have hfq := hq3.frozenAt k
        rw [Hzv.out] at huv
        have HI2 : Hid (DIn xs (os2.set k (q + 1)) us B n k (q + 1)) := HI.out.step (by omega) Hle.out huv hu2 hul
        have hmeas : Hid (val 10 us < val 10 ts2) := by
         show _ < _
         have := Hp.out
         have := Hle.out
         omega
        have est := hq3.stored k (.int .i64 ((q + 1 : Nat) : Int))
        have hgw : g ≠ w.heap.size := by
         have := hq3.lt w.heap.size rfl
         have := hown.lt w.heap.size rfl
         omega
        have hSu := (Sl.of_owns hu1).kept (fun j hj hjl => est.2.block j hjl (by
         have e2 : g = j := by simpa [Value.ownBlock] using hj
         rw [← e2]; exact fun e => hgw (by simpa using e)))
        have hb4 := hb3.grown est.2 hb3.size (by intro j hj; simp at hj; omega)
        rw [nums_set] at est
        have hup : 0 < us.length := by omega
        have HE := Lib.hid (And.intro est.1 (And.intro hSu hb4))
        clear est hSu hb4 hq3 hb3 hu1 hu2 hu3 huv hul hown hT hbel hgw hg1 HC HM
        go_wp2
        go_roundg (val 10 us)
        case measure => rw [← Hkk.out]; exact hmeas.out
        case rel => exact ⟨us, os2.set k (q + 1), q + 1, g, cg, rfl, rfl, HE.out.2.1, hup, HE.out.1, HI2, HE.out.2.2⟩
   ·obtain rfl : k = 0 := by omega
    have HF := Lib.hid Hinv.out.fin
    have HP : Hid (RDivPost w xs ys (.returned (.tuple #[.slice (some ⟨w.heap.size, 0, none⟩) xs.length xs.length, .slice adr rs.length capr])) wr) := by
     refine ⟨_, _, os, rs, rfl, by rw [Hinv.out.1]; exact Sl.of_owns hown, hS, Hinv.out.2.1, Hinv.out.2.2.1, Hinv.out.1, by have := Hinv.out.2.2.2.1; have := HnT.out; omega, by rw [HBy.out]; exact HF.out.1, by rw [HBy.out]; exact HF.out.2, hbel⟩
    clear hown hS hbel
    go_wp2
    go_ret2
    exact HP.out
end Go.Proofs.YtkonookacfmfgaaGreatDoor
