/-
  integer.Gcd. novationref01.Gcd of two good numbers. novationref02: Slash, written. rational.form. rational.Check where there is no slash. rational.Check where there is a slash.  Written by tools/genratb.py.
-/
import Derived.Test.YtkonookacfmfgaaGreatDoorC23
import Derived.Test.YtkonookacfmfgaaGreatDoorC22
import Derived.Test.YtkonookacfmfgaaGreatDoorC25
import Derived.Test.YtkonookacfmfgaaGreatDoorC02
namespace Go.Proofs.YtkonookacfmfgaaGreatDoor
open Go.RowKit
def GcdErr (w : World) (er : Int) (e : Ending) (w' : World) : Prop := e = .returned (.tuple #[.string ⟨#[]⟩, .int .i64 er]) ∧ Below w.heap.size w w'
set_option maxHeartbeats 1000000 in
set_option maxRecDepth 100000 in
theorem gcd_err (a b : ByteArray) (w : World) (er : Int) (h : er ≠ 0) (C : ∀ W, Calls Tryz.prog 170 #[.string a, .string b] W (PairErr W er)) :
  Calls Tryz.prog 164 #[.string a, .string b] w (GcdErr w er) := by
 have HC := Lib.hid C
 have h2 : (er != 0) = true := by rw [bne_iff_ne]; exact h
 clear C h
 go_enter Tryz.func164, Tryz.ntmps164
 go_wp2_with fail
 refine (HC.out _).mono ?_
 rintro e w' ⟨rfl, hbel⟩
 go_wp2
 go_ret2
 exact ⟨rfl, (hbel.alloc hbel.size _).alloc (by have := hbel.size; simp; omega) _⟩
def GcdOk (w : World) (n : Nat) (e : Ending) (w' : World) : Prop := ∃ t, e = .returned (.tuple #[.string t, .int .i64 0]) ∧ bl t = istr false n ∧ Below w.heap.size w w'
def ten (k : Nat) : Nat := 10 ^ k
theorem ten_mono {a b : Nat} (h : a ≤ b) : ten a ≤ ten b := Nat.pow_le_pow_right (by decide) h
theorem ten_grp (k : Nat) : ten (9 * k) = 1000000000 ^ k := by rw [ten, Nat.pow_mul]
theorem dval_ten {l : List UInt8} (h : l.all isDig = true) : dval l < ten l.length := dval_lt l h
theorem dig10_ten {n k : Nat} (h : n < ten k) : (dig10 n).length ≤ k := dig10_le h
theorem grp_ten {xs : List Nat} {k : Nat} (h : Nrm 1000000000 xs) (hv : val 1000000000 xs < ten (9 * k)) : xs.length ≤ k := h.length_le (by decide) k (by rw [← ten_grp]; exact hv)
theorem dval_body_lt {l : List UInt8} (h : intErr l = 0) : dval (body l) < ten 1000 := by
 obtain ⟨h1, h2⟩ := intErr_zero h
 rw [canonI, canonD] at h1
 simp only [Bool.and_eq_true] at h1
 exact Nat.lt_of_lt_of_le (dval_ten h1.1.2) (ten_mono h2)
theorem gcd_lt {x y : Nat} (hx : x < ten 1000) (hy : y < ten 1000) : Nat.gcd x y < ten 1000 := by
 by_cases h : x = 0
 ·subst h; rw [Nat.gcd_zero_left]; exact hy
 ·exact Nat.lt_of_le_of_lt (Nat.le_of_dvd (Nat.pos_of_ne_zero h) (Nat.gcd_dvd_left x y)) hx
theorem grp_len {xs : List Nat} (h : Nrm 1000000000 xs) (hv : val 1000000000 xs < ten 1000) : xs.length ≤ 112 :=
 grp_ten h (Nat.lt_of_lt_of_le hv (ten_mono (by decide)))
theorem wErr_zero {n : Nat} (h : n < ten 1000) (neg : Bool) : wErr n = 0 ∧ wStr neg n = istr neg n := by
 have := dig10_ten h
 constructor
 ·rw [wErr, if_neg (by omega)]
 ·rw [wStr, if_neg (by omega)]
def GcdInv (N : Nat) (xs ys : List Nat) : Prop := Nrm 1000000000 xs ∧ Nrm 1000000000 ys ∧ val 1000000000 xs < ten 1000 ∧ val 1000000000 ys < ten 1000 ∧ Nat.gcd (val 1000000000 xs) (val 1000000000 ys) = N
set_option maxHeartbeats 2000000 in
set_option maxRecDepth 100000 in
theorem gcd_ok (a b : ByteArray) (w : World) (ha : a.size ≤ 9223372036854775807) (hb : b.size ≤ 9223372036854775807) (h0 : intErr (bl a) = 0) (h : intErr (bl b) = 0) :
  Calls Tryz.prog 164 #[.string a, .string b] w (GcdOk w (Nat.gcd (dval (body (bl a))) (dval (body (bl b))))) := by
 have HC := Lib.hid (fun W => pair_ok a b W ha hb h0 h)
 have HA := Lib.hid (dval_body_lt h0)
 have HB := Lib.hid (dval_body_lt h)
 clear ha hb h0 h
 go_enter Tryz.func164, Tryz.ntmps164
 go_wp2_with fail
 refine (HC.out _).mono ?_
 rintro e w1 ⟨va, vb, xs, ys, rfl, sa, sb, nx, ny, vx, vy, hb1⟩
 obtain ⟨N, hN⟩ : ∃ N, Nat.gcd (dval (body (bl a))) (dval (body (bl b))) = N := ⟨_, rfl⟩
 have HN := Lib.hid hN
 have hI : Hid (GcdInv N xs ys) := ⟨nx, ny, by rw [vx]; exact HA.out, by rw [vy]; exact HB.out, by rw [vx, vy]; exact hN⟩
 have hNlt := gcd_lt HA.out HB.out
 rw [hN] at hNlt
 have HNlt := Lib.hid hNlt
 clear hN hNlt vx vy nx ny HC HA HB
 obtain ⟨na, hna⟩ : ∃ na, isNeg (bl a) = na := ⟨_, rfl⟩
 obtain ⟨nb, hnb⟩ : ∃ nb, isNeg (bl b) = nb := ⟨_, rfl⟩
 rw [hna, hnb]
 clear hna hnb
 obtain ⟨aa, ca, rfl, _⟩ := id sa
 obtain ⟨ab, cb, rfl, _⟩ := id sb
 have Hsa := Lib.hid sa
 have Hsb := Lib.hid sb
 clear sa sb
 go_wp2_with fail
 obtain ⟨W0, hW0⟩ : ∃ W0, W0 = (w1.alloc (.cells #[.bool na, .slice aa xs.length ca] 197)).alloc (.cells #[.bool nb, .slice ab ys.length cb] 197) := ⟨_, rfl⟩
 rw [← hW0]
 have hb0 : Below w1.heap.size w1 W0 := by rw [hW0]; exact ((Below.refl _ _).alloc (Nat.le_refl _) _).alloc (by simp) _
 have bx : Boxed2 W0 w1.heap.size 197 (.bool na) (.slice aa xs.length ca) := by
  rw [hW0]
  show ((w1.heap.push _).push _)[w1.heap.size]? = _
  rw [Array.getElem?_push, if_neg (by simp), Array.getElem?_push, if_pos rfl]
 have by1 : Boxed2 W0 (w1.heap.size + 1) 197 (.bool nb) (.slice ab ys.length cb) := by
  rw [hW0]
  show ((w1.heap.push _).push _)[w1.heap.size + 1]? = _
  rw [Array.getElem?_push, if_pos (by simp)]
 have hbW : Below w.heap.size w W0 := hb1.trans (hb0.mono hb1.size)
 have hw1 := hb1.size
 have sa0 := Hsa.out.below hb0
 have sb0 := Hsb.out.below hb0
 clear hW0 hb0 hb1 Hsa Hsb
 go_loopg [] (val 1000000000 ys) (fun k wr => ∃ (xs ys : List Nat) (aa ab : Option Addr) (ca cb : Nat), val 1000000000 ys = k ∧
  Boxed2 wr w1.heap.size 197 (.bool na) (.slice aa xs.length ca) ∧ Boxed2 wr (w1.heap.size + 1) 197 (.bool nb) (.slice ab ys.length cb) ∧
  Sl wr (.slice aa xs.length ca) 1 xs.length (nums .u32 xs) ∧ Sl wr (.slice ab ys.length cb) 1 ys.length (nums .u32 ys) ∧ Hid (GcdInv N xs ys) ∧ Below w.heap.size w wr)
 case atStart => exact ⟨xs, ys, aa, ab, ca, cb, rfl, bx, by1, sa0, sb0, hI, hbW⟩
 case round =>
  clear bx by1 sa0 sb0 hI hbW
  obtain ⟨xs, ys, aa, ab, ca, cb, hk, bx, by1, sa, sb, HI, hbel⟩ := hrel
  have Hk := Lib.hid hk
  clear hk
  have cx := bx.cell1
  have cy := by1.cell1
  by_cases hy : 0 < ys.length
  ·have hyne : ys ≠ [] := List.length_pos_iff.1 hy
   have HD := Lib.hid (divide_any _ _ xs ys wr sa sb HI.out.1 HI.out.2.1 (by have := grp_len HI.out.1 HI.out.2.2.1; omega) (by have := grp_len HI.out.2.1 HI.out.2.2.2.1; omega) hyne)
   have Hyne := Lib.hid hyne
   clear hyne
   go_wp2_with fail
   refine HD.out.mono ?_
   rintro e w2 ⟨vq, vr, qs, rs, rfl, sq, sr, nq, nr, eq, er, hb2⟩
   have sb2 := sb.below hb2
   have hbx := hbel.size
   have bx2 := bx.of_block (hb2.block _ bx.lt)
   have by2 := by1.of_block (hb2.block _ by1.lt)
   obtain ⟨ar, cr, rfl, _⟩ := id sr
   have k1 := bx2.cell1
   have k2 := by2.cell1
   have f1 := bx2.frozen 1
   have f2 := by2.frozen 1
   have HI2 : Hid (GcdInv N ys rs) := by
    obtain ⟨g1, g2, g3, g4, g5⟩ := HI.out
    refine ⟨g2, nr, g4, ?_, ?_⟩
    ·rw [er]
     exact Nat.lt_trans (Nat.mod_lt _ (Nat.pos_of_ne_zero (fun e => Hyne.out ((g2.val_zero (by decide)).1 e)))) g4
    ·rw [er, ← g5, Nat.gcd_comm, ← Nat.gcd_rec, Nat.gcd_comm]
   have hlt : Hid (val 1000000000 rs < val 1000000000 ys) := by
    show _ < _
    rw [er]
    exact Nat.mod_lt _ (Nat.pos_of_ne_zero (fun e => Hyne.out ((HI.out.2.1.val_zero (by decide)).1 e)))
   have hbel2 : Below w.heap.size w w2 := hbel.trans (hb2.mono hbel.size)
   obtain ⟨W3, hW3⟩ : ∃ W3, W3 = (w2.setCell ⟨w1.heap.size, 1, none⟩ (.slice ab ys.length cb)).setCell ⟨w1.heap.size + 1, 1, none⟩ (.slice ar rs.length cr) := ⟨_, rfl⟩
   have HW3 := Lib.hid hW3
   have d0 : Boxed2 (w2.setCell ⟨w1.heap.size, 1, none⟩ (.slice ab ys.length cb)) w1.heap.size 197 (.bool na) (.slice ab ys.length cb) := bx2.set1 _
   have d1 : Boxed2 (w2.setCell ⟨w1.heap.size, 1, none⟩ (.slice ab ys.length cb)) (w1.heap.size + 1) 197 (.bool nb) (.slice ab ys.length cb) := by2.of_block (Below.heap_setCell _ _ _ _ (by simp))
   have e0 : Boxed2 W3 w1.heap.size 197 (.bool na) (.slice ab ys.length cb) := by rw [hW3]; exact d0.of_block (Below.heap_setCell _ _ _ _ (by simp))
   have e1 : Boxed2 W3 (w1.heap.size + 1) 197 (.bool nb) (.slice ar rs.length cr) := by rw [hW3]; exact d1.set1 _
   have t1 := sl_keep_box (W' := w2.setCell ⟨w1.heap.size, 1, none⟩ (.slice ab ys.length cb)) sb2 bx2 (fun j hj => Below.heap_setCell _ _ _ _ hj)
   have t2 := sl_keep_box (W' := w2.setCell ⟨w1.heap.size, 1, none⟩ (.slice ab ys.length cb)) sr bx2 (fun j hj => Below.heap_setCell _ _ _ _ hj)
   have t3 := sl_keep_box (W' := W3) t1 d1 (fun j hj => by rw [hW3]; exact Below.heap_setCell _ _ _ _ hj)
   have t4 := sl_keep_box (W' := W3) t2 d1 (fun j hj => by rw [hW3]; exact Below.heap_setCell _ _ _ _ hj)
   have hbel3 : Below w.heap.size w W3 := by
    rw [hW3]
    exact (hbel2.setCell (p := ⟨w1.heap.size, 1, none⟩) (by simp; omega) _).setCell (p := ⟨w1.heap.size + 1, 1, none⟩) (by simp; omega) _
   have HE := Lib.hid (And.intro e0 (And.intro e1 (And.intro t3 (And.intro t4 hbel3))))
   clear hW3 d0 d1 e0 e1 t1 t2 t3 t4 hbel3 hbel2 bx2 by2 sb2 sr sq eq er nq nr hb2 hbel sa sb bx by1 cx cy HD
   go_wp2
   rw [← HW3.out]
   go_roundg (val 1000000000 rs)
   case measure => rw [← Hk.out]; exact hlt.out
   case rel => exact ⟨ys, rs, ab, ar, cb, cr, rfl, HE.out.1, HE.out.2.1, HE.out.2.2.1, HE.out.2.2.2.1, HI2, HE.out.2.2.2.2⟩
  ·have hy0 : ys = [] := List.eq_nil_of_length_eq_zero (by omega)
   have hval : val 1000000000 xs = N := by
    have e := HI.out.2.2.2.2
    rw [hy0] at e
    simpa [val] using e
   have Hval := Lib.hid hval
   have HWr := Lib.hid (fun W (hS : Sl W (.slice aa xs.length ca) 1 xs.length (nums .u32 xs)) => write_any false _ xs W hS HI.out.1 (by have := grp_len HI.out.1 HI.out.2.2.1; omega))
   clear hy0 hval
   go_wp2_with fail
   refine (HWr.out _ sa).mono ?_
   rintro e w2 ⟨t, rfl, ht, hb2⟩
   rw [Hval.out] at ht ⊢
   obtain ⟨z1, z2⟩ := wErr_zero HNlt.out false
   rw [z2] at ht
   rw [z1]
   have Ht := Lib.hid ht
   have hbel2 : Below w.heap.size w w2 := hbel.trans (hb2.mono hbel.size)
   clear z1 z2 ht hb2 hbel
   go_wp2
   go_ret2
   exact ⟨t, rfl, by rw [HN.out]; exact Ht.out, hbel2⟩
end Go.Proofs.YtkonookacfmfgaaGreatDoor

namespace Go.Proofs.YtkonookacfmfgaaGreatDoor
open Go.RowKit
theorem trim_le {zs : List Nat} {k : Nat} (h : Dig 10 zs) (hv : val 10 zs < ten k) : (trimL zs).length ≤ k :=
 (trimL_nrm h).length_le (by decide) k (by rw [trimL_val]; exact hv)
def RInv (N : Nat) (xs ys : List Nat) : Prop := Dig 10 xs ∧ Dig 10 ys ∧ val 10 xs < ten 1000 ∧ val 10 ys < ten 1000 ∧ Nat.gcd (val 10 xs) (val 10 ys) = N
set_option maxHeartbeats 2000000 in
set_option maxRecDepth 100000 in
theorem rgcd_ok (a b : ByteArray) (w : World) (ha : a.size ≤ 1100000) (hb : b.size ≤ 1100000) (h0 : intErr (bl a) = 0) (h : intErr (bl b) = 0) :
  Calls Tryz.prog 160 #[.string a, .string b] w (GcdOk w (Nat.gcd (dval (body (bl a))) (dval (body (bl b))))) := by
 have HBo := Lib.hid (fun W => both_any a b W ha hb)
 have HBe : Hid ((if intErr (bl a) ≠ 0 then intErr (bl a) else intErr (bl b)) = 0) := by show _ = _; rw [if_neg (by rw [h0]; simp), h]
 obtain ⟨ca, la⟩ := intErr_zero h0
 obtain ⟨cb, lb⟩ := intErr_zero h
 have HA := Lib.hid (fun W => digits_ok a W ha ca)
 have HB := Lib.hid (fun W => digits_ok b W hb cb)
 obtain ⟨N, hN⟩ : ∃ N, Nat.gcd (dval (body (bl a))) (dval (body (bl b))) = N := ⟨_, rfl⟩
 have hda : (body (bl a)).all isDig = true := by rw [canonI, canonD] at ca; simp only [Bool.and_eq_true] at ca; exact ca.1.2
 have hdb : (body (bl b)).all isDig = true := by rw [canonI, canonD] at cb; simp only [Bool.and_eq_true] at cb; exact cb.1.2
 have HI : Hid (RInv N (rdig (body (bl a))) (rdig (body (bl b)))) :=
  ⟨rdig_dig hda, rdig_dig hdb, by rw [rdig_val]; exact dval_body_lt h0, by rw [rdig_val]; exact dval_body_lt h, by rw [rdig_val, rdig_val]; exact hN⟩
 have hla := rdig_length (body (bl a))
 have hlb := rdig_length (body (bl b))
 have hNlt := gcd_lt (dval_body_lt h0) (dval_body_lt h)
 rw [hN] at hNlt ⊢
 have HNlt := Lib.hid hNlt
 obtain ⟨xs, hxs⟩ : ∃ xs, rdig (body (bl a)) = xs := ⟨_, rfl⟩
 obtain ⟨ys, hys⟩ : ∃ ys, rdig (body (bl b)) = ys := ⟨_, rfl⟩
 obtain ⟨na, hna⟩ : ∃ na, isNeg (bl a) = na := ⟨_, rfl⟩
 obtain ⟨nb, hnb⟩ : ∃ nb, isNeg (bl b) = nb := ⟨_, rfl⟩
 rw [hxs] at HI HA hla
 rw [hys] at HI HB hlb
 rw [hna] at HA
 rw [hnb] at HB
 have hlx : xs.length ≤ 1002 := by omega
 have hly : ys.length ≤ 1002 := by omega
 clear hxs hys hna hnb hN hNlt hda hdb hla hlb ca cb la lb h0 h ha hb
 go_enter Tryz.func160, Tryz.ntmps160
 go_wp2_with fail
 refine (HBo.out _).mono ?_
 rintro e w1 ⟨rfl, hb1⟩
 rw [HBe.out]
 go_wp2_with fail
 refine (HA.out _).mono ?_
 rintro e w2 ⟨vx, rfl, hsx, hb2⟩
 go_wp2_with fail
 refine (HB.out _).mono ?_
 rintro e w3 ⟨vy, rfl, hsy, hb3⟩
 have hsx3 := hsx.below hb3
 have hbel : Below w.heap.size w w3 := hb1.trans ((hb2.trans (hb3.mono hb2.size)).mono hb1.size)
 clear hsx hb1 hb2 hb3 HA HB HBo
 go_wp2_with fail
 go_loopg [7, 10] (val 10 ys) (fun k s7 s10 wr => ∃ (xs ys : List Nat), val 10 ys = k ∧ xs.length ≤ 1002 ∧ ys.length ≤ 1002 ∧
  Sl wr s7 1 xs.length (nums .i64 xs) ∧ Sl wr s10 1 ys.length (nums .i64 ys) ∧ Hid (RInv N xs ys) ∧ Below w.heap.size w wr)
 case atStart => exact ⟨xs, ys, rfl, hlx, hly, hsx3, hsy, HI, hbel⟩
 case round =>
  clear hsx3 hsy HI hbel hlx hly
  obtain ⟨xs, ys, hk, hlx, hly, hsx, hsy, HI, hbel⟩ := hrel
  have Hk := Lib.hid hk
  have HZ := Lib.hid (zero_any _ ys wr hsy HI.out.2.1 (by omega))
  clear hk
  by_cases hy : val 10 ys = 0
  ·have hd : (val 10 ys == 0) = true := by simpa using hy
   rw [hd] at HZ
   have hv : Hid (val 10 xs = N) := by
    have e := HI.out.2.2.2.2
    rw [hy, Nat.gcd_zero_right] at e
    exact e
   have HT := Lib.hid (text_any _ xs wr hsx HI.out.1 (by omega))
   rw [hv.out] at HT
   clear hd hy
   go_wp2_with fail
   refine HZ.out.mono ?_
   rintro e w4 ⟨rfl, rfl⟩
   go_wp2_with fail
   refine HT.out.mono ?_
   rintro e w5 ⟨t, rfl, ht, hb5⟩
   have HF : Hid (bl t = istr false N ∧ Below w.heap.size w w5) := ⟨ht, hbel.trans (hb5.mono hbel.size)⟩
   clear ht hb5 hbel
   go_wp2
   go_ret2
   exact ⟨t, rfl, HF.out.1, HF.out.2⟩
  ·have hd : (val 10 ys == 0) = false := by simpa using hy
   rw [hd] at HZ
   have HD := Lib.hid (rdivide_any _ _ xs ys wr hsx hsy HI.out.1 HI.out.2.1 (by omega) (by omega) (by omega))
   have htl := trim_le HI.out.2.1 HI.out.2.2.2.1
   have Hy := Lib.hid hy
   clear hd hy
   go_wp2_with fail
   refine HZ.out.mono ?_
   rintro e w4 ⟨rfl, rfl⟩
   go_wp2_with fail
   refine HD.out.mono ?_
   rintro e w5 ⟨vq, vr, qs, rs, rfl, sq, sr, dq, dr, lq, lr, eq, er, hb5⟩
   have hlr : rs.length ≤ 1002 := by omega
   have sy5 := hsy.below hb5
   have HI2 : Hid (RInv N ys rs) := by
    obtain ⟨g1, g2, g3, g4, g5⟩ := HI.out
    refine ⟨g2, dr, g4, ?_, ?_⟩
    ·rw [er]; exact Nat.lt_trans (Nat.mod_lt _ (Nat.pos_of_ne_zero Hy.out)) g4
    ·rw [er, ← g5, Nat.gcd_comm, ← Nat.gcd_rec, Nat.gcd_comm]
   have hlt : Hid (val 10 rs < val 10 ys) := by
    show _ < _
    rw [er]
    exact Nat.mod_lt _ (Nat.pos_of_ne_zero Hy.out)
   have hbel2 : Below w.heap.size w w5 := hbel.trans (hb5.mono hbel.size)
   clear eq er sq dq dr hb5 hbel hsx hsy htl
   go_wp2
   go_roundg (val 10 rs)
   case measure => rw [← Hk.out]; exact hlt.out
   case rel => exact ⟨ys, rs, rfl, hly, hlr, sy5, sr, HI2, hbel2⟩
end Go.Proofs.YtkonookacfmfgaaGreatDoor

namespace Go.Proofs.YtkonookacfmfgaaGreatDoor
open Go.RowKit
theorem slash_at {s : ByteArray} {k : Nat} (hk : k < s.size) (h : ∀ j : Nat, j < k → (bl s)[j]? ≠ some 47) (hc : s[k] = 47) : slashI s = k := by
 rcases slash_cases s with e | ⟨o, e, ho⟩
 ·exact absurd (by rw [bl_get s k hk, hc]) (slash_none e k)
 ·obtain ⟨h1, h2⟩ := slash_some e
  rcases Nat.lt_trichotomy o k with h3 | h3 | h3
  ·exact absurd h1 (h o h3)
  ·rw [e, h3]
  ·exact absurd (by rw [bl_get s k hk, hc]) (h2 k h3)
theorem slash_no {s : ByteArray} (h : ∀ j : Nat, j < s.size → (bl s)[j]? ≠ some 47) : slashI s = -1 := by
 rcases slash_cases s with e | ⟨o, e, ho⟩
 ·exact e
 ·exact absurd (slash_some e).1 (h o ho)
set_option maxHeartbeats 400000 in
set_option maxRecDepth 100000 in
theorem rslash_any (s : ByteArray) (w : World) (hs : s.size ≤ 4611686018427387904) :
  Calls Tryz.prog 159 #[.string s] w fun e w' => e = .returned (.int .i64 (slashI s)) ∧ w = w' := by
 go_enter Tryz.func159, Tryz.ntmps159
 go_wp2
 go_loopw [3] (fun i wr => ∃ k : Nat, k ≤ s.size ∧ i = .int .i64 k ∧ Hid (∀ j : Nat, j < k → (bl s)[j]? ≠ some 47) ∧ Hid (wr = w))
  (fun i _ => s.size - (intOf i).toNat)
 case atStart => exact ⟨0, Nat.zero_le _, rfl, fun j hj => by omega, rfl⟩
 case round =>
  obtain ⟨k, hk, rfl, Hrel, hw⟩ := hrel
  obtain rfl := hw.out
  by_cases hlt : k < s.size
  ·obtain ⟨c, hc⟩ : ∃ c, s[k] = c := ⟨_, rfl⟩
   have hcb : c.toNat < 256 := c.toNat_lt
   by_cases h47 : c = 47
   ·have HE := Lib.hid (slash_at hlt Hrel.out (by rw [hc, h47]))
    have d : ((c.toNat : Int) == 47) = true := by rw [h47]; rfl
    go_wp2
    go_ret
    exact ⟨ret_int' HE.out.symm, rfl⟩
   ·have d : ((c.toNat : Int) == 47) = false := by
     simpa using fun hh : (c.toNat : Int) = 47 => h47 (UInt8.toNat_inj.1 (by simpa using (by omega : c.toNat = 47)))
    have HE : Hid (∀ j : Nat, j < k + 1 → (bl s)[j]? ≠ some 47) := by
     intro j hj
     by_cases he : j = k
     ·subst he
      rw [bl_get s j hlt, hc]
      simpa using h47
     ·exact Hrel.out j (by omega)
    go_wp2
    go_roundw
    case rel => exact ⟨k + 1, by omega, by go_num, HE, by first | exact rfl | exact trivial⟩
    case measure => simp [intOf]; omega
  ·obtain rfl : k = s.size := by omega
   have HE := Lib.hid (slash_no Hrel.out)
   go_wp2
   go_ret
   exact ⟨ret_int' HE.out.symm, rfl⟩
def TwoPost (w : World) (a b : ByteArray) (e : Ending) (w' : World) : Prop := e = .returned (.tuple #[.string a, .string b]) ∧ ∃ n, w' = w.drewN n
set_option maxHeartbeats 400000 in
set_option maxRecDepth 100000 in
theorem written_none (s : ByteArray) (w : World) (hs : s.size ≤ 4611686018427387904) (h : slashI s = -1) :
  Calls Tryz.prog 157 #[.string s] w (TwoPost w s ⟨#[49]⟩) := by
 have C := rslash_any s w hs
 rw [h] at C
 have HC := Lib.hid C
 clear C h
 go_enter Tryz.func157, Tryz.ntmps157
 go_wp2_with fail
 refine HC.out.mono ?_
 rintro e w' ⟨rfl, rfl⟩
 go_wp2
 go_ret2
 exact ⟨rfl, 0, rfl⟩
set_option maxHeartbeats 400000 in
set_option maxRecDepth 100000 in
theorem written_some (s : ByteArray) (w : World) (o : Nat) (h : slashI s = o) (ho : o < s.size) (hs : s.size ≤ 4611686018427387904) :
  Calls Tryz.prog 157 #[.string s] w (TwoPost w (s.extract 0 o) (s.extract (o + 1) s.size)) := by
 have C := rslash_any s w hs
 rw [h] at C
 have HC := Lib.hid C
 clear C h
 have x1 : IntKind.i64.wrap ((o : Int) + 1) = (o : Int) + 1 := IntWalk.i64_in _ (by omega)
 have t1 : ((o : Int) + 1).toNat = o + 1 := by omega
 have k0 : ¬ ((o : Int) < 0) := by omega
 have d0 : decide ((o : Int) < 0) = false := by rw [decide_eq_false_iff_not]; omega
 have k1 : (0 : Int) ≤ (o : Int) + 1 := by omega
 have k2 : (o : Int) + 1 ≤ (s.size : Int) := by omega
 have k3 : (o : Int) ≤ (s.size : Int) := by omega
 go_enter Tryz.func157, Tryz.ntmps157
 go_wp2_with fail
 refine HC.out.mono ?_
 rintro e w' ⟨rfl, rfl⟩
 go_wp2_with fail
 go_quiet (fail)
 go_wp2
 go_ret2
 exact ⟨rfl, _, rfl⟩
end Go.Proofs.YtkonookacfmfgaaGreatDoor

namespace Go.Proofs.YtkonookacfmfgaaGreatDoor
open Go.RowKit
theorem intErr_cases (l : List UInt8) : intErr l = 0 ∨ intErr l = 12 ∨ intErr l = 14 := by
 unfold intErr
 split
 ·split
  ·exact .inr (.inr rfl)
  ·exact .inl rfl
 ·exact .inr (.inl rfl)
set_option maxHeartbeats 400000 in
set_option maxRecDepth 100000 in
theorem form_any (s : ByteArray) (w : World) (hl : s.size ≤ 9223372036854775807) :
  Calls Tryz.prog 162 #[.string s] w fun e w' => e = .returned (.int .i64 (formErr (bl s))) ∧ w = w' := by
 have C := check_any s w hl
 have HF : Hid (formErr (bl s) = if intErr (bl s) = 14 then 0 else intErr (bl s)) := by
  show _ = _
  unfold formErr intErr
  split <;> split <;> simp_all
 obtain ⟨E, hE⟩ : ∃ E, intErr (bl s) = E := ⟨_, rfl⟩
 obtain ⟨F, hF⟩ : ∃ F, formErr (bl s) = F := ⟨_, rfl⟩
 rw [hE] at C HF
 rw [hF] at HF ⊢
 have HC := Lib.hid C
 clear C hE hF hl
 by_cases h : E = 14
 ·subst h
  have e : F = 0 := HF.out
  subst e
  clear HF
  go_enter Tryz.func162, Tryz.ntmps162
  go_wp2_with fail
  refine HC.out.mono ?_
  rintro e w' ⟨rfl, rfl⟩
  go_wp2
  go_ret
  exact ⟨rfl, rfl⟩
 ·have e : F = E := by have := HF.out; rw [if_neg h] at this; exact this
  subst e
  clear HF
  have d1 : (F != 14) = true := by simpa using h
  have d2 : (F == 14) = false := by simpa using h
  go_enter Tryz.func162, Tryz.ntmps162
  go_wp2_with fail
  refine HC.out.mono ?_
  rintro e w' ⟨rfl, rfl⟩
  go_wp2
  go_ret
  exact ⟨rfl, rfl⟩
end Go.Proofs.YtkonookacfmfgaaGreatDoor

namespace Go.Proofs.YtkonookacfmfgaaGreatDoor
open Go.RowKit
def RatPost (w : World) (v : Int) (e : Ending) (w' : World) : Prop := e = .returned (.int .i64 v) ∧ Below w.heap.size w w'
set_option maxHeartbeats 1000000 in
set_option maxRecDepth 100000 in
theorem rat_none (s : ByteArray) (w : World) (hl : s.size ≤ 4611686018427387904) (h : slashI s = -1) :
  Calls Tryz.prog 155 #[.string s] w (RatPost w (ratErr s)) := by
 have e : ratErr s = intErr (bl s) := by rw [ratErr, if_pos h]
 have C1 := Lib.hid (fun W => split_none s W h)
 have C2 := Lib.hid (fun W => form_any s W (by omega))
 have C3 := Lib.hid (fun W => check_any s W (by omega))
 rw [e]
 have Hn := Lib.hid (intErr_of_not (l := bl s))
 have Hc := Lib.hid (intErr_of (l := bl s))
 clear e h hl
 by_cases hc : canonI (bl s) = true
 ·have f0 : formErr (bl s) = 0 := by rw [formErr, if_pos hc]
  have Hf := Lib.hid f0
  by_cases h0 : intErr (bl s) = 0
  ·have Hi := Lib.hid h0
   clear hc f0 h0
   rw [Hi.out]
   go_enter Tryz.func155, Tryz.ntmps155
   go_wp2_with fail
   refine (C1.out _).mono ?_
   rintro e w' ⟨rfl, n, rfl⟩
   go_wp2_with fail
   refine (C2.out _).mono ?_
   rintro e w' ⟨rfl, rfl⟩
   rw [Hf.out]
   go_wp2_with fail
   refine (C3.out _).mono ?_
   rintro e w' ⟨rfl, rfl⟩
   rw [Hi.out]
   go_wp2
   go_ret
   exact ⟨rfl, below_drewN (Below.refl _ _) _⟩
  ·have Hi := Lib.hid (intErr_of hc h0)
   clear hc f0 h0
   rw [Hi.out]
   go_enter Tryz.func155, Tryz.ntmps155
   go_wp2_with fail
   refine (C1.out _).mono ?_
   rintro e w' ⟨rfl, n, rfl⟩
   go_wp2_with fail
   refine (C2.out _).mono ?_
   rintro e w' ⟨rfl, rfl⟩
   rw [Hf.out]
   go_wp2_with fail
   refine (C3.out _).mono ?_
   rintro e w' ⟨rfl, rfl⟩
   rw [Hi.out]
   go_wp2
   go_ret
   exact ⟨rfl, below_drewN (Below.refl _ _) _⟩
 ·have hc' : canonI (bl s) = false := by simpa using hc
  have Hf : Hid (formErr (bl s) = 12) := by show _ = _; rw [formErr, if_neg hc]
  have Hi := Lib.hid (intErr_of_not hc')
  clear hc hc'
  rw [Hi.out]
  go_enter Tryz.func155, Tryz.ntmps155
  go_wp2_with fail
  refine (C1.out _).mono ?_
  rintro e w' ⟨rfl, n, rfl⟩
  go_wp2_with fail
  refine (C2.out _).mono ?_
  rintro e w' ⟨rfl, rfl⟩
  rw [Hf.out]
  go_wp2
  go_ret
  exact ⟨rfl, below_drewN (Below.refl _ _) _⟩
end Go.Proofs.YtkonookacfmfgaaGreatDoor

namespace Go.Proofs.YtkonookacfmfgaaGreatDoor
open Go.RowKit
theorem canonI_pos {b : ByteArray} (h : canonI (bl b) = true) : 0 < b.size := by
 rcases Nat.eq_zero_or_pos b.size with h0 | h0
 ·have e : bl b = [] := List.eq_nil_of_length_eq_zero (by rw [bl_length]; exact h0)
  rw [e] at h
  exact absurd h (by decide)
 ·exact h0
theorem ne_lit {b : ByteArray} {x : UInt8} (h : bl b ≠ [x]) : (b.toList == [x]) = false := by
 rw [Lib.toList_data]; show (bl b == [x]) = false; simpa using h
theorem eq_lit {b : ByteArray} {x : UInt8} (h : bl b = [x]) : b = ⟨#[x]⟩ := bl_inj h
set_option maxHeartbeats 1000000 in
set_option maxRecDepth 100000 in
theorem frac_a (s a b : ByteArray) (w : World) (HS : Hid (∀ W, Calls Tryz.prog 161 #[.string s] W (CutPost W a b true))) (ha : a.size ≤ 4611686018427387904) (_hb : b.size ≤ 4611686018427387904)
  (hca : canonI (bl a) = false) :
  Calls Tryz.prog 155 #[.string s] w (RatPost w 12) := by
 have FA := Lib.hid (fun W => form_any a W (by omega))
 have RA : Hid (formErr (bl a) = 12) := by show _ = _; rw [formErr, if_neg (by simp [hca])]
 clear ha hca
 go_enter Tryz.func155, Tryz.ntmps155
 go_wp2_with fail
 refine (HS.out _).mono ?_
 rintro e w' ⟨rfl, n, rfl⟩
 go_wp2_with fail
 refine (FA.out _).mono ?_
 rintro e w' ⟨rfl, rfl⟩
 rw [RA.out]
 go_wp2
 go_ret
 exact ⟨rfl, below_drewN (Below.refl _ _) _⟩
set_option maxHeartbeats 1000000 in
set_option maxRecDepth 100000 in
theorem frac_b (s a b : ByteArray) (w : World) (HS : Hid (∀ W, Calls Tryz.prog 161 #[.string s] W (CutPost W a b true))) (ha : a.size ≤ 4611686018427387904) (hb : b.size ≤ 4611686018427387904)
  (hca : canonI (bl a) = true) (hcb : canonI (bl b) = false) :
  Calls Tryz.prog 155 #[.string s] w (RatPost w 12) := by
 have FA := Lib.hid (fun W => form_any a W (by omega))
 have FB := Lib.hid (fun W => form_any b W (by omega))
 have RA : Hid (formErr (bl a) = 0) := by show _ = _; rw [formErr, if_pos hca]
 have RB : Hid (formErr (bl b) = 12) := by show _ = _; rw [formErr, if_neg (by simp [hcb])]
 clear ha hb hca hcb
 go_enter Tryz.func155, Tryz.ntmps155
 go_wp2_with fail
 refine (HS.out _).mono ?_
 rintro e w' ⟨rfl, n, rfl⟩
 go_wp2_with fail
 refine (FA.out _).mono ?_
 rintro e w' ⟨rfl, rfl⟩
 rw [RA.out]
 go_wp2_with fail
 refine (FB.out _).mono ?_
 rintro e w' ⟨rfl, rfl⟩
 rw [RB.out]
 go_wp2
 go_ret
 exact ⟨rfl, below_drewN (Below.refl _ _) _⟩
set_option maxHeartbeats 1000000 in
set_option maxRecDepth 100000 in
theorem frac_neg (s a b : ByteArray) (w : World) (HS : Hid (∀ W, Calls Tryz.prog 161 #[.string s] W (CutPost W a b true))) (ha : a.size ≤ 4611686018427387904) (hb : b.size ≤ 4611686018427387904)
  (hca : canonI (bl a) = true) (hcb : canonI (bl b) = true) (h45 : (bl b).head? = some 45) :
  Calls Tryz.prog 155 #[.string s] w (RatPost w 12) := by
 have FA := Lib.hid (fun W => form_any a W (by omega))
 have FB := Lib.hid (fun W => form_any b W (by omega))
 have RA : Hid (formErr (bl a) = 0) := by show _ = _; rw [formErr, if_pos hca]
 have RB : Hid (formErr (bl b) = 0) := by show _ = _; rw [formErr, if_pos hcb]
 have hp := canonI_pos hcb
 obtain ⟨c, hc⟩ : ∃ c, b[0] = c := ⟨_, rfl⟩
 have h4 : ((c.toNat : Int) == 45) = true := by
  rw [bl_cons b hp, hc] at h45
  have : c = 45 := by simpa using h45
  rw [this]; rfl
 clear ha hca hcb h45
 go_enter Tryz.func155, Tryz.ntmps155
 go_wp2_with fail
 refine (HS.out _).mono ?_
 rintro e w' ⟨rfl, n, rfl⟩
 go_wp2_with fail
 refine (FA.out _).mono ?_
 rintro e w' ⟨rfl, rfl⟩
 rw [RA.out]
 go_wp2_with fail
 refine (FB.out _).mono ?_
 rintro e w' ⟨rfl, rfl⟩
 rw [RB.out]
 go_wp2
 go_ret
 exact ⟨rfl, below_drewN (Below.refl _ _) _⟩
set_option maxHeartbeats 1000000 in
set_option maxRecDepth 100000 in
theorem frac_zero (s a b : ByteArray) (w : World) (HS : Hid (∀ W, Calls Tryz.prog 161 #[.string s] W (CutPost W a b true))) (ha : a.size ≤ 4611686018427387904) (hb : b.size ≤ 4611686018427387904)
  (hca : canonI (bl a) = true) (hcb : canonI (bl b) = true) (hl : bl b = [48]) :
  Calls Tryz.prog 155 #[.string s] w (RatPost w 12) := by
 have FA := Lib.hid (fun W => form_any a W (by omega))
 have FB := Lib.hid (fun W => form_any b W (by omega))
 have RA : Hid (formErr (bl a) = 0) := by show _ = _; rw [formErr, if_pos hca]
 have RB : Hid (formErr (bl b) = 0) := by show _ = _; rw [formErr, if_pos hcb]
 have e := eq_lit hl
 subst e
 have hp : 0 < (⟨#[48]⟩ : ByteArray).size := by decide
 have hc : (⟨#[48]⟩ : ByteArray)[0] = 48 := rfl
 clear ha hca hcb hl
 go_enter Tryz.func155, Tryz.ntmps155
 go_wp2_with fail
 refine (HS.out _).mono ?_
 rintro e w' ⟨rfl, n, rfl⟩
 go_wp2_with fail
 refine (FA.out _).mono ?_
 rintro e w' ⟨rfl, rfl⟩
 rw [RA.out]
 go_wp2_with fail
 refine (FB.out _).mono ?_
 rintro e w' ⟨rfl, rfl⟩
 rw [RB.out]
 go_wp2
 go_ret
 exact ⟨rfl, below_drewN (Below.refl _ _) _⟩
set_option maxHeartbeats 1000000 in
set_option maxRecDepth 100000 in
theorem frac_one (s a b : ByteArray) (w : World) (HS : Hid (∀ W, Calls Tryz.prog 161 #[.string s] W (CutPost W a b true))) (ha : a.size ≤ 4611686018427387904) (hb : b.size ≤ 4611686018427387904)
  (hca : canonI (bl a) = true) (hcb : canonI (bl b) = true) (hl : bl b = [49]) :
  Calls Tryz.prog 155 #[.string s] w (RatPost w 12) := by
 have FA := Lib.hid (fun W => form_any a W (by omega))
 have FB := Lib.hid (fun W => form_any b W (by omega))
 have RA : Hid (formErr (bl a) = 0) := by show _ = _; rw [formErr, if_pos hca]
 have RB : Hid (formErr (bl b) = 0) := by show _ = _; rw [formErr, if_pos hcb]
 have e := eq_lit hl
 subst e
 have hp : 0 < (⟨#[49]⟩ : ByteArray).size := by decide
 have hc : (⟨#[49]⟩ : ByteArray)[0] = 49 := rfl
 clear ha hca hcb hl
 go_enter Tryz.func155, Tryz.ntmps155
 go_wp2_with fail
 refine (HS.out _).mono ?_
 rintro e w' ⟨rfl, n, rfl⟩
 go_wp2_with fail
 refine (FA.out _).mono ?_
 rintro e w' ⟨rfl, rfl⟩
 rw [RA.out]
 go_wp2_with fail
 refine (FB.out _).mono ?_
 rintro e w' ⟨rfl, rfl⟩
 rw [RB.out]
 go_wp2
 go_ret
 exact ⟨rfl, below_drewN (Below.refl _ _) _⟩
set_option maxHeartbeats 1000000 in
set_option maxRecDepth 100000 in
theorem frac_big_a (s a b : ByteArray) (w : World) (HS : Hid (∀ W, Calls Tryz.prog 161 #[.string s] W (CutPost W a b true))) (ha : a.size ≤ 4611686018427387904) (hb : b.size ≤ 4611686018427387904)
  (hca : canonI (bl a) = true) (hcb : canonI (bl b) = true) (h45 : (bl b).head? ≠ some 45) (h0 : bl b ≠ [48]) (h1 : bl b ≠ [49]) (hi : intErr (bl a) ≠ 0) :
  Calls Tryz.prog 155 #[.string s] w (RatPost w 14) := by
 have FA := Lib.hid (fun W => form_any a W (by omega))
 have FB := Lib.hid (fun W => form_any b W (by omega))
 have CA := Lib.hid (fun W => check_any a W (by omega))
 have RA : Hid (formErr (bl a) = 0) := by show _ = _; rw [formErr, if_pos hca]
 have RB : Hid (formErr (bl b) = 0) := by show _ = _; rw [formErr, if_pos hcb]
 have hp := canonI_pos hcb
 obtain ⟨c, hc⟩ : ∃ c, b[0] = c := ⟨_, rfl⟩
 have h4 : ((c.toNat : Int) == 45) = false := by
  rw [bl_cons b hp, hc] at h45
  simpa using fun hh : (c.toNat : Int) = 45 => h45 (by rw [UInt8.toNat_inj.1 (by simpa using (by omega : c.toNat = 45) : c.toNat = (45 : UInt8).toNat)]; rfl)
 have n0 := ne_lit h0
 have n1 := ne_lit h1
 have IA := Lib.hid (intErr_of hca hi)
 clear hca hcb h45 h0 h1 ha hi
 go_enter Tryz.func155, Tryz.ntmps155
 go_wp2_with fail
 refine (HS.out _).mono ?_
 rintro e w' ⟨rfl, n, rfl⟩
 go_wp2_with fail
 refine (FA.out _).mono ?_
 rintro e w' ⟨rfl, rfl⟩
 rw [RA.out]
 go_wp2_with fail
 refine (FB.out _).mono ?_
 rintro e w' ⟨rfl, rfl⟩
 rw [RB.out]
 go_wp2_with fail
 refine (CA.out _).mono ?_
 rintro e w' ⟨rfl, rfl⟩
 rw [IA.out]
 go_wp2
 go_ret
 exact ⟨rfl, below_drewN (Below.refl _ _) _⟩
set_option maxHeartbeats 1000000 in
set_option maxRecDepth 100000 in
theorem frac_big_b (s a b : ByteArray) (w : World) (HS : Hid (∀ W, Calls Tryz.prog 161 #[.string s] W (CutPost W a b true))) (ha : a.size ≤ 4611686018427387904) (hb : b.size ≤ 4611686018427387904)
  (hca : canonI (bl a) = true) (hcb : canonI (bl b) = true) (h45 : (bl b).head? ≠ some 45) (h0 : bl b ≠ [48]) (h1 : bl b ≠ [49]) (hi : intErr (bl a) = 0) (hj : intErr (bl b) ≠ 0) :
  Calls Tryz.prog 155 #[.string s] w (RatPost w 14) := by
 have FA := Lib.hid (fun W => form_any a W (by omega))
 have FB := Lib.hid (fun W => form_any b W (by omega))
 have CA := Lib.hid (fun W => check_any a W (by omega))
 have CB := Lib.hid (fun W => check_any b W (by omega))
 have RA : Hid (formErr (bl a) = 0) := by show _ = _; rw [formErr, if_pos hca]
 have RB : Hid (formErr (bl b) = 0) := by show _ = _; rw [formErr, if_pos hcb]
 have hp := canonI_pos hcb
 obtain ⟨c, hc⟩ : ∃ c, b[0] = c := ⟨_, rfl⟩
 have h4 : ((c.toNat : Int) == 45) = false := by
  rw [bl_cons b hp, hc] at h45
  simpa using fun hh : (c.toNat : Int) = 45 => h45 (by rw [UInt8.toNat_inj.1 (by simpa using (by omega : c.toNat = 45) : c.toNat = (45 : UInt8).toNat)]; rfl)
 have n0 := ne_lit h0
 have n1 := ne_lit h1
 have IA := Lib.hid hi
 have IB := Lib.hid (intErr_of hcb hj)
 clear hca hcb h45 h0 h1 ha hi hj
 go_enter Tryz.func155, Tryz.ntmps155
 go_wp2_with fail
 refine (HS.out _).mono ?_
 rintro e w' ⟨rfl, n, rfl⟩
 go_wp2_with fail
 refine (FA.out _).mono ?_
 rintro e w' ⟨rfl, rfl⟩
 rw [RA.out]
 go_wp2_with fail
 refine (FB.out _).mono ?_
 rintro e w' ⟨rfl, rfl⟩
 rw [RB.out]
 go_wp2_with fail
 refine (CA.out _).mono ?_
 rintro e w' ⟨rfl, rfl⟩
 rw [IA.out]
 go_wp2_with fail
 refine (CB.out _).mono ?_
 rintro e w' ⟨rfl, rfl⟩
 rw [IB.out]
 go_wp2
 go_ret
 exact ⟨rfl, below_drewN (Below.refl _ _) _⟩
set_option maxHeartbeats 1000000 in
set_option maxRecDepth 100000 in
theorem frac_gcd (s a b : ByteArray) (w : World) (HS : Hid (∀ W, Calls Tryz.prog 161 #[.string s] W (CutPost W a b true))) (ha : a.size ≤ 4611686018427387904) (hb : b.size ≤ 4611686018427387904)
  (hca : canonI (bl a) = true) (hcb : canonI (bl b) = true) (h45 : (bl b).head? ≠ some 45) (h0 : bl b ≠ [48]) (h1 : bl b ≠ [49]) (hi : intErr (bl a) = 0) (hj : intErr (bl b) = 0) (hg : Nat.gcd (dval (body (bl a))) (dval (body (bl b))) ≠ 1) :
  Calls Tryz.prog 155 #[.string s] w (RatPost w 12) := by
 have FA := Lib.hid (fun W => form_any a W (by omega))
 have FB := Lib.hid (fun W => form_any b W (by omega))
 have CA := Lib.hid (fun W => check_any a W (by omega))
 have CB := Lib.hid (fun W => check_any b W (by omega))
 have GC := Lib.hid (fun W => gcd_ok a b W (by omega) (by omega) hi hj)
 have RA : Hid (formErr (bl a) = 0) := by show _ = _; rw [formErr, if_pos hca]
 have RB : Hid (formErr (bl b) = 0) := by show _ = _; rw [formErr, if_pos hcb]
 have hp := canonI_pos hcb
 obtain ⟨c, hc⟩ : ∃ c, b[0] = c := ⟨_, rfl⟩
 have h4 : ((c.toNat : Int) == 45) = false := by
  rw [bl_cons b hp, hc] at h45
  simpa using fun hh : (c.toNat : Int) = 45 => h45 (by rw [UInt8.toNat_inj.1 (by simpa using (by omega : c.toNat = 45) : c.toNat = (45 : UInt8).toNat)]; rfl)
 have n0 := ne_lit h0
 have n1 := ne_lit h1
 have IA := Lib.hid hi
 have IB := Lib.hid hj
 have Hg := Lib.hid hg
 clear hca hcb h45 h0 h1 ha hi hj hg
 go_enter Tryz.func155, Tryz.ntmps155
 go_wp2_with fail
 refine (HS.out _).mono ?_
 rintro e w' ⟨rfl, n, rfl⟩
 go_wp2_with fail
 refine (FA.out _).mono ?_
 rintro e w' ⟨rfl, rfl⟩
 rw [RA.out]
 go_wp2_with fail
 refine (FB.out _).mono ?_
 rintro e w' ⟨rfl, rfl⟩
 rw [RB.out]
 go_wp2_with fail
 refine (CA.out _).mono ?_
 rintro e w' ⟨rfl, rfl⟩
 rw [IA.out]
 go_wp2_with fail
 refine (CB.out _).mono ?_
 rintro e w' ⟨rfl, rfl⟩
 rw [IB.out]
 go_wp2_with fail
 refine (GC.out _).mono ?_
 rintro e w' ⟨t, rfl, ht, hbel⟩
 have nt := ne_lit (b := t) (x := 49) (by rw [ht]; exact fun e => Hg.out ((istr_one _).1 e))
 clear ht
 have HB : Hid (Below w.heap.size w w') := (below_drewN (Below.refl _ _) _).trans hbel
 clear hbel
 go_wp2
 go_ret
 exact ⟨rfl, HB.out⟩
set_option maxHeartbeats 1000000 in
set_option maxRecDepth 100000 in
theorem frac_good (s a b : ByteArray) (w : World) (HS : Hid (∀ W, Calls Tryz.prog 161 #[.string s] W (CutPost W a b true))) (ha : a.size ≤ 4611686018427387904) (hb : b.size ≤ 4611686018427387904)
  (hca : canonI (bl a) = true) (hcb : canonI (bl b) = true) (h45 : (bl b).head? ≠ some 45) (h0 : bl b ≠ [48]) (h1 : bl b ≠ [49]) (hi : intErr (bl a) = 0) (hj : intErr (bl b) = 0) (hg : Nat.gcd (dval (body (bl a))) (dval (body (bl b))) = 1) :
  Calls Tryz.prog 155 #[.string s] w (RatPost w 0) := by
 have FA := Lib.hid (fun W => form_any a W (by omega))
 have FB := Lib.hid (fun W => form_any b W (by omega))
 have CA := Lib.hid (fun W => check_any a W (by omega))
 have CB := Lib.hid (fun W => check_any b W (by omega))
 have GC := Lib.hid (fun W => gcd_ok a b W (by omega) (by omega) hi hj)
 have RA : Hid (formErr (bl a) = 0) := by show _ = _; rw [formErr, if_pos hca]
 have RB : Hid (formErr (bl b) = 0) := by show _ = _; rw [formErr, if_pos hcb]
 have hp := canonI_pos hcb
 obtain ⟨c, hc⟩ : ∃ c, b[0] = c := ⟨_, rfl⟩
 have h4 : ((c.toNat : Int) == 45) = false := by
  rw [bl_cons b hp, hc] at h45
  simpa using fun hh : (c.toNat : Int) = 45 => h45 (by rw [UInt8.toNat_inj.1 (by simpa using (by omega : c.toNat = 45) : c.toNat = (45 : UInt8).toNat)]; rfl)
 have n0 := ne_lit h0
 have n1 := ne_lit h1
 have IA := Lib.hid hi
 have IB := Lib.hid hj
 have Hg := Lib.hid hg
 clear hca hcb h45 h0 h1 ha hi hj hg
 go_enter Tryz.func155, Tryz.ntmps155
 go_wp2_with fail
 refine (HS.out _).mono ?_
 rintro e w' ⟨rfl, n, rfl⟩
 go_wp2_with fail
 refine (FA.out _).mono ?_
 rintro e w' ⟨rfl, rfl⟩
 rw [RA.out]
 go_wp2_with fail
 refine (FB.out _).mono ?_
 rintro e w' ⟨rfl, rfl⟩
 rw [RB.out]
 go_wp2_with fail
 refine (CA.out _).mono ?_
 rintro e w' ⟨rfl, rfl⟩
 rw [IA.out]
 go_wp2_with fail
 refine (CB.out _).mono ?_
 rintro e w' ⟨rfl, rfl⟩
 rw [IB.out]
 go_wp2_with fail
 refine (GC.out _).mono ?_
 rintro e w' ⟨t, rfl, ht, hbel⟩
 have et := eq_lit (b := t) (x := 49) (by rw [ht]; exact (istr_one _).2 Hg.out)
 subst et
 clear ht
 have HB : Hid (Below w.heap.size w w') := (below_drewN (Below.refl _ _) _).trans hbel
 clear hbel
 go_wp2
 go_ret
 exact ⟨rfl, HB.out⟩
theorem frac_any (s a b : ByteArray) (w : World) (HS : Hid (∀ W, Calls Tryz.prog 161 #[.string s] W (CutPost W a b true))) (ha : a.size ≤ 4611686018427387904) (hb : b.size ≤ 4611686018427387904) :
  Calls Tryz.prog 155 #[.string s] w (RatPost w (fracErr (bl a) (bl b))) := by
 unfold fracErr
 split
 ·next h => exact frac_a s a b w HS ha hb h
 next h1 =>
 have hca : canonI (bl a) = true := by simpa using h1
 split
 ·next h => exact frac_b s a b w HS ha hb hca h
 next h2 =>
 have hcb : canonI (bl b) = true := by simpa using h2
 split
 ·next h => exact frac_neg s a b w HS ha hb hca hcb h
 next h3 =>
 split
 ·next h => exact frac_zero s a b w HS ha hb hca hcb h
 next h4 =>
 split
 ·next h => exact frac_one s a b w HS ha hb hca hcb h
 next h5 =>
 split
 ·next h => exact frac_big_a s a b w HS ha hb hca hcb h3 h4 h5 h
 next h6 =>
 have hi : intErr (bl a) = 0 := by simpa using h6
 split
 ·next h => exact frac_big_b s a b w HS ha hb hca hcb h3 h4 h5 hi h
 next h7 =>
 have hj : intErr (bl b) = 0 := by simpa using h7
 split
 ·next h => exact frac_good s a b w HS ha hb hca hcb h3 h4 h5 hi hj h
 next h8 => exact frac_gcd s a b w HS ha hb hca hcb h3 h4 h5 hi hj h8
theorem rat_any (s : ByteArray) (w : World) (hs : s.size ≤ 4611686018427387904) :
  Calls Tryz.prog 155 #[.string s] w (RatPost w (ratErr s)) := by
 rcases slash_cases s with h | ⟨o, h, ho⟩
 ·exact rat_none s w hs h
 ·have e : ratErr s = fracErr (bl (s.extract 0 o)) (bl (s.extract (o + 1) s.size)) := by
   rw [ratErr, if_neg (by rw [h]; omega), h, bl_drop, bl_extract]
   rfl
  rw [e]
  refine frac_any s _ _ w (Lib.hid (fun W => split_some s W o h ho hs)) ?_ ?_
  ·rw [← bl_length, bl_extract, List.length_take]; omega
  ·rw [← bl_length, bl_drop, List.length_drop, bl_length]; omega
end Go.Proofs.YtkonookacfmfgaaGreatDoor
