/-
  integer.Gcd. integer.Add and Mul.  Printed by tools/geniops.py. novationref01.Digits.  Printed by tools/genrefdig.py. Texts of numbers: plain facts. integer.Compare. rational.form. rational.Check where there is no slash.
-/
import Derived.Test.YtknpnhodpgajbaaGreatDoorE06
import Derived.Test.YtknpnhodpgajbaaGreatDoorE08
import Derived.Test.YtknpnhodpgajbaaGreatDoorE05
import Derived.Test.YtknpnhodpgajbaaGreatDoorE04
import Derived.Test.YtknpnhodpgajbaaGreatDoorE02
import Derived.Test.YtknpnhodpgajbaaGreatDoorE03
import Derived.Test.YtknpnhodpgajbaaGreatDoorE01
namespace Go.Proofs.YtknpnhodpgajbaaGreatDoor
open Go.RowKit
def GcdErr (w:World) (er:Int) (e:Ending) (w':World):Prop:=e = .returned (.tuple #[.string ⟨#[]⟩,.int .i64 er])∧Below w.heap.size w w'
def GcdOk (w:World) (n:Nat) (e:Ending) (w':World):Prop:=∃ t,e = .returned (.tuple #[.string t,.int .i64 0])∧bl t=istr false n∧Below w.heap.size w w'
def ten (k:Nat):Nat:=10 ^ k
theorem ten_mono {a b:Nat} (h:a≤b):ten a≤ten b:=Nat.pow_le_pow_right (by decide) h
theorem ten_grp (k:Nat):ten (9 * k)=1000000000 ^ k:=by rw [ten,Nat.pow_mul]
theorem dval_ten {l:List UInt8} (h:l.all isDig=true):dval l < ten l.length:=dval_lt l h
theorem dig10_ten {n k:Nat} (h:n < ten k):(dig10 n).length≤k:=dig10_le h
theorem grp_ten {xs:List Nat} {k:Nat} (h:Nrm 1000000000 xs) (hv:val 1000000000 xs < ten (9 * k)):xs.length≤k:=h.length_le (by decide) k (by rw [← ten_grp];exact hv)
theorem dval_body_lt {l:List UInt8} (h:intErr l=0):dval (body l) < ten 1000:=by
 obtain ⟨h1,h2⟩:=intErr_zero h
 rw [canonI,canonD] at h1
 simp only [Bool.and_eq_true] at h1
 exact Nat.lt_of_lt_of_le (dval_ten h1.1.2) (ten_mono h2)
theorem gcd_lt {x y:Nat} (hx:x < ten 1000) (hy:y < ten 1000):Nat.gcd x y < ten 1000:=by
 by_cases h:x=0
 ·subst h;rw [Nat.gcd_zero_left];exact hy
 ·exact Nat.lt_of_le_of_lt (Nat.le_of_dvd (Nat.pos_of_ne_zero h) (Nat.gcd_dvd_left x y)) hx
theorem grp_len {xs:List Nat} (h:Nrm 1000000000 xs) (hv:val 1000000000 xs < ten 1000):xs.length≤112 :=
 grp_ten h (Nat.lt_of_lt_of_le hv (ten_mono (by decide)))
theorem wErr_zero {n:Nat} (h:n < ten 1000) (neg:Bool):wErr n=0∧wStr neg n=istr neg n:=by
 have:=dig10_ten h
 constructor
 ·rw [wErr,if_neg (by omega)]
 ·rw [wStr,if_neg (by omega)]
def GcdInv (N:Nat) (xs ys:List Nat):Prop:=Nrm 1000000000 xs∧Nrm 1000000000 ys∧val 1000000000 xs < ten 1000∧val 1000000000 ys < ten 1000∧Nat.gcd (val 1000000000 xs) (val 1000000000 ys)=N
set_option maxHeartbeats 2000000 in
set_option maxRecDepth 100000 in
theorem gcd_ok (a b:ByteArray) (w:World) (ha:a.size≤9223372036854775807) (hb:b.size≤9223372036854775807) (h0:intErr (bl a)=0) (h:intErr (bl b)=0) :
  Calls Tryz.prog 60 #[.string a,.string b] w (GcdOk w (Nat.gcd (dval (body (bl a))) (dval (body (bl b))))):=by
 have HC:=Lib.hid (fun W => pair_ok a b W ha hb h0 h)
 have HA:=Lib.hid (dval_body_lt h0)
 have HB:=Lib.hid (dval_body_lt h)
 clear ha hb h0 h
 go_enter Tryz.func60,Tryz.ntmps60
 go_wp2_with fail
 refine (HC.out _).mono ?_
 rintro e w1 ⟨va,vb,xs,ys,rfl,sa,sb,nx,ny,vx,vy,hb1⟩
 obtain ⟨N,hN⟩:∃ N,Nat.gcd (dval (body (bl a))) (dval (body (bl b)))=N:=⟨_,rfl⟩
 have HN:=Lib.hid hN
 have hI:Hid (GcdInv N xs ys):=⟨nx,ny,by rw [vx];exact HA.out,by rw [vy];exact HB.out,by rw [vx,vy];exact hN⟩
 have hNlt:=gcd_lt HA.out HB.out
 rw [hN] at hNlt
 have HNlt:=Lib.hid hNlt
 clear hN hNlt vx vy nx ny HC HA HB
 obtain ⟨na,hna⟩:∃ na,isNeg (bl a)=na:=⟨_,rfl⟩
 obtain ⟨nb,hnb⟩:∃ nb,isNeg (bl b)=nb:=⟨_,rfl⟩
 rw [hna,hnb]
 clear hna hnb
 obtain ⟨aa,ca,rfl,_⟩:=id sa
 obtain ⟨ab,cb,rfl,_⟩:=id sb
 have Hsa:=Lib.hid sa
 have Hsb:=Lib.hid sb
 clear sa sb
 go_wp2_with fail
 obtain ⟨W0,hW0⟩:∃ W0,W0=(w1.alloc (.cells #[.bool na,.slice aa xs.length ca] 159)).alloc (.cells #[.bool nb,.slice ab ys.length cb] 159):=⟨_,rfl⟩
 rw [← hW0]
 have hb0:Below w1.heap.size w1 W0:=by rw [hW0];exact ((Below.refl _ _).alloc (Nat.le_refl _) _).alloc (by simp) _
 have bx:Boxed2 W0 w1.heap.size 159 (.bool na) (.slice aa xs.length ca):=by
  rw [hW0]
  show ((w1.heap.push _).push _)[w1.heap.size]? = _
  rw [Array.getElem?_push,if_neg (by simp),Array.getElem?_push,if_pos rfl]
 have by1:Boxed2 W0 (w1.heap.size+1) 159 (.bool nb) (.slice ab ys.length cb):=by
  rw [hW0]
  show ((w1.heap.push _).push _)[w1.heap.size+1]? = _
  rw [Array.getElem?_push,if_pos (by simp)]
 have hbW:Below w.heap.size w W0:=hb1.trans (hb0.mono hb1.size)
 have hw1:=hb1.size
 have sa0:=Hsa.out.below hb0
 have sb0:=Hsb.out.below hb0
 clear hW0 hb0 hb1 Hsa Hsb
 go_loopg [] (val 1000000000 ys) (fun k wr => ∃ (xs ys:List Nat) (aa ab:Option Addr) (ca cb:Nat),val 1000000000 ys=k ∧
  Boxed2 wr w1.heap.size 159 (.bool na) (.slice aa xs.length ca)∧Boxed2 wr (w1.heap.size+1) 159 (.bool nb) (.slice ab ys.length cb) ∧
  Sl wr (.slice aa xs.length ca) 1 xs.length (nums .u32 xs)∧Sl wr (.slice ab ys.length cb) 1 ys.length (nums .u32 ys)∧Hid (GcdInv N xs ys)∧Below w.heap.size w wr)
 case atStart => exact ⟨xs,ys,aa,ab,ca,cb,rfl,bx,by1,sa0,sb0,hI,hbW⟩
 case round =>
  clear bx by1 sa0 sb0 hI hbW
  obtain ⟨xs,ys,aa,ab,ca,cb,hk,bx,by1,sa,sb,HI,hbel⟩:=hrel
  have Hk:=Lib.hid hk
  clear hk
  have cx:=bx.cell1
  have cy:=by1.cell1
  by_cases hy:0 < ys.length
  ·have hyne:ys ≠ []:=List.length_pos_iff.1 hy
   have HD:=Lib.hid (divide_any _ _ xs ys wr sa sb HI.out.1 HI.out.2.1 (by have:=grp_len HI.out.1 HI.out.2.2.1;omega) (by have:=grp_len HI.out.2.1 HI.out.2.2.2.1;omega) hyne)
   have Hyne:=Lib.hid hyne
   clear hyne
   go_wp2_with fail
   refine HD.out.mono ?_
   rintro e w2 ⟨vq,vr,qs,rs,rfl,sq,sr,nq,nr,eq,er,hb2⟩
   have sb2:=sb.below hb2
   have hbx:=hbel.size
   have bx2:=bx.of_block (hb2.block _ bx.lt)
   have by2:=by1.of_block (hb2.block _ by1.lt)
   obtain ⟨ar,cr,rfl,_⟩:=id sr
   have k1:=bx2.cell1
   have k2:=by2.cell1
   have f1:=bx2.frozen 1
   have f2:=by2.frozen 1
   have HI2:Hid (GcdInv N ys rs):=by
    obtain ⟨g1,g2,g3,g4,g5⟩:=HI.out
    refine ⟨g2,nr,g4,?_,?_⟩
    ·rw [er]
     exact Nat.lt_trans (Nat.mod_lt _ (Nat.pos_of_ne_zero (fun e => Hyne.out ((g2.val_zero (by decide)).1 e)))) g4
    ·rw [er,← g5,Nat.gcd_comm,← Nat.gcd_rec,Nat.gcd_comm]
   have hlt:Hid (val 1000000000 rs < val 1000000000 ys):=by
    show _ < _
    rw [er]
    exact Nat.mod_lt _ (Nat.pos_of_ne_zero (fun e => Hyne.out ((HI.out.2.1.val_zero (by decide)).1 e)))
   have hbel2:Below w.heap.size w w2:=hbel.trans (hb2.mono hbel.size)
   obtain ⟨W3,hW3⟩:∃ W3,W3=(w2.setCell ⟨w1.heap.size,1,none⟩ (.slice ab ys.length cb)).setCell ⟨w1.heap.size+1,1,none⟩ (.slice ar rs.length cr):=⟨_,rfl⟩
   have HW3:=Lib.hid hW3
   have d0:Boxed2 (w2.setCell ⟨w1.heap.size,1,none⟩ (.slice ab ys.length cb)) w1.heap.size 159 (.bool na) (.slice ab ys.length cb):=bx2.set1 _
   have d1:Boxed2 (w2.setCell ⟨w1.heap.size,1,none⟩ (.slice ab ys.length cb)) (w1.heap.size+1) 159 (.bool nb) (.slice ab ys.length cb):=by2.of_block (Below.heap_setCell _ _ _ _ (by simp))
   have e0:Boxed2 W3 w1.heap.size 159 (.bool na) (.slice ab ys.length cb):=by rw [hW3];exact d0.of_block (Below.heap_setCell _ _ _ _ (by simp))
   have e1:Boxed2 W3 (w1.heap.size+1) 159 (.bool nb) (.slice ar rs.length cr):=by rw [hW3];exact d1.set1 _
   have t1:=sl_keep_box (W':=w2.setCell ⟨w1.heap.size,1,none⟩ (.slice ab ys.length cb)) sb2 bx2 (fun j hj => Below.heap_setCell _ _ _ _ hj)
   have t2:=sl_keep_box (W':=w2.setCell ⟨w1.heap.size,1,none⟩ (.slice ab ys.length cb)) sr bx2 (fun j hj => Below.heap_setCell _ _ _ _ hj)
   have t3:=sl_keep_box (W':=W3) t1 d1 (fun j hj => by rw [hW3];exact Below.heap_setCell _ _ _ _ hj)
   have t4:=sl_keep_box (W':=W3) t2 d1 (fun j hj => by rw [hW3];exact Below.heap_setCell _ _ _ _ hj)
   have hbel3:Below w.heap.size w W3:=by
    rw [hW3]
    exact (hbel2.setCell (p:=⟨w1.heap.size,1,none⟩) (by simp;omega) _).setCell (p:=⟨w1.heap.size+1,1,none⟩) (by simp;omega) _
   have HE:=Lib.hid (And.intro e0 (And.intro e1 (And.intro t3 (And.intro t4 hbel3))))
   clear hW3 d0 d1 e0 e1 t1 t2 t3 t4 hbel3 hbel2 bx2 by2 sb2 sr sq eq er nq nr hb2 hbel sa sb bx by1 cx cy HD
   go_wp2
   rw [← HW3.out]
   go_roundg (val 1000000000 rs)
   case measure => rw [← Hk.out];exact hlt.out
   case rel => exact ⟨ys,rs,ab,ar,cb,cr,rfl,HE.out.1,HE.out.2.1,HE.out.2.2.1,HE.out.2.2.2.1,HI2,HE.out.2.2.2.2⟩
  ·have hy0:ys=[]:=List.eq_nil_of_length_eq_zero (by omega)
   have hval:val 1000000000 xs=N:=by
    have e:=HI.out.2.2.2.2
    rw [hy0] at e
    simpa [val] using e
   have Hval:=Lib.hid hval
   have HWr:=Lib.hid (fun W (hS:Sl W (.slice aa xs.length ca) 1 xs.length (nums .u32 xs)) => write_any false _ xs W hS HI.out.1 (by have:=grp_len HI.out.1 HI.out.2.2.1;omega))
   clear hy0 hval
   go_wp2_with fail
   refine (HWr.out _ sa).mono ?_
   rintro e w2 ⟨t,rfl,ht,hb2⟩
   rw [Hval.out] at ht ⊢
   obtain ⟨z1,z2⟩:=wErr_zero HNlt.out false
   rw [z2] at ht
   rw [z1]
   have Ht:=Lib.hid ht
   have hbel2:Below w.heap.size w w2:=hbel.trans (hb2.mono hbel.size)
   clear z1 z2 ht hb2 hbel
   go_wp2
   go_ret2
   exact ⟨t,rfl,by rw [HN.out];exact Ht.out,hbel2⟩
end Go.Proofs.YtknpnhodpgajbaaGreatDoor

namespace Go.Proofs.YtknpnhodpgajbaaGreatDoor
open Go.RowKit
def ival (l:List UInt8):Int:=sgnv (isNeg l) (dval (body l))
def zStr (z:Int):List UInt8:=wStr (decide (z < 0)) z.natAbs
def zErr (z:Int):Int:=wErr z.natAbs
theorem sgnv_abs (b:Bool) (n:Nat):(sgnv b n).natAbs=n:=by cases b <;> simp [sgnv]
theorem sgnv_neg {b:Bool} {n:Nat} (h:n ≠ 0):decide (sgnv b n < 0)=b:=by cases b <;> simp [sgnv] <;> omega
theorem wErr_sgnv (b:Bool) (n:Nat):wErr n=zErr (sgnv b n):=by rw [zErr,sgnv_abs]
theorem wStr_zero (b c:Bool):wStr b 0=wStr c 0:=by simp [wStr,istr]
theorem wStr_sgnv (b:Bool) (n:Nat):wStr b n=zStr (sgnv b n):=by
 rw [zStr,sgnv_abs]
 by_cases h:n=0
 ·subst h;exact wStr_zero _ _
 ·rw [sgnv_neg h]
def IntPost (w:World) (z:Int) (e:Ending) (w':World):Prop:=∃ t,e = .returned (.tuple #[.string t,.int .i64 (zErr z)])∧bl t=zStr z∧Below w.heap.size w w'
theorem sgnv_mul (a b:Bool) (x y:Nat):sgnv (!(a == b)) (x * y)=sgnv a x * sgnv b y:=by
 cases a <;> cases b <;> simp [sgnv,Int.neg_mul,Int.mul_neg]
theorem ten_succ (k:Nat):ten (k+1)=10 * ten k:=by rw [ten,ten,Nat.pow_succ,Nat.mul_comm]
theorem ten_add (j k:Nat):ten j * ten k=ten (j+k):=by rw [ten,ten,ten,Nat.pow_add]
theorem mul_len {rs xs ys:List Nat} (hv:val 1000000000 rs=val 1000000000 xs * val 1000000000 ys) (hn:Nrm 1000000000 rs) (hx:val 1000000000 xs < ten 1000) (hy:val 1000000000 ys < ten 1000):rs.length≤100000:=by
 refine Nat.le_trans (grp_ten (k:=223) hn ?_) (by decide)
 rw [hv]
 refine Nat.lt_of_lt_of_le (Nat.mul_lt_mul'' hx hy) ?_
 rw [ten_add]
 exact ten_mono (by decide)
theorem sum_len {neg na nb:Bool} {rs xs ys:List Nat} (hv:sgnv neg (val 1000000000 rs)=sgnv na (val 1000000000 xs)+sgnv nb (val 1000000000 ys)) (hn:Nrm 1000000000 rs) (hx:val 1000000000 xs < ten 1000) (hy:val 1000000000 ys < ten 1000):rs.length≤113:=by
 refine grp_ten hn ?_
 have h1:val 1000000000 rs≤val 1000000000 xs+val 1000000000 ys:=by
  generalize val 1000000000 rs=r at hv ⊢
  generalize val 1000000000 xs=x at hv ⊢
  generalize val 1000000000 ys=y at hv ⊢
  cases neg <;> cases na <;> cases nb <;> simp [sgnv] at hv <;> omega
 have h2:ten 1001=10 * ten 1000:=ten_succ 1000
 have h3:=ten_mono (show 1001≤9 * 113 by decide)
 omega
set_option maxHeartbeats 1000000 in
set_option maxRecDepth 100000 in
theorem iadd_err (a b:ByteArray) (w:World) (er:Int) (h:er ≠ 0) (C:∀ W,Calls Tryz.prog 119 #[.string a,.string b] W (PairErr W er)) :
  Calls Tryz.prog 134 #[.string a,.string b] w (GcdErr w er):=by
 have HC:=Lib.hid C
 have h2:(er != 0)=true:=by rw [bne_iff_ne];exact h
 clear C h
 go_enter Tryz.func134,Tryz.ntmps134
 go_wp2_with fail
 refine (HC.out _).mono ?_
 rintro e w' ⟨rfl,hbel⟩
 go_wp2
 go_ret2
 exact ⟨rfl,(hbel.alloc hbel.size _).alloc (by have:=hbel.size;simp;omega) _⟩
set_option maxHeartbeats 2000000 in
set_option maxRecDepth 100000 in
theorem iadd_ok (a b:ByteArray) (w:World) (ha:a.size≤9223372036854775807) (hb:b.size≤9223372036854775807) (h0:intErr (bl a)=0) (h:intErr (bl b)=0) :
  Calls Tryz.prog 134 #[.string a,.string b] w (IntPost w (ival (bl a)+ival (bl b))):=by
 have HC:=Lib.hid (fun W => pair_ok a b W ha hb h0 h)
 have HA:=Lib.hid (dval_body_lt h0)
 have HB:=Lib.hid (dval_body_lt h)
 clear ha hb h0 h
 go_enter Tryz.func134,Tryz.ntmps134
 go_wp2_with fail
 refine (HC.out _).mono ?_
 rintro e w1 ⟨va,vb,xs,ys,rfl,sa,sb,nx,ny,vx,vy,hb1⟩
 rw [← vx] at HA
 rw [← vy] at HB
 have HVa:Hid (ival (bl a)=sgnv (isNeg (bl a)) (val 1000000000 xs)):=by show _=_;rw [ival,vx]
 have HVb:Hid (ival (bl b)=sgnv (isNeg (bl b)) (val 1000000000 ys)):=by show _=_;rw [ival,vy]
 clear vx vy HC
 generalize isNeg (bl a)=na at *
 generalize isNeg (bl b)=nb at *
 obtain ⟨aa,ca,rfl,_⟩:=id sa
 obtain ⟨ab,cb,rfl,_⟩:=id sb
 have hb0:Below w1.heap.size w1 ((w1.alloc (.cells #[.bool na,.slice aa xs.length ca] 159)).alloc (.cells #[.bool nb,.slice ab ys.length cb] 159)):=below_a2 _ _ _
 have bx:Boxed2 ((w1.alloc (.cells #[.bool na,.slice aa xs.length ca] 159)).alloc (.cells #[.bool nb,.slice ab ys.length cb] 159)) w1.heap.size 159 (.bool na) (.slice aa xs.length ca):=(Boxed2.new _ _ _ _).alloc _
 have by1:Boxed2 ((w1.alloc (.cells #[.bool na,.slice aa xs.length ca] 159)).alloc (.cells #[.bool nb,.slice ab ys.length cb] 159)) (w1.heap.size+1) 159 (.bool nb) (.slice ab ys.length cb):=by
  have h:=Boxed2.new (w1.alloc (.cells #[.bool na,.slice aa xs.length ca] 159)) (.bool nb) (.slice ab ys.length cb) 159
  simp at h
  exact h
 have hbW:=hb1.trans (hb0.mono hb1.size)
 have sa0:=Lib.hid (sa.below hb0)
 have sb0:=Lib.hid (sb.below hb0)
 have lx:=grp_len nx HA.out
 have ly:=grp_len ny HB.out
 have x0:=bx.cell0
 have x1:=bx.cell1
 have y0:=by1.cell0
 have y1:=by1.cell1
 have BY:=Lib.hid by1
 clear bx by1 hb0 hb1 sa sb
 have HS:=Lib.hid (sum_any na nb _ _ xs ys _ sa0.out sb0.out nx ny (by omega) (by omega))
 clear nx ny
 go_wp2_with fail
 refine HS.out.mono ?_
 rintro e w2 ⟨neg,v,rs,rfl,sv,hn,hv,hb2⟩
 have hlen:rs.length≤100000:=by
  have:=sum_len hv hn HA.out HB.out;omega
 have HW:=Lib.hid (write_any neg v rs w2 sv hn hlen)
 clear HS x0 x1 y0 y1 sv hlen
 go_wp2_with fail
 refine HW.out.mono ?_
 rintro e w3 ⟨t,rfl,ht,hb3⟩
 have hE:Hid (wErr (val 1000000000 rs)=zErr (sgnv na (val 1000000000 xs)+sgnv nb (val 1000000000 ys))):=by show _=_;rw [← hv];exact wErr_sgnv _ _
 have hS:Hid (wStr neg (val 1000000000 rs)=zStr (sgnv na (val 1000000000 xs)+sgnv nb (val 1000000000 ys))):=by show _=_;rw [← hv];exact wStr_sgnv _ _
 have hbz:=hbW.trans ((hb2.mono hbW.size).trans (hb3.mono (Nat.le_trans hbW.size hb2.size)))
 rw [hE.out]
 rw [hS.out] at ht
 have Ht:=Lib.hid ht
 clear hE hS ht hv
 go_wp2
 go_ret2
 rw [HVa.out,HVb.out]
 exact ⟨t,rfl,Ht.out,hbz⟩
set_option maxHeartbeats 1000000 in
set_option maxRecDepth 100000 in
theorem imul_err (a b:ByteArray) (w:World) (er:Int) (h:er ≠ 0) (C:∀ W,Calls Tryz.prog 119 #[.string a,.string b] W (PairErr W er)) :
  Calls Tryz.prog 63 #[.string a,.string b] w (GcdErr w er):=by
 have HC:=Lib.hid C
 have h2:(er != 0)=true:=by rw [bne_iff_ne];exact h
 clear C h
 go_enter Tryz.func63,Tryz.ntmps63
 go_wp2_with fail
 refine (HC.out _).mono ?_
 rintro e w' ⟨rfl,hbel⟩
 go_wp2
 go_ret2
 exact ⟨rfl,(hbel.alloc hbel.size _).alloc (by have:=hbel.size;simp;omega) _⟩
set_option maxHeartbeats 2000000 in
set_option maxRecDepth 100000 in
theorem imul_ok (a b:ByteArray) (w:World) (ha:a.size≤9223372036854775807) (hb:b.size≤9223372036854775807) (h0:intErr (bl a)=0) (h:intErr (bl b)=0) :
  Calls Tryz.prog 63 #[.string a,.string b] w (IntPost w (ival (bl a) * ival (bl b))):=by
 have HC:=Lib.hid (fun W => pair_ok a b W ha hb h0 h)
 have HA:=Lib.hid (dval_body_lt h0)
 have HB:=Lib.hid (dval_body_lt h)
 clear ha hb h0 h
 go_enter Tryz.func63,Tryz.ntmps63
 go_wp2_with fail
 refine (HC.out _).mono ?_
 rintro e w1 ⟨va,vb,xs,ys,rfl,sa,sb,nx,ny,vx,vy,hb1⟩
 rw [← vx] at HA
 rw [← vy] at HB
 have HVa:Hid (ival (bl a)=sgnv (isNeg (bl a)) (val 1000000000 xs)):=by show _=_;rw [ival,vx]
 have HVb:Hid (ival (bl b)=sgnv (isNeg (bl b)) (val 1000000000 ys)):=by show _=_;rw [ival,vy]
 clear vx vy HC
 generalize isNeg (bl a)=na at *
 generalize isNeg (bl b)=nb at *
 obtain ⟨aa,ca,rfl,_⟩:=id sa
 obtain ⟨ab,cb,rfl,_⟩:=id sb
 have hb0:Below w1.heap.size w1 ((w1.alloc (.cells #[.bool na,.slice aa xs.length ca] 159)).alloc (.cells #[.bool nb,.slice ab ys.length cb] 159)):=below_a2 _ _ _
 have bx:Boxed2 ((w1.alloc (.cells #[.bool na,.slice aa xs.length ca] 159)).alloc (.cells #[.bool nb,.slice ab ys.length cb] 159)) w1.heap.size 159 (.bool na) (.slice aa xs.length ca):=(Boxed2.new _ _ _ _).alloc _
 have by1:Boxed2 ((w1.alloc (.cells #[.bool na,.slice aa xs.length ca] 159)).alloc (.cells #[.bool nb,.slice ab ys.length cb] 159)) (w1.heap.size+1) 159 (.bool nb) (.slice ab ys.length cb):=by
  have h:=Boxed2.new (w1.alloc (.cells #[.bool na,.slice aa xs.length ca] 159)) (.bool nb) (.slice ab ys.length cb) 159
  simp at h
  exact h
 have hbW:=hb1.trans (hb0.mono hb1.size)
 have sa0:=Lib.hid (sa.below hb0)
 have sb0:=Lib.hid (sb.below hb0)
 have lx:=grp_len nx HA.out
 have ly:=grp_len ny HB.out
 have x0:=bx.cell0
 have x1:=bx.cell1
 have y0:=by1.cell0
 have y1:=by1.cell1
 have BY:=Lib.hid by1
 clear bx by1 hb0 hb1 sa sb
 go_wp2_with fail
 obtain ⟨W0,hW0⟩:∃ W0,W0=((w1.alloc (.cells #[.bool na,.slice aa xs.length ca] 159)).alloc (.cells #[.bool nb,.slice ab ys.length cb] 159)):=⟨_,rfl⟩
 rw [← hW0] at x0 x1 y0 y1 hbW sa0 sb0 ⊢
 clear hW0 BY
 have HP:Hid (∀ W,Ext W0 W→Calls Tryz.prog 124 #[.slice aa xs.length ca,.slice ab ys.length cb] W fun e w' => ∃ ad c rs,e = .returned (.slice ad rs.length c)∧Hid (Sl w' (.slice ad rs.length c) 1 rs.length (nums .u32 rs)∧Nrm 1000000000 rs∧rs.length≤100000∧val 1000000000 rs=val 1000000000 xs * val 1000000000 ys)∧Ext W0 w'∧Below W.heap.size W w'):=by
  intro W hx
  refine (times_any _ _ xs ys W (sa0.out.below hx) (sb0.out.below hx) nx.1 ny.1 (by omega) (by omega)).mono ?_
  rintro e w' ⟨v,rs,rfl,⟨own,hn,hb1⟩,hv⟩
  have sl:=Sl.of_owns own
  obtain ⟨ad,c,rfl,_⟩:=id sl
  exact ⟨ad,c,rs,rfl,⟨sl,hn,mul_len hv hn HA.out HB.out,hv⟩,Below.trans hx (hb1.mono (Below.size hx)),hb1⟩
 have HZ:Hid (∀ W,Ext W0 W→W.cell? ⟨w1.heap.size,0,none⟩=some (.bool na)∧W.cell? ⟨w1.heap.size,1,none⟩=some (.slice aa xs.length ca)∧W.cell? ⟨w1.heap.size+1,0,none⟩=some (.bool nb)∧W.cell? ⟨w1.heap.size+1,1,none⟩=some (.slice ab ys.length cb)):=fun W hx => ⟨Ext.cell hx x0,Ext.cell hx x1,Ext.cell hx y0,Ext.cell hx y1⟩
 have hx0:Ext W0 W0.drew:=Below.drew (Below.refl _ _)
 clear nx ny
 go_region_held3 (fun w' => w'.cell? ⟨w1.heap.size,0,none⟩=some (.bool na)∧w'.cell? ⟨w1.heap.size,1,none⟩=some (.slice aa xs.length ca)∧w'.cell? ⟨w1.heap.size+1,0,none⟩=some (.bool nb)∧w'.cell? ⟨w1.heap.size+1,1,none⟩=some (.slice ab ys.length cb))
  (first | assumption | exact ⟨by assumption,by assumption,by assumption,by assumption⟩ | go_keep)
  (first | (go_at_call 124;refine (HP.out _ hx0).mono ?_;rintro e w2 ⟨ad2,cap2,rs2,rfl,own2,hx2,hb2⟩;obtain ⟨p1,p2,p3,p4⟩:=HZ.out _ hx2) | (go_at_call 121;refine (write_any _ _ rs2 _ own2.out.1 own2.out.2.1 own2.out.2.2.1).mono ?_;rintro e w3 ⟨t,rfl,ht,hb3⟩;have hx3:=Below.trans hx2 (hb3.mono (Below.size hx2));obtain ⟨p1,p2,p3,p4⟩:=HZ.out _ hx3))
 have hv:=own2.out.2.2.2
 have hE:Hid (wErr (val 1000000000 rs2)=zErr (sgnv na (val 1000000000 xs) * sgnv nb (val 1000000000 ys))):=by show _=_;rw [← sgnv_mul,← hv];exact wErr_sgnv _ _
 have hS:Hid (wStr (!(na == nb)) (val 1000000000 rs2)=zStr (sgnv na (val 1000000000 xs) * sgnv nb (val 1000000000 ys))):=by show _=_;rw [← sgnv_mul,← hv];exact wStr_sgnv _ _
 have hbz:=hbW.trans (Below.mono hx3 hbW.size)
 rw [hE.out]
 rw [hS.out] at ht
 have Ht:=Lib.hid ht
 clear hE hS ht hv
 go_wp2
 go_ret2
 rw [HVa.out,HVb.out]
 exact ⟨t,rfl,Ht.out,hbz⟩
def pairErr (a b:List UInt8):Int:=if intErr a ≠ 0 then intErr a else intErr b
def OpPost (w:World) (a b:List UInt8) (z:Int) (e:Ending) (w':World):Prop:=if pairErr a b=0 then IntPost w z e w' else GcdErr w (pairErr a b) e w'
theorem pairErr_a {a b:List UInt8} (h0:intErr a ≠ 0):pairErr a b=intErr a:=by rw [pairErr,if_pos h0]
theorem pairErr_b {a b:List UInt8} (h0:intErr a=0):pairErr a b=intErr b:=by rw [pairErr,if_neg (fun h => h h0)]
theorem opPost_ok {w:World} {a b:List UInt8} {z:Int} {e:Ending} {w':World} (h0:intErr a=0) (h:intErr b=0) (k:IntPost w z e w'):OpPost w a b z e w':=by
 rw [OpPost,pairErr_b h0,if_pos h];exact k
theorem opPost_err2 {w:World} {a b:List UInt8} {z:Int} {e:Ending} {w':World} (h0:intErr a=0) (h:intErr b ≠ 0) (k:GcdErr w (intErr b) e w'):OpPost w a b z e w':=by
 rw [OpPost,pairErr_b h0,if_neg h];exact k
theorem opPost_err1 {w:World} {a b:List UInt8} {z:Int} {e:Ending} {w':World} (h0:intErr a ≠ 0) (k:GcdErr w (intErr a) e w'):OpPost w a b z e w':=by
 rw [OpPost,pairErr_a h0,if_neg h0];exact k
theorem iadd_any (a b:ByteArray) (w:World) (ha:a.size≤9223372036854775807) (hb:b.size≤9223372036854775807) :
  Calls Tryz.prog 134 #[.string a,.string b] w (OpPost w (bl a) (bl b) (ival (bl a)+ival (bl b))):=by
 by_cases h0:intErr (bl a)=0
 ·by_cases h:intErr (bl b)=0
  ·exact (iadd_ok a b w ha hb h0 h).mono fun e w' k => opPost_ok h0 h k
  ·exact (iadd_err a b w _ h (fun W => pair_err2 a b W ha hb h0 h)).mono fun e w' k => opPost_err2 h0 h k
 ·exact (iadd_err a b w _ h0 (fun W => pair_err1 a b W ha h0)).mono fun e w' k => opPost_err1 h0 k
theorem imul_any (a b:ByteArray) (w:World) (ha:a.size≤9223372036854775807) (hb:b.size≤9223372036854775807) :
  Calls Tryz.prog 63 #[.string a,.string b] w (OpPost w (bl a) (bl b) (ival (bl a) * ival (bl b))):=by
 by_cases h0:intErr (bl a)=0
 ·by_cases h:intErr (bl b)=0
  ·exact (imul_ok a b w ha hb h0 h).mono fun e w' k => opPost_ok h0 h k
  ·exact (imul_err a b w _ h (fun W => pair_err2 a b W ha hb h0 h)).mono fun e w' k => opPost_err2 h0 h k
 ·exact (imul_err a b w _ h0 (fun W => pair_err1 a b W ha h0)).mono fun e w' k => opPost_err1 h0 k
end Go.Proofs.YtknpnhodpgajbaaGreatDoor

namespace Go.Proofs.YtknpnhodpgajbaaGreatDoor
open Go.RowKit
def rdig (l:List UInt8):List Nat:=(l.map fun c => c.toNat - 48).reverse
theorem rdig_cons (c:UInt8) (l:List UInt8):rdig (c :: l)=rdig l ++ [c.toNat - 48]:=by simp [rdig]
theorem rdig_val (l:List UInt8):val 10 (rdig l)=dval l:=by
 refine Nat.rec (motive:=fun n => ∀ m:List UInt8,m.length=n→val 10 (rdig m)=dval m) ?_ ?_ l.length l rfl
 ·intro m hm;rw [List.eq_nil_of_length_eq_zero hm];rfl
 ·intro n ih m hm
  rcases List.eq_nil_or_concat m with rfl | ⟨m,c,rfl⟩
  ·rfl
  ·rw [List.concat_eq_append] at hm ⊢
   have e:rdig (m ++ [c])=(c.toNat - 48) :: rdig m:=by simp [rdig]
   rw [e,dval_snoc,val,ih m (by simp at hm;exact hm)]
   omega
theorem rdig_dig {l:List UInt8} (h:l.all isDig=true):Dig 10 (rdig l):=by
 intro x hx
 simp only [rdig,List.mem_reverse,List.mem_map] at hx
 obtain ⟨c,hc,rfl⟩:=hx
 have:=List.all_eq_true.1 h c hc
 simp [isDig] at this
 omega
end Go.Proofs.YtknpnhodpgajbaaGreatDoor

namespace Go.Proofs.YtknpnhodpgajbaaGreatDoor
open Go.RowKit
theorem ofNat_dig {d:Nat} (h:d < 10):(UInt8.ofNat (48+d)).toNat=48+d:=by
 rw [UInt8.toNat_ofNat']
 exact Nat.mod_eq_of_lt (by omega)
theorem asc_dig {D:List Nat} (h:Dig 10 D):(asc D).all isDig=true:=by
 rw [List.all_eq_true]
 intro c hc
 obtain ⟨d,hd,rfl⟩:=List.mem_map.1 hc
 have:=h d hd
 rw [isDig,ofNat_dig this];simp;omega
theorem rdig_asc {D:List Nat} (h:Dig 10 D):rdig (asc D.reverse)=D:=by
 have e:(asc D.reverse).map (fun c => c.toNat - 48)=D.reverse:=by
  rw [asc,List.map_map]
  conv => rhs;rw [← List.map_id D.reverse]
  apply List.map_congr_left
  intro d hd
  have:=h d (List.mem_reverse.1 hd)
  simp only [Function.comp,ofNat_dig this,id];omega
 rw [rdig,e,List.reverse_reverse]
theorem dval_asc {D:List Nat} (h:Dig 10 D):dval (asc D.reverse)=val 10 D:=by rw [← rdig_val,rdig_asc h]
theorem Dig.rev {D:List Nat} (h:Dig 10 D):Dig 10 D.reverse:=fun x hx => h x (List.mem_reverse.1 hx)
theorem asc_head {D:List Nat} (h:Nrm 10 D) (hne:D ≠ []):∃ c l,asc D.reverse=c :: l∧c ≠ 48∧c ≠ 45:=by
 obtain ⟨d,hd⟩:∃ d,D.getLast? = some d:=by
  cases hD:D.getLast? with
  | none => exact absurd (List.getLast?_eq_none_iff.1 hD) hne
  | some d => exact ⟨d,rfl⟩
 have hd0:d ≠ 0:=fun e => h.2 (by rw [hd,e])
 have hdm:=List.mem_of_getLast? hd
 have hd10:=h.1 d hdm
 have hr:D.reverse.head? = some d:=by rw [List.head?_reverse];exact hd
 cases hR:D.reverse with
 | nil => rw [hR] at hr;cases hr
 | cons x t =>
  rw [hR] at hr
  cases hr
  refine ⟨UInt8.ofNat (48+d),asc t,rfl,?_,?_⟩
  ·intro e
   have:=congrArg UInt8.toNat e
   rw [ofNat_dig hd10] at this
   have h48:(48:UInt8).toNat=48:=rfl
   omega
  ·intro e
   have:=congrArg UInt8.toNat e
   rw [ofNat_dig hd10] at this
   have h45:(45:UInt8).toNat=45:=rfl
   omega
theorem istr_ne {n:Nat} (neg:Bool) (h:n ≠ 0):istr neg n=(if neg then [45] else []) ++ asc (dig10 n).reverse:=by rw [istr,if_neg h]
theorem body_istr {n:Nat} (neg:Bool) (h:n ≠ 0):body (istr neg n)=asc (dig10 n).reverse∧isNeg (istr neg n)=neg:=by
 obtain ⟨c,l,e,h1,h2⟩:=asc_head (dig10_nrm n) (dig10_ne h)
 rw [istr_ne neg h,e]
 cases neg <;> simp [body,isNeg,h2]
theorem dval_istr (neg:Bool) (n:Nat):dval (body (istr neg n))=n:=by
 by_cases h:n=0
 ·subst h;cases neg <;> decide
 ·rw [(body_istr neg h).1,dval_asc (dig10_nrm n).1,dig10_val]
theorem isNeg_istr (neg:Bool) (n:Nat):isNeg (istr neg n)=(neg && decide (n ≠ 0)):=by
 by_cases h:n=0
 ·subst h;cases neg <;> decide
 ·rw [(body_istr neg h).2];simp [h]
theorem canon_istr (neg:Bool) (n:Nat):canonI (istr neg n)=true:=by
 by_cases h:n=0
 ·subst h;cases neg <;> decide
 ·obtain ⟨c,l,e,h1,h2⟩:=asc_head (dig10_nrm n) (dig10_ne h)
  have ha:=asc_dig (dig10_nrm n).1.rev
  rw [canonI,(body_istr neg h).1,(body_istr neg h).2,canonD,ha,e]
  simp [h1]
theorem len_istr (neg:Bool) (n:Nat):(body (istr neg n)).length=if n=0 then 1 else (dig10 n).length:=by
 by_cases h:n=0
 ·subst h;cases neg <;> decide
 ·rw [(body_istr neg h).1,if_neg h];simp [asc]
theorem intErr_istr (neg:Bool) (n:Nat):intErr (istr neg n)=wErr n:=by
 rw [intErr,if_pos (canon_istr neg n),len_istr,wErr]
 by_cases h:n=0
 ·subst h;rfl
 ·rw [if_neg h]
theorem ival_istr (neg:Bool) (n:Nat):ival (istr neg n)=sgnv neg n:=by
 rw [ival,dval_istr,isNeg_istr]
 by_cases h:n=0
 ·subst h;cases neg <;> rfl
 ·simp [h]
theorem asc_rdig {d:List UInt8} (h:d.all isDig=true):asc (rdig d).reverse=d:=by
 rw [rdig,List.reverse_reverse,asc,List.map_map]
 conv => rhs;rw [← List.map_id d]
 apply List.map_congr_left
 intro c hc
 have h1:=(List.all_eq_true.1 h) c hc
 simp [isDig] at h1
 simp only [Function.comp,id]
 apply UInt8.toNat_inj.1
 rw [UInt8.toNat_ofNat']
 have:=c.toNat_lt
 rw [Nat.mod_eq_of_lt (by omega)]
 omega
theorem canonD_text {d:List UInt8} {neg:Bool} (h:canonD d neg=true):istr neg (dval d)=(if neg then [45] else []) ++ d:=by
 rw [canonD] at h
 simp only [Bool.and_eq_true,Bool.not_eq_true'] at h
 obtain ⟨⟨h1,h2⟩,h3⟩:=h
 cases d with
 | nil => simp at h1
 | cons c t =>
  by_cases hc:c=48
  ·subst hc
   simp at h3
   obtain ⟨h3,rfl⟩:=h3
   obtain rfl:t=[]:=h3
   rfl
  ·have hN:Nrm 10 (rdig (c :: t)):=by
    refine ⟨rdig_dig h2,?_⟩
    rw [rdig_cons,List.getLast?_append]
    simp
    have h4:=(List.all_eq_true.1 h2) c (by simp)
    simp [isDig] at h4
    intro e
    apply hc
    apply UInt8.toNat_inj.1
    show c.toNat=48
    omega
   have hne:rdig (c :: t) ≠ []:=by rw [rdig_cons];simp
   have hv:dval (c :: t) ≠ 0:=by
    rw [← rdig_val];exact fun e => hne ((hN.val_zero (by decide)).1 e)
   rw [istr_ne neg hv,← rdig_val,dig10_of hN,asc_rdig h2]
theorem canon_text {l:List UInt8} (h:canonI l=true):istr (isNeg l) (dval (body l))=l:=by
 rw [canonI] at h
 rw [canonD_text h]
 cases l with
 | nil => rfl
 | cons c t =>
  by_cases hc:c=45
  ·subst hc;rfl
  ·simp [isNeg,body,hc]
end Go.Proofs.YtknpnhodpgajbaaGreatDoor

namespace Go.Proofs.YtknpnhodpgajbaaGreatDoor
open Go.RowKit
def sgnZ (a b:Int):Int:=if a < b then -1 else if a=b then 0 else 1
theorem neg_nz {l:List UInt8} (h:canonI l=true) (hn:isNeg l=true):dval (body l) ≠ 0:=by
 intro h0
 have e:=canon_text h
 rw [hn,h0] at e
 have:l=[48]:=by rw [← e];rfl
 rw [this] at hn
 exact absurd hn (by decide)
theorem sgnZ_ff (a b:Nat):sgnZ (sgnv false a) (sgnv false b)=sgn a b:=by
 simp only [sgnZ,sgnv,sgn,Bool.false_eq_true,if_false]
 rcases Nat.lt_trichotomy a b with h | h | h
 ·rw [if_pos (by omega),if_pos h]
 ·rw [if_neg (by omega),if_pos (by omega),if_neg (by omega),if_pos h]
 ·rw [if_neg (by omega),if_neg (by omega),if_neg (by omega),if_neg (by omega)]
theorem sgnZ_tt (a b:Nat):sgnZ (sgnv true a) (sgnv true b)=sgn b a:=by
 simp only [sgnZ,sgnv,sgn,if_true]
 rcases Nat.lt_trichotomy a b with h | h | h
 ·rw [if_neg (by omega),if_neg (by omega),if_neg (by omega),if_neg (by omega)]
 ·rw [if_neg (by omega),if_pos (by omega),if_neg (by omega),if_pos (by omega)]
 ·rw [if_pos (by omega),if_pos h]
theorem sgnZ_tf (a b:Nat) (h:a ≠ 0):sgnZ (sgnv true a) (sgnv false b) = -1:=by
 simp only [sgnZ,sgnv,if_true,Bool.false_eq_true,if_false]
 rw [if_pos (by omega)]
theorem sgnZ_ft (a b:Nat) (h:b ≠ 0):sgnZ (sgnv false a) (sgnv true b)=1:=by
 simp only [sgnZ,sgnv,if_true,Bool.false_eq_true,if_false]
 rw [if_neg (by omega),if_neg (by omega)]
set_option maxHeartbeats 2000000 in
set_option maxRecDepth 100000 in
theorem icmp_ok (a b:ByteArray) (w:World) (ha:a.size≤9223372036854775807) (hb:b.size≤9223372036854775807) (h0:intErr (bl a)=0) (h:intErr (bl b)=0) :
  Calls Tryz.prog 64 #[.string a,.string b] w fun e w' => e = .returned (.tuple #[.int .i64 (sgnZ (ival (bl a)) (ival (bl b))),.int .i64 0])∧Below w.heap.size w w':=by
 have HC:=Lib.hid (fun W => pair_ok a b W ha hb h0 h)
 have HA:=Lib.hid (dval_body_lt h0)
 have HB:=Lib.hid (dval_body_lt h)
 have HNa:=Lib.hid (fun k => neg_nz (intErr_zero h0).1 k)
 have HNb:=Lib.hid (fun k => neg_nz (intErr_zero h).1 k)
 clear ha hb h0 h
 go_enter Tryz.func64,Tryz.ntmps64
 go_wp2_with fail
 refine (HC.out _).mono ?_
 rintro e w1 ⟨va,vb,xs,ys,rfl,sa,sb,nx,ny,vx,vy,hb1⟩
 rw [← vx] at HA HNa
 rw [← vy] at HB HNb
 have HVa:Hid (ival (bl a)=sgnv (isNeg (bl a)) (val 1000000000 xs)):=by show _=_;rw [ival,vx]
 have HVb:Hid (ival (bl b)=sgnv (isNeg (bl b)) (val 1000000000 ys)):=by show _=_;rw [ival,vy]
 clear vx vy HC
 generalize isNeg (bl a)=na at *
 generalize isNeg (bl b)=nb at *
 obtain ⟨aa,ca,rfl,_⟩:=id sa
 obtain ⟨ab,cb,rfl,_⟩:=id sb
 have hb0:Below w1.heap.size w1 ((w1.alloc (.cells #[.bool na,.slice aa xs.length ca] 159)).alloc (.cells #[.bool nb,.slice ab ys.length cb] 159)):=below_a2 _ _ _
 have hbW:=hb1.trans (hb0.mono hb1.size)
 have lx:=grp_len nx HA.out
 have ly:=grp_len ny HB.out
 have HS1:=Lib.hid (compare_any _ _ xs ys _ (sa.below hb0) (sb.below hb0) nx ny (by omega) (by omega))
 have HS2:=Lib.hid (compare_any _ _ ys xs _ (sb.below hb0) (sa.below hb0) ny nx (by omega) (by omega))
 clear sa sb hb1 hb0 nx ny lx ly
 cases na <;> cases nb
 ·have HF:Hid (sgnZ (ival (bl a)) (ival (bl b))=sgn (val 1000000000 xs) (val 1000000000 ys)):=by show _=_;rw [HVa.out,HVb.out];exact sgnZ_ff _ _
  clear HVa HVb HNa HNb HA HB HS2
  go_wp2_with fail
  refine HS1.out.mono ?_
  rintro e w2 ⟨rfl,n,rfl⟩
  go_wp2
  go_ret2
  exact ⟨by rw [HF.out];rfl,below_drewN hbW _⟩
 ·have HF:Hid (sgnZ (ival (bl a)) (ival (bl b))=1):=by show _=_;rw [HVa.out,HVb.out];exact sgnZ_ft _ _ (HNb.out rfl)
  clear HVa HVb HNa HNb HA HB HS2 HS1
  go_wp2
  go_ret2
  exact ⟨by rw [HF.out];rfl,hbW⟩
 ·have HF:Hid (sgnZ (ival (bl a)) (ival (bl b)) = -1):=by show _=_;rw [HVa.out,HVb.out];exact sgnZ_tf _ _ (HNa.out rfl)
  clear HVa HVb HNa HNb HA HB HS2 HS1
  go_wp2
  go_ret2
  exact ⟨by rw [HF.out];rfl,hbW⟩
 ·have HF:Hid (sgnZ (ival (bl a)) (ival (bl b))=sgn (val 1000000000 ys) (val 1000000000 xs)):=by show _=_;rw [HVa.out,HVb.out];exact sgnZ_tt _ _
  clear HVa HVb HNa HNb HA HB HS1
  go_wp2_with fail
  refine HS2.out.mono ?_
  rintro e w2 ⟨rfl,n,rfl⟩
  go_wp2
  go_ret2
  exact ⟨by rw [HF.out];rfl,below_drewN hbW _⟩
end Go.Proofs.YtknpnhodpgajbaaGreatDoor

namespace Go.Proofs.YtknpnhodpgajbaaGreatDoor
open Go.RowKit
set_option maxHeartbeats 400000 in
set_option maxRecDepth 100000 in
theorem form_any (s:ByteArray) (w:World) (hl:s.size≤9223372036854775807) :
  Calls Tryz.prog 58 #[.string s] w fun e w' => e = .returned (.int .i64 (formErr (bl s)))∧w=w':=by
 have C:=check_any s w hl
 have HF:Hid (formErr (bl s)=if intErr (bl s)=14 then 0 else intErr (bl s)):=by
  show _=_
  unfold formErr intErr
  split <;> split <;> simp_all
 obtain ⟨E,hE⟩:∃ E,intErr (bl s)=E:=⟨_,rfl⟩
 obtain ⟨F,hF⟩:∃ F,formErr (bl s)=F:=⟨_,rfl⟩
 rw [hE] at C HF
 rw [hF] at HF ⊢
 have HC:=Lib.hid C
 clear C hE hF hl
 by_cases h:E=14
 ·subst h
  have e:F=0:=HF.out
  subst e
  clear HF
  go_enter Tryz.func58,Tryz.ntmps58
  go_wp2_with fail
  refine HC.out.mono ?_
  rintro e w' ⟨rfl,rfl⟩
  go_wp2
  go_ret
  exact ⟨rfl,rfl⟩
 ·have e:F=E:=by have:=HF.out;rw [if_neg h] at this;exact this
  subst e
  clear HF
  have d1:(F != 14)=true:=by simpa using h
  have d2:(F == 14)=false:=by simpa using h
  go_enter Tryz.func58,Tryz.ntmps58
  go_wp2_with fail
  refine HC.out.mono ?_
  rintro e w' ⟨rfl,rfl⟩
  go_wp2
  go_ret
  exact ⟨rfl,rfl⟩
end Go.Proofs.YtknpnhodpgajbaaGreatDoor

namespace Go.Proofs.YtknpnhodpgajbaaGreatDoor
open Go.RowKit
def RatPost (w:World) (v:Int) (e:Ending) (w':World):Prop:=e = .returned (.int .i64 v)∧Below w.heap.size w w'
set_option maxHeartbeats 1000000 in
set_option maxRecDepth 100000 in
theorem rat_none (s:ByteArray) (w:World) (hl:s.size≤4611686018427387904) (h:slashI s = -1) :
  Calls Tryz.prog 21 #[.string s] w (RatPost w (ratErr s)):=by
 have e:ratErr s=intErr (bl s):=by rw [ratErr,if_pos h]
 have C1:=Lib.hid (fun W => split_none s W h)
 have C2:=Lib.hid (fun W => form_any s W (by omega))
 have C3:=Lib.hid (fun W => check_any s W (by omega))
 rw [e]
 have Hn:=Lib.hid (intErr_of_not (l:=bl s))
 have Hc:=Lib.hid (intErr_of (l:=bl s))
 clear e h hl
 by_cases hc:canonI (bl s)=true
 ·have f0:formErr (bl s)=0:=by rw [formErr,if_pos hc]
  have Hf:=Lib.hid f0
  by_cases h0:intErr (bl s)=0
  ·have Hi:=Lib.hid h0
   clear hc f0 h0
   rw [Hi.out]
   go_enter Tryz.func21,Tryz.ntmps21
   go_wp2_with fail
   refine (C1.out _).mono ?_
   rintro e w' ⟨rfl,n,rfl⟩
   go_wp2_with fail
   refine (C2.out _).mono ?_
   rintro e w' ⟨rfl,rfl⟩
   rw [Hf.out]
   go_wp2_with fail
   refine (C3.out _).mono ?_
   rintro e w' ⟨rfl,rfl⟩
   rw [Hi.out]
   go_wp2
   go_ret
   exact ⟨rfl,below_drewN (Below.refl _ _) _⟩
  ·have Hi:=Lib.hid (intErr_of hc h0)
   clear hc f0 h0
   rw [Hi.out]
   go_enter Tryz.func21,Tryz.ntmps21
   go_wp2_with fail
   refine (C1.out _).mono ?_
   rintro e w' ⟨rfl,n,rfl⟩
   go_wp2_with fail
   refine (C2.out _).mono ?_
   rintro e w' ⟨rfl,rfl⟩
   rw [Hf.out]
   go_wp2_with fail
   refine (C3.out _).mono ?_
   rintro e w' ⟨rfl,rfl⟩
   rw [Hi.out]
   go_wp2
   go_ret
   exact ⟨rfl,below_drewN (Below.refl _ _) _⟩
 ·have hc':canonI (bl s)=false:=by simpa using hc
  have Hf:Hid (formErr (bl s)=12):=by show _=_;rw [formErr,if_neg hc]
  have Hi:=Lib.hid (intErr_of_not hc')
  clear hc hc'
  rw [Hi.out]
  go_enter Tryz.func21,Tryz.ntmps21
  go_wp2_with fail
  refine (C1.out _).mono ?_
  rintro e w' ⟨rfl,n,rfl⟩
  go_wp2_with fail
  refine (C2.out _).mono ?_
  rintro e w' ⟨rfl,rfl⟩
  rw [Hf.out]
  go_wp2
  go_ret
  exact ⟨rfl,below_drewN (Below.refl _ _) _⟩
end Go.Proofs.YtknpnhodpgajbaaGreatDoor
