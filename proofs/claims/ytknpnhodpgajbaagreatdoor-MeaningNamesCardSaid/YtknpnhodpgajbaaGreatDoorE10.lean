/-
  rational.Check where there is a slash. rational.Parts; the parts of a rational.  Printed by tools/genparts.py. integer.DivMod where the division comes out even.  Printed by tools/gendivmod.py. rational.Make.  Printed by tools/genmake.py.
-/
import Derived.Test.YtknpnhodpgajbaaGreatDoorE09
namespace Go.Proofs.YtknpnhodpgajbaaGreatDoor
open Go.RowKit
theorem canonI_pos {b:ByteArray} (h:canonI (bl b)=true):0 < b.size:=by
 rcases Nat.eq_zero_or_pos b.size with h0 | h0
 ·have e:bl b=[]:=List.eq_nil_of_length_eq_zero (by rw [bl_length];exact h0)
  rw [e] at h
  exact absurd h (by decide)
 ·exact h0
theorem ne_lit {b:ByteArray} {x:UInt8} (h:bl b ≠ [x]):(b.toList == [x])=false:=by
 rw [Lib.toList_data];show (bl b == [x])=false;simpa using h
theorem eq_lit {b:ByteArray} {x:UInt8} (h:bl b=[x]):b=⟨#[x]⟩:=bl_inj h
theorem lit_yes {b:ByteArray} {x:UInt8} (h:bl b=[x]):(b.toList == [x])=true:=by
 rw [Lib.toList_data];show (bl b == [x])=true;rw [h];exact beq_self_eq_true _
theorem head_45 {b:ByteArray} (hcb:canonI (bl b)=true):∃ (hp:0 < b.size) (c:UInt8),b[0]=c∧((bl b).head? = some 45→((c.toNat:Int) == 45)=true)∧((bl b).head? ≠ some 45→((c.toNat:Int) == 45)=false):=by
 have hp:=canonI_pos hcb
 refine ⟨hp,_,rfl,fun h => ?_,fun h => ?_⟩
 ·rw [bl_cons b hp] at h
  have:b[0]=45:=by simpa using h
  rw [this];rfl
 ·rw [bl_cons b hp] at h
  simpa using fun hh:(b[0].toNat:Int)=45 => h (by rw [show b[0]=45 from UInt8.toNat_inj.1 (by simpa using (by omega:b[0].toNat=45):b[0].toNat=(45:UInt8).toNat)];rfl)
set_option maxHeartbeats 4000000 in
set_option maxRecDepth 100000 in
theorem frac_any (s a b:ByteArray) (w:World) (HS:Hid (∀ W,Calls Tryz.prog 57 #[.string s] W (CutPost W a b true))) (ha:a.size≤4611686018427387904) (hb:b.size≤4611686018427387904) :
  Calls Tryz.prog 21 #[.string s] w (RatPost w (fracErr (bl a) (bl b))):=by
 have FA:=Lib.hid (fun W => form_any a W (by omega))
 have FB:=Lib.hid (fun W => form_any b W (by omega))
 have CA:=Lib.hid (fun W => check_any a W (by omega))
 have CB:=Lib.hid (fun W => check_any b W (by omega))
 have GC:=Lib.hid (fun hi hj W => gcd_ok a b W (by omega) (by omega) hi hj)
 obtain ⟨R,hR⟩:∃ R,R=fracErr (bl a) (bl b):=⟨_,rfl⟩
 rw [← hR]
 unfold fracErr at hR
 clear ha hb
 go_enter Tryz.func21,Tryz.ntmps21
 have HR:=Lib.hid hR
 clear hR
 go_wp2_with fail
 refine (HS.out _).mono ?_
 rintro e w' ⟨rfl,n,rfl⟩
 have HB:=Lib.hid (below_drewN (Below.refl w.heap.size w) n)
 clear HS
 go_wp2_with fail
 refine (FA.out _).mono ?_
 rintro e w' ⟨rfl,rfl⟩
 clear FA
 by_cases hca:canonI (bl a)=false
 ·rw [if_pos hca] at HR
  rw [show formErr (bl a)=12 by rw [formErr,if_neg (by simp [hca])]]
  clear hca
  go_wp2
  go_ret
  exact ⟨by rw [HR.out];rfl,HB.out⟩
 rw [if_neg hca] at HR
 rw [show formErr (bl a)=0 by rw [formErr,if_pos (by simpa using hca)]]
 go_wp2_with fail
 refine (FB.out _).mono ?_
 rintro e w' ⟨rfl,rfl⟩
 clear FB
 by_cases hcb:canonI (bl b)=false
 ·rw [if_pos hcb] at HR
  rw [show formErr (bl b)=12 by rw [formErr,if_neg (by simp [hcb])]]
  clear hcb hca
  go_wp2
  go_ret
  exact ⟨by rw [HR.out];rfl,HB.out⟩
 rw [if_neg hcb] at HR
 rw [show formErr (bl b)=0 by rw [formErr,if_pos (by simpa using hcb)]]
 obtain ⟨hp,c,hc,h4y,h4n⟩:=head_45 (b:=b) (by simpa using hcb)
 have HcA:Hid (canonI (bl a)=true):=Lib.hid (by simpa using hca)
 have HcB:Hid (canonI (bl b)=true):=Lib.hid (by simpa using hcb)
 clear hca hcb
 by_cases h45:(bl b).head? = some 45
 ·rw [if_pos h45] at HR
  have h4:=h4y h45
  clear h45 h4y h4n
  go_wp2
  go_ret
  exact ⟨by rw [HR.out];rfl,HB.out⟩
 rw [if_neg h45] at HR
 have h4:=h4n h45
 clear h45 h4y h4n
 by_cases h0:bl b=[48]
 ·rw [if_pos h0] at HR
  have n0:=lit_yes h0
  clear h0
  go_wp2
  go_ret
  exact ⟨by rw [HR.out];rfl,HB.out⟩
 rw [if_neg h0] at HR
 have n0:=ne_lit h0
 clear h0
 by_cases h1:bl b=[49]
 ·rw [if_pos h1] at HR
  have n1:=lit_yes h1
  clear h1
  go_wp2
  go_ret
  exact ⟨by rw [HR.out];rfl,HB.out⟩
 rw [if_neg h1] at HR
 have n1:=ne_lit h1
 clear h1
 go_wp2_with fail
 refine (CA.out _).mono ?_
 rintro e w' ⟨rfl,rfl⟩
 by_cases hi:intErr (bl a)=0
 rotate_left
 ·have E:Hid (R=14):=Lib.hid (by rw [HR.out,if_pos hi])
  rw [intErr_of HcA.out hi]
  clear hi
  go_wp2
  go_ret
  exact ⟨by rw [E.out];rfl,HB.out⟩
 have Hi:=Lib.hid hi
 rw [hi]
 clear hi
 go_wp2_with fail
 refine (CB.out _).mono ?_
 rintro e w' ⟨rfl,rfl⟩
 by_cases hj:intErr (bl b)=0
 rotate_left
 ·have E:Hid (R=14):=Lib.hid (by rw [HR.out,if_neg (by rw [Hi.out];simp),if_pos hj])
  rw [intErr_of HcB.out hj]
  clear hj
  go_wp2
  go_ret
  exact ⟨by rw [E.out];rfl,HB.out⟩
 have HC:=Lib.hid (GC.out Hi.out hj)
 have Hj:=Lib.hid hj
 rw [hj]
 clear hj GC
 go_wp2_with fail
 refine (HC.out _).mono ?_
 rintro e w' ⟨t,rfl,ht,hbel⟩
 replace HB:=Lib.hid (HB.out.trans (hbel.mono HB.out.size))
 replace HR:Hid (R=if Nat.gcd (dval (body (bl a))) (dval (body (bl b)))=1 then 0 else 12):=Lib.hid (by rw [HR.out,if_neg (by rw [Hi.out];simp),if_neg (by rw [Hj.out];simp)])
 clear hbel HC
 by_cases hg:Nat.gcd (dval (body (bl a))) (dval (body (bl b)))=1
 ·have nt:=lit_yes (b:=t) (x:=49) (by rw [ht];exact (istr_one _).2 hg)
  replace HR:=Lib.hid (HR.out.trans (if_pos hg))
  clear ht hg
  go_wp2
  go_ret
  exact ⟨by rw [HR.out];rfl,HB.out⟩
 ·have nt:=ne_lit (b:=t) (x:=49) (by rw [ht];exact fun e => hg ((istr_one _).1 e))
  replace HR:=Lib.hid (HR.out.trans (if_neg hg))
  clear ht hg
  go_wp2
  go_ret
  exact ⟨by rw [HR.out];rfl,HB.out⟩
theorem rat_any (s:ByteArray) (w:World) (hs:s.size≤4611686018427387904) :
  Calls Tryz.prog 21 #[.string s] w (RatPost w (ratErr s)):=by
 rcases slash_cases s with h | ⟨o,h,ho⟩
 ·exact rat_none s w hs h
 ·have e:ratErr s=fracErr (bl (s.extract 0 o)) (bl (s.extract (o+1) s.size)):=by
   rw [ratErr,if_neg (by rw [h];omega),h,bl_drop,bl_extract]
   rfl
  rw [e]
  refine frac_any s _ _ w (Lib.hid (fun W => split_some s W o h ho hs)) ?_ ?_
  ·rw [← bl_length,bl_extract,List.length_take];omega
  ·rw [← bl_length,bl_drop,List.length_drop,bl_length];omega
end Go.Proofs.YtknpnhodpgajbaaGreatDoor

namespace Go.Proofs.YtknpnhodpgajbaaGreatDoor
open Go.RowKit
def numS (s:ByteArray):ByteArray:=if slashI s = -1 then s else s.extract 0 (slashI s).toNat
def denS (s:ByteArray):ByteArray:=if slashI s = -1 then ⟨#[49]⟩ else s.extract ((slashI s).toNat+1) s.size
def pN (s:ByteArray):ByteArray:=if ratErr s=0 then numS s else ⟨#[]⟩
def pD (s:ByteArray):ByteArray:=if ratErr s=0 then denS s else ⟨#[]⟩
def PartsPost (w:World) (n d:ByteArray) (er:Int) (e:Ending) (w':World):Prop:=e = .returned (.tuple #[.string n,.string d,.int .i64 er])∧Below w.heap.size w w'
theorem numS_size (s:ByteArray):(numS s).size≤s.size:=by
 unfold numS;split
 ·exact Nat.le_refl _
 ·rw [← bl_length,bl_extract,List.length_take,List.length_drop,bl_length];omega
theorem denS_size (s:ByteArray):(denS s).size≤s.size+1:=by
 unfold denS;split
 ·show 1≤_;omega
 ·rw [← bl_length,bl_drop,List.length_drop,bl_length];omega
theorem rat_parts {s:ByteArray} (h:ratErr s=0):intErr (bl (numS s))=0∧intErr (bl (denS s))=0∧isNeg (bl (denS s))=false∧dval (body (bl (denS s))) ≠ 0:=by
 rcases slash_cases s with h1 | ⟨o,h1,ho⟩
 ·rw [ratErr,if_pos h1] at h
  unfold numS denS
  rw [if_pos h1,if_pos h1]
  exact ⟨h,by decide,by decide,by decide⟩
 ·have hne : ¬ slashI s = -1:=by rw [h1];omega
  rw [ratErr,if_neg hne,h1] at h
  unfold numS denS
  rw [if_neg hne,if_neg hne,h1,bl_extract,bl_drop]
  rw [Int.toNat_natCast] at h ⊢
  rw [List.drop_zero,Nat.sub_zero]
  generalize (bl s).take o=n at h ⊢
  generalize (bl s).drop (o+1)=d at h ⊢
  unfold fracErr at h
  split at h
  ·cases h
  ·split at h
   ·cases h
   ·split at h
    ·cases h
    ·split at h
     ·cases h
     ·rename_i c1 c2 c3 c4
      have c5:d ≠ [49]:=fun e => by rw [if_pos e] at h;cases h
      rw [if_neg c5] at h
      have hn:intErr n=0:=by
       rcases Int.decEq (intErr n) 0 with k | k
       ·rw [if_pos k] at h;cases h
       ·exact k
      rw [if_neg (fun k => k hn)] at h
      have hd:intErr d=0:=by
       rcases Int.decEq (intErr d) 0 with k | k
       ·rw [if_pos k] at h;cases h
       ·exact k
      have hneg:isNeg d=false:=by
       simp only [isNeg,beq_eq_false_iff_ne];exact c3
      refine ⟨hn,hd,hneg,fun e => c4 ?_⟩
      have hc:=(intErr_zero hd).1
      have:=canon_text hc
      rw [hneg,e] at this
      exact this.symm
set_option maxHeartbeats 1000000 in
set_option maxRecDepth 100000 in
theorem parts_err (s:ByteArray) (w:World) (er:Int) (h:er ≠ 0) (C:Hid (∀ W,Calls Tryz.prog 21 #[.string s] W (RatPost W er))) :
  Calls Tryz.prog 122 #[.string s] w (PartsPost w ⟨#[]⟩ ⟨#[]⟩ er):=by
 have h2:(er != 0)=true:=by rw [bne_iff_ne];exact h
 clear h
 go_enter Tryz.func122,Tryz.ntmps122
 go_wp2_with fail
 refine (C.out _).mono ?_
 rintro e w1 ⟨rfl,hb1⟩
 go_wp2
 go_ret3
 exact ⟨rfl,hb1⟩
set_option maxHeartbeats 1000000 in
set_option maxRecDepth 100000 in
theorem parts_ok (s a b:ByteArray) (f:Bool) (w:World) (C:Hid (∀ W,Calls Tryz.prog 21 #[.string s] W (RatPost W 0)))
  (HS:Hid (∀ W,Calls Tryz.prog 57 #[.string s] W (CutPost W a b f))) :
  Calls Tryz.prog 122 #[.string s] w (PartsPost w a (if f then b else ⟨#[49]⟩) 0):=by
 cases f
 all_goals
  go_enter Tryz.func122,Tryz.ntmps122
  go_wp2_with fail
  refine (C.out _).mono ?_
  rintro e w1 ⟨rfl,hb1⟩
  go_wp2_with fail
  refine (HS.out _).mono ?_
  rintro e w2 ⟨rfl,n,rfl⟩
  have hb2:=below_drewN hb1 n
  go_wp2
  go_ret3
  exact ⟨rfl,hb2⟩
theorem parts_any (s:ByteArray) (w:World) (hs:s.size≤4611686018427387904) :
  Calls Tryz.prog 122 #[.string s] w (PartsPost w (pN s) (pD s) (ratErr s)):=by
 have C:=Lib.hid (fun W => rat_any s W hs)
 unfold pN pD
 by_cases h:ratErr s=0
 ·rw [if_pos h,if_pos h]
  rw [h] at C ⊢
  rcases slash_cases s with h1 | ⟨o,h1,ho⟩
  ·have:=parts_ok s s ⟨#[]⟩ false w C (Lib.hid fun W => split_none s W h1)
   unfold numS denS
   rw [if_pos h1,if_pos h1]
   exact this
  ·have:=parts_ok s _ _ true w C (Lib.hid fun W => split_some s W o h1 ho hs)
   unfold numS denS
   have hne : ¬ slashI s = -1:=by rw [h1];omega
   rw [if_neg hne,if_neg hne,h1]
   exact this
 ·rw [if_neg h,if_neg h]
  exact parts_err s w _ h C
end Go.Proofs.YtknpnhodpgajbaaGreatDoor

namespace Go.Proofs.YtknpnhodpgajbaaGreatDoor
open Go.RowKit
def DivOk (w:World) (z:Int) (e:Ending) (w':World):Prop:=∃ t u,e = .returned (.tuple #[.string t,.string u,.int .i64 0])∧bl t=zStr z∧bl u=[48]∧Below w.heap.size w w'
set_option maxHeartbeats 2000000 in
set_option maxRecDepth 100000 in
theorem divmod_ok (a b:ByteArray) (w:World) (ha:a.size≤9223372036854775807) (hb:b.size≤9223372036854775807) (h0:intErr (bl a)=0) (h:intErr (bl b)=0) (hy0:dval (body (bl b)) ≠ 0) (hd:dval (body (bl b)) ∣ dval (body (bl a))) :
  Calls Tryz.prog 167 #[.string a,.string b] w (DivOk w (sgnv (!(isNeg (bl a) == isNeg (bl b))) (dval (body (bl a)) / dval (body (bl b))))):=by
 have HC:=Lib.hid (fun W => pair_ok a b W ha hb h0 h)
 have HA:=Lib.hid (dval_body_lt h0)
 have HB:=Lib.hid (dval_body_lt h)
 clear ha hb h0 h
 go_enter Tryz.func167,Tryz.ntmps167
 go_wp2_with fail
 refine (HC.out _).mono ?_
 rintro e w1 ⟨va,vb,xs,ys,rfl,sa,sb,nx,ny,vx,vy,hb1⟩
 have HZ:Hid (sgnv (!(isNeg (bl a) == isNeg (bl b))) (dval (body (bl a)) / dval (body (bl b)))=sgnv (!(isNeg (bl a) == isNeg (bl b))) (val 1000000000 xs / val 1000000000 ys)):=by show _=_;rw [vx,vy]
 rw [← vx] at hd
 rw [← vy] at hd hy0
 rw [← vx] at HA
 rw [← vy] at HB
 clear vx vy HC
 generalize isNeg (bl a)=na at *
 generalize isNeg (bl b)=nb at *
 obtain ⟨aa,ca,rfl,_⟩:=id sa
 obtain ⟨ab,cb,rfl,_⟩:=id sb
 have hb0:Below w1.heap.size w1 ((w1.alloc (.cells #[.bool na,.slice aa xs.length ca] 159)).alloc (.cells #[.bool nb,.slice ab ys.length cb] 159)):=below_a2 _ _ _
 have bx:Boxed2 ((w1.alloc (.cells #[.bool na,.slice aa xs.length ca] 159)).alloc (.cells #[.bool nb,.slice ab ys.length cb] 159)) w1.heap.size 159 (.bool na) (.slice aa xs.length ca):=(Boxed2.new _ _ _ _).alloc _
 have by1:Boxed2 ((w1.alloc (.cells #[.bool na,.slice aa xs.length ca] 159)).alloc (.cells #[.bool nb,.slice ab ys.length cb] 159)) (w1.heap.size+1) 159 (.bool nb) (.slice ab ys.length cb):=by
  have h:=Boxed2.new (w1.alloc (.cells #[.bool na,.slice aa xs.length ca] 159)) (.bool nb) (.slice ab ys.length cb) 159
  simp at h
  exact h
 have hbW:=hb1.trans (hb0.mono hb1.size)
 have sa0:=Lib.hid (sa.below hb0)
 have sb0:=Lib.hid (sb.below hb0)
 have lx:=grp_len nx HA.out
 have ly:=grp_len ny HB.out
 have x0:=bx.cell0
 have x1:=bx.cell1
 have y0:=by1.cell0
 have y1:=by1.cell1
 have BY:=Lib.hid by1
 clear bx by1 hb0 hb1 sa sb
 have hyne:ys ≠ []:=fun e => hy0 ((ny.val_zero (by decide)).2 e)
 have hylen:0 < ys.length:=List.length_pos_iff.2 hyne
 have HD:=Lib.hid (divide_any _ _ xs ys _ sa0.out sb0.out nx ny (by omega) (by omega) hyne)
 have Hdv:=Lib.hid hd
 have tq:((ys.length:Int) == 0)=false:=by rw [beq_eq_false_iff_ne];omega
 clear nx ny hyne hy0 hd
 go_wp2_with fail
 refine HD.out.mono ?_
 rintro e w2 ⟨vq,vr,qs,rs,rfl,sq,sr,nq,nr,eq,er,hb2⟩
 obtain rfl:rs=[]:=(nr.val_zero (by decide)).1 (by rw [er];exact Nat.mod_eq_zero_of_dvd Hdv.out)
 obtain ⟨ar,cr,rfl,_⟩:=id sr
 obtain ⟨aq,cq,rfl,_⟩:=id sq
 have hqlt:val 1000000000 qs < ten 1000:=by rw [eq];exact Nat.lt_of_le_of_lt (Nat.div_le_self _ _) HA.out
 have hz1:w1.heap.size+1 < ((w1.alloc (.cells #[.bool na,.slice aa xs.length ca] 159)).alloc (.cells #[.bool nb,.slice ab ys.length cb] 159)).heap.size:=BY.out.lt
 have x0':w2.cell? ⟨w1.heap.size,0,none⟩=some (.bool na):=by rw [hb2.cell (Nat.lt_of_succ_lt hz1)];exact x0
 have y0':w2.cell? ⟨w1.heap.size+1,0,none⟩=some (.bool nb):=by rw [hb2.cell hz1];exact y0
 have E0:=wErr_zero hqlt
 have hE:Hid (wErr (val 1000000000 qs)=0):=(E0 false).1
 have HR:=Lib.hid (fun W (h:Below w2.heap.size w2 W) => write_any false _ [] W (sr.below h) nr (by decide))
 have hbz2:=hbW.trans (hb2.mono hbW.size)
 have hE0:Hid (wErr (val 1000000000 [])=0):=by show _=_;decide
 have hS0:Hid (wStr false (val 1000000000 [])=[48]):=by show _=_;decide
 have HW:=Lib.hid (fun neg => write_any neg _ qs w2 sq nq (by have:=grp_len nq hqlt;omega))
 have hS:Hid (∀ neg,wStr neg (val 1000000000 qs)=zStr (sgnv neg (val 1000000000 xs / val 1000000000 ys))):=fun neg => by rw [← eq];exact wStr_sgnv _ _
 clear eq er sq sr nq nr HD x0 x1 y0 y1 hb2 hqlt E0 HA HB
 cases na
 case false =>
  go_wp2_with fail
  refine (HW.out nb).mono ?_
  rintro e w3 ⟨t,rfl,ht,hb3⟩
  rw [hE.out]
  have Ht:Hid (bl t=zStr (sgnv nb (val 1000000000 xs / val 1000000000 ys))):=ht.trans (hS.out nb)
  have HR3:=Lib.hid (HR.out w3 hb3)
  have hbz3:=hbz2.trans (hb3.mono hbz2.size)
  clear ht HW HR hb3 hbz2
  go_wp2_with fail
  refine HR3.out.mono ?_
  rintro e w4 ⟨u,rfl,hu,hb4⟩
  rw [hE0.out]
  have Hu:=Lib.hid (hu.trans hS0.out)
  have hbz4:=hbz3.trans (hb4.mono hbz3.size)
  clear hu hb4 hbz3
  go_wp2
  go_ret3
  rw [HZ.out]
  exact ⟨t,u,rfl,by rw [Ht.out];simp,Hu.out,hbz4⟩
 case true =>
  go_wp2_with fail
  refine (HW.out (!nb)).mono ?_
  rintro e w3 ⟨t,rfl,ht,hb3⟩
  rw [hE.out]
  have Ht:Hid (bl t=zStr (sgnv (!nb) (val 1000000000 xs / val 1000000000 ys))):=ht.trans (hS.out (!nb))
  have HR3:=Lib.hid (HR.out w3 hb3)
  have hbz3:=hbz2.trans (hb3.mono hbz2.size)
  clear ht HW HR hb3 hbz2
  go_wp2_with fail
  refine HR3.out.mono ?_
  rintro e w4 ⟨u,rfl,hu,hb4⟩
  rw [hE0.out]
  have Hu:=Lib.hid (hu.trans hS0.out)
  have hbz4:=hbz3.trans (hb4.mono hbz3.size)
  clear hu hb4 hbz3
  go_wp2
  go_ret3
  rw [HZ.out]
  exact ⟨t,u,rfl,by rw [Ht.out];simp,Hu.out,hbz4⟩
end Go.Proofs.YtknpnhodpgajbaaGreatDoor

namespace Go.Proofs.YtknpnhodpgajbaaGreatDoor
open Go.RowKit
def ratTxt (sg:Bool) (N D:Nat):List UInt8 :=
 if D / Nat.gcd N D=1 then istr sg (N / Nat.gcd N D) else istr sg (N / Nat.gcd N D) ++ [47] ++ istr false (D / Nat.gcd N D)
def MakeOk (w:World) (l:List UInt8) (e:Ending) (w':World):Prop:=∃ t,e = .returned (.tuple #[.string t,.int .i64 0])∧bl t=l∧Below w.heap.size w w'
theorem canon_zero {l:List UInt8} (h:canonI l=true):l=[48] ↔ dval (body l)=0:=by
 constructor
 ·rintro rfl;decide
 ·intro e
  rw [← canon_text h,e,isNeg]
  rfl
theorem bl_append (a b:ByteArray):bl (a ++ b)=bl a ++ bl b:=by simp [bl]
theorem istr_size {t:ByteArray} {sg:Bool} {n k:Nat} (h:bl t=istr sg n) (hn:n < ten k):t.size≤k+2:=by
 rw [← bl_length,h]
 by_cases h0:n=0
 ·subst h0;simp [istr]
 ·rw [istr_ne sg h0]
  have:=dig10_ten hn
  cases sg <;> simp [asc] <;> omega
theorem intErr_small {sg:Bool} {n:Nat} (h:n < ten 1000):intErr (istr sg n)=0:=by rw [intErr_istr];exact (wErr_zero h sg).1
set_option maxHeartbeats 2000000 in
set_option maxRecDepth 100000 in
theorem make_neg_one (a b:ByteArray) (w:World) (ha:a.size≤1100000) (hb:b.size≤1100000) (h0:intErr (bl a)=0) (h:intErr (bl b)=0) (hd0:dval (body (bl b)) ≠ 0) (hn:isNeg (bl b)=true) (h1:dval (body (bl b)) / Nat.gcd (dval (body (bl a))) (dval (body (bl b)))=1) :
  Calls Tryz.prog 126 #[.string a,.string b] w (MakeOk w (ratTxt (!(isNeg (bl a) == true)) (dval (body (bl a))) (dval (body (bl b))))):=by
 have HG:=Lib.hid (fun W => gcd_ok a b W (by omega) (by omega) h0 h)
 have HA:=Lib.hid (dval_body_lt h0)
 have HB:=Lib.hid (dval_body_lt h)
 have hcb:=(intErr_zero h).1
 have hp:=canonI_pos hcb
 have hne:bl b ≠ [48]:=fun e => hd0 ((canon_zero hcb).1 e)
 have tz:=ne_lit hne
 have hbc:=bl_cons b hp
 obtain ⟨c,hc⟩:∃ c,b[0]=c:=⟨_,rfl⟩
 rw [hc] at hbc
 have t4:((c.toNat:Int) == 45)=true:=by
  rw [hbc] at hn
  simp [isNeg] at hn
  rw [hn];rfl
 have HN:Hid (∀ W (g:ByteArray),bl g=istr true (Nat.gcd (dval (body (bl a))) (dval (body (bl b))))→Calls Tryz.prog 167 #[.string a,.string g] W (DivOk W (sgnv (!(isNeg (bl a) == true)) (dval (body (bl a)) / Nat.gcd (dval (body (bl a))) (dval (body (bl b))))))):=by
  intro W g hg
  have hg0:Nat.gcd (dval (body (bl a))) (dval (body (bl b))) ≠ 0:=fun e => hd0 (Nat.eq_zero_of_gcd_eq_zero_right e)
  have hglt:=gcd_lt (dval_body_lt h0) (dval_body_lt h)
  have hs:=istr_size hg hglt
  have:=divmod_ok a g W (by omega) (by omega) h0 (by rw [hg];exact intErr_small hglt) (by rw [hg,dval_istr];exact hg0) (by rw [hg,dval_istr];exact Nat.gcd_dvd_left _ _)
  rw [hg,dval_istr,isNeg_istr,decide_eq_true hg0,Bool.and_true] at this
  exact this
 have HDn:Hid (∀ W (g:ByteArray),bl g=istr true (Nat.gcd (dval (body (bl a))) (dval (body (bl b))))→Calls Tryz.prog 167 #[.string b,.string g] W (DivOk W (sgnv false (dval (body (bl b)) / Nat.gcd (dval (body (bl a))) (dval (body (bl b))))))):=by
  intro W g hg
  have hg0:Nat.gcd (dval (body (bl a))) (dval (body (bl b))) ≠ 0:=fun e => hd0 (Nat.eq_zero_of_gcd_eq_zero_right e)
  have hglt:=gcd_lt (dval_body_lt h0) (dval_body_lt h)
  have hs:=istr_size hg hglt
  have:=divmod_ok b g W (by omega) (by omega) h (by rw [hg];exact intErr_small hglt) (by rw [hg,dval_istr];exact hg0) (by rw [hg,dval_istr];exact Nat.gcd_dvd_right _ _)
  rw [hg,dval_istr,isNeg_istr,decide_eq_true hg0,Bool.and_true,hn] at this
  exact this
 have Hlt:Hid (Nat.gcd (dval (body (bl a))) (dval (body (bl b))) < ten 1000):=gcd_lt (dval_body_lt h0) (dval_body_lt h)
 have hg00:Nat.gcd (dval (body (bl a))) (dval (body (bl b))) ≠ 0:=fun e => hd0 (Nat.eq_zero_of_gcd_eq_zero_right e)
 clear ha hb h0 h hd0 hcb hne hbc hn
 have HL:ratTxt (!(isNeg (bl a) == true)) (dval (body (bl a))) (dval (body (bl b)))=istr (!(isNeg (bl a) == true)) (dval (body (bl a)) / Nat.gcd (dval (body (bl a))) (dval (body (bl b)))):=by rw [ratTxt,if_pos h1]
 rw [HL]
 clear HL
 have HG0:=Lib.hid hg00
 clear hg00
 generalize dval (body (bl a))=N at *
 generalize dval (body (bl b))=D at *
 generalize isNeg (bl a)=na at *
 generalize Nat.gcd N D=G at *
 obtain ⟨q,hq⟩:∃ q,q=N / G:=⟨_,rfl⟩
 obtain ⟨r,hr⟩:∃ r,r=D / G:=⟨_,rfl⟩
 have hqlt:q < ten 1000:=by rw [hq];exact Nat.lt_of_le_of_lt (Nat.div_le_self _ _) HA.out
 have hrlt:r < ten 1000:=by rw [hr];exact Nat.lt_of_le_of_lt (Nat.div_le_self _ _) HB.out
 rw [← hq] at HN ⊢
 rw [← hr] at HDn h1
 have Hq:Hid (∀ sg,zStr (sgnv sg q)=istr sg q):=fun sg => by rw [← wStr_sgnv];exact (wErr_zero hqlt sg).2
 have Hr:Hid (∀ sg,zStr (sgnv sg r)=istr sg r):=fun sg => by rw [← wStr_sgnv];exact (wErr_zero hrlt sg).2
 have H1:=Lib.hid h1
 generalize hsg:(!(na == true))=sg at HN ⊢
 have Hql:=Lib.hid hqlt
 have Hrl:=Lib.hid hrlt
 clear hq hr hqlt hrlt HA HB h1 hsg
 go_enter Tryz.func126,Tryz.ntmps126
 go_wp2_with fail
 refine (HG.out _).mono ?_
 rintro e w1 ⟨g,rfl,hg,hb1⟩
 have hg2:Hid (bl (⟨#[45]⟩ ++ g)=istr true G):=by
  show _=_
  rw [bl_append,hg,istr_ne true HG0.out,istr_ne false HG0.out];rfl
 have hgs:g.size≤1002:=istr_size hg Hlt.out
 clear hg HG
 go_wp2_with fail
 refine (HN.out _ _ hg2.out).mono ?_
 rintro e w2 ⟨x,x2,rfl,hx,hx2,hb2⟩
 have Hx:=Lib.hid (hx.trans (Hq.out sg))
 have hbb:=hb1.trans (hb2.mono hb1.size)
 clear hx hx2 hb1 hb2
 go_wp2_with fail
 refine (HDn.out _ _ hg2.out).mono ?_
 rintro e w3 ⟨y,y2,rfl,hy,hy2,hb3⟩
 have hyy:=hy.trans (Hr.out false)
 have hbz:=hbb.trans (hb3.mono hbb.size)
 have Hy:=Lib.hid hyy
 have ey:y=⟨#[49]⟩:=eq_lit (by rw [hyy,H1.out];decide)
 subst ey
 clear hy hy2 hyy hbb hb3 HN HDn
 go_wp2
 go_ret2
 exact ⟨x,rfl,Hx.out,hbz⟩
set_option maxHeartbeats 2000000 in
set_option maxRecDepth 100000 in
theorem make_neg_frac (a b:ByteArray) (w:World) (ha:a.size≤1100000) (hb:b.size≤1100000) (h0:intErr (bl a)=0) (h:intErr (bl b)=0) (hd0:dval (body (bl b)) ≠ 0) (hn:isNeg (bl b)=true) (h1:dval (body (bl b)) / Nat.gcd (dval (body (bl a))) (dval (body (bl b))) ≠ 1) :
  Calls Tryz.prog 126 #[.string a,.string b] w (MakeOk w (ratTxt (!(isNeg (bl a) == true)) (dval (body (bl a))) (dval (body (bl b))))):=by
 have HG:=Lib.hid (fun W => gcd_ok a b W (by omega) (by omega) h0 h)
 have HA:=Lib.hid (dval_body_lt h0)
 have HB:=Lib.hid (dval_body_lt h)
 have hcb:=(intErr_zero h).1
 have hp:=canonI_pos hcb
 have hne:bl b ≠ [48]:=fun e => hd0 ((canon_zero hcb).1 e)
 have tz:=ne_lit hne
 have hbc:=bl_cons b hp
 obtain ⟨c,hc⟩:∃ c,b[0]=c:=⟨_,rfl⟩
 rw [hc] at hbc
 have t4:((c.toNat:Int) == 45)=true:=by
  rw [hbc] at hn
  simp [isNeg] at hn
  rw [hn];rfl
 have HN:Hid (∀ W (g:ByteArray),bl g=istr true (Nat.gcd (dval (body (bl a))) (dval (body (bl b))))→Calls Tryz.prog 167 #[.string a,.string g] W (DivOk W (sgnv (!(isNeg (bl a) == true)) (dval (body (bl a)) / Nat.gcd (dval (body (bl a))) (dval (body (bl b))))))):=by
  intro W g hg
  have hg0:Nat.gcd (dval (body (bl a))) (dval (body (bl b))) ≠ 0:=fun e => hd0 (Nat.eq_zero_of_gcd_eq_zero_right e)
  have hglt:=gcd_lt (dval_body_lt h0) (dval_body_lt h)
  have hs:=istr_size hg hglt
  have:=divmod_ok a g W (by omega) (by omega) h0 (by rw [hg];exact intErr_small hglt) (by rw [hg,dval_istr];exact hg0) (by rw [hg,dval_istr];exact Nat.gcd_dvd_left _ _)
  rw [hg,dval_istr,isNeg_istr,decide_eq_true hg0,Bool.and_true] at this
  exact this
 have HDn:Hid (∀ W (g:ByteArray),bl g=istr true (Nat.gcd (dval (body (bl a))) (dval (body (bl b))))→Calls Tryz.prog 167 #[.string b,.string g] W (DivOk W (sgnv false (dval (body (bl b)) / Nat.gcd (dval (body (bl a))) (dval (body (bl b))))))):=by
  intro W g hg
  have hg0:Nat.gcd (dval (body (bl a))) (dval (body (bl b))) ≠ 0:=fun e => hd0 (Nat.eq_zero_of_gcd_eq_zero_right e)
  have hglt:=gcd_lt (dval_body_lt h0) (dval_body_lt h)
  have hs:=istr_size hg hglt
  have:=divmod_ok b g W (by omega) (by omega) h (by rw [hg];exact intErr_small hglt) (by rw [hg,dval_istr];exact hg0) (by rw [hg,dval_istr];exact Nat.gcd_dvd_right _ _)
  rw [hg,dval_istr,isNeg_istr,decide_eq_true hg0,Bool.and_true,hn] at this
  exact this
 have Hlt:Hid (Nat.gcd (dval (body (bl a))) (dval (body (bl b))) < ten 1000):=gcd_lt (dval_body_lt h0) (dval_body_lt h)
 have hg00:Nat.gcd (dval (body (bl a))) (dval (body (bl b))) ≠ 0:=fun e => hd0 (Nat.eq_zero_of_gcd_eq_zero_right e)
 clear ha hb h0 h hd0 hcb hne hbc hn
 have HL:ratTxt (!(isNeg (bl a) == true)) (dval (body (bl a))) (dval (body (bl b)))=istr (!(isNeg (bl a) == true)) (dval (body (bl a)) / Nat.gcd (dval (body (bl a))) (dval (body (bl b)))) ++ [47] ++ istr false (dval (body (bl b)) / Nat.gcd (dval (body (bl a))) (dval (body (bl b)))):=by rw [ratTxt,if_neg h1]
 rw [HL]
 clear HL
 have HG0:=Lib.hid hg00
 clear hg00
 generalize dval (body (bl a))=N at *
 generalize dval (body (bl b))=D at *
 generalize isNeg (bl a)=na at *
 generalize Nat.gcd N D=G at *
 obtain ⟨q,hq⟩:∃ q,q=N / G:=⟨_,rfl⟩
 obtain ⟨r,hr⟩:∃ r,r=D / G:=⟨_,rfl⟩
 have hqlt:q < ten 1000:=by rw [hq];exact Nat.lt_of_le_of_lt (Nat.div_le_self _ _) HA.out
 have hrlt:r < ten 1000:=by rw [hr];exact Nat.lt_of_le_of_lt (Nat.div_le_self _ _) HB.out
 rw [← hq] at HN ⊢
 rw [← hr] at HDn h1 ⊢
 have Hq:Hid (∀ sg,zStr (sgnv sg q)=istr sg q):=fun sg => by rw [← wStr_sgnv];exact (wErr_zero hqlt sg).2
 have Hr:Hid (∀ sg,zStr (sgnv sg r)=istr sg r):=fun sg => by rw [← wStr_sgnv];exact (wErr_zero hrlt sg).2
 have H1:=Lib.hid h1
 generalize hsg:(!(na == true))=sg at HN ⊢
 have Hql:=Lib.hid hqlt
 have Hrl:=Lib.hid hrlt
 clear hq hr hqlt hrlt HA HB h1 hsg
 go_enter Tryz.func126,Tryz.ntmps126
 go_wp2_with fail
 refine (HG.out _).mono ?_
 rintro e w1 ⟨g,rfl,hg,hb1⟩
 have hg2:Hid (bl (⟨#[45]⟩ ++ g)=istr true G):=by
  show _=_
  rw [bl_append,hg,istr_ne true HG0.out,istr_ne false HG0.out];rfl
 have hgs:g.size≤1002:=istr_size hg Hlt.out
 clear hg HG
 go_wp2_with fail
 refine (HN.out _ _ hg2.out).mono ?_
 rintro e w2 ⟨x,x2,rfl,hx,hx2,hb2⟩
 have Hx:=Lib.hid (hx.trans (Hq.out sg))
 have hbb:=hb1.trans (hb2.mono hb1.size)
 clear hx hx2 hb1 hb2
 go_wp2_with fail
 refine (HDn.out _ _ hg2.out).mono ?_
 rintro e w3 ⟨y,y2,rfl,hy,hy2,hb3⟩
 have hyy:=hy.trans (Hr.out false)
 have hbz:=hbb.trans (hb3.mono hbb.size)
 have Hy:=Lib.hid hyy
 have ey:(y.toList == [49])=false:=ne_lit (fun e => H1.out ((istr_one r).1 (by rw [← hyy];exact e)))
 have hun:=hy2
 have hxs:x.size≤1002:=istr_size Hx.out Hql.out
 have hys:y.size≤1002:=istr_size hyy Hrl.out
 clear hy hy2 hyy hbb hb3 HN HDn hun
 go_wp2
 go_ret2
 exact ⟨_,rfl,by rw [bl_append,bl_append,Hx.out,Hy.out];rfl,hbz⟩
set_option maxHeartbeats 2000000 in
set_option maxRecDepth 100000 in
theorem make_pos_one (a b:ByteArray) (w:World) (ha:a.size≤1100000) (hb:b.size≤1100000) (h0:intErr (bl a)=0) (h:intErr (bl b)=0) (hd0:dval (body (bl b)) ≠ 0) (hn:isNeg (bl b)=false) (h1:dval (body (bl b)) / Nat.gcd (dval (body (bl a))) (dval (body (bl b)))=1) :
  Calls Tryz.prog 126 #[.string a,.string b] w (MakeOk w (ratTxt (!(isNeg (bl a) == false)) (dval (body (bl a))) (dval (body (bl b))))):=by
 have HG:=Lib.hid (fun W => gcd_ok a b W (by omega) (by omega) h0 h)
 have HA:=Lib.hid (dval_body_lt h0)
 have HB:=Lib.hid (dval_body_lt h)
 have hcb:=(intErr_zero h).1
 have hp:=canonI_pos hcb
 have hne:bl b ≠ [48]:=fun e => hd0 ((canon_zero hcb).1 e)
 have tz:=ne_lit hne
 have hbc:=bl_cons b hp
 obtain ⟨c,hc⟩:∃ c,b[0]=c:=⟨_,rfl⟩
 rw [hc] at hbc
 have t4:((c.toNat:Int) == 45)=false:=by
  rw [hbc] at hn
  simp [isNeg] at hn
  rw [beq_eq_false_iff_ne];intro e;apply hn;apply UInt8.toNat_inj.1;show c.toNat=45;omega
 have HN:Hid (∀ W (g:ByteArray),bl g=istr false (Nat.gcd (dval (body (bl a))) (dval (body (bl b))))→Calls Tryz.prog 167 #[.string a,.string g] W (DivOk W (sgnv (!(isNeg (bl a) == false)) (dval (body (bl a)) / Nat.gcd (dval (body (bl a))) (dval (body (bl b))))))):=by
  intro W g hg
  have hg0:Nat.gcd (dval (body (bl a))) (dval (body (bl b))) ≠ 0:=fun e => hd0 (Nat.eq_zero_of_gcd_eq_zero_right e)
  have hglt:=gcd_lt (dval_body_lt h0) (dval_body_lt h)
  have hs:=istr_size hg hglt
  have:=divmod_ok a g W (by omega) (by omega) h0 (by rw [hg];exact intErr_small hglt) (by rw [hg,dval_istr];exact hg0) (by rw [hg,dval_istr];exact Nat.gcd_dvd_left _ _)
  rw [hg,dval_istr,isNeg_istr,decide_eq_true hg0,Bool.and_true] at this
  exact this
 have HDn:Hid (∀ W (g:ByteArray),bl g=istr false (Nat.gcd (dval (body (bl a))) (dval (body (bl b))))→Calls Tryz.prog 167 #[.string b,.string g] W (DivOk W (sgnv false (dval (body (bl b)) / Nat.gcd (dval (body (bl a))) (dval (body (bl b))))))):=by
  intro W g hg
  have hg0:Nat.gcd (dval (body (bl a))) (dval (body (bl b))) ≠ 0:=fun e => hd0 (Nat.eq_zero_of_gcd_eq_zero_right e)
  have hglt:=gcd_lt (dval_body_lt h0) (dval_body_lt h)
  have hs:=istr_size hg hglt
  have:=divmod_ok b g W (by omega) (by omega) h (by rw [hg];exact intErr_small hglt) (by rw [hg,dval_istr];exact hg0) (by rw [hg,dval_istr];exact Nat.gcd_dvd_right _ _)
  rw [hg,dval_istr,isNeg_istr,decide_eq_true hg0,Bool.and_true,hn] at this
  exact this
 have Hlt:Hid (Nat.gcd (dval (body (bl a))) (dval (body (bl b))) < ten 1000):=gcd_lt (dval_body_lt h0) (dval_body_lt h)
 have hg00:Nat.gcd (dval (body (bl a))) (dval (body (bl b))) ≠ 0:=fun e => hd0 (Nat.eq_zero_of_gcd_eq_zero_right e)
 clear ha hb h0 h hd0 hcb hne hbc hn
 have HL:ratTxt (!(isNeg (bl a) == false)) (dval (body (bl a))) (dval (body (bl b)))=istr (!(isNeg (bl a) == false)) (dval (body (bl a)) / Nat.gcd (dval (body (bl a))) (dval (body (bl b)))):=by rw [ratTxt,if_pos h1]
 rw [HL]
 clear HL
 have HG0:=Lib.hid hg00
 clear hg00
 generalize dval (body (bl a))=N at *
 generalize dval (body (bl b))=D at *
 generalize isNeg (bl a)=na at *
 generalize Nat.gcd N D=G at *
 obtain ⟨q,hq⟩:∃ q,q=N / G:=⟨_,rfl⟩
 obtain ⟨r,hr⟩:∃ r,r=D / G:=⟨_,rfl⟩
 have hqlt:q < ten 1000:=by rw [hq];exact Nat.lt_of_le_of_lt (Nat.div_le_self _ _) HA.out
 have hrlt:r < ten 1000:=by rw [hr];exact Nat.lt_of_le_of_lt (Nat.div_le_self _ _) HB.out
 rw [← hq] at HN ⊢
 rw [← hr] at HDn h1
 have Hq:Hid (∀ sg,zStr (sgnv sg q)=istr sg q):=fun sg => by rw [← wStr_sgnv];exact (wErr_zero hqlt sg).2
 have Hr:Hid (∀ sg,zStr (sgnv sg r)=istr sg r):=fun sg => by rw [← wStr_sgnv];exact (wErr_zero hrlt sg).2
 have H1:=Lib.hid h1
 generalize hsg:(!(na == false))=sg at HN ⊢
 have Hql:=Lib.hid hqlt
 have Hrl:=Lib.hid hrlt
 clear hq hr hqlt hrlt HA HB h1 hsg
 go_enter Tryz.func126,Tryz.ntmps126
 go_wp2_with fail
 refine (HG.out _).mono ?_
 rintro e w1 ⟨g,rfl,hg,hb1⟩
 have hg2:Hid (bl g=istr false G):=by
  show _=_
  exact hg
 have hgs:g.size≤1002:=istr_size hg Hlt.out
 clear hg HG
 go_wp2_with fail
 refine (HN.out _ _ hg2.out).mono ?_
 rintro e w2 ⟨x,x2,rfl,hx,hx2,hb2⟩
 have Hx:=Lib.hid (hx.trans (Hq.out sg))
 have hbb:=hb1.trans (hb2.mono hb1.size)
 clear hx hx2 hb1 hb2
 go_wp2_with fail
 refine (HDn.out _ _ hg2.out).mono ?_
 rintro e w3 ⟨y,y2,rfl,hy,hy2,hb3⟩
 have hyy:=hy.trans (Hr.out false)
 have hbz:=hbb.trans (hb3.mono hbb.size)
 have Hy:=Lib.hid hyy
 have ey:y=⟨#[49]⟩:=eq_lit (by rw [hyy,H1.out];decide)
 subst ey
 clear hy hy2 hyy hbb hb3 HN HDn
 go_wp2
 go_ret2
 exact ⟨x,rfl,Hx.out,hbz⟩
set_option maxHeartbeats 2000000 in
set_option maxRecDepth 100000 in
theorem make_pos_frac (a b:ByteArray) (w:World) (ha:a.size≤1100000) (hb:b.size≤1100000) (h0:intErr (bl a)=0) (h:intErr (bl b)=0) (hd0:dval (body (bl b)) ≠ 0) (hn:isNeg (bl b)=false) (h1:dval (body (bl b)) / Nat.gcd (dval (body (bl a))) (dval (body (bl b))) ≠ 1) :
  Calls Tryz.prog 126 #[.string a,.string b] w (MakeOk w (ratTxt (!(isNeg (bl a) == false)) (dval (body (bl a))) (dval (body (bl b))))):=by
 have HG:=Lib.hid (fun W => gcd_ok a b W (by omega) (by omega) h0 h)
 have HA:=Lib.hid (dval_body_lt h0)
 have HB:=Lib.hid (dval_body_lt h)
 have hcb:=(intErr_zero h).1
 have hp:=canonI_pos hcb
 have hne:bl b ≠ [48]:=fun e => hd0 ((canon_zero hcb).1 e)
 have tz:=ne_lit hne
 have hbc:=bl_cons b hp
 obtain ⟨c,hc⟩:∃ c,b[0]=c:=⟨_,rfl⟩
 rw [hc] at hbc
 have t4:((c.toNat:Int) == 45)=false:=by
  rw [hbc] at hn
  simp [isNeg] at hn
  rw [beq_eq_false_iff_ne];intro e;apply hn;apply UInt8.toNat_inj.1;show c.toNat=45;omega
 have HN:Hid (∀ W (g:ByteArray),bl g=istr false (Nat.gcd (dval (body (bl a))) (dval (body (bl b))))→Calls Tryz.prog 167 #[.string a,.string g] W (DivOk W (sgnv (!(isNeg (bl a) == false)) (dval (body (bl a)) / Nat.gcd (dval (body (bl a))) (dval (body (bl b))))))):=by
  intro W g hg
  have hg0:Nat.gcd (dval (body (bl a))) (dval (body (bl b))) ≠ 0:=fun e => hd0 (Nat.eq_zero_of_gcd_eq_zero_right e)
  have hglt:=gcd_lt (dval_body_lt h0) (dval_body_lt h)
  have hs:=istr_size hg hglt
  have:=divmod_ok a g W (by omega) (by omega) h0 (by rw [hg];exact intErr_small hglt) (by rw [hg,dval_istr];exact hg0) (by rw [hg,dval_istr];exact Nat.gcd_dvd_left _ _)
  rw [hg,dval_istr,isNeg_istr,decide_eq_true hg0,Bool.and_true] at this
  exact this
 have HDn:Hid (∀ W (g:ByteArray),bl g=istr false (Nat.gcd (dval (body (bl a))) (dval (body (bl b))))→Calls Tryz.prog 167 #[.string b,.string g] W (DivOk W (sgnv false (dval (body (bl b)) / Nat.gcd (dval (body (bl a))) (dval (body (bl b))))))):=by
  intro W g hg
  have hg0:Nat.gcd (dval (body (bl a))) (dval (body (bl b))) ≠ 0:=fun e => hd0 (Nat.eq_zero_of_gcd_eq_zero_right e)
  have hglt:=gcd_lt (dval_body_lt h0) (dval_body_lt h)
  have hs:=istr_size hg hglt
  have:=divmod_ok b g W (by omega) (by omega) h (by rw [hg];exact intErr_small hglt) (by rw [hg,dval_istr];exact hg0) (by rw [hg,dval_istr];exact Nat.gcd_dvd_right _ _)
  rw [hg,dval_istr,isNeg_istr,decide_eq_true hg0,Bool.and_true,hn] at this
  exact this
 have Hlt:Hid (Nat.gcd (dval (body (bl a))) (dval (body (bl b))) < ten 1000):=gcd_lt (dval_body_lt h0) (dval_body_lt h)
 have hg00:Nat.gcd (dval (body (bl a))) (dval (body (bl b))) ≠ 0:=fun e => hd0 (Nat.eq_zero_of_gcd_eq_zero_right e)
 clear ha hb h0 h hd0 hcb hne hbc hn
 have HL:ratTxt (!(isNeg (bl a) == false)) (dval (body (bl a))) (dval (body (bl b)))=istr (!(isNeg (bl a) == false)) (dval (body (bl a)) / Nat.gcd (dval (body (bl a))) (dval (body (bl b)))) ++ [47] ++ istr false (dval (body (bl b)) / Nat.gcd (dval (body (bl a))) (dval (body (bl b)))):=by rw [ratTxt,if_neg h1]
 rw [HL]
 clear HL
 have HG0:=Lib.hid hg00
 clear hg00
 generalize dval (body (bl a))=N at *
 generalize dval (body (bl b))=D at *
 generalize isNeg (bl a)=na at *
 generalize Nat.gcd N D=G at *
 obtain ⟨q,hq⟩:∃ q,q=N / G:=⟨_,rfl⟩
 obtain ⟨r,hr⟩:∃ r,r=D / G:=⟨_,rfl⟩
 have hqlt:q < ten 1000:=by rw [hq];exact Nat.lt_of_le_of_lt (Nat.div_le_self _ _) HA.out
 have hrlt:r < ten 1000:=by rw [hr];exact Nat.lt_of_le_of_lt (Nat.div_le_self _ _) HB.out
 rw [← hq] at HN ⊢
 rw [← hr] at HDn h1 ⊢
 have Hq:Hid (∀ sg,zStr (sgnv sg q)=istr sg q):=fun sg => by rw [← wStr_sgnv];exact (wErr_zero hqlt sg).2
 have Hr:Hid (∀ sg,zStr (sgnv sg r)=istr sg r):=fun sg => by rw [← wStr_sgnv];exact (wErr_zero hrlt sg).2
 have H1:=Lib.hid h1
 generalize hsg:(!(na == false))=sg at HN ⊢
 have Hql:=Lib.hid hqlt
 have Hrl:=Lib.hid hrlt
 clear hq hr hqlt hrlt HA HB h1 hsg
 go_enter Tryz.func126,Tryz.ntmps126
 go_wp2_with fail
 refine (HG.out _).mono ?_
 rintro e w1 ⟨g,rfl,hg,hb1⟩
 have hg2:Hid (bl g=istr false G):=by
  show _=_
  exact hg
 have hgs:g.size≤1002:=istr_size hg Hlt.out
 clear hg HG
 go_wp2_with fail
 refine (HN.out _ _ hg2.out).mono ?_
 rintro e w2 ⟨x,x2,rfl,hx,hx2,hb2⟩
 have Hx:=Lib.hid (hx.trans (Hq.out sg))
 have hbb:=hb1.trans (hb2.mono hb1.size)
 clear hx hx2 hb1 hb2
 go_wp2_with fail
 refine (HDn.out _ _ hg2.out).mono ?_
 rintro e w3 ⟨y,y2,rfl,hy,hy2,hb3⟩
 have hyy:=hy.trans (Hr.out false)
 have hbz:=hbb.trans (hb3.mono hbb.size)
 have Hy:=Lib.hid hyy
 have ey:(y.toList == [49])=false:=ne_lit (fun e => H1.out ((istr_one r).1 (by rw [← hyy];exact e)))
 have hun:=hy2
 have hxs:x.size≤1002:=istr_size Hx.out Hql.out
 have hys:y.size≤1002:=istr_size hyy Hrl.out
 clear hy hy2 hyy hbb hb3 HN HDn hun
 go_wp2
 go_ret2
 exact ⟨_,rfl,by rw [bl_append,bl_append,Hx.out,Hy.out];rfl,hbz⟩
theorem make_ok (a b:ByteArray) (w:World) (ha:a.size≤1100000) (hb:b.size≤1100000) (h0:intErr (bl a)=0) (h:intErr (bl b)=0) (hd0:dval (body (bl b)) ≠ 0) :
  Calls Tryz.prog 126 #[.string a,.string b] w (MakeOk w (ratTxt (!(isNeg (bl a) == isNeg (bl b))) (dval (body (bl a))) (dval (body (bl b))))):=by
 by_cases h1:dval (body (bl b)) / Nat.gcd (dval (body (bl a))) (dval (body (bl b)))=1
 ·cases hn:isNeg (bl b)
  ·exact make_pos_one a b w ha hb h0 h hd0 hn h1
  ·exact make_neg_one a b w ha hb h0 h hd0 hn h1
 ·cases hn:isNeg (bl b)
  ·exact make_pos_frac a b w ha hb h0 h hd0 hn h1
  ·exact make_neg_frac a b w ha hb h0 h hd0 hn h1
end Go.Proofs.YtknpnhodpgajbaaGreatDoor
