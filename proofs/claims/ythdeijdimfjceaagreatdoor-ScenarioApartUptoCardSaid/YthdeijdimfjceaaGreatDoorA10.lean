/- A part. -/
import Derived.Test.YthdeijdimfjceaaGreatDoorA09
namespace Go.Proofs.YthdeijdimfjceaaGreatDoor
open Go.RowKit
def numS (s:ByteArray):ByteArray:=if slashI s = -1 then s else s.extract 0 (slashI s).toNat
def denS (s:ByteArray):ByteArray:=if slashI s = -1 then ⟨#[49]⟩ else s.extract ((slashI s).toNat+1) s.size
def pN (s:ByteArray):ByteArray:=if ratErr s=0 then numS s else ⟨#[]⟩
def pD (s:ByteArray):ByteArray:=if ratErr s=0 then denS s else ⟨#[]⟩
def PartsPost (w:World) (n d:ByteArray) (er:Int) (e:Ending) (w':World):Prop:=e = .returned (.tuple #[.string n,.string d,.int .i64 er])∧Below w.heap.size w w'
theorem numS_size (s:ByteArray):(numS s).size≤s.size:=by
 unfold numS;split
 ·exact Nat.le_refl _
 ·rw [← bl_length,bl_extract,List.length_take,List.length_drop,bl_length];omega
theorem denS_size (s:ByteArray):(denS s).size≤s.size+1:=by
 unfold denS;split
 ·show 1≤_;omega
 ·rw [← bl_length,bl_drop,List.length_drop,bl_length];omega
theorem rat_parts {s:ByteArray} (h:ratErr s=0):intErr (bl (numS s))=0∧intErr (bl (denS s))=0∧isNeg (bl (denS s))=false∧dval (body (bl (denS s))) ≠ 0:=by
 rcases slash_cases s with h1 | ⟨o,h1,ho⟩
 ·rw [ratErr,if_pos h1] at h
  unfold numS denS
  rw [if_pos h1,if_pos h1]
  exact ⟨h,by decide,by decide,by decide⟩
 ·have hne : ¬ slashI s = -1:=by rw [h1];omega
  rw [ratErr,if_neg hne,h1] at h
  unfold numS denS
  rw [if_neg hne,if_neg hne,h1,bl_extract,bl_drop]
  rw [Int.toNat_natCast] at h ⊢
  rw [List.drop_zero,Nat.sub_zero]
  generalize (bl s).take o=n at h ⊢
  generalize (bl s).drop (o+1)=d at h ⊢
  unfold fracErr at h
  split at h
  ·cases h
  ·split at h
   ·cases h
   ·split at h
    ·cases h
    ·split at h
     ·cases h
     ·rename_i c1 c2 c3 c4
      have c5:d ≠ [49]:=fun e => by rw [if_pos e] at h;cases h
      rw [if_neg c5] at h
      have hn:intErr n=0:=by
       rcases Int.decEq (intErr n) 0 with k | k
       ·rw [if_pos k] at h;cases h
       ·exact k
      rw [if_neg (fun k => k hn)] at h
      have hd:intErr d=0:=by
       rcases Int.decEq (intErr d) 0 with k | k
       ·rw [if_pos k] at h;cases h
       ·exact k
      have hneg:isNeg d=false:=by
       simp only [isNeg,beq_eq_false_iff_ne];exact c3
      refine ⟨hn,hd,hneg,fun e => c4 ?_⟩
      have hc:=(intErr_zero hd).1
      have:=canon_text hc
      rw [hneg,e] at this
      exact this.symm
set_option maxHeartbeats 1000000 in
set_option maxRecDepth 100000 in
theorem parts_err (s:ByteArray) (w:World) (er:Int) (h:er ≠ 0) (C:Hid (∀ W,Calls Tryz.prog 36 #[.string s] W (RatPost W er))) :
  Calls Tryz.prog 88 #[.string s] w (PartsPost w ⟨#[]⟩ ⟨#[]⟩ er):=by
 have h2:(er != 0)=true:=by rw [bne_iff_ne];exact h
 clear h
 go_enter Tryz.func88,Tryz.ntmps88
 go_wp2_with fail
 refine (C.out _).mono ?_
 rintro e w1 ⟨rfl,hb1⟩
 go_wp2
 go_ret3
 exact ⟨rfl,hb1⟩
set_option maxHeartbeats 1000000 in
set_option maxRecDepth 100000 in
theorem parts_ok (s a b:ByteArray) (f:Bool) (w:World) (C:Hid (∀ W,Calls Tryz.prog 36 #[.string s] W (RatPost W 0)))
  (HS:Hid (∀ W,Calls Tryz.prog 67 #[.string s] W (CutPost W a b f))) :
  Calls Tryz.prog 88 #[.string s] w (PartsPost w a (if f then b else ⟨#[49]⟩) 0):=by
 cases f
 all_goals
  go_enter Tryz.func88,Tryz.ntmps88
  go_wp2_with fail
  refine (C.out _).mono ?_
  rintro e w1 ⟨rfl,hb1⟩
  go_wp2_with fail
  refine (HS.out _).mono ?_
  rintro e w2 ⟨rfl,n,rfl⟩
  have hb2:=below_drewN hb1 n
  go_wp2
  go_ret3
  exact ⟨rfl,hb2⟩
theorem parts_any (s:ByteArray) (w:World) (hs:s.size≤4611686018427387904) :
  Calls Tryz.prog 88 #[.string s] w (PartsPost w (pN s) (pD s) (ratErr s)):=by
 have C:=Lib.hid (fun W => rat_any s W hs)
 unfold pN pD
 by_cases h:ratErr s=0
 ·rw [if_pos h,if_pos h]
  rw [h] at C ⊢
  rcases slash_cases s with h1 | ⟨o,h1,ho⟩
  ·have:=parts_ok s s ⟨#[]⟩ false w C (Lib.hid fun W => split_none s W h1)
   unfold numS denS
   rw [if_pos h1,if_pos h1]
   exact this
  ·have:=parts_ok s _ _ true w C (Lib.hid fun W => split_some s W o h1 ho hs)
   unfold numS denS
   have hne : ¬ slashI s = -1:=by rw [h1];omega
   rw [if_neg hne,if_neg hne,h1]
   exact this
 ·rw [if_neg h,if_neg h]
  exact parts_err s w _ h C
end Go.Proofs.YthdeijdimfjceaaGreatDoor

namespace Go.Proofs.YthdeijdimfjceaaGreatDoor
open Go.RowKit
def DivOk (w:World) (z:Int) (e:Ending) (w':World):Prop:=∃ t u,e = .returned (.tuple #[.string t,.string u,.int .i64 0])∧bl t=zStr z∧bl u=[48]∧Below w.heap.size w w'
set_option maxHeartbeats 2000000 in
set_option maxRecDepth 100000 in
theorem divmod_ok (a b:ByteArray) (w:World) (ha:a.size≤9223372036854775807) (hb:b.size≤9223372036854775807) (h0:intErr (bl a)=0) (h:intErr (bl b)=0) (hy0:dval (body (bl b)) ≠ 0) (hd:dval (body (bl b)) ∣ dval (body (bl a))) :
  Calls Tryz.prog 119 #[.string a,.string b] w (DivOk w (sgnv (!(isNeg (bl a) == isNeg (bl b))) (dval (body (bl a)) / dval (body (bl b))))):=by
 have HC:=Lib.hid (fun W => pair_ok a b W ha hb h0 h)
 have HA:=Lib.hid (dval_body_lt h0)
 have HB:=Lib.hid (dval_body_lt h)
 clear ha hb h0 h
 go_enter Tryz.func119,Tryz.ntmps119
 go_wp2_with fail
 refine (HC.out _).mono ?_
 rintro e w1 ⟨va,vb,xs,ys,rfl,sa,sb,nx,ny,vx,vy,hb1⟩
 have HZ:Hid (sgnv (!(isNeg (bl a) == isNeg (bl b))) (dval (body (bl a)) / dval (body (bl b)))=sgnv (!(isNeg (bl a) == isNeg (bl b))) (val 1000000000 xs / val 1000000000 ys)):=by show _=_;rw [vx,vy]
 rw [← vx] at hd
 rw [← vy] at hd hy0
 rw [← vx] at HA
 rw [← vy] at HB
 clear vx vy HC
 generalize isNeg (bl a)=na at *
 generalize isNeg (bl b)=nb at *
 obtain ⟨aa,ca,rfl,_⟩:=id sa
 obtain ⟨ab,cb,rfl,_⟩:=id sb
 have hb0:Below w1.heap.size w1 ((w1.alloc (.cells #[.bool na,.slice aa xs.length ca] 148)).alloc (.cells #[.bool nb,.slice ab ys.length cb] 148)):=below_a2 _ _ _
 have bx:Boxed2 ((w1.alloc (.cells #[.bool na,.slice aa xs.length ca] 148)).alloc (.cells #[.bool nb,.slice ab ys.length cb] 148)) w1.heap.size 148 (.bool na) (.slice aa xs.length ca):=(Boxed2.new _ _ _ _).alloc _
 have by1:Boxed2 ((w1.alloc (.cells #[.bool na,.slice aa xs.length ca] 148)).alloc (.cells #[.bool nb,.slice ab ys.length cb] 148)) (w1.heap.size+1) 148 (.bool nb) (.slice ab ys.length cb):=by
  have h:=Boxed2.new (w1.alloc (.cells #[.bool na,.slice aa xs.length ca] 148)) (.bool nb) (.slice ab ys.length cb) 148
  simp at h
  exact h
 have hbW:=hb1.trans (hb0.mono hb1.size)
 have sa0:=Lib.hid (sa.below hb0)
 have sb0:=Lib.hid (sb.below hb0)
 have lx:=grp_len nx HA.out
 have ly:=grp_len ny HB.out
 have x0:=bx.cell0
 have x1:=bx.cell1
 have y0:=by1.cell0
 have y1:=by1.cell1
 have BY:=Lib.hid by1
 clear bx by1 hb0 hb1 sa sb
 have hyne:ys ≠ []:=fun e => hy0 ((ny.val_zero (by decide)).2 e)
 have hylen:0 < ys.length:=List.length_pos_iff.2 hyne
 have HD:=Lib.hid (divide_any _ _ xs ys _ sa0.out sb0.out nx ny (by omega) (by omega) hyne)
 have Hdv:=Lib.hid hd
 have tq:((ys.length:Int) == 0)=false:=by rw [beq_eq_false_iff_ne];omega
 clear nx ny hyne hy0 hd
 go_wp2_with fail
 refine HD.out.mono ?_
 rintro e w2 ⟨vq,vr,qs,rs,rfl,sq,sr,nq,nr,eq,er,hb2⟩
 obtain rfl:rs=[]:=(nr.val_zero (by decide)).1 (by rw [er];exact Nat.mod_eq_zero_of_dvd Hdv.out)
 obtain ⟨ar,cr,rfl,_⟩:=id sr
 obtain ⟨aq,cq,rfl,_⟩:=id sq
 have hqlt:val 1000000000 qs < ten 1000:=by rw [eq];exact Nat.lt_of_le_of_lt (Nat.div_le_self _ _) HA.out
 have hz1:w1.heap.size+1 < ((w1.alloc (.cells #[.bool na,.slice aa xs.length ca] 148)).alloc (.cells #[.bool nb,.slice ab ys.length cb] 148)).heap.size:=BY.out.lt
 have x0':w2.cell? ⟨w1.heap.size,0,none⟩=some (.bool na):=by rw [hb2.cell (Nat.lt_of_succ_lt hz1)];exact x0
 have y0':w2.cell? ⟨w1.heap.size+1,0,none⟩=some (.bool nb):=by rw [hb2.cell hz1];exact y0
 have E0:=wErr_zero hqlt
 have hE:Hid (wErr (val 1000000000 qs)=0):=(E0 false).1
 have HR:=Lib.hid (fun W (h:Below w2.heap.size w2 W) => write_any false _ [] W (sr.below h) nr (by decide))
 have hbz2:=hbW.trans (hb2.mono hbW.size)
 have hE0:Hid (wErr (val 1000000000 [])=0):=by show _=_;decide
 have hS0:Hid (wStr false (val 1000000000 [])=[48]):=by show _=_;decide
 have HW:=Lib.hid (fun neg => write_any neg _ qs w2 sq nq (by have:=grp_len nq hqlt;omega))
 have hS:Hid (∀ neg,wStr neg (val 1000000000 qs)=zStr (sgnv neg (val 1000000000 xs / val 1000000000 ys))):=fun neg => by rw [← eq];exact wStr_sgnv _ _
 clear eq er sq sr nq nr HD x0 x1 y0 y1 hb2 hqlt E0 HA HB
 cases na
 case false =>
  go_wp2_with fail
  refine (HW.out nb).mono ?_
  rintro e w3 ⟨t,rfl,ht,hb3⟩
  rw [hE.out]
  have Ht:Hid (bl t=zStr (sgnv nb (val 1000000000 xs / val 1000000000 ys))):=ht.trans (hS.out nb)
  have HR3:=Lib.hid (HR.out w3 hb3)
  have hbz3:=hbz2.trans (hb3.mono hbz2.size)
  clear ht HW HR hb3 hbz2
  go_wp2_with fail
  refine HR3.out.mono ?_
  rintro e w4 ⟨u,rfl,hu,hb4⟩
  rw [hE0.out]
  have Hu:=Lib.hid (hu.trans hS0.out)
  have hbz4:=hbz3.trans (hb4.mono hbz3.size)
  clear hu hb4 hbz3
  go_wp2
  go_ret3
  rw [HZ.out]
  exact ⟨t,u,rfl,by rw [Ht.out];simp,Hu.out,hbz4⟩
 case true =>
  go_wp2_with fail
  refine (HW.out (!nb)).mono ?_
  rintro e w3 ⟨t,rfl,ht,hb3⟩
  rw [hE.out]
  have Ht:Hid (bl t=zStr (sgnv (!nb) (val 1000000000 xs / val 1000000000 ys))):=ht.trans (hS.out (!nb))
  have HR3:=Lib.hid (HR.out w3 hb3)
  have hbz3:=hbz2.trans (hb3.mono hbz2.size)
  clear ht HW HR hb3 hbz2
  go_wp2_with fail
  refine HR3.out.mono ?_
  rintro e w4 ⟨u,rfl,hu,hb4⟩
  rw [hE0.out]
  have Hu:=Lib.hid (hu.trans hS0.out)
  have hbz4:=hbz3.trans (hb4.mono hbz3.size)
  clear hu hb4 hbz3
  go_wp2
  go_ret3
  rw [HZ.out]
  exact ⟨t,u,rfl,by rw [Ht.out];simp,Hu.out,hbz4⟩
end Go.Proofs.YthdeijdimfjceaaGreatDoor

namespace Go.Proofs.YthdeijdimfjceaaGreatDoor
open Go.RowKit
def ratTxt (sg:Bool) (N D:Nat):List UInt8 :=
 if D / Nat.gcd N D=1 then istr sg (N / Nat.gcd N D) else istr sg (N / Nat.gcd N D) ++ [47] ++ istr false (D / Nat.gcd N D)
def MakeOk (w:World) (l:List UInt8) (e:Ending) (w':World):Prop:=∃ t,e = .returned (.tuple #[.string t,.int .i64 0])∧bl t=l∧Below w.heap.size w w'
theorem canon_zero {l:List UInt8} (h:canonI l=true):l=[48] ↔ dval (body l)=0:=by
 constructor
 ·rintro rfl;decide
 ·intro e
  rw [← canon_text h,e,isNeg]
  rfl
theorem bl_append (a b:ByteArray):bl (a ++ b)=bl a ++ bl b:=by simp [bl]
theorem istr_size {t:ByteArray} {sg:Bool} {n k:Nat} (h:bl t=istr sg n) (hn:n < ten k):t.size≤k+2:=by
 rw [← bl_length,h]
 by_cases h0:n=0
 ·subst h0;simp [istr]
 ·rw [istr_ne sg h0]
  have:=dig10_ten hn
  cases sg <;> simp [asc] <;> omega
theorem intErr_small {sg:Bool} {n:Nat} (h:n < ten 1000):intErr (istr sg n)=0:=by rw [intErr_istr];exact (wErr_zero h sg).1
theorem neg_head {b:ByteArray} (hp:0 < b.size):((b[0].toNat:Int) == 45)=isNeg (bl b):=by
 rw [Bool.eq_iff_iff,beq_iff_eq,bl_cons b hp]
 simp [isNeg]
 exact ⟨fun e => UInt8.toNat_inj.1 (by simpa using (by omega:b[0].toNat=45)),fun e => by rw [e];rfl⟩
set_option maxHeartbeats 4000000 in
set_option maxRecDepth 100000 in
theorem make_nb (a b:ByteArray) (w:World) (nb:Bool) (ha:a.size≤1100000) (hb:b.size≤1100000) (h0:intErr (bl a)=0) (h:intErr (bl b)=0) (hd0:dval (body (bl b)) ≠ 0) (hn:isNeg (bl b)=nb) :
  Calls Tryz.prog 94 #[.string a,.string b] w (MakeOk w (ratTxt (!(isNeg (bl a) == nb)) (dval (body (bl a))) (dval (body (bl b))))):=by
 have HG:=Lib.hid (fun W => gcd_ok a b W (by omega) (by omega) h0 h)
 have HA:=Lib.hid (dval_body_lt h0)
 have HB:=Lib.hid (dval_body_lt h)
 have hp:=canonI_pos (intErr_zero h).1
 have tz:=ne_lit (fun e => hd0 ((canon_zero (intErr_zero h).1).1 e):bl b ≠ [48])
 have t4:=neg_head hp
 rw [hn] at t4
 obtain ⟨c,hc⟩:∃ c,b[0]=c:=⟨_,rfl⟩
 rw [hc] at t4
 have hg0:Nat.gcd (dval (body (bl a))) (dval (body (bl b))) ≠ 0:=fun e => hd0 (Nat.eq_zero_of_gcd_eq_zero_right e)
 have hglt:=gcd_lt (dval_body_lt h0) (dval_body_lt h)
 have HN:Hid (∀ W (g:ByteArray),bl g=istr nb (Nat.gcd (dval (body (bl a))) (dval (body (bl b))))→Calls Tryz.prog 119 #[.string a,.string g] W (DivOk W (sgnv (!(isNeg (bl a) == nb)) (dval (body (bl a)) / Nat.gcd (dval (body (bl a))) (dval (body (bl b))))))):=Lib.hid fun W g hg => by
  have hs:=istr_size hg hglt
  have:=divmod_ok a g W (by omega) (by omega) h0 (by rw [hg];exact intErr_small hglt) (by rw [hg,dval_istr];exact hg0) (by rw [hg,dval_istr];exact Nat.gcd_dvd_left _ _)
  rwa [hg,dval_istr,isNeg_istr,decide_eq_true hg0,Bool.and_true] at this
 have HDn:Hid (∀ W (g:ByteArray),bl g=istr nb (Nat.gcd (dval (body (bl a))) (dval (body (bl b))))→Calls Tryz.prog 119 #[.string b,.string g] W (DivOk W (sgnv false (dval (body (bl b)) / Nat.gcd (dval (body (bl a))) (dval (body (bl b))))))):=Lib.hid fun W g hg => by
  have hs:=istr_size hg hglt
  have:=divmod_ok b g W (by omega) (by omega) h (by rw [hg];exact intErr_small hglt) (by rw [hg,dval_istr];exact hg0) (by rw [hg,dval_istr];exact Nat.gcd_dvd_right _ _)
  rwa [hg,dval_istr,isNeg_istr,decide_eq_true hg0,Bool.and_true,hn,beq_self_eq_true] at this
 have Hlt:=Lib.hid hglt
 have HG0:=Lib.hid hg0
 clear ha hb h0 h hd0 hn hg0 hglt
 rw [ratTxt]
 generalize dval (body (bl a))=N at *
 generalize dval (body (bl b))=D at *
 generalize isNeg (bl a)=na at *
 generalize Nat.gcd N D=G at *
 have hqlt:N / G < ten 1000:=Nat.lt_of_le_of_lt (Nat.div_le_self _ _) HA.out
 have hrlt:D / G < ten 1000:=Nat.lt_of_le_of_lt (Nat.div_le_self _ _) HB.out
 generalize N / G=q at *
 generalize D / G=r at *
 have Hq:Hid (∀ sg,zStr (sgnv sg q)=istr sg q):=fun sg => by rw [← wStr_sgnv];exact (wErr_zero hqlt sg).2
 have Hr:Hid (∀ sg,zStr (sgnv sg r)=istr sg r):=fun sg => by rw [← wStr_sgnv];exact (wErr_zero hrlt sg).2
 generalize (!(na == nb))=sg at HN ⊢
 have Hql:=Lib.hid hqlt
 have Hrl:=Lib.hid hrlt
 obtain ⟨P,hP⟩:∃ P,P=MakeOk w (if r=1 then istr sg q else istr sg q ++ [47] ++ istr false r):=⟨_,rfl⟩
 rw [← hP]
 have HP:=Lib.hid hP
 clear hqlt hrlt HA HB hP
 go_enter Tryz.func94,Tryz.ntmps94
 go_wp2_with fail
 refine (HG.out _).mono ?_
 rintro e w1 ⟨g,rfl,hg,hb1⟩
 have hgs:g.size≤1002:=istr_size hg Hlt.out
 cases nb
 have hg2:Hid (bl g=istr false G):=Lib.hid hg
 rotate_left
 have hg2:Hid (bl (⟨#[45]⟩ ++ g)=istr true G):=Lib.hid (by rw [bl_append,hg,istr_ne true HG0.out,istr_ne false HG0.out];rfl)
 rotate_left
 all_goals
  clear hg HG
  go_wp2_with fail
  refine (HN.out _ _ hg2.out).mono ?_
  rintro e w2 ⟨x,x2,rfl,hx,hx2,hb2⟩
  have Hx:=Lib.hid (hx.trans (Hq.out sg))
  have hbb:=hb1.trans (hb2.mono hb1.size)
  clear hx hx2 hb1 hb2
  go_wp2_with fail
  refine (HDn.out _ _ hg2.out).mono ?_
  rintro e w3 ⟨y,y2,rfl,hy,hy2,hb3⟩
  have hyy:=hy.trans (Hr.out false)
  have hbz:=hbb.trans (hb3.mono hbb.size)
  clear hy hbb hb3 HN HDn
  by_cases h1:r=1
  ·have ey:y=⟨#[49]⟩:=eq_lit (by rw [hyy,h1];decide)
   have HF:Hid (P (.returned (.tuple #[.string x,.int .i64 0])) w3):=Lib.hid (by rw [HP.out,if_pos h1];exact ⟨x,rfl,Hx.out,hbz⟩)
   subst ey
   clear hyy h1 hy2
   go_wp2
   exact HF.out
  ·have ey:(y.toList == [49])=false:=ne_lit (fun e => h1 ((istr_one r).1 (by rw [← hyy];exact e)))
   have HF:Hid (∀ t,bl t=bl x ++ [47] ++ bl y→P (.returned (.tuple #[.string t,.int .i64 0])) w3):=Lib.hid fun t ht => by rw [HP.out,if_neg h1];exact ⟨_,rfl,by rw [ht,Hx.out,hyy],hbz⟩
   have hxs:x.size≤1002:=istr_size Hx.out Hql.out
   have hys:y.size≤1002:=istr_size hyy Hrl.out
   clear hyy h1 hy2
   go_wp2
   exact HF.out _ (by rw [bl_append,bl_append];rfl)
theorem make_ok (a b:ByteArray) (w:World) (ha:a.size≤1100000) (hb:b.size≤1100000) (h0:intErr (bl a)=0) (h:intErr (bl b)=0) (hd0:dval (body (bl b)) ≠ 0) :
  Calls Tryz.prog 94 #[.string a,.string b] w (MakeOk w (ratTxt (!(isNeg (bl a) == isNeg (bl b))) (dval (body (bl a))) (dval (body (bl b))))):=make_nb a b w _ ha hb h0 h hd0 rfl
end Go.Proofs.YthdeijdimfjceaaGreatDoor

namespace Go.Proofs.YthdeijdimfjceaaGreatDoor
open Go.RowKit
def Pair5 (W:World) (P:Nat) (n0 n1 d0 d1:ByteArray) (e:Int):Prop:=W.heap[P]? = some (.cells #[.string n0,.string n1,.string d0,.string d1,.int .i64 e] 111 (0,0))
theorem Pair5.lt {W:World} {P:Nat} {n0 n1 d0 d1:ByteArray} {e:Int} (h:Pair5 W P n0 n1 d0 d1 e):P < W.heap.size:=(Array.getElem?_eq_some_iff.1 h).1
theorem Pair5.cells {W:World} {P:Nat} {n0 n1 d0 d1:ByteArray} {e:Int} (h:Pair5 W P n0 n1 d0 d1 e) :
  W.cell? ⟨P,0,none⟩=some (.string n0)∧W.cell? ⟨P,1,none⟩=some (.string n1)∧W.cell? ⟨P,2,none⟩=some (.string d0)∧W.cell? ⟨P,3,none⟩=some (.string d1)∧W.cell? ⟨P,4,none⟩=some (.int .i64 e):=by
 simp [World.cell?,show W.heap[P]? = _ from h]
theorem Pair5.frozen {W:World} {P:Nat} {n0 n1 d0 d1:ByteArray} {e:Int} (h:Pair5 W P n0 n1 d0 d1 e) (o:Nat):W.frozen? ⟨P,o,none⟩=false:=by simp [World.frozen?,show W.heap[P]? = _ from h]
theorem Pair5.of_block {W W':World} {P:Nat} {n0 n1 d0 d1:ByteArray} {e:Int} (h:Pair5 W P n0 n1 d0 d1 e) (k:W'.heap[P]? = W.heap[P]?):Pair5 W' P n0 n1 d0 d1 e:=k.trans h
theorem Pair5.below {W W':World} {P:Nat} {n0 n1 d0 d1:ByteArray} {e:Int} (h:Pair5 W P n0 n1 d0 d1 e) (hb:Below W.heap.size W W'):Pair5 W' P n0 n1 d0 d1 e:=h.of_block (hb.block _ h.lt)
theorem Pair5.setE {W:World} {P:Nat} {n0 n1 d0 d1:ByteArray} {e:Int} (h:Pair5 W P n0 n1 d0 d1 e) (x:Int):Pair5 (W.setCell ⟨P,4,none⟩ (.int .i64 x)) P n0 n1 d0 d1 x:=heap_set_same h 4 (.int .i64 x)
theorem Pair5.set0 {W:World} {P:Nat} {n0 n1 d0 d1:ByteArray} {e:Int} (h:Pair5 W P n0 n1 d0 d1 e) (x y:ByteArray) (z:Int) :
  Pair5 (((W.setCell ⟨P,0,none⟩ (.string x)).setCell ⟨P,2,none⟩ (.string y)).setCell ⟨P,4,none⟩ (.int .i64 z)) P x n1 y d1 z :=
 heap_set_same (heap_set_same (heap_set_same h 0 (.string x)) 2 (.string y)) 4 (.int .i64 z)
theorem Pair5.set1 {W:World} {P:Nat} {n0 n1 d0 d1:ByteArray} {e:Int} (h:Pair5 W P n0 n1 d0 d1 e) (x y:ByteArray) (z:Int) :
  Pair5 (((W.setCell ⟨P,1,none⟩ (.string x)).setCell ⟨P,3,none⟩ (.string y)).setCell ⟨P,4,none⟩ (.int .i64 z)) P n0 x d0 y z :=
 heap_set_same (heap_set_same (heap_set_same h 1 (.string x)) 3 (.string y)) 4 (.int .i64 z)
def bN1 (a b:ByteArray):ByteArray:=if ratErr a=0 then pN b else ⟨#[]⟩
def bD1 (a b:ByteArray):ByteArray:=if ratErr a=0 then pD b else ⟨#[]⟩
def bE (a b:ByteArray):Int:=if ratErr a=0 then ratErr b else ratErr a
def BothPost (w:World) (a b:ByteArray) (e:Ending) (w':World):Prop :=
 ∃ P,e = .returned (.pointer (some ⟨P,0,none⟩))∧w.heap.size≤P∧Pair5 w' P (pN a) (bN1 a b) (pD a) (bD1 a b) (bE a b)∧Below w.heap.size w w'
def BothSt (a b:ByteArray) (k:Nat) (n0 n1 d0 d1:ByteArray) (e:Int):Prop :=
 match k with
 | 0 => n0=⟨#[]⟩∧n1=⟨#[]⟩∧d0=⟨#[]⟩∧d1=⟨#[]⟩∧e=0
 | 1 => n0=pN a∧n1=⟨#[]⟩∧d0=pD a∧d1=⟨#[]⟩∧e=ratErr a
 | _ => n0=pN a∧n1=bN1 a b∧d0=pD a∧d1=bD1 a b∧e=bE a b
theorem index_two (a b:ByteArray) (W:World):(Instr.index 143 (.agg #[.string a,.string b]) (.int .i64 0)).run Tryz.prog W = .ok (.string a) W∧(Instr.index 143 (.agg #[.string a,.string b]) (.int .i64 1)).run Tryz.prog W = .ok (.string b) W:=by
 constructor <;> simp [Instr.index,run_underlying Tryz.underlying143,asIntOf,go_sem]
set_option maxHeartbeats 2000000 in
set_option maxRecDepth 100000 in
theorem both_ab (a b:ByteArray) (w:World) (ha:a.size≤4611686018427387904) (hb:b.size≤4611686018427387904) :
  Calls Tryz.prog 48 #[.string a,.string b] w (BothPost w a b):=by
 have HPa:=Lib.hid (fun W => parts_any a W ha)
 have HPb:=Lib.hid (fun W => parts_any b W hb)
 clear ha hb
 have HP0:Hid (Pair5 (w.alloc (.cells #[.string ⟨#[]⟩,.string ⟨#[]⟩,.string ⟨#[]⟩,.string ⟨#[]⟩,.int .i64 0] 111)) w.heap.size ⟨#[]⟩ ⟨#[]⟩ ⟨#[]⟩ ⟨#[]⟩ 0):=by
  show (w.heap.push _)[w.heap.size]? = _
  simp
 have hb0:=below_a1 w (.cells #[.string ⟨#[]⟩,.string ⟨#[]⟩,.string ⟨#[]⟩,.string ⟨#[]⟩,.int .i64 0] 111)
 have HB0:=Lib.hid hb0
 clear hb0
 have hx0:=fun W => (index_two a b W).1
 have hx1:=fun W => (index_two a b W).2
 go_enter Tryz.func48,Tryz.ntmps48
 go_wp2_with fail
 go_loopw [13] (fun i wr => ∃ (k:Nat) (ki:Int) (n0 n1 d0 d1:ByteArray) (er:Int),k≤2∧ki=(k:Int)∧i = .int .i64 ki∧Hid (BothSt a b k n0 n1 d0 d1 er)∧Pair5 wr w.heap.size n0 n1 d0 d1 er∧Below w.heap.size w wr) (fun i _ => 2 - (intOf i).toNat)
 case atStart => exact ⟨0,0,_,_,_,_,_,by omega,rfl,rfl,Lib.hid ⟨rfl,rfl,rfl,rfl,rfl⟩,HP0.out,HB0.out⟩
 case round =>
  obtain ⟨k,ki,n0,n1,d0,d1,er,hk,hki,rfl,HS,hp,hbel⟩:=hrel
  have hk3:k=0∨k=1∨k=2:=by omega
  clear hk
  rcases hk3 with rfl | rfl | rfl
  ·obtain rfl:ki=0:=by omega
   clear hki
   obtain ⟨rfl,rfl,rfl,rfl,rfl⟩:=HS.out
   have c:=hp.cells
   have cc:=fun W (hb:Below wr.heap.size wr W) => (hp.below hb).cells
   have ff:=fun W (hb:Below wr.heap.size wr W) o => (hp.below hb).frozen o
   have HC:=Lib.hid (And.intro cc ff)
   have q4:=c.2.2.2.2
   have Hp:=Lib.hid hp
   clear c cc ff hp
   go_wp2_with fail
   go_region_held3 (fun _ => True) (exact trivial)
    (first | (go_at_call 88;refine (HPa.out _).mono ?_;rintro e w2 ⟨rfl,hb2⟩;have hb3:Below wr.heap.size wr w2:=(Below.drew (Below.refl _ _)).trans hb2;obtain ⟨p0,p1,p2,p3,p4⟩:=HC.out.1 _ hb3;have f0:=HC.out.2 _ hb3 0;have f2:=HC.out.2 _ hb3 2;have f4:=HC.out.2 _ hb3 4))
   have hp3:=Lib.hid ((Hp.out.below hb3).set0 (pN a) (pD a) (ratErr a))
   have hbl3:=Lib.hid ((((hbel.trans (hb3.mono hbel.size)).setCell (p:=⟨w.heap.size,0,none⟩) (Nat.le_refl _) (.string (pN a))).setCell (p:=⟨w.heap.size,2,none⟩) (Nat.le_refl _) (.string (pD a))).setCell (p:=⟨w.heap.size,4,none⟩) (Nat.le_refl _) (.int .i64 (ratErr a)))
   clear p0 p1 p2 p3 p4 f0 f2 f4 hbel hb2 hb3
   go_wp2
   go_roundw
   case rel => exact ⟨1,1,_,_,_,_,_,by omega,rfl,by go_num,Lib.hid ⟨rfl,rfl,rfl,rfl,rfl⟩,hp3.out,hbl3.out⟩
   case measure => simp [intOf]
  ·obtain rfl:ki=1:=by omega
   clear hki
   obtain ⟨rfl,rfl,rfl,rfl,rfl⟩:=HS.out
   by_cases he:ratErr a=0
   ·have t0:(ratErr a == 0)=true:=by rw [beq_iff_eq];exact he
    have HE:Hid (BothSt a b 2 (pN a) (pN b) (pD a) (pD b) (ratErr b)):=⟨rfl,by rw [bN1,if_pos he],rfl,by rw [bD1,if_pos he],by rw [bE,if_pos he]⟩
    clear he
    have c:=hp.cells
    have cc:=fun W (hb:Below wr.heap.size wr W) => (hp.below hb).cells
    have ff:=fun W (hb:Below wr.heap.size wr W) o => (hp.below hb).frozen o
    have HC:=Lib.hid (And.intro cc ff)
    have q4:=c.2.2.2.2
    have Hp:=Lib.hid hp
    clear c cc ff hp
    go_wp2_with fail
    go_region_held3 (fun _ => True) (exact trivial)
     (first | (go_at_call 88;refine (HPb.out _).mono ?_;rintro e w2 ⟨rfl,hb2⟩;have hb3:Below wr.heap.size wr w2:=(Below.drew (Below.refl _ _)).trans hb2;obtain ⟨p0,p1,p2,p3,p4⟩:=HC.out.1 _ hb3;have f1:=HC.out.2 _ hb3 1;have f3:=HC.out.2 _ hb3 3;have f4:=HC.out.2 _ hb3 4))
    have hp3:=Lib.hid ((Hp.out.below hb3).set1 (pN b) (pD b) (ratErr b))
    have hbl3:=Lib.hid ((((hbel.trans (hb3.mono hbel.size)).setCell (p:=⟨w.heap.size,1,none⟩) (Nat.le_refl _) (.string (pN b))).setCell (p:=⟨w.heap.size,3,none⟩) (Nat.le_refl _) (.string (pD b))).setCell (p:=⟨w.heap.size,4,none⟩) (Nat.le_refl _) (.int .i64 (ratErr b)))
    clear p0 p1 p2 p3 p4 f1 f3 f4 hbel hb2 hb3
    go_wp2
    go_roundw
    case rel => exact ⟨2,2,_,_,_,_,_,by omega,rfl,by go_num,HE,hp3.out,hbl3.out⟩
    case measure => simp [intOf]
   ·have t0:(ratErr a == 0)=false:=by rw [beq_eq_false_iff_ne];exact he
    have HE:Hid (BothSt a b 2 (pN a) ⟨#[]⟩ (pD a) ⟨#[]⟩ (ratErr a)):=⟨rfl,by rw [bN1,if_neg he],rfl,by rw [bD1,if_neg he],by rw [bE,if_neg he]⟩
    clear he
    have q4:=hp.cells.2.2.2.2
    have hp3:=Lib.hid hp
    have hbl3:=Lib.hid hbel
    clear hp hbel
    go_wp2
    go_roundw
    case rel => exact ⟨2,2,_,_,_,_,_,by omega,rfl,by go_num,HE,hp3.out,hbl3.out⟩
    case measure => simp [intOf]
  ·obtain rfl:ki=2:=by omega
   clear hki
   obtain ⟨rfl,rfl,rfl,rfl,rfl⟩:=HS.out
   have HF:Hid (BothPost w a b (.returned (.pointer (some ⟨w.heap.size,0,none⟩))) wr):=⟨_,rfl,Nat.le_refl _,hp,hbel⟩
   clear hp hbel
   go_wp2
   go_ret
   exact HF.out
end Go.Proofs.YthdeijdimfjceaaGreatDoor

namespace Go.Proofs.YthdeijdimfjceaaGreatDoor
open Go.RowKit
def Cap (W:World) (P B f:Nat):Prop :=
 W.heap[B]? = some (.cells #[.pointer (some ⟨P,0,none⟩)] 102 (0,0))∧W.heap[B+1]? = some (.cells #[.func (.func f) #[] #[]] 106 (0,0))
def KPost (w:World) (P:Nat) (Q:ByteArray→Int→Prop) (e:Ending) (w':World):Prop:=∃ t er w2,e = .returned (.string t)∧Hid (Q t er)∧Below w.heap.size w w2∧w'=w2.setCell ⟨P,4,none⟩ (.int .i64 er)
theorem Cap.below {W W':World} {P B f:Nat} (h:Cap W P B f) (hb:Below W.heap.size W W'):Cap W' P B f :=
 ⟨(hb.block _ (Array.getElem?_eq_some_iff.1 h.1).1).trans h.1,(hb.block _ (Array.getElem?_eq_some_iff.1 h.2).1).trans h.2⟩
theorem Cap.lt {W:World} {P B f:Nat} (h:Cap W P B f):B+1 < W.heap.size:=(Array.getElem?_eq_some_iff.1 h.2).1
theorem Cap.setCell {W:World} {P B f:Nat} (h:Cap W P B f) {a:Addr} (h1:a.block ≠ B) (h2:a.block ≠ B+1) (u:Value):Cap (W.setCell a u) P B f :=
 ⟨(Below.heap_setCell _ _ _ _ h1.symm).trans h.1,(Below.heap_setCell _ _ _ _ h2.symm).trans h.2⟩
theorem Cap.ne {W:World} {P B f:Nat} (h:Cap W P B f) {n0 n1 d0 d1:ByteArray} {e:Int} (hp:Pair5 W P n0 n1 d0 d1 e):P ≠ B∧P ≠ B+1:=by
 constructor
 ·rintro rfl
  have:=h.1.symm.trans hp
  simp at this
 ·rintro rfl
  have:=h.2.symm.trans hp
  simp at this
theorem Cap.cells {W:World} {P B f:Nat} (h:Cap W P B f):W.cell? ⟨B,0,none⟩=some (.pointer (some ⟨P,0,none⟩))∧W.cell? ⟨B+1,0,none⟩=some (.func (.func f) #[] #[]):=by
 simp [World.cell?,h.1,h.2]
set_option maxHeartbeats 1000000 in
set_option maxRecDepth 100000 in
theorem keepr_any (P f:Nat) (w:World) :
  Calls Tryz.prog 49 #[.pointer (some ⟨P,0,none⟩),.func (.func f) #[] #[]] w fun e w' => e = .returned (.func (.func 89) #[] #[.pointer (some ⟨w.heap.size,0,none⟩),.pointer (some ⟨w.heap.size+1,0,none⟩)])∧Cap w' P w.heap.size f∧Below w.heap.size w w':=by
 have hc:Hid (Cap ((w.alloc (.cells #[.pointer (some ⟨P,0,none⟩)] 102)).alloc (.cells #[.func (.func f) #[] #[]] 106)) P w.heap.size f):=by
  constructor
  ·show ((w.heap.push _).push _)[w.heap.size]? = _
   rw [Array.getElem?_push,if_neg (by simp),Array.getElem?_push,if_pos rfl]
  ·show ((w.heap.push _).push _)[w.heap.size+1]? = _
   rw [Array.getElem?_push,if_pos (by simp)]
 have hb:=Lib.hid (below_a2 w (.cells #[.pointer (some ⟨P,0,none⟩)] 102) (.cells #[.func (.func f) #[] #[]] 106))
 go_enter Tryz.func49,Tryz.ntmps49
 go_wp2
 go_ret
 exact ⟨rfl,hc.out,hb.out⟩
set_option maxHeartbeats 1000000 in
set_option maxRecDepth 100000 in
theorem keep1_err (a b:ByteArray) (P B f:Nat) (n0 n1 d0 d1:ByteArray) (er:Int) (w:World) (hc:Cap w P B f) (hp:Pair5 w P n0 n1 d0 d1 er) (he:er ≠ 0) :
  Calls Tryz.prog 89 #[.string a,.string b,.pointer (some ⟨B,0,none⟩),.pointer (some ⟨B+1,0,none⟩)] w fun e w' => e = .returned (.string ⟨#[]⟩)∧w=w':=by
 have c1:=hc.cells.1
 have q4:=hp.cells.2.2.2.2
 have t1:(er != 0)=true:=by rw [bne_iff_ne];exact he
 clear hc hp he
 go_enter Tryz.func89,Tryz.ntmps89
 go_wp2
 go_ret
 exact ⟨rfl,rfl⟩
set_option maxHeartbeats 2000000 in
set_option maxRecDepth 100000 in
theorem keep1_mul (a b:ByteArray) (P B:Nat) (n0 n1 d0 d1:ByteArray) (w:World) (hc:Cap w P B 50) (hp:Pair5 w P n0 n1 d0 d1 0) (Q:ByteArray→Int→Prop)
  (HO:Hid (∀ W,Calls Tryz.prog 50 #[.string a,.string b] W fun e w' => ∃ t er,e = .returned (.tuple #[.string t,.int .i64 er])∧Hid (Q t er)∧Below W.heap.size W w')) :
  Calls Tryz.prog 89 #[.string a,.string b,.pointer (some ⟨B,0,none⟩),.pointer (some ⟨B+1,0,none⟩)] w (KPost w P Q):=by
 obtain ⟨c1,c2⟩:=hc.cells
 have q4:=hp.cells.2.2.2.2
 have HZ:Hid (∀ W,Below w.heap.size w W→W.cell? ⟨B,0,none⟩=some (.pointer (some ⟨P,0,none⟩))∧W.cell? ⟨B+1,0,none⟩=some (.func (.func 50) #[] #[])∧W.cell? ⟨P,4,none⟩=some (.int .i64 0)∧W.frozen? ⟨P,4,none⟩=false) :=
  fun W hb => ⟨(hc.below hb).cells.1,(hc.below hb).cells.2,(hp.below hb).cells.2.2.2.2,(hp.below hb).frozen 4⟩
 have hne:=hc.ne hp
 have Hne:=Lib.hid hne
 clear hne
 clear hc hp
 go_enter Tryz.func89,Tryz.ntmps89
 go_wp2_with fail
 have hne:=Hne.out
 have hb0:Below w.heap.size w w.drew:=Below.drew (Below.refl _ _)
 go_region_held3 (fun w' => w'.cell? ⟨B,0,none⟩=some (.pointer (some ⟨P,0,none⟩))∧w'.cell? ⟨B+1,0,none⟩=some (.func (.func 50) #[] #[]))
  (first | assumption | exact ⟨by assumption,by assumption⟩ | (refine ⟨?_,?_⟩ <;> (rw [World.cell?_setCell_far _ _ _ _ (by first | exact hne.1 | exact hne.2)];assumption)) | go_keep)
  (first | (go_at_call 50;refine (HO.out _).mono ?_;rintro e w2 ⟨t,er,rfl,hq,hb2⟩;have hb3:=hb0.trans hb2;obtain ⟨p1,p2,p3,p4⟩:=HZ.out _ hb3))
 have HF:Hid (KPost w P Q (.returned (.string t)) (w2.setCell ⟨P,4,none⟩ (.int .i64 er))):=⟨t,er,w2,rfl,hq,hb3,rfl⟩
 clear hq hb3 hb2 p1 p2 p3 p4
 go_wp2
 go_ret
 exact HF.out
set_option maxHeartbeats 2000000 in
set_option maxRecDepth 100000 in
theorem keep1_add (a b:ByteArray) (P B:Nat) (n0 n1 d0 d1:ByteArray) (w:World) (hc:Cap w P B 51) (hp:Pair5 w P n0 n1 d0 d1 0) (Q:ByteArray→Int→Prop)
  (HO:Hid (∀ W,Calls Tryz.prog 51 #[.string a,.string b] W fun e w' => ∃ t er,e = .returned (.tuple #[.string t,.int .i64 er])∧Hid (Q t er)∧Below W.heap.size W w')) :
  Calls Tryz.prog 89 #[.string a,.string b,.pointer (some ⟨B,0,none⟩),.pointer (some ⟨B+1,0,none⟩)] w (KPost w P Q):=by
 obtain ⟨c1,c2⟩:=hc.cells
 have q4:=hp.cells.2.2.2.2
 have HZ:Hid (∀ W,Below w.heap.size w W→W.cell? ⟨B,0,none⟩=some (.pointer (some ⟨P,0,none⟩))∧W.cell? ⟨B+1,0,none⟩=some (.func (.func 51) #[] #[])∧W.cell? ⟨P,4,none⟩=some (.int .i64 0)∧W.frozen? ⟨P,4,none⟩=false) :=
  fun W hb => ⟨(hc.below hb).cells.1,(hc.below hb).cells.2,(hp.below hb).cells.2.2.2.2,(hp.below hb).frozen 4⟩
 have hne:=hc.ne hp
 have Hne:=Lib.hid hne
 clear hne
 clear hc hp
 go_enter Tryz.func89,Tryz.ntmps89
 go_wp2_with fail
 have hne:=Hne.out
 have hb0:Below w.heap.size w w.drew:=Below.drew (Below.refl _ _)
 go_region_held3 (fun w' => w'.cell? ⟨B,0,none⟩=some (.pointer (some ⟨P,0,none⟩))∧w'.cell? ⟨B+1,0,none⟩=some (.func (.func 51) #[] #[]))
  (first | assumption | exact ⟨by assumption,by assumption⟩ | (refine ⟨?_,?_⟩ <;> (rw [World.cell?_setCell_far _ _ _ _ (by first | exact hne.1 | exact hne.2)];assumption)) | go_keep)
  (first | (go_at_call 51;refine (HO.out _).mono ?_;rintro e w2 ⟨t,er,rfl,hq,hb2⟩;have hb3:=hb0.trans hb2;obtain ⟨p1,p2,p3,p4⟩:=HZ.out _ hb3))
 have HF:Hid (KPost w P Q (.returned (.string t)) (w2.setCell ⟨P,4,none⟩ (.int .i64 er))):=⟨t,er,w2,rfl,hq,hb3,rfl⟩
 clear hq hb3 hb2 p1 p2 p3 p4
 go_wp2
 go_ret
 exact HF.out
set_option maxHeartbeats 1000000 in
set_option maxRecDepth 100000 in
theorem made_err (x y:ByteArray) (P:Nat) (n0 n1 d0 d1:ByteArray) (er:Int) (w:World) (hp:Pair5 w P n0 n1 d0 d1 er) (he:er ≠ 0) :
  Calls Tryz.prog 52 #[.pointer (some ⟨P,0,none⟩),.string x,.string y] w (GcdErr w er):=by
 have q4:=hp.cells.2.2.2.2
 have t1:(er != 0)=true:=by rw [bne_iff_ne];exact he
 clear hp he
 go_enter Tryz.func52,Tryz.ntmps52
 go_wp2_with fail
 go_quiet (fail)
 go_wp2
 go_ret2
 exact ⟨rfl,below_drewN (Below.refl _ _) _⟩
set_option maxHeartbeats 1000000 in
set_option maxRecDepth 100000 in
theorem made_ok (x y:ByteArray) (P:Nat) (n0 n1 d0 d1:ByteArray) (w:World) (hp:Pair5 w P n0 n1 d0 d1 0) (l:List UInt8) (HM:Hid (∀ W,Calls Tryz.prog 94 #[.string x,.string y] W (MakeOk W l))) :
  Calls Tryz.prog 52 #[.pointer (some ⟨P,0,none⟩),.string x,.string y] w (MakeOk w l):=by
 have q4:=hp.cells.2.2.2.2
 clear hp
 go_enter Tryz.func52,Tryz.ntmps52
 go_wp2_with fail
 refine (HM.out _).mono ?_
 rintro e w1 ⟨t,rfl,ht,hb⟩
 have Ht:=Lib.hid ht
 clear ht
 go_wp2
 go_ret2
 exact ⟨t,rfl,Ht.out,hb⟩
end Go.Proofs.YthdeijdimfjceaaGreatDoor

namespace Go.Proofs.YthdeijdimfjceaaGreatDoor
open Go.RowKit
theorem wErr_cases (n:Nat):(wErr n=0∧∀ neg,wStr neg n=istr neg n)∨(wErr n=14∧∀ neg,wStr neg n=[]):=by
 by_cases h:1000 < (dig10 n).length
 ·right;simp [wErr,wStr,h]
 ·left;simp [wErr,wStr,h]
end Go.Proofs.YthdeijdimfjceaaGreatDoor

namespace Go.Proofs.YthdeijdimfjceaaGreatDoor
open Go.RowKit
def StepR (a b:List UInt8) (z er:Int) (t:List UInt8) (er':Int):Prop :=
 (er ≠ 0∧t=[]∧er'=er)∨(er=0∧pairErr a b ≠ 0∧t=[]∧er'=pairErr a b)∨(er=0∧pairErr a b=0∧er'=zErr z∧t=zStr z)
theorem zStr_len (z:Int):(zStr z).length≤1002:=by
 rw [zStr,wStr]
 split
 ·simp
 ·rename_i h
  by_cases h0:z.natAbs=0
  ·rw [h0];simp [istr]
  ·rw [istr_ne _ h0]
   split <;> simp [asc] <;> omega
theorem StepR.len {a b t:List UInt8} {z er er':Int} (h:StepR a b z er t er'):t.length≤1002:=by
 rcases h with ⟨_,rfl,_⟩ | ⟨_,_,rfl,_⟩ | ⟨_,_,_,rfl⟩
 ·simp
 ·simp
 ·exact zStr_len z
theorem StepR.zero {a b t:List UInt8} {z er er':Int} (h:StepR a b z er t er') (h0:er'=0):er=0∧zErr z=0∧t=istr (decide (z < 0)) z.natAbs:=by
 rcases h with ⟨h1,_,h2⟩ | ⟨_,h1,_,h2⟩ | ⟨h1,_,h2,rfl⟩
 ·exact absurd (h2.symm.trans h0) h1
 ·exact absurd (h2.symm.trans h0) h1
 ·have h3:zErr z=0:=h2.symm.trans h0
  refine ⟨h1,h3,?_⟩
  rcases wErr_cases z.natAbs with ⟨_,k⟩ | ⟨k,_⟩
  ·exact k _
  ·rw [zErr,k] at h3;cases h3
theorem opPost_step {w w':World} {a b:List UInt8} {z:Int} {e:Ending} (h:OpPost w a b z e w'):∃ t er,e = .returned (.tuple #[.string t,.int .i64 er])∧StepR a b z 0 (bl t) er∧Below w.heap.size w w':=by
 unfold OpPost at h
 split at h
 ·rename_i h0
  obtain ⟨t,rfl,ht,hb⟩:=h
  exact ⟨t,_,rfl,.inr (.inr ⟨rfl,h0,rfl,ht⟩),hb⟩
 ·rename_i h0
  obtain ⟨rfl,hb⟩:=h
  exact ⟨_,_,rfl,.inr (.inl ⟨rfl,h0,rfl,rfl⟩),hb⟩
structure PSt (w W:World) (P Bm Ba fm fa:Nat) (n0 n1 d0 d1:ByteArray) (er:Int):Prop where
 p:Pair5 W P n0 n1 d0 d1 er
 m:Cap W P Bm fm
 k:Cap W P Ba fa
 b:Below w.heap.size w W
 hP:w.heap.size≤P
theorem PSt.step {w W W2:World} {P Bm Ba fm fa:Nat} {n0 n1 d0 d1:ByteArray} {er:Int} (h:PSt w W P Bm Ba fm fa n0 n1 d0 d1 er) (hb:Below W.heap.size W W2) (x:Int):PSt w (W2.setCell ⟨P,4,none⟩ (.int .i64 x)) P Bm Ba fm fa n0 n1 d0 d1 x :=
 ⟨(h.p.below hb).setE x,(h.m.below hb).setCell (h.m.ne h.p).1 (h.m.ne h.p).2 _,(h.k.below hb).setCell (h.k.ne h.p).1 (h.k.ne h.p).2 _,(h.b.trans (hb.mono h.b.size)).setCell h.hP _,h.hP⟩
theorem PSt.drew {w W:World} {P Bm Ba fm fa:Nat} {n0 n1 d0 d1:ByteArray} {er:Int} (h:PSt w W P Bm Ba fm fa n0 n1 d0 d1 er):PSt w W.drew P Bm Ba fm fa n0 n1 d0 d1 er :=
 ⟨h.p.of_block rfl,h.m,h.k,h.b.drew,h.hP⟩
theorem pst_mul {w W:World} {P Bm Ba fa:Nat} {n0 n1 d0 d1:ByteArray} {er:Int} (h:PSt w W P Bm Ba 50 fa n0 n1 d0 d1 er) (a b:ByteArray) (ha:a.size≤1100000) (hb:b.size≤1100000) :
  Calls Tryz.prog 89 #[.string a,.string b,.pointer (some ⟨Bm,0,none⟩),.pointer (some ⟨Bm+1,0,none⟩)] W fun e w' => ∃ t er',e = .returned (.string t)∧Hid (StepR (bl a) (bl b) (ival (bl a) * ival (bl b)) er (bl t) er')∧PSt w w' P Bm Ba 50 fa n0 n1 d0 d1 er':=by
 by_cases he:er=0
 ·subst he
  refine (keep1_mul a b P Bm n0 n1 d0 d1 W h.m h.p (fun t er => StepR (bl a) (bl b) (ival (bl a) * ival (bl b)) 0 (bl t) er) (Lib.hid fun W' => ?_)).mono ?_
  ·refine (imul_any a b W' (by omega) (by omega)).mono fun e w' k => ?_
   obtain ⟨t,er,h1,h2,h3⟩:=opPost_step k
   exact ⟨t,er,h1,h2,h3⟩
  ·rintro e w' ⟨t,er',w2,rfl,hq,hb2,rfl⟩
   exact ⟨t,er',rfl,hq,h.step hb2 er'⟩
 ·refine (keep1_err a b P Bm 50 n0 n1 d0 d1 er W h.m h.p he).mono ?_
  rintro e w' ⟨rfl,rfl⟩
  exact ⟨_,er,rfl,.inl ⟨he,rfl,rfl⟩,h⟩
theorem pst_add {w W:World} {P Bm Ba fm:Nat} {n0 n1 d0 d1:ByteArray} {er:Int} (h:PSt w W P Bm Ba fm 51 n0 n1 d0 d1 er) (a b:ByteArray) (ha:a.size≤1100000) (hb:b.size≤1100000) :
  Calls Tryz.prog 89 #[.string a,.string b,.pointer (some ⟨Ba,0,none⟩),.pointer (some ⟨Ba+1,0,none⟩)] W fun e w' => ∃ t er',e = .returned (.string t)∧Hid (StepR (bl a) (bl b) (ival (bl a)+ival (bl b)) er (bl t) er')∧PSt w w' P Bm Ba fm 51 n0 n1 d0 d1 er':=by
 by_cases he:er=0
 ·subst he
  refine (keep1_add a b P Ba n0 n1 d0 d1 W h.k h.p (fun t er => StepR (bl a) (bl b) (ival (bl a)+ival (bl b)) 0 (bl t) er) (Lib.hid fun W' => ?_)).mono ?_
  ·refine (iadd_any a b W' (by omega) (by omega)).mono fun e w' k => ?_
   obtain ⟨t,er,h1,h2,h3⟩:=opPost_step k
   exact ⟨t,er,h1,h2,h3⟩
  ·rintro e w' ⟨t,er',w2,rfl,hq,hb2,rfl⟩
   exact ⟨t,er',rfl,hq,h.step hb2 er'⟩
 ·refine (keep1_err a b P Ba 51 n0 n1 d0 d1 er W h.k h.p he).mono ?_
  rintro e w' ⟨rfl,rfl⟩
  exact ⟨_,er,rfl,.inl ⟨he,rfl,rfl⟩,h⟩
def MadeR (x y:List UInt8) (er:Int) (s:List UInt8) (er2:Int):Prop:=(er ≠ 0∧s=[]∧er2=er)∨(er=0∧er2=0∧s=ratTxt (!(isNeg x == isNeg y)) (dval (body x)) (dval (body y)))
def sumE (a b:ByteArray) (z:Int):Int :=
 if bE a b ≠ 0 then bE a b
 else if zErr (ival (bl (pN a)) * ival (bl (pD b))) ≠ 0∨zErr (ival (bl (pN b)) * ival (bl (pD a))) ≠ 0∨zErr z ≠ 0∨zErr (ival (bl (pD a)) * ival (bl (pD b))) ≠ 0 then 14 else 0
def sumS (a b:ByteArray) (z:Int):List UInt8:=if sumE a b z=0 then ratTxt (decide (z < 0)) z.natAbs (ival (bl (pD a)) * ival (bl (pD b))).natAbs else []
def RatPost2 (w:World) (l:List UInt8) (er:Int) (e:Ending) (w':World):Prop:=∃ t,e = .returned (.tuple #[.string t,.int .i64 er])∧bl t=l∧Below w.heap.size w w'
theorem zErr_cases (z:Int):zErr z=0∨zErr z=14:=by
 rcases wErr_cases z.natAbs with ⟨h,_⟩ | ⟨h,_⟩
 ·exact .inl h
 ·exact .inr h
theorem bE_zero {a b:ByteArray} (h:bE a b=0):ratErr a=0∧ratErr b=0∧bN1 a b=pN b∧bD1 a b=pD b∧pN a=numS a∧pD a=denS a∧pN b=numS b∧pD b=denS b:=by
 unfold bE at h
 by_cases h0:ratErr a=0
 ·rw [if_pos h0] at h
  exact ⟨h0,h,by rw [bN1,if_pos h0],by rw [bD1,if_pos h0],by rw [pN,if_pos h0],by rw [pD,if_pos h0],by rw [pN,if_pos h],by rw [pD,if_pos h]⟩
 ·rw [if_neg h0] at h;exact absurd h h0
theorem pairErr_ok {a b:List UInt8} (h0:intErr a=0) (h:intErr b=0):pairErr a b=0:=by rw [pairErr_b h0];exact h
theorem StepR.of_ok {a b t:List UInt8} {z er':Int} (h:StepR a b z 0 t er') (hp:pairErr a b=0):er'=zErr z∧t=zStr z:=by
 rcases h with ⟨h1,_,_⟩ | ⟨_,h1,_,_⟩ | ⟨_,_,h2,h3⟩
 ·exact absurd rfl h1
 ·exact absurd hp h1
 ·exact ⟨h2,h3⟩
theorem StepR.of_err {a b t:List UInt8} {z er er':Int} (h:StepR a b z er t er') (he:er ≠ 0):er'=er∧t=[]:=by
 rcases h with ⟨_,h1,h2⟩ | ⟨h1,_⟩ | ⟨h1,_⟩
 ·exact ⟨h2,h1⟩
 ·exact absurd h1 he
 ·exact absurd h1 he
theorem zStr_ok {z:Int} (h:zErr z=0):zStr z=istr (decide (z < 0)) z.natAbs∧intErr (zStr z)=0∧ival (zStr z)=z:=by
 have e:zStr z=istr (decide (z < 0)) z.natAbs:=by
  rcases wErr_cases z.natAbs with ⟨_,k⟩ | ⟨k,_⟩
  ·exact k _
  ·rw [zErr,k] at h;cases h
 refine ⟨e,by rw [e,intErr_istr];exact h,?_⟩
 rw [e,ival_istr]
 by_cases hz:z < 0
 ·rw [decide_eq_true hz];simp [sgnv];omega
 ·rw [decide_eq_false hz];simp [sgnv];omega
structure Chain (a b:ByteArray) (op:Int→Int→Int) (t1 t2 t3 t4:List UInt8) (e1 e2 e3 e4:Int):Prop where
 r1:StepR (bl (pN a)) (bl (bD1 a b)) (ival (bl (pN a)) * ival (bl (bD1 a b))) (bE a b) t1 e1
 r2:StepR (bl (bN1 a b)) (bl (pD a)) (ival (bl (bN1 a b)) * ival (bl (pD a))) e1 t2 e2
 r3:StepR t1 t2 (op (ival t1) (ival t2)) e2 t3 e3
 r4:StepR (bl (pD a)) (bl (bD1 a b)) (ival (bl (pD a)) * ival (bl (bD1 a b))) e3 t4 e4
theorem Chain.done {a b:ByteArray} {op:Int→Int→Int} {t1 t2 t3 t4:List UInt8} {e1 e2 e3 e4:Int} (h:Chain a b op t1 t2 t3 t4 e1 e2 e3 e4) :
  e4=sumE a b (op (ival (bl (pN a)) * ival (bl (pD b))) (ival (bl (pN b)) * ival (bl (pD a)))) ∧
  (e4=0→intErr t3=0∧intErr t4=0∧dval (body t4) ≠ 0∧isNeg t4=false∧ratTxt (!(isNeg t3 == isNeg t4)) (dval (body t3)) (dval (body t4))=sumS a b (op (ival (bl (pN a)) * ival (bl (pD b))) (ival (bl (pN b)) * ival (bl (pD a))))):=by
 obtain ⟨r1,r2,r3,r4⟩:=h
 by_cases h0:bE a b=0
 ·obtain ⟨ra,rb,eN,eD,ea,ea',eb,eb'⟩:=bE_zero h0
  rw [eN] at r2
  rw [eD] at r1 r4
  rw [h0] at r1
  obtain ⟨na,da,sa,za⟩:=rat_parts ra
  obtain ⟨nb,db,sb,zb⟩:=rat_parts rb
  rw [← ea] at na
  rw [← ea'] at da sa za
  rw [← eb] at nb
  rw [← eb'] at db sb zb
  obtain ⟨f1,g1⟩:=r1.of_ok (pairErr_ok na db)
  generalize hz1:ival (bl (pN a)) * ival (bl (pD b))=z1 at f1 g1 ⊢
  rcases zErr_cases z1 with k1 | k1
  ·obtain ⟨_,i1,v1⟩:=zStr_ok k1
   rw [← g1] at i1 v1
   rw [f1,k1] at r2
   obtain ⟨f2,g2⟩:=r2.of_ok (pairErr_ok nb da)
   generalize hz2:ival (bl (pN b)) * ival (bl (pD a))=z2 at f2 g2 ⊢
   rcases zErr_cases z2 with k2 | k2
   ·obtain ⟨_,i2,v2⟩:=zStr_ok k2
    rw [← g2] at i2 v2
    rw [f2,k2,v1,v2] at r3
    obtain ⟨f3,g3⟩:=r3.of_ok (pairErr_ok i1 i2)
    generalize op z1 z2=z3 at f3 g3 ⊢
    rcases zErr_cases z3 with k3 | k3
    ·obtain ⟨j3,i3,v3⟩:=zStr_ok k3
     rw [f3,k3] at r4
     obtain ⟨f4,g4⟩:=r4.of_ok (pairErr_ok da db)
     have hE:sumE a b z3=zErr (ival (bl (pD a)) * ival (bl (pD b))):=by
      rw [sumE,if_neg (fun h => h h0),hz1,hz2]
      rcases zErr_cases (ival (bl (pD a)) * ival (bl (pD b))) with k4 | k4
      ·rw [if_neg (by rintro (h | h | h | h) <;> exact h (by assumption)),k4]
      ·rw [if_pos (.inr (.inr (.inr (by rw [k4];decide)))),k4]
     refine ⟨f4.trans hE.symm,fun h4 => ?_⟩
     have k4:zErr (ival (bl (pD a)) * ival (bl (pD b)))=0:=f4.symm.trans h4
     obtain ⟨j4,i4,v4⟩:=zStr_ok k4
     have hpos:0 < ival (bl (pD a)) * ival (bl (pD b)):=by
      rw [ival,ival,sa,sb]
      simp only [sgnv]
      have:=Nat.mul_pos (Nat.pos_of_ne_zero za) (Nat.pos_of_ne_zero zb)
      simp only [Bool.false_eq_true,if_false]
      exact_mod_cast this
     have hne:(ival (bl (pD a)) * ival (bl (pD b))).natAbs ≠ 0:=by omega
     rw [g3,g4,sumS,hE,if_pos k4]
     rw [j3] at i3 ⊢
     rw [j4] at i4 ⊢
     rw [decide_eq_false (show ¬ ival (bl (pD a)) * ival (bl (pD b)) < 0 by omega)] at i4 ⊢
     rw [dval_istr,dval_istr,isNeg_istr,isNeg_istr]
     refine ⟨i3,i4,hne,by simp,?_⟩
     by_cases hz3:z3.natAbs=0
     ·have:z3=0:=by omega
      subst this
      simp
     ·simp [hz3]
    ·rw [f3,k3] at r4
     obtain ⟨f4,g4⟩:=r4.of_err (by decide)
     have hE:sumE a b z3=14:=by
      rw [sumE,if_neg (fun h => h h0),hz1,hz2,if_pos (.inr (.inr (.inl (by rw [k3];decide))))]
     exact ⟨f4.trans hE.symm,fun h4 => by rw [f4] at h4;cases h4⟩
   ·rw [f2,k2] at r3
    obtain ⟨f3,g3⟩:=r3.of_err (by decide)
    rw [f3] at r4
    obtain ⟨f4,g4⟩:=r4.of_err (by decide)
    have hE:sumE a b (op z1 z2)=14:=by
     rw [sumE,if_neg (fun h => h h0),hz1,hz2,if_pos (.inr (.inl (by rw [k2];decide)))]
    exact ⟨f4.trans hE.symm,fun h4 => by rw [f4] at h4;cases h4⟩
  ·rw [f1,k1] at r2
   obtain ⟨f2,g2⟩:=r2.of_err (by decide)
   rw [f2] at r3
   obtain ⟨f3,g3⟩:=r3.of_err (by decide)
   rw [f3] at r4
   obtain ⟨f4,g4⟩:=r4.of_err (by decide)
   have hE:sumE a b (op z1 (ival (bl (pN b)) * ival (bl (pD a))))=14:=by
    rw [sumE,if_neg (fun h => h h0),hz1,if_pos (.inl (by rw [k1];decide))]
   exact ⟨f4.trans hE.symm,fun h4 => by rw [f4] at h4;cases h4⟩
 ·obtain ⟨f1,g1⟩:=r1.of_err h0
  rw [f1] at r2
  obtain ⟨f2,g2⟩:=r2.of_err h0
  rw [f2] at r3
  obtain ⟨f3,g3⟩:=r3.of_err h0
  rw [f3] at r4
  obtain ⟨f4,g4⟩:=r4.of_err h0
  exact ⟨by rw [f4,sumE,if_pos h0],fun h4 => absurd (f4.symm.trans h4) h0⟩
theorem part_sizes (a b:ByteArray) (ha:a.size≤1000000) (hb:b.size≤1000000):(pN a).size≤1100000∧(bN1 a b).size≤1100000∧(pD a).size≤1100000∧(bD1 a b).size≤1100000:=by
 have e:(⟨#[]⟩:ByteArray).size=0:=rfl
 have s1:=numS_size a
 have s2:=numS_size b
 have s3:=denS_size a
 have s4:=denS_size b
 have q1:(pN a).size≤1100000:=by unfold pN;split <;> omega
 have q2:(pN b).size≤1100000:=by unfold pN;split <;> omega
 have q3:(pD a).size≤1100000:=by unfold pD;split <;> omega
 have q4:(pD b).size≤1100000:=by unfold pD;split <;> omega
 refine ⟨q1,?_,q3,?_⟩
 ·unfold bN1;split <;> omega
 ·unfold bD1;split <;> omega
end Go.Proofs.YthdeijdimfjceaaGreatDoor

namespace Go.Proofs.YthdeijdimfjceaaGreatDoor
open Go.RowKit
def frE (a b:ByteArray) (z y:Int):Int:=if bE a b ≠ 0 then bE a b else if zErr z ≠ 0∨zErr y ≠ 0 then 14 else 0
def frS (a b:ByteArray) (z y:Int):List UInt8:=if frE a b z y=0 then ratTxt (!(decide (z < 0) == decide (y < 0))) z.natAbs y.natAbs else []
theorem frE_bad {a b:ByteArray} {z y:Int} (h:bE a b ≠ 0):frE a b z y=bE a b:=by rw [frE,if_pos h]
theorem frE_big {a b:ByteArray} {z y:Int} (h:bE a b=0) (k:zErr z ≠ 0∨zErr y ≠ 0):frE a b z y=14:=by rw [frE,if_neg (fun k => k h),if_pos k]
theorem frE_ok {a b:ByteArray} {z y:Int} (h:bE a b=0) (h1:zErr z=0) (h2:zErr y=0):frE a b z y=0:=by
 rw [frE,if_neg (fun k => k h),if_neg (by rintro (k | k);exact k h1;exact k h2)]
theorem frS_err {a b:ByteArray} {z y:Int} (h:frE a b z y ≠ 0):frS a b z y=[]:=by rw [frS,if_neg h]
theorem istr_zero (b c:Bool):istr b 0=istr c 0:=rfl
theorem ratTxt_zero (b c:Bool) (D:Nat):ratTxt b 0 D=ratTxt c 0 D:=by
 unfold ratTxt
 rw [Nat.zero_div,istr_zero b c]
structure Chain2 (a b:ByteArray) (u1 u2 v1 v2 t1 t2:List UInt8) (e1 e2:Int):Prop where
 r1:StepR u1 u2 (ival u1 * ival u2) (bE a b) t1 e1
 r2:StepR v1 v2 (ival v1 * ival v2) e1 t2 e2
theorem Chain2.done {a b:ByteArray} {u1 u2 v1 v2 t1 t2:List UInt8} {e1 e2:Int} (h:Chain2 a b u1 u2 v1 v2 t1 t2 e1 e2) (hu:bE a b=0→pairErr u1 u2=0) (hv:bE a b=0→pairErr v1 v2=0) (hy:bE a b=0→ival v1 * ival v2 ≠ 0) :
  e2=frE a b (ival u1 * ival u2) (ival v1 * ival v2) ∧
  (e2=0→intErr t1=0∧intErr t2=0∧dval (body t2) ≠ 0∧ratTxt (!(isNeg t1 == isNeg t2)) (dval (body t1)) (dval (body t2))=frS a b (ival u1 * ival u2) (ival v1 * ival v2)):=by
 obtain ⟨r1,r2⟩:=h
 by_cases h0:bE a b=0
 ·rw [h0] at r1
  obtain ⟨f1,g1⟩:=r1.of_ok (hu h0)
  replace hy:=hy h0
  generalize ival u1 * ival u2=z at *
  rcases zErr_cases z with k1 | k1
  ·obtain ⟨j1,i1,v1'⟩:=zStr_ok k1
   rw [f1,k1] at r2
   obtain ⟨f2,g2⟩:=r2.of_ok (hv h0)
   generalize ival v1 * ival v2=y at *
   rcases zErr_cases y with k2 | k2
   ·obtain ⟨j2,i2,v2'⟩:=zStr_ok k2
    have hE:=frE_ok h0 k1 k2
    refine ⟨by rw [f2,k2,hE],fun _ => ?_⟩
    rw [g1,g2,frS,if_pos hE]
    rw [j1] at i1 ⊢
    rw [j2] at i2 ⊢
    rw [dval_istr,dval_istr,isNeg_istr,isNeg_istr]
    have hyn:y.natAbs ≠ 0:=by omega
    refine ⟨i1,i2,hyn,?_⟩
    rw [decide_eq_true hyn,Bool.and_true]
    by_cases hz:z.natAbs=0
    ·rw [hz];exact ratTxt_zero _ _ _
    ·rw [decide_eq_true hz,Bool.and_true]
   ·have hE:=frE_big (z:=z) h0 (.inr (show zErr y ≠ 0 by rw [k2];decide))
    exact ⟨by rw [f2,k2,hE],fun h4 => by rw [f2,k2] at h4;cases h4⟩
  ·rw [f1,k1] at r2
   obtain ⟨f2,g2⟩:=r2.of_err (by decide)
   have hE:=frE_big (y:=ival v1 * ival v2) h0 (.inl (show zErr z ≠ 0 by rw [k1];decide))
   exact ⟨f2.trans hE.symm,fun h4 => by rw [f2] at h4;cases h4⟩
 ·obtain ⟨f1,g1⟩:=r1.of_err h0
  rw [f1] at r2
  obtain ⟨f2,g2⟩:=r2.of_err h0
  exact ⟨by rw [f2,frE_bad h0],fun h4 => absurd (f2.symm.trans h4) h0⟩
def mulE (a b:ByteArray):Int:=frE a b (ival (bl (pN a)) * ival (bl (pN b))) (ival (bl (pD a)) * ival (bl (pD b)))
def mulS (a b:ByteArray):List UInt8:=frS a b (ival (bl (pN a)) * ival (bl (pN b))) (ival (bl (pD a)) * ival (bl (pD b)))
def divE (a b:ByteArray):Int:=if bE a b=0∧bl (pN b)=[48] then 16 else frE a b (ival (bl (pN a)) * ival (bl (pD b))) (ival (bl (pD a)) * ival (bl (pN b)))
def divS (a b:ByteArray):List UInt8:=if bE a b=0∧bl (pN b)=[48] then [] else frS a b (ival (bl (pN a)) * ival (bl (pD b))) (ival (bl (pD a)) * ival (bl (pN b)))
theorem bN1_bad {a b:ByteArray} (h:bE a b ≠ 0) (z y z' y':Int):frE a b z y=frE a b z' y'∧frS a b z y=frS a b z' y':=by
 have e1:=frE_bad (z:=z) (y:=y) h
 have e2:=frE_bad (z:=z') (y:=y') h
 refine ⟨e1.trans e2.symm,?_⟩
 rw [frS_err (by rw [e1];exact h),frS_err (by rw [e2];exact h)]
theorem ival_den {s:ByteArray} (h:ratErr s=0):0 < ival (bl (denS s)):=by
 obtain ⟨_,_,sg,z⟩:=rat_parts h
 rw [ival,sg]
 show (0:Int) < (dval (body (bl (denS s))):Int)
 omega
theorem ival_num {s:ByteArray} (h:ratErr s=0) (h0:bl (numS s) ≠ [48]):ival (bl (numS s)) ≠ 0:=by
 obtain ⟨na,_,_,_⟩:=rat_parts h
 have hne:dval (body (bl (numS s))) ≠ 0:=fun e => h0 ((canon_zero (intErr_zero na).1).2 e)
 rw [ival]
 cases isNeg (bl (numS s)) <;> simp [sgnv] <;> omega
theorem mul_done {a b:ByteArray} {t1 t2:List UInt8} {e1 e2:Int} (h:Chain2 a b (bl (pN a)) (bl (bN1 a b)) (bl (pD a)) (bl (bD1 a b)) t1 t2 e1 e2) :
  e2=mulE a b∧(e2=0→intErr t1=0∧intErr t2=0∧dval (body t2) ≠ 0∧ratTxt (!(isNeg t1 == isNeg t2)) (dval (body t1)) (dval (body t2))=mulS a b):=by
 by_cases h0:bE a b=0
 ·obtain ⟨ra,rb,eN,eD,ea,ea',eb,eb'⟩:=bE_zero h0
  obtain ⟨na,da,_,_⟩:=rat_parts ra
  obtain ⟨nb,db,_,_⟩:=rat_parts rb
  have pa:=ival_den ra
  have pb:=ival_den rb
  have k:=h.done (fun _ => by rw [eN,ea,eb];exact pairErr_ok na nb) (fun _ => by rw [eD,ea',eb'];exact pairErr_ok da db)
   (fun _ => by rw [eD,ea',eb'];exact Int.mul_ne_zero (by omega) (by omega))
  rw [eN,eD] at k
  exact k
 ·have k:=h.done (fun k => absurd k h0) (fun k => absurd k h0) (fun k => absurd k h0)
  obtain ⟨q1,q2⟩:=bN1_bad h0 (ival (bl (pN a)) * ival (bl (bN1 a b))) (ival (bl (pD a)) * ival (bl (bD1 a b))) (ival (bl (pN a)) * ival (bl (pN b))) (ival (bl (pD a)) * ival (bl (pD b)))
  rw [q1,q2] at k
  exact k
theorem div_done {a b:ByteArray} {t1 t2:List UInt8} {e1 e2:Int} (h:Chain2 a b (bl (pN a)) (bl (bD1 a b)) (bl (pD a)) (bl (bN1 a b)) t1 t2 e1 e2) (hz : ¬ (bE a b=0∧bl (pN b)=[48])) :
  e2=divE a b∧(e2=0→intErr t1=0∧intErr t2=0∧dval (body t2) ≠ 0∧ratTxt (!(isNeg t1 == isNeg t2)) (dval (body t1)) (dval (body t2))=divS a b):=by
 rw [divE,divS,if_neg hz,if_neg hz]
 by_cases h0:bE a b=0
 ·obtain ⟨ra,rb,eN,eD,ea,ea',eb,eb'⟩:=bE_zero h0
  obtain ⟨na,da,_,_⟩:=rat_parts ra
  obtain ⟨nb,db,_,_⟩:=rat_parts rb
  have pa:=ival_den ra
  have pb:=ival_num rb (by rw [← eb];exact fun k => hz ⟨h0,k⟩)
  have k:=h.done (fun _ => by rw [eD,ea,eb'];exact pairErr_ok na db) (fun _ => by rw [eN,ea',eb];exact pairErr_ok da nb)
   (fun _ => by rw [eN,ea',eb];exact Int.mul_ne_zero (by omega) pb)
  rw [eN,eD] at k
  exact k
 ·have k:=h.done (fun k => absurd k h0) (fun k => absurd k h0) (fun k => absurd k h0)
  obtain ⟨q1,q2⟩:=bN1_bad h0 (ival (bl (pN a)) * ival (bl (bD1 a b))) (ival (bl (pD a)) * ival (bl (bN1 a b))) (ival (bl (pN a)) * ival (bl (pD b))) (ival (bl (pD a)) * ival (bl (pN b)))
  rw [q1,q2] at k
  exact k
end Go.Proofs.YthdeijdimfjceaaGreatDoor

namespace Go.Proofs.YthdeijdimfjceaaGreatDoor
open Go.RowKit
def cmpL (a b:ByteArray):Int:=ival (bl (pN a)) * ival (bl (pD b))
def cmpR (a b:ByteArray):Int:=ival (bl (pN b)) * ival (bl (pD a))
def cmpE (a b:ByteArray):Int:=if bE a b ≠ 0 then bE a b else if zErr (cmpL a b) ≠ 0∨zErr (cmpR a b) ≠ 0 then 14 else 0
def cmpV (a b:ByteArray):Int:=if cmpE a b ≠ 0 then 0 else sgnZ (cmpL a b) (cmpR a b)
theorem cmp_done {a b:ByteArray} {t1 t2:List UInt8} {e1 e2:Int} (r1:StepR (bl (pN a)) (bl (bD1 a b)) (ival (bl (pN a)) * ival (bl (bD1 a b))) (bE a b) t1 e1) (r2:StepR (bl (bN1 a b)) (bl (pD a)) (ival (bl (bN1 a b)) * ival (bl (pD a))) e1 t2 e2) :
  e2=cmpE a b∧(e2=0→intErr t1=0∧intErr t2=0∧sgnZ (ival t1) (ival t2)=cmpV a b):=by
 by_cases h0:bE a b=0
 ·obtain ⟨ra,rb,eN,eD,ea,ea',eb,eb'⟩:=bE_zero h0
  rw [eN] at r2
  rw [eD] at r1
  rw [h0] at r1
  obtain ⟨na,da,sa,za⟩:=rat_parts ra
  obtain ⟨nb,db,sb,zb⟩:=rat_parts rb
  rw [← ea] at na
  rw [← ea'] at da
  rw [← eb] at nb
  rw [← eb'] at db
  obtain ⟨f1,g1⟩:=r1.of_ok (pairErr_ok na db)
  rcases zErr_cases (cmpL a b) with k1 | k1
  ·obtain ⟨_,i1,v1⟩:=zStr_ok k1
   rw [f1,show zErr (ival (bl (pN a)) * ival (bl (pD b)))=0 from k1] at r2
   obtain ⟨f2,g2⟩:=r2.of_ok (pairErr_ok nb da)
   rcases zErr_cases (cmpR a b) with k2 | k2
   ·obtain ⟨_,i2,v2⟩:=zStr_ok k2
    have hE:cmpE a b=0:=by rw [cmpE,if_neg (fun h => h h0),if_neg (by rw [k1,k2];simp)]
    refine ⟨by rw [f2,hE];exact k2,fun _ => ⟨by rw [g1];exact i1,by rw [g2];exact i2,?_⟩⟩
    rw [cmpV,hE,if_neg (by simp),g1,g2]
    show sgnZ (ival (zStr (cmpL a b))) (ival (zStr (cmpR a b)))=_
    rw [v1,v2]
   ·have hE:cmpE a b=14:=by rw [cmpE,if_neg (fun h => h h0),if_pos (.inr (by rw [k2];decide))]
    refine ⟨by rw [f2,hE];exact k2,fun h => ?_⟩
    rw [f2,show zErr (ival (bl (pN b)) * ival (bl (pD a)))=14 from k2] at h
    cases h
  ·have hE:cmpE a b=14:=by rw [cmpE,if_neg (fun h => h h0),if_pos (.inl (by rw [k1];decide))]
   rw [f1,show zErr (ival (bl (pN a)) * ival (bl (pD b)))=14 from k1] at r2
   obtain ⟨f2,_⟩:=r2.of_err (by decide)
   exact ⟨by rw [f2,hE],fun h => by rw [f2] at h;cases h⟩
 ·obtain ⟨f1,_⟩:=r1.of_err h0
  rw [f1] at r2
  obtain ⟨f2,_⟩:=r2.of_err h0
  have hE:cmpE a b=bE a b:=by rw [cmpE,if_pos h0]
  exact ⟨by rw [f2,hE],fun h => absurd (f2.symm.trans h) h0⟩
set_option maxHeartbeats 4000000 in
set_option maxRecDepth 100000 in
theorem ratcmp_any (a b:ByteArray) (w:World) (ha:a.size≤1000000) (hb:b.size≤1000000) :
  Calls Tryz.prog 177 #[.string a,.string b] w fun e w' => e = .returned (.tuple #[.int .i64 (cmpV a b),.int .i64 (cmpE a b)])∧Below w.heap.size w w':=by
 have HB:=Lib.hid (both_ab a b w (by omega) (by omega))
 have Hs:=Lib.hid (part_sizes a b ha hb)
 clear ha hb
 go_enter Tryz.func177,Tryz.ntmps177
 go_wp2_with fail
 refine HB.out.mono ?_
 rintro e w1 ⟨P,rfl,hP,hp,hb1⟩
 go_wp2_with fail
 refine (keepr_any P 50 w1).mono ?_
 rintro e w2 ⟨rfl,hm,hb2⟩
 obtain ⟨Bm,hBm⟩:∃ B,B=w1.heap.size:=⟨_,rfl⟩
 rw [← hBm] at hm ⊢
 obtain ⟨n0,hn0⟩:∃ n,n=pN a:=⟨_,rfl⟩
 obtain ⟨n1,hn1⟩:∃ n,n=bN1 a b:=⟨_,rfl⟩
 obtain ⟨d0,hd0⟩:∃ n,n=pD a:=⟨_,rfl⟩
 obtain ⟨d1,hd1⟩:∃ n,n=bD1 a b:=⟨_,rfl⟩
 rw [← hn0,← hn1,← hd0,← hd1] at hp Hs
 have HN:=Lib.hid (And.intro hn0 (And.intro hn1 (And.intro hd0 hd1)))
 clear hn0 hn1 hd0 hd1
 obtain ⟨z0,z1,z2,z3⟩:=Hs.out
 have st0:PSt w w2.drew P Bm Bm 50 50 n0 n1 d0 d1 (bE a b):=PSt.drew ⟨hp.below hb2,hm,hm,hb1.trans (hb2.mono hb1.size),hP⟩
 have p:=hp.below hb2
 obtain ⟨h0,h1,h2,h3,_⟩:=p.cells
 clear p hp hm hb1 hb2 hBm hP HB Hs
 obtain ⟨e0,he⟩:∃ e,e=bE a b:=⟨_,rfl⟩
 rw [← he] at st0
 have HE0:=Lib.hid he
 clear he
 have HM:Hid (∀ W er x y,PSt w W P Bm Bm 50 50 n0 n1 d0 d1 er→x.size≤1100000→y.size≤1100000→Calls Tryz.prog 89 #[.string x,.string y,.pointer (some ⟨Bm,0,none⟩),.pointer (some ⟨Bm+1,0,none⟩)] W fun e w' => ∃ t er',e = .returned (.string t)∧Hid (StepR (bl x) (bl y) (ival (bl x) * ival (bl y)) er (bl t) er')∧PSt w w' P Bm Bm 50 50 n0 n1 d0 d1 er'∧t.size≤1100000∧w'.cell? ⟨P,0,none⟩=some (.string n0)∧w'.cell? ⟨P,1,none⟩=some (.string n1)∧w'.cell? ⟨P,2,none⟩=some (.string d0)∧w'.cell? ⟨P,3,none⟩=some (.string d1)):=by
  intro W er x y hst hx hy
  refine (pst_mul hst x y hx hy).mono ?_
  rintro e w' ⟨t,er',rfl,hr,hst'⟩
  obtain ⟨c0,c1,c2,c3,_⟩:=hst'.p.cells
  exact ⟨t,er',rfl,hr,hst',by have:=hr.out.len;rw [← bl_length];omega,c0,c1,c2,c3⟩
 have HC:Hid (∀ t1 t2 e1 e2,StepR (bl n0) (bl d1) (ival (bl n0) * ival (bl d1)) e0 t1 e1→StepR (bl n1) (bl d0) (ival (bl n1) * ival (bl d0)) e1 t2 e2→e2=cmpE a b∧(e2=0→intErr t1=0∧intErr t2=0∧sgnZ (ival t1) (ival t2)=cmpV a b)):=by
  obtain ⟨q1,q2,q3,q4⟩:=HN.out
  have q5:=HE0.out
  subst q1 q2 q3 q4 q5
  exact fun _ _ _ _ r1 r2 => cmp_done r1 r2
 have HS:Hid (cmpE a b ≠ 0→cmpV a b=0):=fun k => by rw [cmpV,if_pos k]
 clear HN HE0
 go_wp2_with fail
 go_region_held3 (fun w' => w'.cell? ⟨P,0,none⟩=some (.string n0)∧w'.cell? ⟨P,1,none⟩=some (.string n1)∧w'.cell? ⟨P,2,none⟩=some (.string d0)∧w'.cell? ⟨P,3,none⟩=some (.string d1))
  (first | assumption | exact ⟨by assumption,by assumption,by assumption,by assumption⟩ | go_keep)
  (first | (go_at_call 89;first | (refine (HM.out _ _ _ _ st1 z1 z2).mono ?_;rintro e w5 ⟨t2,e2,rfl,r2,st2,l2,p0,p1,p2,p3⟩) | (refine (HM.out _ _ _ _ st0 z0 z3).mono ?_;rintro e w4 ⟨t1,e1,rfl,r1,st1,l1,p0,p1,p2,p3⟩)))
 have hc:=HC.out _ _ _ _ r1.out r2.out
 have hbz:=st2.b
 have q4:=st2.p.cells.2.2.2.2
 have HZ:=Lib.hid hc
 clear hc HC HM r1 r2 st0 st1 st2
 by_cases he:e2=0
 ·subst he
  have t1':((0:Int) != 0)=false:=rfl
  obtain ⟨i1,i2,i3⟩:=HZ.out.2 rfl
  have HI:=Lib.hid (icmp_ok t1 t2 w5 (by omega) (by omega) i1 i2)
  have HV:Hid (sgnZ (ival (bl t1)) (ival (bl t2))=cmpV a b∧0=cmpE a b):=⟨i3,HZ.out.1⟩
  clear i1 i2 i3 HZ
  go_wp2_with fail
  refine HI.out.mono ?_
  rintro e w8 ⟨rfl,hb8⟩
  rw [HV.out.1]
  have HV2:=HV.out.2
  have hb9:=hbz.trans (hb8.mono hbz.size)
  clear HI HV
  go_wp2
  go_ret2
  exact ⟨by rw [← HV2];rfl,hb9⟩
 ·have t1':(e2 != 0)=true:=by rw [bne_iff_ne];exact he
  have HV:Hid (cmpV a b=0∧e2=cmpE a b):=⟨HS.out (by rw [← HZ.out.1];exact he),HZ.out.1⟩
  clear HZ HS he
  go_wp2_with fail
  go_quiet (fail)
  go_wp2
  go_ret2
  exact ⟨by rw [HV.out.1,HV.out.2];rfl,below_drewN hbz _⟩
end Go.Proofs.YthdeijdimfjceaaGreatDoor
