/-
  rational.Compare. Bytes as a string; how long the texts of sums are. observable.within. The order of strings, of fixings and of choices: plain. cmp.Compare at strings, cmp.Or at numbers. cmp.Compare at numbers. Orders: observable.fixings and choices; novationref08.fixBefore and pickBefore. Fixings and choices as lists: reading; the closures of observable.CheckEnv, slices.IndexFunc and ContainsFunc, ordered.
-/
import Derived.Test.YtknpnhodpgajbaaGreatDoorE09
import Derived.Test.YtknpnhodpgajbaaGreatDoorE11
import Derived.Test.YtknpnhodpgajbaaGreatDoorE02
import Derived.Test.YtknpnhodpgajbaaGreatDoorE01
import Derived.Test.YtknpnhodpgajbaaGreatDoorE04
import Derived.Deep.RegionHeld3
import Derived.Test.YtknpnhodpgajbaaGreatDoorE10
namespace Go.Proofs.YtknpnhodpgajbaaGreatDoor
open Go.RowKit
def cmpL (a b:ByteArray):Int:=ival (bl (pN a)) * ival (bl (pD b))
def cmpR (a b:ByteArray):Int:=ival (bl (pN b)) * ival (bl (pD a))
def cmpE (a b:ByteArray):Int:=if bE a b ≠ 0 then bE a b else if zErr (cmpL a b) ≠ 0∨zErr (cmpR a b) ≠ 0 then 14 else 0
def cmpV (a b:ByteArray):Int:=if cmpE a b ≠ 0 then 0 else sgnZ (cmpL a b) (cmpR a b)
theorem cmp_done {a b:ByteArray} {t1 t2:List UInt8} {e1 e2:Int} (r1:StepR (bl (pN a)) (bl (bD1 a b)) (ival (bl (pN a)) * ival (bl (bD1 a b))) (bE a b) t1 e1) (r2:StepR (bl (bN1 a b)) (bl (pD a)) (ival (bl (bN1 a b)) * ival (bl (pD a))) e1 t2 e2) :
  e2=cmpE a b∧(e2=0→intErr t1=0∧intErr t2=0∧sgnZ (ival t1) (ival t2)=cmpV a b):=by
 by_cases h0:bE a b=0
 ·obtain ⟨ra,rb,eN,eD,ea,ea',eb,eb'⟩:=bE_zero h0
  rw [eN] at r2
  rw [eD] at r1
  rw [h0] at r1
  obtain ⟨na,da,sa,za⟩:=rat_parts ra
  obtain ⟨nb,db,sb,zb⟩:=rat_parts rb
  rw [← ea] at na
  rw [← ea'] at da
  rw [← eb] at nb
  rw [← eb'] at db
  obtain ⟨f1,g1⟩:=r1.of_ok (pairErr_ok na db)
  rcases zErr_cases (cmpL a b) with k1 | k1
  ·obtain ⟨_,i1,v1⟩:=zStr_ok k1
   rw [f1,show zErr (ival (bl (pN a)) * ival (bl (pD b)))=0 from k1] at r2
   obtain ⟨f2,g2⟩:=r2.of_ok (pairErr_ok nb da)
   rcases zErr_cases (cmpR a b) with k2 | k2
   ·obtain ⟨_,i2,v2⟩:=zStr_ok k2
    have hE:cmpE a b=0:=by rw [cmpE,if_neg (fun h => h h0),if_neg (by rw [k1,k2];simp)]
    refine ⟨by rw [f2,hE];exact k2,fun _ => ⟨by rw [g1];exact i1,by rw [g2];exact i2,?_⟩⟩
    rw [cmpV,hE,if_neg (by simp),g1,g2]
    show sgnZ (ival (zStr (cmpL a b))) (ival (zStr (cmpR a b)))=_
    rw [v1,v2]
   ·have hE:cmpE a b=14:=by rw [cmpE,if_neg (fun h => h h0),if_pos (.inr (by rw [k2];decide))]
    refine ⟨by rw [f2,hE];exact k2,fun h => ?_⟩
    rw [f2,show zErr (ival (bl (pN b)) * ival (bl (pD a)))=14 from k2] at h
    cases h
  ·have hE:cmpE a b=14:=by rw [cmpE,if_neg (fun h => h h0),if_pos (.inl (by rw [k1];decide))]
   rw [f1,show zErr (ival (bl (pN a)) * ival (bl (pD b)))=14 from k1] at r2
   obtain ⟨f2,_⟩:=r2.of_err (by decide)
   exact ⟨by rw [f2,hE],fun h => by rw [f2] at h;cases h⟩
 ·obtain ⟨f1,_⟩:=r1.of_err h0
  rw [f1] at r2
  obtain ⟨f2,_⟩:=r2.of_err h0
  have hE:cmpE a b=bE a b:=by rw [cmpE,if_pos h0]
  exact ⟨by rw [f2,hE],fun h => absurd (f2.symm.trans h) h0⟩
set_option maxHeartbeats 4000000 in
set_option maxRecDepth 100000 in
theorem ratcmp_any (a b:ByteArray) (w:World) (ha:a.size≤1000000) (hb:b.size≤1000000) :
  Calls Tryz.prog 23 #[.string a,.string b] w fun e w' => e = .returned (.tuple #[.int .i64 (cmpV a b),.int .i64 (cmpE a b)])∧Below w.heap.size w w':=by
 have HB:=Lib.hid (both_ab a b w (by omega) (by omega))
 have Hs:=Lib.hid (part_sizes a b ha hb)
 clear ha hb
 go_enter Tryz.func23,Tryz.ntmps23
 go_wp2_with fail
 refine HB.out.mono ?_
 rintro e w1 ⟨P,rfl,hP,hp,hb1⟩
 go_wp2_with fail
 refine (keepr_any P 63 w1).mono ?_
 rintro e w2 ⟨rfl,hm,hb2⟩
 obtain ⟨Bm,hBm⟩:∃ B,B=w1.heap.size:=⟨_,rfl⟩
 rw [← hBm] at hm ⊢
 obtain ⟨n0,hn0⟩:∃ n,n=pN a:=⟨_,rfl⟩
 obtain ⟨n1,hn1⟩:∃ n,n=bN1 a b:=⟨_,rfl⟩
 obtain ⟨d0,hd0⟩:∃ n,n=pD a:=⟨_,rfl⟩
 obtain ⟨d1,hd1⟩:∃ n,n=bD1 a b:=⟨_,rfl⟩
 rw [← hn0,← hn1,← hd0,← hd1] at hp Hs
 have HN:=Lib.hid (And.intro hn0 (And.intro hn1 (And.intro hd0 hd1)))
 clear hn0 hn1 hd0 hd1
 obtain ⟨z0,z1,z2,z3⟩:=Hs.out
 have st0:PSt w w2.drew P Bm Bm 63 63 n0 n1 d0 d1 (bE a b):=PSt.drew ⟨hp.below hb2,hm,hm,hb1.trans (hb2.mono hb1.size),hP⟩
 have p:=hp.below hb2
 obtain ⟨h0,h1,h2,h3,_⟩:=p.cells
 clear p hp hm hb1 hb2 hBm hP HB Hs
 obtain ⟨e0,he⟩:∃ e,e=bE a b:=⟨_,rfl⟩
 rw [← he] at st0
 have HE0:=Lib.hid he
 clear he
 have HM:Hid (∀ W er x y,PSt w W P Bm Bm 63 63 n0 n1 d0 d1 er→x.size≤1100000→y.size≤1100000→Calls Tryz.prog 123 #[.string x,.string y,.pointer (some ⟨Bm,0,none⟩),.pointer (some ⟨Bm+1,0,none⟩)] W fun e w' => ∃ t er',e = .returned (.string t)∧Hid (StepR (bl x) (bl y) (ival (bl x) * ival (bl y)) er (bl t) er')∧PSt w w' P Bm Bm 63 63 n0 n1 d0 d1 er'∧t.size≤1100000∧w'.cell? ⟨P,0,none⟩=some (.string n0)∧w'.cell? ⟨P,1,none⟩=some (.string n1)∧w'.cell? ⟨P,2,none⟩=some (.string d0)∧w'.cell? ⟨P,3,none⟩=some (.string d1)):=by
  intro W er x y hst hx hy
  refine (pst_mul hst x y hx hy).mono ?_
  rintro e w' ⟨t,er',rfl,hr,hst'⟩
  obtain ⟨c0,c1,c2,c3,_⟩:=hst'.p.cells
  exact ⟨t,er',rfl,hr,hst',by have:=hr.out.len;rw [← bl_length];omega,c0,c1,c2,c3⟩
 have HC:Hid (∀ t1 t2 e1 e2,StepR (bl n0) (bl d1) (ival (bl n0) * ival (bl d1)) e0 t1 e1→StepR (bl n1) (bl d0) (ival (bl n1) * ival (bl d0)) e1 t2 e2→e2=cmpE a b∧(e2=0→intErr t1=0∧intErr t2=0∧sgnZ (ival t1) (ival t2)=cmpV a b)):=by
  obtain ⟨q1,q2,q3,q4⟩:=HN.out
  have q5:=HE0.out
  subst q1 q2 q3 q4 q5
  exact fun _ _ _ _ r1 r2 => cmp_done r1 r2
 have HS:Hid (cmpE a b ≠ 0→cmpV a b=0):=fun k => by rw [cmpV,if_pos k]
 clear HN HE0
 go_wp2_with fail
 go_region_held3 (fun w' => w'.cell? ⟨P,0,none⟩=some (.string n0)∧w'.cell? ⟨P,1,none⟩=some (.string n1)∧w'.cell? ⟨P,2,none⟩=some (.string d0)∧w'.cell? ⟨P,3,none⟩=some (.string d1))
  (first | assumption | exact ⟨by assumption,by assumption,by assumption,by assumption⟩ | go_keep)
  (first | (go_at_call 123;first | (refine (HM.out _ _ _ _ st1 z1 z2).mono ?_;rintro e w5 ⟨t2,e2,rfl,r2,st2,l2,p0,p1,p2,p3⟩) | (refine (HM.out _ _ _ _ st0 z0 z3).mono ?_;rintro e w4 ⟨t1,e1,rfl,r1,st1,l1,p0,p1,p2,p3⟩)))
 have hc:=HC.out _ _ _ _ r1.out r2.out
 have hbz:=st2.b
 have q4:=st2.p.cells.2.2.2.2
 have HZ:=Lib.hid hc
 clear hc HC HM r1 r2 st0 st1 st2
 by_cases he:e2=0
 ·subst he
  have t1':((0:Int) != 0)=false:=rfl
  obtain ⟨i1,i2,i3⟩:=HZ.out.2 rfl
  have HI:=Lib.hid (icmp_ok t1 t2 w5 (by omega) (by omega) i1 i2)
  have HV:Hid (sgnZ (ival (bl t1)) (ival (bl t2))=cmpV a b∧0=cmpE a b):=⟨i3,HZ.out.1⟩
  clear i1 i2 i3 HZ
  go_wp2_with fail
  refine HI.out.mono ?_
  rintro e w8 ⟨rfl,hb8⟩
  rw [HV.out.1]
  have HV2:=HV.out.2
  have hb9:=hbz.trans (hb8.mono hbz.size)
  clear HI HV
  go_wp2
  go_ret2
  exact ⟨by rw [← HV2];rfl,hb9⟩
 ·have t1':(e2 != 0)=true:=by rw [bne_iff_ne];exact he
  have HV:Hid (cmpV a b=0∧e2=cmpE a b):=⟨HS.out (by rw [← HZ.out.1];exact he),HZ.out.1⟩
  clear HZ HS he
  go_wp2_with fail
  go_quiet (fail)
  go_wp2
  go_ret2
  exact ⟨by rw [HV.out.1,HV.out.2];rfl,below_drewN hbz _⟩
end Go.Proofs.YtknpnhodpgajbaaGreatDoor

namespace Go.Proofs.YtknpnhodpgajbaaGreatDoor
open Go.RowKit
def mkB (l:List UInt8):ByteArray:=⟨l.toArray⟩
theorem bl_mkB (l:List UInt8):bl (mkB l)=l:=by simp [bl,mkB]
theorem mkB_bl {t:ByteArray} {l:List UInt8} (h:bl t=l):t=mkB l:=bl_inj (by rw [bl_mkB];exact h)
def addZ (s am:ByteArray):Int:=ival (bl (pN s)) * ival (bl (pD am))+ival (bl (pN am)) * ival (bl (pD s))
def subZ (s am:ByteArray):Int:=ival (bl (pN s)) * ival (bl (pD am)) - ival (bl (pN am)) * ival (bl (pD s))
theorem ratTxt_len {sg:Bool} {N D:Nat} (hN:N < ten 1000) (hD:D < ten 1000):(ratTxt sg N D).length≤2010:=by
 have h1:∀ (g:Bool) (n:Nat),n < ten 1000→(istr g n).length≤1002:=fun g n h => by
  by_cases h0:n=0
  ·subst h0;simp [istr]
  ·rw [istr_ne g h0]
   have:=dig10_ten h
   cases g <;> simp [asc] <;> omega
 have a:=h1 sg (N / Nat.gcd N D) (Nat.lt_of_le_of_lt (Nat.div_le_self _ _) hN)
 have b:=h1 false (D / Nat.gcd N D) (Nat.lt_of_le_of_lt (Nat.div_le_self _ _) hD)
 unfold ratTxt
 split
 ·omega
 ·simp only [List.length_append,List.length_singleton];omega
theorem zErr_lt {z:Int} (h:zErr z=0):z.natAbs < ten 1000:=by
 rw [zErr,wErr] at h
 split at h
 ·cases h
 ·rename_i hl
  have h1:z.natAbs < ten (dig10 z.natAbs).length:=by
   have h2:=val_lt (dig10_nrm z.natAbs).1
   rw [dig10_val] at h2
   exact h2
  exact Nat.lt_of_lt_of_le h1 (ten_mono (by omega))
theorem sumS_len (a b:ByteArray) (z:Int):(sumS a b z).length≤2010:=by
 unfold sumS
 split
 ·rename_i h
  unfold sumE at h
  split at h
  ·rename_i h0;exact absurd h h0
  ·split at h
   ·cases h
   ·rename_i h2
    have h3:zErr z=0:=by
     rcases Int.decEq (zErr z) 0 with k | k
     ·exact absurd (.inr (.inr (.inl k))) h2
     ·exact k
    have h4:zErr (ival (bl (pD a)) * ival (bl (pD b)))=0:=by
     rcases Int.decEq (zErr (ival (bl (pD a)) * ival (bl (pD b)))) 0 with k | k
     ·exact absurd (.inr (.inr (.inr k))) h2
     ·exact k
    exact ratTxt_len (zErr_lt h3) (zErr_lt h4)
 ·simp
theorem mkB_size (l:List UInt8):(mkB l).size=l.length:=by rw [← bl_length,bl_mkB]
theorem sumS_err {a b:ByteArray} {z:Int} (h:sumE a b z ≠ 0):sumS a b z=[]:=by rw [sumS,if_neg h]
end Go.Proofs.YtknpnhodpgajbaaGreatDoor

namespace Go.Proofs.YtknpnhodpgajbaaGreatDoor
open Go.RowKit
set_option maxRecDepth 100000 in
theorem within_any (d:Int) (w:World):Calls Tryz.prog 68 #[.int .i64 d] w fun e w' => e = .returned (.bool (isDay d))∧w=w':=by
 go_enter Tryz.func68,Tryz.ntmps68
 go_wp2
 all_goals
  go_ret
  refine ⟨ret_bool' ?_,rfl⟩
  rw [Bool.eq_iff_iff];simp [isDay];omega
end Go.Proofs.YtknpnhodpgajbaaGreatDoor

namespace Go.Proofs.YtknpnhodpgajbaaGreatDoor
open Go.RowKit
def slt (a b:ByteArray):Bool:=Op.bytesLess (bl a) (bl b)
theorem bytesLess_irrefl (l:List UInt8):Op.bytesLess l l=false:=by
 induction l with
 | nil => rfl
 | cons a l ih => simp [Op.bytesLess,ih]
def cmpS (a b:ByteArray):Int:=if slt a b=true then -1 else if a=b then 0 else 1
def cmpI (a b:Int):Int:=if a < b then -1 else if b < a then 1 else 0
def orI:List Int→Int
 | [] => 0
 | a :: l => if a=0 then orI l else a
def fxCmp (n1:ByteArray) (d1:Int) (n2:ByteArray) (d2:Int):Int:=orI [cmpS n1 n2,cmpI d1 d2]
def chCmp (p1 n1:ByteArray) (d1:Int) (p2 n2:ByteArray) (d2:Int):Int:=orI [cmpS p1 p2,cmpS n1 n2,cmpI d1 d2]
def fxLt (n1:ByteArray) (d1:Int) (n2:ByteArray) (d2:Int):Bool:=slt n1 n2 || (decide (n1=n2) && decide (d1 < d2))
def chLt (p1 n1:ByteArray) (d1:Int) (p2 n2:ByteArray) (d2:Int):Bool:=if p1=p2 then fxLt n1 d1 n2 d2 else slt p1 p2
theorem slt_irrefl (a:ByteArray):slt a a=false:=bytesLess_irrefl _
theorem fxCmp_lt (n1 n2:ByteArray) (d1 d2:Int):decide (fxCmp n1 d1 n2 d2 < 0)=fxLt n1 d1 n2 d2:=by
 unfold fxCmp fxLt orI orI orI cmpS cmpI
 by_cases h:slt n1 n2=true
 ·simp [h]
 ·by_cases h2:n1=n2
  ·subst h2
   simp [slt_irrefl]
   by_cases h3:d1 < d2
   ·simp [h3]
   ·by_cases h4:d2 < d1 <;> simp [h3,h4]
  ·simp [h,h2]
theorem chCmp_lt (p1 p2 n1 n2:ByteArray) (d1 d2:Int):decide (chCmp p1 n1 d1 p2 n2 d2 < 0)=chLt p1 n1 d1 p2 n2 d2:=by
 by_cases h2:p1=p2
 ·subst h2
  rw [chLt,if_pos rfl,← fxCmp_lt]
  have e:chCmp p1 n1 d1 p1 n2 d2=fxCmp n1 d1 n2 d2:=by
   rw [chCmp,orI,if_pos (by simp [cmpS,slt_irrefl]),fxCmp]
  rw [e]
 ·rw [chLt,if_neg h2,chCmp,orI,cmpS]
  by_cases h:slt p1 p2=true
  ·simp [h]
  ·simp [h,h2]
end Go.Proofs.YtknpnhodpgajbaaGreatDoor

namespace Go.Proofs.YtknpnhodpgajbaaGreatDoor
open Go.RowKit
set_option maxRecDepth 100000 in
theorem nanS_any (a:ByteArray) (w:World):Calls Tryz.prog 168 #[.string a] w fun e w' => e = .returned (.bool false)∧w=w':=by
 go_enter Tryz.func168,Tryz.ntmps168
 go_wp2
 go_ret
 exact ⟨ret_bool' (by simp),rfl⟩
set_option maxRecDepth 100000 in
theorem cmpS_any (a b:ByteArray) (w:World):Calls Tryz.prog 131 #[.string a,.string b] w fun e w' => e = .returned (.int .i64 (cmpS a b))∧w=w':=by
 cases h1:Op.bytesLess a.toList b.toList with
 | true =>
  have HR:Hid (cmpS a b = -1):=by show _=_;rw [cmpS,slt,← toList_bl,← toList_bl,h1];rfl
  go_enter Tryz.func131,Tryz.ntmps131
  go_wp2_with (go_at_call 168;refine (nanS_any _ _).mono ?_;rintro e w' ⟨rfl,rfl⟩)
  go_ret
  exact ⟨ret_int' HR.out.symm,rfl⟩
 | false =>
  cases h2:(a.toList == b.toList) with
  | true =>
   have HR:Hid (cmpS a b=0):=by
    show _=_
    rw [toList_beq,decide_eq_true_eq] at h2
    rw [cmpS,slt,← toList_bl,← toList_bl,h1,if_pos h2];rfl
   go_enter Tryz.func131,Tryz.ntmps131
   go_wp2_with (go_at_call 168;refine (nanS_any _ _).mono ?_;rintro e w' ⟨rfl,rfl⟩)
   go_ret
   exact ⟨ret_int' HR.out.symm,rfl⟩
  | false =>
   have HR:Hid (cmpS a b=1):=by
    show _=_
    rw [toList_beq,decide_eq_false_iff_not] at h2
    rw [cmpS,slt,← toList_bl,← toList_bl,h1,if_neg h2];rfl
   go_enter Tryz.func131,Tryz.ntmps131
   go_wp2_with (go_at_call 168;refine (nanS_any _ _).mono ?_;rintro e w' ⟨rfl,rfl⟩)
   go_ret
   exact ⟨ret_int' HR.out.symm,rfl⟩
theorem orI_drop (zs:List Int) (k:Nat) (h:k < zs.length):orI (zs.drop k)=if zs.getD k 0=0 then orI (zs.drop (k+1)) else zs.getD k 0:=by
 rw [List.drop_eq_getElem_cons h,orI]
 have e:zs.getD k 0=zs[k]:=by simp [List.getD,h]
 rw [e]
set_option maxRecDepth 100000 in
theorem or_any (zs:List Int) (b cap:Nat) (w:World) (hn:zs.length≤100) (hc:∀ j,j < zs.length→w.cell? ⟨b,j,none⟩=some (.int .i64 (zs.getD j 0))) :
  Calls Tryz.prog 130 #[.slice (some ⟨b,0,none⟩) zs.length cap] w fun e w' => e = .returned (.int .i64 (orI zs))∧w=w':=by
 have Hc:=Lib.hid hc
 clear hc
 go_enter Tryz.func130,Tryz.ntmps130
 go_wp2
 go_loop [8] (fun i => ∃ k:Nat,k≤zs.length∧i = .int .i64 k∧Hid (orI (zs.drop k)=orI zs)) (fun i => zs.length - (intOf i).toNat)
 case atStart => exact ⟨0,Nat.zero_le _,rfl,Lib.hid (by rfl)⟩
 case round =>
  obtain ⟨k,hk,rfl,HO⟩:=hrel
  by_cases hlt:k < zs.length
  ·have hcell:=Hc.out k hlt
   have Hd:=Lib.hid (orI_drop zs k hlt)
   obtain ⟨z,hz⟩:∃ z,zs.getD k 0=z:=⟨_,rfl⟩
   rw [hz] at hcell Hd
   clear hz
   by_cases h0:z=0
   ·have t1:(z != 0)=false:=by rw [bne_eq_false_iff_eq];exact h0
    have HO2:Hid (orI (zs.drop (k+1))=orI zs):=by show _=_;rw [← HO.out,Hd.out,if_pos h0]
    clear h0
    go_wp2
    go_round
    case rel => exact ⟨k+1,by omega,by go_num,HO2⟩
    case measure => simp [intOf];omega
   ·have t1:(z != 0)=true:=by rw [bne_iff_ne];exact h0
    have HO2:Hid (orI zs=z):=by show _=_;rw [← HO.out,Hd.out,if_neg h0]
    clear h0
    go_wp2
    go_ret
    exact ⟨ret_int' HO2.out.symm,rfl⟩
  ·obtain rfl:k=zs.length:=by omega
   have HO2:Hid (orI zs=0):=by show _=_;rw [← HO.out,List.drop_length];rfl
   go_wp2
   go_ret
   exact ⟨ret_int' HO2.out.symm,rfl⟩
theorem or2_any (x y:Int) (b:Nat) (w:World) (h0:w.cell? ⟨b,0,none⟩=some (.int .i64 x)) (h1:w.cell? ⟨b,1,none⟩=some (.int .i64 y)) :
  Calls Tryz.prog 130 #[.slice (some ⟨b,0,none⟩) 2 2] w fun e w' => e = .returned (.int .i64 (orI [x,y]))∧w=w' :=
 or_any [x,y] b 2 w (by simp) fun j hj => by
  match j,hj with
  | 0,_ => exact h0
  | 1,_ => exact h1
theorem or3_any (x y z:Int) (b:Nat) (w:World) (h0:w.cell? ⟨b,0,none⟩=some (.int .i64 x)) (h1:w.cell? ⟨b,1,none⟩=some (.int .i64 y)) (h2:w.cell? ⟨b,2,none⟩=some (.int .i64 z)) :
  Calls Tryz.prog 130 #[.slice (some ⟨b,0,none⟩) 3 3] w fun e w' => e = .returned (.int .i64 (orI [x,y,z]))∧w=w' :=
 or_any [x,y,z] b 3 w (by simp) fun j hj => by
  match j,hj with
  | 0,_ => exact h0
  | 1,_ => exact h1
  | 2,_ => exact h2
end Go.Proofs.YtknpnhodpgajbaaGreatDoor

namespace Go.Proofs.YtknpnhodpgajbaaGreatDoor
open Go.RowKit
set_option maxRecDepth 100000 in
theorem nanI_any (a:Int) (w:World):Calls Tryz.prog 169 #[.int .i64 a] w fun e w' => e = .returned (.bool false)∧w=w':=by
 go_enter Tryz.func169,Tryz.ntmps169
 go_wp2
 go_ret
 exact ⟨ret_bool' (by simp),rfl⟩
set_option maxRecDepth 100000 in
theorem cmpI_any (a b:Int) (w:World):Calls Tryz.prog 132 #[.int .i64 a,.int .i64 b] w fun e w' => e = .returned (.int .i64 (cmpI a b))∧w=w':=by
 go_enter Tryz.func132,Tryz.ntmps132
 go_wp2_with (go_at_call 169;refine (nanI_any _ _).mono ?_;rintro e w' ⟨rfl,rfl⟩)
 all_goals
  go_ret
  refine ⟨ret_int' ?_,rfl⟩
  unfold cmpI
  split <;> first | omega | (split <;> omega)
end Go.Proofs.YtknpnhodpgajbaaGreatDoor

namespace Go.Proofs.YtknpnhodpgajbaaGreatDoor
open Go.RowKit
def fxV (n:ByteArray) (d:Int) (v:ByteArray):Value:=.agg #[.string n,.int .i64 d,.string v]
def chV (p n:ByteArray) (d:Int) (f:Bool):Value:=.agg #[.string p,.string n,.int .i64 d,.bool f]
set_option maxHeartbeats 400000 in
set_option maxRecDepth 100000 in
theorem fixings_any (n1 v1 n2 v2:ByteArray) (d1 d2:Int) (w:World) :
  Calls Tryz.prog 73 #[fxV n1 d1 v1,fxV n2 d2 v2] w fun e w' => e = .returned (.int .i64 (fxCmp n1 d1 n2 d2))∧Below w.heap.size w w':=by
 unfold fxV fxCmp
 go_enter Tryz.func73,Tryz.ntmps73
 go_wp2
 go_region_held3 (fun w' => w'.cell? ⟨w.heap.size,0,none⟩=some (.string n1)∧w'.cell? ⟨w.heap.size,1,none⟩=some (.int .i64 d1)∧w'.cell? ⟨w.heap.size+1,0,none⟩=some (.string n2)∧w'.cell? ⟨w.heap.size+1,1,none⟩=some (.int .i64 d2)) (go_keep)
  (first | (go_at_call 131;refine (cmpS_any _ _ _).mono ?_;rintro e w' ⟨rfl,rfl⟩) | (go_at_call 132;refine (cmpI_any _ _ _).mono ?_;rintro e w' ⟨rfl,rfl⟩) | (go_at_call 130;refine (or2_any (cmpS n1 n2) (cmpI d1 d2) _ _ ?_ ?_).mono ?_;(go_simp);(go_simp);rintro e w' ⟨rfl,rfl⟩))
 all_goals
  go_wp2
  go_ret
  exact ⟨rfl,(below_a3 _ _ _ _).drew⟩
set_option maxHeartbeats 1000000 in
set_option maxRecDepth 100000 in
theorem choices_any (p1 n1 p2 n2:ByteArray) (d1 d2:Int) (f1 f2:Bool) (w:World) :
  Calls Tryz.prog 75 #[chV p1 n1 d1 f1,chV p2 n2 d2 f2] w fun e w' => e = .returned (.int .i64 (chCmp p1 n1 d1 p2 n2 d2))∧Below w.heap.size w w':=by
 unfold chV chCmp
 go_enter Tryz.func75,Tryz.ntmps75
 go_wp2
 go_region_held3 (fun w' => w'.cell? ⟨w.heap.size,0,none⟩=some (.string p1)∧w'.cell? ⟨w.heap.size,1,none⟩=some (.string n1)∧w'.cell? ⟨w.heap.size,2,none⟩=some (.int .i64 d1)∧w'.cell? ⟨w.heap.size+1,0,none⟩=some (.string p2)∧w'.cell? ⟨w.heap.size+1,1,none⟩=some (.string n2)∧w'.cell? ⟨w.heap.size+1,2,none⟩=some (.int .i64 d2)) (go_keep)
  (first | (go_at_call 131;refine (cmpS_any _ _ _).mono ?_;rintro e w' ⟨rfl,rfl⟩) | (go_at_call 132;refine (cmpI_any _ _ _).mono ?_;rintro e w' ⟨rfl,rfl⟩) | (go_at_call 130;refine (or3_any (cmpS p1 p2) (cmpS n1 n2) (cmpI d1 d2) _ _ ?_ ?_ ?_).mono ?_;(go_simp);(go_simp);(go_simp);rintro e w' ⟨rfl,rfl⟩))
 all_goals
  go_wp2
  go_ret
  exact ⟨rfl,(below_a3 _ _ _ _).drew⟩
end Go.Proofs.YtknpnhodpgajbaaGreatDoor

namespace Go.Proofs.YtknpnhodpgajbaaGreatDoor
open Go.RowKit
structure Fx where
 nm:ByteArray
 d:Int
 vl:ByteArray
structure Ch where
 pt:ByteArray
 nm:ByteArray
 d:Int
 first:Bool
def Fx.val (f:Fx):Value:=fxV f.nm f.d f.vl
def Ch.val (c:Ch):Value:=chV c.pt c.nm c.d c.first
def Fx.cells (f:Fx):List Value:=[.string f.nm,.int .i64 f.d,.string f.vl]
def Ch.cells (c:Ch):List Value:=[.string c.pt,.string c.nm,.int .i64 c.d,.bool c.first]
theorem Rd.fx {w:World} {ad:Option Addr} {l:List Fx} (h:Rd Fx.cells 3 w ad l) {j:Nat} {f:Fx} (hj:l[j]? = some f) :
  ∃ b off,ad=some ⟨b,off,none⟩∧w.cell? ⟨b,off+j * 3,none⟩=some (.string f.nm)∧w.cell? ⟨b,off+j * 3+1,none⟩=some (.int .i64 f.d)∧w.cell? ⟨b,off+j * 3+2,none⟩=some (.string f.vl):=by
 obtain ⟨b,off,rfl,h3⟩:=h j f hj
 exact ⟨b,off,rfl,h3 0 _ rfl,h3 1 _ rfl,h3 2 _ rfl⟩
theorem Rd.ch {w:World} {ad:Option Addr} {l:List Ch} (h:Rd Ch.cells 4 w ad l) {j:Nat} {f:Ch} (hj:l[j]? = some f) :
  ∃ b off,ad=some ⟨b,off,none⟩∧w.cell? ⟨b,off+j * 4,none⟩=some (.string f.pt)∧w.cell? ⟨b,off+j * 4+1,none⟩=some (.string f.nm)∧w.cell? ⟨b,off+j * 4+2,none⟩=some (.int .i64 f.d)∧w.cell? ⟨b,off+j * 4+3,none⟩=some (.bool f.first):=by
 obtain ⟨b,off,rfl,h3⟩:=h j f hj
 exact ⟨b,off,rfl,h3 0 _ rfl,h3 1 _ rfl,h3 2 _ rfl,h3 3 _ rfl⟩
def fxBad (f:Fx):Bool:=!(isNm (bl f.nm) && (isDay f.d && decide (ratErr f.vl=0)))
def chBad (c:Ch):Bool:=!(isNm (bl c.pt) && (isNm (bl c.nm) && isDay c.d))
set_option maxHeartbeats 1000000 in
set_option maxRecDepth 100000 in
theorem fixCl_any (f:Fx) (w:World) (h1:f.nm.size≤1100000) (h2:f.vl.size≤1100000) :
  Calls Tryz.prog 66 #[f.val] w fun e w' => e = .returned (.bool (fxBad f))∧Below w.heap.size w w':=by
 have HN:=Lib.hid (fun W => name_any f.nm W (by omega))
 have HW:=Lib.hid (fun W => within_any f.d W)
 have HR:=Lib.hid (fun W => rat_any f.vl W (by omega))
 unfold Fx.val fxV fxBad
 obtain ⟨nm,d,vl⟩:=f
 dsimp only at HN HW HR ⊢
 clear h1 h2
 generalize isNm (bl nm)=a at HN ⊢
 generalize isDay d=b at HW ⊢
 generalize ratErr vl=E at HR ⊢
 cases a with
 | false =>
  go_enter Tryz.func66,Tryz.ntmps66
  go_wp2_with (go_at_call 67;refine (HN.out _).mono ?_;rintro e w' ⟨rfl,rfl⟩)
  go_ret
  exact ⟨rfl,below_a1 _ _⟩
 | true =>
  cases b with
  | false =>
   go_enter Tryz.func66,Tryz.ntmps66
   go_wp2_with (first | (go_at_call 67;refine (HN.out _).mono ?_;rintro e w' ⟨rfl,rfl⟩) | (go_at_call 68;refine (HW.out _).mono ?_;rintro e w' ⟨rfl,rfl⟩))
   go_ret
   exact ⟨rfl,below_a1 _ _⟩
  | true =>
   have HE:Hid (decide (E=0) = !(E != 0)):=by show _=_;rw [Bool.eq_iff_iff];simp
   go_enter Tryz.func66,Tryz.ntmps66
   go_wp2_with (first | (go_at_call 67;refine (HN.out _).mono ?_;rintro e w' ⟨rfl,rfl⟩) | (go_at_call 68;refine (HW.out _).mono ?_;rintro e w' ⟨rfl,rfl⟩) | (go_at_call 21;refine (HR.out _).mono ?_;rintro e w1 ⟨rfl,hb1⟩))
   go_ret
   refine ⟨ret_bool' ?_,(below_a1 _ _).trans (hb1.mono (by simp))⟩
   rw [HE.out];simp
set_option maxHeartbeats 1000000 in
set_option maxRecDepth 100000 in
theorem pickCl_any (c:Ch) (w:World) (h1:c.pt.size≤1100000) (h2:c.nm.size≤1100000) :
  Calls Tryz.prog 69 #[c.val] w fun e w' => e = .returned (.bool (chBad c))∧Below w.heap.size w w':=by
 have HP:=Lib.hid (fun W => name_any c.pt W (by omega))
 have HN:=Lib.hid (fun W => name_any c.nm W (by omega))
 have HW:=Lib.hid (fun W => within_any c.d W)
 unfold Ch.val chV chBad
 obtain ⟨pt,nm,d,first⟩:=c
 dsimp only at HN HW HP ⊢
 clear h1 h2
 generalize isNm (bl pt)=a0 at HP ⊢
 generalize isNm (bl nm)=a at HN ⊢
 generalize isDay d=b at HW ⊢
 cases a0 with
 | false =>
  go_enter Tryz.func69,Tryz.ntmps69
  go_wp2_with (go_at_call 67;refine (HP.out _).mono ?_;rintro e w' ⟨rfl,rfl⟩)
  go_ret
  exact ⟨rfl,below_a1 _ _⟩
 | true =>
  cases a with
  | false =>
   go_enter Tryz.func69,Tryz.ntmps69
   go_wp2_with fail
   refine (HP.out _).mono ?_
   rintro e w' ⟨rfl,rfl⟩
   go_wp2_with fail
   refine (HN.out _).mono ?_
   rintro e w' ⟨rfl,rfl⟩
   go_wp2
   go_ret
   exact ⟨rfl,below_a1 _ _⟩
  | true =>
   go_enter Tryz.func69,Tryz.ntmps69
   go_wp2_with fail
   refine (HP.out _).mono ?_
   rintro e w' ⟨rfl,rfl⟩
   go_wp2_with fail
   refine (HN.out _).mono ?_
   rintro e w' ⟨rfl,rfl⟩
   go_wp2_with (go_at_call 68;refine (HW.out _).mono ?_;rintro e w' ⟨rfl,rfl⟩)
   go_ret
   refine ⟨ret_bool' ?_,below_a1 _ _⟩
   simp
end Go.Proofs.YtknpnhodpgajbaaGreatDoor
