/- A part. -/
import Derived.Test.YtcnpaciljmekcaaGreatDoorB04
import Derived.Test.YtcnpaciljmekcaaGreatDoorCards
import Derived.Test.YtcnpaciljmekcaaGreatDoorTie
namespace Go.Proofs.YtcnpaciljmekcaaGreatDoor
open Go.RowKit
theorem payss_app (x:Con):∀ l:List Con,Con.payss (l ++ [x])=Con.payss l+Con.payss [x]
 | [] => by simp [Con.payss,Con.nodess]
 | y :: l => by
  have h:=payss_app x l
  unfold Con.payss at h ⊢
  rw [List.cons_append,Con.nodess,Con.nodess,List.filter_append,List.filter_append,List.length_append,List.length_append,h]
  omega
theorem payss_le (l:List Con):Con.payss l≤Con.bulks l:=Nat.le_trans (List.length_filter_le ..) (Con.nodess_len l)
set_option maxHeartbeats 2000000 in
set_option maxRecDepth 100000 in
theorem rpays_any:∀ (N:Nat) (x:Con) (es dd ss:Value) (w:World),x.bulk≤N→x.bulk≤2000000→RdN w x es dd ss →
  Calls Tryz.prog 13 #[x.val es dd ss] w fun e w' => e = .returned (.int .i64 (x.pays:Int))∧Below w.heap.size w w':=by
 intro N
 induction N with
 | zero =>
  intro x es dd ss w h0
  rw [Con.bulk_eq] at h0
  omega
 | succ N ih =>
  intro x es dd ss w hN hB hs
  obtain ⟨ad,cap,rfl⟩:=hs.2.2.1.len
  obtain ⟨ad1,cap1,rfl⟩:=hs.1.len
  obtain ⟨ad2,cap2,rfl⟩:=hs.2.1.len
  have HS:=Lib.hid hs.2.2.1
  have HI:=Lib.hid ih
  have hsq1:=x.bulk_eq
  have hlen:=Con.bulks_len x.sub
  have hn:x.sub.length≤2000000:=by omega
  obtain ⟨W1,hW1,hb2,hz1,bx⟩:∃ W,w.alloc (.cells #[.int .u8 x.k,.string x.fr,.string x.rc,.string x.nm,.int .u8 x.ex.k,.string x.ex.ra,.string x.ex.nm,.int .i64 x.ex.d,.slice ad1 x.ex.sub.length cap1,.int .i64 x.d,.slice ad2 x.ds.length cap2,.slice ad x.sub.length cap] 29)=W∧Below w.heap.size w W∧w.heap.size < W.heap.size∧BoxN W w.heap.size 29 (x.cells (.slice ad1 x.ex.sub.length cap1) (.slice ad2 x.ds.length cap2) (.slice ad x.sub.length cap)) :=
   ⟨_,rfl,below_a1 _ _,by simp,BoxN.new w _ _⟩
  have c0:W1.cell? ⟨w.heap.size,0,none⟩=some (.int .u8 x.k):=bx.cell (j:=0) rfl
  have c11:W1.cell? ⟨w.heap.size,11,none⟩=some (.slice ad x.sub.length cap):=bx.cell (j:=11) rfl
  obtain ⟨p0,hp0⟩:∃ p:Nat,p=if x.k=2 then 1 else 0:=⟨_,rfl⟩
  have HP:Hid (x.pays=p0+Con.payss x.sub):=Lib.hid (by rw [x.pays_eq,hp0])
  have hps:∀ k,k≤x.sub.length→Con.payss (x.sub.take k)≤2000000:=fun k hk => by
   have h1:=payss_le (x.sub.take k)
   have h2:=Con.bulks_take x.sub k
   omega
  have HQ:=Lib.hid hps
  clear hs ih hsq1 bx hps
  unfold Con.val
  go_enter Tryz.func13,Tryz.ntmps13
  go_upto_region 1 with (fail)
  clear hW1
  go_upto_region 2 with (fail)
  have t:((x.k:Int) == 2)=(p0 == 1):=by
   rw [hp0]
   by_cases hk:x.k=2
   ·rw [if_pos hk,hk];rfl
   ·rw [if_neg hk,beq_eq_false_iff_ne.2 (show (x.k:Int) ≠ 2 by omega)];rfl
  have hp1:p0=0∨p0=1:=by rw [hp0];split <;> simp
  clear hp0
  rcases hp1 with rfl | rfl
  all_goals
   go_wp2_with fail
   go_loopw [3,4] (fun n i wr => ∃ (k m:Nat),k≤x.sub.length∧i = .int .i64 (k:Int)∧n = .int .i64 (m:Int)∧Hid (m+Con.payss x.sub=x.pays+Con.payss (x.sub.take k))∧Below w.heap.size w wr∧wr.cell? ⟨w.heap.size,11,none⟩=some (.slice ad x.sub.length cap)) (fun _ i _ => x.sub.length - (intOf i).toNat)
   case atStart => exact ⟨0,_,Nat.zero_le _,rfl,rfl,Lib.hid (by have:=HP.out;simp [Con.payss,Con.nodess] at this ⊢;omega),hb2,c11⟩
   case round =>
    clear hb2 c0 c11 t
    obtain ⟨k,m,hk,rfl,rfl,HM,hbel,q0⟩:=hrel
    by_cases hlt:k < x.sub.length
    ·obtain ⟨y,hy⟩:∃ y,x.sub[k]? = some y:=⟨_,List.getElem?_eq_getElem hlt⟩
     obtain ⟨b,off,es',dd',ss',rfl,⟨c0,c1,c2,c3,c4,c5,c6,c7,c8,c9,c10,c11⟩,hs'⟩:=(HS.out.frame hbel).cells hy
     have hym:=Con.mem_lt (List.mem_of_getElem? hy)
     have hblk:b < wr.heap.size:=World.block_lt_of_cell? wr _ c0
     have hbx:w.heap.size < wr.heap.size:=World.block_lt_of_cell? wr _ q0
     have hzw:=hbel.size
     have hk1:(0:Int)≤(k:Int):=by omega
     have hk2:(k:Int) < (x.sub.length:Int):=by omega
     have HC:=Lib.hid (HI.out y es' dd' ss' wr (by have:=x.bulk_eq;omega) (by omega) hs')
     have HM2:Hid (m+y.pays+Con.payss x.sub=x.pays+Con.payss (x.sub.take (k+1))):=Lib.hid (by have:=HM.out;rw [take_snoc_get hy,payss_app,Con.payss_one];omega)
     have hmy:m+y.pays≤2000001:=by have:=HM2.out;have:=HQ.out (k+1) (by omega);have:=HP.out;omega
     unfold Con.val at HC
     clear hy hym hs'
     go_wp2_with fail
     refine HC.out.mono ?_
     rintro e w1 ⟨rfl,hb1⟩
     have q1:w1.cell? ⟨w.heap.size,11,none⟩=some (.slice (some ⟨b,off,none⟩) x.sub.length cap):=by rw [hb1.cell (p:=⟨w.heap.size,11,none⟩) hbx];exact q0
     have hb2:=hbel.trans (hb1.mono hzw)
     generalize y.pays=py at HM2 hmy ⊢
     clear hb1 hbel q0 HC c0 c1 c2 c3 c4 c5 c6 c7 c8 c9 c10 c11
     go_wp2
     go_roundw
     case rel => exact ⟨k+1,m+py,by omega,by go_num,by go_num,HM2,hb2,q1⟩
     case measure => simp [intOf];omega
    ·have HF:Hid (x.pays=m):=Lib.hid (by have h:=HM.out;rw [List.take_of_length_le (by omega)] at h;omega)
     go_wp2
     go_ret
     exact ⟨by rw [HF.out];rfl,hbel⟩
end Go.Proofs.YtcnpaciljmekcaaGreatDoor

namespace Go.Proofs.YtcnpaciljmekcaaGreatDoor
open Go.RowKit
theorem map_enc (l:List (List UInt8)):l.map encStr=(l.map mkB).flatMap sC:=by
 induction l with
 | nil => rfl
 | cons x l ih => rw [List.map_cons,List.map_cons,List.flatMap_cons,ih];rfl
theorem rd_st {w:World} {base c n:Nat} {e:TypeId} {a:Option Addr} {l:List ByteArray} (h:w.ownsRow base e 1 (.slice a n c) n (l.flatMap sC)) (hn:n=l.length):Rd sC 1 w a l:=by
 subst hn
 exact Rd.of_sl (enc:=sC) (m:=1) (fun _ => rfl) (by decide) (Sl.of_owns h)
def WdP (w:World) (P:List ByteArray) (e:Ending) (w':World):Prop:=∃ ad cap,e = .returned (.tuple #[.slice ad P.length cap,.int .i64 0])∧Rd sC 1 w' ad P∧Below w.heap.size w w'
theorem wdP_of {w w':World} {L:List ByteArray} {e:Ending} (h:∃ v,e = .returned (.tuple #[v,.int .i64 0])∧w'.ownsRow w.heap.size 9 1 v (wordsOf L).length ((wordsOf L).map encStr)∧Below w.heap.size w w'):WdP w ((wordsOf L).map mkB) e w':=by
 obtain ⟨v,rfl,h1,h2⟩:=h
 obtain ⟨ad,cap,rfl⟩:∃ ad cap,v = .slice ad (wordsOf L).length cap:=by
  rcases h1.2 with ⟨rfl,h0⟩ | ⟨g,cap,cur,rfl,_⟩
  ·exact ⟨none,0,by rw [h0]⟩
  ·exact ⟨_,_,rfl⟩
 rw [map_enc] at h1
 exact ⟨ad,cap,by rw [List.length_map],rd_st h1 (List.length_map _).symm,h2⟩
theorem rat_small {a:ByteArray} (h:ratErr a=0):a.size≤2010:=by
 obtain ⟨sg,N,D,rfl,hN,hD,_⟩:=rat_is h
 rw [mkB_size]
 exact ratTxt_len hN hD
theorem nm_small' {s:ByteArray} (h:isNm (bl s)=true):s.size≤40:=by
 unfold isNm at h
 simp only [Bool.and_eq_true,decide_eq_true_eq] at h
 have:=h.2.1
 unfold bl at this
 rw [show s.size=s.data.toList.length from (Array.length_toList ..).symm]
 omega
theorem flow_small {l:List Fl} (h:flowsErr l=0):∀ f ∈ l,f.small∧f.am.size≤2010:=fun f hf => by
 obtain ⟨j,hj,e⟩:=List.mem_iff_getElem.1 hf
 obtain ⟨g1,g2,g3,_,g5,_⟩:=((okP_of_err h) j f (by rw [List.getElem?_eq_getElem hj,e])).1
 have h5:=rat_small g5
 exact ⟨⟨by have:=nm_small' g1;omega,by have:=nm_small' g2;omega,by have:=nm_small' g3;omega,by omega⟩,h5⟩
theorem wd_facts {c:Con} (h:c.err=0):((wordsOf (wds gP c)).map mkB).Nodup∧((wordsOf (wds gP c)).map mkB).length≤1000∧((wordsOf (wds gC c)).map mkB).length≤1000 ∧
  (∀ p ∈ (wordsOf (wds gP c)).map mkB,isNm (bl p)=true)∧∀ p ∈ (wordsOf (wds gC c)).map mkB,isNm (bl p)=true:=by
 have hn:=nodes_few h
 have h1:=wdsL_len gP gP_len c.nodes
 have h2:=wdsL_len gC gC_len c.nodes
 have h3:=wordsOf_len (wds gP c)
 have h4:=wordsOf_len (wds gC c)
 unfold wds at h3 h4
 exact ⟨wordsOf_nodup _,by rw [List.length_map];unfold wds;omega,by rw [List.length_map];unfold wds;omega,
  fun p hp => parties_nm h p ((wordsOf_mem _ _).1 hp),fun p hp => moneys_nm h p ((wordsOf_mem _ _).1 hp)⟩
theorem ul_rats:Tryz.prog.underlying 48=some (.slice 22):=by kernel_rfl
theorem info_rat:(Tryz.prog.info? 22).map (fun i => (i.zero,i.size,i.bytes))=some (some (.string ⟨#[]⟩),1,16):=by kernel_rfl
noncomputable def bigB (m:ByteArray) (L:List Fl) (l:List ByteArray):Bool:=l.any fun p => (netAcc p m L L.length).2 == 14
def netL (m:ByteArray) (L:List Fl) (l:List ByteArray):List ByteArray:=l.map fun p => (netAcc p m L L.length).1
set_option maxHeartbeats 8000000 in
set_option maxRecDepth 100000 in
theorem bal10_any (c:Con) (es dd ss:Value) (day:Int) (E:EvD) (w:World) (hA:BfH c es dd ss E w) :
  Calls Tryz.prog 3 #[c.val es dd ss,.int .i64 day,E.val] w fun e w' => e = .returned (.bool true)∧Below w.heap.size w w':=by
 obtain ⟨p1,pn1,rfl⟩:=hA.rd.1.len
 obtain ⟨p2,pn2,rfl⟩:=hA.rd.2.1.len
 obtain ⟨p3,pn3,rfl⟩:=hA.rd.2.2.1.len
 obtain ⟨W0,hW0,hb0,hz0,bx⟩:=bx2_world w c (.slice p1 c.ex.sub.length pn1) (.slice p2 c.ds.length pn2) (.slice p3 c.sub.length pn3) E
 have hba:c.bulk≤1100000:=hA.bulk
 obtain ⟨i0,hI0,hI1,hI2,hI3⟩:=info_parts info_rat
 have HAl:Hid (∀ W,Below w.heap.size w W→Calls Tryz.prog 7 #[] W fun e w' => e = .returned (.bool true)∧Below W.heap.size W w'):=Lib.hid fun W hb => alive10_any W ⟨(hA.frame hb).ls,(hA.frame hb).lp,(hA.frame hb).lo⟩
 have HG:=Lib.hid fun W (hb:Below w.heap.size w W) => great10_any c _ _ _ E W (by omega) (hA.frame hb).rd (hA.frame hb).e hA.fs hA.cs
 have HF:=Lib.hid fun W (hb:Below w.heap.size w W) => mflows_any c _ _ _ day E W (hA.frame hb)
 have HPa:Hid (c.err=0→∀ W,Below w.heap.size w W→Calls Tryz.prog 10 #[c.val (.slice p1 c.ex.sub.length pn1) (.slice p2 c.ds.length pn2) (.slice p3 c.sub.length pn3)] W (WdP W ((wordsOf (wds gP c)).map mkB))):=Lib.hid fun hE W hb => (parties_any c _ _ _ W (by omega) (hA.frame hb).rd (hA.frame hb).ls (hA.frame hb).lp hE).mono fun e w' h => wdP_of h
 have HCu:Hid (c.err=0→∀ W,Below w.heap.size w W→Calls Tryz.prog 11 #[c.val (.slice p1 c.ex.sub.length pn1) (.slice p2 c.ds.length pn2) (.slice p3 c.sub.length pn3)] W (WdP W ((wordsOf (wds gC c)).map mkB))):=Lib.hid fun hE W hb => (currencies_any c _ _ _ W (by omega) (hA.frame hb).rd (hA.frame hb).ls (hA.frame hb).lp hE).mono fun e w' h => wdP_of h
 have HPy:=Lib.hid fun W (hb:Below w.heap.size w W) => rpays_any c.bulk c _ _ _ W (Nat.le_refl _) (by omega) (hA.frame hb).rd
 have HL:Hid ((befR c day 100000 E.F E.C).1=0→c.err=0∧flowsErr (befR c day 100000 E.F E.C).2=0∧(befR c day 100000 E.F E.C).2.length≤c.pays ∧
   ∀ f ∈ (befR c day 100000 E.F E.C).2,¬ f.d < day∧f.fr ∈ (wordsOf (wds gP c)).map mkB∧f.rc ∈ (wordsOf (wds gP c)).map mkB∧f.cy ∈ (wordsOf (wds gC c)).map mkB∧f.fr ≠ f.rc):=Lib.hid fun h => by
  obtain ⟨h1,h2,h3,h4⟩:=bal_fin h
  exact ⟨h1,h2,h3,fun f hf => ⟨by have:=(h4 f hf).1;omega,(wordsOf_mem _ _).2 (h4 f hf).2.1,(wordsOf_mem _ _).2 (h4 f hf).2.2.1,(wordsOf_mem _ _).2 (h4 f hf).2.2.2.1,(h4 f hf).2.2.2.2⟩⟩
 have HW:Hid (c.err=0→_):=Lib.hid (wd_facts (c:=c))
 have HY:Hid ((befR c day 100000 E.F E.C).2.length≤1100000):=Lib.hid (Nat.le_trans (befR_len _ _ _ _ _) hba)
 have HNil:Hid ((befR c day 100000 E.F E.C).1 ≠ 0→(befR c day 100000 E.F E.C).2=[]):=Lib.hid befR_nil
 generalize befR c day 100000 E.F E.C=R at HF HL HY HNil
 generalize (wordsOf (wds gP c)).map mkB=PP at HPa HL HW
 generalize (wordsOf (wds gC c)).map mkB=MM at HCu HL HW
 generalize c.pays=py at HPy HL
 clear hA
 unfold Con.val EvD.val at *
 have HX:=Lib.hid bx
 have Hb0:=Lib.hid hb0
 clear bx hb0
 go_enter Tryz.func3,Tryz.ntmps3
 go_upto_region 1 with (fail)
 clear hW0
 go_wp2_with (first | (go_at_call 7;refine (HAl.out _ Hb0.out).mono ?_;rintro e w1 ⟨rfl,hb1⟩;have hbA:=Hb0.out.trans (hb1.mono Hb0.out.size);have hB1:=HX.out.below hb1;obtain ⟨k0,k1,k2,k3,k4,k5,k6,k7,k8,k9,k10,k11,v0,v1⟩:=hB1.all) | (go_at_call 8;refine (HG.out _ hbA).mono ?_;rintro e w2 ⟨⟨b1,rfl⟩,hb2⟩;have hbB:=hbA.trans (hb2.mono hbA.size);have hB2:=hB1.below hb2;clear k0 k1 k2 k3 k4 k5 k6 k7 k8 k9 k10 k11 v0 v1;obtain ⟨k0,k1,k2,k3,k4,k5,k6,k7,k8,k9,k10,k11,v0,v1⟩:=hB2.all;cases b1))
 all_goals try (go_ret;exact ⟨rfl,hbB⟩)
 clear HAl HG hB1 hb1 hb2 hbA HX Hb0
 refine (HF.out _ hbB).mono ?_
 rintro e w3 ⟨ad3,cp3,rfl,hb3,l3,n3,r3⟩
 have hbC:=hbB.trans (hb3.mono hbB.size)
 have hB3:=hB2.below hb3
 have RL:=Lib.hid r3
 clear k0 k1 k2 k3 k4 k5 k6 k7 k8 k9 k10 k11 v0 v1 HF hB2 hb3 r3 l3 n3
 obtain ⟨ef,L⟩:=R
 by_cases he:ef=0
 case neg =>
  have t1:(ef != 0)=true:=by rw [bne_iff_ne];exact he
  obtain rfl:L=[]:=HNil.out he
  go_wp2
  go_ret
  exact ⟨rfl,hbC⟩
 subst he
 obtain ⟨hce,hfe,hlp,hin⟩:=HL.out rfl
 obtain ⟨hnd,hPl,hMl,hPn,hMn⟩:=HW.out hce
 have HIn:=Lib.hid hin
 have HFe:=Lib.hid hfe
 have HNd:=Lib.hid hnd
 have HPn:=Lib.hid hPn
 have HMn:=Lib.hid hMn
 have HPa2:=Lib.hid (HPa.out hce)
 have HCu2:=Lib.hid (HCu.out hce)
 have HSm:=Lib.hid (flow_small hfe)
 have hll:L.length≤1100000:=HY.out
 clear HL HW HY HNil hin hfe hnd hPn hMn HPa HCu hce
 obtain ⟨k0,k1,k2,k3,k4,k5,k6,k7,k8,k9,k10,k11,v0,v1⟩:=hB3.all
 go_wp2_with fail
 refine (HPa2.out _ hbC).mono ?_
 rintro e w4 ⟨ad4,cp4,rfl,r4,hb4⟩
 have hbD:=hbC.trans (hb4.mono hbC.size)
 have hB4:=hB3.below hb4
 have RP:=Lib.hid r4
 clear k0 k1 k2 k3 k4 k5 k6 k7 k8 k9 k10 k11 v0 v1 HPa2 hB3 r4
 obtain ⟨k0,k1,k2,k3,k4,k5,k6,k7,k8,k9,k10,k11,v0,v1⟩:=hB4.all
 go_wp2_with fail
 refine (HCu2.out _ hbD).mono ?_
 rintro e w5 ⟨ad5,cp5,rfl,r5,hb5⟩
 have hbE:=hbD.trans (hb5.mono hbD.size)
 have hB5:=hB4.below hb5
 have HCk:=Lib.hid (chkFl_any L ad3 cp3 w5 hll ((RL.out.below hb4).below hb5) fun f hf => (HSm.out f hf).1)
 rw [HFe.out] at HCk
 clear k0 k1 k2 k3 k4 k5 k6 k7 k8 k9 k10 k11 v0 v1 HCu2 hB4
 go_wp2_with fail
 refine HCk.out.mono ?_
 rintro e w6 ⟨rfl,hb6⟩
 have hbF:=hbE.trans (hb6.mono hbE.size)
 have hB6:=hB5.below hb6
 have t9:decide (py < L.length)=false:=decide_eq_false (by omega)
 obtain ⟨k0,k1,k2,k3,k4,k5,k6,k7,k8,k9,k10,k11,v0,v1⟩:=hB6.all
 clear HCk hB5
 go_wp2_with fail
 refine (HPy.out _ hbF).mono ?_
 rintro e w7 ⟨rfl,hb7⟩
 have HbG:=Lib.hid (hbF.trans (hb7.mono hbF.size))
 have HRL:=Lib.hid ((((RL.out.below hb4).below hb5).below hb6).below hb7)
 have HRP:=Lib.hid (((RP.out.below hb5).below hb6).below hb7)
 have HRM:=Lib.hid ((r5.below hb6).below hb7)
 have hz7:=HbG.out.size
 clear k0 k1 k2 k3 k4 k5 k6 k7 k8 k9 k10 k11 v0 v1 HPy hB6 hb4 hb5 hb6 hb7 hbB hbC hbD hbE hbF RL RP r5 hlp hba hz0
 obtain ⟨n,hn⟩:∃ n,L.length=n:=⟨_,rfl⟩
 obtain ⟨np,hnp⟩:∃ n,PP.length=n:=⟨_,rfl⟩
 obtain ⟨nm,hnm⟩:∃ n,MM.length=n:=⟨_,rfl⟩
 have HNn:=Lib.hid (And.intro hn (And.intro hnp hnm))
 have HHP:=Lib.hid fun W (hb:Below w7.heap.size w7 W) s => hasL_any PP s ad4 cp4 W (by omega) (HRP.out.below hb)
 have HHM:=Lib.hid fun W (hb:Below w7.heap.size w7 W) s => hasL_any MM s ad5 cp5 W (by omega) (HRM.out.below hb)
 have HNt:=Lib.hid fun W (hb:Below w7.heap.size w7 W) p (hp:isNm (bl p)=true) m (hm:isNm (bl m)=true) => net_any L p m ad3 cp3 W hll (HRL.out.below hb) (fun f hf => (HSm.out f hf).1) (Nat.le_trans (nm_small' hp) (by omega)) (Nat.le_trans (nm_small' hm) (by omega)) (fun f hf => by have:=(HSm.out f hf).2;omega)
 rw [hnp] at HHP
 rw [hnm] at HHM
 rw [hn] at HNt
 simp only [hn,hnp,hnm] at hll hPl hMl ⊢
 rw [hn] at t9
 clear hn hnp hnm HSm
 go_wp2_with fail
 go_loopw [14] (fun i wr => ∃ k:Nat,k≤n∧i = .int .i64 (k:Int)∧Below w7.heap.size w7 wr) (fun i _ => n - (intOf i).toNat)
 case atStart => exact ⟨0,Nat.zero_le _,rfl,Below.refl _ _⟩
 case round =>
  obtain ⟨k,hk,rfl,hb8⟩:=hrel
  by_cases hkn:k < n
  ·obtain ⟨f,hf⟩:∃ f,L[k]? = some f:=⟨_,List.getElem?_eq_getElem (by rw [HNn.out.1];exact hkn)⟩
   obtain ⟨i1,i2,i3,i4,_⟩:=HIn.out f (List.mem_of_getElem? hf)
   have H1:Hid (∀ W,Below w7.heap.size w7 W→Calls Tryz.prog 14 #[.slice ad4 np cp4,.string f.fr] W fun e w' => e = .returned (.bool true)∧Below W.heap.size W w'):=Lib.hid fun W hb => by have h:=HHP.out W hb f.fr;rw [eqB_true i2] at h;exact h
   have H2:Hid (∀ W,Below w7.heap.size w7 W→Calls Tryz.prog 14 #[.slice ad4 np cp4,.string f.rc] W fun e w' => e = .returned (.bool true)∧Below W.heap.size W w'):=Lib.hid fun W hb => by have h:=HHP.out W hb f.rc;rw [eqB_true i3] at h;exact h
   have H3:Hid (∀ W,Below w7.heap.size w7 W→Calls Tryz.prog 14 #[.slice ad5 nm cp5,.string f.cy] W fun e w' => e = .returned (.bool true)∧Below W.heap.size W w'):=Lib.hid fun W hb => by have h:=HHM.out W hb f.cy;rw [eqB_true i4] at h;exact h
   obtain ⟨b,off,rfl,c0,c1,c2,c3,c4⟩:=(HRL.out.below hb8).fl hf
   have t1:decide (f.d < day)=false:=decide_eq_false (by omega)
   have hkn0:(k:Int) < (n:Int):=by omega
   have hblk:b < wr.heap.size:=World.block_lt_of_cell? wr _ c0
   clear hf i1 i2 i3 i4 c4 t9
   go_wp2_with fail
   refine (H1.out wr hb8).mono ?_
   rintro e w9 ⟨rfl,hb9⟩
   have hbA:=hb8.trans (hb9.mono hb8.size)
   have d2:w9.cell? ⟨b,off+k * 5+2,none⟩=some (.string f.rc):=by rw [hb9.cell (p:=⟨b,off+k * 5+2,none⟩) hblk];exact c2
   have d3:w9.cell? ⟨b,off+k * 5+3,none⟩=some (.string f.cy):=by rw [hb9.cell (p:=⟨b,off+k * 5+3,none⟩) hblk];exact c3
   have hblk2:b < w9.heap.size:=Nat.lt_of_lt_of_le hblk hb9.size
   clear c0 c1 c2 c3 hb8 hb9 H1
   go_wp2_with fail
   refine (H2.out w9 hbA).mono ?_
   rintro e w10 ⟨rfl,hb10⟩
   have hbB:=hbA.trans (hb10.mono hbA.size)
   have e3:w10.cell? ⟨b,off+k * 5+3,none⟩=some (.string f.cy):=by rw [hb10.cell (p:=⟨b,off+k * 5+3,none⟩) hblk2];exact d3
   clear d2 d3 hbA hb10 H2
   go_wp2_with fail
   refine (H3.out w10 hbB).mono ?_
   rintro e w11 ⟨rfl,hb11⟩
   have hbC:=hbB.trans (hb11.mono hbB.size)
   clear e3 hbB hb11 H3
   go_wp2
   go_roundw
   case rel => exact ⟨k+1,by omega,by go_num,hbC⟩
   case measure => simp [intOf];omega
  ·clear HHP HHM t9
   go_wp2_with fail
   go_loopw [15] (fun i wr => ∃ k:Nat,k≤nm∧i = .int .i64 (k:Int)∧Below w7.heap.size w7 wr) (fun i _ => nm - (intOf i).toNat)
   case atStart => exact ⟨0,Nat.zero_le _,rfl,hb8⟩
   case round =>
    clear hb8
    obtain ⟨j,hj,rfl,hb8⟩:=hrel
    by_cases hjn:j < nm
    ·obtain ⟨m,hm⟩:∃ m,MM[j]? = some m:=⟨_,List.getElem?_eq_getElem (by rw [HNn.out.2.2];exact hjn)⟩
     have HMm:=Lib.hid (HMn.out m (List.mem_of_getElem? hm))
     obtain ⟨bm,om,rfl,_⟩:=HRM.out.st hm
     have HCm:Hid (∀ W,Below w7.heap.size w7 W→W.cell? ⟨bm,om+j,none⟩=some (.string m)):=Lib.hid fun W hW => by
      obtain ⟨b',o',e,h⟩:=(HRM.out.below hW).st hm
      cases e;exact h
     have hjn0:(j:Int) < (nm:Int):=by omega
     clear hm
     go_wp2_with fail
     go_loopw [16,17,18] (fun s16 s17 s18 wr => ∃ q:Nat,q≤np∧s18 = .int .i64 (q:Int)∧s17 = .bool (bigB m L (PP.take q))∧wr.ownsRow w7.heap.size 22 1 s16 q ((netL m L (PP.take q)).flatMap sC)∧Below w7.heap.size w7 wr) (fun _ _ s18 _ => np - (intOf s18).toNat)
     case atStart => exact ⟨0,Nat.zero_le _,rfl,by simp [bigB],World.ownsRow_nil _ _ _ _,hb8⟩
     case round =>
      clear hb8
      obtain ⟨q,hq,rfl,rfl,ho,hb8⟩:=hrel
      by_cases hqn:q < np
      ·obtain ⟨p,hp⟩:∃ p,PP[q]? = some p:=⟨_,List.getElem?_eq_getElem (by rw [HNn.out.2.1];exact hqn)⟩
       obtain ⟨e1,e2,e3⟩:=net_two (p:=p) (c:=m) HFe.out (HPn.out p (List.mem_of_getElem? hp)) HMm.out
       have HNe:=Lib.hid fun W (hb:Below w7.heap.size w7 W) => HNt.out W hb p (HPn.out p (List.mem_of_getElem? hp)) m HMm.out
       unfold netPost at HNe
       rw [e1,e2] at HNe
       have HBg:Hid (bigB m L (PP.take (q+1))=(bigB m L (PP.take q) || ((netAcc p m L L.length).2 == 14))):=Lib.hid (by unfold bigB;rw [take_snoc_get hp];simp)
       have HNl:Hid (netL m L (PP.take (q+1))=netL m L (PP.take q) ++ [(netAcc p m L L.length).1]):=Lib.hid (by unfold netL;rw [take_snoc_get hp];simp)
       have HLn:Hid ((netL m L (PP.take q)).length=q):=Lib.hid (by unfold netL;rw [List.length_map,List.length_take,HNn.out.2.1];omega)
       obtain ⟨bp,op,rfl,y0⟩:=(HRP.out.below hb8).st hp
       have HCp:Hid (∀ W,Below w7.heap.size w7 W→W.cell? ⟨bp,op+q,none⟩=some (.string p)):=Lib.hid fun W hW => by
        obtain ⟨b',o',e,h⟩:=(HRP.out.below hW).st hp
        cases e;exact h
       have x0:=HCm.out wr hb8
       have hqn0:(q:Int) < (np:Int):=by omega
       generalize netAcc p m L L.length=A at HNe HBg HNl e3
       obtain ⟨s,er⟩:=A
       generalize bigB m L (PP.take q)=bb at HBg ⊢
       generalize netL m L (PP.take q)=NL at HNl HLn ho
       have he3:er=0∨er=14:=e3.elim (fun h => .inl h.1) .inr
       have hbd:=hb8.drew
       clear e1 e2 e3 hp
       go_wp2_with fail
       go_region_held3 (fun W => W.cell? ⟨bp,op+q,none⟩=some (.string p)∧W.cell? ⟨bm,om+j,none⟩=some (.string m))
        (first | exact ⟨by assumption,by assumption⟩ | assumption | go_keep)
        (first | (go_at_call 15;refine (HNe.out _ hbd).mono ?_;rintro e w9 ⟨rfl,hb9⟩;have hbE:=hbd.trans (hb9.mono hbd.size);have y9:=HCp.out w9 hbE;have x9:=HCm.out w9 hbE))
       have hbw:=(Below.refl _ wr).drew.trans hb9
       have ho9:=ownsRow_below' ho hbw
       have hz9:=hbE.size
       clear y9 x9 y0 x0 hb9 ho HCp hbd hb8 HNe hbw
       rcases he3 with rfl | rfl
       all_goals cases bb
       all_goals
        go_wp2_with (at_builtin;refine wpList_append_own _ rfl _ _ 48 rfl w7.heap.size 22 i0 (.string ⟨#[]⟩) 1 16 ul_rats hI0 hI1 hI2 hI3 rfl (by decide) _ _ _ rfl (ho9.alloc _) ⟨w9.heap.size,0,none⟩ 1 1 [.string s] rfl rfl (cell_one_at _ _ _) (by simp [Value.oneCell']) (by unfold maxLen;omega) (by omega) (by simp;omega) ?_;intro v' w10 hown' hgrow _)
        have hbF:=(hbE.alloc hz9 (.cells #[.string s] 22)).grown hgrow (by simp;omega) (fun k e => ((ho9.alloc (.cells #[.string s] 22)).lt k e).1)
        have hrow:w10.ownsRow w7.heap.size 22 1 v' (q+1) ((netL m L (PP.take (q+1))).flatMap sC):=by rw [HNl.out,List.flatMap_append];exact hown'
        clear hown' hgrow ho9 hbE
        go_roundw
        case rel => exact ⟨q+1,by omega,by go_num,by rw [HBg.out];rfl,hrow,hbF⟩
        case measure => simp [intOf];omega
      ·obtain rfl:q=np:=by omega
       have hpp:PP.take q=PP:=List.take_of_length_le (by rw [HNn.out.2.1];exact Nat.le_refl _)
       rw [hpp] at ho ⊢
       obtain ⟨bb,hbb⟩:∃ b,bigB m L PP=b:=⟨_,rfl⟩
       rw [hbb]
       cases bb with
       | true =>
        clear ho hbb
        go_wp2
        go_roundw
        case rel => exact ⟨j+1,by omega,by go_num,hb8⟩
        case measure => simp [intOf];omega
       | false =>
        have hall:∀ p ∈ PP,(netAcc p m L L.length).2=0∧ratErr (netAcc p m L L.length).1=0:=fun p hp => by
         rcases (net_two (p:=p) (c:=m) HFe.out (HPn.out p hp) HMm.out).2.2 with h | h
         ·exact h
         ·unfold bigB at hbb
          rw [List.any_eq_false] at hbb
          exact absurd (by rw [h];rfl) (hbb p hp)
        have HLw:=Lib.hid (nets_law PP HNd.out m L (fun f hf => ⟨(HIn.out f hf).2.1,(HIn.out f hf).2.2.1,(HIn.out f hf).2.2.2.2⟩) fun p hp => (hall p hp).1)
        obtain ⟨an,cn,rfl⟩:∃ an cn,u16 = .slice an q cn:=by
         rcases ho.2 with ⟨rfl,h0⟩ | ⟨g,cap,cur,rfl,_⟩
         ·exact ⟨none,0,by rw [h0]⟩
         ·exact ⟨_,_,rfl⟩
        have hnl:(netL m L PP).length=q:=by unfold netL;rw [List.length_map];exact HNn.out.2.1
        have HSm:=Lib.hid (sumL_any (netL m L PP) an cn wr (by omega) (rd_st ho hnl.symm) (fun a ha => by
         obtain ⟨p,hp,rfl⟩:=List.mem_map.1 ha
         exact ⟨(hall p hp).2,rat_small (hall p hp).2⟩))
        rw [hnl] at HSm
        have HLw2:Hid ((sumAcc (netL m L PP) q).2=14∨((sumAcc (netL m L PP) q).2=0∧(sumAcc (netL m L PP) q).1=⟨#[48]⟩)):=by
         have h:=HLw.out
         rw [HNn.out.2.1] at h
         exact Lib.hid h
        clear HLw hall hnl ho hbb
        generalize sumAcc (netL m L PP) q=A at HSm HLw2
        obtain ⟨S0,E0⟩:=A
        go_wp2_with fail
        refine HSm.out.mono ?_
        rintro e w10 ⟨⟨t,rfl,ht⟩,hb10⟩
        have hbF:=hb8.trans (hb10.mono hb8.size)
        clear hb10 hb8
        rcases HLw2.out with h | ⟨h,h2⟩
        ·obtain rfl:E0=14:=h
         clear ht
         go_wp2
         go_roundw
         case rel => exact ⟨j+1,by omega,by go_num,hbF⟩
         case measure => simp [intOf];omega
        ·obtain rfl:E0=0:=h
         obtain rfl:S0=⟨#[48]⟩:=h2
         obtain rfl:t=⟨#[48]⟩:=ht rfl
         clear ht
         go_wp2
         go_roundw
         case rel => exact ⟨j+1,by omega,by go_num,hbF⟩
         case measure => simp [intOf];omega
    ·go_wp2
     go_ret
     exact ⟨rfl,HbG.out.trans (hb8.mono HbG.out.size)⟩
end Go.Proofs.YtcnpaciljmekcaaGreatDoor

namespace Go.Proofs.YtcnpaciljmekcaaGreatDoor
open Go.ChangeShapes Go.WideShapes Go.ChangeAt Go.RowKit Go.Joins Go.Deep
set_option maxRecDepth 100000 in
theorem contractB10 (H:Type) (enc:TypeId × Value→H) (W:World) (base:Nat) (args:Array Value) (ds gs:List (DataW H)) (before:List MemPlace)
  (hval:∀ (j:Nat) t v,Tryz.f3.params[j]? = some t→args[j]? = some v→Value.okWide Tryz.prog W .any base t v)
  (hW:DataW.Whole enc Tryz.prog Tryz.f3.params.toList Rows.meaningBalancesSpec.vars false W args.toList ds gs before) (hk:Rows.uptoSmall H (ds ++ gs)=true)
  (hL:laidMetH Tryz.prog Rows.meaningBalancesUptoRow.laid W) :
  Calls Tryz.prog 3 args W fun e W' => ∃ v,e = .returned v∧Rows.meaningBalancesSpec.post enc Tryz.prog Tryz.f3 false true false false W args v W':=by
 have hW':=hW
 obtain ⟨p,q,hA0,hV,rfl,hfz,hnd⟩:=hW
 have hA:DataW.TrodAll enc Tryz.prog W 0 (fun _ => true) true Tryz.f3.params.toList args.toList ds p:=hA0
 rw [Tryz.params3] at hA hval
 obtain ⟨v0,vs0,d0,ds0,p0,q0,hargs,rfl,rfl,h0,r0⟩:=trodAll_cons hA
 obtain ⟨v1,vs1,d1,ds1,p1,q1,rfl,rfl,rfl,h1,r1⟩:=trodAll_cons r0
 obtain ⟨v2,vs2,d2,ds2,p2,q2,rfl,rfl,rfl,h2,r2⟩:=trodAll_cons r1
 obtain ⟨rfl,rfl,rfl⟩:=trodAll_nil r2
 obtain rfl:args=#[v0,v1,v2]:=by cases args;simp_all
 obtain ⟨rfl,rfl⟩:=trodVars_none hV
 have k0:=h0
 have l0:∀ x ∈ p0,x.block < W.heap.size:=by obtain ⟨m,hm⟩:=k0;exact DataW.trod_lt m _ _ _ hm
 have k1:=h1
 have l1:∀ x ∈ p1,x.block < W.heap.size:=by obtain ⟨m,hm⟩:=k1;exact DataW.trod_lt m _ _ _ hm
 have k2:=h2
 have l2:∀ x ∈ p2,x.block < W.heap.size:=by obtain ⟨m,hm⟩:=k2;exact DataW.trod_lt m _ _ _ hm
 have hb:Rows.uptoBulkAll [d0,d1,d2]≤1048576:=by
  have h:Rows.uptoBulkAll ([d0,d1,d2] ++ [])≤1048576:=of_decide_eq_true hk
  rw [List.append_nil] at h
  exact h
 have hsum:Rows.uptoBulk d0+Rows.uptoBulk d1+Rows.uptoBulk d2≤1048576:=by
  simp only [Rows.uptoBulkAll] at hb
  omega
 obtain ⟨c0,es0,dd0,ss0,rfl,hr0,hc0⟩:=open_con (hval 0 _ v0 rfl rfl) h0
 obtain ⟨n1,rfl,rfl,rfl,w1⟩:=open_int Tryz.underlying3 (hval 1 3 v1 rfl rfl) h1
 obtain ⟨E,rfl,hE,hEf,hEc⟩:=open_env (hval 2 _ v2 rfl rfl) h2 (by omega)
 obtain ⟨hS,hP,hO⟩:=laid_look3 hL
 clear hA0
 refine (bal10_any c0 _ _ _ n1 E W ⟨by omega,hr0,hS,hP,hO,hE,hEf,hEc⟩).mono fun e W' ⟨he,bel⟩ => ?_
 subst he
 exact ⟨_,rfl,_,_,_,[],_,[],hW',trodAll_mk1 (shut_bool Tryz.underlying4 _),
  trodAll_cons_mk (Below.trod laidOut10 (by kernel_rfl) (of_decide_eq_true (by kernel_rfl)) k0 bel l0) (trodAll_cons_mk (Below.trod laidOut10 (by kernel_rfl) (of_decide_eq_true (by kernel_rfl)) k1 bel l1) (trodAll_cons_mk (Below.trod laidOut10 (by kernel_rfl) (of_decide_eq_true (by kernel_rfl)) k2 bel l2) (trodAll_mk0))),
  rfl,bel.frame _,fun h => by cases h⟩
def argB10:Array Value:=#[.agg #[.int .u8 0,.string ⟨#[]⟩,.string ⟨#[]⟩,.string ⟨#[]⟩,.int .u8 0,.string ⟨#[]⟩,.string ⟨#[]⟩,.int .i64 0,.slice none 0 0,.int .i64 0,.slice none 0 0,.slice none 0 0],.int .i64 0,.agg #[.slice none 0 0,.slice none 0 0]]
theorem metB10 (os:Os):laidMetH Tryz.prog Rows.meaningBalancesUptoRow.laid ((World.doorLaid Tryz.prog 176 os).forCall (fun _ _ => 0) ⟨#[],argB10,[]⟩).memory :=
 laidMetH_of_parts3 (fuel:=8) (laidMet_of_run' 8 (by kernel_rfl) (by kernel_rfl)) (by kernel_rfl) (by kernel_rfl)
theorem readsB10 (os:Os) {H:Type} (enc:TypeId × Value→H):∃ places,DataW.whole enc Tryz.prog ((World.doorLaid Tryz.prog 176 os).forCall (fun _ _ => 0) ⟨#[],argB10,[]⟩).memory Tryz.f3.params.toList Rows.meaningBalancesSpec.vars false argB10.toList 8 =
  some ([.agg [.lit (.int .u8 0),.lit (.string []),.lit (.string []),.lit (.string []),.agg [.lit (.int .u8 0),.lit (.string []),.lit (.string []),.lit (.int .i64 0),.nil],.lit (.int .i64 0),.nil,.nil],.lit (.int .i64 0),.agg [.nil,.nil]],[],places) :=
 ⟨[],by kernel_rfl⟩
set_option maxRecDepth 100000 in
theorem liftedB10 (os:Os) (started:os.Started) (H:Type) (enc:TypeId × Value→H) (F:Stop.Interp) :
  ReturnsInHanded {} Tryz.checked os 3 .any ((Rows.OpenSpec.upto Rows.meaningBalancesSpec).preRow enc Tryz.prog Tryz.f3 Rows.meaningBalancesUptoRow.domain false Rows.meaningBalancesUptoRow.laid) (((Rows.OpenSpec.upto Rows.meaningBalancesSpec).at F).post enc Tryz.prog Tryz.f3 false true false false):=by
 obtain ⟨places,hx⟩:=readsB10 os enc
 refine returnsInHanded_of_row (C:=Tryz.checked) (s:=Rows.OpenSpec.upto Rows.meaningBalancesSpec) own10 started (by kernel_rfl) Tryz.func3
  (witness_row_atRef (enc:=enc) (C:=Tryz.checked) false (World.doorLaid Tryz.prog 176 os) argB10 rfl (by kernel_rfl) (by kernel_rfl) (by kernel_rfl)
   (OpenSpec.preRow_of_cond 8 hx (by kernel_rfl) (fun k hk => by cases hk;kernel_rfl) (by kernel_rfl) (metB10 os))) ?_
 intro W base args ds gs before hval hW _ hcond _ hL _ _
 exact contractB10 H enc W base args ds gs before hval hW (hcond _ rfl) hL
theorem meaningBalances_upto:Rows.MeaningBalancesUptoSaid :=
 OpenClaim.holds_of_cond 3 Tryz.f3 rfl rfl rfl rfl rfl rfl rfl ⟨rfl,rfl,rfl,rfl,rfl⟩ rfl rfl rfl rfl rfl (by kernel_rfl) Tryz.func3 (by kernel_rfl)
  (of_decide_eq_true (by kernel_rfl)) (by unfold Func.isWrapper;first | (rw [if_pos (by decide +kernel)];kernel_rfl) | (rw [if_neg (by decide +kernel)];exact ⟨rfl,rfl⟩))
  (fun os started H enc _ F => by rw [OpenClaim.pre_eq_preRow];exact liftedB10 os started H enc F)
theorem plainB10 (f : FuncId) (fn : Func) (hf : Tryz.pinned.checked.prog.funcNamed "novation/novationlaw10.MeaningBalances" = some f) (hfn : Tryz.pinned.checked.prog.funcs[f]? = some fn) :
  true=Tryz.pinned.checked.prog.looks []∧∀ (j:Nat) t,fn.params[j]? = some t→Tryz.pinned.checked.prog.wantsStandIn t=false:=by
 obtain rfl : f = 3 := Option.some.inj ((show Tryz.prog.funcNamed "novation/novationlaw10.MeaningBalances" = some 3 by kernel_rfl).symm.trans hf) |>.symm
 obtain rfl:fn=Tryz.f3:=(Option.some.inj (Tryz.func3.symm.trans hfn)).symm
 refine ⟨by kernel_rfl,fun j t ht => ?_⟩
 rw [Tryz.params3] at ht
 have hm:t ∈ [29,3,33]:=by simpa using Array.mem_of_getElem? ht
 have hall:([29,3,33].all fun u => !Tryz.prog.wantsStandIn u)=true:=by kernel_rfl
 exact (show Tryz.prog.wantsStandIn t=false by simpa using List.all_eq_true.1 hall t hm)
theorem meaningBalances_card:Rows.MeaningBalancesUptoCardSaid :=
 Claim7.holds_tied_plain_at .later [] _ _ _ _ meaningBalances_upto (fun _ h => by cases h) (by kernel_rfl) (fun _ h => by cases h) meaningBalancesUpto_row_tie rfl ⟨rfl,rfl⟩ (by kernel_rfl) rfl plainB10 (by kernel_rfl)
#print axioms meaningBalances_card
end Go.Proofs.YtcnpaciljmekcaaGreatDoor
