/-
  Law 10, MeaningNames: amounts.  Printed by tools/gennma.py. Valid lists of flows; meaning.CheckFlows.  Printed by tools/genchkfl.py. Law 10, MeaningNames: facts of the values in a region that draws its order; what its calls answer. Law 10, MeaningNames: the world that its variables make.  Printed by tools/genmn.py.
-/
import Derived.Test.YtknpnhodpgajbaaGreatDoorE32
import Derived.Test.YtknpnhodpgajbaaGreatDoorE30
import Derived.Test.YtknpnhodpgajbaaGreatDoorE04
import Derived.Laws.StructEq
import Derived.IntWalk
import Derived.Test.YtknpnhodpgajbaaGreatDoorE02
import Derived.Test.YtknpnhodpgajbaaGreatDoorE10
import Derived.Test.YtknpnhodpgajbaaGreatDoorE31
import Derived.Test.YtknpnhodpgajbaaGreatDoorE22
namespace Go.Proofs.YtknpnhodpgajbaaGreatDoor
open Go.RowKit
def RdL {α:Type} (en:α→Value) (w:World) (l:List α) (ad:Option Addr):Prop:=∀ j x,l[j]? = some x→∃ b off,ad=some ⟨b,off,none⟩∧w.cell? ⟨b,off+j,none⟩=some (en x)
theorem RdL.below {α:Type} {en:α→Value} {w w2:World} {l:List α} {ad:Option Addr} (h:RdL en w l ad) (hb:Below w.heap.size w w2):RdL en w2 l ad:=fun j x hj => by
 obtain ⟨b,off,e,hc⟩:=h j x hj
 exact ⟨b,off,e,by rw [hb.cell (p:=⟨b,off+j,none⟩) (World.block_lt_of_cell? w _ hc)];exact hc⟩
set_option maxHeartbeats 4000000 in
set_option maxRecDepth 100000 in
theorem amounts_any (a:Con) (es dd ss:Value) (E:EvD) (L:List Fl) (dad rad:Option Addr) (dcap rcap:Nat) (w:World) (hA:BfH a es dd ss E w) (hL:befR a 5 100000 E.F E.C=(0,L)) (hLL:∀ f ∈ L,f.fr=mAnn∧f.rc=mBob∧f.cy=mUSD) (hn:L.length≤1000)
  (hd:RdL (fun f:Fl => .int .i64 f.d) w L dad) (hr:RdL (fun f:Fl => .string f.am) w L rad) :
  Calls Tryz.prog 34 #[a.val es dd ss,E.val,.slice dad L.length dcap,.slice rad L.length rcap] w fun e w' => e = .returned (.bool true)∧Below w.heap.size w w':=by
 obtain ⟨p1,pn1,rfl⟩:=hA.rd.1.len
 obtain ⟨p2,pn2,rfl⟩:=hA.rd.2.1.len
 obtain ⟨p3,pn3,rfl⟩:=hA.rd.2.2.1.len
 obtain ⟨W0,hW0,hb0,hz0,bx⟩:=bxp_world w a (.slice p1 a.ex.sub.length pn1) (.slice p2 a.ds.length pn2) (.slice p3 a.sub.length pn3) E
 have HX:=Lib.hid bx
 have Hb0:=Lib.hid hb0
 have HF:Hid (Calls Tryz.prog 12 #[.agg #[.int .u8 a.k,.string a.fr,.string a.rc,.string a.nm,.int .u8 a.ex.k,.string a.ex.ra,.string a.ex.nm,.int .i64 a.ex.d,.slice p1 a.ex.sub.length pn1,.int .i64 a.d,.slice p2 a.ds.length pn2,.slice p3 a.sub.length pn3],.int .i64 5,.agg #[.slice E.af E.F.length E.cf,.slice E.ac E.C.length E.cc]] W0 (BfP W0 (0,L))):=Lib.hid (by
  have:=mflows_any a _ _ _ 5 E W0 (hA.frame hb0)
  rw [hL] at this
  exact this)
 have HLL:=Lib.hid hLL
 have HD:=Lib.hid hd
 have HR:=Lib.hid hr
 have k0:W0.cell? ⟨w.heap.size,0,none⟩=some (.int .u8 a.k):=bx.a.cell (j:=0) rfl
 have k1:W0.cell? ⟨w.heap.size,1,none⟩=some (.string a.fr):=bx.a.cell (j:=1) rfl
 have k2:W0.cell? ⟨w.heap.size,2,none⟩=some (.string a.rc):=bx.a.cell (j:=2) rfl
 have k3:W0.cell? ⟨w.heap.size,3,none⟩=some (.string a.nm):=bx.a.cell (j:=3) rfl
 have k4:W0.cell? ⟨w.heap.size,4,none⟩=some (.int .u8 a.ex.k):=bx.a.cell (j:=4) rfl
 have k5:W0.cell? ⟨w.heap.size,5,none⟩=some (.string a.ex.ra):=bx.a.cell (j:=5) rfl
 have k6:W0.cell? ⟨w.heap.size,6,none⟩=some (.string a.ex.nm):=bx.a.cell (j:=6) rfl
 have k7:W0.cell? ⟨w.heap.size,7,none⟩=some (.int .i64 a.ex.d):=bx.a.cell (j:=7) rfl
 have k8:W0.cell? ⟨w.heap.size,8,none⟩=some (.slice p1 a.ex.sub.length pn1):=bx.a.cell (j:=8) rfl
 have k9:W0.cell? ⟨w.heap.size,9,none⟩=some (.int .i64 a.d):=bx.a.cell (j:=9) rfl
 have k10:W0.cell? ⟨w.heap.size,10,none⟩=some (.slice p2 a.ds.length pn2):=bx.a.cell (j:=10) rfl
 have k11:W0.cell? ⟨w.heap.size,11,none⟩=some (.slice p3 a.sub.length pn3):=bx.a.cell (j:=11) rfl
 have kv0:W0.cell? ⟨w.heap.size+1,0,none⟩=some (.slice E.af E.F.length E.cf):=bx.v.cell (j:=0) rfl
 have kv1:W0.cell? ⟨w.heap.size+1,1,none⟩=some (.slice E.ac E.C.length E.cc):=bx.v.cell (j:=1) rfl
 clear hA bx hb0 hL hLL hd hr
 show Calls _ _ #[.agg #[.int .u8 a.k,.string a.fr,.string a.rc,.string a.nm,.int .u8 a.ex.k,.string a.ex.ra,.string a.ex.nm,.int .i64 a.ex.d,.slice p1 a.ex.sub.length pn1,.int .i64 a.d,.slice p2 a.ds.length pn2,.slice p3 a.sub.length pn3],.agg #[.slice E.af E.F.length E.cf,.slice E.ac E.C.length E.cc],.slice dad L.length dcap,.slice rad L.length rcap] _ _
 change (w.alloc (.cells #[.int .u8 a.k,.string a.fr,.string a.rc,.string a.nm,.int .u8 a.ex.k,.string a.ex.ra,.string a.ex.nm,.int .i64 a.ex.d,.slice p1 a.ex.sub.length pn1,.int .i64 a.d,.slice p2 a.ds.length pn2,.slice p3 a.sub.length pn3] 29)).alloc (.cells #[.slice E.af E.F.length E.cf,.slice E.ac E.C.length E.cc] 33)=W0 at hW0
 go_enter Tryz.func34,Tryz.ntmps34
 go_upto_region 1 with (fail)
 clear hW0
 go_wp2_with fail
 refine HF.out.mono ?_
 rintro e w1 ⟨ad,cap,rfl,hb1,l1,n1,r1⟩
 have Hb1:=Lib.hid (Hb0.out.trans (hb1.mono Hb0.out.size))
 have R1:=Lib.hid r1
 clear k0 k1 k2 k3 k4 k5 k6 k7 k8 k9 k10 k11 kv0 kv1 hb1 r1 l1 n1
 have R1:Hid (Rd Fl.cells 5 w1 ad L):=R1
 go_wp2_with fail
 go_loopw [11] (fun iv wr => ∃ (i:Nat),iv = .int .i64 (i:Int)∧i≤L.length∧Hid (Below w1.heap.size w1 wr)) (fun iv _ => L.length - (intOf iv).toNat)
 case atStart => exact ⟨0,rfl,Nat.zero_le _,Lib.hid (Below.refl _ _)⟩
 case round =>
  obtain ⟨i,rfl,hi,HW⟩:=hrel
  have h0:(0:Int)≤(i:Int):=by omega
  by_cases hlt:i < L.length
  ·have h1:(i:Int) < (L.length:Int):=by omega
   obtain ⟨f,hf⟩:∃ f,L[i]? = some f:=⟨_,List.getElem?_eq_getElem hlt⟩
   obtain ⟨b1,o1,hadf,c0,c1,c2,c3,c4⟩:=(R1.out.below HW.out).fl hf
   have hb:=Hb1.out.trans (HW.out.mono Hb1.out.size)
   obtain ⟨b2,o2,hd2,d0⟩:=(HD.out.below hb) i f hf
   obtain ⟨b3,o3,hd3,e0⟩:=(HR.out.below hb) i f hf
   obtain ⟨g1,g2,g3⟩:=HLL.out f (List.mem_of_getElem? hf)
   obtain ⟨fd,ffr,frc,fcy,fam⟩:=f
   dsimp only at c0 c1 c2 c3 c4 d0 e0 g1 g2 g3
   subst g1 g2 g3
   cases hadf
   cases hd2
   cases hd3
   have hq:∀ W,(Op.equalIn 10000 52 (.agg #[.int .i64 fd,.string mAnn,.string mBob,.string mUSD,.string fam]) (.agg #[.int .i64 fd,.string ⟨#[65,110,110]⟩,.string ⟨#[66,111,98]⟩,.string ⟨#[85,83,68]⟩,.string fam])).run Tryz.prog W = .ok true W:=fun W => eqv_fl ⟨fd,mAnn,mBob,mUSD,fam⟩ W
   clear hf hb
   go_wp2_with fail
   go_quiet (fail)
   go_wp2
   go_roundw
   case rel => exact ⟨i+1,by go_num,by omega,Lib.hid (below_drewN HW.out _)⟩
   case measure => simp [intOf];omega
  ·go_wp2
   go_ret
   exact ⟨rfl,Hb1.out.trans (HW.out.mono Hb1.out.size)⟩
end Go.Proofs.YtknpnhodpgajbaaGreatDoor

namespace Go.Proofs.YtknpnhodpgajbaaGreatDoor
open Go.RowKit
def flGood (f:Fl):Prop:=isNm (bl f.fr)=true∧isNm (bl f.rc)=true∧isNm (bl f.cy)=true∧f.fr ≠ f.rc∧ratErr f.am=0∧bl f.am ≠ [48]∧isNeg (bl f.am)=false∧isDay f.d=true
def okP (l:List Fl):Prop:=∀ (j:Nat) (f:Fl),l[j]? = some f→flGood f∧∀ (i:Nat) (g:Fl),i+1=j→l[i]? = some g→g.d≤f.d
noncomputable def flowsErr (l:List Fl):Int:=if 5000 < l.length then 4 else if eqB (okP l) then 0 else 8
def lastD (l:List Fl) (k:Nat):Int:=if k=0 then 0 else match l[k - 1]? with | some f => f.d | none => 0
theorem lastD_succ {l:List Fl} {k:Nat} {f:Fl} (h:l[k]? = some f):lastD l (k+1)=f.d:=by
 simp [lastD,h]
theorem isDay_iff {d:Int}:isDay d=true ↔ 0≤d∧d≤99999:=by simp [isDay]
theorem okP_nil:okP []:=fun j f h => by simp at h
theorem okP_step {l:List Fl} {k:Nat} {f:Fl} (h:okP (l.take k)) (hf:l[k]? = some f) (hg:flGood f) (hd:lastD l k≤f.d):okP (l.take (k+1)):=by
 intro j g hj
 rw [List.getElem?_take] at hj
 split at hj
 ·rename_i hjk
  by_cases hk:j=k
  ·subst hk
   obtain rfl:f=g:=Option.some.inj (hf.symm.trans hj)
   refine ⟨hg,fun i g2 hi hg2 => ?_⟩
   subst hi
   rw [List.getElem?_take,if_pos (by omega)] at hg2
   rw [lastD_succ hg2] at hd
   exact hd
  ·have hj2:(l.take k)[j]? = some g:=by rw [List.getElem?_take,if_pos (by omega)];exact hj
   refine ⟨(h j g hj2).1,fun i g2 hi hg2 => (h j g hj2).2 i g2 hi ?_⟩
   rw [List.getElem?_take,if_pos (by omega)] at hg2 ⊢
   exact hg2
 ·cases hj
theorem okP_bad {l:List Fl} {k:Nat} {f:Fl} (hf:l[k]? = some f) (hb : ¬ flGood f∨f.d < lastD l k) : ¬ okP l:=by
 intro h
 obtain ⟨h1,h2⟩:=h k f hf
 rcases hb with hb | hb
 ·exact hb h1
 ·cases k with
  | zero =>
   have:=(isDay_iff.1 h1.2.2.2.2.2.2.2).1
   simp [lastD] at hb
   omega
  | succ k =>
   obtain ⟨g,hg⟩:∃ g,l[k]? = some g:=⟨_,List.getElem?_eq_getElem (by have:=(List.getElem?_eq_some_iff.1 hf).1;omega)⟩
   rw [lastD_succ hg] at hb
   have:=h2 k g rfl hg
   omega
theorem lastD_nonneg {l:List Fl} {k:Nat} (h:okP (l.take k)):0≤lastD l k:=by
 cases k with
 | zero => simp [lastD]
 | succ k =>
  unfold lastD
  rw [if_neg (by omega)]
  split
  ·rename_i f hf
   have hf2:(l.take (k+1))[k]? = some f:=by rw [List.getElem?_take,if_pos (by omega)];exact hf
   exact (isDay_iff.1 (h k f hf2).1.2.2.2.2.2.2.2).1
  ·omega
theorem flowsErr_bad {l:List Fl} (h5 : ¬ 5000 < l.length) (h : ¬ okP l):flowsErr l=8:=by rw [flowsErr,if_neg h5,eqB_false h];rfl
theorem flowsErr_ok {l:List Fl} (h5 : ¬ 5000 < l.length) (h:okP l):flowsErr l=0:=by rw [flowsErr,if_neg h5,eqB_true h];rfl
theorem am_pos {s:ByteArray} (h:ratErr s=0):0 < s.size:=by
 have h1:=(rat_parts h).1
 have h2:=canonI_pos (intErr_zero h1).1
 have:=numS_size s
 omega
set_option maxHeartbeats 4000000 in
set_option maxRecDepth 100000 in
theorem chkFl_any (l:List Fl) (ad:Option Addr) (cap:Nat) (w:World) (hn:l.length≤1100000) (hr:Rd Fl.cells 5 w ad l) (hs:∀ f ∈ l,f.small) :
  Calls Tryz.prog 36 #[.slice ad l.length cap] w fun e w' => e = .returned (.int .i64 (flowsErr l))∧Below w.heap.size w w':=by
 have HR:=Lib.hid hr
 have HS:=Lib.hid hs
 clear hr hs
 by_cases h5:5000 < l.length
 ·have HE:Hid (flowsErr l=4):=by show _=_;rw [flowsErr,if_pos h5]
  have t1:decide ((5000:Int) < (l.length:Int))=true:=by rw [decide_eq_true_eq];omega
  clear h5
  go_enter Tryz.func36,Tryz.ntmps36
  go_wp2
  go_ret
  exact ⟨ret_int' HE.out.symm,Below.refl _ _⟩
 ·have t1:decide ((5000:Int) < (l.length:Int))=false:=by rw [decide_eq_false_iff_not];omega
  have H5:=Lib.hid h5
  have hl5:l.length≤5000:=by omega
  clear h5
  go_enter Tryz.func36,Tryz.ntmps36
  go_wp2_with fail
  go_loopw [3,12] (fun z i wr => ∃ (k:Nat) (la:Int),k≤l.length∧i = .int .i64 k∧z = .int .i64 la∧Hid (la=lastD l k∧okP (l.take k))∧Below w.heap.size w wr) (fun _ i _ => l.length - (intOf i).toNat)
  case atStart => exact ⟨0,0,Nat.zero_le _,rfl,rfl,Lib.hid ⟨rfl,by simpa using okP_nil⟩,Below.refl _ _⟩
  case round =>
   obtain ⟨k,la,hk,rfl,rfl,HI,hbel⟩:=hrel
   by_cases hlt:k < l.length
   ·obtain ⟨f,hf⟩:∃ f,l[k]? = some f:=⟨_,List.getElem?_eq_getElem hlt⟩
    obtain ⟨b,off,rfl,c0,c1,c2,c3,c4⟩:=(HR.out.below hbel).fl hf
    obtain ⟨s1,s2,s3,s4⟩:=HS.out f (List.mem_of_getElem? hf)
    have HF:=Lib.hid hf
    clear hf
    have hsz:=hbel.size
    have hblk:b < wr.heap.size:=World.block_lt_of_cell? wr _ c0
    have HN:=Lib.hid (fun W (s:ByteArray) (h:s.size≤1100000) => name_any s W (by omega))
    have HC:=Lib.hid (fun W => rat_any f.am W (by omega))
    have HBad:Hid (¬ (flGood f∧la≤f.d)→flowsErr l=8):=fun h => flowsErr_bad H5.out (okP_bad HF.out (by
     by_cases hg:flGood f
     ·right;rw [← HI.out.1];rcases Int.lt_or_le f.d la with h2 | h2
      ·exact h2
      ·exact absurd ⟨hg,h2⟩ h
     ·exact .inl hg))
    have HGood:Hid (flGood f→la≤f.d→okP (l.take (k+1))∧lastD l (k+1)=f.d):=fun h1 h2 => ⟨okP_step HI.out.2 HF.out h1 (by rw [← HI.out.1];exact h2),lastD_succ HF.out⟩
    have hla:0≤la:=by rw [HI.out.1];exact lastD_nonneg HI.out.2
    have hk1:(0:Int)≤(k:Int):=by omega
    have hk2:(k:Int) < (l.length:Int):=by omega
    have hb1:=hbel.alloc hsz (.cells #[.int .i64 f.d,.string f.fr,.string f.rc,.string f.cy,.string f.am] 52)
    have HB1:=Lib.hid hb1
    clear hb1 hbel
    obtain ⟨er,h4⟩:∃ a,a=ratErr f.am:=⟨_,rfl⟩
    rw [← h4] at HC
    have HG:Hid (flGood f ↔ (isNm (bl f.fr)=true∧isNm (bl f.rc)=true∧isNm (bl f.cy)=true∧f.fr ≠ f.rc∧er=0∧bl f.am ≠ [48]∧isNeg (bl f.am)=false∧isDay f.d=true)):=by show _ ↔ _;rw [h4];exact Iff.rfl
    have HAp:Hid (er=0→0 < f.am.size):=by rw [h4];exact am_pos
    clear h4
    generalize f.fr=fr at *
    generalize f.rc=rc at *
    generalize f.cy=cy at *
    generalize f.am=am at *
    generalize f.d=d at *
    cases ha1:isNm (bl fr) with
    | false =>
     have Ha1:=Lib.hid ha1
     have HE:=Lib.hid (HBad.out (fun h => by have:=(HG.out.1 h.1).1;rw [Ha1.out] at this;cases this))
     clear HBad HGood HG HAp
     go_wp2_with (first | (go_at_call 67;refine (HN.out _ _ ?_).mono ?_;(assumption);rintro e w' ⟨rfl,rfl⟩) | (go_at_call 21;refine (HC.out _).mono ?_;rintro e w' ⟨rfl,hb9⟩;have hc9:w'.cell? ⟨wr.heap.size,4,none⟩=some (.string am):=by rw [hb9.cell (by simp)];go_simp))
     go_ret
     exact ⟨ret_int' HE.out.symm,HB1.out⟩
    | true =>
     cases ha2:isNm (bl rc) with
     | false =>
      have Ha2:=Lib.hid ha2
      have HE:=Lib.hid (HBad.out (fun h => by have:=(HG.out.1 h.1).2.1;rw [Ha2.out] at this;cases this))
      clear HBad HGood HG HAp
      go_wp2_with (first | (go_at_call 67;refine (HN.out _ _ ?_).mono ?_;(assumption);rintro e w' ⟨rfl,rfl⟩) | (go_at_call 21;refine (HC.out _).mono ?_;rintro e w' ⟨rfl,hb9⟩;have hc9:w'.cell? ⟨wr.heap.size,4,none⟩=some (.string am):=by rw [hb9.cell (by simp)];go_simp))
      go_ret
      exact ⟨ret_int' HE.out.symm,HB1.out⟩
     | true =>
      cases ha3:isNm (bl cy) with
      | false =>
       have Ha3:=Lib.hid ha3
       have HE:=Lib.hid (HBad.out (fun h => by have:=(HG.out.1 h.1).2.2.1;rw [Ha3.out] at this;cases this))
       clear HBad HGood HG HAp
       go_wp2_with (first | (go_at_call 67;refine (HN.out _ _ ?_).mono ?_;(assumption);rintro e w' ⟨rfl,rfl⟩) | (go_at_call 21;refine (HC.out _).mono ?_;rintro e w' ⟨rfl,hb9⟩;have hc9:w'.cell? ⟨wr.heap.size,4,none⟩=some (.string am):=by rw [hb9.cell (by simp)];go_simp))
       go_ret
       exact ⟨ret_int' HE.out.symm,HB1.out⟩
      | true =>
       by_cases hft:fr=rc
       ·have u1:(fr.toList == rc.toList)=true:=by rw [hft];simp
        have u1':(fr.toList != rc.toList)=false:=by rw [hft];simp
        have Hft:=Lib.hid hft
        clear hft
        have HE:=Lib.hid (HBad.out (fun h => (HG.out.1 h.1).2.2.2.1 Hft.out))
        clear HBad HGood HG HAp
        go_wp2_with (first | (go_at_call 67;refine (HN.out _ _ ?_).mono ?_;(assumption);rintro e w' ⟨rfl,rfl⟩) | (go_at_call 21;refine (HC.out _).mono ?_;rintro e w' ⟨rfl,hb9⟩;have hc9:w'.cell? ⟨wr.heap.size,4,none⟩=some (.string am):=by rw [hb9.cell (by simp)];go_simp))
        go_ret
        exact ⟨ret_int' HE.out.symm,HB1.out⟩
       ·have u1:(fr.toList == rc.toList)=false:=by rw [toList_beq,decide_eq_false hft]
        have u1':(fr.toList != rc.toList)=true:=by rw [bne,toList_beq,decide_eq_false hft];rfl
        have Hft:=Lib.hid hft
        clear hft
        by_cases hd1:d < la
        ·have u2:decide (d < la)=true:=by simpa using hd1
         have Hd1:=Lib.hid hd1
         clear hd1
         have HE:=Lib.hid (HBad.out (fun h => by have:=Hd1.out;have:=h.2;omega))
         clear HBad HGood HG HAp
         go_wp2_with (first | (go_at_call 67;refine (HN.out _ _ ?_).mono ?_;(assumption);rintro e w' ⟨rfl,rfl⟩) | (go_at_call 21;refine (HC.out _).mono ?_;rintro e w' ⟨rfl,hb9⟩;have hc9:w'.cell? ⟨wr.heap.size,4,none⟩=some (.string am):=by rw [hb9.cell (by simp)];go_simp))
         go_ret
         exact ⟨ret_int' HE.out.symm,HB1.out⟩
        ·have u2:decide (d < la)=false:=by simpa using hd1
         have Hd1:=Lib.hid hd1
         clear hd1
         by_cases hd2:99999 < d
         ·have u3:decide (99999 < d)=true:=by simpa using hd2
          have Hd2:=Lib.hid hd2
          clear hd2
          have HE:=Lib.hid (HBad.out (fun h => by have:=Hd2.out;have:=(isDay_iff.1 (HG.out.1 h.1).2.2.2.2.2.2.2).2;omega))
          clear HBad HGood HG HAp
          go_wp2_with (first | (go_at_call 67;refine (HN.out _ _ ?_).mono ?_;(assumption);rintro e w' ⟨rfl,rfl⟩) | (go_at_call 21;refine (HC.out _).mono ?_;rintro e w' ⟨rfl,hb9⟩;have hc9:w'.cell? ⟨wr.heap.size,4,none⟩=some (.string am):=by rw [hb9.cell (by simp)];go_simp))
          go_ret
          exact ⟨ret_int' HE.out.symm,HB1.out⟩
         ·have u3:decide (99999 < d)=false:=by simpa using hd2
          have Hd2:=Lib.hid hd2
          clear hd2
          by_cases her:er=0
          ·subst her
           have hpos:=HAp.out rfl
           have hbc:=bl_cons am hpos
           obtain ⟨ch,hch⟩:∃ c,am[0]=c:=⟨_,rfl⟩
           rw [hch] at hbc
           by_cases hz:bl am=[48]
           ·have ez:(am.toList == [48])=true:=by rw [Lib.toList_data];show (bl am == [48])=true;rw [hz];rfl
            have Hz:=Lib.hid hz
            clear hz hbc
            have HE:=Lib.hid (HBad.out (fun h => (HG.out.1 h.1).2.2.2.2.2.1 Hz.out))
            clear HBad HGood HG HAp
            go_wp2_with (first | (go_at_call 67;refine (HN.out _ _ ?_).mono ?_;(assumption);rintro e w' ⟨rfl,rfl⟩) | (go_at_call 21;refine (HC.out _).mono ?_;rintro e w' ⟨rfl,hb9⟩;have hc9:w'.cell? ⟨wr.heap.size,4,none⟩=some (.string am):=by rw [hb9.cell (by simp)];go_simp))
            go_ret
            exact ⟨ret_int' HE.out.symm,HB1.out.trans (hb9.mono (by have:=HB1.out.size;simpa using this))⟩
           ·have ez:(am.toList == [48])=false:=ne_lit hz
            by_cases hm:ch=45
            ·have em:((ch.toNat:Int) == 45)=true:=by rw [hm];rfl
             have Hm:Hid (isNeg (bl am)=true):=by show _=_;rw [hbc,hm];rfl
             clear hz hbc hm
             have HE:=Lib.hid (HBad.out (fun h => by have:=(HG.out.1 h.1).2.2.2.2.2.2.1;rw [Hm.out] at this;cases this))
             clear HBad HGood HG HAp
             go_wp2_with (first | (go_at_call 67;refine (HN.out _ _ ?_).mono ?_;(assumption);rintro e w' ⟨rfl,rfl⟩) | (go_at_call 21;refine (HC.out _).mono ?_;rintro e w' ⟨rfl,hb9⟩;have hc9:w'.cell? ⟨wr.heap.size,4,none⟩=some (.string am):=by rw [hb9.cell (by simp)];go_simp))
             go_ret
             exact ⟨ret_int' HE.out.symm,HB1.out.trans (hb9.mono (by have:=HB1.out.size;simpa using this))⟩
            ·have em:((ch.toNat:Int) == 45)=false:=by rw [beq_eq_false_iff_ne];intro e;apply hm;apply UInt8.toNat_inj.1;show ch.toNat=45;omega
             have hgood:=HGood.out (HG.out.2 ⟨ha1,ha2,ha3,Hft.out,rfl,hz,by rw [hbc];simp [isNeg,hm],isDay_iff.2 ⟨by have:=Hd1.out;omega,by have:=Hd2.out;omega⟩⟩) (by have:=Hd1.out;omega)
             have HGd:Hid (d=lastD l (k+1)∧okP (l.take (k+1))):=⟨hgood.2.symm,hgood.1⟩
             clear hgood HBad HGood HG HAp hz hbc hm
             go_wp2_with (first | (go_at_call 67;refine (HN.out _ _ ?_).mono ?_;(assumption);rintro e w' ⟨rfl,rfl⟩) | (go_at_call 21;refine (HC.out _).mono ?_;rintro e w' ⟨rfl,hb9⟩;have hc9:w'.cell? ⟨wr.heap.size,4,none⟩=some (.string am):=(by rw [hb9.cell (by simp)];go_simp);have hc8:w'.cell? ⟨wr.heap.size,0,none⟩=some (.int .i64 d):=by rw [hb9.cell (by simp)];go_simp))
             have hbel9:=HB1.out.trans (hb9.mono (by have:=HB1.out.size;simpa using this))
             go_roundw
             case rel => exact ⟨k+1,d,by omega,by go_num,rfl,HGd,hbel9⟩
             case measure => simp [intOf];omega
          ·have u4:(er != 0)=true:=by rw [bne_iff_ne];exact her
           have Her:=Lib.hid her
           clear her
           have HE:=Lib.hid (HBad.out (fun h => Her.out (HG.out.1 h.1).2.2.2.2.1))
           clear HBad HGood HG HAp
           go_wp2_with (first | (go_at_call 67;refine (HN.out _ _ ?_).mono ?_;(assumption);rintro e w' ⟨rfl,rfl⟩) | (go_at_call 21;refine (HC.out _).mono ?_;rintro e w' ⟨rfl,hb9⟩;have hc9:w'.cell? ⟨wr.heap.size,4,none⟩=some (.string am):=by rw [hb9.cell (by simp)];go_simp))
           go_ret
           exact ⟨ret_int' HE.out.symm,HB1.out.trans (hb9.mono (by have:=HB1.out.size;simpa using this))⟩
   ·obtain rfl:k=l.length:=by omega
    have HE:Hid (flowsErr l=0):=flowsErr_ok H5.out (by have:=HI.out.2;rw [List.take_of_length_le (Nat.le_refl _)] at this;exact this)
    go_wp2
    go_ret
    exact ⟨ret_int' HE.out.symm,hbel⟩
end Go.Proofs.YtknpnhodpgajbaaGreatDoor

namespace Go.Proofs.YtknpnhodpgajbaaGreatDoor
open Go.RowKit
theorem HeldO.of_rd {w:World} {c:Con} {es dd ss:Value} (h:RdN w c es dd ss):HeldO none w (c.val es dd ss) c:=⟨es,dd,ss,rfl,fun _ h2 => h.frame h2.below⟩
structure Fct where
 p:Option Nat→World→Value→Prop
 mono:∀ {o w w2 v},p o w v→Below w.heap.size w w2→p o w2 v
 up:∀ {w v X},p none w v→w.heap.size≤X→p (some X) w v
def Fct.lit (u:Value):Fct:=⟨fun _ _ v => v=u,fun h _ => h,fun h _ => h⟩
def Fct.sl (n:Nat):Fct:=⟨fun _ _ v => ∃ ad cap,v = .slice ad n cap,fun h _ => h,fun h _ => h⟩
def Fct.tup (n:Nat) (er:Int):Fct:=⟨fun _ _ v => ∃ ad cap,v = .tuple #[.slice ad n cap,.int .i64 er],fun h _ => h,fun h _ => h⟩
def Fct.held (c:Con):Fct:=⟨fun o w v => HeldO o w v c,fun h hb => h.below hb,fun h hX => h.upX hX⟩
def Fct.days (l:List Int):Fct:=⟨fun o w v => ∀ w2,SameBut o w w2→RdI w2 l v,fun h hb w3 h3 => h w3 (h3.after hb),fun h hX w3 h3 => h w3 (h3.lower hX)⟩
def Fct.row (l:List Con):Fct:=⟨fun o w v => ∀ w2,SameBut o w w2→RdC w2 l v,fun h hb w3 h3 => h w3 (h3.after hb),fun h hX w3 h3 => h w3 (h3.lower hX)⟩
def HInv (o:Option Nat) (w:World) (Fs:List Fct) (cur:List Value) (L:Nat→Bool):Prop:=∀ (i:Nat) (F:Fct) (v:Value),L i=true→Fs[i]? = some F→cur[i]? = some v→F.p o w v
theorem HInv.start (o:Option Nat) (w:World) (Fs:List Fct) (cur:List Value):HInv o w Fs cur (fun _ => false):=fun _ _ _ h => by cases h
theorem HInv.at {o:Option Nat} {w:World} {Fs:List Fct} {cur:List Value} {L:Nat→Bool} (h:HInv o w Fs cur L) {i:Nat} {F:Fct} {v:Value} (hL:L i=true) (hF:Fs[i]? = some F) (hv:cur[i]? = some v):F.p o w v:=h i F v hL hF hv
theorem HInv.step {o:Option Nat} {w w2:World} {Fs:List Fct} {cur:List Value} {L:Nat→Bool} (h:HInv o w Fs cur L) (hb:Below w.heap.size w w2) {i:Nat} {F:Fct} {u:Value} (hF:Fs[i]? = some F) (hu:F.p o w2 u):HInv o w2 Fs (cur.set i u) (upd L i):=by
 intro j G v hj hG hv
 by_cases e:j=i
 ·subst e
  rw [hF] at hG
  cases hG
  obtain ⟨_,e2⟩:=List.getElem?_eq_some_iff.1 hv
  rw [List.getElem_set_self] at e2
  rw [← e2];exact hu
 ·rw [List.getElem?_set_ne fun e' => e e'.symm] at hv
  refine G.mono (h j G v (by rw [← hj];unfold upd;rw [if_neg e]) hG hv) hb
theorem HInv.keep {o:Option Nat} {w w2:World} {Fs:List Fct} {cur:List Value} {L:Nat→Bool} (h:HInv o w Fs cur L) (hb:Below w.heap.size w w2) {i:Nat} (hi:Fs.length≤i):HInv o w2 Fs cur (upd L i):=by
 intro j G v hj hG hv
 have hjl:=(List.getElem?_eq_some_iff.1 hG).1
 exact G.mono (h j G v (by rw [← hj];unfold upd;rw [if_neg (by omega)]) hG hv) hb
theorem HInv.up {w:World} {Fs:List Fct} {cur:List Value} {L:Nat→Bool} (h:HInv none w Fs cur L) {X:Nat} (hX:w.heap.size≤X):HInv (some X) w Fs cur L:=fun i F v h1 h2 h3 => F.up (h i F v h1 h2 h3) hX
structure NmE (W:World) (E:EvD):Prop where
 k:Lk W
 e:E.Rd W
 f:E.F=fKnown
 c:E.C=chN
theorem NmE.frame {W W2:World} {E:EvD} (h:NmE W E) (hb:Below W.heap.size W W2):NmE W2 E:=⟨⟨h.k.s.frame hb,h.k.p.frame hb,h.k.o.frame hb⟩,h.e.frame hb,h.f,h.c⟩
theorem chN_small:∀ c ∈ chN,c.small:=by
 intro c hc;simp [chN] at hc
 rcases hc with rfl | rfl <;> exact ⟨by decide,by decide⟩
section
variable {W:World} {E:EvD} {c:Con} {v:Value} {L:List Fl} {er:Int}
theorem bf_lit (hE:NmE W E) {es dd ss:Value} (hr:RdN W c es dd ss) (hB:c.bulk≤1100000):BfH c es dd ss E W :=
 ⟨hB,hr,hE.k.s,hE.k.p,hE.k.o,hE.e,by rw [hE.f];exact known_small,by rw [hE.c];exact chN_small⟩
theorem amt_nil (hE:NmE W E) (h:HeldO none W v c) (hB:c.bulk≤1100000) (hL:befR c 5 100000 fKnown chN=(0,[])) :
  Calls Tryz.prog 34 #[v,E.val,.slice none 0 0,.slice none 0 0] W fun e w2 => e = .returned (.bool true)∧Below W.heap.size W w2:=by
 obtain ⟨es,dd,ss,rfl,hr⟩:=h.rd
 exact amounts_any c es dd ss E [] none none 0 0 W (bf_lit hE hr hB) (by rw [hE.f,hE.c];exact hL) (fun f hf => by cases hf) (Nat.zero_le _) (fun j x hj => by simp at hj) (fun j x hj => by simp at hj)
theorem amt_row (L:List Fl) {D R:Nat} {nd:Nat} (hE:NmE W E) (h:HeldO none W v c) (hB:c.bulk≤1100000) (hL:befR c 5 100000 fKnown chN=(0,L)) (hLL:∀ f ∈ L,f.fr=mAnn∧f.rc=mBob∧f.cy=mUSD) (hn:L.length=nd) (h1000:nd≤1000)
  (hd:∀ j f,L[j]? = some f→W.cell? ⟨D,j,none⟩=some (.int .i64 f.d)) (hr:∀ j f,L[j]? = some f→W.cell? ⟨R,j,none⟩=some (.string f.am)) :
  Calls Tryz.prog 34 #[v,E.val,.slice (some ⟨D,0,none⟩) nd nd,.slice (some ⟨R,0,none⟩) nd nd] W fun e w2 => e = .returned (.bool true)∧Below W.heap.size W w2:=by
 obtain ⟨es,dd,ss,rfl,hr2⟩:=h.rd
 subst hn
 exact amounts_any c es dd ss E L (some ⟨D,0,none⟩) (some ⟨R,0,none⟩) _ _ W (bf_lit hE hr2 hB) (by rw [hE.f,hE.c];exact hL) hLL h1000 (fun j f hj => ⟨D,0,rfl,by rw [Nat.zero_add];exact hd j f hj⟩) (fun j f hj => ⟨R,0,rfl,by rw [Nat.zero_add];exact hr j f hj⟩)
theorem bef_lit {day fin:Int} {n:Nat} (hE:NmE W E) (h:HeldO none W v c) (hB:c.bulk≤1100000) (hL:befR c day fin fKnown chN=(er,L)) (hn:L.length=n) :
  Calls Tryz.prog 14 #[v,.int .i64 day,.int .i64 fin,E.val] W fun e w2 => ∃ ad cap,e = .returned (.tuple #[.slice ad n cap,.int .i64 er])∧Below W.heap.size W w2:=by
 obtain ⟨es,dd,ss,rfl,hr⟩:=h.rd
 refine (before_any c es dd ss day fin E W (bf_lit hE hr hB)).mono ?_
 rintro e w2 ⟨ad,cap,rfl,hb,_⟩
 rw [hE.f,hE.c,hL]
 exact ⟨ad,cap,by rw [← hn],hb⟩
theorem flw_lit {day:Int} {n:Nat} (hE:NmE W E) (h:HeldO none W v c) (hB:c.bulk≤1100000) (hL:befR c day 100000 fKnown chN=(er,L)) (hn:L.length=n) :
  Calls Tryz.prog 12 #[v,.int .i64 day,E.val] W fun e w2 => ∃ ad cap,e = .returned (.tuple #[.slice ad n cap,.int .i64 er])∧Below W.heap.size W w2:=by
 obtain ⟨es,dd,ss,rfl,hr⟩:=h.rd
 refine (mflows_any c es dd ss day E W (bf_lit hE hr hB)).mono ?_
 rintro e w2 ⟨ad,cap,rfl,hb,_⟩
 rw [hE.f,hE.c,hL]
 exact ⟨ad,cap,by rw [← hn],hb⟩
theorem flw_void {day:Int} {B:Nat} (hk:Lk W) (h:HeldO none W v c) (hB:c.bulk≤1100000) (hL:befR c day 100000 [] chVoid=(8,[])) (hc:∀ j u,(Ch.cells ⟨mE,mE,0,false⟩)[j]? = some u→W.cell? ⟨B,j,none⟩=some u) :
  Calls Tryz.prog 12 #[v,.int .i64 day,.agg #[.slice none 0 0,.slice (some ⟨B,0,none⟩) 1 1]] W fun e w2 => ∃ ad cap,e = .returned (.tuple #[.slice ad 0 cap,.int .i64 8])∧Below W.heap.size W w2:=by
 obtain ⟨es,dd,ss,rfl,hr⟩:=h.rd
 have rdv:Rd Ch.cells 4 W (some ⟨B,0,none⟩) chVoid:=fun j x hj => ⟨B,0,rfl,fun i u hu => by
  match j,hj with
  | 0,hj =>
   cases hj
   simpa using hc i u hu⟩
 have:=mflows_any c es dd ss day ⟨[],chVoid,none,some ⟨B,0,none⟩,0,1⟩ W ⟨hB,hr,hk.s,hk.p,hk.o,⟨fun j x hj => (by simp at hj),rdv,Nat.zero_le _,by show 1≤1100000;decide⟩,fun f hf => (by cases hf),fun c hc => (by simp [chVoid] at hc;subst hc;exact ⟨by decide,by decide⟩)⟩
 refine Calls.mono (by exact this) ?_
 rintro e w2 ⟨ad,cap,rfl,hb,_⟩
 rw [hL]
 exact ⟨ad,cap,rfl,hb⟩
end
end Go.Proofs.YtknpnhodpgajbaaGreatDoor

namespace Go.Proofs.YtknpnhodpgajbaaGreatDoor
open Go.RowKit
def envN10 (K C:Nat):EvD:=⟨fKnown,chN,some ⟨K,0,none⟩,some ⟨C,0,none⟩,2,2⟩
theorem nm_w2 (w:World) (K:Nat) (h:Rd Fx.cells 3 w (some ⟨K,0,none⟩) fKnown):∃ W,(w.alloc (.cells #[.slice (some ⟨K,0,none⟩) 2 2,.slice (some ⟨w.heap.size+1,0,none⟩) 2 2] 33)).alloc (.cells #[.string ⟨#[65,110,110]⟩,.string ⟨#[116,97,107,101]⟩,.int .i64 6,.bool true,.string ⟨#[66,111,98]⟩,.string ⟨#[116,97,107,101]⟩,.int .i64 5,.bool true] 67)=W∧Below w.heap.size w W ∧
  BoxN W w.heap.size 33 [.slice (some ⟨K,0,none⟩) 2 2,.slice (some ⟨w.heap.size+1,0,none⟩) 2 2]∧(envN10 K (w.heap.size+1)).Rd W:=by
 have hb:=below_a2 w (.cells #[.slice (some ⟨K,0,none⟩) 2 2,.slice (some ⟨w.heap.size+1,0,none⟩) 2 2] 33) (.cells #[.string ⟨#[65,110,110]⟩,.string ⟨#[116,97,107,101]⟩,.int .i64 6,.bool true,.string ⟨#[66,111,98]⟩,.string ⟨#[116,97,107,101]⟩,.int .i64 5,.bool true] 67)
 refine ⟨_,rfl,hb,(BoxN.new w [.slice (some ⟨K,0,none⟩) 2 2,.slice (some ⟨w.heap.size+1,0,none⟩) 2 2] 33).alloc _,h.below hb,fun j x hj => ⟨_,0,rfl,fun i u hu => ?_⟩,by show fKnown.length≤1100000;decide,by show chN.length≤1100000;decide⟩
 rw [Nat.zero_add]
 exact cell_new_at _ (chN.flatMap Ch.cells) 67 (by simp) (flat_get Ch.cells 4 (fun _ => rfl) chN j x i u hj hu)
theorem nm_w5 (w:World):∃ W,(w.alloc (.cells #[.int .u8 3,.string ⟨#[]⟩,.string ⟨#[115,112,111,116]⟩,.int .i64 0,.slice none 0 0,.int .u8 1,.string ⟨#[51]⟩,.string ⟨#[]⟩,.int .i64 0,.slice none 0 0] 25)).alloc (.cells #[.int .u8 11,.string ⟨#[]⟩,.string ⟨#[]⟩,.int .i64 0,.slice (some ⟨w.heap.size,0,none⟩) 2 2] 25)=W∧Below w.heap.size w W∧BoxN W (w.heap.size+1) 25 [.int .u8 11,.string ⟨#[]⟩,.string ⟨#[]⟩,.int .i64 0,.slice (some ⟨w.heap.size,0,none⟩) 2 2]∧RdE W [xNow,xCon m3] (.slice (some ⟨w.heap.size,0,none⟩) 2 2):=by
 have h2:=BoxN.new (w.alloc (.cells #[.int .u8 3,.string ⟨#[]⟩,.string ⟨#[115,112,111,116]⟩,.int .i64 0,.slice none 0 0,.int .u8 1,.string ⟨#[51]⟩,.string ⟨#[]⟩,.int .i64 0,.slice none 0 0] 25)) [.int .u8 11,.string ⟨#[]⟩,.string ⟨#[]⟩,.int .i64 0,.slice (some ⟨w.heap.size,0,none⟩) 2 2] 25
 rw [World.size_alloc] at h2
 have h3:RdE (w.alloc (.cells #[.int .u8 3,.string ⟨#[]⟩,.string ⟨#[115,112,111,116]⟩,.int .i64 0,.slice none 0 0,.int .u8 1,.string ⟨#[51]⟩,.string ⟨#[]⟩,.int .i64 0,.slice none 0 0] 25)) [xNow,xCon m3] (.slice (some ⟨w.heap.size,0,none⟩) 2 2):=rdE_two (s1:=.slice none 0 0) (s2:=.slice none 0 0) (by decide) (by decide) (fun i u h => cell_new_at _ (xNow.cells (.slice none 0 0) ++ (xCon m3).cells (.slice none 0 0)) 25 rfl h) (rdE_nil _) (rdE_nil _)
 exact ⟨_,rfl,below_a2 _ _ _,h2,h3.frame (below_a1 _ _)⟩
theorem nm_w9 (w:World):∃ W,(w.alloc (.cells #[.int .u8 2,.string ⟨#[65,110,110]⟩,.string ⟨#[66,111,98]⟩,.string ⟨#[85,83,68]⟩,.int .u8 1,.string ⟨#[49]⟩,.string ⟨#[]⟩,.int .i64 0,.slice none 0 0,.int .i64 0,.slice none 0 0,.slice none 0 0] 29)).alloc (.cells #[.int .u8 2,.string ⟨#[65,110,110]⟩,.string ⟨#[66,111,98]⟩,.string ⟨#[85,83,68]⟩,.int .u8 1,.string ⟨#[50]⟩,.string ⟨#[]⟩,.int .i64 0,.slice none 0 0,.int .i64 0,.slice none 0 0,.slice none 0 0] 29)=W∧Below w.heap.size w W∧BoxN W w.heap.size 29 [.int .u8 2,.string ⟨#[65,110,110]⟩,.string ⟨#[66,111,98]⟩,.string ⟨#[85,83,68]⟩,.int .u8 1,.string ⟨#[49]⟩,.string ⟨#[]⟩,.int .i64 0,.slice none 0 0,.int .i64 0,.slice none 0 0,.slice none 0 0]∧BoxN W (w.heap.size+1) 29 [.int .u8 2,.string ⟨#[65,110,110]⟩,.string ⟨#[66,111,98]⟩,.string ⟨#[85,83,68]⟩,.int .u8 1,.string ⟨#[50]⟩,.string ⟨#[]⟩,.int .i64 0,.slice none 0 0,.int .i64 0,.slice none 0 0,.slice none 0 0]:=by
 refine ⟨_,rfl,below_a2 _ _ _,(BoxN.new w [.int .u8 2,.string ⟨#[65,110,110]⟩,.string ⟨#[66,111,98]⟩,.string ⟨#[85,83,68]⟩,.int .u8 1,.string ⟨#[49]⟩,.string ⟨#[]⟩,.int .i64 0,.slice none 0 0,.int .i64 0,.slice none 0 0,.slice none 0 0] 29).alloc _,?_⟩
 have:=BoxN.new (w.alloc (.cells #[.int .u8 2,.string ⟨#[65,110,110]⟩,.string ⟨#[66,111,98]⟩,.string ⟨#[85,83,68]⟩,.int .u8 1,.string ⟨#[49]⟩,.string ⟨#[]⟩,.int .i64 0,.slice none 0 0,.int .i64 0,.slice none 0 0,.slice none 0 0] 29)) [.int .u8 2,.string ⟨#[65,110,110]⟩,.string ⟨#[66,111,98]⟩,.string ⟨#[85,83,68]⟩,.int .u8 1,.string ⟨#[50]⟩,.string ⟨#[]⟩,.int .i64 0,.slice none 0 0,.int .i64 0,.slice none 0 0,.slice none 0 0] 29
 rw [World.size_alloc] at this
 exact this
end Go.Proofs.YtknpnhodpgajbaaGreatDoor
