/- A part. -/
import Derived.Test.YtcnpaciljmekcaaGreatDoorB03
import Derived.Shelf.Sort.Plain
import Derived.Shelf.Slices.CompactS
import Derived.Shelf.Slices.In.SortNone
import Derived.Sort.OwnSorted
import Derived.Lib.OwnBridge
import Derived.Maps.OwnIn
namespace Go.Proofs.YtcnpaciljmekcaaGreatDoor
open Go.RowKit
def netPost (w:World) (p c:ByteArray) (l:List Fl) (e:Ending) (w':World):Prop:=e = .returned (.tuple #[.string (netS p c l),.int .i64 (netE p c l)])∧Below w.heap.size w w'
set_option maxHeartbeats 4000000 in
set_option maxRecDepth 100000 in
theorem net_any (l:List Fl) (p c:ByteArray) (ad:Option Addr) (cap:Nat) (w:World) (hn:l.length≤1100000) (hr:Rd Fl.cells 5 w ad l) (hs:∀ f ∈ l,f.small) (hp:p.size≤1100000) (hc:c.size≤1100000) (ham:∀ f ∈ l,f.am.size≤900000) :
  Calls Tryz.prog 15 #[.slice ad l.length cap,.string p,.string c] w (netPost w p c l):=by
 have HCk:=Lib.hid (fun W (hW:Below w.heap.size w W) => chkFl_any l ad cap W hn (hr.below hW) hs)
 have HNm:=Lib.hid (fun W (s:ByteArray) (h:s.size≤1100000) => name_any s W (by omega))
 have HR:=Lib.hid hr
 have HS:=Lib.hid hs
 have HAm:=Lib.hid ham
 clear hr hs ham
 by_cases he:flowsErr l=0
 ·have HOk:=Lib.hid (okP_of_err he)
  rw [he] at HCk
  cases h1:isNm (bl p)
  ·have HE:=Lib.hid (netE_arg (p:=p) (c:=c) he (by rw [h1];rfl))
   clear he
   go_enter Tryz.func15,Tryz.ntmps15
   go_wp2_with fail
   refine (HCk.out _ (Below.refl _ _)).mono ?_
   rintro e w1 ⟨rfl,hb1⟩
   go_wp2_with (first | (go_at_call 36;refine (HNm.out _ _ ?_).mono ?_;(assumption);rintro e w' ⟨rfl,rfl⟩))
   go_ret2
   exact ⟨by rw [HE.out.1,HE.out.2];rfl,hb1⟩
  cases h2:isNm (bl c)
  ·have HE:=Lib.hid (netE_arg (p:=p) (c:=c) he (by rw [h2];simp))
   clear he
   go_enter Tryz.func15,Tryz.ntmps15
   go_wp2_with fail
   refine (HCk.out _ (Below.refl _ _)).mono ?_
   rintro e w1 ⟨rfl,hb1⟩
   go_wp2_with (first | (go_at_call 36;refine (HNm.out _ _ ?_).mono ?_;(assumption);rintro e w' ⟨rfl,rfl⟩))
   go_ret2
   exact ⟨by rw [HE.out.1,HE.out.2];rfl,hb1⟩
  have HE:=Lib.hid (netE_ok (p:=p) (c:=c) he (by rw [h1,h2];rfl))
  clear he
  go_enter Tryz.func15,Tryz.ntmps15
  go_wp2_with fail
  refine (HCk.out _ (Below.refl _ _)).mono ?_
  rintro e w1 ⟨rfl,hb1⟩
  go_wp2_with (first | (go_at_call 36;refine (HNm.out _ _ ?_).mono ?_;(assumption);rintro e w' ⟨rfl,rfl⟩))
  clear h1 h2
  go_loopw [9,10,28] (fun z y i wr => ∃ (k:Nat) (s:ByteArray),k≤l.length∧i = .int .i64 k∧z = .string s∧y = .int .i64 0∧Hid (netAcc p c l k=(s,0))∧Below w.heap.size w wr) (fun _ _ i _ => l.length - (intOf i).toNat)
  case atStart => exact ⟨0,_,Nat.zero_le _,rfl,rfl,rfl,rfl,hb1⟩
  case round =>
   clear hb1
   obtain ⟨k,s,hk,rfl,rfl,rfl,HI,hbel⟩:=hrel
   by_cases hlt:k < l.length
   ·obtain ⟨f,hf⟩:∃ f,l[k]? = some f:=⟨_,List.getElem?_eq_getElem hlt⟩
    obtain ⟨b,off,rfl,c0,c1,c2,c3,c4⟩:=(HR.out.below hbel).fl hf
    have ham:=HAm.out f (List.mem_of_getElem? hf)
    have hgood:=(HOk.out k f hf).1
    have HSt:Hid (netAcc p c l (k+1)=netStep p c (s,0) f):=by show _=_;rw [netAcc_succ p c hf,HI.out]
    have hs1:s.size≤2010:=by have:=netAcc_size p c l k;rw [HI.out] at this;exact this
    have hsz:=hbel.size
    have hblk:b < wr.heap.size:=World.block_lt_of_cell? wr _ c0
    have hk1:(0:Int)≤(k:Int):=by omega
    have hk2:(k:Int) < (l.length:Int):=by omega
    have HGd:=Lib.hid hgood
    clear hgood hf
    have HA:=Lib.hid (fun W => ratadd_any s f.am W (by omega) (by omega))
    have HS_:=Lib.hid (fun W => ratsub_any s f.am W (by omega) (by omega))
    have HBL:=Lib.hid (hbel.alloc hsz (.cells #[.int .i64 f.d,.string f.fr,.string f.rc,.string f.cy,.string f.am] 46))
    have hft:f.fr ≠ f.rc:=HGd.out.2.2.2.1
    unfold netStep at HSt
    have HSt2:Hid (netAcc p c l (k+1)=if f.cy ≠ c then (s,0) else if f.rc=p then (mkB (sumS s f.am (addZ s f.am)),sumE s f.am (addZ s f.am)) else if f.fr=p then (mkB (sumS s f.am (subZ s f.am)),sumE s f.am (subZ s f.am)) else (s,0)):=by
     have h:=HSt.out
     rw [if_neg (by simp)] at h
     exact h
    unfold RatPost2 at HA HS_
    change Hid (∀ W,Calls Tryz.prog 38 _ W fun e w' => ∃ t,e = .returned (.tuple #[.string t,.int .i64 (sumE s f.am (addZ s f.am))])∧bl t=sumS s f.am (addZ s f.am)∧Below W.heap.size W w') at HA
    change Hid (∀ W,Calls Tryz.prog 39 _ W fun e w' => ∃ t,e = .returned (.tuple #[.string t,.int .i64 (sumE s f.am (subZ s f.am))])∧bl t=sumS s f.am (subZ s f.am)∧Below W.heap.size W w') at HS_
    have HEa:=Lib.hid (fun h => sumS_err (a:=s) (b:=f.am) (z:=addZ s f.am) h)
    have HEs:=Lib.hid (fun h => sumS_err (a:=s) (b:=f.am) (z:=subZ s f.am) h)
    generalize sumS s f.am (addZ s f.am)=Sa at *
    generalize sumE s f.am (addZ s f.am)=Ea at *
    generalize sumS s f.am (subZ s f.am)=Ss at *
    generalize sumE s f.am (subZ s f.am)=Es at *
    clear HGd HSt
    generalize f.d=d at *
    generalize f.fr=fr at *
    generalize f.rc=rc at *
    generalize f.cy=cy at *
    generalize f.am=am at *
    by_cases hu1:cy=c
    ·have hu1b:=hu1
     have u1:(cy.toList == c.toList)=true:=by rw [hu1];simp
     have u1':(cy.toList != c.toList)=false:=by rw [hu1];simp
     by_cases hu2:rc=p
     ·have hu3:fr ≠ p:=fun e => hft (e.trans hu2.symm)
      have u2:(rc.toList == p.toList)=true:=by rw [hu2];simp
      have u2':(rc.toList != p.toList)=false:=by rw [hu2];simp
      have u3:(fr.toList == p.toList)=false:=by rw [toList_beq,decide_eq_false hu3]
      have u3':(fr.toList != p.toList)=true:=by rw [bne,toList_beq,decide_eq_false hu3];rfl
      have Hu:=Lib.hid (And.intro hu1 hu2)
      clear hu1 hu2 hu3 hu1b
      have HN:Hid (netAcc p c l (k+1)=(mkB Sa,Ea)):=by show _=_;rw [HSt2.out,if_neg (fun k => k Hu.out.1),if_pos Hu.out.2]
      clear HSt2 hft
      by_cases hE:Ea=0
      ·subst hE
       go_wp2_with (first | (go_at_call 38;refine (HA.out _).mono ?_;rintro e w4 ⟨t,rfl,ht,hb4⟩))
       have hbz:=HBL.out.trans (hb4.mono (by first | exact HBL.out.size | (have:=HBL.out.size;simpa using this)))
       have et:=mkB_bl ht
       go_roundw
       case rel => exact ⟨k+1,t,by omega,by go_num,rfl,rfl,by show _=_;rw [HN.out,et],hbz⟩
       case measure => simp [intOf];omega
      ·have te:(Ea != 0)=true:=by rw [bne_iff_ne];exact hE
       have HF:Hid (netE p c l=Ea∧netS p c l=⟨#[]⟩):=by
        have h:=netAcc_err (p:=p) (c:=c) (l:=l) (k:=k+1) (by rw [HN.out];exact hE)
        exact ⟨by rw [HE.out.1,h,HN.out],by rw [HE.out.2,h,HN.out,HEa.out hE];rfl⟩
       clear hE
       go_wp2_with (first | (go_at_call 38;refine (HA.out _).mono ?_;rintro e w4 ⟨t,rfl,ht,hb4⟩))
       have hbz:=HBL.out.trans (hb4.mono (by first | exact HBL.out.size | (have:=HBL.out.size;simpa using this)))
       go_ret2
       exact ⟨by rw [HF.out.1,HF.out.2];rfl,hbz⟩
     ·by_cases hu3:fr=p
      ·have hu2b:=hu2
       have u2:(rc.toList == p.toList)=false:=by rw [toList_beq,decide_eq_false hu2]
       have u2':(rc.toList != p.toList)=true:=by rw [bne,toList_beq,decide_eq_false hu2];rfl
       have u3:(fr.toList == p.toList)=true:=by rw [hu3];simp
       have u3':(fr.toList != p.toList)=false:=by rw [hu3];simp
       have Hu:=Lib.hid (And.intro hu1 (And.intro hu2 hu3))
       clear hu1 hu2 hu3 hu1b hu2b
       have HN:Hid (netAcc p c l (k+1)=(mkB Ss,Es)):=by show _=_;rw [HSt2.out,if_neg (fun k => k Hu.out.1),if_neg Hu.out.2.1,if_pos Hu.out.2.2]
       clear HSt2 hft
       by_cases hE:Es=0
       ·subst hE
        go_wp2_with (first | (go_at_call 39;refine (HS_.out _).mono ?_;rintro e w4 ⟨t,rfl,ht,hb4⟩))
        have hbz:=HBL.out.trans (hb4.mono (by first | exact HBL.out.size | (have:=HBL.out.size;simpa using this)))
        have et:=mkB_bl ht
        go_roundw
        case rel => exact ⟨k+1,t,by omega,by go_num,rfl,rfl,by show _=_;rw [HN.out,et],hbz⟩
        case measure => simp [intOf];omega
       ·have te:(Es != 0)=true:=by rw [bne_iff_ne];exact hE
        have HF:Hid (netE p c l=Es∧netS p c l=⟨#[]⟩):=by
         have h:=netAcc_err (p:=p) (c:=c) (l:=l) (k:=k+1) (by rw [HN.out];exact hE)
         exact ⟨by rw [HE.out.1,h,HN.out],by rw [HE.out.2,h,HN.out,HEs.out hE];rfl⟩
        clear hE
        go_wp2_with (first | (go_at_call 39;refine (HS_.out _).mono ?_;rintro e w4 ⟨t,rfl,ht,hb4⟩))
        have hbz:=HBL.out.trans (hb4.mono (by first | exact HBL.out.size | (have:=HBL.out.size;simpa using this)))
        go_ret2
        exact ⟨by rw [HF.out.1,HF.out.2];rfl,hbz⟩
      ·have hu2b:=hu2
       have u2:(rc.toList == p.toList)=false:=by rw [toList_beq,decide_eq_false hu2]
       have u2':(rc.toList != p.toList)=true:=by rw [bne,toList_beq,decide_eq_false hu2];rfl
       have u3:(fr.toList == p.toList)=false:=by rw [toList_beq,decide_eq_false hu3]
       have u3':(fr.toList != p.toList)=true:=by rw [bne,toList_beq,decide_eq_false hu3];rfl
       have Hu:=Lib.hid (And.intro hu1 (And.intro hu2 hu3))
       clear hu1 hu2 hu3 hu1b hu2b
       have HN:Hid (netAcc p c l (k+1)=(s,0)):=by show _=_;rw [HSt2.out,if_neg (fun k => k Hu.out.1),if_neg Hu.out.2.1,if_neg Hu.out.2.2]
       clear HSt2 hft
       go_wp2
       go_roundw
       case rel => exact ⟨k+1,s,by omega,by go_num,rfl,rfl,HN,HBL.out⟩
       case measure => simp [intOf];omega
    ·have hu1b:=hu1
     have u1:(cy.toList == c.toList)=false:=by rw [toList_beq,decide_eq_false hu1]
     have u1':(cy.toList != c.toList)=true:=by rw [bne,toList_beq,decide_eq_false hu1];rfl
     have Hu:=Lib.hid hu1
     clear hu1 hu1b
     have HN:Hid (netAcc p c l (k+1)=(s,0)):=by show _=_;rw [HSt2.out,if_pos Hu.out]
     clear HSt2 hft
     go_wp2
     go_roundw
     case rel => exact ⟨k+1,s,by omega,by go_num,rfl,rfl,HN,HBL.out⟩
     case measure => simp [intOf];omega
   ·obtain rfl:k=l.length:=by omega
    have HF:Hid (netE p c l=0∧netS p c l=s):=⟨by rw [HE.out.1,HI.out],by rw [HE.out.2,HI.out]⟩
    go_wp2
    go_ret2
    exact ⟨by rw [HF.out.1,HF.out.2];rfl,hbel⟩
 ·have HE:=Lib.hid (netE_bad (p:=p) (c:=c) he)
  generalize flowsErr l=er at *
  have te:(er != 0)=true:=by rw [bne_iff_ne];exact he
  clear he
  go_enter Tryz.func15,Tryz.ntmps15
  go_wp2_with fail
  refine (HCk.out _ (Below.refl _ _)).mono ?_
  rintro e w1 ⟨rfl,hb1⟩
  skip
  skip
  skip
  skip
  go_wp2
  go_ret2
  exact ⟨by rw [HE.out.1,HE.out.2];rfl,hb1⟩
end Go.Proofs.YtcnpaciljmekcaaGreatDoor

namespace Go.Proofs.YtcnpaciljmekcaaGreatDoor
open Go.RowKit
set_option maxHeartbeats 2000000 in
set_option maxRecDepth 100000 in
theorem sumL_any (l:List ByteArray) (ad:Option Addr) (cap:Nat) (w:World) (hn:l.length≤1000) (hr:Rd sC 1 w ad l) (hs:∀ a ∈ l,ratErr a=0∧a.size≤2010) :
  Calls Tryz.prog 16 #[.slice ad l.length cap] w fun e w' => (∃ t,e = .returned (.tuple #[.string t,.int .i64 (sumAcc l l.length).2])∧((sumAcc l l.length).2=0→t=(sumAcc l l.length).1))∧Below w.heap.size w w':=by
 have HR:=Lib.hid hr
 have HS:=Lib.hid hs
 have HC:=Lib.hid fun W (a:ByteArray) (h:a ∈ l) => (rat_any a W (by have:=(hs a h).2;omega)).mono fun e w' (hp:RatPost W (ratErr a) e w') => (show e = .returned (.int .i64 0)∧Below W.heap.size W w' from by rw [← (hs a h).1];exact hp)
 clear hr hs
 go_enter Tryz.func16,Tryz.ntmps16
 have t0 : ¬ (1000:Int) < (l.length:Int):=by omega
 have t1:decide ((1000:Int) < (l.length:Int))=false:=decide_eq_false t0
 go_upto_block 0 with (fail)
 go_cut [7] from 17 to 25 (fun _ wc => Below w.heap.size w wc)
 case first =>
  go_wp2_with fail
  go_loopw [16] (fun i wr => ∃ k:Nat,k≤l.length∧i = .int .i64 k∧Below w.heap.size w wr) (fun i _ => l.length - (intOf i).toNat)
  case atStart => exact ⟨0,Nat.zero_le _,rfl,Below.refl _ _⟩
  case round =>
   obtain ⟨k,hk,rfl,hbel⟩:=hrel
   by_cases hlt:k < l.length
   ·obtain ⟨x,hx⟩:∃ x,l[k]? = some x:=⟨_,List.getElem?_eq_getElem hlt⟩
    obtain ⟨b,off,rfl,c0⟩:=(HR.out.below hbel).st hx
    have hk1:(k:Int) < (l.length:Int):=by omega
    have HC1:=Lib.hid (HC.out wr x (List.mem_of_getElem? hx))
    clear hx
    go_wp2_with fail
    refine HC1.out.mono ?_
    rintro e w1 ⟨rfl,hb1⟩
    have hb2:=hbel.trans (hb1.mono hbel.size)
    clear HC1 c0
    go_wp2
    go_roundw
    case rel => exact ⟨k+1,by omega,by go_num,hb2⟩
    case measure => simp [intOf];omega
   ·go_wp2
    go_meet
    exact hbel
 case rest =>
  have hb:=hcut
  go_wp2_with fail
  go_loopw [7,28] (fun z i wr => ∃ (k:Nat) (s:ByteArray),k≤l.length∧i = .int .i64 k∧z = .string s∧Hid (sumAcc l k=(s,0))∧Below w.heap.size w wr) (fun _ i _ => l.length - (intOf i).toNat)
  case atStart => exact ⟨0,_,Nat.zero_le _,rfl,rfl,rfl,hb⟩
  case round =>
   clear hb
   obtain ⟨k,s,hk,rfl,rfl,HI,hbel⟩:=hrel
   by_cases hlt:k < l.length
   ·obtain ⟨x,hx⟩:∃ x,l[k]? = some x:=⟨_,List.getElem?_eq_getElem hlt⟩
    obtain ⟨b,off,rfl,c0⟩:=(HR.out.below hbel).st hx
    have hk1:(k:Int) < (l.length:Int):=by omega
    have hs1:s.size≤2010:=by have:=sumAcc_size l k;rw [HI.out] at this;exact this
    have hx1:=(HS.out x (List.mem_of_getElem? hx)).2
    have HSt:Hid (sumAcc l (k+1)=(mkB (sumS s x (addZ s x)),sumE s x (addZ s x))):=Lib.hid (by rw [sumAcc_succ hx,HI.out,sumStep,if_neg (by simp)])
    have HA:=Lib.hid ((ratadd_any s x wr (by omega) (by omega)).mono fun e w' h => RatPost2.val h)
    clear hx
    change Hid (Calls Tryz.prog 38 #[.string s,.string x] wr fun e w' => e = .returned (.tuple #[.string (mkB (sumS s x (addZ s x))),.int .i64 (sumE s x (addZ s x))])∧Below wr.heap.size wr w') at HA
    generalize mkB (sumS s x (addZ s x))=Sa at HA HSt
    generalize sumE s x (addZ s x)=Ea at HA HSt
    by_cases hE:Ea=0
    ·subst hE
     go_wp2_with fail
     refine HA.out.mono ?_
     rintro e w1 ⟨rfl,hb1⟩
     have hb2:=hbel.trans (hb1.mono hbel.size)
     clear HA c0
     go_wp2
     go_roundw
     case rel => exact ⟨k+1,Sa,by omega,by go_num,rfl,HSt,hb2⟩
     case measure => simp [intOf];omega
    ·have te:(Ea != 0)=true:=by rw [bne_iff_ne];exact hE
     have HF:Hid ((sumAcc l l.length).2=Ea):=Lib.hid (by rw [sumAcc_err (l:=l) (k:=k+1) (by rw [HSt.out];exact hE),HSt.out])
     have HE:=Lib.hid hE
     clear hE
     go_wp2_with fail
     refine HA.out.mono ?_
     rintro e w1 ⟨rfl,hb1⟩
     have hb2:=Lib.hid (hbel.trans (hb1.mono hbel.size))
     clear HA c0 hb1
     go_wp2
     go_ret2
     exact ⟨⟨_,by rw [HF.out];rfl,fun h => absurd (HF.out.symm.trans h) HE.out⟩,hb2.out⟩
   ·obtain rfl:k=l.length:=by omega
    have HF:=Lib.hid hbel
    go_wp2
    go_ret2
    exact ⟨⟨s,by rw [HI.out];rfl,fun _ => by rw [HI.out]⟩,HF.out⟩
end Go.Proofs.YtcnpaciljmekcaaGreatDoor

namespace Go.Proofs.YtcnpaciljmekcaaGreatDoor
open Go.RowKit
section
variable {α:Type} [DecidableEq α]
omit [DecidableEq α] in
theorem merge_mem (le:α→α→Bool) (L:List α) (z:α):z ∈ L.mergeSort le ↔ z ∈ L:=List.mem_mergeSort
omit [DecidableEq α] in
theorem merge_ord {lt:α→α→Bool} (h:STO lt) (L:List α):(L.mergeSort fun x y => !lt y x).Pairwise fun a b => lt b a=false:=by
 have hnt:∀ x y z,lt x y=false→lt y z=false→lt x z=false:=fun x y z h1 h2 => by
  cases h3:lt x z with
  | false => rfl
  | true =>
   by_cases e1:lt y x=true
   ·have:=h.trans y x z e1 h3
    rw [this] at h2;cases h2
   ·have:=h.conn x y h1 (by simpa using e1)
    subst this
    rw [h3] at h2;cases h2
 have:=List.pairwise_mergeSort (le:=fun x y => !lt y x)
  (fun a b c h1 h2 => by simp only [Bool.not_eq_true'] at h1 h2 ⊢;exact hnt c b a h2 h1)
  (fun a b => by
   cases h1:lt b a with
   | false => rfl
   | true => simp [h.asymm h1]) L
 exact this.imp fun h1 => by simpa using h1
def uniq (lt:α→α→Bool) (L:List α):List α:=cmpct (L.mergeSort fun x y => !lt y x)
theorem uniq_mem (lt:α→α→Bool) (L:List α) (z:α):z ∈ uniq lt L ↔ z ∈ L:=by rw [uniq,cmpct_mem,merge_mem]
theorem uniq_srt {lt:α→α→Bool} (h:STO lt) (L:List α):Srt lt (uniq lt L):=cmpct_srt h _ (merge_ord h L)
end
end Go.Proofs.YtcnpaciljmekcaaGreatDoor

namespace Go.Proofs.YtcnpaciljmekcaaGreatDoor
open Go.RowKit
open Go.Sort (Holds grow SWO putRow)
theorem up_eq (L:List (List UInt8)):∀ m,m≤L.length→Lib.compactUpTo L.toArray m=cmpct (L.take m)
 | 0,_ => by simp [Lib.compactUpTo,cmpct]
 | m+1,hm => by
  have hy:L[m]? = some L[m]:=List.getElem?_eq_getElem (by omega)
  have e1:L.toArray[m]! = L[m]:=by rw [getElem!_pos L.toArray m (by simp;omega)];rfl
  rw [Lib.compactUpTo_succ,up_eq L m (by omega),e1]
  by_cases h0:m=0
  ·subst h0
   have hk:Lib.keeps L.toArray 0=true:=by simp [Lib.keeps]
   rw [if_pos hk,take_snoc_get hy]
   simp [cmpct]
  ·have hx:L[m - 1]? = some L[m - 1]:=List.getElem?_eq_getElem (by omega)
   have e2:L.toArray[m - 1]! = L[m - 1]:=by rw [getElem!_pos L.toArray (m - 1) (by simp;omega)];rfl
   by_cases he:L[m]=L[m - 1]
   ·have hk:Lib.keeps L.toArray m=false:=Lib.keeps_neg (by omega) (by rw [e1,e2];exact he)
    rw [hk,cmpct_same' (by omega) hx (by rw [← he];exact hy)]
    simp
   ·have hk:Lib.keeps L.toArray m=true:=Lib.keeps_pos (by rw [e1,e2];exact he)
    rw [if_pos hk,cmpct_new' (by omega) hx hy he]
theorem compact_eq (L:List (List UInt8)):Lib.compact L=cmpct L:=by
 unfold Lib.compact
 rw [up_eq L _ (Nat.le_refl _),List.take_length]
def blLt (x y:List UInt8):Bool:=decide (x < y)
theorem bl_sto:STO blLt where
 irrefl x:=by simp [blLt,List.lt_irrefl]
 trans x y z h k:=by simp only [blLt,decide_eq_true_eq] at *;exact List.lt_trans h k
 conn x y h k:=by
  simp only [blLt,decide_eq_false_iff_not] at *
  exact List.le_antisymm (List.not_lt.1 k) (List.not_lt.1 h)
theorem sort_eq (L:List (List UInt8)):(L.mergeSort fun x y => decide (x≤y))=L.mergeSort fun x y => !blLt y x:=by
 congr 1
 funext x y
 unfold blLt
 by_cases h:y < x
 ·rw [decide_eq_true h,decide_eq_false (List.not_le.2 h)];rfl
 ·rw [decide_eq_false h,decide_eq_true (List.not_lt.1 h)];rfl
def wordsOf (L:List ByteArray):List (List UInt8):=cmpct ((L.map bl).mergeSort fun x y => decide (x≤y))
theorem wordsOf_uniq (L:List ByteArray):wordsOf L=uniq blLt (L.map bl):=by unfold wordsOf uniq;rw [sort_eq]
theorem wordsOf_mem (L:List ByteArray) (s:ByteArray):s ∈ (wordsOf L).map mkB ↔ s ∈ L:=by
 rw [wordsOf_uniq,List.mem_map]
 constructor
 ·rintro ⟨l,hl,rfl⟩
  rw [uniq_mem,List.mem_map] at hl
  obtain ⟨a,ha,rfl⟩:=hl
  rw [show mkB (bl a)=a from (mkB_bl rfl).symm];exact ha
 ·intro h
  exact ⟨bl s,by rw [uniq_mem];exact List.mem_map.2 ⟨s,h,rfl⟩,(mkB_bl rfl).symm⟩
theorem wordsOf_nodup (L:List ByteArray):((wordsOf L).map mkB).Nodup:=by
 have h:((wordsOf L).map mkB).Pairwise fun a b => blLt (bl a) (bl b)=true:=by
  rw [List.pairwise_map]
  have h:=uniq_srt bl_sto (L.map bl)
  rw [← wordsOf_uniq] at h
  exact h.imp fun {a b} k => by rw [bl_mkB,bl_mkB];exact k
 exact h.imp fun {a b} k => fun (e:a=b) => bl_sto.ne k (congrArg bl e)
theorem wordsOf_len (L:List ByteArray):(wordsOf L).length≤L.length:=by
 unfold wordsOf
 exact Nat.le_trans (cmpct_len _) (by rw [List.length_mergeSort,List.length_map];exact Nat.le_refl _)
theorem flat_st (L:List ByteArray):L.flatMap sC=(L.map bl).map encStr:=by
 rw [show L.map bl=L.map (·.data.toList) from rfl,Lib.map_encStr]
 induction L with
 | nil => rfl
 | cons x l ih => rw [List.flatMap_cons,List.map_cons,ih];rfl
theorem sortS_any (base:Nat) (L:List (List UInt8)) (v:Value) (W:World) (hown:W.ownsRow base 9 1 v L.length (L.map encStr)) (hlen:L.length≤4000000000000) :
  Calls Tryz.prog 79 #[v] W fun e W' => e = .returned (.tuple #[]) ∧
   W'.ownsRow base 9 1 v L.length ((L.mergeSort fun x y => decide (x≤y)).map encStr)∧W.grownBy W' v.ownBlock:=by
 rcases hown.2 with ⟨rfl,h0⟩ | ⟨g,cap,cur,rfl,hbg,hh,hn,hc,hs,ht⟩
 ·have hL:L=[]:=List.eq_nil_of_length_eq_zero h0
  subst hL
  have h:=Any.slices_Sort_string_none Tryz.laysStr none 0 W
  refine Calls.mono (by exact h) ?_
  rintro e W' ⟨rfl,rfl⟩
  exact ⟨rfl,by simpa using hown,World.grownBy.refl _ _⟩
 ·have h:=Any.slices_Sort_string Tryz.laysStr g 0 cap L W (holds_of_block hh (by simpa using ht)) (Array.getElem?_eq_some_iff.1 hh).1 (by omega)
  refine Calls.mono (by exact h) ?_
  rintro e W' ⟨rfl,q,os,rfl⟩
  exact ⟨rfl,ownsRow_sorted (List.length_mergeSort _) hbg hh hn hc hs,grownBy_sorted _⟩
theorem compS_any (base:Nat) (L:List (List UInt8)) (v:Value) (W:World) (hown:W.ownsRow base 9 1 v L.length (L.map encStr)) (hlen:L.length≤4000000000000) :
  Calls Tryz.prog 80 #[v] W fun e W' => ∃ v',e = .returned v' ∧
   W'.ownsRow base 9 1 v' (cmpct L).length ((cmpct L).map encStr)∧W.grownBy W' v.ownBlock:=by
 rcases hown.2 with ⟨rfl,h0⟩ | ⟨g,cap,cur,rfl,hbg,hh,hn,hc,hs,ht⟩
 ·have hL:L=[]:=List.eq_nil_of_length_eq_zero h0
  subst hL
  have h:=Any.slices_Compact_string_empty Tryz.laysStrC none 0 W
  refine Calls.mono (by exact h) ?_
  rintro e W' ⟨rfl,rfl⟩
  exact ⟨_,rfl,by simpa [cmpct] using hown,World.grownBy.refl _ _⟩
 ·have h:=Any.slices_Compact_string Tryz.laysStrC g 0 cap L W (holds_of_block hh (by simpa using ht)) (by omega) hn
  rw [compact_eq] at h
  refine Calls.mono (by exact h) ?_
  rintro e W' ⟨rfl,q,rfl⟩
  have hl:=cmpct_len L
  have hr:=Lib.ownsRow_putRow (q:=q) (k:=(cmpct L).length) (ys:=cmpct L ++ List.replicate (L.length - (cmpct L).length) []) hown (by simp;omega) hl
  rw [List.take_left] at hr
  refine ⟨_,rfl,hr,?_⟩
  have h:=grownBy_sorted (w:=W) (g:=g) (n:=q) (os:=#[]) (cmpct L ++ List.replicate (L.length - (cmpct L).length) []).toArray
  rw [show ∀ w':World,grow w' #[]=w' from fun w' => by unfold grow;rw [Array.append_empty]] at h
  exact h
end Go.Proofs.YtcnpaciljmekcaaGreatDoor

namespace Go.Proofs.YtcnpaciljmekcaaGreatDoor
open Go.RowKit Go.Shelf
attribute [local go_sem] Oper.semAt_some
def wdB (s:ByteArray):Bool:=decide (s.size ≠ 0)
def wdsL (g:Con→List ByteArray) (l:List Con):List ByteArray:=(l.flatMap g).filter wdB
def wds (g:Con→List ByteArray) (c:Con):List ByteArray:=wdsL g c.nodes
theorem wdsL_app (g:Con→List ByteArray) (l m:List Con):wdsL g (l ++ m)=wdsL g l ++ wdsL g m:=by simp [wdsL]
theorem wdsL_len (g:Con→List ByteArray) (hg:∀ y,(g y).length≤2) (l:List Con):(wdsL g l).length≤2 * l.length:=by
 induction l with
 | nil => simp [wdsL]
 | cons x l ih =>
  rw [show x :: l=[x] ++ l from rfl,wdsL_app,List.length_append,List.length_append]
  have h1:(wdsL g [x]).length≤(g x).length:=by unfold wdsL;simp;exact List.length_filter_le ..
  have:=hg x
  simp only [List.length_cons,List.length_nil]
  omega
def WBox (base B:Nat) (P:Nat→Prop) (L:List ByteArray) (W:World):Prop:=∃ v,Boxed W B 40 v∧W.ownsRow base 9 1 v L.length (L.flatMap sC)∧∀ b,v.ownBlock=some b→P b
theorem WBox.low {base B:Nat} {P:Nat→Prop} {L:List ByteArray} {W W':World} (h:WBox base B P L W) (hb:Below W.heap.size W W'):WBox base B P L W':=by
 obtain ⟨v,h1,h2,h3⟩:=h
 exact ⟨v,(hb.block _ h1.lt).trans h1,ownsRow_below' h2 hb,h3⟩
def FG (lo hi:Nat) (ga:Option Addr) (G:List ByteArray) (W:World):Prop:=∀ (j:Nat) (s:ByteArray),G[j]? = some s→∃ b,ga=some ⟨b,0,none⟩∧lo≤b∧b < hi∧W.cell? ⟨b,j,none⟩=some (.string s)
theorem FG.new {lo cap:Nat} {ga:Option Addr} {G:List ByteArray} {W:World} (h:W.ownsRow lo 9 1 (.slice ga G.length cap) G.length (G.flatMap sC)):FG lo W.heap.size ga G W:=by
 intro j s hj
 rcases h.2 with ⟨e,h0⟩ | ⟨g,cap',cur,e,hg,hgb,_⟩
 ·rw [List.eq_nil_of_length_eq_zero h0] at hj;simp at hj
 ·cases e
  refine ⟨g,rfl,hg,(Array.getElem?_eq_some_iff.1 hgb).1,?_⟩
  have hc:=h.cells (g:=g) rfl (j:=j) (u:=.string s) (by
   have:=flat_get sC 1 (fun _ => rfl) G j s 0 (.string s) hj rfl
   simpa using this)
  by_cases h0:j=0
  ·subst h0;simpa [Addr.add] using hc
  ·simpa [Addr.add,h0] using hc
theorem below_kept {W W':World} (h:Below W.heap.size W W'):KeepsOthers W W':=⟨h.size,fun k o hk _ => by rw [h.block k (Array.getElem?_eq_some_iff.1 hk).1];exact hk⟩
theorem WBox.step {base D B lo hi:Nat} {L G:List ByteArray} {ga:Option Addr} {W w1:World} {v v':Value} {s:ByteArray} {tmp:Obj} (h1:Boxed W B 40 v) (h2:W.ownsRow base 9 1 v L.length (L.flatMap sC)) (hb:base≤W.heap.size) (hB:base≤B)
  (hown:w1.ownsRow base 9 1 v' (L.length+1) (L.flatMap sC ++ [.string s])) (hgrow:(W.alloc tmp).grownBy w1 v.ownBlock)
  (h3:∀ b,v.ownBlock=some b→b < lo∨hi≤b) (hat:v'.ownBlock=v.ownBlock∨v'.ownBlock=some (W.alloc tmp).heap.size) (hhi:hi≤W.heap.size) (hlo:B < lo) (hG:FG lo hi ga G W) :
  Boxed w1 B 40 v∧WBox base B (fun b => b < lo∨hi≤b) (L ++ [s]) (w1.setCell ⟨B,0,none⟩ v')∧FG lo hi ga G (w1.setCell ⟨B,0,none⟩ v')∧KeepsOthers W (w1.setCell ⟨B,0,none⟩ v')∧KeptC base D W (w1.setCell ⟨B,0,none⟩ v')∧∀ B' t' u',Boxed W B' t' u'→B' ≠ B→t' ≠ 9→Boxed (w1.setCell ⟨B,0,none⟩ v') B' t' u':=by
 obtain ⟨k1,k2,k3,k4,k5⟩:=Boxed.appended h1 (by decide) h2 hb hB hown hgrow
 refine ⟨k1,⟨v',k2,by rw [List.length_append,List.flatMap_append];exact k3,fun b hb => ?_⟩,fun j x hj => ?_,k4,⟨k5,fun b cs fr _ hc => ?_⟩,fun B' t' u' hb' hne hte => ((hb'.alloc tmp).kept hgrow (hb'.not_row hte h2)).kept (grownBy_setCell' w1 B v') (fun e => hne (by cases e;rfl))⟩
 ·rcases hat with e | e
  ·exact h3 b (by rw [← e];exact hb)
  ·rw [e] at hb
   cases hb
   right;simp;omega
 ·obtain ⟨b,e,q1,q2,q3⟩:=hG j x hj
  have hlt:b < W.heap.size:=by omega
  refine ⟨b,e,q1,q2,?_⟩
  rw [World.cell?_of_block (w:=W) (by rw [Below.heap_setCell _ _ _ _ (show b ≠ B by omega),hgrow.block b (by simp;omega) (fun e => by have:=h3 b e.symm;omega),Below.heap_alloc _ _ _ hlt])]
  exact q3
 have hlt:b < W.heap.size:=(Array.getElem?_eq_some_iff.1 hc).1
 have n1:b ≠ B:=by
  rintro rfl
  rw [show W.heap[b]? = _ from h1] at hc
  injection hc with hc
  injection hc with _ hc
  exact absurd hc (by decide)
 have n2:some b ≠ v.ownBlock:=by
  rcases h2.2 with ⟨rfl,_⟩ | ⟨g,cap,cur,rfl,_,hgb,_⟩
  ·intro e;cases e
  ·intro e
   obtain rfl:g=b:=by simpa [Value.ownBlock] using e.symm
   rw [hgb] at hc
   injection hc with hc
   injection hc with _ hc
   exact absurd hc (by decide)
 rw [Below.heap_setCell _ _ _ _ n1,hgrow.block b (by simp;omega) n2,Below.heap_alloc _ _ _ hlt]
 exact hc
theorem ul_sts:Tryz.prog.underlying 40=some (.slice 9):=by kernel_rfl
theorem info_st:(Tryz.prog.info? 9).map (fun i => (i.zero,i.size,i.bytes))=some (some (.string ⟨#[]⟩),1,16):=by kernel_rfl
theorem cell_one_at (w:World) (u:Value) (t:TypeId):∀ j x,[u][j]? = some x→(w.alloc (.cells #[u] t)).cell? ((⟨w.heap.size,0,none⟩:Addr).add j)=some x:=by
 intro j x hj
 match j,hj with
 | 0,h => cases h;simp [Addr.add]
set_option maxHeartbeats 4000000 in
set_option maxRecDepth 100000 in
theorem words_any (q:FuncId) (g:Con→List ByteArray) (hqe:∀ args w,(callFunc q args).run Tryz.prog w = .ok (.enter q args) w) (hg:∀ y,(g y).length≤2)
  (c:Con) (es dd ss:Value) (w:World) (hB:c.bulk≤2000000) (hr:RdN w c es dd ss) (hS:LookS w) (hP:LookP w) (hE:c.err=0)
  (hq:∀ y es dd ss W,RdN w y es dd ss→Below w.heap.size w W→Calls Tryz.prog q #[y.val es dd ss] W fun e W' => ∃ v,e = .returned v∧W'.ownsRow W.heap.size 9 1 v (g y).length ((g y).flatMap sC)∧Below W.heap.size W W') :
  Calls Tryz.prog 33 #[c.val es dd ss,.func (.func q) #[] #[]] w fun e w' => ∃ v,e = .returned (.tuple #[v,.int .i64 0]) ∧
   w'.ownsRow w.heap.size 9 1 v (wordsOf (wds g c)).length ((wordsOf (wds g c)).map encStr)∧Below w.heap.size w w':=by
 obtain ⟨ad,cad,rfl⟩:=hr.2.2.1.len
 obtain ⟨ad1,cad1,rfl⟩:=hr.1.len
 obtain ⟨ad2,cad2,rfl⟩:=hr.2.1.len
 obtain ⟨i0,hI0,hI1,hI2,hI3⟩:=info_parts info_st
 have HNo:=Lib.hid (fun W => cnodes_any c (.slice ad1 c.ex.sub.length cad1) (.slice ad2 c.ds.length cad2) (.slice ad c.sub.length cad) W)
 have HCk:=Lib.hid (fun W (hb:Below w.heap.size w W) => cchk_any c _ _ _ W hB (hr.frame hb) (hS.frame hb) (hP.frame hb))
 rw [hE] at HCk
 have hb0:=below_a2 w (.cells #[.int .u8 c.k,.string c.fr,.string c.rc,.string c.nm,.int .u8 c.ex.k,.string c.ex.ra,.string c.ex.nm,.int .i64 c.ex.d,.slice ad1 c.ex.sub.length cad1,.int .i64 c.d,.slice ad2 c.ds.length cad2,.slice ad c.sub.length cad] 29) (.cells #[.func (.func q) #[] #[]] 74)
 have bC:=(CBox.new w c (.slice ad1 c.ex.sub.length cad1) (.slice ad2 c.ds.length cad2) (.slice ad c.sub.length cad) 29).low (below_a1 _ (.cells #[.func (.func q) #[] #[]] 74))
 have bA:=Boxed.new (w.alloc (.cells #[.int .u8 c.k,.string c.fr,.string c.rc,.string c.nm,.int .u8 c.ex.k,.string c.ex.ra,.string c.ex.nm,.int .i64 c.ex.d,.slice ad1 c.ex.sub.length cad1,.int .i64 c.d,.slice ad2 c.ds.length cad2,.slice ad c.sub.length cad] 29)) 74 (.func (.func q) #[] #[])
 simp only [World.size_alloc] at bA
 have HQ:=Lib.hid hq
 clear hS hP hE hq
 refine (callsIn_wide (n:=10)).1 ?_
 unfold Con.val at HNo HCk ⊢
 refine callsIn_of_wp_marks Tryz.func33 rfl trivial ?_ rfl
 simp only [Tryz.ntmps33,List.size_toArray,List.length_cons,List.length_nil,Nat.reduceAdd,Nat.reduceSub,Array.replicate_succ,Array.replicate_zero,List.push_toArray,List.append_toArray,List.nil_append,List.cons_append]
 gi_wp2_with (first
  | (refine ⟨trivial,?_⟩;gi_at_call 61;refine (callsIn_wide.2 (HCk.out _ hb0)).mono ?_;rintro e w1 ⟨rfl,hb1⟩;have hz1:=hb1.size;(simp only [World.size_alloc] at hz1);have bCx:=(bC.low hb1).low (below_a1 w1 (.cells #[.slice none 0 0] 40));obtain ⟨c0,c1,c2,c3,c4,c5,c6,c7,c8,c9,c10,c11⟩:=bCx)
  | (refine ⟨trivial,?_⟩;gi_at_call 78;refine (callsIn_wide.2 (HNo.out _)).mono ?_;rintro e w3 ⟨rfl,rfl⟩))
 have hb2:=below_a2 w1 (.cells #[.slice none 0 0] 40) (.cells #[.int .u8 c.k,.string c.fr,.string c.rc,.string c.nm,.int .u8 c.ex.k,.string c.ex.ra,.string c.ex.nm,.int .i64 c.ex.d,.slice ad1 c.ex.sub.length cad1,.int .i64 c.d,.slice ad2 c.ds.length cad2,.slice ad c.sub.length cad] 29)
 have hbW:=(hb0.trans (hb1.mono (by simp;omega))).trans (hb2.mono (by omega))
 have bL:WBox w.heap.size w1.heap.size (fun _ => True) [] ((w1.alloc (.cells #[.slice none 0 0] 40)).alloc (.cells #[.int .u8 c.k,.string c.fr,.string c.rc,.string c.nm,.int .u8 c.ex.k,.string c.ex.ra,.string c.ex.nm,.int .i64 c.ex.d,.slice ad1 c.ex.sub.length cad1,.int .i64 c.d,.slice ad2 c.ds.length cad2,.slice ad c.sub.length cad] 29)):=⟨.slice none 0 0,(Boxed.new w1 40 (.slice none 0 0)).alloc _,World.ownsRow_nil _ _ _ _,fun _ _ => trivial⟩
 have bN:=CBox.new (w1.alloc (.cells #[.slice none 0 0] 40)) c (.slice ad1 c.ex.sub.length cad1) (.slice ad2 c.ds.length cad2) (.slice ad c.sub.length cad) 29
 have bF0:Boxed w1 (w.heap.size+1) 74 (.func (.func q) #[] #[]):=(hb1.block _ (by simp)).trans bA
 have bF:=(bF0.alloc (.cells #[.slice none 0 0] 40)).alloc (.cells #[.int .u8 c.k,.string c.fr,.string c.rc,.string c.nm,.int .u8 c.ex.k,.string c.ex.ra,.string c.ex.nm,.int .i64 c.ex.d,.slice ad1 c.ex.sub.length cad1,.int .i64 c.d,.slice ad2 c.ds.length cad2,.slice ad c.sub.length cad] 29)
 simp only [World.size_alloc] at bN
 have hsz:((w1.alloc (.cells #[.slice none 0 0] 40)).alloc (.cells #[.int .u8 c.k,.string c.fr,.string c.rc,.string c.nm,.int .u8 c.ex.k,.string c.ex.ra,.string c.ex.nm,.int .i64 c.ex.d,.slice ad1 c.ex.sub.length cad1,.int .i64 c.d,.slice ad2 c.ds.length cad2,.slice ad c.sub.length cad] 29)).heap.size=w1.heap.size+2:=by simp
 obtain ⟨W0,hW0⟩:∃ W0,(w1.alloc (.cells #[.slice none 0 0] 40)).alloc (.cells #[.int .u8 c.k,.string c.fr,.string c.rc,.string c.nm,.int .u8 c.ex.k,.string c.ex.ra,.string c.ex.nm,.int .i64 c.ex.d,.slice ad1 c.ex.sub.length cad1,.int .i64 c.d,.slice ad2 c.ds.length cad2,.slice ad c.sub.length cad] 29)=W0:=⟨_,rfl⟩
 rw [hW0] at hbW bL bN bF hsz ⊢
 obtain ⟨L1,hL1⟩:∃ n,w1.heap.size=n:=⟨_,rfl⟩
 rw [hL1] at bL bN hsz hz1 ⊢
 have hnl:=c.nodes_len
 generalize Value.agg #[.int .u8 c.k,.string c.fr,.string c.rc,.string c.nm,.int .u8 c.ex.k,.string c.ex.ra,.string c.ex.nm,.int .i64 c.ex.d,.slice ad1 c.ex.sub.length cad1,.int .i64 c.d,.slice ad2 c.ds.length cad2,.slice ad c.sub.length cad]=CV
 clear hW0 HNo HCk hb0 hb1 hb2 bC bA bF0 c0 c1 c2 c3 c4 c5 c6 c7 c8 c9 c10 c11 hL1
 refine wpIn_rangeFunc_ownH rfl (by decide) (gf:=135) (lb:=#[.pointer (some ⟨L1+1,0,none⟩)]) rfl trivial (enters_of Tryz.func135 (by kernel_rfl) rfl)
  (cnodes_stopsC w Fence.wide rfl trivial trivial rfl 9 c _ _ _ W0 hB hr hbW _ bN) (fun h k => h.trans k) (fun W l o o' hl h hc _ => KeptC.putObj W l o o' (by omega) h hc) (Below.refl _ _) (fun _ => rfl)
  (fun pre W => WBox w.heap.size L1 (fun _ => True) (wdsL g (pre.map NdW.con)) W∧(Boxed W (w.heap.size+1) 74 (.func (.func q) #[] #[])∧(Below w.heap.size w W∧W0.heap.size≤W.heap.size)))
  (fun _ _ _ => False)
  (OwnFrom.and (Own.from (holdsRow_own w.heap.size L1 40 9 1 (fun s:List (NdW w) => (wdsL g (s.map NdW.con)).length) (fun s => (wdsL g (s.map NdW.con)).flatMap sC) (fun _ v => ∀ b,v.ownBlock=some b→True)) _) (OwnFrom.and (Own.from (boxed_own _ _ _) _) (OwnFrom.and (ownFrom_below (Nat.le_refl _) (by omega)) (fun _ _ _ _ hs hg _ => Nat.le_trans hs hg.size))))
  (fun _ _ _ _ _ hs _ _ => hs)
  ⟨bL,bF,hbW,Nat.le_refl _⟩
  (fun x a' W => ∃ Bx,W0.heap.size≤Bx∧CBox W Bx x.1.1 x.1.2.1 x.1.2.2.1 x.1.2.2.2∧a'={ tmps:=#[CV,.func (.func q) #[] #[],.pointer (some ⟨w.heap.size,0,none⟩),.pointer (some ⟨w.heap.size+1,0,none⟩),.slice none 0 0,.int .i64 0,.int .i64 0,.pointer (some ⟨L1,0,none⟩),.pointer (some ⟨Bx,0,none⟩),undef,undef,CV,.int .i64 0,.int .i64 0,.bool false,undef,CV,.func (.func 135) #[] #[.pointer (some ⟨L1+1,0,none⟩)],x.1.1.val x.1.2.1 x.1.2.2.1 x.1.2.2.2,undef,undef,undef,undef,undef,undef,undef,undef,undef,undef,undef,undef,undef,undef,undef,undef,undef,undef,undef],defers:=[] })
  (fun x a' s A B row hs hg hr => by
   obtain ⟨Bx,h1,h2,h3⟩:=hs
   exact ⟨Bx,h1,cbox_own (β:=Unit) Bx _ _ _ _ () A B row h2 hg (fun r e => (hr r e).2),h3⟩)
  ?assign ?body ?done ?stop
 case assign =>
  rintro l pre ⟨⟨y,es',dd',ss'⟩,hy,hyB⟩ W K ⟨hi,hf,hbi,hZ0⟩ hK
  have hy2:RdN w y es' dd' ss':=hy
  obtain ⟨bd,cbd,rfl⟩:=hy2.2.2.1.len
  obtain ⟨bd1,cbd1,rfl⟩:=hy2.1.len
  obtain ⟨bd2,cbd2,rfl⟩:=hy2.2.1.len
  have hz:=hbi.size
  have hk:=hK _ _ ((KeepsOthers.alloc W (.cells #[.int .u8 y.k,.string y.fr,.string y.rc,.string y.nm,.int .u8 y.ex.k,.string y.ex.ra,.string y.ex.nm,.int .i64 y.ex.d,.slice bd1 y.ex.sub.length cbd1,.int .i64 y.d,.slice bd2 y.ds.length cbd2,.slice bd y.sub.length cbd] 29)).from _) (KeptC.alloc W hz _) ⟨hi.low (below_a1 _ _),hf.alloc _,hbi.alloc hz _,Nat.le_trans hZ0 (by simp)⟩ ⟨W.heap.size,hZ0,CBox.new W y _ _ _ _,rfl⟩
  unfold NdW.enc Con.val
  unfold Con.val at hk
  clear hK hi hf
  gi_wp2
  exact hk
 case body =>
  rintro l pre ⟨⟨y,es',dd',ss'⟩,hy,hyB⟩ a' W hl ⟨r,hlr⟩ ⟨hi,hf,hbi,hZ0⟩ ⟨Bx,hBx,hbox,rfl⟩ hlt
  have hy2:RdN w y es' dd' ss':=hy
  obtain ⟨bd,cbd,rfl⟩:=hy2.2.2.1.len
  obtain ⟨bd1,cbd1,rfl⟩:=hy2.1.len
  obtain ⟨bd2,cbd2,rfl⟩:=hy2.2.1.len
  have hlen:=wdsL_len g hg (pre.map NdW.con)
  rw [List.length_map] at hlen
  obtain ⟨L,hL⟩:∃ L,wdsL g (pre.map NdW.con)=L:=⟨_,rfl⟩
  rw [hL] at hi hlen
  obtain ⟨G,hG⟩:∃ G,g y=G:=⟨_,rfl⟩
  have HCl:=Lib.hid (HQ.out y _ _ _ W hy2 hbi)
  have hGl:=hg y
  rw [hG] at HCl hGl
  have HSN:Hid (wdsL g ((pre ++ [(⟨(y,.slice bd1 y.ex.sub.length cbd1,.slice bd2 y.ds.length cbd2,.slice bd y.sub.length cbd),hy,hyB⟩:NdW w)]).map NdW.con)=L ++ G.filter wdB):=Lib.hid (by
   rw [List.map_append,wdsL_app,hL];simp [wdsL,NdW.con,hG])
  have hLm:L.length≤4000000:=by omega
  unfold Con.val at HCl ⊢
  have hc:=hf.cell
  obtain ⟨c0,c1,c2,c3,c4,c5,c6,c7,c8,c9,c10,c11⟩:=hbox
  clear hL hG hlen hlr
  gi_wp2_with (refine ⟨trivial,?_⟩;refine (CallsIn.inRound l (callsIn_wide.2 HCl.out)).mono ?_;rintro e w2 ⟨v2,rfl,hrG,hb2⟩;obtain ⟨ga,gc,rfl⟩:∃ ga gc,v2 = .slice ga G.length gc:=(by rcases hrG.2 with ⟨rfl,h0⟩ | ⟨gg,cap,cur,rfl,_⟩;exact ⟨none,0,by rw [h0]⟩;exact ⟨_,_,rfl⟩))
  have hRG:FG W.heap.size w2.heap.size ga G w2:=FG.new hrG
  have hz2:=hb2.size
  have hi2:WBox w.heap.size L1 (fun b => b < W.heap.size∨w2.heap.size≤b) (L ++ (G.take 0).filter wdB) w2:=by
   obtain ⟨v,h1,h2,_⟩:=hi
   exact ⟨v,(hb2.block _ h1.lt).trans h1,by rw [List.take_zero,List.filter_nil,List.append_nil];exact ownsRow_below' h2 hb2,fun b hb => .inl (h2.lt b hb).2⟩
  have hf2:Boxed w2 (w.heap.size+1) 74 (.func (.func q) #[] #[]):=(hb2.block _ hf.lt).trans hf
  have hbi2:=hbi.trans (hb2.mono hbi.size)
  have hko:=below_kept hb2
  have hkc:KeptC w.heap.size W0.heap.size W w2:=KeptC.of_below hbi.size hb2
  have hL1W:L1 < W.heap.size:=by omega
  clear c0 c1 c2 c3 c4 c5 c6 c7 c8 c9 c10 c11 hc hrG hb2 HCl hi hf HQ
  obtain ⟨gn,hgn⟩:∃ n,G.length=n:=⟨_,rfl⟩
  have HGn:=Lib.hid hgn
  rw [hgn] at hGl ⊢
  clear hgn
  gi_loopw [23] (fun i wr => ∃ k:Nat,k≤gn∧i = .int .i64 (k:Int)∧WBox w.heap.size L1 (fun b => b < W.heap.size∨w2.heap.size≤b) (L ++ (G.take k).filter wdB) wr∧FG W.heap.size w2.heap.size ga G wr∧Boxed wr (w.heap.size+1) 74 (.func (.func q) #[] #[])∧Below w.heap.size w wr∧w2.heap.size≤wr.heap.size∧KeepsOthers W wr∧KeptC w.heap.size W0.heap.size W wr) (fun i _ => gn - (intOf i).toNat)
  case atStart => exact ⟨0,Nat.zero_le _,rfl,hi2,hRG,hf2,hbi2,Nat.le_refl _,hko,hkc⟩
  case round =>
   clear hi2 hRG hf2 hbi2 hko hkc
   obtain ⟨k,hk,rfl,hw,hfg,hf,hb,hzr,hko,hkc⟩:=hrel
   by_cases hlt:k < gn
   ·obtain ⟨s,hs⟩:∃ s,G[k]? = some s:=⟨_,List.getElem?_eq_getElem (by rw [HGn.out];exact hlt)⟩
    obtain ⟨gb,rfl,q1,q2,q3⟩:=hfg k s hs
    have hk1:(k:Int) < (gn:Int):=by omega
    have HT:Hid ((G.take (k+1)).filter wdB=(G.take k).filter wdB ++ [s].filter wdB):=Lib.hid (by rw [take_snoc_get hs,List.filter_append])
    clear hs
    by_cases he:s.size=0
    ·have hs0 : s = ⟨#[]⟩ := by cases s; rename_i a; have : a = #[] := by cases a; simpa [ByteArray.size] using he
                                rw [this]
     have HW:Hid (WBox w.heap.size L1 (fun b => b < W.heap.size∨w2.heap.size≤b) (L ++ (G.take (k+1)).filter wdB) wr):=Lib.hid (by rw [HT.out,show [s].filter wdB=[] by simp [wdB,he],List.append_nil];exact hw)
     have HR:=Lib.hid (And.intro hfg (And.intro hf (And.intro hb (And.intro hko hkc))))
     subst hs0
     clear hw hfg hf hb hko hkc he HT
     gi_wp2
     go_roundw
     case rel => exact ⟨k+1,by omega,by go_num,HW.out,HR.out.1,HR.out.2.1,HR.out.2.2.1,hzr,HR.out.2.2.2.1,HR.out.2.2.2.2⟩
     case measure => simp [intOf];omega
    ·have u1:(!s.toList.isEmpty)=true:=by
      rw [Lib.toList_data]
      cases h:s.data.toList with
      | nil => exact absurd (show s.size=0 by rw [show s.size=s.data.toList.length from (Array.length_toList ..).symm,h];rfl) he
      | cons a l => rfl
     have HF1:Hid ([s].filter wdB=[s]):=Lib.hid (by simp [wdB,he])
     obtain ⟨LL,hLL⟩:∃ LL,L ++ (G.take k).filter wdB=LL:=⟨_,rfl⟩
     have hLb:LL.length≤4000002:=by
      rw [← hLL,List.length_append]
      have h1:((G.take k).filter wdB).length≤k:=Nat.le_trans (List.length_filter_le ..) (by rw [List.length_take];omega)
      omega
     have HLL:Hid (L ++ (G.take (k+1)).filter wdB=LL ++ [s]):=Lib.hid (by rw [HT.out,HF1.out,← List.append_assoc,hLL])
     rw [hLL] at hw
     obtain ⟨v,hv1,hv2,hv3⟩:=hw
     have hc:=hv1.cell
     have hzb:=hb.size
     clear hLL HT HF1 he
     gi_wp2_with (gi_at_builtin;refine wpListIn_append_own_at _ rfl _ _ 40 rfl w.heap.size 9 i0 (.string ⟨#[]⟩) 1 16 ul_sts hI0 hI1 hI2 hI3 rfl (by decide) _ _ _ rfl (hv2.alloc _) ⟨wr.heap.size,0,none⟩ 1 1 [.string s] rfl rfl (cell_one_at _ _ _) (by simp [Value.oneCell']) (by unfold maxLen;omega) (by omega) (by simp;omega) ?_;intro v' w3 hown' hgrow _ hat;obtain ⟨g',cap',rfl⟩:=ownsRow_succ hown';obtain ⟨n1,n2,n3,n4,n5,n6⟩:=WBox.step (D:=W0.heap.size) hv1 hv2 hb.size (by omega) hown' hgrow hv3 hat hzr hL1W hfg;have hc3:=n1.cell;have hf3:=n1.frozen;clear hv1 hv2 hv3 hown' hgrow hat hc)
     have hfx:Boxed (w3.setCell ⟨L1,0,none⟩ (.slice (some ⟨g',0,none⟩) (LL.length+1) cap')) (w.heap.size+1) 74 (.func (.func q) #[] #[]):=n6 _ _ _ hf (by omega) (by decide)
     have HRel:=Lib.hid (And.intro n2 (And.intro n3 (And.intro hfx (And.intro (hb.trans n5.below) (And.intro (hko.trans n4) (hkc.trans n5))))))
     have hz3:=n5.below.size
     clear n2 n3 n4 n5 n6 hfx hf hb hko hkc hfg n1
     gi_wp2
     go_roundw
     case rel =>
      refine ⟨k+1,by omega,by go_num,?_,HRel.out.2.1,HRel.out.2.2.1,HRel.out.2.2.2.1,?_,HRel.out.2.2.2.2.1,HRel.out.2.2.2.2.2⟩
      ·rw [HLL.out];exact HRel.out.1
      ·simp at hz3 ⊢;omega
     case measure => simp [intOf];omega
   ·obtain rfl:k=gn:=by omega
    have HE:Hid (WBox w.heap.size L1 (fun _ => True) (L ++ G.filter wdB) wr):=Lib.hid (by
     rw [List.take_of_length_le (by rw [HGn.out];exact Nat.le_refl _)] at hw
     obtain ⟨v,h1,h2,_⟩:=hw
     exact ⟨v,h1,h2,fun _ _ => trivial⟩)
    have HR:=Lib.hid (And.intro hf (And.intro hb (And.intro hko hkc)))
    clear hw hfg hf hb hko hkc
    gi_wp2
    exact ⟨HR.out.2.2.1.from _,HR.out.2.2.2,by rw [HSN.out];exact HE.out,HR.out.1,HR.out.2.1,by omega⟩
 case done =>
  rintro D xs W hD hS ⟨⟨v,h1,h2,_⟩,hf,hbi,hZ0⟩ hK
  rw [hS] at h2
  change W.ownsRow w.heap.size 9 1 v (wds g c).length ((wds g c).flatMap sC) at h2
  have hlw:=wdsL_len g hg c.nodes
  change (wds g c).length≤_ at hlw
  rw [flat_st,show (wds g c).length=((wds g c).map bl).length from (List.length_map _).symm] at h2
  have HS:=Lib.hid (sortS_any w.heap.size _ v W h2 (by rw [List.length_map];omega))
  have hc1:=h1.cell
  have HW:Hid (∀ w5,w5.ownsRow w.heap.size 9 1 v ((wds g c).map bl).length ((((wds g c).map bl).mergeSort fun x y => decide (x≤y)).map encStr)→W.grownBy w5 v.ownBlock→w5.cell? ⟨L1,0,none⟩=some v∧Below w.heap.size w w5∧w5.heap[D]? = some (.deferred (some []))∧W.heap.size≤w5.heap.size):=Lib.hid fun w5 ho hgr =>
   ⟨(h1.kept hgr (h1.not_row (by decide) h2)).cell,hbi.grown hgr hbi.size (fun k e => (h2.lt k e).1),(hgr.block D (Array.getElem?_eq_some_iff.1 hK).1 (fun e => by
    rcases h2.2 with ⟨rfl,_⟩ | ⟨gg,cap,cur,rfl,_,hgb,_⟩
    ·cases e
    ·obtain rfl:gg=D:=by simpa [Value.ownBlock] using e.symm
     rw [hgb] at hK;cases hK)).trans hK,hgr.size⟩
  have HL:Hid ((((wds g c).map bl).mergeSort fun x y => decide (x≤y)).length=((wds g c).map bl).length∧((wds g c).map bl).length≤4000000):=Lib.hid ⟨List.length_mergeSort _,by rw [List.length_map];omega⟩
  have HC:Hid (cmpct (((wds g c).map bl).mergeSort fun x y => decide (x≤y))=wordsOf (wds g c)):=Lib.hid rfl
  generalize ((wds g c).map bl).length=ln at HS HW HL
  generalize ((wds g c).map bl).mergeSort (fun x y => decide (x≤y))=SL at HS HW HL HC
  clear h1 h2 hf hbi hlw hnl
  gi_wp2_with (first
   | (refine ⟨trivial,?_⟩;gi_at_call 79;refine (callsIn_wide.2 HS.out).mono ?_;rintro e w5 ⟨rfl,ho5,hg5⟩;obtain ⟨hc5,hb5,hd5,hz5⟩:=HW.out w5 ho5 hg5;rw [← HL.out.1] at ho5;have HCo:=Lib.hid (compS_any w.heap.size SL v w5 ho5 (by have:=HL.out;omega)))
   | (refine ⟨trivial,?_⟩;gi_at_call 80;refine (callsIn_wide.2 HCo.out).mono ?_;rintro e w6 ⟨v6,rfl,ho6,hg6⟩))
  have hd6:w6.heap[D]? = some (.deferred (some [])):=(hg6.block D (Array.getElem?_eq_some_iff.1 hd5).1 (fun e => by
   rcases ho5.2 with ⟨rfl,_⟩ | ⟨gg,cap,cur,rfl,_,hgb,_⟩
   ·cases e
   ·obtain rfl:gg=D:=by simpa [Value.ownBlock] using e.symm
    rw [hgb] at hd5;cases hd5)).trans hd5
  have hb6:=hb5.grown hg6 hb5.size (fun k e => (ho5.lt k e).1)
  have hb7:=hb6.trans (belowK_b (w:=w) (Nat.le_refl _) w6 D (.deferred (some [])) (.deferred none) (by omega) hd6 rfl rfl)
  have ho7:=ownsRow_putObj ho6 (.deferred none) hd6 rfl
  rw [HC.out] at ho7
  refine ⟨by simp,.inl ⟨_,_,rfl,run_takeDeferred hd6,?_⟩⟩
  exact ⟨_,results_tmp2 rfl _ _ _,_,rfl,ho7,hb7⟩
 case stop =>
  rintro D c pre W _ _ h _
  exact h.elim
end Go.Proofs.YtcnpaciljmekcaaGreatDoor

namespace Go.Proofs.YtcnpaciljmekcaaGreatDoor
open Go.RowKit Go.Shelf
def gP (y:Con):List ByteArray:=[y.fr,y.rc]
def gC (y:Con):List ByteArray:=if y.k=2 then [y.nm] else []
theorem gP_len (y:Con):(gP y).length≤2:=Nat.le_refl _
theorem gC_len (y:Con):(gC y).length≤2:=by unfold gC;split <;> simp
theorem row_new {base n B:Nat} (w:World) (xs:List Value) (h:xs.length=n) (hn:n≤10) (hb:base≤B) (hB:w.heap.size=B):(w.alloc (.cells xs.toArray 9)).ownsRow base 9 1 (.slice (some ⟨B,0,none⟩) n n) n xs:=by
 subst hB
 exact   ⟨by simpa using h,.inr ⟨_,n,xs.toArray,rfl,hb,World.alloc_heap_new w _,Nat.le_refl _,by unfold maxLen;omega,by simp [h],by subst h;simp⟩⟩
set_option maxRecDepth 100000 in
theorem gP_any (y:Con) (es dd ss:Value) (W:World):Calls Tryz.prog 34 #[y.val es dd ss] W fun e W' => ∃ v,e = .returned v∧W'.ownsRow W.heap.size 9 1 v (gP y).length ((gP y).flatMap sC)∧Below W.heap.size W W':=by
 unfold Con.val
 go_enter Tryz.func34,Tryz.ntmps34
 go_wp2_with fail
 go_ret
 exact ⟨_,rfl,row_new (n:=2) (base:=W.heap.size) (B:=W.heap.size+1) (w:=W.alloc _) [.string y.fr,.string y.rc] rfl (by omega) (Nat.le_succ _) (by simp),below_a2 _ _ _⟩
set_option maxRecDepth 100000 in
theorem gC_any (y:Con) (es dd ss:Value) (W:World):Calls Tryz.prog 35 #[y.val es dd ss] W fun e W' => ∃ v,e = .returned v∧W'.ownsRow W.heap.size 9 1 v (gC y).length ((gC y).flatMap sC)∧Below W.heap.size W W':=by
 unfold Con.val
 have hk:gC y=if y.k=2 then [y.nm] else []:=rfl
 by_cases h:y.k=2
 ·rw [if_pos h] at hk
  rw [hk]
  have t:((y.k:Int) != 2)=false:=by rw [h];rfl
  clear h hk
  go_enter Tryz.func35,Tryz.ntmps35
  go_wp2_with fail
  go_ret
  exact ⟨_,rfl,row_new (n:=1) (base:=W.heap.size) (B:=W.heap.size+1) (w:=W.alloc _) [.string y.nm] rfl (by omega) (Nat.le_succ _) (by simp),below_a2 _ _ _⟩
 ·rw [if_neg h] at hk
  rw [hk]
  have t:((y.k:Int) != 2)=true:=by rw [bne_iff_ne];omega
  clear h hk
  go_enter Tryz.func35,Tryz.ntmps35
  go_wp2_with fail
  go_ret
  exact ⟨_,rfl,World.ownsRow_nil _ _ _ _,below_a1 _ _⟩
set_option maxHeartbeats 1000000 in
set_option maxRecDepth 100000 in
theorem parties_any (c:Con) (es dd ss:Value) (w:World) (hB:c.bulk≤2000000) (hr:RdN w c es dd ss) (hS:LookS w) (hP:LookP w) (hE:c.err=0) :
  Calls Tryz.prog 10 #[c.val es dd ss] w fun e w' => ∃ v,e = .returned (.tuple #[v,.int .i64 0]) ∧
   w'.ownsRow w.heap.size 9 1 v (wordsOf (wds gP c)).length ((wordsOf (wds gP c)).map encStr)∧Below w.heap.size w w':=by
 obtain ⟨a1,n1,rfl⟩:=hr.1.len
 obtain ⟨a2,n2,rfl⟩:=hr.2.1.len
 obtain ⟨a3,n3,rfl⟩:=hr.2.2.1.len
 have hb:=below_a1 w (.cells #[.int .u8 c.k,.string c.fr,.string c.rc,.string c.nm,.int .u8 c.ex.k,.string c.ex.ra,.string c.ex.nm,.int .i64 c.ex.d,.slice a1 c.ex.sub.length n1,.int .i64 c.d,.slice a2 c.ds.length n2,.slice a3 c.sub.length n3] 29)
 have HW:=Lib.hid (words_any 34 gP (enters_of Tryz.func34 (by kernel_rfl) rfl) gP_len c _ _ _ (w.alloc (.cells #[.int .u8 c.k,.string c.fr,.string c.rc,.string c.nm,.int .u8 c.ex.k,.string c.ex.ra,.string c.ex.nm,.int .i64 c.ex.d,.slice a1 c.ex.sub.length n1,.int .i64 c.d,.slice a2 c.ds.length n2,.slice a3 c.sub.length n3] 29)) hB (hr.frame hb) (hS.frame hb) (hP.frame hb) hE fun y es dd ss W _ _ => gP_any y es dd ss W)
 have Hb:=Lib.hid hb
 clear hr hS hP hE hb
 unfold Con.val at HW ⊢
 go_enter Tryz.func10,Tryz.ntmps10
 go_wp2_with (go_at_call 33;refine HW.out.mono ?_;rintro e w1 ⟨v,rfl,h1,h2⟩)
 go_ret2
 exact ⟨v,rfl,ownsRow_base' h1 (by simp),Hb.out.trans (h2.mono (by simp))⟩
set_option maxHeartbeats 1000000 in
set_option maxRecDepth 100000 in
theorem currencies_any (c:Con) (es dd ss:Value) (w:World) (hB:c.bulk≤2000000) (hr:RdN w c es dd ss) (hS:LookS w) (hP:LookP w) (hE:c.err=0) :
  Calls Tryz.prog 11 #[c.val es dd ss] w fun e w' => ∃ v,e = .returned (.tuple #[v,.int .i64 0]) ∧
   w'.ownsRow w.heap.size 9 1 v (wordsOf (wds gC c)).length ((wordsOf (wds gC c)).map encStr)∧Below w.heap.size w w':=by
 obtain ⟨a1,n1,rfl⟩:=hr.1.len
 obtain ⟨a2,n2,rfl⟩:=hr.2.1.len
 obtain ⟨a3,n3,rfl⟩:=hr.2.2.1.len
 have hb:=below_a1 w (.cells #[.int .u8 c.k,.string c.fr,.string c.rc,.string c.nm,.int .u8 c.ex.k,.string c.ex.ra,.string c.ex.nm,.int .i64 c.ex.d,.slice a1 c.ex.sub.length n1,.int .i64 c.d,.slice a2 c.ds.length n2,.slice a3 c.sub.length n3] 29)
 have HW:=Lib.hid (words_any 35 gC (enters_of Tryz.func35 (by kernel_rfl) rfl) gC_len c _ _ _ (w.alloc (.cells #[.int .u8 c.k,.string c.fr,.string c.rc,.string c.nm,.int .u8 c.ex.k,.string c.ex.ra,.string c.ex.nm,.int .i64 c.ex.d,.slice a1 c.ex.sub.length n1,.int .i64 c.d,.slice a2 c.ds.length n2,.slice a3 c.sub.length n3] 29)) hB (hr.frame hb) (hS.frame hb) (hP.frame hb) hE fun y es dd ss W _ _ => gC_any y es dd ss W)
 have Hb:=Lib.hid hb
 clear hr hS hP hE hb
 unfold Con.val at HW ⊢
 go_enter Tryz.func11,Tryz.ntmps11
 go_wp2_with (go_at_call 33;refine HW.out.mono ?_;rintro e w1 ⟨v,rfl,h1,h2⟩)
 go_ret2
 exact ⟨v,rfl,ownsRow_base' h1 (by simp),Hb.out.trans (h2.mono (by simp))⟩
end Go.Proofs.YtcnpaciljmekcaaGreatDoor

namespace Go.Proofs.YtcnpaciljmekcaaGreatDoor
open Go.RowKit
theorem envErr_zero {F:List Fx} {C:List Ch} (h:envErr F C=0) : ¬ (1000 < F.length∨1000 < C.length)∧F.any fxBad=false∧C.any chBad=false∧incB Fx.lt F=true∧incB Ch.lt C=true:=by
 unfold envErr at h
 split at h
 ·cases h
 ·next h1 =>
  split at h
  ·cases h
  ·next h2 => exact ⟨h1,by simpa [not_or,Bool.not_eq_true] using h2⟩
end Go.Proofs.YtcnpaciljmekcaaGreatDoor

namespace Go.Proofs.YtcnpaciljmekcaaGreatDoor
open Go.RowKit
theorem nodes_ok {c:Con} (h:c.err=0):c.size≤500∧∀ x ∈ c.nodes,nodeOk x=true:=by
 obtain ⟨h1,h2⟩:=err_formed h
 rw [Con.formed_nodes,List.all_eq_true] at h2
 exact ⟨by omega,h2⟩
theorem nszs_ge (l:List Con):l.length≤nszs l:=by
 induction l with
 | nil => simp [nszs]
 | cons x l ih =>
  simp only [nszs,List.map_cons,List.sum_cons,List.length_cons] at ih ⊢
  have:1≤x.nsz:=by unfold Con.nsz;omega
  omega
theorem nodes_few {c:Con} (h:c.err=0):c.nodes.length≤500:=by
 have h1:=(nodes_ok h).1
 rw [Con.size_nodes] at h1
 exact Nat.le_trans (nszs_ge _) h1
theorem node_who {x:Con} (h:nodeOk x=true):(x.fr.size=0∨isNm (bl x.fr)=true)∧(x.rc.size=0∨isNm (bl x.rc)=true):=by
 unfold nodeOk at h
 repeat' split at h
 all_goals simp only [Bool.and_eq_true,decide_eq_true_eq] at h
 all_goals first
  | exact ⟨.inl h.2.1,.inl h.2.2.1⟩
  | exact ⟨.inr h.2.1,.inr h.2.2.1⟩
  | exact ⟨.inr h.2.1,.inl h.2.2.1⟩
  | cases h
theorem node_pay {x:Con} (h:nodeOk x=true) (k:x.k=2):isNm (bl x.fr)=true∧isNm (bl x.rc)=true∧x.fr ≠ x.rc∧isNm (bl x.nm)=true:=by
 unfold nodeOk at h
 rw [if_neg (by omega),if_pos k] at h
 simp only [Bool.and_eq_true,Bool.not_eq_true',decide_eq_false_iff_not] at h
 exact ⟨h.2.1,h.2.2.1,h.2.2.2.1,h.2.2.2.2.1⟩
theorem nm_ne {s:ByteArray} (h:isNm (bl s)=true):s.size ≠ 0:=by
 unfold isNm at h
 simp only [Bool.and_eq_true,decide_eq_true_eq] at h
 have h1:=h.1
 unfold bl at h1
 rw [show s.size=s.data.toList.length from (Array.length_toList ..).symm]
 omega
theorem wds_mem {g:Con→List ByteArray} {c:Con} {s:ByteArray}:s ∈ wds g c ↔ (∃ x ∈ c.nodes,s ∈ g x)∧s.size ≠ 0:=by
 unfold wds wdsL wdB
 rw [List.mem_filter,List.mem_flatMap,decide_eq_true_eq]
theorem parties_nm {c:Con} (h:c.err=0):∀ p ∈ wds gP c,isNm (bl p)=true:=fun p hp => by
 obtain ⟨⟨x,hx,hm⟩,hz⟩:=wds_mem.1 hp
 have hw:=node_who ((nodes_ok h).2 x hx)
 unfold gP at hm
 rcases List.mem_cons.1 hm with rfl | hm
 ·exact hw.1.resolve_left hz
 ·obtain rfl:=List.mem_singleton.1 hm
  exact hw.2.resolve_left hz
theorem moneys_nm {c:Con} (h:c.err=0):∀ p ∈ wds gC c,isNm (bl p)=true:=fun p hp => by
 obtain ⟨⟨x,hx,hm⟩,hz⟩:=wds_mem.1 hp
 unfold gC at hm
 split at hm
 ·next k =>
  obtain rfl:=List.mem_singleton.1 hm
  exact (node_pay ((nodes_ok h).2 x hx) k).2.2.2
 ·cases hm
theorem posA_is {a:ByteArray} (h:posA a):ratErr a=0∧bl a ≠ [48]∧isNeg (bl a)=false:=by
 obtain ⟨h1,h2⟩:=h
 obtain ⟨sg,N,D,rfl,hN,hD,h0,hg,hsg⟩:=rat_is h1
 rw [(rat_txt sg hN hD h0 hg).2.1] at h2
 have hz:N ≠ 0:=by
  rintro rfl
  cases sg <;> simp [sgnv] at h2
 have hs:sg=false:=by
  cases sg
  ·rfl
  ·simp [sgnv] at h2;omega
 subst hs
 exact ⟨h1,by rw [bl_mkB];exact fun e => hz ((ratTxt_nil false h0).1 e),by rw [bl_mkB,ratTxt_neg false h0];rfl⟩
theorem bal_fin {c:Con} {day:Int} {F:List Fx} {C:List Ch} (h:(befR c day 100000 F C).1=0) :
  c.err=0∧flowsErr (befR c day 100000 F C).2=0∧(befR c day 100000 F C).2.length≤c.pays ∧
  ∀ f ∈ (befR c day 100000 F C).2,day≤f.d∧f.fr ∈ wds gP c∧f.rc ∈ wds gP c∧f.cy ∈ wds gC c∧f.fr ≠ f.rc:=by
 have hs:=befR_srt c day 100000 F C
 by_cases hc:c.err=0
 case neg => unfold befR at h;rw [if_pos hc] at h;exact absurd h hc
 rw [befR_ok hc] at h hs ⊢
 by_cases he:envErr F C=0
 case neg => rw [if_pos he] at h;exact absurd h he
 simp only [if_neg (show ¬ (envErr F C ≠ 0) from fun k => k he)] at h hs ⊢
 by_cases hd:day < 0∨99999 < day∨(100000:Int) < 0∨(100000:Int) < 100000
 ·rw [if_pos hd] at h;exact absurd h (by show ¬ ((2:Int)=0);decide)
 rw [if_neg hd] at h hs ⊢
 obtain ⟨h1,e1⟩:=andR_ok h
 rw [e1] at hs ⊢
 have hf:=(err_formed hc).2
 have hF:∀ f ∈ F,ratErr f.vl=0:=fun f hm => by
  have:=(envErr_zero he).2.1
  rw [List.any_eq_false] at this
  have:=this f hm
  unfold fxBad at this
  simp only [Bool.not_eq_true',Bool.not_eq_false,Bool.and_eq_true,decide_eq_true_eq] at this
  exact this.2.2
 obtain ⟨hp,hl⟩:=flows_pays F C c.bulk c (Nat.le_refl _) hf day 100000
 have hi:=flows_in F C c.bulk c (Nat.le_refl _) hf day 100000
 have ha:=flows_posA (C:=C) hF c.bulk c (Nat.le_refl _) hf day 100000
 generalize (c.flows F C day 100000).2=l at hs hp hl hi ha ⊢
 have hno:=nodes_ok hc
 have hgood:∀ f ∈ srtFl l,flGood f∧day≤f.d∧f.fr ∈ wds gP c∧f.rc ∈ wds gP c∧f.cy ∈ wds gC c∧f.fr ≠ f.rc:=fun f hm => by
  rw [srtFl_mem] at hm
  obtain ⟨n,hn,hk,hw,hcy⟩:=hp f hm
  obtain ⟨q1,q2,q3,q4⟩:=node_pay (hno.2 n hn) hk
  obtain ⟨a1,a2,a3⟩:=posA_is (ha f hm)
  have hday:=hi f hm
  have hdd:isDay f.d=true:=by unfold isDay;simp;omega
  have hM:f.cy ∈ wds gC c:=wds_mem.2 ⟨⟨n,hn,by unfold gC;rw [if_pos hk,hcy];exact List.mem_singleton.2 rfl⟩,by rw [hcy];exact nm_ne q4⟩
  have hP1:n.fr ∈ wds gP c:=wds_mem.2 ⟨⟨n,hn,by unfold gP;simp⟩,nm_ne q1⟩
  have hP2:n.rc ∈ wds gP c:=wds_mem.2 ⟨⟨n,hn,by unfold gP;simp⟩,nm_ne q2⟩
  rcases hw with ⟨e1,e2⟩ | ⟨e1,e2⟩
  ·exact ⟨⟨by rw [e1];exact q1,by rw [e2];exact q2,by rw [hcy];exact q4,by rw [e1,e2];exact q3,a1,a2,a3,hdd⟩,hday.1,by rw [e1];exact hP1,by rw [e2];exact hP2,hM,by rw [e1,e2];exact q3⟩
  ·exact ⟨⟨by rw [e1];exact q2,by rw [e2];exact q1,by rw [hcy];exact q4,by rw [e1,e2];exact q3.symm,a1,a2,a3,hdd⟩,hday.1,by rw [e1];exact hP2,by rw [e2];exact hP1,hM,by rw [e1,e2];exact q3.symm⟩
 have hlen:(srtFl l).length≤c.pays:=by rw [srtFl_len];exact hl
 have hpl:c.pays≤500:=Nat.le_trans (List.length_filter_le ..) (nodes_few hc)
 refine ⟨hc,?_,hlen,fun f hm => (hgood f hm).2⟩
 have h5 : ¬ 5000 < (srtFl l).length:=by omega
 show flowsErr (srtFl l)=0
 unfold flowsErr
 rw [if_neg h5,eqB_true (p:=okP (srtFl l)) (fun j f hj => ⟨(hgood f (List.mem_of_getElem? hj)).1,fun i g hij hg => by
  have h1:=List.pairwise_iff_getElem.1 hs i j (List.getElem?_eq_some_iff.1 hg).1 (List.getElem?_eq_some_iff.1 hj).1 (by omega)
  rw [(List.getElem?_eq_some_iff.1 hg).2,(List.getElem?_eq_some_iff.1 hj).2] at h1
  exact h1⟩)]
 rfl
theorem netAcc_two (p c:ByteArray) (l:List Fl) (hl:∀ f ∈ l,ratErr f.am=0):∀ k,k≤l.length→((netAcc p c l k).2=0∧ratErr (netAcc p c l k).1=0)∨(netAcc p c l k).2=14
 | 0,_ => .inl ⟨rfl,by show ratErr ⟨#[48]⟩=0;decide⟩
 | k+1,hk => by
  have hg:l[k]? = some l[k]:=List.getElem?_eq_getElem (by omega)
  have ha:=hl l[k] (List.getElem_mem _)
  rw [netAcc_succ p c hg]
  unfold netStep
  rcases netAcc_two p c l hl k (by omega) with ⟨h0,hr⟩ | h0
  ·have key:∀ z,(sumE (netAcc p c l k).1 l[k].am z=0∧ratErr (mkB (sumS (netAcc p c l k).1 l[k].am z))=0)∨sumE (netAcc p c l k).1 l[k].am z=14:=fun z => by
    by_cases h:sumE (netAcc p c l k).1 l[k].am z=0
    ·exact .inl ⟨h,sumS_rat h⟩
    ·refine .inr ?_
     unfold sumE at h ⊢
     rw [if_neg (fun k => k (by rw [bE,if_pos hr];exact ha))] at h ⊢
     split
     ·rfl
     ·next h2 => rw [if_neg h2] at h;exact absurd rfl h
   rw [if_neg (fun k => k h0)]
   split
   ·exact .inl ⟨h0,hr⟩
   ·split
    ·exact key _
    ·split
     ·exact key _
     ·exact .inl ⟨h0,hr⟩
  ·rw [if_pos (by rw [h0];decide)];exact .inr h0
theorem net_two {p c:ByteArray} {l:List Fl} (h:flowsErr l=0) (hp:isNm (bl p)=true) (hc:isNm (bl c)=true):netE p c l=(netAcc p c l l.length).2∧netS p c l=(netAcc p c l l.length).1∧(((netAcc p c l l.length).2=0∧ratErr (netAcc p c l l.length).1=0)∨(netAcc p c l l.length).2=14):=by
 obtain ⟨e1,e2⟩:=netE_ok (p:=p) (c:=c) h (by rw [hp,hc];rfl)
 exact ⟨e1,e2,netAcc_two p c l (fun f hm => by
  obtain ⟨j,hj,e⟩:=List.mem_iff_getElem.1 hm
  exact ((okP_of_err h) j f (by rw [List.getElem?_eq_getElem hj,e])).1.2.2.2.2.1) l.length (Nat.le_refl _)⟩
end Go.Proofs.YtcnpaciljmekcaaGreatDoor
