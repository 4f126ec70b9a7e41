/-
  What a party nets.  Printed by tools/gennet.py. meaning.Net.  Printed by tools/gennet.py. Law 10, MeaningNames: what its last calls answer.  Printed by tools/gennmr.py.
-/
import Derived.Test.YtknpnhodpgajbaaGreatDoorE33
import Derived.Test.YtknpnhodpgajbaaGreatDoorE12
import Derived.Test.YtknpnhodpgajbaaGreatDoorE14
import Derived.Test.YtknpnhodpgajbaaGreatDoorE15
import Derived.Test.YtknpnhodpgajbaaGreatDoorE02
import Derived.Test.YtknpnhodpgajbaaGreatDoorE34
import Derived.Test.YtknpnhodpgajbaaGreatDoorE32
import Derived.Laws.MakeOwn
namespace Go.Proofs.YtknpnhodpgajbaaGreatDoor
open Go.RowKit
def netStep (p c:ByteArray) (st:ByteArray × Int) (f:Fl):ByteArray × Int :=
 if st.2 ≠ 0 then st else if f.cy ≠ c then st else if f.rc=p then (mkB (sumS st.1 f.am (addZ st.1 f.am)),sumE st.1 f.am (addZ st.1 f.am))
 else if f.fr=p then (mkB (sumS st.1 f.am (subZ st.1 f.am)),sumE st.1 f.am (subZ st.1 f.am)) else st
def netAcc (p c:ByteArray) (l:List Fl) (k:Nat):ByteArray × Int:=(l.take k).foldl (netStep p c) (⟨#[48]⟩,0)
theorem netAcc_succ (p c:ByteArray) {l:List Fl} {k:Nat} {f:Fl} (h:l[k]? = some f):netAcc p c l (k+1)=netStep p c (netAcc p c l k) f:=by
 rw [netAcc,take_snoc_get h,List.foldl_append];rfl
theorem netFold_err (p c:ByteArray) (st:ByteArray × Int) (h:st.2 ≠ 0):∀ m:List Fl,m.foldl (netStep p c) st=st
 | [] => rfl
 | f :: m => by rw [List.foldl_cons,netStep,if_pos h];exact netFold_err p c st h m
theorem netAcc_err {p c:ByteArray} {l:List Fl} {k:Nat} (h:(netAcc p c l k).2 ≠ 0):netAcc p c l l.length=netAcc p c l k:=by
 have e:l.take l.length=l.take k ++ l.drop k:=by rw [List.take_of_length_le (Nat.le_refl _),List.take_append_drop]
 rw [netAcc,e,List.foldl_append]
 exact netFold_err p c _ h _
theorem netStep_size (p c:ByteArray) (st:ByteArray × Int) (f:Fl) (h:st.1.size≤2010):(netStep p c st f).1.size≤2010:=by
 unfold netStep
 split
 ·exact h
 ·split
  ·exact h
  ·split
   ·show (mkB _).size≤_;rw [mkB_size];exact sumS_len _ _ _
   ·split
    ·show (mkB _).size≤_;rw [mkB_size];exact sumS_len _ _ _
    ·exact h
theorem netAcc_size (p c:ByteArray) (l:List Fl):∀ k,(netAcc p c l k).1.size≤2010
 | 0 => by show 1≤2010;omega
 | k+1 => by
  by_cases hk:k < l.length
  ·rw [netAcc_succ p c (List.getElem?_eq_getElem hk)]
   exact netStep_size p c _ _ (netAcc_size p c l k)
  ·have e:netAcc p c l (k+1)=netAcc p c l k:=by rw [netAcc,netAcc,List.take_of_length_le (by omega),List.take_of_length_le (by omega)]
   rw [e];exact netAcc_size p c l k
noncomputable def netE (p c:ByteArray) (l:List Fl):Int:=if flowsErr l ≠ 0 then flowsErr l else if isNm (bl p) && isNm (bl c) then (netAcc p c l l.length).2 else 2
noncomputable def netS (p c:ByteArray) (l:List Fl):ByteArray:=if flowsErr l ≠ 0 then ⟨#[]⟩ else if isNm (bl p) && isNm (bl c) then (netAcc p c l l.length).1 else ⟨#[]⟩
theorem netE_bad {p c:ByteArray} {l:List Fl} (h:flowsErr l ≠ 0):netE p c l=flowsErr l∧netS p c l=⟨#[]⟩:=by rw [netE,netS,if_pos h,if_pos h];exact ⟨rfl,rfl⟩
theorem netE_arg {p c:ByteArray} {l:List Fl} (h:flowsErr l=0) (hn:(isNm (bl p) && isNm (bl c))=false):netE p c l=2∧netS p c l=⟨#[]⟩:=by
 have h' : ¬ flowsErr l ≠ 0:=fun k => k h
 unfold netE netS
 rw [if_neg h',if_neg h',hn];exact ⟨rfl,rfl⟩
theorem netE_ok {p c:ByteArray} {l:List Fl} (h:flowsErr l=0) (hn:(isNm (bl p) && isNm (bl c))=true):netE p c l=(netAcc p c l l.length).2∧netS p c l=(netAcc p c l l.length).1:=by
 have h' : ¬ flowsErr l ≠ 0:=fun k => k h
 unfold netE netS
 rw [if_neg h',if_neg h',hn];exact ⟨rfl,rfl⟩
theorem okP_of_err {l:List Fl} (h:flowsErr l=0):okP l:=by
 unfold flowsErr at h
 split at h
 ·cases h
 ·rcases Classical.em (okP l) with k | k
  ·exact k
  ·rw [eqB_false k] at h;cases h
end Go.Proofs.YtknpnhodpgajbaaGreatDoor

namespace Go.Proofs.YtknpnhodpgajbaaGreatDoor
open Go.RowKit
def netPost (w:World) (p c:ByteArray) (l:List Fl) (e:Ending) (w':World):Prop:=e = .returned (.tuple #[.string (netS p c l),.int .i64 (netE p c l)])∧Below w.heap.size w w'
set_option maxHeartbeats 4000000 in
set_option maxRecDepth 100000 in
theorem net_any (l:List Fl) (p c:ByteArray) (ad:Option Addr) (cap:Nat) (w:World) (hn:l.length≤1100000) (hr:Rd Fl.cells 5 w ad l) (hs:∀ f ∈ l,f.small) (hp:p.size≤1100000) (hc:c.size≤1100000) (ham:∀ f ∈ l,f.am.size≤900000) :
  Calls Tryz.prog 35 #[.slice ad l.length cap,.string p,.string c] w (netPost w p c l):=by
 have HCk:=Lib.hid (fun W (hW:Below w.heap.size w W) => chkFl_any l ad cap W hn (hr.below hW) hs)
 have HNm:=Lib.hid (fun W (s:ByteArray) (h:s.size≤1100000) => name_any s W (by omega))
 have HR:=Lib.hid hr
 have HS:=Lib.hid hs
 have HAm:=Lib.hid ham
 clear hr hs ham
 by_cases he:flowsErr l=0
 ·have HOk:=Lib.hid (okP_of_err he)
  rw [he] at HCk
  cases h1:isNm (bl p)
  ·have HE:=Lib.hid (netE_arg (p:=p) (c:=c) he (by rw [h1];rfl))
   clear he
   go_enter Tryz.func35,Tryz.ntmps35
   go_wp2_with fail
   refine (HCk.out _ (Below.refl _ _)).mono ?_
   rintro e w1 ⟨rfl,hb1⟩
   go_wp2_with (first | (go_at_call 67;refine (HNm.out _ _ ?_).mono ?_;(assumption);rintro e w' ⟨rfl,rfl⟩))
   go_ret2
   exact ⟨by rw [HE.out.1,HE.out.2];rfl,hb1⟩
  cases h2:isNm (bl c)
  ·have HE:=Lib.hid (netE_arg (p:=p) (c:=c) he (by rw [h2];simp))
   clear he
   go_enter Tryz.func35,Tryz.ntmps35
   go_wp2_with fail
   refine (HCk.out _ (Below.refl _ _)).mono ?_
   rintro e w1 ⟨rfl,hb1⟩
   go_wp2_with (first | (go_at_call 67;refine (HNm.out _ _ ?_).mono ?_;(assumption);rintro e w' ⟨rfl,rfl⟩))
   go_ret2
   exact ⟨by rw [HE.out.1,HE.out.2];rfl,hb1⟩
  have HE:=Lib.hid (netE_ok (p:=p) (c:=c) he (by rw [h1,h2];rfl))
  clear he
  go_enter Tryz.func35,Tryz.ntmps35
  go_wp2_with fail
  refine (HCk.out _ (Below.refl _ _)).mono ?_
  rintro e w1 ⟨rfl,hb1⟩
  go_wp2_with (first | (go_at_call 67;refine (HNm.out _ _ ?_).mono ?_;(assumption);rintro e w' ⟨rfl,rfl⟩))
  clear h1 h2
  go_loopw [9,10,28] (fun z y i wr => ∃ (k:Nat) (s:ByteArray),k≤l.length∧i = .int .i64 k∧z = .string s∧y = .int .i64 0∧Hid (netAcc p c l k=(s,0))∧Below w.heap.size w wr) (fun _ _ i _ => l.length - (intOf i).toNat)
  case atStart => exact ⟨0,_,Nat.zero_le _,rfl,rfl,rfl,rfl,hb1⟩
  case round =>
   clear hb1
   obtain ⟨k,s,hk,rfl,rfl,rfl,HI,hbel⟩:=hrel
   by_cases hlt:k < l.length
   ·obtain ⟨f,hf⟩:∃ f,l[k]? = some f:=⟨_,List.getElem?_eq_getElem hlt⟩
    obtain ⟨b,off,rfl,c0,c1,c2,c3,c4⟩:=(HR.out.below hbel).fl hf
    have ham:=HAm.out f (List.mem_of_getElem? hf)
    have hgood:=(HOk.out k f hf).1
    have HSt:Hid (netAcc p c l (k+1)=netStep p c (s,0) f):=by show _=_;rw [netAcc_succ p c hf,HI.out]
    have hs1:s.size≤2010:=by have:=netAcc_size p c l k;rw [HI.out] at this;exact this
    have hsz:=hbel.size
    have hblk:b < wr.heap.size:=World.block_lt_of_cell? wr _ c0
    have hk1:(0:Int)≤(k:Int):=by omega
    have hk2:(k:Int) < (l.length:Int):=by omega
    have HGd:=Lib.hid hgood
    clear hgood hf
    have HA:=Lib.hid (fun W => ratadd_any s f.am W (by omega) (by omega))
    have HS_:=Lib.hid (fun W => ratsub_any s f.am W (by omega) (by omega))
    have HBL:=Lib.hid (hbel.alloc hsz (.cells #[.int .i64 f.d,.string f.fr,.string f.rc,.string f.cy,.string f.am] 52))
    have hft:f.fr ≠ f.rc:=HGd.out.2.2.2.1
    unfold netStep at HSt
    have HSt2:Hid (netAcc p c l (k+1)=if f.cy ≠ c then (s,0) else if f.rc=p then (mkB (sumS s f.am (addZ s f.am)),sumE s f.am (addZ s f.am)) else if f.fr=p then (mkB (sumS s f.am (subZ s f.am)),sumE s f.am (subZ s f.am)) else (s,0)):=by
     have h:=HSt.out
     rw [if_neg (by simp)] at h
     exact h
    unfold RatPost2 at HA HS_
    change Hid (∀ W,Calls Tryz.prog 77 _ W fun e w' => ∃ t,e = .returned (.tuple #[.string t,.int .i64 (sumE s f.am (addZ s f.am))])∧bl t=sumS s f.am (addZ s f.am)∧Below W.heap.size W w') at HA
    change Hid (∀ W,Calls Tryz.prog 78 _ W fun e w' => ∃ t,e = .returned (.tuple #[.string t,.int .i64 (sumE s f.am (subZ s f.am))])∧bl t=sumS s f.am (subZ s f.am)∧Below W.heap.size W w') at HS_
    have HEa:=Lib.hid (fun h => sumS_err (a:=s) (b:=f.am) (z:=addZ s f.am) h)
    have HEs:=Lib.hid (fun h => sumS_err (a:=s) (b:=f.am) (z:=subZ s f.am) h)
    generalize sumS s f.am (addZ s f.am)=Sa at *
    generalize sumE s f.am (addZ s f.am)=Ea at *
    generalize sumS s f.am (subZ s f.am)=Ss at *
    generalize sumE s f.am (subZ s f.am)=Es at *
    clear HGd HSt
    generalize f.d=d at *
    generalize f.fr=fr at *
    generalize f.rc=rc at *
    generalize f.cy=cy at *
    generalize f.am=am at *
    by_cases hu1:cy=c
    ·have hu1b:=hu1
     have u1:(cy.toList == c.toList)=true:=by rw [hu1];simp
     have u1':(cy.toList != c.toList)=false:=by rw [hu1];simp
     by_cases hu2:rc=p
     ·have hu3:fr ≠ p:=fun e => hft (e.trans hu2.symm)
      have u2:(rc.toList == p.toList)=true:=by rw [hu2];simp
      have u2':(rc.toList != p.toList)=false:=by rw [hu2];simp
      have u3:(fr.toList == p.toList)=false:=by rw [toList_beq,decide_eq_false hu3]
      have u3':(fr.toList != p.toList)=true:=by rw [bne,toList_beq,decide_eq_false hu3];rfl
      have Hu:=Lib.hid (And.intro hu1 hu2)
      clear hu1 hu2 hu3 hu1b
      have HN:Hid (netAcc p c l (k+1)=(mkB Sa,Ea)):=by show _=_;rw [HSt2.out,if_neg (fun k => k Hu.out.1),if_pos Hu.out.2]
      clear HSt2 hft
      by_cases hE:Ea=0
      ·subst hE
       go_wp2_with (first | (go_at_call 77;refine (HA.out _).mono ?_;rintro e w4 ⟨t,rfl,ht,hb4⟩))
       have hbz:=HBL.out.trans (hb4.mono (by first | exact HBL.out.size | (have:=HBL.out.size;simpa using this)))
       have et:=mkB_bl ht
       go_roundw
       case rel => exact ⟨k+1,t,by omega,by go_num,rfl,rfl,by show _=_;rw [HN.out,et],hbz⟩
       case measure => simp [intOf];omega
      ·have te:(Ea != 0)=true:=by rw [bne_iff_ne];exact hE
       have HF:Hid (netE p c l=Ea∧netS p c l=⟨#[]⟩):=by
        have h:=netAcc_err (p:=p) (c:=c) (l:=l) (k:=k+1) (by rw [HN.out];exact hE)
        exact ⟨by rw [HE.out.1,h,HN.out],by rw [HE.out.2,h,HN.out,HEa.out hE];rfl⟩
       clear hE
       go_wp2_with (first | (go_at_call 77;refine (HA.out _).mono ?_;rintro e w4 ⟨t,rfl,ht,hb4⟩))
       have hbz:=HBL.out.trans (hb4.mono (by first | exact HBL.out.size | (have:=HBL.out.size;simpa using this)))
       go_ret2
       exact ⟨by rw [HF.out.1,HF.out.2];rfl,hbz⟩
     ·by_cases hu3:fr=p
      ·have hu2b:=hu2
       have u2:(rc.toList == p.toList)=false:=by rw [toList_beq,decide_eq_false hu2]
       have u2':(rc.toList != p.toList)=true:=by rw [bne,toList_beq,decide_eq_false hu2];rfl
       have u3:(fr.toList == p.toList)=true:=by rw [hu3];simp
       have u3':(fr.toList != p.toList)=false:=by rw [hu3];simp
       have Hu:=Lib.hid (And.intro hu1 (And.intro hu2 hu3))
       clear hu1 hu2 hu3 hu1b hu2b
       have HN:Hid (netAcc p c l (k+1)=(mkB Ss,Es)):=by show _=_;rw [HSt2.out,if_neg (fun k => k Hu.out.1),if_neg Hu.out.2.1,if_pos Hu.out.2.2]
       clear HSt2 hft
       by_cases hE:Es=0
       ·subst hE
        go_wp2_with (first | (go_at_call 78;refine (HS_.out _).mono ?_;rintro e w4 ⟨t,rfl,ht,hb4⟩))
        have hbz:=HBL.out.trans (hb4.mono (by first | exact HBL.out.size | (have:=HBL.out.size;simpa using this)))
        have et:=mkB_bl ht
        go_roundw
        case rel => exact ⟨k+1,t,by omega,by go_num,rfl,rfl,by show _=_;rw [HN.out,et],hbz⟩
        case measure => simp [intOf];omega
       ·have te:(Es != 0)=true:=by rw [bne_iff_ne];exact hE
        have HF:Hid (netE p c l=Es∧netS p c l=⟨#[]⟩):=by
         have h:=netAcc_err (p:=p) (c:=c) (l:=l) (k:=k+1) (by rw [HN.out];exact hE)
         exact ⟨by rw [HE.out.1,h,HN.out],by rw [HE.out.2,h,HN.out,HEs.out hE];rfl⟩
        clear hE
        go_wp2_with (first | (go_at_call 78;refine (HS_.out _).mono ?_;rintro e w4 ⟨t,rfl,ht,hb4⟩))
        have hbz:=HBL.out.trans (hb4.mono (by first | exact HBL.out.size | (have:=HBL.out.size;simpa using this)))
        go_ret2
        exact ⟨by rw [HF.out.1,HF.out.2];rfl,hbz⟩
      ·have hu2b:=hu2
       have u2:(rc.toList == p.toList)=false:=by rw [toList_beq,decide_eq_false hu2]
       have u2':(rc.toList != p.toList)=true:=by rw [bne,toList_beq,decide_eq_false hu2];rfl
       have u3:(fr.toList == p.toList)=false:=by rw [toList_beq,decide_eq_false hu3]
       have u3':(fr.toList != p.toList)=true:=by rw [bne,toList_beq,decide_eq_false hu3];rfl
       have Hu:=Lib.hid (And.intro hu1 (And.intro hu2 hu3))
       clear hu1 hu2 hu3 hu1b hu2b
       have HN:Hid (netAcc p c l (k+1)=(s,0)):=by show _=_;rw [HSt2.out,if_neg (fun k => k Hu.out.1),if_neg Hu.out.2.1,if_neg Hu.out.2.2]
       clear HSt2 hft
       go_wp2
       go_roundw
       case rel => exact ⟨k+1,s,by omega,by go_num,rfl,rfl,HN,HBL.out⟩
       case measure => simp [intOf];omega
    ·have hu1b:=hu1
     have u1:(cy.toList == c.toList)=false:=by rw [toList_beq,decide_eq_false hu1]
     have u1':(cy.toList != c.toList)=true:=by rw [bne,toList_beq,decide_eq_false hu1];rfl
     have Hu:=Lib.hid hu1
     clear hu1 hu1b
     have HN:Hid (netAcc p c l (k+1)=(s,0)):=by show _=_;rw [HSt2.out,if_pos Hu.out]
     clear HSt2 hft
     go_wp2
     go_roundw
     case rel => exact ⟨k+1,s,by omega,by go_num,rfl,rfl,HN,HBL.out⟩
     case measure => simp [intOf];omega
   ·obtain rfl:k=l.length:=by omega
    have HF:Hid (netE p c l=0∧netS p c l=s):=⟨by rw [HE.out.1,HI.out],by rw [HE.out.2,HI.out]⟩
    go_wp2
    go_ret2
    exact ⟨by rw [HF.out.1,HF.out.2];rfl,hbel⟩
 ·have HE:=Lib.hid (netE_bad (p:=p) (c:=c) he)
  generalize flowsErr l=er at *
  have te:(er != 0)=true:=by rw [bne_iff_ne];exact he
  clear he
  go_enter Tryz.func35,Tryz.ntmps35
  go_wp2_with fail
  refine (HCk.out _ (Below.refl _ _)).mono ?_
  rintro e w1 ⟨rfl,hb1⟩
  skip
  skip
  skip
  skip
  go_wp2
  go_ret2
  exact ⟨by rw [HE.out.1,HE.out.2];rfl,hb1⟩
end Go.Proofs.YtknpnhodpgajbaaGreatDoor

namespace Go.Proofs.YtknpnhodpgajbaaGreatDoor
open Go.RowKit
theorem mkC (w:World):(Instr.makeSlice 31 (.int .i64 1) (.int .i64 1)).run Tryz.prog w = .ok (.slice (some ⟨w.heap.size,0,none⟩) 1 1) (w.alloc (.cells #[.string ⟨#[]⟩,.string ⟨#[]⟩,.int .i64 0,.bool false] 67)):=by kernel_rfl
def Fct.vd:Fct:=⟨fun _ w v => ∃ B,v = .slice (some ⟨B,0,none⟩) 1 1∧∀ j u,(Ch.cells ⟨mE,mE,0,false⟩)[j]? = some u→w.cell? ⟨B,j,none⟩=some u,fun h hb => by
 obtain ⟨B,e,hc⟩:=h
 exact ⟨B,e,fun j d hj => cellB hb (hc j d hj)⟩,fun h _ => h⟩
def Fct.ve:Fct:=⟨fun _ w v => ∃ B,v = .agg #[.slice none 0 0,.slice (some ⟨B,0,none⟩) 1 1]∧∀ j u,(Ch.cells ⟨mE,mE,0,false⟩)[j]? = some u→w.cell? ⟨B,j,none⟩=some u,fun h hb => by
 obtain ⟨B,e,hc⟩:=h
 exact ⟨B,e,fun j d hj => cellB hb (hc j d hj)⟩,fun h _ => h⟩
theorem vd_new (w:World):Fct.p .vd none (w.alloc (.cells #[.string ⟨#[]⟩,.string ⟨#[]⟩,.int .i64 0,.bool false] 67)) (.slice (some ⟨w.heap.size,0,none⟩) 1 1) :=
 ⟨_,rfl,fun _ _ hj => cell_new w (Ch.cells ⟨mE,mE,0,false⟩) 67 hj⟩
section
variable {W:World} {K S1 S4 S9 B S10 S11:Nat} {dd ss v ve:Value} {c:Con}
theorem fv (hT:NmT W K S1 S4 S9 B S10 S11 dd ss) (h:HeldO none W v c) (hB:c.bulk≤1100000) (hL:befR c (-1) 100000 [] chVoid=(8,[])) (hz:Fct.p .ve none W ve) :
  Calls Tryz.prog 12 #[v,.int .i64 (-1),ve] W fun e w2 => ∃ ad cap,e = .returned (.tuple #[.slice ad 0 cap,.int .i64 8])∧Below W.heap.size W w2:=by
 obtain ⟨B,rfl,hc⟩:=hz
 exact flw_void hT.s.k h hB hL hc
theorem fv17 (hT:NmT W K S1 S4 S9 B S10 S11 dd ss) :
  Calls Tryz.prog 12 #[.agg #[.int .u8 0,.string ⟨#[]⟩,.string ⟨#[]⟩,.string ⟨#[]⟩,.int .u8 0,.string ⟨#[]⟩,.string ⟨#[]⟩,.int .i64 0,.slice none 0 0,.int .i64 0,.slice none 0 0,.slice none 0 0],.int .i64 (-1),.agg #[.slice none 0 0,.slice (some ⟨W.heap.size,0,none⟩) 1 1]] (W.alloc (.cells #[.string ⟨#[]⟩,.string ⟨#[]⟩,.int .i64 0,.bool false] 67)) fun e w2 => ∃ ad cap,e = .returned (.tuple #[.slice ad 0 cap,.int .i64 8])∧Below W.heap.size W w2:=by
 have hb:=below_a1 W (.cells #[.string ⟨#[]⟩,.string ⟨#[]⟩,.int .i64 0,.bool false] 67)
 refine (fv (hT.frame hb) (flatV none _) (by decide) v_void ⟨_,rfl,fun _ _ hj => cell_new W (Ch.cells ⟨mE,mE,0,false⟩) 67 hj⟩).mono ?_
 rintro e w2 ⟨ad,cap,rfl,hb2⟩
 exact ⟨ad,cap,rfl,hb.trans (hb2.mono hb.size)⟩
theorem qf (day er:Int) (n:Nat) {L:List Fl} (hT:NmT W K S1 S4 S9 B S10 S11 dd ss) (h:HeldO none W v c) (hB:c.bulk≤1100000) (hL:befR c day 100000 fKnown chN=(er,L)) (hn:L.length=n) :
  Calls Tryz.prog 12 #[v,.int .i64 day,.agg #[.slice (some ⟨K,0,none⟩) 2 2,.slice (some ⟨S1+1,0,none⟩) 2 2]] W fun e w2 => ∃ ad cap,e = .returned (.tuple #[.slice ad n cap,.int .i64 er])∧Below W.heap.size W w2:=by
 have q:=flw_lit hT.s.env h hB hL hn
 rwa [ev_eq] at q
end
def fs18:List Fct:=[.lit (.agg #[.int .u8 2,.string ⟨#[65,110,110]⟩,.string ⟨#[66,111,98]⟩,.string ⟨#[85,83,68]⟩,.int .u8 1,.string ⟨#[49]⟩,.string ⟨#[]⟩,.int .i64 0,.slice none 0 0,.int .i64 0,.slice none 0 0,.slice none 0 0]),.vd,.ve,.tup 0 8,.tup 0 8,.sl 0,.lit (.int .i64 8),.sl 0,.lit (.int .i64 8)]
def flZ:Fl:=⟨0,mE,mE,mE,mE⟩
set_option maxRecDepth 100000 in
theorem mkF (w:World):(Instr.makeSlice 37 (.int .i64 5001) (.int .i64 5001)).run Tryz.prog w = .ok (.slice (some ⟨w.heap.size,0,none⟩) 5001 5001) (w.alloc (.cells (madeCells #[.int .i64 0,.string ⟨#[]⟩,.string ⟨#[]⟩,.string ⟨#[]⟩,.string ⟨#[]⟩] 25005) 52)) :=
 by kernel_rfl
theorem made_get (i j:Nat) (u:Value) (hj:j < 5001) (hu:flZ.cells[i]? = some u):(madeCells #[.int .i64 0,.string ⟨#[]⟩,.string ⟨#[]⟩,.string ⟨#[]⟩,.string ⟨#[]⟩] 25005).toList[j * 5+i]? = some u:=by
 have hi:i < 5:=(List.getElem?_eq_some_iff.1 hu).1
 have h1:(j * 5+i) % 5=i:=by omega
 have h2:j * 5+i < 25005:=by omega
 simp only [madeCells,Array.getElem?_toList,Array.getElem?_map,Array.getElem?_range,h2,if_true,Option.map_some]
 show some (#[.int .i64 0,.string ⟨#[]⟩,.string ⟨#[]⟩,.string ⟨#[]⟩,.string ⟨#[]⟩][(j * 5+i) % 5]!)=some u
 rw [h1,← hu]
 match i,hi with
 | 0,_ => rfl
 | 1,_ => rfl
 | 2,_ => rfl
 | 3,_ => rfl
 | 4,_ => rfl
theorem net_many (w:World):Calls Tryz.prog 35 #[.slice (some ⟨w.heap.size,0,none⟩) 5001 5001,.string ⟨#[65]⟩,.string ⟨#[66]⟩] (w.alloc (.cells (madeCells #[.int .i64 0,.string ⟨#[]⟩,.string ⟨#[]⟩,.string ⟨#[]⟩,.string ⟨#[]⟩] 25005) 52)) fun e w' => e = .returned (.tuple #[.string ⟨#[]⟩,.int .i64 4])∧Below w.heap.size w w':=by
 have hb:=below_a1 w (.cells (madeCells #[.int .i64 0,.string ⟨#[]⟩,.string ⟨#[]⟩,.string ⟨#[]⟩,.string ⟨#[]⟩] 25005) 52)
 have hl:(List.replicate 5001 flZ).length=5001:=List.length_replicate
 have he:flowsErr (List.replicate 5001 flZ)=4:=by rw [flowsErr,hl];rfl
 have hm:∀ f ∈ List.replicate 5001 flZ,f=flZ:=fun f hf => (List.mem_replicate.1 hf).2
 have h:=net_any (List.replicate 5001 flZ) ⟨#[65]⟩ ⟨#[66]⟩ (some ⟨w.heap.size,0,none⟩) 5001 (w.alloc (.cells (madeCells #[.int .i64 0,.string ⟨#[]⟩,.string ⟨#[]⟩,.string ⟨#[]⟩,.string ⟨#[]⟩] 25005) 52)) (by rw [hl];decide) (fun j x hj => ⟨_,0,rfl,fun i u hu => by
  have hx:=hm x (List.mem_of_getElem? hj)
  subst hx
  have hj2:j < 5001:=by rw [← hl];exact (List.getElem?_eq_some_iff.1 hj).1
  rw [Nat.zero_add,← Array.toArray_toList (xs:=madeCells #[.int .i64 0,.string ⟨#[]⟩,.string ⟨#[]⟩,.string ⟨#[]⟩,.string ⟨#[]⟩] 25005)]
  exact cell_new w _ 52 (made_get i j u hj2 hu)⟩) (fun f hf => by rw [hm f hf];exact ⟨by decide,by decide,by decide,by decide⟩) (by decide) (by decide) (fun f hf => by rw [hm f hf];decide)
 rw [hl] at h
 refine h.mono ?_
 rintro e w' ⟨rfl,hb2⟩
 have hq:=netE_bad (p:=⟨#[65]⟩) (c:=⟨#[66]⟩) (l:=List.replicate 5001 flZ) (by rw [he];decide)
 rw [hq.1,hq.2,he]
 exact ⟨rfl,hb.trans (hb2.mono hb.size)⟩
theorem okE:flowsErr []=0:=flowsErr_ok (by decide) okP_nil
theorem net_arg (w:World):Calls Tryz.prog 35 #[.slice none 0 0,.string ⟨#[65]⟩,.string ⟨#[]⟩] w fun e w' => e = .returned (.tuple #[.string ⟨#[]⟩,.int .i64 2])∧Below w.heap.size w w':=by
 refine (net_any [] ⟨#[65]⟩ ⟨#[]⟩ none 0 w (by decide) (fun j x hj => (by simp at hj)) (fun f hf => (by cases hf)) (by decide) (by decide) (fun f hf => (by cases hf))).mono ?_
 rintro e w' ⟨rfl,hb⟩
 have hq:=netE_arg (p:=⟨#[65]⟩) (c:=⟨#[]⟩) okE (by decide +kernel)
 rw [hq.1,hq.2]
 exact ⟨rfl,hb⟩
theorem net_nil (w:World):Calls Tryz.prog 35 #[.slice none 0 0,.string ⟨#[65]⟩,.string ⟨#[66]⟩] w fun e w' => e = .returned (.tuple #[.string ⟨#[48]⟩,.int .i64 0])∧Below w.heap.size w w':=by
 refine (net_any [] ⟨#[65]⟩ ⟨#[66]⟩ none 0 w (by decide) (fun j x hj => (by simp at hj)) (fun f hf => (by cases hf)) (by decide) (by decide) (fun f hf => (by cases hf))).mono ?_
 rintro e w' ⟨rfl,hb⟩
 have hq:=netE_ok (p:=⟨#[65]⟩) (c:=⟨#[66]⟩) okE (by decide +kernel)
 rw [hq.1,hq.2]
 exact ⟨rfl,hb⟩
def flG:Fl:=⟨3,⟨#[65]⟩,⟨#[66]⟩,⟨#[67]⟩,⟨#[49,47,50]⟩⟩
def badL:List Fl:=[⟨3,⟨#[65]⟩,⟨#[65]⟩,⟨#[67]⟩,⟨#[49]⟩⟩,⟨3,⟨#[65]⟩,⟨#[66]⟩,⟨#[]⟩,⟨#[49]⟩⟩,⟨3,⟨#[65]⟩,⟨#[66]⟩,⟨#[67]⟩,⟨#[48]⟩⟩,⟨3,⟨#[65]⟩,⟨#[66]⟩,⟨#[67]⟩,⟨#[45,49]⟩⟩,⟨3,⟨#[65]⟩,⟨#[66]⟩,⟨#[67]⟩,⟨#[]⟩⟩,⟨(-1),⟨#[65]⟩,⟨#[66]⟩,⟨#[67]⟩,⟨#[49]⟩⟩,⟨2,⟨#[65]⟩,⟨#[66]⟩,⟨#[67]⟩,⟨#[49]⟩⟩]
theorem good_G:flGood flG:=⟨by decide +kernel,by decide +kernel,by decide +kernel,by decide,by decide +kernel,by decide +kernel,by decide +kernel,by decide⟩
theorem ok_one:okP ([flG,flG].take 1):=okP_step (l:=[flG,flG]) (k:=0) okP_nil rfl good_G (by decide)
theorem pairG_ok:flowsErr [flG,flG]=0:=flowsErr_ok (by decide) (okP_step (l:=[flG,flG]) (k:=1) ok_one rfl good_G (by decide))
theorem pair_bad {k:Nat} {f:Fl} (h:badL[k]? = some f):flowsErr [flG,f]=8:=by
 refine flowsErr_bad (by show ¬ 5000 < 2;decide) (okP_bad (k:=1) rfl ?_)
 have hf:f ∈ badL:=List.mem_of_getElem? h
 clear h
 simp only [badL,List.mem_cons,List.not_mem_nil,or_false] at hf
 rcases hf with rfl | rfl | rfl | rfl | rfl | rfl | rfl
 ·exact .inl fun g => g.2.2.2.1 rfl
 ·exact .inl fun g => absurd g.2.2.1 (by decide +kernel)
 ·exact .inl fun g => g.2.2.2.2.2.1 rfl
 ·exact .inl fun g => absurd g.2.2.2.2.2.2.1 (by decide +kernel)
 ·exact .inl fun g => absurd g.2.2.2.2.1 (by decide +kernel)
 ·exact .inl fun g => absurd g.2.2.2.2.2.2.2 (by decide)
 ·exact .inr (by show (2:Int) < 3;decide)
theorem bad_small {k:Nat} {f:Fl} (h:badL[k]? = some f):f.small:=by
 have hf:f ∈ badL:=List.mem_of_getElem? h
 clear h
 simp only [badL,List.mem_cons,List.not_mem_nil,or_false] at hf
 rcases hf with rfl | rfl | rfl | rfl | rfl | rfl | rfl <;> exact ⟨by decide,by decide,by decide,by decide⟩
def Fct.fr (x y:Fl):Fct:=⟨fun _ w v => ∃ B,v = .slice (some ⟨B,0,none⟩) 2 2∧∀ j u,(x.cells ++ y.cells)[j]? = some u→w.cell? ⟨B,j,none⟩=some u,fun h hb => by
 obtain ⟨B,e,hc⟩:=h
 exact ⟨B,e,fun j d hj => cellB hb (hc j d hj)⟩,fun h _ => h⟩
theorem fr_new (w:World) (x y:Fl):Fct.p (.fr x y) none (w.alloc (.cells (x.cells ++ y.cells).toArray 52)) (.slice (some ⟨w.heap.size,0,none⟩) 2 2):=⟨_,rfl,fun _ _ hj => cell_new w _ 52 hj⟩
theorem chk_two {W:World} {v:Value} {x y:Fl} (hx:x.small) (hy:y.small) {er:Int} (he:flowsErr [x,y]=er) (h:Fct.p (.fr x y) none W v) :
  Calls Tryz.prog 36 #[v] W fun e w' => e = .returned (.int .i64 er)∧Below W.heap.size W w':=by
 obtain ⟨B,rfl,hc⟩:=h
 have q:=chkFl_any [x,y] (some ⟨B,0,none⟩) 2 W (by show 2≤1100000;decide) (fun j f hj => ⟨_,0,rfl,fun i u hu => by
  rw [Nat.zero_add]
  exact hc _ u (flat_get Fl.cells 5 (fun _ => rfl) [x,y] j f i u hj hu)⟩) (fun f hf => by
  simp only [List.mem_cons,List.not_mem_nil,or_false] at hf
  rcases hf with rfl | rfl
  ·exact hx
  ·exact hy)
 rw [he] at q
 exact q
theorem nm_w26 (w:World):∃ W,(w.alloc (.cells #[.int .i64 3,.string ⟨#[65]⟩,.string ⟨#[66]⟩,.string ⟨#[67]⟩,.string ⟨#[49,47,50]⟩] 52)).alloc (.cells (List.toArray ((Value.int .i64 3) :: (Value.string ⟨#[65]⟩) :: (Value.string ⟨#[65]⟩) :: (Value.string ⟨#[67]⟩) :: (Value.string ⟨#[49]⟩) :: (Value.int .i64 3) :: (Value.string ⟨#[65]⟩) :: (Value.string ⟨#[66]⟩) :: (Value.string ⟨#[]⟩) :: (Value.string ⟨#[49]⟩) :: (Value.int .i64 3) :: (Value.string ⟨#[65]⟩) :: (Value.string ⟨#[66]⟩) :: (Value.string ⟨#[67]⟩) :: (Value.string ⟨#[48]⟩) :: (Value.int .i64 3) :: (Value.string ⟨#[65]⟩) :: (Value.string ⟨#[66]⟩) :: (Value.string ⟨#[67]⟩) :: (Value.string ⟨#[45,49]⟩) :: (Value.int .i64 3) :: (Value.string ⟨#[65]⟩) :: (Value.string ⟨#[66]⟩) :: (Value.string ⟨#[67]⟩) :: (Value.string ⟨#[]⟩) :: (Value.int .i64 (-1)) :: (Value.string ⟨#[65]⟩) :: (Value.string ⟨#[66]⟩) :: (Value.string ⟨#[67]⟩) :: (Value.string ⟨#[49]⟩) :: (Value.int .i64 2) :: (Value.string ⟨#[65]⟩) :: (Value.string ⟨#[66]⟩) :: (Value.string ⟨#[67]⟩) :: (Value.string ⟨#[49]⟩) :: [])) 52)=W∧Below w.heap.size w W∧BoxN W w.heap.size 52 [.int .i64 3,.string ⟨#[65]⟩,.string ⟨#[66]⟩,.string ⟨#[67]⟩,.string ⟨#[49,47,50]⟩]∧∀ j f,badL[j]? = some f→∀ i u,f.cells[i]? = some u→W.cell? ⟨w.heap.size+1,j * 5+i,none⟩=some u:=by
 refine ⟨_,rfl,below_a2 _ _ _,(BoxN.new w [.int .i64 3,.string ⟨#[65]⟩,.string ⟨#[66]⟩,.string ⟨#[67]⟩,.string ⟨#[49,47,50]⟩] 52).alloc _,fun j f hj i u hu => ?_⟩
 exact cell_new_at _ (badL.flatMap Fl.cells) 52 (by simp) (flat_get Fl.cells 5 (fun _ => rfl) badL j f i u hj hu)
def fs31 (SF k:Nat) (f:Fl):List Fct:=[.lit (.agg #[.int .i64 3,.string ⟨#[65]⟩,.string ⟨#[66]⟩,.string ⟨#[67]⟩,.string ⟨#[49,47,50]⟩]),.lit (.slice (some ⟨SF+1,0,none⟩) 7 7),.lit (.int .i64 k),.lit (.pointer (some ⟨SF+1,k * 5,none⟩)),.lit (.agg #[.int .i64 f.d,.string f.fr,.string f.rc,.string f.cy,.string f.am]),.fr flG f,.lit (.int .i64 8),.lit (.bool false)]
theorem flG_small:flG.small:=⟨by decide,by decide,by decide,by decide⟩
end Go.Proofs.YtknpnhodpgajbaaGreatDoor
