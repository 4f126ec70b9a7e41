/- A part. -/
import Derived.Laws.StructEq
import Derived.IntWalk
import Derived.Test.YthdeijdimfjceaaGreatDoorA14
namespace Go.Proofs.YthdeijdimfjceaaGreatDoor
open Go.RowKit
def flGood (f:Fl):Prop:=isNm (bl f.fr)=true∧isNm (bl f.rc)=true∧isNm (bl f.cy)=true∧f.fr ≠ f.rc∧ratErr f.am=0∧bl f.am ≠ [48]∧isNeg (bl f.am)=false∧isDay f.d=true
def okP (l:List Fl):Prop:=∀ (j:Nat) (f:Fl),l[j]? = some f→flGood f∧∀ (i:Nat) (g:Fl),i+1=j→l[i]? = some g→g.d≤f.d
noncomputable def flowsErr (l:List Fl):Int:=if 5000 < l.length then 4 else if eqB (okP l) then 0 else 8
def lastD (l:List Fl) (k:Nat):Int:=if k=0 then 0 else match l[k - 1]? with | some f => f.d | none => 0
theorem lastD_succ {l:List Fl} {k:Nat} {f:Fl} (h:l[k]? = some f):lastD l (k+1)=f.d:=by
 simp [lastD,h]
theorem isDay_iff {d:Int}:isDay d=true ↔ 0≤d∧d≤99999:=by simp [isDay]
theorem okP_nil:okP []:=fun j f h => by simp at h
theorem okP_step {l:List Fl} {k:Nat} {f:Fl} (h:okP (l.take k)) (hf:l[k]? = some f) (hg:flGood f) (hd:lastD l k≤f.d):okP (l.take (k+1)):=by
 intro j g hj
 rw [List.getElem?_take] at hj
 split at hj
 ·rename_i hjk
  by_cases hk:j=k
  ·subst hk
   obtain rfl:f=g:=Option.some.inj (hf.symm.trans hj)
   refine ⟨hg,fun i g2 hi hg2 => ?_⟩
   subst hi
   rw [List.getElem?_take,if_pos (by omega)] at hg2
   rw [lastD_succ hg2] at hd
   exact hd
  ·have hj2:(l.take k)[j]? = some g:=by rw [List.getElem?_take,if_pos (by omega)];exact hj
   refine ⟨(h j g hj2).1,fun i g2 hi hg2 => (h j g hj2).2 i g2 hi ?_⟩
   rw [List.getElem?_take,if_pos (by omega)] at hg2 ⊢
   exact hg2
 ·cases hj
theorem okP_bad {l:List Fl} {k:Nat} {f:Fl} (hf:l[k]? = some f) (hb : ¬ flGood f∨f.d < lastD l k) : ¬ okP l:=by
 intro h
 obtain ⟨h1,h2⟩:=h k f hf
 rcases hb with hb | hb
 ·exact hb h1
 ·cases k with
  | zero =>
   have:=(isDay_iff.1 h1.2.2.2.2.2.2.2).1
   simp [lastD] at hb
   omega
  | succ k =>
   obtain ⟨g,hg⟩:∃ g,l[k]? = some g:=⟨_,List.getElem?_eq_getElem (by have:=(List.getElem?_eq_some_iff.1 hf).1;omega)⟩
   rw [lastD_succ hg] at hb
   have:=h2 k g rfl hg
   omega
theorem lastD_nonneg {l:List Fl} {k:Nat} (h:okP (l.take k)):0≤lastD l k:=by
 cases k with
 | zero => simp [lastD]
 | succ k =>
  unfold lastD
  rw [if_neg (by omega)]
  split
  ·rename_i f hf
   have hf2:(l.take (k+1))[k]? = some f:=by rw [List.getElem?_take,if_pos (by omega)];exact hf
   exact (isDay_iff.1 (h k f hf2).1.2.2.2.2.2.2.2).1
  ·omega
theorem flowsErr_bad {l:List Fl} (h5 : ¬ 5000 < l.length) (h : ¬ okP l):flowsErr l=8:=by rw [flowsErr,if_neg h5,eqB_false h];rfl
theorem flowsErr_ok {l:List Fl} (h5 : ¬ 5000 < l.length) (h:okP l):flowsErr l=0:=by rw [flowsErr,if_neg h5,eqB_true h];rfl
theorem am_pos {s:ByteArray} (h:ratErr s=0):0 < s.size:=by
 have h1:=(rat_parts h).1
 have h2:=canonI_pos (intErr_zero h1).1
 have:=numS_size s
 omega
set_option maxHeartbeats 4000000 in
set_option maxRecDepth 100000 in
theorem chkFl_any (l:List Fl) (ad:Option Addr) (cap:Nat) (w:World) (hn:l.length≤1100000) (hr:Rd Fl.cells 5 w ad l) (hs:∀ f ∈ l,f.small) :
  Calls Tryz.prog 72 #[.slice ad l.length cap] w fun e w' => e = .returned (.int .i64 (flowsErr l))∧Below w.heap.size w w':=by
 have HR:=Lib.hid hr
 have HS:=Lib.hid hs
 clear hr hs
 by_cases h5:5000 < l.length
 ·have HE:Hid (flowsErr l=4):=by show _=_;rw [flowsErr,if_pos h5]
  have t1:decide ((5000:Int) < (l.length:Int))=true:=by rw [decide_eq_true_eq];omega
  clear h5
  go_enter Tryz.func72,Tryz.ntmps72
  go_wp2
  go_ret
  exact ⟨ret_int' HE.out.symm,Below.refl _ _⟩
 ·have t1:decide ((5000:Int) < (l.length:Int))=false:=by rw [decide_eq_false_iff_not];omega
  have H5:=Lib.hid h5
  have hl5:l.length≤5000:=by omega
  clear h5
  go_enter Tryz.func72,Tryz.ntmps72
  go_wp2_with fail
  go_loopw [3,12] (fun z i wr => ∃ (k:Nat) (la:Int),k≤l.length∧i = .int .i64 k∧z = .int .i64 la∧Hid (la=lastD l k∧okP (l.take k))∧Below w.heap.size w wr) (fun _ i _ => l.length - (intOf i).toNat)
  case atStart => exact ⟨0,0,Nat.zero_le _,rfl,rfl,Lib.hid ⟨rfl,by simpa using okP_nil⟩,Below.refl _ _⟩
  case round =>
   obtain ⟨k,la,hk,rfl,rfl,HI,hbel⟩:=hrel
   by_cases hlt:k < l.length
   ·obtain ⟨f,hf⟩:∃ f,l[k]? = some f:=⟨_,List.getElem?_eq_getElem hlt⟩
    obtain ⟨b,off,rfl,c0,c1,c2,c3,c4⟩:=(HR.out.below hbel).fl hf
    obtain ⟨s1,s2,s3,s4⟩:=HS.out f (List.mem_of_getElem? hf)
    have HF:=Lib.hid hf
    clear hf
    have hsz:=hbel.size
    have hblk:b < wr.heap.size:=World.block_lt_of_cell? wr _ c0
    have HN:=Lib.hid (fun W (s:ByteArray) (h:s.size≤1100000) => name_any s W (by omega))
    have HC:=Lib.hid (fun W => rat_any f.am W (by omega))
    have HBad:Hid (¬ (flGood f∧la≤f.d)→flowsErr l=8):=fun h => flowsErr_bad H5.out (okP_bad HF.out (by
     by_cases hg:flGood f
     ·right;rw [← HI.out.1];rcases Int.lt_or_le f.d la with h2 | h2
      ·exact h2
      ·exact absurd ⟨hg,h2⟩ h
     ·exact .inl hg))
    have HGood:Hid (flGood f→la≤f.d→okP (l.take (k+1))∧lastD l (k+1)=f.d):=fun h1 h2 => ⟨okP_step HI.out.2 HF.out h1 (by rw [← HI.out.1];exact h2),lastD_succ HF.out⟩
    have hla:0≤la:=by rw [HI.out.1];exact lastD_nonneg HI.out.2
    have hk1:(0:Int)≤(k:Int):=by omega
    have hk2:(k:Int) < (l.length:Int):=by omega
    have hb1:=hbel.alloc hsz (.cells #[.int .i64 f.d,.string f.fr,.string f.rc,.string f.cy,.string f.am] 134)
    have HB1:=Lib.hid hb1
    clear hb1 hbel
    obtain ⟨er,h4⟩:∃ a,a=ratErr f.am:=⟨_,rfl⟩
    rw [← h4] at HC
    have HG:Hid (flGood f ↔ (isNm (bl f.fr)=true∧isNm (bl f.rc)=true∧isNm (bl f.cy)=true∧f.fr ≠ f.rc∧er=0∧bl f.am ≠ [48]∧isNeg (bl f.am)=false∧isDay f.d=true)):=by show _ ↔ _;rw [h4];exact Iff.rfl
    have HAp:Hid (er=0→0 < f.am.size):=by rw [h4];exact am_pos
    clear h4
    generalize f.fr=fr at *
    generalize f.rc=rc at *
    generalize f.cy=cy at *
    generalize f.am=am at *
    generalize f.d=d at *
    cases ha1:isNm (bl fr) with
    | false =>
     have Ha1:=Lib.hid ha1
     have HE:=Lib.hid (HBad.out (fun h => by have:=(HG.out.1 h.1).1;rw [Ha1.out] at this;cases this))
     clear HBad HGood HG HAp
     go_wp2_with (first | (go_at_call 35;refine (HN.out _ _ ?_).mono ?_;(assumption);rintro e w' ⟨rfl,rfl⟩) | (go_at_call 36;refine (HC.out _).mono ?_;rintro e w' ⟨rfl,hb9⟩;have hc9:w'.cell? ⟨wr.heap.size,4,none⟩=some (.string am):=by rw [hb9.cell (by simp)];go_simp))
     go_ret
     exact ⟨ret_int' HE.out.symm,HB1.out⟩
    | true =>
     cases ha2:isNm (bl rc) with
     | false =>
      have Ha2:=Lib.hid ha2
      have HE:=Lib.hid (HBad.out (fun h => by have:=(HG.out.1 h.1).2.1;rw [Ha2.out] at this;cases this))
      clear HBad HGood HG HAp
      go_wp2_with (first | (go_at_call 35;refine (HN.out _ _ ?_).mono ?_;(assumption);rintro e w' ⟨rfl,rfl⟩) | (go_at_call 36;refine (HC.out _).mono ?_;rintro e w' ⟨rfl,hb9⟩;have hc9:w'.cell? ⟨wr.heap.size,4,none⟩=some (.string am):=by rw [hb9.cell (by simp)];go_simp))
      go_ret
      exact ⟨ret_int' HE.out.symm,HB1.out⟩
     | true =>
      cases ha3:isNm (bl cy) with
      | false =>
       have Ha3:=Lib.hid ha3
       have HE:=Lib.hid (HBad.out (fun h => by have:=(HG.out.1 h.1).2.2.1;rw [Ha3.out] at this;cases this))
       clear HBad HGood HG HAp
       go_wp2_with (first | (go_at_call 35;refine (HN.out _ _ ?_).mono ?_;(assumption);rintro e w' ⟨rfl,rfl⟩) | (go_at_call 36;refine (HC.out _).mono ?_;rintro e w' ⟨rfl,hb9⟩;have hc9:w'.cell? ⟨wr.heap.size,4,none⟩=some (.string am):=by rw [hb9.cell (by simp)];go_simp))
       go_ret
       exact ⟨ret_int' HE.out.symm,HB1.out⟩
      | true =>
       by_cases hft:fr=rc
       ·have u1:(fr.toList == rc.toList)=true:=by rw [hft];simp
        have u1':(fr.toList != rc.toList)=false:=by rw [hft];simp
        have Hft:=Lib.hid hft
        clear hft
        have HE:=Lib.hid (HBad.out (fun h => (HG.out.1 h.1).2.2.2.1 Hft.out))
        clear HBad HGood HG HAp
        go_wp2_with (first | (go_at_call 35;refine (HN.out _ _ ?_).mono ?_;(assumption);rintro e w' ⟨rfl,rfl⟩) | (go_at_call 36;refine (HC.out _).mono ?_;rintro e w' ⟨rfl,hb9⟩;have hc9:w'.cell? ⟨wr.heap.size,4,none⟩=some (.string am):=by rw [hb9.cell (by simp)];go_simp))
        go_ret
        exact ⟨ret_int' HE.out.symm,HB1.out⟩
       ·have u1:(fr.toList == rc.toList)=false:=by rw [toList_beq,decide_eq_false hft]
        have u1':(fr.toList != rc.toList)=true:=by rw [bne,toList_beq,decide_eq_false hft];rfl
        have Hft:=Lib.hid hft
        clear hft
        by_cases hd1:d < la
        ·have u2:decide (d < la)=true:=by simpa using hd1
         have Hd1:=Lib.hid hd1
         clear hd1
         have HE:=Lib.hid (HBad.out (fun h => by have:=Hd1.out;have:=h.2;omega))
         clear HBad HGood HG HAp
         go_wp2_with (first | (go_at_call 35;refine (HN.out _ _ ?_).mono ?_;(assumption);rintro e w' ⟨rfl,rfl⟩) | (go_at_call 36;refine (HC.out _).mono ?_;rintro e w' ⟨rfl,hb9⟩;have hc9:w'.cell? ⟨wr.heap.size,4,none⟩=some (.string am):=by rw [hb9.cell (by simp)];go_simp))
         go_ret
         exact ⟨ret_int' HE.out.symm,HB1.out⟩
        ·have u2:decide (d < la)=false:=by simpa using hd1
         have Hd1:=Lib.hid hd1
         clear hd1
         by_cases hd2:99999 < d
         ·have u3:decide (99999 < d)=true:=by simpa using hd2
          have Hd2:=Lib.hid hd2
          clear hd2
          have HE:=Lib.hid (HBad.out (fun h => by have:=Hd2.out;have:=(isDay_iff.1 (HG.out.1 h.1).2.2.2.2.2.2.2).2;omega))
          clear HBad HGood HG HAp
          go_wp2_with (first | (go_at_call 35;refine (HN.out _ _ ?_).mono ?_;(assumption);rintro e w' ⟨rfl,rfl⟩) | (go_at_call 36;refine (HC.out _).mono ?_;rintro e w' ⟨rfl,hb9⟩;have hc9:w'.cell? ⟨wr.heap.size,4,none⟩=some (.string am):=by rw [hb9.cell (by simp)];go_simp))
          go_ret
          exact ⟨ret_int' HE.out.symm,HB1.out⟩
         ·have u3:decide (99999 < d)=false:=by simpa using hd2
          have Hd2:=Lib.hid hd2
          clear hd2
          by_cases her:er=0
          ·subst her
           have hpos:=HAp.out rfl
           have hbc:=bl_cons am hpos
           obtain ⟨ch,hch⟩:∃ c,am[0]=c:=⟨_,rfl⟩
           rw [hch] at hbc
           by_cases hz:bl am=[48]
           ·have ez:(am.toList == [48])=true:=by rw [Lib.toList_data];show (bl am == [48])=true;rw [hz];rfl
            have Hz:=Lib.hid hz
            clear hz hbc
            have HE:=Lib.hid (HBad.out (fun h => (HG.out.1 h.1).2.2.2.2.2.1 Hz.out))
            clear HBad HGood HG HAp
            go_wp2_with (first | (go_at_call 35;refine (HN.out _ _ ?_).mono ?_;(assumption);rintro e w' ⟨rfl,rfl⟩) | (go_at_call 36;refine (HC.out _).mono ?_;rintro e w' ⟨rfl,hb9⟩;have hc9:w'.cell? ⟨wr.heap.size,4,none⟩=some (.string am):=by rw [hb9.cell (by simp)];go_simp))
            go_ret
            exact ⟨ret_int' HE.out.symm,HB1.out.trans (hb9.mono (by have:=HB1.out.size;simpa using this))⟩
           ·have ez:(am.toList == [48])=false:=ne_lit hz
            by_cases hm:ch=45
            ·have em:((ch.toNat:Int) == 45)=true:=by rw [hm];rfl
             have Hm:Hid (isNeg (bl am)=true):=by show _=_;rw [hbc,hm];rfl
             clear hz hbc hm
             have HE:=Lib.hid (HBad.out (fun h => by have:=(HG.out.1 h.1).2.2.2.2.2.2.1;rw [Hm.out] at this;cases this))
             clear HBad HGood HG HAp
             go_wp2_with (first | (go_at_call 35;refine (HN.out _ _ ?_).mono ?_;(assumption);rintro e w' ⟨rfl,rfl⟩) | (go_at_call 36;refine (HC.out _).mono ?_;rintro e w' ⟨rfl,hb9⟩;have hc9:w'.cell? ⟨wr.heap.size,4,none⟩=some (.string am):=by rw [hb9.cell (by simp)];go_simp))
             go_ret
             exact ⟨ret_int' HE.out.symm,HB1.out.trans (hb9.mono (by have:=HB1.out.size;simpa using this))⟩
            ·have em:((ch.toNat:Int) == 45)=false:=by rw [beq_eq_false_iff_ne];intro e;apply hm;apply UInt8.toNat_inj.1;show ch.toNat=45;omega
             have hgood:=HGood.out (HG.out.2 ⟨ha1,ha2,ha3,Hft.out,rfl,hz,by rw [hbc];simp [isNeg,hm],isDay_iff.2 ⟨by have:=Hd1.out;omega,by have:=Hd2.out;omega⟩⟩) (by have:=Hd1.out;omega)
             have HGd:Hid (d=lastD l (k+1)∧okP (l.take (k+1))):=⟨hgood.2.symm,hgood.1⟩
             clear hgood HBad HGood HG HAp hz hbc hm
             go_wp2_with (first | (go_at_call 35;refine (HN.out _ _ ?_).mono ?_;(assumption);rintro e w' ⟨rfl,rfl⟩) | (go_at_call 36;refine (HC.out _).mono ?_;rintro e w' ⟨rfl,hb9⟩;have hc9:w'.cell? ⟨wr.heap.size,4,none⟩=some (.string am):=(by rw [hb9.cell (by simp)];go_simp);have hc8:w'.cell? ⟨wr.heap.size,0,none⟩=some (.int .i64 d):=by rw [hb9.cell (by simp)];go_simp))
             have hbel9:=HB1.out.trans (hb9.mono (by have:=HB1.out.size;simpa using this))
             go_roundw
             case rel => exact ⟨k+1,d,by omega,by go_num,rfl,HGd,hbel9⟩
             case measure => simp [intOf];omega
          ·have u4:(er != 0)=true:=by rw [bne_iff_ne];exact her
           have Her:=Lib.hid her
           clear her
           have HE:=Lib.hid (HBad.out (fun h => Her.out (HG.out.1 h.1).2.2.2.2.1))
           clear HBad HGood HG HAp
           go_wp2_with (first | (go_at_call 35;refine (HN.out _ _ ?_).mono ?_;(assumption);rintro e w' ⟨rfl,rfl⟩) | (go_at_call 36;refine (HC.out _).mono ?_;rintro e w' ⟨rfl,hb9⟩;have hc9:w'.cell? ⟨wr.heap.size,4,none⟩=some (.string am):=by rw [hb9.cell (by simp)];go_simp))
           go_ret
           exact ⟨ret_int' HE.out.symm,HB1.out.trans (hb9.mono (by have:=HB1.out.size;simpa using this))⟩
   ·obtain rfl:k=l.length:=by omega
    have HE:Hid (flowsErr l=0):=flowsErr_ok H5.out (by have:=HI.out.2;rw [List.take_of_length_le (Nat.le_refl _)] at this;exact this)
    go_wp2
    go_ret
    exact ⟨ret_int' HE.out.symm,hbel⟩
end Go.Proofs.YthdeijdimfjceaaGreatDoor

namespace Go.Proofs.YthdeijdimfjceaaGreatDoor
open Go.RowKit
def netStep (p c:ByteArray) (st:ByteArray × Int) (f:Fl):ByteArray × Int :=
 if st.2 ≠ 0 then st else if f.cy ≠ c then st else if f.rc=p then (mkB (sumS st.1 f.am (addZ st.1 f.am)),sumE st.1 f.am (addZ st.1 f.am))
 else if f.fr=p then (mkB (sumS st.1 f.am (subZ st.1 f.am)),sumE st.1 f.am (subZ st.1 f.am)) else st
def netAcc (p c:ByteArray) (l:List Fl) (k:Nat):ByteArray × Int:=(l.take k).foldl (netStep p c) (⟨#[48]⟩,0)
theorem netAcc_succ (p c:ByteArray) {l:List Fl} {k:Nat} {f:Fl} (h:l[k]? = some f):netAcc p c l (k+1)=netStep p c (netAcc p c l k) f:=by
 rw [netAcc,take_snoc_get h,List.foldl_append];rfl
theorem netFold_err (p c:ByteArray) (st:ByteArray × Int) (h:st.2 ≠ 0):∀ m:List Fl,m.foldl (netStep p c) st=st
 | [] => rfl
 | f :: m => by rw [List.foldl_cons,netStep,if_pos h];exact netFold_err p c st h m
theorem netAcc_err {p c:ByteArray} {l:List Fl} {k:Nat} (h:(netAcc p c l k).2 ≠ 0):netAcc p c l l.length=netAcc p c l k:=by
 have e:l.take l.length=l.take k ++ l.drop k:=by rw [List.take_of_length_le (Nat.le_refl _),List.take_append_drop]
 rw [netAcc,e,List.foldl_append]
 exact netFold_err p c _ h _
theorem netStep_size (p c:ByteArray) (st:ByteArray × Int) (f:Fl) (h:st.1.size≤2010):(netStep p c st f).1.size≤2010:=by
 unfold netStep
 split
 ·exact h
 ·split
  ·exact h
  ·split
   ·show (mkB _).size≤_;rw [mkB_size];exact sumS_len _ _ _
   ·split
    ·show (mkB _).size≤_;rw [mkB_size];exact sumS_len _ _ _
    ·exact h
theorem netAcc_size (p c:ByteArray) (l:List Fl):∀ k,(netAcc p c l k).1.size≤2010
 | 0 => by show 1≤2010;omega
 | k+1 => by
  by_cases hk:k < l.length
  ·rw [netAcc_succ p c (List.getElem?_eq_getElem hk)]
   exact netStep_size p c _ _ (netAcc_size p c l k)
  ·have e:netAcc p c l (k+1)=netAcc p c l k:=by rw [netAcc,netAcc,List.take_of_length_le (by omega),List.take_of_length_le (by omega)]
   rw [e];exact netAcc_size p c l k
noncomputable def netE (p c:ByteArray) (l:List Fl):Int:=if flowsErr l ≠ 0 then flowsErr l else if isNm (bl p) && isNm (bl c) then (netAcc p c l l.length).2 else 2
noncomputable def netS (p c:ByteArray) (l:List Fl):ByteArray:=if flowsErr l ≠ 0 then ⟨#[]⟩ else if isNm (bl p) && isNm (bl c) then (netAcc p c l l.length).1 else ⟨#[]⟩
theorem netE_bad {p c:ByteArray} {l:List Fl} (h:flowsErr l ≠ 0):netE p c l=flowsErr l∧netS p c l=⟨#[]⟩:=by rw [netE,netS,if_pos h,if_pos h];exact ⟨rfl,rfl⟩
theorem netE_arg {p c:ByteArray} {l:List Fl} (h:flowsErr l=0) (hn:(isNm (bl p) && isNm (bl c))=false):netE p c l=2∧netS p c l=⟨#[]⟩:=by
 have h' : ¬ flowsErr l ≠ 0:=fun k => k h
 unfold netE netS
 rw [if_neg h',if_neg h',hn];exact ⟨rfl,rfl⟩
theorem netE_ok {p c:ByteArray} {l:List Fl} (h:flowsErr l=0) (hn:(isNm (bl p) && isNm (bl c))=true):netE p c l=(netAcc p c l l.length).2∧netS p c l=(netAcc p c l l.length).1:=by
 have h' : ¬ flowsErr l ≠ 0:=fun k => k h
 unfold netE netS
 rw [if_neg h',if_neg h',hn];exact ⟨rfl,rfl⟩
theorem okP_of_err {l:List Fl} (h:flowsErr l=0):okP l:=by
 unfold flowsErr at h
 split at h
 ·cases h
 ·rcases Classical.em (okP l) with k | k
  ·exact k
  ·rw [eqB_false k] at h;cases h
end Go.Proofs.YthdeijdimfjceaaGreatDoor

namespace Go.Proofs.YthdeijdimfjceaaGreatDoor
open Go.RowKit
def netPost (w:World) (p c:ByteArray) (l:List Fl) (e:Ending) (w':World):Prop:=e = .returned (.tuple #[.string (netS p c l),.int .i64 (netE p c l)])∧Below w.heap.size w w'
set_option maxHeartbeats 4000000 in
set_option maxRecDepth 100000 in
theorem net_any (l:List Fl) (p c:ByteArray) (ad:Option Addr) (cap:Nat) (w:World) (hn:l.length≤1100000) (hr:Rd Fl.cells 5 w ad l) (hs:∀ f ∈ l,f.small) (hp:p.size≤1100000) (hc:c.size≤1100000) (ham:∀ f ∈ l,f.am.size≤900000) :
  Calls Tryz.prog 38 #[.slice ad l.length cap,.string p,.string c] w (netPost w p c l):=by
 have HCk:=Lib.hid (fun W (hW:Below w.heap.size w W) => chkFl_any l ad cap W hn (hr.below hW) hs)
 have HNm:=Lib.hid (fun W (s:ByteArray) (h:s.size≤1100000) => name_any s W (by omega))
 have HR:=Lib.hid hr
 have HS:=Lib.hid hs
 have HAm:=Lib.hid ham
 clear hr hs ham
 by_cases he:flowsErr l=0
 ·have HOk:=Lib.hid (okP_of_err he)
  rw [he] at HCk
  cases h1:isNm (bl p)
  ·have HE:=Lib.hid (netE_arg (p:=p) (c:=c) he (by rw [h1];rfl))
   clear he
   go_enter Tryz.func38,Tryz.ntmps38
   go_wp2_with fail
   refine (HCk.out _ (Below.refl _ _)).mono ?_
   rintro e w1 ⟨rfl,hb1⟩
   go_wp2_with (first | (go_at_call 35;refine (HNm.out _ _ ?_).mono ?_;(assumption);rintro e w' ⟨rfl,rfl⟩))
   go_ret2
   exact ⟨by rw [HE.out.1,HE.out.2];rfl,hb1⟩
  cases h2:isNm (bl c)
  ·have HE:=Lib.hid (netE_arg (p:=p) (c:=c) he (by rw [h2];simp))
   clear he
   go_enter Tryz.func38,Tryz.ntmps38
   go_wp2_with fail
   refine (HCk.out _ (Below.refl _ _)).mono ?_
   rintro e w1 ⟨rfl,hb1⟩
   go_wp2_with (first | (go_at_call 35;refine (HNm.out _ _ ?_).mono ?_;(assumption);rintro e w' ⟨rfl,rfl⟩))
   go_ret2
   exact ⟨by rw [HE.out.1,HE.out.2];rfl,hb1⟩
  have HE:=Lib.hid (netE_ok (p:=p) (c:=c) he (by rw [h1,h2];rfl))
  clear he
  go_enter Tryz.func38,Tryz.ntmps38
  go_wp2_with fail
  refine (HCk.out _ (Below.refl _ _)).mono ?_
  rintro e w1 ⟨rfl,hb1⟩
  go_wp2_with (first | (go_at_call 35;refine (HNm.out _ _ ?_).mono ?_;(assumption);rintro e w' ⟨rfl,rfl⟩))
  clear h1 h2
  go_loopw [9,10,28] (fun z y i wr => ∃ (k:Nat) (s:ByteArray),k≤l.length∧i = .int .i64 k∧z = .string s∧y = .int .i64 0∧Hid (netAcc p c l k=(s,0))∧Below w.heap.size w wr) (fun _ _ i _ => l.length - (intOf i).toNat)
  case atStart => exact ⟨0,_,Nat.zero_le _,rfl,rfl,rfl,rfl,hb1⟩
  case round =>
   clear hb1
   obtain ⟨k,s,hk,rfl,rfl,rfl,HI,hbel⟩:=hrel
   by_cases hlt:k < l.length
   ·obtain ⟨f,hf⟩:∃ f,l[k]? = some f:=⟨_,List.getElem?_eq_getElem hlt⟩
    obtain ⟨b,off,rfl,c0,c1,c2,c3,c4⟩:=(HR.out.below hbel).fl hf
    have ham:=HAm.out f (List.mem_of_getElem? hf)
    have hgood:=(HOk.out k f hf).1
    have HSt:Hid (netAcc p c l (k+1)=netStep p c (s,0) f):=by show _=_;rw [netAcc_succ p c hf,HI.out]
    have hs1:s.size≤2010:=by have:=netAcc_size p c l k;rw [HI.out] at this;exact this
    have hsz:=hbel.size
    have hblk:b < wr.heap.size:=World.block_lt_of_cell? wr _ c0
    have hk1:(0:Int)≤(k:Int):=by omega
    have hk2:(k:Int) < (l.length:Int):=by omega
    have HGd:=Lib.hid hgood
    clear hgood hf
    have HA:=Lib.hid (fun W => ratadd_any s f.am W (by omega) (by omega))
    have HS_:=Lib.hid (fun W => ratsub_any s f.am W (by omega) (by omega))
    have HBL:=Lib.hid (hbel.alloc hsz (.cells #[.int .i64 f.d,.string f.fr,.string f.rc,.string f.cy,.string f.am] 134))
    have hft:f.fr ≠ f.rc:=HGd.out.2.2.2.1
    unfold netStep at HSt
    have HSt2:Hid (netAcc p c l (k+1)=if f.cy ≠ c then (s,0) else if f.rc=p then (mkB (sumS s f.am (addZ s f.am)),sumE s f.am (addZ s f.am)) else if f.fr=p then (mkB (sumS s f.am (subZ s f.am)),sumE s f.am (subZ s f.am)) else (s,0)):=by
     have h:=HSt.out
     rw [if_neg (by simp)] at h
     exact h
    unfold RatPost2 at HA HS_
    change Hid (∀ W,Calls Tryz.prog 23 _ W fun e w' => ∃ t,e = .returned (.tuple #[.string t,.int .i64 (sumE s f.am (addZ s f.am))])∧bl t=sumS s f.am (addZ s f.am)∧Below W.heap.size W w') at HA
    change Hid (∀ W,Calls Tryz.prog 40 _ W fun e w' => ∃ t,e = .returned (.tuple #[.string t,.int .i64 (sumE s f.am (subZ s f.am))])∧bl t=sumS s f.am (subZ s f.am)∧Below W.heap.size W w') at HS_
    have HEa:=Lib.hid (fun h => sumS_err (a:=s) (b:=f.am) (z:=addZ s f.am) h)
    have HEs:=Lib.hid (fun h => sumS_err (a:=s) (b:=f.am) (z:=subZ s f.am) h)
    generalize sumS s f.am (addZ s f.am)=Sa at *
    generalize sumE s f.am (addZ s f.am)=Ea at *
    generalize sumS s f.am (subZ s f.am)=Ss at *
    generalize sumE s f.am (subZ s f.am)=Es at *
    clear HGd HSt
    generalize f.d=d at *
    generalize f.fr=fr at *
    generalize f.rc=rc at *
    generalize f.cy=cy at *
    generalize f.am=am at *
    by_cases hu1:cy=c
    ·have hu1b:=hu1
     have u1:(cy.toList == c.toList)=true:=by rw [hu1];simp
     have u1':(cy.toList != c.toList)=false:=by rw [hu1];simp
     by_cases hu2:rc=p
     ·have hu3:fr ≠ p:=fun e => hft (e.trans hu2.symm)
      have u2:(rc.toList == p.toList)=true:=by rw [hu2];simp
      have u2':(rc.toList != p.toList)=false:=by rw [hu2];simp
      have u3:(fr.toList == p.toList)=false:=by rw [toList_beq,decide_eq_false hu3]
      have u3':(fr.toList != p.toList)=true:=by rw [bne,toList_beq,decide_eq_false hu3];rfl
      have Hu:=Lib.hid (And.intro hu1 hu2)
      clear hu1 hu2 hu3 hu1b
      have HN:Hid (netAcc p c l (k+1)=(mkB Sa,Ea)):=by show _=_;rw [HSt2.out,if_neg (fun k => k Hu.out.1),if_pos Hu.out.2]
      clear HSt2 hft
      by_cases hE:Ea=0
      ·subst hE
       go_wp2_with (first | (go_at_call 23;refine (HA.out _).mono ?_;rintro e w4 ⟨t,rfl,ht,hb4⟩))
       have hbz:=HBL.out.trans (hb4.mono (by first | exact HBL.out.size | (have:=HBL.out.size;simpa using this)))
       have et:=mkB_bl ht
       go_roundw
       case rel => exact ⟨k+1,t,by omega,by go_num,rfl,rfl,by show _=_;rw [HN.out,et],hbz⟩
       case measure => simp [intOf];omega
      ·have te:(Ea != 0)=true:=by rw [bne_iff_ne];exact hE
       have HF:Hid (netE p c l=Ea∧netS p c l=⟨#[]⟩):=by
        have h:=netAcc_err (p:=p) (c:=c) (l:=l) (k:=k+1) (by rw [HN.out];exact hE)
        exact ⟨by rw [HE.out.1,h,HN.out],by rw [HE.out.2,h,HN.out,HEa.out hE];rfl⟩
       clear hE
       go_wp2_with (first | (go_at_call 23;refine (HA.out _).mono ?_;rintro e w4 ⟨t,rfl,ht,hb4⟩))
       have hbz:=HBL.out.trans (hb4.mono (by first | exact HBL.out.size | (have:=HBL.out.size;simpa using this)))
       go_ret2
       exact ⟨by rw [HF.out.1,HF.out.2];rfl,hbz⟩
     ·by_cases hu3:fr=p
      ·have hu2b:=hu2
       have u2:(rc.toList == p.toList)=false:=by rw [toList_beq,decide_eq_false hu2]
       have u2':(rc.toList != p.toList)=true:=by rw [bne,toList_beq,decide_eq_false hu2];rfl
       have u3:(fr.toList == p.toList)=true:=by rw [hu3];simp
       have u3':(fr.toList != p.toList)=false:=by rw [hu3];simp
       have Hu:=Lib.hid (And.intro hu1 (And.intro hu2 hu3))
       clear hu1 hu2 hu3 hu1b hu2b
       have HN:Hid (netAcc p c l (k+1)=(mkB Ss,Es)):=by show _=_;rw [HSt2.out,if_neg (fun k => k Hu.out.1),if_neg Hu.out.2.1,if_pos Hu.out.2.2]
       clear HSt2 hft
       by_cases hE:Es=0
       ·subst hE
        go_wp2_with (first | (go_at_call 40;refine (HS_.out _).mono ?_;rintro e w4 ⟨t,rfl,ht,hb4⟩))
        have hbz:=HBL.out.trans (hb4.mono (by first | exact HBL.out.size | (have:=HBL.out.size;simpa using this)))
        have et:=mkB_bl ht
        go_roundw
        case rel => exact ⟨k+1,t,by omega,by go_num,rfl,rfl,by show _=_;rw [HN.out,et],hbz⟩
        case measure => simp [intOf];omega
       ·have te:(Es != 0)=true:=by rw [bne_iff_ne];exact hE
        have HF:Hid (netE p c l=Es∧netS p c l=⟨#[]⟩):=by
         have h:=netAcc_err (p:=p) (c:=c) (l:=l) (k:=k+1) (by rw [HN.out];exact hE)
         exact ⟨by rw [HE.out.1,h,HN.out],by rw [HE.out.2,h,HN.out,HEs.out hE];rfl⟩
        clear hE
        go_wp2_with (first | (go_at_call 40;refine (HS_.out _).mono ?_;rintro e w4 ⟨t,rfl,ht,hb4⟩))
        have hbz:=HBL.out.trans (hb4.mono (by first | exact HBL.out.size | (have:=HBL.out.size;simpa using this)))
        go_ret2
        exact ⟨by rw [HF.out.1,HF.out.2];rfl,hbz⟩
      ·have hu2b:=hu2
       have u2:(rc.toList == p.toList)=false:=by rw [toList_beq,decide_eq_false hu2]
       have u2':(rc.toList != p.toList)=true:=by rw [bne,toList_beq,decide_eq_false hu2];rfl
       have u3:(fr.toList == p.toList)=false:=by rw [toList_beq,decide_eq_false hu3]
       have u3':(fr.toList != p.toList)=true:=by rw [bne,toList_beq,decide_eq_false hu3];rfl
       have Hu:=Lib.hid (And.intro hu1 (And.intro hu2 hu3))
       clear hu1 hu2 hu3 hu1b hu2b
       have HN:Hid (netAcc p c l (k+1)=(s,0)):=by show _=_;rw [HSt2.out,if_neg (fun k => k Hu.out.1),if_neg Hu.out.2.1,if_neg Hu.out.2.2]
       clear HSt2 hft
       go_wp2
       go_roundw
       case rel => exact ⟨k+1,s,by omega,by go_num,rfl,rfl,HN,HBL.out⟩
       case measure => simp [intOf];omega
    ·have hu1b:=hu1
     have u1:(cy.toList == c.toList)=false:=by rw [toList_beq,decide_eq_false hu1]
     have u1':(cy.toList != c.toList)=true:=by rw [bne,toList_beq,decide_eq_false hu1];rfl
     have Hu:=Lib.hid hu1
     clear hu1 hu1b
     have HN:Hid (netAcc p c l (k+1)=(s,0)):=by show _=_;rw [HSt2.out,if_pos Hu.out]
     clear HSt2 hft
     go_wp2
     go_roundw
     case rel => exact ⟨k+1,s,by omega,by go_num,rfl,rfl,HN,HBL.out⟩
     case measure => simp [intOf];omega
   ·obtain rfl:k=l.length:=by omega
    have HF:Hid (netE p c l=0∧netS p c l=s):=⟨by rw [HE.out.1,HI.out],by rw [HE.out.2,HI.out]⟩
    go_wp2
    go_ret2
    exact ⟨by rw [HF.out.1,HF.out.2];rfl,hbel⟩
 ·have HE:=Lib.hid (netE_bad (p:=p) (c:=c) he)
  generalize flowsErr l=er at *
  have te:(er != 0)=true:=by rw [bne_iff_ne];exact he
  clear he
  go_enter Tryz.func38,Tryz.ntmps38
  go_wp2_with fail
  refine (HCk.out _ (Below.refl _ _)).mono ?_
  rintro e w1 ⟨rfl,hb1⟩
  skip
  skip
  skip
  skip
  go_wp2
  go_ret2
  exact ⟨by rw [HE.out.1,HE.out.2];rfl,hb1⟩
end Go.Proofs.YthdeijdimfjceaaGreatDoor

namespace Go.Proofs.YthdeijdimfjceaaGreatDoor
open Go.RowKit
theorem slash_not {l:List UInt8} (h:∀ k:Nat,l[k]? ≠ some 47):slashI (mkB l) = -1:=by
 rcases slash_cases (mkB l) with k | ⟨o,k,_⟩
 ·exact k
 ·have:=(slash_some k).1
  rw [bl_mkB] at this
  exact absurd this (h o)
theorem slash_is {l m:List UInt8} (h:∀ k:Nat,l[k]? ≠ some 47):slashI (mkB (l ++ [47] ++ m))=l.length:=by
 have hl:(l ++ [47] ++ m)[l.length]? = some 47:=by
  rw [List.append_assoc,List.getElem?_append_right (Nat.le_refl _)];simp
 rcases slash_cases (mkB (l ++ [47] ++ m)) with k | ⟨o,k,_⟩
 ·exact absurd (by rw [bl_mkB];exact hl) (slash_none k l.length)
 ·rw [k]
  have h2:=slash_some k
  rw [bl_mkB] at h2
  by_cases h3:o < l.length
  ·have h4:=h2.1
   rw [List.append_assoc,List.getElem?_append_left h3] at h4
   exact absurd h4 (h o)
  ·by_cases h4:l.length < o
   ·exact absurd hl (h2.2 _ h4)
   ·have:o=l.length:=by omega
    rw [this]
theorem dig_not47 {l:List UInt8} (h:l.all isDig=true) (k:Nat):l[k]? ≠ some 47:=fun e => by
 have:=List.all_eq_true.1 h 47 (List.mem_of_getElem? e)
 exact absurd this (by decide)
theorem istr_body (sg:Bool) (n:Nat):∃ d,d.all isDig=true∧(istr sg n=d∨istr sg n=45 :: d):=by
 by_cases h0:n=0
 ·subst h0;exact ⟨[48],by decide,.inl (by simp [istr])⟩
 ·rw [istr_ne sg h0]
  refine ⟨asc (dig10 n).reverse,asc_dig (Dig.rev (dig10_nrm n).1),?_⟩
  cases sg
  ·exact .inl rfl
  ·exact .inr rfl
theorem istr_not47 (sg:Bool) (n:Nat) (k:Nat):(istr sg n)[k]? ≠ some 47:=by
 obtain ⟨d,hd,h | h⟩:=istr_body sg n
 ·rw [h];exact dig_not47 hd k
 ·rw [h]
  cases k with
  | zero => simp
  | succ k => rw [List.getElem?_cons_succ];exact dig_not47 hd k
theorem ratTxt_low {sg:Bool} {N D:Nat} (h:Nat.gcd N D=1):ratTxt sg N D=if D=1 then istr sg N else istr sg N ++ [47] ++ istr false D:=by
 unfold ratTxt;rw [h,Nat.div_one,Nat.div_one]
theorem ratTxt_of (sg:Bool) (N D:Nat) (hD:0 < D):∃ N' D',ratTxt sg N D=ratTxt sg N' D'∧Nat.gcd N' D'=1∧0 < D'∧N'≤N∧D'≤D∧(N'=0 ↔ N=0):=by
 have hg:0 < Nat.gcd N D:=Nat.gcd_pos_of_pos_right _ hD
 have h1:Nat.gcd (N / Nat.gcd N D) (D / Nat.gcd N D)=1:=Nat.gcd_div_gcd_div_gcd_of_pos_right hD
 refine ⟨N / Nat.gcd N D,D / Nat.gcd N D,?_,h1,Nat.div_pos (Nat.le_of_dvd hD (Nat.gcd_dvd_right _ _)) hg,Nat.div_le_self _ _,Nat.div_le_self _ _,?_⟩
 ·rw [ratTxt_low h1];rfl
 ·constructor
  ·intro h
   have:=Nat.div_mul_cancel (Nat.gcd_dvd_left N D)
   rw [h] at this;omega
  ·rintro rfl;simp
theorem rat_txt (sg:Bool) {N D:Nat} (hN:N < ten 1000) (hD:D < ten 1000) (h0:0 < D) (hg:Nat.gcd N D=1) :
  ratErr (mkB (ratTxt sg N D))=0∧ival (bl (numS (mkB (ratTxt sg N D))))=sgnv sg N∧ival (bl (denS (mkB (ratTxt sg N D))))=D:=by
 rw [ratTxt_low hg]
 by_cases h1:D=1
 ·rw [if_pos h1]
  have hs:=slash_not (istr_not47 sg N)
  refine ⟨?_,?_,?_⟩
  ·rw [ratErr,if_pos hs,bl_mkB];exact intErr_small hN
  ·rw [numS,if_pos hs,bl_mkB,ival_istr]
  ·rw [denS,if_pos hs,h1];decide
 ·rw [if_neg h1]
  have hs:=slash_is (m:=istr false D) (istr_not47 sg N)
  have hne : ¬ ((istr sg N).length:Int) = -1:=by omega
  have e1:(istr sg N ++ [47] ++ istr false D).take (istr sg N).length=istr sg N:=by rw [List.append_assoc,List.take_left'];rfl
  have e2:(istr sg N ++ [47] ++ istr false D).drop ((istr sg N).length+1)=istr false D:=by
   rw [List.drop_left'];simp
  refine ⟨?_,?_,?_⟩
  ·rw [ratErr,hs,if_neg hne,bl_mkB]
   show fracErr (List.take (istr sg N).length _) (List.drop ((istr sg N).length+1) _)=0
   rw [e1,e2]
   have hd:(istr false D).head? ≠ some 45:=by
    have:=isNeg_istr false D
    rw [isNeg,Bool.false_and] at this
    intro k;rw [k] at this;exact absurd this (by decide)
   have h48:istr false D ≠ [48]:=by
    intro k
    have h2:=(canon_zero (canon_istr false D)).1 k
    rw [dval_istr] at h2;omega
   have h49:istr false D ≠ [49]:=fun k => h1 ((istr_one D).1 k)
   unfold fracErr
   rw [if_neg (by rw [canon_istr];decide),if_neg (by rw [canon_istr];decide),if_neg hd,if_neg h48,if_neg h49,if_neg (fun k => k (intErr_small hN)),if_neg (fun k => k (intErr_small hD)),dval_istr,dval_istr,if_pos hg]
  ·rw [numS,hs,if_neg hne]
   show ival (bl ((mkB _).extract 0 (istr sg N).length))=_
   rw [bl_extract,bl_mkB,List.drop_zero,Nat.sub_zero,e1,ival_istr]
  ·rw [denS,hs,if_neg hne]
   show ival (bl ((mkB _).extract ((istr sg N).length+1) _))=_
   rw [bl_extract,bl_mkB,e2,mkB_size,List.take_of_length_le (by simp;omega),ival_istr];rfl
theorem rat_made (sg:Bool) {N D:Nat} (hN:N < ten 1000) (hD:D < ten 1000) (h0:0 < D):ratErr (mkB (ratTxt sg N D))=0:=by
 obtain ⟨N',D',e,hg,h1,h2,h3,_⟩:=ratTxt_of sg N D h0
 rw [e]
 exact (rat_txt sg (Nat.lt_of_le_of_lt h2 hN) (Nat.lt_of_le_of_lt h3 hD) h1 hg).1
theorem int_txt {l:List UInt8} (h:intErr l=0):l=istr (isNeg l) (dval (body l))∧dval (body l) < ten 1000:=⟨(canon_text (intErr_zero h).1).symm,intErr_text h⟩
theorem rat_is {t:ByteArray} (h:ratErr t=0):∃ sg N D,t=mkB (ratTxt sg N D)∧N < ten 1000∧D < ten 1000∧0 < D∧Nat.gcd N D=1∧(sg=true→N ≠ 0):=by
 unfold ratErr at h
 have hneg:∀ {l:List UInt8},intErr l=0→isNeg l=true→dval (body l) ≠ 0:=fun hl hn => neg_nz (intErr_zero hl).1 hn
 by_cases hs:slashI t = -1
 ·rw [if_pos hs] at h
  obtain ⟨h1,h2⟩:=int_txt h
  refine ⟨isNeg (bl t),dval (body (bl t)),1,mkB_bl ?_,h2,?_,by decide,Nat.gcd_one_right _,hneg h⟩
  ·rw [ratTxt_low (Nat.gcd_one_right _),if_pos rfl];exact h1
  ·have:ten 1≤ten 1000:=ten_mono (by decide)
   exact Nat.lt_of_lt_of_le (by decide) this
 ·rw [if_neg hs] at h
  rcases slash_cases t with k | ⟨o,k,ho⟩
  ·exact absurd k hs
  rw [k] at h
  have h47:=(slash_some k).1
  have et:bl t=(bl t).take o ++ [47] ++ (bl t).drop (o+1):=by
   obtain ⟨h1,h2⟩:=List.getElem?_eq_some_iff.1 h47
   conv => lhs;rw [← List.take_append_drop o (bl t),List.drop_eq_getElem_cons h1,h2]
   simp
  have h:fracErr ((bl t).take o) ((bl t).drop (o+1))=0:=h
  generalize (bl t).take o=n at h et
  generalize (bl t).drop (o+1)=d at h et
  unfold fracErr at h
  by_cases c1:canonI n=false
  ·rw [if_pos c1] at h;cases h
  rw [if_neg c1] at h
  by_cases c2:canonI d=false
  ·rw [if_pos c2] at h;cases h
  rw [if_neg c2] at h
  by_cases c3:d.head? = some 45
  ·rw [if_pos c3] at h;cases h
  rw [if_neg c3] at h
  by_cases c4:d=[48]
  ·rw [if_pos c4] at h;cases h
  rw [if_neg c4] at h
  by_cases c5:d=[49]
  ·rw [if_pos c5] at h;cases h
  rw [if_neg c5] at h
  by_cases c6:intErr n ≠ 0
  ·rw [if_pos c6] at h;cases h
  rw [if_neg c6] at h
  by_cases c7:intErr d ≠ 0
  ·rw [if_pos c7] at h;cases h
  rw [if_neg c7] at h
  by_cases c8:Nat.gcd (dval (body n)) (dval (body d))=1
  ·have k6:intErr n=0:=Decidable.not_not.1 c6
   have k7:intErr d=0:=Decidable.not_not.1 c7
   obtain ⟨n1,n2⟩:=int_txt k6
   obtain ⟨d1,d2⟩:=int_txt k7
   have hd:isNeg d=false:=by rw [isNeg];simpa using c3
   rw [hd] at d1
   have e1:dval (body d) ≠ 1:=fun e => c5 (by rw [d1,e];rfl)
   have e0:dval (body d) ≠ 0:=fun e => c4 ((canon_zero (intErr_zero k7).1).2 e)
   refine ⟨isNeg n,dval (body n),dval (body d),mkB_bl ?_,n2,d2,by omega,c8,hneg k6⟩
   rw [ratTxt_low c8,if_neg e1,et,← n1,← d1]
  ·rw [if_neg c8] at h;cases h
theorem ratTxt_neg (sg:Bool) {N D:Nat} (hD:0 < D):isNeg (ratTxt sg N D)=(sg && decide (N ≠ 0)):=by
 obtain ⟨N',D',e,hg,h1,h2,h3,h4⟩:=ratTxt_of sg N D hD
 have hz:decide (N ≠ 0)=decide (N' ≠ 0):=by rw [decide_eq_decide];exact ⟨fun k q => k (h4.1 q),fun k q => k (h4.2 q)⟩
 rw [e,hz,ratTxt_low hg,← isNeg_istr]
 split
 ·rfl
 ·have hl:=istr_pos sg N'
  cases hi:istr sg N' with
  | nil => rw [hi] at hl;exact absurd hl (by decide)
  | cons c l => rfl
theorem ratTxt_nil (sg:Bool) {N D:Nat} (hD:0 < D):ratTxt sg N D=[48] ↔ N=0:=by
 constructor
 ·intro h
  obtain ⟨N',D',e,hg,h1,h2,h3,h4⟩:=ratTxt_of sg N D hD
  rw [e,ratTxt_low hg] at h
  refine h4.1 ?_
  split at h
  ·have:=(canon_zero (canon_istr sg N')).1 h
   rwa [dval_istr] at this
  ·have hl:=istr_pos sg N'
   have:=congrArg List.length h
   simp at this
   omega
 ·rintro rfl
  unfold ratTxt
  rw [Nat.gcd_zero_left,Nat.div_self hD,if_pos rfl,Nat.zero_div];rfl
theorem ratTxt_drop {N D:Nat} (hD:0 < D) (hN:N ≠ 0):(ratTxt true N D).drop 1=ratTxt false N D:=by
 have key:∀ n,n ≠ 0→istr true n=45 :: istr false n:=fun n hn => by rw [istr_ne _ hn,istr_ne _ hn];rfl
 obtain ⟨N',D',e,hg,h1,h2,h3,h4⟩:=ratTxt_of true N D hD
 have e':ratTxt false N D=ratTxt false N' D':=by
  have hgn:Nat.gcd N D=Nat.gcd N D:=rfl
  unfold ratTxt at e ⊢
  rw [hg,Nat.div_one,Nat.div_one] at e ⊢
  have hN0:N / Nat.gcd N D ≠ 0:=by
   have:=Nat.div_mul_cancel (Nat.gcd_dvd_left N D)
   intro k;rw [k] at this;omega
  have hN':N' ≠ 0:=fun k => hN (h4.1 k)
  rw [key _ hN0,key _ hN'] at e
  by_cases a1:D / Nat.gcd N D=1
  ·by_cases a2:D'=1
   ·rw [if_pos a1,if_pos a2] at e ⊢;exact List.cons.inj e |>.2
   ·rw [if_pos a1,if_neg a2] at e;rw [if_pos a1,if_neg a2];exact (List.cons.inj e).2
  ·by_cases a2:D'=1
   ·rw [if_neg a1,if_pos a2] at e;rw [if_neg a1,if_pos a2];exact (List.cons.inj e).2
   ·rw [if_neg a1,if_neg a2] at e ⊢;exact (List.cons.inj e).2
 rw [e,e',ratTxt_low hg,ratTxt_low hg,key N' (fun k => hN (h4.1 k))]
 split <;> rfl
theorem zpos_lt {z:Int} (h:zErr z=0) (hz:0 < z):z.natAbs < ten 1000∧0 < z.natAbs:=⟨zErr_lt h,by omega⟩
theorem sumS_rat {a b:ByteArray} {z:Int} (h:sumE a b z=0):ratErr (mkB (sumS a b z))=0:=by
 rw [sumS,if_pos h]
 unfold sumE at h
 by_cases hb:bE a b ≠ 0
 ·rw [if_pos hb] at h;exact absurd h hb
 ·rw [if_neg hb] at h
  obtain ⟨ra,rb,_,_,_,ea,_,eb⟩:=bE_zero (Decidable.not_not.1 hb)
  split at h
  ·cases h
  ·rename_i h2
   have h3:zErr z=0:=Decidable.not_not.1 fun k => h2 (.inr (.inr (.inl k)))
   have h4:zErr (ival (bl (pD a)) * ival (bl (pD b)))=0:=Decidable.not_not.1 fun k => h2 (.inr (.inr (.inr k)))
   have hp:0 < ival (bl (pD a)) * ival (bl (pD b)):=by rw [ea,eb];exact Int.mul_pos (ival_den ra) (ival_den rb)
   obtain ⟨h5,h6⟩:=zpos_lt h4 hp
   exact rat_made _ (zErr_lt h3) h5 h6
theorem mulE_parts {a b:ByteArray} (h:mulE a b=0):ratErr a=0∧ratErr b=0∧zErr (ival (bl (numS a)) * ival (bl (numS b)))=0∧zErr (ival (bl (denS a)) * ival (bl (denS b)))=0 ∧
  mulS a b=ratTxt (decide (ival (bl (numS a)) * ival (bl (numS b)) < 0)) (ival (bl (numS a)) * ival (bl (numS b))).natAbs (ival (bl (denS a)) * ival (bl (denS b))).natAbs∧0 < ival (bl (denS a)) * ival (bl (denS b)):=by
 have h0:=h
 unfold mulE frE at h
 by_cases hb:bE a b ≠ 0
 ·rw [if_pos hb] at h;exact absurd h hb
 ·rw [if_neg hb] at h
  obtain ⟨ra,rb,_,_,na,ea,nb,eb⟩:=bE_zero (Decidable.not_not.1 hb)
  split at h
  ·cases h
  ·rename_i h2
   have h3:=Decidable.not_not.1 fun k => h2 (.inl k)
   have h4:=Decidable.not_not.1 fun k => h2 (.inr k)
   have hp:0 < ival (bl (denS a)) * ival (bl (denS b)):=Int.mul_pos (ival_den ra) (ival_den rb)
   rw [na,nb] at h3
   rw [ea,eb] at h4
   refine ⟨ra,rb,h3,h4,?_,hp⟩
   unfold mulE at h0
   rw [mulS,frS,if_pos h0,na,nb,ea,eb,decide_eq_false (show ¬ ival (bl (denS a)) * ival (bl (denS b)) < 0 by omega)]
   congr 1
   cases decide (ival (bl (numS a)) * ival (bl (numS b)) < 0) <;> rfl
theorem mulS_rat {a b:ByteArray} (h:mulE a b=0):ratErr (mkB (mulS a b))=0:=by
 obtain ⟨_,_,h3,h4,e,hp⟩:=mulE_parts h
 rw [e]
 obtain ⟨h5,h6⟩:=zpos_lt h4 hp
 exact rat_made _ (zErr_lt h3) h5 h6
theorem op2_rat {k:Nat} {a b:ByteArray} (ha:ratErr a=0) (hb:ratErr b=0) (h:(op2 k a b).1=0):ratErr (op2 k a b).2=0:=by
 unfold op2 at h ⊢
 by_cases h4:k=4
 ·rw [if_pos h4] at h ⊢;exact sumS_rat h
 rw [if_neg h4] at h ⊢
 by_cases h5:k=5
 ·rw [if_pos h5] at h ⊢;exact sumS_rat h
 rw [if_neg h5] at h ⊢
 by_cases h6:k=6
 ·rw [if_pos h6] at h ⊢;exact mulS_rat h
 rw [if_neg h6]
 by_cases h7:k=7
 ·rw [if_pos h7]
  show ratErr (if cmpV a b < 0 then b else a)=0
  split <;> assumption
 ·rw [if_neg h7]
  show ratErr (if cmpV b a < 0 then b else a)=0
  split <;> assumption
theorem value_rat {F:List Fx} (hF:∀ f ∈ F,ratErr f.vl=0) (day:Int):∀ (N:Nat) (x:Ex),x.bulk≤N→x.sort=1→(x.value F day).1=0→ratErr (x.value F day).2=0
 | 0,x,hN,_,_ => by have:=x.sub_lt;omega
 | N+1,.mk k ra nm d l,hN,hs,h0 => by
  have IH:∀ y ∈ l,y.sort=1→(y.value F day).1=0→ratErr (y.value F day).2=0:=fun y hy => value_rat hF day N y (by have:=Ex.mem_lt (x:=.mk k ra nm d l) hy;omega)
  have fk:∀ nm d,(fixR F nm d).1=0→ratErr (fixR F nm d).2=0:=fun nm d h => by
   rw [fixR_eq] at h ⊢
   cases hf:F.find? (fxIs ⟨nm,d,⟨#[]⟩⟩) with
   | none => rw [hf] at h;cases h
   | some f => exact hF f (List.mem_of_find?_eq_some hf)
  rcases num_cases hs with ⟨rfl,rfl,h3⟩ | ⟨rfl,rfl⟩ | ⟨rfl,rfl⟩ | ⟨rfl,p,y,z,rfl,h1,h2,h3⟩ | ⟨h4,h8,y,z,rfl,h1,h2⟩
  ·have e:(Ex.mk 1 ra nm d []).value F day=(0,ra):=by simp [Ex.value]
   rw [e];exact h3
  ·have e:(Ex.mk 2 ra nm d []).value F day=fixR F nm d:=by simp [Ex.value]
   rw [e] at h0 ⊢;exact fk _ _ h0
  ·have e:(Ex.mk 3 ra nm d []).value F day=fixR F nm day:=by simp [Ex.value]
   rw [e] at h0 ⊢;exact fk _ _ h0
  ·have e:(Ex.mk 9 ra nm d [p,y,z]).value F day=andR (p.hold F day) ByteArray.empty fun b => if b=true then y.value F day else z.value F day:=by
    rw [Ex.value,if_neg (by decide),if_neg (by decide),if_neg (by decide)]
   rw [e] at h0 ⊢
   obtain ⟨_,e2⟩:=andR_ok h0
   rw [e2] at h0 ⊢
   by_cases hb:(p.hold F day).2=true
   ·rw [if_pos hb] at h0 ⊢;exact IH y (by simp) h2 h0
   ·rw [if_neg hb] at h0 ⊢;exact IH z (by simp) h3 h0
  ·have e:(Ex.mk k ra nm d [y,z]).value F day=andR (y.value F day) ByteArray.empty fun a => andR (z.value F day) ByteArray.empty fun b => op2 k a b:=by
    rw [Ex.value,if_neg (by omega),if_neg (by omega),if_neg (by omega)]
   rw [e] at h0 ⊢
   obtain ⟨k1,e2⟩:=andR_ok h0
   rw [e2] at h0 ⊢
   obtain ⟨k2,e3⟩:=andR_ok h0
   rw [e3] at h0 ⊢
   exact op2_rat (IH y (by simp) h1 k1) (IH z (by simp) h2 k2) h0
def posA (am:ByteArray):Prop:=ratErr am=0∧0 < ival (bl (numS am))
theorem ratTxt_pos' {N D:Nat} (hN:N < ten 1000) (hD:D < ten 1000) (h0:0 < D) (hg:Nat.gcd N D=1) (hz:N ≠ 0):posA (mkB (ratTxt false N D)):=by
 obtain ⟨h1,h2,_⟩:=rat_txt false hN hD h0 hg
 refine ⟨h1,?_⟩
 rw [h2];show (0:Int) < (N:Int);omega
theorem paidS_posA {d:Int} {fr rc cy am:ByteArray} (h:ratErr am=0):∀ f ∈ paidS d fr rc cy am,posA f.am:=by
 obtain ⟨sg,N,D,rfl,hN,hD,h0,hg,hsg⟩:=rat_is h
 intro f hf
 unfold paidS at hf
 rw [bl_mkB] at hf
 split at hf
 ·cases hf
 ·rename_i hz'
  have hz:N ≠ 0:=fun k => hz' ((ratTxt_nil sg h0).2 k)
  rw [ratTxt_neg sg h0,decide_eq_true hz,Bool.and_true] at hf
  cases sg with
  | true =>
   rw [if_pos rfl,List.mem_singleton] at hf
   subst hf
   show posA (mkB _)
   rw [ratTxt_drop h0 hz]
   exact ratTxt_pos' hN hD h0 hg hz
  | false =>
   rw [if_neg (by decide),List.mem_singleton] at hf
   subst hf
   exact ratTxt_pos' hN hD h0 hg hz
end Go.Proofs.YthdeijdimfjceaaGreatDoor

namespace Go.Proofs.YthdeijdimfjceaaGreatDoor
open Go.RowKit
def rv (s:ByteArray):Rat:=Rat.divInt (ival (bl (numS s))) (ival (bl (denS s)))
theorem sgnv_times (sg:Bool) (a b:Nat):sgnv sg a * (b:Int)=sgnv sg (a * b):=by
 cases sg <;> simp [sgnv,Int.natCast_mul,Int.neg_mul]
theorem sgnv_of (z:Int):sgnv (decide (z < 0)) z.natAbs=z:=by
 by_cases h:z < 0
 ·rw [decide_eq_true h];simp [sgnv];omega
 ·rw [decide_eq_false h];simp [sgnv];omega
theorem rv_made (sg:Bool) {N D:Nat} (hN:N < ten 1000) (hD:D < ten 1000) (h0:0 < D):rv (mkB (ratTxt sg N D))=Rat.divInt (sgnv sg N) D:=by
 have hg:0 < Nat.gcd N D:=Nat.gcd_pos_of_pos_right _ h0
 have h1:Nat.gcd (N / Nat.gcd N D) (D / Nat.gcd N D)=1:=Nat.gcd_div_gcd_div_gcd_of_pos_right h0
 have e:ratTxt sg N D=ratTxt sg (N / Nat.gcd N D) (D / Nat.gcd N D):=by rw [ratTxt_low h1];rfl
 have e1:=Nat.div_mul_cancel (Nat.gcd_dvd_left N D)
 have e2:=Nat.div_mul_cancel (Nat.gcd_dvd_right N D)
 obtain ⟨_,h2,h3⟩:=rat_txt sg (Nat.lt_of_le_of_lt (Nat.div_le_self N (Nat.gcd N D)) hN) (Nat.lt_of_le_of_lt (Nat.div_le_self D (Nat.gcd N D)) hD) (Nat.div_pos (Nat.le_of_dvd h0 (Nat.gcd_dvd_right _ _)) hg) h1
 rw [e,rv,h2,h3,← Rat.divInt_mul_right (a:=((Nat.gcd N D:Nat):Int)) (by omega),sgnv_times,e1,← Int.natCast_mul,e2]
theorem rv_sum {a b:ByteArray} {z:Int} (h:sumE a b z=0):rv (mkB (sumS a b z))=Rat.divInt z (ival (bl (denS a)) * ival (bl (denS b)))∧ratErr a=0∧ratErr b=0:=by
 rw [sumS,if_pos h]
 unfold sumE at h
 by_cases hb:bE a b ≠ 0
 ·rw [if_pos hb] at h;exact absurd h hb
 ·rw [if_neg hb] at h
  obtain ⟨ra,rb,_,_,_,ea,_,eb⟩:=bE_zero (Decidable.not_not.1 hb)
  split at h
  ·cases h
  ·rename_i h2
   have h3:zErr z=0:=Decidable.not_not.1 fun k => h2 (.inr (.inr (.inl k)))
   have h4:zErr (ival (bl (pD a)) * ival (bl (pD b)))=0:=Decidable.not_not.1 fun k => h2 (.inr (.inr (.inr k)))
   have hp:0 < ival (bl (pD a)) * ival (bl (pD b)):=by rw [ea,eb];exact Int.mul_pos (ival_den ra) (ival_den rb)
   obtain ⟨h5,h6⟩:=zpos_lt h4 hp
   refine ⟨?_,ra,rb⟩
   rw [rv_made _ (zErr_lt h3) h5 h6,sgnv_of,Int.natAbs_of_nonneg (by omega),ea,eb]
theorem rv_add {a b:ByteArray} (h:sumE a b (addZ a b)=0):rv (mkB (sumS a b (addZ a b)))=rv a+rv b:=by
 obtain ⟨e,ra,rb⟩:=rv_sum h
 rw [e,rv,rv,Rat.divInt_add_divInt _ _ (by have:=ival_den ra;omega) (by have:=ival_den rb;omega),addZ,pN,pN,pD,pD,if_pos ra,if_pos rb,if_pos ra,if_pos rb]
theorem one_tens {k:Nat} (h:k ≠ 0):1 < ten k:=Nat.one_lt_pow h (by decide)
theorem one_ten:1 < ten 1000:=one_tens (by decide)
theorem rv_zero:rv ⟨#[48]⟩=0:=by
 have e:(⟨#[48]⟩:ByteArray)=mkB (ratTxt false 0 1):=rfl
 rw [e,rv_made _ (Nat.lt_trans Nat.zero_lt_one one_ten) one_ten (by decide)]
 exact Rat.zero_divInt _
theorem rv_nil {s:ByteArray} (h:ratErr s=0) (hz:rv s=0):bl s=[48]:=by
 obtain ⟨sg,N,D,rfl,h1,h2,h3,h4,_⟩:=rat_is h
 rw [rv_made sg h1 h2 h3,← Rat.zero_divInt 1,Rat.divInt_eq_divInt_iff (by omega) (by decide)] at hz
 have hN:N=0:=by cases sg <;> simp [sgnv] at hz <;> omega
 rw [bl_mkB]
 exact (ratTxt_nil sg h3).2 hN
def part (p c:ByteArray) (f:Fl):Rat:=if f.cy ≠ c then 0 else if f.rc=p then rv f.am else if f.fr=p then -rv f.am else 0
end Go.Proofs.YthdeijdimfjceaaGreatDoor

namespace Go.Proofs.YthdeijdimfjceaaGreatDoor
open Go.RowKit
theorem sgnv_inj {sg sg':Bool} {N N':Nat} (h:sgnv sg N=sgnv sg' N') (h1:sg=true→N ≠ 0) (h2:sg'=true→N' ≠ 0):sg=sg'∧N=N':=by
 cases sg <;> cases sg' <;> simp [sgnv] at h h1 h2 ⊢ <;> omega
theorem rv_inj {a b:ByteArray} (ha:ratErr a=0) (hb:ratErr b=0) (h:rv a=rv b):a=b:=by
 obtain ⟨sg,N,D,rfl,h1,h2,h3,h4,h5⟩:=rat_is ha
 obtain ⟨sg',N',D',rfl,k1,k2,k3,k4,k5⟩:=rat_is hb
 rw [rv_made sg h1 h2 h3,rv_made sg' k1 k2 k3] at h
 have e1:(sgnv sg N).natAbs.Coprime D:=by
  have:(sgnv sg N).natAbs=N:=by cases sg <;> simp [sgnv]
  rw [this];exact h4
 have e2:(sgnv sg' N').natAbs.Coprime D':=by
  have:(sgnv sg' N').natAbs=N':=by cases sg' <;> simp [sgnv]
  rw [this];exact k4
 rw [← Rat.mk_eq_divInt (nz:=by omega) (c:=e1),← Rat.mk_eq_divInt (nz:=by omega) (c:=e2)] at h
 injection h with q1 q2
 obtain ⟨rfl,rfl⟩:=sgnv_inj q1 h5 k5
 subst q2
 rfl
theorem rv_signs {z y:Int} (hz:z.natAbs < ten 1000) (hy:y.natAbs < ten 1000) (h0:y ≠ 0):rv (mkB (ratTxt (!(decide (z < 0) == decide (y < 0))) z.natAbs y.natAbs))=Rat.divInt z y:=by
 rw [rv_made _ hz hy (by omega),Rat.divInt_eq_divInt_iff (by omega) h0]
 by_cases a:z < 0
 ·by_cases b:y < 0
  ·rw [decide_eq_true a,decide_eq_true b]
   simp only [beq_self_eq_true,Bool.not_true,sgnv]
   have e1:((z.natAbs:Nat):Int) = -z:=by omega
   have e2:((y.natAbs:Nat):Int) = -y:=by omega
   rw [e1,e2];simp [Int.neg_mul,Int.mul_neg]
  ·rw [decide_eq_true a,decide_eq_false b]
   have e1:((z.natAbs:Nat):Int) = -z:=by omega
   have e2:((y.natAbs:Nat):Int)=y:=by omega
   simp [sgnv,e1,e2]
 ·by_cases b:y < 0
  ·rw [decide_eq_false a,decide_eq_true b]
   have e1:((z.natAbs:Nat):Int)=z:=by omega
   have e2:((y.natAbs:Nat):Int) = -y:=by omega
   show sgnv true z.natAbs * y=z * ((y.natAbs:Nat):Int)
   rw [e2];unfold sgnv;rw [if_pos rfl,e1];simp [Int.neg_mul,Int.mul_neg]
  ·rw [decide_eq_false a,decide_eq_false b]
   have e1:((z.natAbs:Nat):Int)=z:=by omega
   have e2:((y.natAbs:Nat):Int)=y:=by omega
   show sgnv false z.natAbs * y=z * ((y.natAbs:Nat):Int)
   rw [e2];unfold sgnv;rw [if_neg (by decide),e1]
theorem fr_parts {a b:ByteArray} {z y:Int} (h:frE a b z y=0):ratErr a=0∧ratErr b=0∧zErr z=0∧zErr y=0∧frS a b z y=ratTxt (!(decide (z < 0) == decide (y < 0))) z.natAbs y.natAbs:=by
 have h0:=h
 unfold frE at h
 by_cases hb:bE a b ≠ 0
 ·rw [if_pos hb] at h;exact absurd h hb
 ·rw [if_neg hb] at h
  obtain ⟨ra,rb,_⟩:=bE_zero (Decidable.not_not.1 hb)
  split at h
  ·cases h
  ·rename_i h2
   exact ⟨ra,rb,Decidable.not_not.1 fun k => h2 (.inl k),Decidable.not_not.1 fun k => h2 (.inr k),by rw [frS,if_pos h0]⟩
theorem fr_rat {a b:ByteArray} {z y:Int} (h:frE a b z y=0) (hy:y ≠ 0):ratErr (mkB (frS a b z y))=0∧rv (mkB (frS a b z y))=Rat.divInt z y:=by
 obtain ⟨_,_,h1,h2,e⟩:=fr_parts h
 rw [e]
 exact ⟨rat_made _ (zErr_lt h1) (zErr_lt h2) (by omega),rv_signs (zErr_lt h1) (zErr_lt h2) hy⟩
theorem fr_two {a b:ByteArray} {z y:Int} (ha:ratErr a=0) (hb:ratErr b=0):frE a b z y=0∨frE a b z y=14:=by
 unfold frE
 rw [if_neg (fun k => k (by rw [bE,if_pos ha];exact hb))]
 split
 ·exact .inr rfl
 ·exact .inl rfl
theorem num_zero {b:ByteArray} (hb:ratErr b=0):ival (bl (numS b))=0 ↔ rv b=0:=by
 have hd:=ival_den hb
 unfold rv
 rw [← Rat.zero_divInt 1,Rat.divInt_eq_divInt_iff (by omega) (by decide)]
 omega
theorem rv_mul {a b:ByteArray} (h:mulE a b=0):ratErr (mkB (mulS a b))=0∧rv (mkB (mulS a b))=rv a * rv b:=by
 have h':=h
 unfold mulE at h
 obtain ⟨ra,rb,_⟩:=fr_parts h
 have hp:(0:Int) < ival (bl (denS a)) * ival (bl (denS b)):=Int.mul_pos (ival_den ra) (ival_den rb)
 have e:ival (bl (pD a)) * ival (bl (pD b))=ival (bl (denS a)) * ival (bl (denS b)):=by rw [pD,pD,if_pos ra,if_pos rb]
 have h1:=fr_rat h (by rw [e];omega)
 refine ⟨mulS_rat h',?_⟩
 rw [mulS,h1.2,e,pN,pN,if_pos ra,if_pos rb,rv,rv,Rat.divInt_mul_divInt]
theorem mul_two {a b:ByteArray} (ha:ratErr a=0) (hb:ratErr b=0):mulE a b=0∨mulE a b=14:=fr_two ha hb
theorem rv_div {a b:ByteArray} (h:divE a b=0):ratErr (mkB (divS a b))=0∧rv (mkB (divS a b)) * rv b=rv a∧rv b ≠ 0:=by
 unfold divE at h
 by_cases h0:bE a b=0∧bl (pN b)=[48]
 ·rw [if_pos h0] at h;cases h
 ·rw [if_neg h0] at h
  obtain ⟨ra,rb,_⟩:=fr_parts h
  have hb:bE a b=0:=by rw [bE,if_pos ra];exact rb
  have hn:rv b ≠ 0:=fun e => h0 ⟨hb,by
   have h1:=rv_nil rb e
   rw [pN,if_pos rb]
   have:numS b=b:=by
    have hb':b=⟨#[48]⟩:=bl_inj h1
    rw [hb'];decide
   rw [this];exact h1⟩
  have hz:ival (bl (numS b)) ≠ 0:=fun e => hn ((num_zero rb).1 e)
  have ep:ival (bl (pD a)) * ival (bl (pN b))=ival (bl (denS a)) * ival (bl (numS b)):=by rw [pD,pN,if_pos ra,if_pos rb]
  have hy:ival (bl (denS a)) * ival (bl (numS b)) ≠ 0:=fun e => by
   rcases Int.mul_eq_zero.1 e with e | e
   ·have:=ival_den ra;omega
   ·exact hz e
  obtain ⟨h1,h2⟩:=fr_rat h (by rw [ep];exact hy)
  rw [divS,if_neg h0]
  refine ⟨h1,?_,hn⟩
  rw [h2,ep,pN,pD,if_pos ra,if_pos rb,rv,rv,Rat.divInt_mul_divInt]
  have hda:=ival_den ra
  have hdb:=ival_den rb
  rw [Rat.divInt_eq_divInt_iff (fun e => by
   rcases Int.mul_eq_zero.1 e with e | e
   ·exact hy e
   ·omega) (by omega)]
  grind
theorem div_two {a b:ByteArray} (ha:ratErr a=0) (hb:ratErr b=0) (h0:bl b ≠ [48]):divE a b=0∨divE a b=14:=by
 unfold divE
 have h1 : ¬ (bE a b=0∧bl (pN b)=[48]):=fun ⟨_,k⟩ => by
  rw [pN,if_pos hb] at k
  have hz:rv b=0:=(num_zero hb).1 (by rw [k];decide)
  exact h0 (rv_nil hb hz)
 rw [if_neg h1]
 exact fr_two ha hb
theorem rv_one:rv ⟨#[49]⟩=1:=by
 have e:(⟨#[49]⟩:ByteArray)=mkB (ratTxt false 1 1):=by decide
 rw [e,rv_made _ one_ten one_ten (by decide)]
 rfl
theorem rv_neg1:rv ⟨#[45,49]⟩ = -1:=by
 have e:(⟨#[45,49]⟩:ByteArray)=mkB (ratTxt true 1 1):=by decide
 rw [e,rv_made _ one_ten one_ten (by decide)]
 rfl
theorem add_two {a b:ByteArray} (z:Int) (ha:ratErr a=0) (hb:ratErr b=0):sumE a b z=0∨sumE a b z=14:=by
 unfold sumE
 rw [if_neg (fun k => k (by rw [bE,if_pos ha];exact hb))]
 split
 ·exact .inr rfl
 ·exact .inl rfl
end Go.Proofs.YthdeijdimfjceaaGreatDoor

namespace Go.Proofs.YthdeijdimfjceaaGreatDoor
open Go.RowKit
instance (k:Nat) (ra nm:ByteArray) (d:Int) (n:Nat):Decidable (leafOk k ra nm d n):=by unfold leafOk;infer_instance
def sortOfB (k:Nat) (ra nm:ByteArray) (d:Int) (l:List Nat):Nat :=
 match shapeOf k with
 | none => if leafOk k ra nm d l.length then 1 else 0
 | some (ps,own) => if ra.size=0∧nm.size=0∧d=0∧l=ps then own else 0
theorem sortOfB_eq (k:Nat) (ra nm:ByteArray) (d:Int) (l:List Nat):sortOf k ra nm d l=sortOfB k ra nm d l:=by
 unfold sortOf sortOfB leafSort partSort
 cases shapeOf k with
 | none =>
  simp only
  by_cases h:leafOk k ra nm d l.length
  ·rw [if_pos h,if_pos h]
  ·rw [if_neg h,if_neg h]
 | some p => rfl
mutual
def Ex.sortB:Ex→Nat
 | .mk k r n d l => sortOfB k r n d (Ex.sortsB l)
def Ex.sortsB:List Ex→List Nat
 | [] => []
 | x :: l => Ex.sortB x :: Ex.sortsB l
end
mutual
theorem Ex.sortB_eq:∀ x:Ex,x.sort=x.sortB
 | .mk k r n d l => by rw [Ex.sort,Ex.sortB,Ex.sortsB_eq l,sortOfB_eq]
theorem Ex.sortsB_eq:∀ l:List Ex,Ex.sorts l=Ex.sortsB l
 | [] => by rw [Ex.sorts,Ex.sortsB]
 | x :: l => by rw [Ex.sorts,Ex.sortsB,Ex.sortB_eq x,Ex.sortsB_eq l]
end
def Ex.errB (x:Ex):Int:=if 500 < x.size∨60 < x.depth then 4 else if x.sortB=0 then 8 else 0
def Ex.isAB (x:Ex) (t:Nat):Bool:=decide (x.errB=0) && decide (x.sortB=t)
theorem Ex.isAB_eq (x:Ex) (t:Nat):x.isA t=x.isAB t:=by unfold Ex.isA Ex.isAB Ex.err Ex.errB;rw [Ex.sortB_eq]
def nodeOkB (c:Con):Bool :=
 let nobody:=decide (c.fr.size=0)
 let noTo:=decide (c.rc.size=0)
 let noName:=decide (c.nm.size=0)
 let noDate:=decide (c.d=0)
 let noDays:=decide (c.ds.length=0)
 let n:=c.sub.length
 if c.k=1 then decide (n=0) && (nobody && (noTo && (noName && (noDate && (noDays && c.ex.bare)))))
 else if c.k=2 then decide (n=0) && (isNm (bl c.fr) && (isNm (bl c.rc) && (!decide (c.fr=c.rc) && (isNm (bl c.nm) && (c.ex.isAB 1 && (noDate && noDays))))))
 else if c.k=3 then decide (n=2) && (nobody && (noTo && (noName && (noDate && (noDays && c.ex.bare)))))
 else if c.k=4 then decide (n=1) && (nobody && (noTo && (noName && (noDate && (noDays && c.ex.isAB 1)))))
 else if c.k=5 then decide (n=2) && (nobody && (noTo && (noName && (noDate && (noDays && c.ex.isAB 2)))))
 else if c.k=6 then decide (n=1) && (nobody && (noTo && (noName && (isDay c.d && (noDays && c.ex.bare)))))
 else if c.k=7 then decide (n=2) && (isNm (bl c.fr) && (noTo && (isNm (bl c.nm) && (noDate && (noDays && c.ex.bare)))))
 else if c.k=8 then decide (n=1) && (isNm (bl c.fr) && (noTo && (isNm (bl c.nm) && (noDate && (isDays c.ds && c.ex.bare)))))
 else if c.k=9∨c.k=10 then decide (n=1) && (nobody && (noTo && (noName && (noDate && (isDays c.ds && c.ex.isAB 2)))))
 else false
theorem nodeOkB_eq (c:Con):nodeOk c=nodeOkB c:=by unfold nodeOk nodeOkB;simp only [Ex.isAB_eq]
mutual
def Con.formedB:Con→Bool
 | .mk k fr rc nm ex d ds l => nodeOkB (.mk k fr rc nm ex d ds l) && Con.formedsB l
def Con.formedsB:List Con→Bool
 | [] => true
 | x :: l => Con.formedB x && Con.formedsB l
end
mutual
theorem Con.formedB_eq:∀ x:Con,x.formed=x.formedB
 | .mk k fr rc nm ex d ds l => by rw [Con.formed,Con.formedB,Con.formedsB_eq l,nodeOkB_eq]
theorem Con.formedsB_eq:∀ l:List Con,Con.formeds l=Con.formedsB l
 | [] => by rw [Con.formeds,Con.formedsB]
 | x :: l => by rw [Con.formeds,Con.formedsB,Con.formedB_eq x,Con.formedsB_eq l]
end
def Con.errB (x:Con):Int:=if 500 < x.size∨60 < x.depth then 4 else if x.formedB=true then 0 else 8
theorem Con.errB_eq (x:Con):x.err=x.errB:=by unfold Con.err Con.errB;rw [Con.formedB_eq]
end Go.Proofs.YthdeijdimfjceaaGreatDoor

namespace Go.Proofs.YthdeijdimfjceaaGreatDoor
open Go.RowKit
def m0:ByteArray:=⟨#[48]⟩
def m1:ByteArray:=⟨#[49]⟩
def m2:ByteArray:=⟨#[50]⟩
def m3:ByteArray:=⟨#[51]⟩
end Go.Proofs.YthdeijdimfjceaaGreatDoor

namespace Go.Proofs.YthdeijdimfjceaaGreatDoor
open Go.RowKit
theorem befR_ok {c:Con} (h:c.err=0) (day fin:Int) (F:List Fx) (C:List Ch):befR c day fin F C=if envErr F C ≠ 0 then (envErr F C,[]) else if day < 0∨99999 < day∨fin < 0∨100000 < fin then (2,[]) else andR (c.flows F C day fin) [] fun l => (0,srtFl l):=if_neg fun k => k h
end Go.Proofs.YthdeijdimfjceaaGreatDoor

namespace Go.Proofs.YthdeijdimfjceaaGreatDoor
open Go.RowKit
theorem befR_len (c:Con) (day fin:Int) (F:List Fx) (C:List Ch):(befR c day fin F C).2.length≤c.bulk:=by
 unfold befR
 repeat' split
 all_goals first
  | exact Nat.zero_le _
  | skip
 unfold andR
 split
 ·exact Nat.zero_le _
 ·show (srtFl _).length≤_
  rw [srtFl_len]
  exact flows_len F C c.bulk c (Nat.le_refl _) day fin
end Go.Proofs.YthdeijdimfjceaaGreatDoor
