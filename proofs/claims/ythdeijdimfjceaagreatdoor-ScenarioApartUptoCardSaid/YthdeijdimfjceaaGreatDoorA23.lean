/- A part. -/
import Derived.Test.YthdeijdimfjceaaGreatDoorA22
namespace Go.Proofs.YthdeijdimfjceaaGreatDoor
open Go.RowKit
def scnE (b:Bool):Int:=if b then 0 else 8
set_option maxHeartbeats 8000000 in
set_option maxRecDepth 100000 in
theorem scnChk_any (l:List Sh) (ad:Option Addr) (cap:Nat) (w:World) (_hn:l.length≤1100000) (hr:Rd Sh.cells 4 w ad l) (hs:∀ f ∈ l,f.small) :
  Calls Tryz.prog 10 #[.agg #[.slice ad l.length cap]] w fun e w' => e = .returned (.int .i64 (scnE (scnB l)))∧Below w.heap.size w w':=by
 have HR:=Lib.hid hr
 have HS:=Lib.hid hs
 clear hr hs
 have hb0:=below_a1 w (.cells #[.slice ad l.length cap] 28)
 by_cases h1:100 < l.length
 ·have HE:=Lib.hid (scnB_long h1)
  have t1:decide ((100:Int) < (l.length:Int))=true:=by rw [decide_eq_true_eq];omega
  clear h1
  rw [HE.out]
  go_enter Tryz.func10,Tryz.ntmps10
  go_wp2
  go_ret
  exact ⟨rfl,hb0⟩
 ·have t1:decide ((100:Int) < (l.length:Int))=false:=by rw [decide_eq_false_iff_not];omega
  have HL:=Lib.hid h1
  have hl5:l.length≤100:=by omega
  clear h1
  go_enter Tryz.func10,Tryz.ntmps10
  go_wp2_with fail
  go_loopw [12] (fun i wr => ∃ k:Nat,k≤l.length∧i = .int .i64 k∧Hid ((∀ y ∈ l.take k,shBad y=false)∧incB shLt (l.take k)=true)∧Below w.heap.size w wr∧wr.cell? ⟨w.heap.size,0,none⟩=some (.slice ad l.length cap)) (fun i _ => l.length - (intOf i).toNat)
  case atStart => exact ⟨0,Nat.zero_le _,rfl,Lib.hid ⟨by simp,rfl⟩,hb0,by go_simp⟩
  case round =>
   clear hb0
   obtain ⟨k,hk,rfl,HI,hbel,q0⟩:=hrel
   by_cases hlt:k < l.length
   ·obtain ⟨f,hf⟩:∃ f,l[k]? = some f:=⟨_,List.getElem?_eq_getElem hlt⟩
    obtain ⟨b,off,rfl,c0,c1,c2,c3⟩:=(HR.out.below hbel).sh hf
    obtain ⟨s1,s2,s3⟩:=HS.out f (List.mem_of_getElem? hf)
    have HF:=Lib.hid hf
    clear hf
    have hsz:=hbel.size
    have hblk:b < wr.heap.size:=World.block_lt_of_cell? wr _ c0
    have hbx:w.heap.size < wr.heap.size:=World.block_lt_of_cell? wr _ q0
    have HBL:=Lib.hid hbel
    have HN:=Lib.hid (fun W => name_any f.nm W (by omega))
    have HC:Hid (∀ W (s:ByteArray),s.size≤1100000→Calls Tryz.prog 36 #[.string s] W fun e w' => e = .returned (.int .i64 (ratErr s))∧Below W.heap.size W w'):=fun W s h => rat_any s W (by omega)
    have HO:=Lib.hid (fun W => rof_zero W)
    unfold OfPost at HO
    have HBad:Hid (¬ shGood f→scnB l=false):=fun h => scnB_bad HF.out h
    obtain ⟨a1,h1⟩:∃ a,a=isNm (bl f.nm):=⟨_,rfl⟩
    obtain ⟨dy,h2⟩:∃ a,a=isDay f.fr:=⟨_,rfl⟩
    rw [← h1] at HN
    have HG:Hid (shGood f ↔ (a1=true∧dy=true∧ratErr f.ra=0∧bl f.ra ≠ [48]∧ratErr f.ex=0)):=by show _ ↔ _;rw [h1,h2];exact Iff.rfl
    have HDy:Hid (dy=true ↔ 0≤f.fr∧f.fr≤99999):=by show _ ↔ _;rw [h2];simp [isDay]
    have HOkk:Hid (shGood f→∀ y ∈ l.take (k+1),shBad y=false):=fun h => all_take_succ HF.out (shBad_ok h) HI.out.1
    clear h1 h2 hbel
    rcases Nat.eq_zero_or_pos k with hk0 | hk0
    ·have t0:decide ((0:Int) < (k:Int))=false:=by rw [decide_eq_false_iff_not];omega
     have t0b:decide (0 < k)=false:=by rw [decide_eq_false_iff_not];omega
     have t0c : ¬ 0 < k:=by omega
     have HOrd:Hid (incB shLt (l.take (k+1))=true):=by show _=_;rw [hk0];exact incB_le_one (by rw [List.length_take];omega)
     have hk1:(0:Int)≤(k:Int):=by omega
     have hk2:(k:Int) < (l.length:Int):=by omega
     clear hk0 HI HF
     generalize f.nm=nm at *
     generalize f.fr=fr at *
     generalize f.ra=ra at *
     generalize f.ex=ex2 at *
     obtain ⟨na,rfl⟩:∃ o,a1 = !o:=⟨!a1,by simp⟩
     obtain ⟨d1,hd1⟩:∃ o,decide (fr < 0)=o:=⟨_,rfl⟩
     obtain ⟨d2,hd2⟩:∃ o,decide (99999 < fr)=o:=⟨_,rfl⟩
     obtain ⟨g1,hg1⟩:∃ o,(ratErr ra != 0)=o:=⟨_,rfl⟩
     obtain ⟨z1,hz1⟩:∃ o,(ra.toList == [48])=o:=⟨_,rfl⟩
     obtain ⟨g2,hg2⟩:∃ o,(ratErr ex2 != 0)=o:=⟨_,rfl⟩
     go_wp2
     refine wp_region_ext (fun W' => W'.cell? ⟨w.heap.size,0,none⟩=some (.slice (some ⟨b,off,none⟩) l.length cap)∧W'.cell? ⟨wr.heap.size,0,none⟩=some (.string nm)∧W'.cell? ⟨wr.heap.size,1,none⟩=some (.int .i64 fr)∧W'.cell? ⟨wr.heap.size,2,none⟩=some (.string ra)∧W'.cell? ⟨wr.heap.size,3,none⟩=some (.string ex2)) (fun W' hW' => ⟨hW'.cell (by go_simp),hW'.cell (by go_simp),hW'.cell (by go_simp),hW'.cell (by go_simp),hW'.cell (by go_simp)⟩) (by kernel_rfl) (by kernel_rfl) ?_
     intro HCW
     repeat (first | go_big_quiet_skip | (go_big_quiet_want;apply Exists.intro;refine ⟨fun W hW => ?_,?_⟩;(focus (obtain ⟨p0,p1,p2,p3,p4⟩:=HCW W hW;go_simp;first | done | rfl | with_reducible exact ext_same HN.out W hW | with_reducible exact ext_calls (fun W => HC.out W _ (by assumption)) W hW | with_reducible exact ext_calls HO.out W hW));(simp only [Act.put,List.setIfInBounds_toArray,List.set_cons_zero,List.set_cons_succ]);go_big_quiet_on))
     cases na with
     | true =>
      have HE:=Lib.hid (HBad.out (fun h => by have:=(HG.out.1 h).1;cases this))
      clear HBad HG HDy HOkk HOrd
      repeat (first | go_big_quiet_skip | (go_big_quiet_want;apply Exists.intro;refine ⟨fun W hW => ?_,?_⟩;(focus (obtain ⟨p0,p1,p2,p3,p4⟩:=HCW W hW;go_simp;first | done | rfl | with_reducible exact ext_same HN.out W hW | with_reducible exact ext_calls (fun W => HC.out W _ (by assumption)) W hW | with_reducible exact ext_calls HO.out W hW));(simp only [Act.put,List.setIfInBounds_toArray,List.set_cons_zero,List.set_cons_succ]);go_big_quiet_on))
      refine wpQuiet_nil ?_
      intro W hW
      obtain ⟨p0,p1,p2,p3,p4⟩:=HCW W hW
      have hW:=hW.below
      have hz:=hW.size
      simp at hz
      go_wp2
      go_ret
      exact ⟨by rw [HE.out];rfl,(HBL.out.alloc (by have:=HBL.out.size;omega) _).trans (hW.mono (by simp;have:=HBL.out.size;omega))⟩
     | false =>
      repeat (first | go_big_quiet_skip | (go_big_quiet_want;apply Exists.intro;refine ⟨fun W hW => ?_,?_⟩;(focus (obtain ⟨p0,p1,p2,p3,p4⟩:=HCW W hW;go_simp;first | done | rfl | with_reducible exact ext_same HN.out W hW | with_reducible exact ext_calls (fun W => HC.out W _ (by assumption)) W hW | with_reducible exact ext_calls HO.out W hW));(simp only [Act.put,List.setIfInBounds_toArray,List.set_cons_zero,List.set_cons_succ]);go_big_quiet_on))
      have HOrd2:=HOrd
      cases d1 with
      | true =>
       have HE:=Lib.hid (HBad.out (fun h => by have:=(HDy.out.1 (HG.out.1 h).2.1).1;have:=of_decide_eq_true hd1;omega))
       clear HBad HG HDy HOkk HOrd
       repeat (first | go_big_quiet_skip | (go_big_quiet_want;apply Exists.intro;refine ⟨fun W hW => ?_,?_⟩;(focus (obtain ⟨p0,p1,p2,p3,p4⟩:=HCW W hW;go_simp;first | done | rfl | with_reducible exact ext_same HN.out W hW | with_reducible exact ext_calls (fun W => HC.out W _ (by assumption)) W hW | with_reducible exact ext_calls HO.out W hW));(simp only [Act.put,List.setIfInBounds_toArray,List.set_cons_zero,List.set_cons_succ]);go_big_quiet_on))
       refine wpQuiet_nil ?_
       intro W hW
       obtain ⟨p0,p1,p2,p3,p4⟩:=HCW W hW
       have hW:=hW.below
       have hz:=hW.size
       simp at hz
       go_wp2
       go_ret
       exact ⟨by rw [HE.out];rfl,(HBL.out.alloc (by have:=HBL.out.size;omega) _).trans (hW.mono (by simp;have:=HBL.out.size;omega))⟩
      | false =>
       repeat (first | go_big_quiet_skip | (go_big_quiet_want;apply Exists.intro;refine ⟨fun W hW => ?_,?_⟩;(focus (obtain ⟨p0,p1,p2,p3,p4⟩:=HCW W hW;go_simp;first | done | rfl | with_reducible exact ext_same HN.out W hW | with_reducible exact ext_calls (fun W => HC.out W _ (by assumption)) W hW | with_reducible exact ext_calls HO.out W hW));(simp only [Act.put,List.setIfInBounds_toArray,List.set_cons_zero,List.set_cons_succ]);go_big_quiet_on))
       cases d2 with
       | true =>
        have HE:=Lib.hid (HBad.out (fun h => by have:=(HDy.out.1 (HG.out.1 h).2.1).2;have:=of_decide_eq_true hd2;omega))
        clear HBad HG HDy HOkk HOrd
        repeat (first | go_big_quiet_skip | (go_big_quiet_want;apply Exists.intro;refine ⟨fun W hW => ?_,?_⟩;(focus (obtain ⟨p0,p1,p2,p3,p4⟩:=HCW W hW;go_simp;first | done | rfl | with_reducible exact ext_same HN.out W hW | with_reducible exact ext_calls (fun W => HC.out W _ (by assumption)) W hW | with_reducible exact ext_calls HO.out W hW));(simp only [Act.put,List.setIfInBounds_toArray,List.set_cons_zero,List.set_cons_succ]);go_big_quiet_on))
        refine wpQuiet_nil ?_
        intro W hW
        obtain ⟨p0,p1,p2,p3,p4⟩:=HCW W hW
        have hW:=hW.below
        have hz:=hW.size
        simp at hz
        go_wp2
        go_ret
        exact ⟨by rw [HE.out];rfl,(HBL.out.alloc (by have:=HBL.out.size;omega) _).trans (hW.mono (by simp;have:=HBL.out.size;omega))⟩
       | false =>
        repeat (first | go_big_quiet_skip | (go_big_quiet_want;apply Exists.intro;refine ⟨fun W hW => ?_,?_⟩;(focus (obtain ⟨p0,p1,p2,p3,p4⟩:=HCW W hW;go_simp;first | done | rfl | with_reducible exact ext_same HN.out W hW | with_reducible exact ext_calls (fun W => HC.out W _ (by assumption)) W hW | with_reducible exact ext_calls HO.out W hW));(simp only [Act.put,List.setIfInBounds_toArray,List.set_cons_zero,List.set_cons_succ]);go_big_quiet_on))
        cases g1 with
        | true =>
         have HE:=Lib.hid (HBad.out (fun h => by have:=(HG.out.1 h).2.2.1;rw [this] at hg1;cases hg1))
         clear HBad HG HDy HOkk HOrd
         repeat (first | go_big_quiet_skip | (go_big_quiet_want;apply Exists.intro;refine ⟨fun W hW => ?_,?_⟩;(focus (obtain ⟨p0,p1,p2,p3,p4⟩:=HCW W hW;go_simp;first | done | rfl | with_reducible exact ext_same HN.out W hW | with_reducible exact ext_calls (fun W => HC.out W _ (by assumption)) W hW | with_reducible exact ext_calls HO.out W hW));(simp only [Act.put,List.setIfInBounds_toArray,List.set_cons_zero,List.set_cons_succ]);go_big_quiet_on))
         refine wpQuiet_nil ?_
         intro W hW
         obtain ⟨p0,p1,p2,p3,p4⟩:=HCW W hW
         have hW:=hW.below
         have hz:=hW.size
         simp at hz
         go_wp2
         go_ret
         exact ⟨by rw [HE.out];rfl,(HBL.out.alloc (by have:=HBL.out.size;omega) _).trans (hW.mono (by simp;have:=HBL.out.size;omega))⟩
        | false =>
         repeat (first | go_big_quiet_skip | (go_big_quiet_want;apply Exists.intro;refine ⟨fun W hW => ?_,?_⟩;(focus (obtain ⟨p0,p1,p2,p3,p4⟩:=HCW W hW;go_simp;first | done | rfl | with_reducible exact ext_same HN.out W hW | with_reducible exact ext_calls (fun W => HC.out W _ (by assumption)) W hW | with_reducible exact ext_calls HO.out W hW));(simp only [Act.put,List.setIfInBounds_toArray,List.set_cons_zero,List.set_cons_succ]);go_big_quiet_on))
         cases z1 with
         | true =>
          have HE:=Lib.hid (HBad.out (fun h => (HG.out.1 h).2.2.2.1 (by rw [Lib.toList_data] at hz1;exact eq_of_beq hz1)))
          clear HBad HG HDy HOkk HOrd
          repeat (first | go_big_quiet_skip | (go_big_quiet_want;apply Exists.intro;refine ⟨fun W hW => ?_,?_⟩;(focus (obtain ⟨p0,p1,p2,p3,p4⟩:=HCW W hW;go_simp;first | done | rfl | with_reducible exact ext_same HN.out W hW | with_reducible exact ext_calls (fun W => HC.out W _ (by assumption)) W hW | with_reducible exact ext_calls HO.out W hW));(simp only [Act.put,List.setIfInBounds_toArray,List.set_cons_zero,List.set_cons_succ]);go_big_quiet_on))
          refine wpQuiet_nil ?_
          intro W hW
          obtain ⟨p0,p1,p2,p3,p4⟩:=HCW W hW
          have hW:=hW.below
          have hz:=hW.size
          simp at hz
          go_wp2
          go_ret
          exact ⟨by rw [HE.out];rfl,(HBL.out.alloc (by have:=HBL.out.size;omega) _).trans (hW.mono (by simp;have:=HBL.out.size;omega))⟩
         | false =>
          repeat (first | go_big_quiet_skip | (go_big_quiet_want;apply Exists.intro;refine ⟨fun W hW => ?_,?_⟩;(focus (obtain ⟨p0,p1,p2,p3,p4⟩:=HCW W hW;go_simp;first | done | rfl | with_reducible exact ext_same HN.out W hW | with_reducible exact ext_calls (fun W => HC.out W _ (by assumption)) W hW | with_reducible exact ext_calls HO.out W hW));(simp only [Act.put,List.setIfInBounds_toArray,List.set_cons_zero,List.set_cons_succ]);go_big_quiet_on))
          cases g2 with
          | true =>
           have HE:=Lib.hid (HBad.out (fun h => by have:=(HG.out.1 h).2.2.2.2;rw [this] at hg2;cases hg2))
           clear HBad HG HDy HOkk HOrd
           repeat (first | go_big_quiet_skip | (go_big_quiet_want;apply Exists.intro;refine ⟨fun W hW => ?_,?_⟩;(focus (obtain ⟨p0,p1,p2,p3,p4⟩:=HCW W hW;go_simp;first | done | rfl | with_reducible exact ext_same HN.out W hW | with_reducible exact ext_calls (fun W => HC.out W _ (by assumption)) W hW | with_reducible exact ext_calls HO.out W hW));(simp only [Act.put,List.setIfInBounds_toArray,List.set_cons_zero,List.set_cons_succ]);go_big_quiet_on))
           refine wpQuiet_nil ?_
           intro W hW
           obtain ⟨p0,p1,p2,p3,p4⟩:=HCW W hW
           have hW:=hW.below
           have hz:=hW.size
           simp at hz
           go_wp2
           go_ret
           exact ⟨by rw [HE.out];rfl,(HBL.out.alloc (by have:=HBL.out.size;omega) _).trans (hW.mono (by simp;have:=HBL.out.size;omega))⟩
          | false =>
           have HI2:Hid ((∀ y ∈ l.take (k+1),shBad y=false)∧incB shLt (l.take (k+1))=true):=⟨HOkk.out (HG.out.2 ⟨rfl,HDy.out.2 ⟨by have:=of_decide_eq_false hd1;omega,by have:=of_decide_eq_false hd2;omega⟩,by simpa using hg1,(fun e => by rw [Lib.toList_data,show ra.data.toList=[48] from e] at hz1;cases hz1),by simpa using hg2⟩),HOrd2.out⟩
           clear HBad HG HDy HOkk HOrd HOrd2
           repeat (first | go_big_quiet_skip | (go_big_quiet_want;apply Exists.intro;refine ⟨fun W hW => ?_,?_⟩;(focus (obtain ⟨p0,p1,p2,p3,p4⟩:=HCW W hW;go_simp;first | done | rfl | with_reducible exact ext_same HN.out W hW | with_reducible exact ext_calls (fun W => HC.out W _ (by assumption)) W hW | with_reducible exact ext_calls HO.out W hW));(simp only [Act.put,List.setIfInBounds_toArray,List.set_cons_zero,List.set_cons_succ]);go_big_quiet_on))
           refine wpQuiet_nil ?_
           intro W hW
           obtain ⟨p0,p1,p2,p3,p4⟩:=HCW W hW
           have hW:=hW.below
           have hz:=hW.size
           simp at hz
           go_wp2
           go_roundw
           case rel => exact ⟨k+1,by omega,by go_num,HI2,(HBL.out.alloc (by have:=HBL.out.size;omega) _).trans (hW.mono (by simp;have:=HBL.out.size;omega)),p0⟩
           case measure => simp [intOf];omega
    ·obtain ⟨k,rfl⟩:∃ k',k=k'+1:=⟨k - 1,by omega⟩
     obtain ⟨g,hg⟩:∃ g,l[k]? = some g:=⟨_,List.getElem?_eq_getElem (by omega)⟩
     obtain ⟨b',off',he,e0,_⟩:=(HR.out.below HBL.out).sh hg
     obtain ⟨rfl,rfl⟩:b=b'∧off=off':=by simpa using he
     have HOrd:Hid (Op.bytesLess g.nm.toList f.nm.toList=true→incB shLt (l.take (k+1+1))=true):=fun h => by rw [incB_snoc hg HF.out,HI.out.2];exact h
     have HOrdB:Hid (Op.bytesLess g.nm.toList f.nm.toList=false→scnB l=false):=fun h => scnB_ord hg HF.out h
     generalize g.nm=gn at *
     clear he hk0 hg HI HF
     generalize f.nm=nm at *
     generalize f.fr=fr at *
     generalize f.ra=ra at *
     generalize f.ex=ex2 at *
     have ek:((k+1:Nat):Int)=(k:Int)+1:=by omega
     rw [ek]
     clear ek
     have t0:decide ((0:Int) < (k:Int)+1)=true:=by rw [decide_eq_true_eq];omega
     have e1:(k:Int)+1 - 1=(k:Int):=by omega
     have e2:IntKind.i64.wrap ((k:Int)+1 - 1)=(k:Int):=by rw [IntWalk.i64_in _ (by omega)];omega
     have e3:IntKind.i64.wrap (k:Int)=(k:Int):=IntWalk.i64_in _ (by omega)
     have e4:((k:Int)+1).toNat=k+1:=by omega
     have hk2:(0:Int)≤(k:Int)+1:=by omega
     have hk3:(k:Int)+1 < (l.length:Int):=by omega
     have hk4:(0:Int)≤(k:Int):=by omega
     have hk5:(k:Int) < (l.length:Int):=by omega
     obtain ⟨na,rfl⟩:∃ o,a1 = !o:=⟨!a1,by simp⟩
     obtain ⟨o,ho⟩:∃ o,Op.bytesLess gn.toList nm.toList = !o:=⟨!(Op.bytesLess gn.toList nm.toList),by simp⟩
     obtain ⟨d1,hd1⟩:∃ o,decide (fr < 0)=o:=⟨_,rfl⟩
     obtain ⟨d2,hd2⟩:∃ o,decide (99999 < fr)=o:=⟨_,rfl⟩
     obtain ⟨g1,hg1⟩:∃ o,(ratErr ra != 0)=o:=⟨_,rfl⟩
     obtain ⟨z1,hz1⟩:∃ o,(ra.toList == [48])=o:=⟨_,rfl⟩
     obtain ⟨g2,hg2⟩:∃ o,(ratErr ex2 != 0)=o:=⟨_,rfl⟩
     go_wp2
     refine wp_region_ext (fun W' => W'.cell? ⟨w.heap.size,0,none⟩=some (.slice (some ⟨b,off,none⟩) l.length cap)∧W'.cell? ⟨wr.heap.size,0,none⟩=some (.string nm)∧W'.cell? ⟨wr.heap.size,1,none⟩=some (.int .i64 fr)∧W'.cell? ⟨wr.heap.size,2,none⟩=some (.string ra)∧W'.cell? ⟨wr.heap.size,3,none⟩=some (.string ex2)∧W'.cell? ⟨b,off+k * 4,none⟩=some (.string gn)) (fun W' hW' => ⟨hW'.cell (by go_simp),hW'.cell (by go_simp),hW'.cell (by go_simp),hW'.cell (by go_simp),hW'.cell (by go_simp),hW'.cell (by go_simp)⟩) (by kernel_rfl) (by kernel_rfl) ?_
     intro HCW
     repeat (first | go_big_quiet_skip | (go_big_quiet_want;apply Exists.intro;refine ⟨fun W hW => ?_,?_⟩;(focus (obtain ⟨p0,p1,p2,p3,p4,p5⟩:=HCW W hW;go_simp;first | done | rfl | with_reducible exact ext_same HN.out W hW | with_reducible exact ext_calls (fun W => HC.out W _ (by assumption)) W hW | with_reducible exact ext_calls HO.out W hW));(simp only [Act.put,List.setIfInBounds_toArray,List.set_cons_zero,List.set_cons_succ]);go_big_quiet_on))
     cases na with
     | true =>
      have HE:=Lib.hid (HBad.out (fun h => by have:=(HG.out.1 h).1;cases this))
      clear HBad HG HDy HOkk HOrd HOrdB
      repeat (first | go_big_quiet_skip | (go_big_quiet_want;apply Exists.intro;refine ⟨fun W hW => ?_,?_⟩;(focus (obtain ⟨p0,p1,p2,p3,p4,p5⟩:=HCW W hW;go_simp;first | done | rfl | with_reducible exact ext_same HN.out W hW | with_reducible exact ext_calls (fun W => HC.out W _ (by assumption)) W hW | with_reducible exact ext_calls HO.out W hW));(simp only [Act.put,List.setIfInBounds_toArray,List.set_cons_zero,List.set_cons_succ]);go_big_quiet_on))
      refine wpQuiet_nil ?_
      intro W hW
      obtain ⟨p0,p1,p2,p3,p4,p5⟩:=HCW W hW
      have hW:=hW.below
      have hz:=hW.size
      simp at hz
      go_wp2
      go_ret
      exact ⟨by rw [HE.out];rfl,(HBL.out.alloc (by have:=HBL.out.size;omega) _).trans (hW.mono (by simp;have:=HBL.out.size;omega))⟩
     | false =>
      repeat (first | go_big_quiet_skip | (go_big_quiet_want;apply Exists.intro;refine ⟨fun W hW => ?_,?_⟩;(focus (obtain ⟨p0,p1,p2,p3,p4,p5⟩:=HCW W hW;go_simp;first | done | rfl | with_reducible exact ext_same HN.out W hW | with_reducible exact ext_calls (fun W => HC.out W _ (by assumption)) W hW | with_reducible exact ext_calls HO.out W hW));(simp only [Act.put,List.setIfInBounds_toArray,List.set_cons_zero,List.set_cons_succ]);go_big_quiet_on))
      cases o with
      | true =>
       have HE:=Lib.hid (HOrdB.out ho)
       clear HBad HG HDy HOkk HOrd HOrdB
       repeat (first | go_big_quiet_skip | (go_big_quiet_want;apply Exists.intro;refine ⟨fun W hW => ?_,?_⟩;(focus (obtain ⟨p0,p1,p2,p3,p4,p5⟩:=HCW W hW;go_simp;first | done | rfl | with_reducible exact ext_same HN.out W hW | with_reducible exact ext_calls (fun W => HC.out W _ (by assumption)) W hW | with_reducible exact ext_calls HO.out W hW));(simp only [Act.put,List.setIfInBounds_toArray,List.set_cons_zero,List.set_cons_succ]);go_big_quiet_on))
       refine wpQuiet_nil ?_
       intro W hW
       obtain ⟨p0,p1,p2,p3,p4,p5⟩:=HCW W hW
       have hW:=hW.below
       have hz:=hW.size
       simp at hz
       go_wp2
       go_ret
       exact ⟨by rw [HE.out];rfl,(HBL.out.alloc (by have:=HBL.out.size;omega) _).trans (hW.mono (by simp;have:=HBL.out.size;omega))⟩
      | false =>
       have HOrd2:=Lib.hid (HOrd.out ho)
       repeat (first | go_big_quiet_skip | (go_big_quiet_want;apply Exists.intro;refine ⟨fun W hW => ?_,?_⟩;(focus (obtain ⟨p0,p1,p2,p3,p4,p5⟩:=HCW W hW;go_simp;first | done | rfl | with_reducible exact ext_same HN.out W hW | with_reducible exact ext_calls (fun W => HC.out W _ (by assumption)) W hW | with_reducible exact ext_calls HO.out W hW));(simp only [Act.put,List.setIfInBounds_toArray,List.set_cons_zero,List.set_cons_succ]);go_big_quiet_on))
       cases d1 with
       | true =>
        have HE:=Lib.hid (HBad.out (fun h => by have:=(HDy.out.1 (HG.out.1 h).2.1).1;have:=of_decide_eq_true hd1;omega))
        clear HBad HG HDy HOkk HOrd HOrdB
        repeat (first | go_big_quiet_skip | (go_big_quiet_want;apply Exists.intro;refine ⟨fun W hW => ?_,?_⟩;(focus (obtain ⟨p0,p1,p2,p3,p4,p5⟩:=HCW W hW;go_simp;first | done | rfl | with_reducible exact ext_same HN.out W hW | with_reducible exact ext_calls (fun W => HC.out W _ (by assumption)) W hW | with_reducible exact ext_calls HO.out W hW));(simp only [Act.put,List.setIfInBounds_toArray,List.set_cons_zero,List.set_cons_succ]);go_big_quiet_on))
        refine wpQuiet_nil ?_
        intro W hW
        obtain ⟨p0,p1,p2,p3,p4,p5⟩:=HCW W hW
        have hW:=hW.below
        have hz:=hW.size
        simp at hz
        go_wp2
        go_ret
        exact ⟨by rw [HE.out];rfl,(HBL.out.alloc (by have:=HBL.out.size;omega) _).trans (hW.mono (by simp;have:=HBL.out.size;omega))⟩
       | false =>
        repeat (first | go_big_quiet_skip | (go_big_quiet_want;apply Exists.intro;refine ⟨fun W hW => ?_,?_⟩;(focus (obtain ⟨p0,p1,p2,p3,p4,p5⟩:=HCW W hW;go_simp;first | done | rfl | with_reducible exact ext_same HN.out W hW | with_reducible exact ext_calls (fun W => HC.out W _ (by assumption)) W hW | with_reducible exact ext_calls HO.out W hW));(simp only [Act.put,List.setIfInBounds_toArray,List.set_cons_zero,List.set_cons_succ]);go_big_quiet_on))
        cases d2 with
        | true =>
         have HE:=Lib.hid (HBad.out (fun h => by have:=(HDy.out.1 (HG.out.1 h).2.1).2;have:=of_decide_eq_true hd2;omega))
         clear HBad HG HDy HOkk HOrd HOrdB
         repeat (first | go_big_quiet_skip | (go_big_quiet_want;apply Exists.intro;refine ⟨fun W hW => ?_,?_⟩;(focus (obtain ⟨p0,p1,p2,p3,p4,p5⟩:=HCW W hW;go_simp;first | done | rfl | with_reducible exact ext_same HN.out W hW | with_reducible exact ext_calls (fun W => HC.out W _ (by assumption)) W hW | with_reducible exact ext_calls HO.out W hW));(simp only [Act.put,List.setIfInBounds_toArray,List.set_cons_zero,List.set_cons_succ]);go_big_quiet_on))
         refine wpQuiet_nil ?_
         intro W hW
         obtain ⟨p0,p1,p2,p3,p4,p5⟩:=HCW W hW
         have hW:=hW.below
         have hz:=hW.size
         simp at hz
         go_wp2
         go_ret
         exact ⟨by rw [HE.out];rfl,(HBL.out.alloc (by have:=HBL.out.size;omega) _).trans (hW.mono (by simp;have:=HBL.out.size;omega))⟩
        | false =>
         repeat (first | go_big_quiet_skip | (go_big_quiet_want;apply Exists.intro;refine ⟨fun W hW => ?_,?_⟩;(focus (obtain ⟨p0,p1,p2,p3,p4,p5⟩:=HCW W hW;go_simp;first | done | rfl | with_reducible exact ext_same HN.out W hW | with_reducible exact ext_calls (fun W => HC.out W _ (by assumption)) W hW | with_reducible exact ext_calls HO.out W hW));(simp only [Act.put,List.setIfInBounds_toArray,List.set_cons_zero,List.set_cons_succ]);go_big_quiet_on))
         cases g1 with
         | true =>
          have HE:=Lib.hid (HBad.out (fun h => by have:=(HG.out.1 h).2.2.1;rw [this] at hg1;cases hg1))
          clear HBad HG HDy HOkk HOrd HOrdB
          repeat (first | go_big_quiet_skip | (go_big_quiet_want;apply Exists.intro;refine ⟨fun W hW => ?_,?_⟩;(focus (obtain ⟨p0,p1,p2,p3,p4,p5⟩:=HCW W hW;go_simp;first | done | rfl | with_reducible exact ext_same HN.out W hW | with_reducible exact ext_calls (fun W => HC.out W _ (by assumption)) W hW | with_reducible exact ext_calls HO.out W hW));(simp only [Act.put,List.setIfInBounds_toArray,List.set_cons_zero,List.set_cons_succ]);go_big_quiet_on))
          refine wpQuiet_nil ?_
          intro W hW
          obtain ⟨p0,p1,p2,p3,p4,p5⟩:=HCW W hW
          have hW:=hW.below
          have hz:=hW.size
          simp at hz
          go_wp2
          go_ret
          exact ⟨by rw [HE.out];rfl,(HBL.out.alloc (by have:=HBL.out.size;omega) _).trans (hW.mono (by simp;have:=HBL.out.size;omega))⟩
         | false =>
          repeat (first | go_big_quiet_skip | (go_big_quiet_want;apply Exists.intro;refine ⟨fun W hW => ?_,?_⟩;(focus (obtain ⟨p0,p1,p2,p3,p4,p5⟩:=HCW W hW;go_simp;first | done | rfl | with_reducible exact ext_same HN.out W hW | with_reducible exact ext_calls (fun W => HC.out W _ (by assumption)) W hW | with_reducible exact ext_calls HO.out W hW));(simp only [Act.put,List.setIfInBounds_toArray,List.set_cons_zero,List.set_cons_succ]);go_big_quiet_on))
          cases z1 with
          | true =>
           have HE:=Lib.hid (HBad.out (fun h => (HG.out.1 h).2.2.2.1 (by rw [Lib.toList_data] at hz1;exact eq_of_beq hz1)))
           clear HBad HG HDy HOkk HOrd HOrdB
           repeat (first | go_big_quiet_skip | (go_big_quiet_want;apply Exists.intro;refine ⟨fun W hW => ?_,?_⟩;(focus (obtain ⟨p0,p1,p2,p3,p4,p5⟩:=HCW W hW;go_simp;first | done | rfl | with_reducible exact ext_same HN.out W hW | with_reducible exact ext_calls (fun W => HC.out W _ (by assumption)) W hW | with_reducible exact ext_calls HO.out W hW));(simp only [Act.put,List.setIfInBounds_toArray,List.set_cons_zero,List.set_cons_succ]);go_big_quiet_on))
           refine wpQuiet_nil ?_
           intro W hW
           obtain ⟨p0,p1,p2,p3,p4,p5⟩:=HCW W hW
           have hW:=hW.below
           have hz:=hW.size
           simp at hz
           go_wp2
           go_ret
           exact ⟨by rw [HE.out];rfl,(HBL.out.alloc (by have:=HBL.out.size;omega) _).trans (hW.mono (by simp;have:=HBL.out.size;omega))⟩
          | false =>
           repeat (first | go_big_quiet_skip | (go_big_quiet_want;apply Exists.intro;refine ⟨fun W hW => ?_,?_⟩;(focus (obtain ⟨p0,p1,p2,p3,p4,p5⟩:=HCW W hW;go_simp;first | done | rfl | with_reducible exact ext_same HN.out W hW | with_reducible exact ext_calls (fun W => HC.out W _ (by assumption)) W hW | with_reducible exact ext_calls HO.out W hW));(simp only [Act.put,List.setIfInBounds_toArray,List.set_cons_zero,List.set_cons_succ]);go_big_quiet_on))
           cases g2 with
           | true =>
            have HE:=Lib.hid (HBad.out (fun h => by have:=(HG.out.1 h).2.2.2.2;rw [this] at hg2;cases hg2))
            clear HBad HG HDy HOkk HOrd HOrdB
            repeat (first | go_big_quiet_skip | (go_big_quiet_want;apply Exists.intro;refine ⟨fun W hW => ?_,?_⟩;(focus (obtain ⟨p0,p1,p2,p3,p4,p5⟩:=HCW W hW;go_simp;first | done | rfl | with_reducible exact ext_same HN.out W hW | with_reducible exact ext_calls (fun W => HC.out W _ (by assumption)) W hW | with_reducible exact ext_calls HO.out W hW));(simp only [Act.put,List.setIfInBounds_toArray,List.set_cons_zero,List.set_cons_succ]);go_big_quiet_on))
            refine wpQuiet_nil ?_
            intro W hW
            obtain ⟨p0,p1,p2,p3,p4,p5⟩:=HCW W hW
            have hW:=hW.below
            have hz:=hW.size
            simp at hz
            go_wp2
            go_ret
            exact ⟨by rw [HE.out];rfl,(HBL.out.alloc (by have:=HBL.out.size;omega) _).trans (hW.mono (by simp;have:=HBL.out.size;omega))⟩
           | false =>
            have HI2:Hid ((∀ y ∈ l.take (k+1+1),shBad y=false)∧incB shLt (l.take (k+1+1))=true):=⟨HOkk.out (HG.out.2 ⟨rfl,HDy.out.2 ⟨by have:=of_decide_eq_false hd1;omega,by have:=of_decide_eq_false hd2;omega⟩,by simpa using hg1,(fun e => by rw [Lib.toList_data,show ra.data.toList=[48] from e] at hz1;cases hz1),by simpa using hg2⟩),HOrd2.out⟩
            clear HBad HG HDy HOkk HOrd HOrd2 HOrdB
            repeat (first | go_big_quiet_skip | (go_big_quiet_want;apply Exists.intro;refine ⟨fun W hW => ?_,?_⟩;(focus (obtain ⟨p0,p1,p2,p3,p4,p5⟩:=HCW W hW;go_simp;first | done | rfl | with_reducible exact ext_same HN.out W hW | with_reducible exact ext_calls (fun W => HC.out W _ (by assumption)) W hW | with_reducible exact ext_calls HO.out W hW));(simp only [Act.put,List.setIfInBounds_toArray,List.set_cons_zero,List.set_cons_succ]);go_big_quiet_on))
            refine wpQuiet_nil ?_
            intro W hW
            obtain ⟨p0,p1,p2,p3,p4,p5⟩:=HCW W hW
            have hW:=hW.below
            have hz:=hW.size
            simp at hz
            go_wp2
            go_roundw
            case rel => exact ⟨k+1+1,by omega,by go_num,HI2,(HBL.out.alloc (by have:=HBL.out.size;omega) _).trans (hW.mono (by simp;have:=HBL.out.size;omega)),p0⟩
            case measure => simp [intOf];omega
   ·obtain rfl:k=l.length:=by omega
    have HE:Hid (scnB l=true):=by
     have h:=HI.out
     rw [List.take_of_length_le (Nat.le_refl _)] at h
     exact scnB_ok HL.out h.1 h.2
    go_wp2
    go_ret
    exact ⟨by rw [HE.out];rfl,hbel⟩
end Go.Proofs.YthdeijdimfjceaaGreatDoor
