/- A part. -/
import Derived.Test.YtknpnhodpgajbaaGreatDoorG29
import Derived.Test.YtknpnhodpgajbaaGreatDoorG28
import Derived.Laws.StructEq
set_option maxHeartbeats 8000000
set_option maxRecDepth 100000
namespace Go.Proofs.YtknpnhodpgajbaaGreatDoor
open Go.RowKit
theorem Zgl {fs:List Fx} {cs:List Ch} (h1 : ¬ 1000 < fs.length) (h2 : ¬ 1000 < cs.length) (h:fs.any Zd6=true∨cs.any Zek=true∨incB Fx.lt fs=false∨incB Ch.lt cs=false):Za7 fs cs=8:=by
 rw [Za7,if_neg (by omega),if_pos];rcases h with h | h | h | h <;> simp [h]
theorem Zvu {fs:List Fx} {cs:List Ch} (h1 : ¬ 1000 < fs.length) (h2 : ¬ 1000 < cs.length) (h3:∀ f ∈ fs,Zd6 f=false) (h4:∀ c ∈ cs,Zek c=false) (h5:incB Fx.lt fs=true) (h6:incB Ch.lt cs=true):Za7 fs cs=0:=by
 have a1:fs.any Zd6=false:=by rw [List.any_eq_false];simpa using h3
 have a2:cs.any Zek=false:=by rw [List.any_eq_false];simpa using h4
 rw [Za7,if_neg (by omega),if_neg];simp [a1,a2,h5,h6]
theorem Zlr {α:Type} {p:α→Bool} {l:List α} {k:Nat} {x:α} (h:l[k]? = some x) (hp:p x=true):l.any p=true:=List.any_eq_true.2 ⟨x,List.mem_of_getElem? h,hp⟩
theorem Zop {α:Type} {lt:α→α→Bool} {l:List α}:incB lt (l.take (0+1))=true:=Zhc (by rw [List.length_take];omega)
theorem Zq3 (fs:List Fx) (cs:List Ch) (af ac:Option Addr) (cf cc:Nat) (w:World) (hn : ¬ 1000 < fs.length) (hm : ¬ 1000 < cs.length)
  (hf:Rd Fx.cells 3 w af fs) (hc:Rd Ch.cells 4 w ac cs) (hfs:∀ f ∈ fs,f.small) (hcs:∀ c ∈ cs,c.small) :
  Calls Tryz.prog 46 #[.agg #[.slice af fs.length cf,.slice ac cs.length cc]] w fun e w'=>e = .returned (.int .i64 (Za7 fs cs))∧Below w.heap.size w w':=by
 have HDF:=Lh hf;have HDC:=Lh hc;have HSF:=Lh hfs;have HSC:=Lh hcs;have HL1:=Lh hn;have HL2:=Lh hm;have hn':(fs.length:Int)≤1000:=by omega
 have hm':(cs.length:Int)≤1000:=by omega
 have d1:decide ((1000:Int) < (fs.length:Int))=false:=by rw [decide_eq_false_iff_not];omega
 have d2:decide ((1000:Int) < (cs.length:Int))=false:=by rw [decide_eq_false_iff_not];omega
 have hb0:=fun o=>Zac w o
 clear hf hc hfs hcs hn hm;go_enter Tryz.func46,Tryz.ntmps46
 go_upto_block 0 with fail
 go_cut [3,4] from 17 to 59 (fun _ _ wc=>Hid ((∀ y ∈ fs,Zd6 y=false)∧incB Fx.lt fs=true)∧Below w.heap.size w wc∧w.heap.size < wc.heap.size∧wc.cell? ⟨w.heap.size,0,none⟩=some (.slice af fs.length cf)∧wc.cell? ⟨w.heap.size,1,none⟩=some (.slice ac cs.length cc))
 case first =>
  go_wp2_with fail;go_loopw [3] (fun i wr=>∃ k:Nat,k≤fs.length∧i = .int .i64 k∧Hid ((∀ y ∈ fs.take k,Zd6 y=false)∧incB Fx.lt (fs.take k)=true)∧Below w.heap.size w wr∧w.heap.size < wr.heap.size∧wr.cell? ⟨w.heap.size,0,none⟩=some (.slice af fs.length cf)∧wr.cell? ⟨w.heap.size,1,none⟩=some (.slice ac cs.length cc)) (fun i _=>fs.length - (intOf i).toNat)
  case atStart=>exact ⟨0,Nat.zero_le _,rfl,Lh ⟨by simp,by simp [incB]⟩,hb0 _,by simp,by go_simp,by go_simp⟩
  case round =>
   obtain ⟨k,hk,rfl,Hall,hbel,hsz,kb0,kb1⟩:=hrel;by_cases hlt:k < fs.length
   ·obtain ⟨f,hf⟩:∃ f,fs[k]? = some f:=⟨_,List.getElem?_eq_getElem hlt⟩
    have hfm:f ∈ fs:=List.mem_of_getElem? hf;have HRf:=((HDF.out.below hbel).fx hf)
    have HN:=Lh (fun W=>Zd4 f.nm W (by have:=(HSF.out f hfm).1;omega));have HK0:=Lh (fun W=>Zdx f.vl W (HSF.out f hfm).2);have HDy:=Lh (fun W=>Zgp f.d W);have HF:=Lh hf;clear hf hfm;obtain ⟨b,off,rfl,hc1,hc2,hc3⟩:=HRf;have hbl:b < wr.heap.size:=World.block_lt_of_cell? wr _ hc1;have HBad:Hid (Zd6 f = !(isNm (bl f.nm) && (Zbh f.d && decide (Zah f.vl=0)))):=rfl;generalize isNm (bl f.nm)=a at HN HBad;generalize Zbh f.d=d at HDy HBad
    generalize Zah f.vl=E at HK0 HBad;unfold Zf0 at HK0;have H8:=Lh fun h:Zd6 f=true=>Zgl HL1.out HL2.out (.inl (Zlr HF.out h))
    by_cases hq:0 < k∧a=true∧d=true∧E=0
    ·obtain ⟨hk0,rfl,rfl,rfl⟩:=hq;obtain ⟨k,rfl⟩:∃ k',k=k'+1:=⟨k - 1,by omega⟩
     obtain ⟨g,hg⟩:∃ g,fs[k]? = some g:=⟨_,List.getElem?_eq_getElem (by omega)⟩
     have HRg:=((HDF.out.below hbel).fx hg)
     have HI:=Zf5 (lt:=Fx.lt) hg HF.out;have HQ:Hid ((Fx.lt g f=true→(∀ y ∈ fs.take (k+1+1),Zd6 y=false)∧incB Fx.lt (fs.take (k+1+1))=true)∧(Fx.lt g f=false→Za7 fs cs=8)):=Lh ⟨fun hp=>⟨Za3 HF.out (by rw [HBad.out];rfl) Hall.out.1,by rw [HI,Hall.out.2,hp];rfl⟩,fun hp=>Zgl HL1.out HL2.out (.inr (.inr (.inl (Zci (k:=k+1+1) (by rw [HI,hp];simp)))))⟩;obtain ⟨b',off',he,hd1,hd2,hd3⟩:=HRg;obtain ⟨rfl,rfl⟩:b=b'∧off=off':=by simpa using he
     have ek:((k+1:Nat):Int)=(k:Int)+1:=by omega
     rw [ek];have t0:decide ((0:Int) < (k:Int)+1)=true:=by rw [decide_eq_true_eq];omega
     have e1:(k:Int)+1 - 1=(k:Int):=by omega
     have e2:IntKind.i64.wrap ((k:Int)+1 - 1)=(k:Int):=by rw [IntWalk.i64_in _ (by omega)];omega
     have e3:IntKind.i64.wrap (k:Int)=(k:Int):=IntWalk.i64_in _ (by omega);have e4:((k:Int)+1).toNat=k+1:=by omega
     have hk2:(0:Int)≤(k:Int)+1:=by omega
     have hk3:(k:Int)+1 < (fs.length:Int):=by omega
     have hk4:(0:Int)≤(k:Int):=by omega
     have hk5:(k:Int) < (fs.length:Int):=by omega
     have HB:Hid (∀ W,Calls Tryz.prog 98 #[.agg #[.string g.nm,.int .i64 g.d,.string g.vl],.agg #[.string f.nm,.int .i64 f.d,.string f.vl]] W fun e w'=>e = .returned (.bool (Fx.lt g f))∧Below W.heap.size W w'):=fun W=>Zm6 _ _ _ _ _ _ _
     clear hg HI he hk0 ek H8 HBad;generalize Fx.lt g f=p at HB HQ
     cases p
     all_goals
      first
       | have HA:=Lh (HQ.out.1 rfl)
       | have HR:=Lh (HQ.out.2 rfl)
      clear HQ;go_wp2;refine Zbk (fun W'=>W'.cell? ⟨w.heap.size,0,none⟩=some (.slice (some ⟨b,off,none⟩) fs.length cf)∧W'.cell? ⟨wr.heap.size,0,none⟩=some (.string f.nm)∧W'.cell? ⟨wr.heap.size,1,none⟩=some (.int .i64 f.d)∧W'.cell? ⟨wr.heap.size,2,none⟩=some (.string f.vl)∧W'.cell? ⟨b,off+k * 3,none⟩=some (.string g.nm)∧W'.cell? ⟨b,off+k * 3+1,none⟩=some (.int .i64 g.d)∧W'.cell? ⟨b,off+k * 3+2,none⟩=some (.string g.vl)) (fun W' hW'=>⟨hW'.cell (by go_simp),hW'.cell (by go_simp),hW'.cell (by go_simp),hW'.cell (by go_simp),hW'.cell (by go_simp),hW'.cell (by go_simp),hW'.cell (by go_simp)⟩) (by kernel_rfl) (by kernel_rfl) ?_
      intro HCW;repeat (first | go_big_quiet_skip | (go_big_quiet_want;apply Exists.intro;refine ⟨fun W hW=>?_,?_⟩;(focus (obtain ⟨q0,q1,q2,q3,q4,q5,q6⟩:=HCW W hW;go_simp;first | done | rfl | with_reducible exact Zch HN.out W hW | with_reducible exact Zch HDy.out W hW | with_reducible exact Zht HK0.out W hW | with_reducible exact Zht HB.out W hW));(simp only [Act.put,List.setIfInBounds_toArray,List.set_cons_zero,List.set_cons_succ]);go_big_quiet_on))
      refine wpQuiet_nil ?_;intro W hW;obtain ⟨q0,q1,q2,q3,q4,q5,q6⟩:=HCW W hW;have hW:=hW.below;have hz:=hW.size;simp at hz
      go_wp2;first
       | (go_ret
          exact ⟨Zal HR.out.symm,(hbel.alloc (by omega) _).trans (hW.mono (by simp;omega))⟩)
       | (go_roundw
          case rel=>exact ⟨k+1+1,by omega,by go_num,HA,(hbel.alloc (by omega) _).trans (hW.mono (by simp;omega)),by first | omega | (simp;omega),by first | assumption | (rw [hW.cell (by simp;omega)];go_simp),by first | assumption | (rw [hW.cell (by simp;omega)];go_simp)⟩
          case measure=>simp [intOf];omega)
    ·have hc:a=false∨a=true∧d=false∨a=true∧d=true∧E ≠ 0∨a=true∧d=true∧E=0∧k=0:=by
      cases a <;> cases d <;> simp at hq ⊢
      omega
     clear hq;rcases hc with rfl | ⟨rfl,rfl⟩ | ⟨rfl,rfl,hE⟩ | ⟨rfl,rfl,rfl,hk0⟩
     all_goals
      first
       | (have t1:(E != 0)=true:=by rw [bne_iff_ne];exact hE
          have t2:(E == 0)=false:=by rw [beq_eq_false_iff_ne];exact hE
          have HR:=Lh (H8.out (by rw [HBad.out];simp [hE]));clear hE)
       | have HR:=Lh (H8.out (by rw [HBad.out];rfl))
       | (have t0:decide ((0:Int) < (k:Int))=false:=by rw [decide_eq_false_iff_not];omega
          have t0b:decide (0 < k)=false:=by rw [decide_eq_false_iff_not];omega
          have t0c : ¬ 0 < k:=by omega
          have HA:Hid ((∀ y ∈ fs.take (k+1),Zd6 y=false)∧incB Fx.lt (fs.take (k+1))=true):=Lh ⟨Za3 HF.out (by rw [HBad.out];rfl) Hall.out.1,by rw [hk0];exact Zop⟩;clear hk0)
      clear H8 HBad;go_wp2;refine Zbk (fun W'=>W'.cell? ⟨w.heap.size,0,none⟩=some (.slice (some ⟨b,off,none⟩) fs.length cf)∧W'.cell? ⟨wr.heap.size,0,none⟩=some (.string f.nm)∧W'.cell? ⟨wr.heap.size,1,none⟩=some (.int .i64 f.d)∧W'.cell? ⟨wr.heap.size,2,none⟩=some (.string f.vl)) (fun W' hW'=>⟨hW'.cell (by go_simp),hW'.cell (by go_simp),hW'.cell (by go_simp),hW'.cell (by go_simp)⟩) (by kernel_rfl) (by kernel_rfl) ?_
      intro HCW;repeat (first | go_big_quiet_skip | (go_big_quiet_want;apply Exists.intro;refine ⟨fun W hW=>?_,?_⟩;(focus (obtain ⟨q0,q1,q2,q3⟩:=HCW W hW;go_simp;first | done | rfl | with_reducible exact Zch HN.out W hW | with_reducible exact Zch HDy.out W hW | with_reducible exact Zht HK0.out W hW));(simp only [Act.put,List.setIfInBounds_toArray,List.set_cons_zero,List.set_cons_succ]);go_big_quiet_on))
      refine wpQuiet_nil ?_;intro W hW;obtain ⟨q0,q1,q2,q3⟩:=HCW W hW;have hW:=hW.below;have hz:=hW.size;simp at hz
      all_goals
       go_wp2;first
        | (go_ret
           exact ⟨Zal HR.out.symm,(hbel.alloc (by omega) _).trans (hW.mono (by simp;omega))⟩)
        | (go_roundw
           case rel=>exact ⟨k+1,by omega,by go_num,HA,(hbel.alloc (by omega) _).trans (hW.mono (by simp;omega)),by first | omega | (simp;omega),by first | assumption | (rw [hW.cell (by simp;omega)];go_simp),by first | assumption | (rw [hW.cell (by simp;omega)];go_simp)⟩
           case measure=>simp [intOf];omega)
   ·obtain rfl:k=fs.length:=by omega
    have HAFx:Hid ((∀ y ∈ fs,Zd6 y=false)∧incB Fx.lt fs=true):=by have h:=Hall.out;rw [List.take_length] at h;exact h
    clear Hall hlt hk;go_wp2;go_meet
    exact ⟨HAFx,hbel,hsz,kb0,kb1⟩
 case rest =>
  obtain ⟨HAFx,hbel,hsz,kb0,kb1⟩:=hcut;go_wp2;go_loopw [5] (fun i wr=>∃ k:Nat,k≤cs.length∧i = .int .i64 k∧Hid ((∀ y ∈ cs.take k,Zek y=false)∧incB Ch.lt (cs.take k)=true)∧Below w.heap.size w wr∧w.heap.size < wr.heap.size∧wr.cell? ⟨w.heap.size,0,none⟩=some (.slice af fs.length cf)∧wr.cell? ⟨w.heap.size,1,none⟩=some (.slice ac cs.length cc)) (fun i _=>cs.length - (intOf i).toNat)
  case atStart=>exact ⟨0,Nat.zero_le _,rfl,Lh ⟨by simp,by simp [incB]⟩,hbel,hsz,kb0,kb1⟩
  case round =>
   clear hbel hsz kb0 kb1;obtain ⟨k,hk,rfl,Hall,hbel,hsz,kb0,kb1⟩:=hrel;by_cases hlt:k < cs.length
   ·obtain ⟨f,hf⟩:∃ f,cs[k]? = some f:=⟨_,List.getElem?_eq_getElem hlt⟩
    have hfm:f ∈ cs:=List.mem_of_getElem? hf;have HRf:=((HDC.out.below hbel).ch hf)
    have HP:=Lh (fun W=>Zd4 f.pt W (by have:=(HSC.out f hfm).1;omega));have HN:=Lh (fun W=>Zd4 f.nm W (by have:=(HSC.out f hfm).2;omega));have HDy:=Lh (fun W=>Zgp f.d W);have HF:=Lh hf;clear hf hfm;obtain ⟨b,off,rfl,hc1,hc2,hc3,hc4⟩:=HRf;have hbl:b < wr.heap.size:=World.block_lt_of_cell? wr _ hc1;have HBad:Hid (Zek f = !(isNm (bl f.pt) && (isNm (bl f.nm) && Zbh f.d))):=rfl;generalize isNm (bl f.pt)=a0 at HP HBad
    generalize isNm (bl f.nm)=a at HN HBad;generalize Zbh f.d=d at HDy HBad;have H8:=Lh fun h:Zek f=true=>Zgl HL1.out HL2.out (.inr (.inl (Zlr HF.out h)))
    by_cases hq:0 < k∧a0=true∧a=true∧d=true
    ·obtain ⟨hk0,rfl,rfl,rfl⟩:=hq;obtain ⟨k,rfl⟩:∃ k',k=k'+1:=⟨k - 1,by omega⟩
     obtain ⟨g,hg⟩:∃ g,cs[k]? = some g:=⟨_,List.getElem?_eq_getElem (by omega)⟩
     have HRg:=((HDC.out.below hbel).ch hg)
     have HI:=Zf5 (lt:=Ch.lt) hg HF.out;have HQ:Hid ((Ch.lt g f=true→(∀ y ∈ cs.take (k+1+1),Zek y=false)∧incB Ch.lt (cs.take (k+1+1))=true)∧(Ch.lt g f=false→Za7 fs cs=8)):=Lh ⟨fun hp=>⟨Za3 HF.out (by rw [HBad.out];rfl) Hall.out.1,by rw [HI,Hall.out.2,hp];rfl⟩,fun hp=>Zgl HL1.out HL2.out (.inr (.inr (.inr (Zci (k:=k+1+1) (by rw [HI,hp];simp)))))⟩;obtain ⟨b',off',he,hd1,hd2,hd3,hd4⟩:=HRg;obtain ⟨rfl,rfl⟩:b=b'∧off=off':=by simpa using he
     have ek:((k+1:Nat):Int)=(k:Int)+1:=by omega
     rw [ek];have t0:decide ((0:Int) < (k:Int)+1)=true:=by rw [decide_eq_true_eq];omega
     have e1:(k:Int)+1 - 1=(k:Int):=by omega
     have e2:IntKind.i64.wrap ((k:Int)+1 - 1)=(k:Int):=by rw [IntWalk.i64_in _ (by omega)];omega
     have e3:IntKind.i64.wrap (k:Int)=(k:Int):=IntWalk.i64_in _ (by omega);have e4:((k:Int)+1).toNat=k+1:=by omega
     have hk2:(0:Int)≤(k:Int)+1:=by omega
     have hk3:(k:Int)+1 < (cs.length:Int):=by omega
     have hk4:(0:Int)≤(k:Int):=by omega
     have hk5:(k:Int) < (cs.length:Int):=by omega
     have HB:Hid (∀ W,Calls Tryz.prog 99 #[.agg #[.string g.pt,.string g.nm,.int .i64 g.d,.bool g.first],.agg #[.string f.pt,.string f.nm,.int .i64 f.d,.bool f.first]] W fun e w'=>e = .returned (.bool (Ch.lt g f))∧Below W.heap.size W w'):=fun W=>Zlo _ _ _ _ _ _ _ _ _
     clear hg HI he hk0 ek H8 HBad;generalize Ch.lt g f=p at HB HQ
     cases p
     all_goals
      first
       | have HA:=Lh (HQ.out.1 rfl)
       | have HR:=Lh (HQ.out.2 rfl)
      clear HQ;go_wp2;refine Zbk (fun W'=>W'.cell? ⟨w.heap.size,1,none⟩=some (.slice (some ⟨b,off,none⟩) cs.length cc)∧W'.cell? ⟨wr.heap.size,0,none⟩=some (.string f.pt)∧W'.cell? ⟨wr.heap.size,1,none⟩=some (.string f.nm)∧W'.cell? ⟨wr.heap.size,2,none⟩=some (.int .i64 f.d)∧W'.cell? ⟨wr.heap.size,3,none⟩=some (.bool f.first)∧W'.cell? ⟨b,off+k * 4,none⟩=some (.string g.pt)∧W'.cell? ⟨b,off+k * 4+1,none⟩=some (.string g.nm)∧W'.cell? ⟨b,off+k * 4+2,none⟩=some (.int .i64 g.d)∧W'.cell? ⟨b,off+k * 4+3,none⟩=some (.bool g.first)) (fun W' hW'=>⟨hW'.cell (by go_simp),hW'.cell (by go_simp),hW'.cell (by go_simp),hW'.cell (by go_simp),hW'.cell (by go_simp),hW'.cell (by go_simp),hW'.cell (by go_simp),hW'.cell (by go_simp),hW'.cell (by go_simp)⟩) (by kernel_rfl) (by kernel_rfl) ?_
      intro HCW;repeat (first | go_big_quiet_skip | (go_big_quiet_want;apply Exists.intro;refine ⟨fun W hW=>?_,?_⟩;(focus (obtain ⟨q0,q1,q2,q3,q4,q5,q6,q7,q8⟩:=HCW W hW;go_simp;first | done | rfl | with_reducible exact Zch HP.out W hW | with_reducible exact Zch HN.out W hW | with_reducible exact Zch HDy.out W hW | with_reducible exact Zht HB.out W hW));(simp only [Act.put,List.setIfInBounds_toArray,List.set_cons_zero,List.set_cons_succ]);go_big_quiet_on))
      refine wpQuiet_nil ?_;intro W hW;obtain ⟨q0,q1,q2,q3,q4,q5,q6,q7,q8⟩:=HCW W hW;have hW:=hW.below;have hz:=hW.size;simp at hz
      go_wp2;first
       | (go_ret
          exact ⟨Zal HR.out.symm,(hbel.alloc (by omega) _).trans (hW.mono (by simp;omega))⟩)
       | (go_roundw
          case rel=>exact ⟨k+1+1,by omega,by go_num,HA,(hbel.alloc (by omega) _).trans (hW.mono (by simp;omega)),by first | omega | (simp;omega),by first | assumption | (rw [hW.cell (by simp;omega)];go_simp),by first | assumption | (rw [hW.cell (by simp;omega)];go_simp)⟩
          case measure=>simp [intOf];omega)
    ·have hc:a0=false∨a0=true∧a=false∨a0=true∧a=true∧d=false∨a0=true∧a=true∧d=true∧k=0:=by
      cases a0 <;> cases a <;> cases d <;> simp at hq ⊢
      omega
     clear hq;rcases hc with rfl | ⟨rfl,rfl⟩ | ⟨rfl,rfl,rfl⟩ | ⟨rfl,rfl,rfl,hk0⟩
     all_goals
      first
       | have HR:=Lh (H8.out (by rw [HBad.out];rfl))
       | (have t0:decide ((0:Int) < (k:Int))=false:=by rw [decide_eq_false_iff_not];omega
          have t0b:decide (0 < k)=false:=by rw [decide_eq_false_iff_not];omega
          have t0c : ¬ 0 < k:=by omega
          have HA:Hid ((∀ y ∈ cs.take (k+1),Zek y=false)∧incB Ch.lt (cs.take (k+1))=true):=Lh ⟨Za3 HF.out (by rw [HBad.out];rfl) Hall.out.1,by rw [hk0];exact Zop⟩;clear hk0)
      clear H8 HBad;go_wp2;refine Zbk (fun W'=>W'.cell? ⟨w.heap.size,1,none⟩=some (.slice (some ⟨b,off,none⟩) cs.length cc)∧W'.cell? ⟨wr.heap.size,0,none⟩=some (.string f.pt)∧W'.cell? ⟨wr.heap.size,1,none⟩=some (.string f.nm)∧W'.cell? ⟨wr.heap.size,2,none⟩=some (.int .i64 f.d)∧W'.cell? ⟨wr.heap.size,3,none⟩=some (.bool f.first)) (fun W' hW'=>⟨hW'.cell (by go_simp),hW'.cell (by go_simp),hW'.cell (by go_simp),hW'.cell (by go_simp),hW'.cell (by go_simp)⟩) (by kernel_rfl) (by kernel_rfl) ?_
      intro HCW;repeat (first | go_big_quiet_skip | (go_big_quiet_want;apply Exists.intro;refine ⟨fun W hW=>?_,?_⟩;(focus (obtain ⟨q0,q1,q2,q3,q4⟩:=HCW W hW;go_simp;first | done | rfl | with_reducible exact Zch HP.out W hW | with_reducible exact Zch HN.out W hW | with_reducible exact Zch HDy.out W hW));(simp only [Act.put,List.setIfInBounds_toArray,List.set_cons_zero,List.set_cons_succ]);go_big_quiet_on))
      refine wpQuiet_nil ?_;intro W hW;obtain ⟨q0,q1,q2,q3,q4⟩:=HCW W hW;have hW:=hW.below;have hz:=hW.size;simp at hz
      all_goals
       go_wp2;first
        | (go_ret
           exact ⟨Zal HR.out.symm,(hbel.alloc (by omega) _).trans (hW.mono (by simp;omega))⟩)
        | (go_roundw
           case rel=>exact ⟨k+1,by omega,by go_num,HA,(hbel.alloc (by omega) _).trans (hW.mono (by simp;omega)),by first | omega | (simp;omega),by first | assumption | (rw [hW.cell (by simp;omega)];go_simp),by first | assumption | (rw [hW.cell (by simp;omega)];go_simp)⟩
           case measure=>simp [intOf];omega)
   ·obtain rfl:k=cs.length:=by omega
    have HACh:Hid ((∀ y ∈ cs,Zek y=false)∧incB Ch.lt cs=true):=by have h:=Hall.out;rw [List.take_length] at h;exact h
    clear Hall hlt hk;have HR:Hid (Za7 fs cs=0):=Zvu HL1.out HL2.out HAFx.out.1 HACh.out.1 HAFx.out.2 HACh.out.2;go_wp2;go_ret;exact ⟨Zal HR.out.symm,hbel⟩
theorem Zuk (fs:List Fx) (cs:List Ch) (af ac:Option Addr) (cf cc:Nat) (w:World) (hn:fs.length≤1100000) (hm:cs.length≤1100000)
  (hf:Rd Fx.cells 3 w af fs) (hc:Rd Ch.cells 4 w ac cs) (hfs:∀ f ∈ fs,f.small) (hcs:∀ c ∈ cs,c.small) :
  Calls Tryz.prog 46 #[.agg #[.slice af fs.length cf,.slice ac cs.length cc]] w fun e w'=>e = .returned (.int .i64 (Za7 fs cs))∧Below w.heap.size w w':=by
 by_cases h1:1000 < fs.length
 ·have d1:decide ((1000:Int) < (fs.length:Int))=true:=by rw [decide_eq_true_eq];omega
  have HR:Hid (Za7 fs cs=4):=by show _=_;rw [Za7,if_pos (.inl h1)]
  clear h1 hf hc hfs hcs;go_enter Tryz.func46,Tryz.ntmps46
  go_wp2;go_ret;exact ⟨Zal HR.out.symm,Zac _ _⟩
 ·by_cases h2:1000 < cs.length
  ·have d1:decide ((1000:Int) < (fs.length:Int))=false:=by rw [decide_eq_false_iff_not];omega
   have d2:decide ((1000:Int) < (cs.length:Int))=true:=by rw [decide_eq_true_eq];omega
   have HR:Hid (Za7 fs cs=4):=by show _=_;rw [Za7,if_pos (.inr h2)]
   clear h1 h2 hf hc hfs hcs;go_enter Tryz.func46,Tryz.ntmps46
   go_wp2;go_ret;exact ⟨Zal HR.out.symm,Zac _ _⟩
  ·exact Zq3 fs cs af ac cf cc w h1 h2 hf hc hfs hcs
theorem Zpc:∀ (N:Nat) (c:Con) (E:EvD),c.bulk≤N→PRL E c
 | 0,c,E,hN=>by have:=c.sub_lt;omega
 | N+1,c,E,hN=>fun es dd ss day fin W h h0 h1=>by
  have IH:∀ y ∈ c.sub,PRL E y:=fun y hy=>Zpc N y E (by have:=Con.mem_lt hy;omega)
  obtain ⟨a1,n1,rfl⟩:=h.rd.1.len;obtain ⟨a2,n2,rfl⟩:=h.rd.2.1.len;obtain ⟨a3,n3,rfl⟩:=h.rd.2.2.1.len;have hcs:=Zj5 c h.wf;have hbk:=c.bulk_eq;have hB:=h.bulk;have hlen:∀ x ∈ c.sub,∀ day fin,(x.flows E.F E.C day fin).2.length≤x.bulk:=fun x _=>Zff E.F E.C x.bulk x (Nat.le_refl _)
  have hwf:∀ x ∈ c.sub,x.formed=true:=fun x hx=>by
   have hw:=h.wf;rw [Con.formed_eq,Bool.and_eq_true,Con.formeds_eq] at hw;exact List.all_eq_true.1 hw.2 x hx
  by_cases hn:fin≤day
  ·exact Z29 c a1 a2 a3 n1 n2 n3 day fin E W hn _ (by cases c;unfold Con.flows;rw [if_pos hn])
  ·rcases hcs with ⟨hk,hl⟩ | ⟨hk,hl,hA⟩ | ⟨hk,x,y,hl⟩ | ⟨hk,hA,x,hl⟩ | ⟨hk,hA,x,y,hl⟩ | ⟨hk,hd,x,hl⟩ | ⟨hk,x,y,hl⟩ | ⟨hk,hd,x,hl⟩ | ⟨hk,hd,hA,x,hl⟩
   ·have e:c.flows E.F E.C day fin=(0,[]):=by
     cases c;simp only [Con.k,Con.sub] at hk hl;subst hk hl;rw [Con.flows,if_neg hn];(try dsimp only);rw [if_neg (by decide)]
    exact Z2a c a1 a2 a3 n1 n2 n3 day fin E W h hk hn _ e
   ·have e:c.flows E.F E.C day fin=andR (c.ex.value E.F day) [] fun a=>(0,Zcd day c.fr c.rc c.nm a):=by
     cases c;simp only [Con.k,Con.sub] at hk hl;subst hk hl;rw [Con.flows,if_neg hn];(try dsimp only);rw [if_pos rfl];rfl
    exact Z3a c a1 a2 a3 n1 n2 n3 day fin E W h hk hn hA _ e
   ·have e:c.flows E.F E.C day fin=andR (x.flows E.F E.C day fin) [] fun a=>andR (y.flows E.F E.C day fin) [] fun b=>(0,a ++ b):=by
     cases c;simp only [Con.k,Con.sub] at hk hl;subst hk hl;rw [Con.flows,if_neg hn];(try dsimp only);rw [if_pos rfl]
    have l1:=hlen x (by rw [hl];simp) day fin;have l2:=hlen y (by rw [hl];simp) day fin;rw [hl] at hbk;simp only [Con.bulks] at hbk;exact Z16 c a1 a2 a3 n1 n2 n3 day fin E W h hk hn h0 h1 x y hl (IH x (by rw [hl];simp)) (IH y (by rw [hl];simp)) (by omega) _ e
   ·have e:c.flows E.F E.C day fin=andR (c.ex.value E.F day) [] fun a=>andR (x.flows E.F E.C day fin) [] fun l=>Za0 a l:=by
     cases c;simp only [Con.k,Con.sub] at hk hl;subst hk hl;rw [Con.flows,if_neg hn];(try dsimp only);rw [if_pos rfl];rfl
    exact Zzv c a1 a2 a3 n1 n2 n3 day fin E W h hk hn h0 h1 hA x hl (IH x (by rw [hl];simp)) (by have:=hlen x (by rw [hl];simp) day fin;have:=Con.mem_lt (x:=c) (y:=x) (by rw [hl];simp);omega) (Zm9 (Zel h.ok) x.bulk x (Nat.le_refl _) (hwf x (by rw [hl];simp)) day fin) _ e
   ·have e:c.flows E.F E.C day fin=andR (c.ex.hold E.F day) [] fun b=>if b=true then x.flows E.F E.C day fin else y.flows E.F E.C day fin:=by
     cases c;simp only [Con.k,Con.sub] at hk hl;subst hk hl;rw [Con.flows,if_neg hn];(try dsimp only);rw [if_neg (by decide),if_pos rfl];rfl
    exact Z3p c a1 a2 a3 n1 n2 n3 day fin E W h hk hn h0 h1 hA x y hl (IH x (by rw [hl];simp)) (IH y (by rw [hl];simp)) _ e
   ·have e:c.flows E.F E.C day fin=if day≤c.d then x.flows E.F E.C c.d fin else (0,[]):=by
     cases c;simp only [Con.k,Con.sub] at hk hl;subst hk hl;rw [Con.flows,if_neg hn];(try dsimp only);rw [if_neg (by decide),if_pos rfl];rfl
    exact Z3o c a1 a2 a3 n1 n2 n3 day fin E W h hk hn h1 x hd hl (IH x (by rw [hl];simp)) _ e
   ·have e:c.flows E.F E.C day fin=if Za5 E.C c.fr c.nm day=true then x.flows E.F E.C day fin else y.flows E.F E.C day fin:=by
     cases c;simp only [Con.k,Con.sub] at hk hl;subst hk hl;rw [Con.flows,if_neg hn];(try dsimp only);rw [if_neg (by decide),if_neg (by decide)];rfl
    exact Z18 c a1 a2 a3 n1 n2 n3 day fin E W h hk hn h0 h1 x y hl (IH x (by rw [hl];simp)) (IH y (by rw [hl];simp)) _ e
   ·have e:c.flows E.F E.C day fin=x.flows E.F E.C (Zax (fun e=>(0,Za5 E.C c.fr c.nm e)) day fin c.ds).2 fin:=by
     cases c;simp only [Con.k,Con.sub] at hk hl;subst hk hl;rw [Con.flows,if_neg hn];(try dsimp only);rw [if_neg (by decide),if_neg (by decide),if_pos rfl];rfl
    exact Z17 c a1 a2 a3 n1 n2 n3 day fin E W h hk hn h0 h1 hd x hl (IH x (by rw [hl];simp)) _ e
   ·rcases hk with hk | hk
    ·have e:c.flows E.F E.C day fin=andR (Zax (fun e=>c.ex.hold E.F e) day fin c.ds) [] fun q=>x.flows E.F E.C day q:=by
      cases c;simp only [Con.k,Con.sub] at hk hl;subst hk hl;rw [Con.flows,if_neg hn];(try dsimp only);rw [if_neg (by decide),if_neg (by decide),if_neg (by decide),if_pos rfl];rfl
     exact Zzw c a1 a2 a3 n1 n2 n3 day fin E W h hk hn h0 h1 hd hA x hl (IH x (by rw [hl];simp)) _ e
    ·have e:c.flows E.F E.C day fin=andR (Zax (fun e=>c.ex.hold E.F e) day fin c.ds) [] fun q=>x.flows E.F E.C q fin:=by
      cases c;simp only [Con.k,Con.sub] at hk hl;subst hk hl;rw [Con.flows,if_neg hn];(try dsimp only);rw [if_neg (by decide),if_neg (by decide),if_neg (by decide),if_neg (by decide)];rfl
     exact Z19 c a1 a2 a3 n1 n2 n3 day fin E W h hk hn h0 h1 hd hA x hl (IH x (by rw [hl];simp)) _ e
def RfP (w:World) (R:Int × List Fl) (e:Ending) (w':World):Prop :=
 ∃ ad cap,e = .returned (.tuple #[.slice ad R.2.length cap,.int .i64 R.1])∧Below w.heap.size w w'∧Rd Fl.cells 5 w' ad R.2
theorem RfP.err {w w':World} {R:Int × List Fl} {er:Int} (h:R=(er,[])) (hb:Below w.heap.size w w'):RfP w R (.returned (.tuple #[.slice none 0 0,.int .i64 er])) w':=by
 subst h;exact ⟨none,0,rfl,hb,fun j x hj=>by simp at hj⟩
theorem Zsj (c:Con) (a1 a2 a3:Option Addr) (n1 n2 n3:Nat) (day fin:Int) (E:EvD) (w:World) (h:BfH c (.slice a1 c.ex.sub.length n1) (.slice a2 c.ds.length n2) (.slice a3 c.sub.length n3) E w) (R:Int × List Fl) (hRR:R=befR c day fin E.F E.C) :
  Calls Tryz.prog 15 #[.agg #[.int .u8 c.k,.string c.fr,.string c.rc,.string c.nm,.int .u8 c.ex.k,.string c.ex.ra,.string c.ex.nm,.int .i64 c.ex.d,.slice a1 c.ex.sub.length n1,.int .i64 c.d,.slice a2 c.ds.length n2,.slice a3 c.sub.length n3],.int .i64 day,.int .i64 fin,.agg #[.slice E.af E.F.length E.cf,.slice E.ac E.C.length E.cc]] w (RfP w R):=by
 obtain ⟨W1,hW1,hb1,hB⟩:=Zb2 w c (.slice a1 c.ex.sub.length n1) (.slice a2 c.ds.length n2) (.slice a3 c.sub.length n3) E;have hz1:=hb1.size;have HB:=Lh hB;have Hb1:=Lh hb1;have HH:=Lh h;have H1:=Lh (fun W (hb:Below W1.heap.size W1 W)=>(show Calls Tryz.prog 45 #[.agg #[.int .u8 c.k,.string c.fr,.string c.rc,.string c.nm,.int .u8 c.ex.k,.string c.ex.ra,.string c.ex.nm,.int .i64 c.ex.d,.slice a1 c.ex.sub.length n1,.int .i64 c.d,.slice a2 c.ds.length n2,.slice a3 c.sub.length n3]] W fun e w'=>e = .returned (.int .i64 c.err)∧Below W.heap.size W w' from Zqx c _ _ _ W h.bulk ((h.rd.frame hb1).frame hb)))
 have H2:=Lh (fun W (hb:Below W1.heap.size W1 W)=>Zuk E.F E.C E.af E.ac E.cf E.cc W h.e.nf h.e.nc ((h.e.frame hb1).frame hb).f ((h.e.frame hb1).frame hb).c h.fs h.cs);have HRR:=Lh hRR;clear hRR;obtain ⟨x0,x1,x2,x3,x4,x5,x6,x7,x8,x9,x10,x11,xv0,xv1⟩:=hB.all;clear h hB hb1;by_cases h1:c.err=0
 ·have HE:=Lh h1;rw [h1] at H1;clear h1;go_enter Tryz.func15,Tryz.ntmps15
  go_upto_region 1 with (fail);clear hW1;go_wp2_with fail;refine (H1.out _ (Below.refl _ _)).mono ?_;rintro e w2 ⟨rfl,hb2⟩;have Hb2:=Lh hb2;clear x0 x1 x2 x3 x4 x5 x6 x7 x8 x9 x10 x11 xv0 xv1;have hB2:=HB.out.below hb2;obtain ⟨x0,x1,x2,x3,x4,x5,x6,x7,x8,x9,x10,x11,xv0,xv1⟩:=hB2.all;clear hB2 hb2;by_cases h2:Za7 E.F E.C=0
  ·have HE2:=Lh h2;rw [h2] at H2;clear h2;go_wp2_with fail;refine (H2.out _ Hb2.out).mono ?_;rintro e w3 ⟨rfl,hb3⟩;have Hb3:=Lh (Hb2.out.trans (hb3.mono Hb2.out.size));clear x0 x1 x2 x3 x4 x5 x6 x7 x8 x9 x10 x11 xv0 xv1;have hB2:=HB.out.below Hb3.out;obtain ⟨x0,x1,x2,x3,x4,x5,x6,x7,x8,x9,x10,x11,xv0,xv1⟩:=hB2.all;clear hB2 hb3 H1 H2;have HD:=Lh (Zgp day w3);have hRd:Zbh day=(decide (0≤day) && decide (day≤99999)):=rfl
   by_cases ha:day < 0∨99999 < day∨fin < 0∨100000 < fin
   ·have HX:Hid (R=(2,[])):=by show _=_;rw [HRR.out,befR,if_neg (fun q=>q HE.out),if_neg (fun q=>q HE2.out),if_pos ha]
    have HF:=Lh (RfP.err HX.out (Hb1.out.trans (Hb3.out.mono hz1)));by_cases hd:Zbh day=true
    ·rw [hd] at HD;have hq:fin < 0∨100000 < fin:=by rw [hRd,Bool.and_eq_true,decide_eq_true_eq,decide_eq_true_eq] at hd;omega
     clear hRd hd ha;by_cases hf:fin < 0
     ·have t1:decide (fin < 0)=true:=decide_eq_true hf;clear hq hf;go_wp2_with (go_at_call 47;refine HD.out.mono ?_;rintro e w4 ⟨rfl,rfl⟩);go_ret2;exact HF.out
     ·have t1:decide (fin < 0)=false:=decide_eq_false hf;have t2:decide (100000 < fin)=true:=decide_eq_true (by omega);clear hq hf;go_wp2_with (go_at_call 47;refine HD.out.mono ?_;rintro e w4 ⟨rfl,rfl⟩);go_ret2;exact HF.out
    ·rw [Bool.not_eq_true] at hd;rw [hd] at HD;clear hRd hd ha;go_wp2_with (go_at_call 47;refine HD.out.mono ?_;rintro e w4 ⟨rfl,rfl⟩);go_ret2;exact HF.out
   ·have g1:Zbh day=true:=by rw [hRd,Bool.and_eq_true,decide_eq_true_eq,decide_eq_true_eq];omega
    rw [g1] at HD;have t1:decide (fin < 0)=false:=decide_eq_false (by omega);have t2:decide (100000 < fin)=false:=decide_eq_false (by omega);have hfl:FlH c (.slice a1 c.ex.sub.length n1) (.slice a2 c.ds.length n2) (.slice a3 c.sub.length n3) E w3:=⟨HH.out.bulk,(HH.out.rd.frame Hb1.out).frame Hb3.out,(HH.out.ls.frame Hb1.out).frame Hb3.out,(HH.out.lo.frame Hb1.out).frame Hb3.out,(HH.out.e.frame Hb1.out).frame Hb3.out,HH.out.fs,HH.out.cs,HE2.out,Z0j HE.out⟩
    have HL:=Lh (show Calls Tryz.prog 48 #[.agg #[.int .u8 c.k,.string c.fr,.string c.rc,.string c.nm,.int .u8 c.ex.k,.string c.ex.ra,.string c.ex.nm,.int .i64 c.ex.d,.slice a1 c.ex.sub.length n1,.int .i64 c.d,.slice a2 c.ds.length n2,.slice a3 c.sub.length n3],.int .i64 day,.int .i64 fin,.agg #[.slice E.af E.F.length E.cf,.slice E.ac E.C.length E.cc]] w3 (RLP w3 (c.flows E.F E.C day fin)) from Zpc c.bulk c E (Nat.le_refl _) _ _ _ day fin w3 hfl (by omega) (by omega))
    have HLe:Hid ((c.flows E.F E.C day fin).2.length≤1100000):=Nat.le_trans (Zff E.F E.C c.bulk c (Nat.le_refl _) day fin) HH.out.bulk;have HX:Hid (R=andR (c.flows E.F E.C day fin) [] fun l=>(0,Zbs l)):=by show _=_;rw [HRR.out,befR,if_neg (fun q=>q HE.out),if_neg (fun q=>q HE2.out),if_neg ha]
    clear hRd ha g1 hfl HRR HE HE2;unfold RLP at HL;generalize c.flows E.F E.C day fin=Rf at *;go_wp2_with (go_at_call 47;refine HD.out.mono ?_;rintro e w4 ⟨rfl,rfl⟩);refine HL.out.mono ?_;rintro e w4 ⟨v,rfl,⟨⟨ad,cp,rfl⟩,ho⟩,hb4⟩;have Hb4:=Lh (Hb1.out.trans ((Hb3.out.trans (hb4.mono Hb3.out.size)).mono hz1));clear HL hb4 x0 x1 x2 x3 x4 x5 x6 x7 x8 x9 x10 x11 xv0 xv1;by_cases h5:Rf.1=0
    ·rw [Zbv h5] at ho;have e5:(Zaw [] Rf).2=Rf.2:=Zbv h5;rw [e5];rw [h5];have HO:=Lh (Zpf Rf.2 ad cp w4 HLe.out (Rd.of_sl (enc:=Fl.cells) (m:=5) (fun _=>rfl) (by decide) (Sl.of_owns ho)));have HY:Hid (R=(0,Zbs Rf.2)):=by show _=_;rw [HX.out];exact Zbo h5
     clear h5 e5 ho HX;go_wp2_with fail;refine HO.out.mono ?_;rintro e w5 ⟨v,rfl,⟨⟨ad5,cp5,rfl⟩,ho5⟩,hb5⟩;have HF:Hid (RfP w R (.returned (.tuple #[.slice ad5 (Zbs Rf.2).length cp5,.int .i64 0])) w5):=by
      rw [HY.out];exact ⟨ad5,cp5,rfl,Hb4.out.trans (hb5.mono Hb4.out.size),Rd.of_sl (enc:=Fl.cells) (m:=5) (fun _=>rfl) (by decide) (Sl.of_owns ho5)⟩
     clear HO ho5 hb5 HY;go_wp2;go_ret2;exact HF.out
    ·have t3:(Rf.1 != 0)=true:=by rw [bne_iff_ne];exact h5
     have HF:=Lh (RfP.err (HX.out.trans (Zcw h5)) Hb4.out);clear h5 ho HX;go_wp2;go_ret2;exact HF.out
  ·have t1:(Za7 E.F E.C != 0)=true:=by rw [bne_iff_ne];exact h2
   have HX:Hid (R=(Za7 E.F E.C,[])):=by show _=_;rw [HRR.out,befR,if_neg (fun q=>q HE.out),if_pos h2]
   clear h2;go_wp2_with fail;refine (H2.out _ Hb2.out).mono ?_;rintro e w3 ⟨rfl,hb3⟩;have Hb3:=Lh (Hb2.out.trans (hb3.mono Hb2.out.size));clear x0 x1 x2 x3 x4 x5 x6 x7 x8 x9 x10 x11 xv0 xv1;have hB2:=HB.out.below Hb3.out;obtain ⟨-,-,-,-,-,-,-,-,-,-,-,-,xv0,xv1⟩:=hB2.all;clear hB2 hb3;go_wp2_with fail;refine (H2.out _ Hb3.out).mono ?_;rintro e w4 ⟨rfl,hb4⟩;have HF:=Lh (RfP.err HX.out (Hb1.out.trans ((Hb3.out.trans (hb4.mono Hb3.out.size)).mono hz1)))
   clear hb4 H1 H2;go_wp2;go_ret2;exact HF.out
 ·have t1:(c.err != 0)=true:=by rw [bne_iff_ne];exact h1
  have HX:Hid (R=(c.err,[])):=by show _=_;rw [HRR.out,befR,if_pos h1]
  clear h1;go_enter Tryz.func15,Tryz.ntmps15
  go_upto_region 1 with (fail);clear hW1;go_wp2_with fail;refine (H1.out _ (Below.refl _ _)).mono ?_;rintro e w2 ⟨rfl,hb2⟩;have Hb2:=Lh hb2;clear x0 x1 x2 x3 x4 x5 x6 x7 x8 x9 x10 x11 xv0 xv1;have hB2:=HB.out.below hb2;obtain ⟨x0,x1,x2,x3,x4,x5,x6,x7,x8,x9,x10,x11,xv0,xv1⟩:=hB2.all;clear hB2 hb2;go_wp2_with fail;refine (H1.out _ Hb2.out).mono ?_;rintro e w3 ⟨rfl,hb3⟩;have HF:=Lh (RfP.err HX.out (Hb1.out.trans ((Hb2.out.trans (hb3.mono Hb2.out.size)).mono hz1)))
  clear hb3 H1 H2;go_wp2;go_ret2;exact HF.out
theorem Zum (c:Con) (a1 a2 a3:Option Addr) (n1 n2 n3:Nat) (day:Int) (E:EvD) (w:World) (h:BfH c (.slice a1 c.ex.sub.length n1) (.slice a2 c.ds.length n2) (.slice a3 c.sub.length n3) E w) (R:Int × List Fl) (hRR:R=befR c day 100000 E.F E.C) :
  Calls Tryz.prog 13 #[.agg #[.int .u8 c.k,.string c.fr,.string c.rc,.string c.nm,.int .u8 c.ex.k,.string c.ex.ra,.string c.ex.nm,.int .i64 c.ex.d,.slice a1 c.ex.sub.length n1,.int .i64 c.d,.slice a2 c.ds.length n2,.slice a3 c.sub.length n3],.int .i64 day,.agg #[.slice E.af E.F.length E.cf,.slice E.ac E.C.length E.cc]] w (RfP w R):=by
 obtain ⟨W1,hW1,hb1,hB⟩:=Zb2 w c (.slice a1 c.ex.sub.length n1) (.slice a2 c.ds.length n2) (.slice a3 c.sub.length n3) E;have hz1:=hb1.size;have Hb1:=Lh hb1;have HC:=Lh (Zsj c a1 a2 a3 n1 n2 n3 day 100000 E W1 (h.frame hb1) R hRR);obtain ⟨x0,x1,x2,x3,x4,x5,x6,x7,x8,x9,x10,x11,xv0,xv1⟩:=hB.all;clear h hB hb1 hRR;go_enter Tryz.func13,Tryz.ntmps13
 go_upto_region 1 with (fail);clear hW1;go_wp2_with fail;refine HC.out.mono ?_;rintro e w2 ⟨ad,cap,rfl,hb2,hr⟩;have HF:Hid (RfP w R (.returned (.tuple #[.slice ad R.2.length cap,.int .i64 R.1])) w2):=⟨ad,cap,rfl,Hb1.out.trans (hb2.mono hz1),hr⟩
 clear HC hb2 hr;go_wp2;go_ret2;exact HF.out
section
variable {c:Con} {es dd ss:Value} {E:EvD} {w:World}
theorem Zq0 (h:BfH c es dd ss E w) (day fin:Int):Calls Tryz.prog 15 #[c.val es dd ss,.int .i64 day,.int .i64 fin,.agg #[.slice E.af E.F.length E.cf,.slice E.ac E.C.length E.cc]] w (RfP w (befR c day fin E.F E.C)):=by
 obtain ⟨a1,n1,rfl⟩:=h.rd.1.len;obtain ⟨a2,n2,rfl⟩:=h.rd.2.1.len;obtain ⟨a3,n3,rfl⟩:=h.rd.2.2.1.len;exact Zsj c a1 a2 a3 n1 n2 n3 day fin E w h _ rfl
theorem Zul (h:BfH c es dd ss E w) (day:Int):Calls Tryz.prog 13 #[c.val es dd ss,.int .i64 day,.agg #[.slice E.af E.F.length E.cf,.slice E.ac E.C.length E.cc]] w (RfP w (befR c day 100000 E.F E.C)):=by
 obtain ⟨a1,n1,rfl⟩:=h.rd.1.len;obtain ⟨a2,n2,rfl⟩:=h.rd.2.1.len;obtain ⟨a3,n3,rfl⟩:=h.rd.2.2.1.len;exact Zum c a1 a2 a3 n1 n2 n3 day E w h _ rfl
end
theorem Zut:∀ (B:Nat) (x:Ex) (s t:Value) (w:World),x.bulk≤B→x.bulk≤2000000→RdE w x.sub s→RdE w x.sub t →
  Calls Tryz.prog 50 #[x.val s,x.val t] w fun e w'=>e = .returned (.bool true)∧Below w.heap.size w w':=by
 intro B;induction B with
 | zero =>
  intro x s t w h0;rw [Ex.bulk_eq] at h0;omega
 | succ B ih =>
  intro x s t w hB hM hs ht;obtain ⟨ad,cap,rfl⟩:=hs.len;obtain ⟨ae,cbp,rfl⟩:=ht.len;have HS:=Lh hs;have HT:=Lh ht;have HI:=Lh ih;have hlen:=Ex.bulks_len x.sub;have hlt0:=x.sub_lt;have hn:x.sub.length≤2000000:=by omega
  have hb0:=Zaz w (.cells #[.int .u8 x.k,.string x.ra,.string x.nm,.int .i64 x.d,.slice ad x.sub.length cap] 25) (.cells #[.int .u8 x.k,.string x.ra,.string x.nm,.int .i64 x.d,.slice ae x.sub.length cbp] 25);clear hs ht ih;unfold Ex.val;go_enter Tryz.func50,Tryz.ntmps50
  go_wp2_with fail;go_loopw [5] (fun i wr=>∃ k:Nat,k≤x.sub.length∧i = .int .i64 (k:Int)∧Below w.heap.size w wr∧wr.cell? ⟨w.heap.size,4,none⟩=some (.slice ad x.sub.length cap)∧wr.cell? ⟨w.heap.size+1,4,none⟩=some (.slice ae x.sub.length cbp)) (fun i _=>x.sub.length - (intOf i).toNat)
  case atStart=>exact ⟨0,Nat.zero_le _,rfl,hb0,by go_simp,by go_simp⟩
  case round =>
   clear hb0;obtain ⟨k,hk,rfl,hbel,q0,q1⟩:=hrel;by_cases hlt:k < x.sub.length
   ·obtain ⟨y,hy⟩:∃ y,x.sub[k]? = some y:=⟨_,List.getElem?_eq_getElem hlt⟩
    obtain ⟨b,off,s',rfl,c0,c1,c2,c3,c4,hs',_⟩:=(HS.out.frame hbel).at hy;obtain ⟨b2,off2,t',rfl,d0,d1,d2,d3,d4,ht',_⟩:=(HT.out.frame hbel).at hy;have hym:=Ex.mem_lt (List.mem_of_getElem? hy);have hbx:w.heap.size < wr.heap.size:=World.block_lt_of_cell? wr _ q0;have hbx1:w.heap.size+1 < wr.heap.size:=World.block_lt_of_cell? wr _ q1;have hzw:=hbel.size;have hk1:(0:Int)≤(k:Int):=by omega
    have hk2:(k:Int) < (x.sub.length:Int):=by omega
    have HC:=Lh fun (V:World) (hV:Below wr.heap.size wr V)=>HI.out y s' t' V (by omega) (by omega) (hs'.frame hV) (ht'.frame hV)
    unfold Ex.val at HC;clear hy hym hs' ht';go_wp2_with fail;refine Zfu (fun L a w'=>∃ v0 v1 v2 v3 v4 v5 v6 v7 v8 v9 v10 v11,a=⟨#[.agg #[.int .u8 (x.k:Int),.string x.ra,.string x.nm,.int .i64 x.d,.slice (some ⟨b,off,none⟩) x.sub.length cap],.agg #[.int .u8 (x.k:Int),.string x.ra,.string x.nm,.int .i64 x.d,.slice (some ⟨b2,off2,none⟩) x.sub.length cbp],.pointer (some ⟨w.heap.size,0,none⟩),.pointer (some ⟨w.heap.size+1,0,none⟩),u4,.int .i64 (k:Int),.pointer (some ⟨w.heap.size,0,none⟩),.int .u8 (x.k:Int),.pointer (some ⟨w.heap.size+1,0,none⟩),.int .u8 (x.k:Int),.bool false,.bool false,.pointer (some ⟨w.heap.size,1,none⟩),.string x.ra,.pointer (some ⟨w.heap.size+1,1,none⟩),.string x.ra,.bool false,.bool false,.bool false,.pointer (some ⟨w.heap.size,2,none⟩),.string x.nm,.pointer (some ⟨w.heap.size+1,2,none⟩),.string x.nm,.bool false,.bool false,.bool false,.pointer (some ⟨w.heap.size,3,none⟩),.int .i64 x.d,.pointer (some ⟨w.heap.size+1,3,none⟩),.int .i64 x.d,.bool false,.bool false,.bool false,.pointer (some ⟨w.heap.size,4,none⟩),.slice (some ⟨b,off,none⟩) x.sub.length cap,.int .i64 (x.sub.length:Int),.pointer (some ⟨w.heap.size+1,4,none⟩),.slice (some ⟨b2,off2,none⟩) x.sub.length cbp,.int .i64 (x.sub.length:Int),.bool false,.bool false,.int .i64 (k:Int),.pointer (some ⟨w.heap.size,4,none⟩),.slice (some ⟨b,off,none⟩) x.sub.length cap,.int .i64 (x.sub.length:Int),.bool true,u46,u47,v0,v1,v2,v3,v4,v5,v6,v7,v8,v9,v10,v11],[]⟩∧VInv wr [.pointer (some ⟨w.heap.size,4,none⟩),.slice (some ⟨b,off,none⟩) x.sub.length cap,.int .i64 (k:Int),.pointer (some ⟨b,off+k * 5,none⟩),.agg #[.int .u8 (y.k:Int),.string y.ra,.string y.nm,.int .i64 y.d,s'],.pointer (some ⟨w.heap.size+1,4,none⟩),.slice (some ⟨b2,off2,none⟩) x.sub.length cbp,.int .i64 (k:Int),.pointer (some ⟨b2,off2+k * 5,none⟩),.agg #[.int .u8 (y.k:Int),.string y.ra,.string y.nm,.int .i64 y.d,t'],.bool true,.bool false] [v0,v1,v2,v3,v4,v5,v6,v7,v8,v9,v10,v11] L w') (by kernel_rfl) (by kernel_rfl) ?_ ?_ ?_
    ·exact ⟨_,_,_,_,_,_,_,_,_,_,_,_,rfl,VInv.start (below_drewN (Below.refl _ _) 1) rfl⟩
    ·rintro L a w' ⟨v0,v1,v2,v3,v4,v5,v6,v7,v8,v9,v10,v11,rfl,h⟩ i o ho hL hp;have hi9:i < 12:=by simpa using (Array.getElem?_eq_some_iff.1 ho).1
     have hi2:i=0∨i=1∨i=2∨i=3∨i=4∨i=5∨i=6∨i=7∨i=8∨i=9∨i=10∨i=11:=by omega
     clear hi9;have hcb:∀ p u,wr.cell? p=some u→w'.cell? p=some u:=fun p u hu=>by rw [h.b.cell (p:=p) (World.block_lt_of_cell? wr _ hu)];exact hu
     rcases hi2 with rfl | rfl | rfl | rfl | rfl | rfl | rfl | rfl | rfl | rfl | rfl | rfl
     ·refine wpOp_step rfl ?_;intro K hK;go_simp;exact hK _ _ ⟨_,_,_,_,_,_,_,_,_,_,_,_,rfl,h.step (i:=0) (v:=.pointer (some ⟨w.heap.size,4,none⟩)) rfl⟩
     ·refine wpOp_step rfl ?_;intro K hK;obtain rfl:=h.at (i:=0) (Zaa ho hp (j:=0) (by kernel_rfl)) rfl rfl;have z:=hcb _ _ q0;go_simp;exact hK _ _ ⟨_,_,_,_,_,_,_,_,_,_,_,_,rfl,h.step (i:=1) (v:=.slice (some ⟨b,off,none⟩) x.sub.length cap) rfl⟩
     ·refine wpOp_step rfl ?_;intro K hK;go_simp;exact hK _ _ ⟨_,_,_,_,_,_,_,_,_,_,_,_,rfl,h.step (i:=2) (v:=.int .i64 (k:Int)) rfl⟩
     ·refine wpOp_step rfl ?_;intro K hK;obtain rfl:=h.at (i:=1) (Zaa ho hp (j:=1) (by kernel_rfl)) rfl rfl;obtain rfl:=h.at (i:=2) (Zaa ho hp (j:=2) (by kernel_rfl)) rfl rfl;go_simp;exact hK _ _ ⟨_,_,_,_,_,_,_,_,_,_,_,_,rfl,h.step (i:=3) (v:=.pointer (some ⟨b,off+k * 5,none⟩)) rfl⟩
     ·refine wpOp_step rfl ?_;intro K hK;obtain rfl:=h.at (i:=3) (Zaa ho hp (j:=3) (by kernel_rfl)) rfl rfl;have z0:=hcb _ _ c0;have z1:=hcb _ _ c1;have z2:=hcb _ _ c2;have z3:=hcb _ _ c3;have z4:=hcb _ _ c4;go_simp;exact hK _ _ ⟨_,_,_,_,_,_,_,_,_,_,_,_,rfl,h.step (i:=4) (v:=.agg #[.int .u8 (y.k:Int),.string y.ra,.string y.nm,.int .i64 y.d,s']) rfl⟩
     ·refine wpOp_step rfl ?_;intro K hK;go_simp;exact hK _ _ ⟨_,_,_,_,_,_,_,_,_,_,_,_,rfl,h.step (i:=5) (v:=.pointer (some ⟨w.heap.size+1,4,none⟩)) rfl⟩
     ·refine wpOp_step rfl ?_;intro K hK;obtain rfl:=h.at (i:=5) (Zaa ho hp (j:=5) (by kernel_rfl)) rfl rfl;have z:=hcb _ _ q1;go_simp;exact hK _ _ ⟨_,_,_,_,_,_,_,_,_,_,_,_,rfl,h.step (i:=6) (v:=.slice (some ⟨b2,off2,none⟩) x.sub.length cbp) rfl⟩
     ·refine wpOp_step rfl ?_;intro K hK;go_simp;exact hK _ _ ⟨_,_,_,_,_,_,_,_,_,_,_,_,rfl,h.step (i:=7) (v:=.int .i64 (k:Int)) rfl⟩
     ·refine wpOp_step rfl ?_;intro K hK;obtain rfl:=h.at (i:=6) (Zaa ho hp (j:=6) (by kernel_rfl)) rfl rfl;obtain rfl:=h.at (i:=7) (Zaa ho hp (j:=7) (by kernel_rfl)) rfl rfl;go_simp;exact hK _ _ ⟨_,_,_,_,_,_,_,_,_,_,_,_,rfl,h.step (i:=8) (v:=.pointer (some ⟨b2,off2+k * 5,none⟩)) rfl⟩
     ·refine wpOp_step rfl ?_;intro K hK;obtain rfl:=h.at (i:=8) (Zaa ho hp (j:=8) (by kernel_rfl)) rfl rfl;have z0:=hcb _ _ d0;have z1:=hcb _ _ d1;have z2:=hcb _ _ d2;have z3:=hcb _ _ d3;have z4:=hcb _ _ d4;go_simp;exact hK _ _ ⟨_,_,_,_,_,_,_,_,_,_,_,_,rfl,h.step (i:=9) (v:=.agg #[.int .u8 (y.k:Int),.string y.ra,.string y.nm,.int .i64 y.d,t']) rfl⟩
     ·refine wpOp_step rfl ?_;intro K hK;obtain rfl:=h.at (i:=4) (Zaa ho hp (j:=4) (by kernel_rfl)) rfl rfl;obtain rfl:=h.at (i:=9) (Zaa ho hp (j:=9) (by kernel_rfl)) rfl rfl;go_simp;refine (HC.out w' h.b).mono ?_;rintro e w4 ⟨rfl,hb4⟩;exact hK _ _ ⟨_,_,_,_,_,_,_,_,_,_,_,_,rfl,(h.ext hb4).step (i:=10) (v:=.bool true) rfl⟩
     ·refine wpOp_step rfl ?_;intro K hK;obtain rfl:=h.at (i:=10) (Zaa ho hp (j:=10) (by kernel_rfl)) rfl rfl;go_simp;exact hK _ _ ⟨_,_,_,_,_,_,_,_,_,_,_,_,rfl,h.step (i:=11) (v:=.bool false) rfl⟩
    ·rintro L a w1 ⟨v0,v1,v2,v3,v4,v5,v6,v7,v8,v9,v10,v11,rfl,h⟩ hall;obtain rfl:=h.at (i:=11) (hall 11 (by decide)) rfl rfl;have q2:=(h.b.cell (p:=⟨w.heap.size,4,none⟩) hbx).trans q0;have q3:=(h.b.cell (p:=⟨w.heap.size+1,4,none⟩) hbx1).trans q1;have hb2:=hbel.trans (h.b.mono hzw);clear h hall hbel q0 q1;go_wp2;go_roundw
     case rel=>exact ⟨k+1,by omega,by go_num,hb2,q2,q3⟩
     case measure=>simp [intOf];omega
   ·obtain rfl:k=x.sub.length:=by omega
    go_wp2;go_ret;exact ⟨rfl,hbel⟩
theorem Zkx (a b:List Int) (va vb:Value) (W:World) (ha:RdDy W a va) (hb:RdDy W b vb) (hla:a.length≤4000000000000) (hlb:b.length≤4000000000000) :
  Calls Tryz.prog 51 #[va,vb] W fun e W'=>e = .returned (.bool (decide (a=b)))∧Below W.heap.size W W':=by
 obtain ⟨ad,cap,rfl,hra⟩:=ha;obtain ⟨bd,bcap,rfl,hrb⟩:=hb;obtain ⟨n,hn⟩:∃ n,a.length=n:=⟨_,rfl⟩
 obtain ⟨m,hm⟩:∃ m,b.length=m:=⟨_,rfl⟩
 have Hn:=Lh hn;have Hm:=Lh hm;have HA:=Lh hra;have HB:=Lh hrb;rw [hn] at hla ⊢;rw [hm] at hlb ⊢;clear hra hrb hn hm;by_cases hnm:n=m
 ·subst hnm;obtain ⟨r,hr⟩:∃ r,decide (a=b)=r:=⟨_,rfl⟩
  have HR:=Lh hr;rw [hr];clear hr;go_enter Tryz.func51,Tryz.ntmps51
  go_wp2;go_loopw [5] (fun i wr=>∃ k:Nat,k≤n∧i = .int .i64 (k:Int)∧Hid (∀ j,j < k→a[j]? = b[j]?)∧∃ q,wr=W.drewN q) (fun i _=>n - (intOf i).toNat)
  case atStart=>exact ⟨0,Nat.zero_le _,rfl,Lh fun j hj=>absurd hj (Nat.not_lt_zero _),0,rfl⟩
  case round =>
   obtain ⟨k,hk,rfl,Hc,q,rfl⟩:=hrel;by_cases hlt:k < n
   ·obtain ⟨x,hx⟩:∃ x,a[k]? = some x:=⟨_,List.getElem?_eq_getElem (by rw [Hn.out];exact hlt)⟩
    obtain ⟨y,hy⟩:∃ y,b[k]? = some y:=⟨_,List.getElem?_eq_getElem (by rw [Hm.out];exact hlt)⟩
    have ⟨xd,hxd⟩:∃ xd,x=xd:=⟨_,rfl⟩
    have ⟨yd,hyd⟩:∃ yd,y=yd:=⟨_,rfl⟩
    rw [hxd] at hx;rw [hyd] at hy;clear hxd hyd;obtain ⟨ba,oa,rfl,x0⟩:=HA.out k _ hx;obtain ⟨bb,ob,rfl,y0⟩:=HB.out k _ hy;have HX:=Lh hx;have HY:=Lh hy;have hl0:(k:Int) < (n:Int):=by omega
    clear hx hy;go_wp2_with fail;by_cases t0:xd=yd
    ·have HE:Hid (a[k]? = b[k]?):=Lh (by rw [HX.out,HY.out];rw [t0]);go_quiet (fail)
     go_wp2;go_roundw
     case rel=>exact ⟨k+1,by omega,by go_num,Lh (Zxp Hc.out HE.out),_,rfl⟩
     case measure=>simp [intOf];omega
    ·have HF:Hid (false=r):=Lh (by
      rw [← HR.out,eq_comm,decide_eq_false_iff_not];rintro rfl;skip
      have e:=Option.some.inj (HX.out.symm.trans HY.out);exact t0 (e))
     go_quiet (fail)
     go_wp2;go_ret;exact ⟨Zaf HF.out,below_drewN (below_drewN (Below.refl _ _) _) _⟩
   ·have HF:Hid (true=r):=Lh (by
     rw [← HR.out,eq_comm,decide_eq_true_eq];apply List.ext_getElem?
     intro j;rcases Nat.lt_or_ge j k with h | h
     ·exact Hc.out j h
     ·rw [List.getElem?_eq_none (by rw [Hn.out];omega),List.getElem?_eq_none (by rw [Hm.out];omega)])
    go_wp2;go_ret;exact ⟨Zaf HF.out,below_drewN (Below.refl _ _) _⟩
 ·have HF:Hid (false=decide (a=b)):=Lh (by
   rw [eq_comm,decide_eq_false_iff_not];rintro rfl;exact hnm (Hn.out.symm.trans Hm.out))
  go_enter Tryz.func51,Tryz.ntmps51
  go_wp2;go_ret;exact ⟨Zaf HF.out,Below.refl _ _⟩
theorem Zk0 {w:World} {l:List Int} {v:Value} (h:RdI w l v):RdDy w l v:=by
 obtain ⟨ad,cap,rfl,_,h2⟩:=h;exact ⟨ad,cap,rfl,h2⟩
theorem Zus:∀ (B:Nat) (x:Con) (es dd ss es2 dd2 ss2:Value) (w:World),x.bulk≤B→x.bulk≤2000000→RdN w x es dd ss→RdN w x es2 dd2 ss2 →
  Calls Tryz.prog 17 #[x.val es dd ss,x.val es2 dd2 ss2] w fun e w'=>e = .returned (.bool true)∧Below w.heap.size w w':=by
 intro B;induction B with
 | zero =>
  intro x es dd ss es2 dd2 ss2 w h0;rw [Con.bulk_eq] at h0;omega
 | succ B ih =>
  intro x es dd ss es2 dd2 ss2 w hB hM hs ht;obtain ⟨ad,cap,rfl⟩:=hs.2.2.1.len;obtain ⟨ad1,cap1,rfl⟩:=hs.1.len;obtain ⟨ad2,cap2,rfl⟩:=hs.2.1.len;obtain ⟨ae,cbp,rfl⟩:=ht.2.2.1.len;obtain ⟨ae1,cbp1,rfl⟩:=ht.1.len;obtain ⟨ae2,cbp2,rfl⟩:=ht.2.1.len;have HS:=Lh hs;have HT:=Lh ht;have HI:=Lh ih;have hlen:=Con.bulks_len x.sub;have hlt0:=x.sub_lt;have hsq1:=x.bulk_eq;have hn:x.sub.length≤2000000:=by omega
  clear hs ht ih hsq1;unfold Con.val;go_enter Tryz.func17,Tryz.ntmps17
  go_wp2_with fail;go_loopw [5] (fun i wr=>∃ k:Nat,k≤x.sub.length∧i = .int .i64 (k:Int)∧Below w.heap.size w wr∧BoxN wr w.heap.size 29 [.int .u8 x.k,.string x.fr,.string x.rc,.string x.nm,.int .u8 x.ex.k,.string x.ex.ra,.string x.ex.nm,.int .i64 x.ex.d,.slice ad1 x.ex.sub.length cap1,.int .i64 x.d,.slice ad2 x.ds.length cap2,.slice ad x.sub.length cap]∧BoxN wr (w.heap.size+1) 29 [.int .u8 x.k,.string x.fr,.string x.rc,.string x.nm,.int .u8 x.ex.k,.string x.ex.ra,.string x.ex.nm,.int .i64 x.ex.d,.slice ae1 x.ex.sub.length cbp1,.int .i64 x.d,.slice ae2 x.ds.length cbp2,.slice ae x.sub.length cbp]) (fun i _=>x.sub.length - (intOf i).toNat)
  case atStart=>exact ⟨0,Nat.zero_le _,rfl,Zaz _ _ _,(BoxN.new w [.int .u8 x.k,.string x.fr,.string x.rc,.string x.nm,.int .u8 x.ex.k,.string x.ex.ra,.string x.ex.nm,.int .i64 x.ex.d,.slice ad1 x.ex.sub.length cap1,.int .i64 x.d,.slice ad2 x.ds.length cap2,.slice ad x.sub.length cap] _).alloc _,by have h:=BoxN.new (w.alloc (.cells #[.int .u8 x.k,.string x.fr,.string x.rc,.string x.nm,.int .u8 x.ex.k,.string x.ex.ra,.string x.ex.nm,.int .i64 x.ex.d,.slice ad1 x.ex.sub.length cap1,.int .i64 x.d,.slice ad2 x.ds.length cap2,.slice ad x.sub.length cap] 29)) [.int .u8 x.k,.string x.fr,.string x.rc,.string x.nm,.int .u8 x.ex.k,.string x.ex.ra,.string x.ex.nm,.int .i64 x.ex.d,.slice ae1 x.ex.sub.length cbp1,.int .i64 x.d,.slice ae2 x.ds.length cbp2,.slice ae x.sub.length cbp] 29;rw [World.size_alloc] at h;exact h⟩
  case round =>
   obtain ⟨k,hk,rfl,hbel,hA,hB2⟩:=hrel;have q0:wr.cell? ⟨w.heap.size,11,none⟩=some (.slice ad x.sub.length cap):=hA.cell rfl;have q1:wr.cell? ⟨w.heap.size+1,11,none⟩=some (.slice ae x.sub.length cbp):=hB2.cell rfl;by_cases hlt:k < x.sub.length
   ·obtain ⟨y,hy⟩:∃ y,x.sub[k]? = some y:=⟨_,List.getElem?_eq_getElem hlt⟩
    obtain ⟨b,off,e9,d9,s9,rfl,hc,hs'⟩:=(HS.out.2.2.1.frame hbel).cells hy;obtain ⟨b2,off2,e8,d8,s8,rfl,hd,ht'⟩:=(HT.out.2.2.1.frame hbel).cells hy;have hk1:(0:Int)≤(k:Int):=by omega
    have hk2:(k:Int) < (x.sub.length:Int):=by omega
    obtain ⟨c0,c1,c2,c3,c4,c5,c6,c7,c8,c9,c10,c11⟩:=hc;obtain ⟨g0,g1,g2,g3,g4,g5,g6,g7,g8,g9,g10,g11⟩:=hd;have hym:=Con.mem_lt (List.mem_of_getElem? hy);have HC:=Lh fun (V:World) (hV:Below wr.heap.size wr V)=>HI.out y e9 d9 s9 e8 d8 s8 V (by omega) (by omega) (hs'.frame hV) (ht'.frame hV)
    unfold Con.val at HC;clear hy hym hs' ht';go_wp2_with fail;refine Zfu (fun L a w'=>∃ v0 v1 v2 v3 v4 v5 v6 v7 v8 v9 v10 v11,a=⟨#[.agg #[.int .u8 (x.k:Int),.string x.fr,.string x.rc,.string x.nm,.int .u8 (x.ex.k:Int),.string x.ex.ra,.string x.ex.nm,.int .i64 x.ex.d,.slice ad1 x.ex.sub.length cap1,.int .i64 x.d,.slice ad2 x.ds.length cap2,.slice (some ⟨b,off,none⟩) x.sub.length cap],.agg #[.int .u8 (x.k:Int),.string x.fr,.string x.rc,.string x.nm,.int .u8 (x.ex.k:Int),.string x.ex.ra,.string x.ex.nm,.int .i64 x.ex.d,.slice ae1 x.ex.sub.length cbp1,.int .i64 x.d,.slice ae2 x.ds.length cbp2,.slice (some ⟨b2,off2,none⟩) x.sub.length cbp],.pointer (some ⟨w.heap.size,0,none⟩),.pointer (some ⟨w.heap.size+1,0,none⟩),u4,.int .i64 (k:Int),.pointer (some ⟨w.heap.size,0,none⟩),.int .u8 (x.k:Int),.pointer (some ⟨w.heap.size+1,0,none⟩),.int .u8 (x.k:Int),.bool false,.bool false,.pointer (some ⟨w.heap.size,1,none⟩),.string x.fr,.pointer (some ⟨w.heap.size+1,1,none⟩),.string x.fr,.bool false,.bool false,.bool false,.pointer (some ⟨w.heap.size,2,none⟩),.string x.rc,.pointer (some ⟨w.heap.size+1,2,none⟩),.string x.rc,.bool false,.bool false,.bool false,.pointer (some ⟨w.heap.size,3,none⟩),.string x.nm,.pointer (some ⟨w.heap.size+1,3,none⟩),.string x.nm,.bool false,.bool false,.bool false,.pointer (some ⟨w.heap.size,9,none⟩),.int .i64 x.d,.pointer (some ⟨w.heap.size+1,9,none⟩),.int .i64 x.d,.bool false,.bool false,.bool false,.pointer (some ⟨w.heap.size,11,none⟩),.slice (some ⟨b,off,none⟩) x.sub.length cap,.int .i64 (x.sub.length:Int),.pointer (some ⟨w.heap.size+1,11,none⟩),.slice (some ⟨b2,off2,none⟩) x.sub.length cbp,.int .i64 (x.sub.length:Int),.bool false,.bool false,.int .i64 (k:Int),.pointer (some ⟨w.heap.size,11,none⟩),.slice (some ⟨b,off,none⟩) x.sub.length cap,.int .i64 (x.sub.length:Int),.bool true,u53,u54,v0,v1,v2,v3,v4,v5,v6,v7,v8,v9,v10,v11,undef,undef,undef,undef,undef,undef,undef,undef,undef,undef,undef,undef],[]⟩∧VInv wr [.pointer (some ⟨w.heap.size,11,none⟩),.slice (some ⟨b,off,none⟩) x.sub.length cap,.int .i64 (k:Int),.pointer (some ⟨b,off+k * 12,none⟩),.agg #[.int .u8 (y.k:Int),.string y.fr,.string y.rc,.string y.nm,.int .u8 (y.ex.k:Int),.string y.ex.ra,.string y.ex.nm,.int .i64 y.ex.d,e9,.int .i64 y.d,d9,s9],.pointer (some ⟨w.heap.size+1,11,none⟩),.slice (some ⟨b2,off2,none⟩) x.sub.length cbp,.int .i64 (k:Int),.pointer (some ⟨b2,off2+k * 12,none⟩),.agg #[.int .u8 (y.k:Int),.string y.fr,.string y.rc,.string y.nm,.int .u8 (y.ex.k:Int),.string y.ex.ra,.string y.ex.nm,.int .i64 y.ex.d,e8,.int .i64 y.d,d8,s8],.bool true,.bool false] [v0,v1,v2,v3,v4,v5,v6,v7,v8,v9,v10,v11] L w') (by kernel_rfl) (by kernel_rfl) ?_ ?_ ?_
    ·exact ⟨_,_,_,_,_,_,_,_,_,_,_,_,rfl,VInv.start (below_drewN (Below.refl _ _) 1) rfl⟩
    ·rintro L a w' ⟨v0,v1,v2,v3,v4,v5,v6,v7,v8,v9,v10,v11,rfl,h⟩ i o ho hL hp;have hi9:i < 12:=by simpa using (Array.getElem?_eq_some_iff.1 ho).1
     have hi2:i=0∨i=1∨i=2∨i=3∨i=4∨i=5∨i=6∨i=7∨i=8∨i=9∨i=10∨i=11:=by omega
     clear hi9;have hcb:∀ p u,wr.cell? p=some u→w'.cell? p=some u:=fun p u hu=>by rw [h.b.cell (p:=p) (World.block_lt_of_cell? wr _ hu)];exact hu
     rcases hi2 with rfl | rfl | rfl | rfl | rfl | rfl | rfl | rfl | rfl | rfl | rfl | rfl
     ·refine wpOp_step rfl ?_;intro K hK;go_simp;exact hK _ _ ⟨_,_,_,_,_,_,_,_,_,_,_,_,rfl,h.step (i:=0) (v:=.pointer (some ⟨w.heap.size,11,none⟩)) rfl⟩
     ·refine wpOp_step rfl ?_;intro K hK;obtain rfl:=h.at (i:=0) (Zaa ho hp (j:=0) (by kernel_rfl)) rfl rfl;have z:=hcb _ _ q0;go_simp;exact hK _ _ ⟨_,_,_,_,_,_,_,_,_,_,_,_,rfl,h.step (i:=1) (v:=.slice (some ⟨b,off,none⟩) x.sub.length cap) rfl⟩
     ·refine wpOp_step rfl ?_;intro K hK;go_simp;exact hK _ _ ⟨_,_,_,_,_,_,_,_,_,_,_,_,rfl,h.step (i:=2) (v:=.int .i64 (k:Int)) rfl⟩
     ·refine wpOp_step rfl ?_;intro K hK;obtain rfl:=h.at (i:=1) (Zaa ho hp (j:=1) (by kernel_rfl)) rfl rfl;obtain rfl:=h.at (i:=2) (Zaa ho hp (j:=2) (by kernel_rfl)) rfl rfl;go_simp;exact hK _ _ ⟨_,_,_,_,_,_,_,_,_,_,_,_,rfl,h.step (i:=3) (v:=.pointer (some ⟨b,off+k * 12,none⟩)) rfl⟩
     ·refine wpOp_step rfl ?_;intro K hK;obtain rfl:=h.at (i:=3) (Zaa ho hp (j:=3) (by kernel_rfl)) rfl rfl;have z0:=hcb _ _ c0;have z1:=hcb _ _ c1;have z2:=hcb _ _ c2;have z3:=hcb _ _ c3;have z4:=hcb _ _ c4;have z5:=hcb _ _ c5;have z6:=hcb _ _ c6;have z7:=hcb _ _ c7;have z8:=hcb _ _ c8;have z9:=hcb _ _ c9;have z10:=hcb _ _ c10;have z11:=hcb _ _ c11;go_simp;exact hK _ _ ⟨_,_,_,_,_,_,_,_,_,_,_,_,rfl,h.step (i:=4) (v:=.agg #[.int .u8 (y.k:Int),.string y.fr,.string y.rc,.string y.nm,.int .u8 (y.ex.k:Int),.string y.ex.ra,.string y.ex.nm,.int .i64 y.ex.d,e9,.int .i64 y.d,d9,s9]) rfl⟩
     ·refine wpOp_step rfl ?_;intro K hK;go_simp;exact hK _ _ ⟨_,_,_,_,_,_,_,_,_,_,_,_,rfl,h.step (i:=5) (v:=.pointer (some ⟨w.heap.size+1,11,none⟩)) rfl⟩
     ·refine wpOp_step rfl ?_;intro K hK;obtain rfl:=h.at (i:=5) (Zaa ho hp (j:=5) (by kernel_rfl)) rfl rfl;have z:=hcb _ _ q1;go_simp;exact hK _ _ ⟨_,_,_,_,_,_,_,_,_,_,_,_,rfl,h.step (i:=6) (v:=.slice (some ⟨b2,off2,none⟩) x.sub.length cbp) rfl⟩
     ·refine wpOp_step rfl ?_;intro K hK;go_simp;exact hK _ _ ⟨_,_,_,_,_,_,_,_,_,_,_,_,rfl,h.step (i:=7) (v:=.int .i64 (k:Int)) rfl⟩
     ·refine wpOp_step rfl ?_;intro K hK;obtain rfl:=h.at (i:=6) (Zaa ho hp (j:=6) (by kernel_rfl)) rfl rfl;obtain rfl:=h.at (i:=7) (Zaa ho hp (j:=7) (by kernel_rfl)) rfl rfl;go_simp;exact hK _ _ ⟨_,_,_,_,_,_,_,_,_,_,_,_,rfl,h.step (i:=8) (v:=.pointer (some ⟨b2,off2+k * 12,none⟩)) rfl⟩
     ·refine wpOp_step rfl ?_;intro K hK;obtain rfl:=h.at (i:=8) (Zaa ho hp (j:=8) (by kernel_rfl)) rfl rfl;have z0:=hcb _ _ g0;have z1:=hcb _ _ g1;have z2:=hcb _ _ g2;have z3:=hcb _ _ g3;have z4:=hcb _ _ g4;have z5:=hcb _ _ g5;have z6:=hcb _ _ g6;have z7:=hcb _ _ g7;have z8:=hcb _ _ g8;have z9:=hcb _ _ g9;have z10:=hcb _ _ g10;have z11:=hcb _ _ g11;go_simp;exact hK _ _ ⟨_,_,_,_,_,_,_,_,_,_,_,_,rfl,h.step (i:=9) (v:=.agg #[.int .u8 (y.k:Int),.string y.fr,.string y.rc,.string y.nm,.int .u8 (y.ex.k:Int),.string y.ex.ra,.string y.ex.nm,.int .i64 y.ex.d,e8,.int .i64 y.d,d8,s8]) rfl⟩
     ·refine wpOp_step rfl ?_;intro K hK;obtain rfl:=h.at (i:=4) (Zaa ho hp (j:=4) (by kernel_rfl)) rfl rfl;obtain rfl:=h.at (i:=9) (Zaa ho hp (j:=9) (by kernel_rfl)) rfl rfl;go_simp;refine (HC.out w' h.b).mono ?_;rintro e w4 ⟨rfl,hb4⟩;exact hK _ _ ⟨_,_,_,_,_,_,_,_,_,_,_,_,rfl,(h.ext hb4).step (i:=10) (v:=.bool true) rfl⟩
     ·refine wpOp_step rfl ?_;intro K hK;obtain rfl:=h.at (i:=10) (Zaa ho hp (j:=10) (by kernel_rfl)) rfl rfl;go_simp;exact hK _ _ ⟨_,_,_,_,_,_,_,_,_,_,_,_,rfl,h.step (i:=11) (v:=.bool false) rfl⟩
    ·rintro L a w1 ⟨v0,v1,v2,v3,v4,v5,v6,v7,v8,v9,v10,v11,rfl,h⟩ hall;obtain rfl:=h.at (i:=11) (hall 11 (by decide)) rfl rfl;have hA2:=hA.below h.b hA.lt;have hB3:=hB2.below h.b hB2.lt;have hb2:=hbel.trans (h.b.mono hbel.size);clear h hall hbel q0 q1 hA hB2;go_wp2;go_roundw
     case rel=>exact ⟨k+1,by omega,by go_num,hb2,hA2,hB3⟩
     case measure=>simp [intOf];omega
   ·obtain rfl:k=x.sub.length:=by omega
    have m4:wr.cell? ⟨w.heap.size,4,none⟩=some (.int .u8 x.ex.k):=hA.cell rfl;have n4:wr.cell? ⟨w.heap.size+1,4,none⟩=some (.int .u8 x.ex.k):=hB2.cell rfl;have m5:wr.cell? ⟨w.heap.size,5,none⟩=some (.string x.ex.ra):=hA.cell rfl;have n5:wr.cell? ⟨w.heap.size+1,5,none⟩=some (.string x.ex.ra):=hB2.cell rfl;have m6:wr.cell? ⟨w.heap.size,6,none⟩=some (.string x.ex.nm):=hA.cell rfl;have n6:wr.cell? ⟨w.heap.size+1,6,none⟩=some (.string x.ex.nm):=hB2.cell rfl
    have m7:wr.cell? ⟨w.heap.size,7,none⟩=some (.int .i64 x.ex.d):=hA.cell rfl;have n7:wr.cell? ⟨w.heap.size+1,7,none⟩=some (.int .i64 x.ex.d):=hB2.cell rfl;have m8:wr.cell? ⟨w.heap.size,8,none⟩=some (.slice ad1 x.ex.sub.length cap1):=hA.cell rfl;have n8:wr.cell? ⟨w.heap.size+1,8,none⟩=some (.slice ae1 x.ex.sub.length cbp1):=hB2.cell rfl;have m10:wr.cell? ⟨w.heap.size,10,none⟩=some (.slice ad2 x.ds.length cap2):=hA.cell rfl
    have n10:wr.cell? ⟨w.heap.size+1,10,none⟩=some (.slice ae2 x.ds.length cbp2):=hB2.cell rfl;have hexb:x.ex.bulk≤2000000:=by have:=x.bulk_eq;omega
    have HZ:=Lh (Zut x.ex.bulk x.ex (.slice ad1 x.ex.sub.length cap1) (.slice ae1 x.ex.sub.length cbp1) wr (Nat.le_refl _) hexb (HS.out.1.frame hbel) (HT.out.1.frame hbel));unfold Ex.val at HZ;go_wp2_with fail;refine HZ.out.mono ?_;rintro e w1 ⟨rfl,hb1⟩;have m11:w1.cell? ⟨w.heap.size,10,none⟩=some (.slice ad2 x.ds.length cap2):=(hA.below hb1 hA.lt).cell rfl;have n11:w1.cell? ⟨w.heap.size+1,10,none⟩=some (.slice ae2 x.ds.length cbp2):=(hB2.below hb1 hB2.lt).cell rfl
    have hb2:=hbel.trans (hb1.mono hbel.size);have hdl:x.ds.length≤4000000000000:=by have:=x.bulk_eq;omega
    have HY:=Lh (Zkx x.ds x.ds _ _ w1 (Zk0 (HS.out.2.1.frame hb2)) (Zk0 (HT.out.2.1.frame hb2)) hdl hdl);clear hb1 hbel hA hB2 q0 q1;go_wp2_with fail;refine HY.out.mono ?_;rintro e w2 ⟨rfl,hb3⟩;have hb4:=hb2.trans (hb3.mono hb2.size);clear hb3 hb2;go_wp2;go_ret;exact ⟨Zaf (by simp),hb4⟩
end Go.Proofs.YtknpnhodpgajbaaGreatDoor
