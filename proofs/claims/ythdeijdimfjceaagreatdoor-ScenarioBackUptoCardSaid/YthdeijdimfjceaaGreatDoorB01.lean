/- A part. -/
import Derived.Test.YthdeijdimfjceaaGreatDoorA27
import Derived.Test.YthdeijdimfjceaaGreatDoorCards
import Derived.Test.YthdeijdimfjceaaGreatDoorTie
namespace Go.Proofs.YthdeijdimfjceaaGreatDoor
open Go.RowKit
theorem small_of_scn {l:List Sh} (h:scnGreat l=false):l.length≤110∧∀ x ∈ l,x.nm.size≤1000∧x.ra.size≤1000∧x.ex.size≤1000:=by
 unfold scnGreat at h
 simp only [Bool.or_eq_false_iff,decide_eq_false_iff_not,List.any_eq_false] at h
 refine ⟨by omega,fun x hx => ?_⟩
 have:=h.2 x hx
 unfold shGreat at this
 simp only [decide_eq_true_eq] at this
 omega
theorem fxSum_mem {l:List Fx} {f:Fx} (h:f ∈ l):f.vl.size≤fxSum l:=by
 induction l with
 | nil => cases h
 | cons x l ih =>
  rw [fxSum]
  rcases List.mem_cons.1 h with rfl | h
  ·omega
  ·have:=ih h;omega
theorem small_of_great {fs:List Fx} {cs:List Ch} (h:greatB fs cs=false):∀ f ∈ fs,f.vl.size≤20000:=fun f hf => by
 unfold greatB at h
 simp only [decide_eq_false_iff_not,not_or] at h
 have:=fxSum_mem hf
 omega
theorem scnSz_of {l:List Sh} (h:scnGreat l=false):ScnSz l:=by
 obtain ⟨h1,h2⟩:=small_of_scn h
 exact ⟨by omega,fun x hx => by have:=h2 x hx;exact ⟨⟨by omega,by omega,by omega⟩,by omega,by omega⟩⟩
theorem inv_small {l:List Sh} (h:∀ x ∈ l,x.small):∀ x ∈ inverseL l,x.small∧x.ra.size≤1000000∧x.ex.size≤1000000:=fun x hx => by
 unfold inverseL at hx
 split at hx
 ·obtain ⟨y,hy,rfl⟩:=List.mem_map.1 hx
  have h1:=divS_size oneB y.ra
  have h2:=divS_size (invM y) y.ra
  have h3:=h y hy
  exact ⟨⟨h3.1,by show (mkB _).size≤_;omega,by show (mkB _).size≤_;omega⟩,by show (mkB _).size≤_;omega,by show (mkB _).size≤_;omega⟩
 ·cases hx
theorem inv_len (l:List Sh):(inverseL l).length≤l.length:=by
 unfold inverseL
 split
 ·rw [List.length_map];exact Nat.le_refl _
 ·exact Nat.zero_le _
theorem newF_vl {l:List Sh} {F:List Fx} {C:List Ch} (h:∀ f ∈ F,f.vl.size≤1000000):∀ f ∈ applyF l F C,f.vl.size≤1000000:=fun f hf => by
 unfold applyF at hf
 split at hf
 ·obtain ⟨g,hg,rfl⟩:=List.mem_map.1 hf
  show (newV l g).size≤_
  rcases newV_size l g with e | e
  ·omega
  ·rw [e];exact h g hg
 ·cases hf
theorem own_none {w:World} {base n size cap:Nat} {e:TypeId} {a:Option Addr} {xs:List Value} (h:w.ownsRow base e size (.slice a n cap) n xs):a=none→cap=0:=fun ha => by
 rcases h.2 with ⟨e1,_⟩ | ⟨g,cap',cur,e1,_⟩
 ·cases e1;rfl
 ·cases e1;cases ha
set_option maxHeartbeats 8000000 in
set_option maxRecDepth 100000 in
theorem back32_any (l:List Sh) (E:EvD) (al:Option Addr) (cl:Nat) (w:World) (hl:l.length≤1100000) (hr:Rd Sh.cells 4 w al l) (sl:Sl w (.slice al l.length cl) 4 l.length (l.flatMap Sh.cells)) (hal:al=none→cl=0) (hsm:∀ x ∈ l,x.small)
  (hE:E.Rd w) (hS:EnvS E w) (hf:∀ f ∈ E.F,f.small) (hc:∀ f ∈ E.C,f.small) (hLS:LookS w) (hLP:LookP w) (hLO:LookO w) :
  Calls Tryz.prog 4 #[.agg #[.slice al l.length cl],E.val] w fun e w' => e = .returned (.bool true)∧Below w.heap.size w w':=by
 obtain ⟨W0,hW0,hb0,hz0,bs,bv⟩:∃ W,(w.alloc (.cells #[.slice al l.length cl] 28)).alloc (.cells #[.slice E.af E.F.length E.cf,.slice E.ac E.C.length E.cc] 32)=W∧Below w.heap.size w W∧w.heap.size+2≤W.heap.size∧BoxN W w.heap.size 28 [.slice al l.length cl]∧BoxN W (w.heap.size+1) 32 [.slice E.af E.F.length E.cf,.slice E.ac E.C.length E.cc]:=by
  have h2:=BoxN.new (w.alloc (.cells #[.slice al l.length cl] 28)) [.slice E.af E.F.length E.cf,.slice E.ac E.C.length E.cc] 32
  rw [World.size_alloc] at h2
  exact ⟨_,rfl,below_a2 _ _ _,by simp,(BoxN.new w _ _).alloc _,h2⟩
 have HAl:=Lib.hid fun W (hb:Below w.heap.size w W) => alive32_any W (hLS.frame hb) (hLP.frame hb) (hLO.frame hb)
 have HG:=Lib.hid fun W (hb:Below w.heap.size w W) => scnGreat_any l al cl W hl (hr.below hb) hsm
 have HGE:=Lib.hid fun W (hb:Below w.heap.size w W) => great_any E.F E.C E.af E.ac E.cf E.cc W hE.nf hE.nc (hE.frame hb).f (hE.frame hb).c hf hc
 have Hb0:=Lib.hid hb0
 have HBS:=Lib.hid fun W (hb:Below W0.heap.size W0 W) => And.intro (bs.below hb bs.lt) (bv.below hb bv.lt)
 have HK:=Lib.hid (And.intro hr (And.intro sl (And.intro hE (And.intro hS (And.intro hf hc)))))
 have HSm:=Lib.hid hsm
 unfold EvD.val
 clear hr sl hsm hE hS hf hc hLS hLP hLO bs bv hb0
 go_enter Tryz.func4,Tryz.ntmps4
 go_upto_region 1 with (fail)
 clear hW0
 have cell0:∀ W,Below W0.heap.size W0 W→W.cell? ⟨w.heap.size,0,none⟩=some (.slice al l.length cl)∧W.cell? ⟨w.heap.size+1,0,none⟩=some (.slice E.af E.F.length E.cf)∧W.cell? ⟨w.heap.size+1,1,none⟩=some (.slice E.ac E.C.length E.cc):=fun W hb =>
  ⟨(HBS.out W hb).1.cell (j:=0) rfl,(HBS.out W hb).2.cell (j:=0) rfl,(HBS.out W hb).2.cell (j:=1) rfl⟩
 have HCe:=Lib.hid cell0
 clear cell0 HBS
 go_wp2_with fail
 refine (HAl.out W0 Hb0.out).mono ?_
 rintro e w1 ⟨rfl,hb1⟩
 obtain ⟨q0,q1,q2⟩:=HCe.out w1 hb1
 cases hg:scnGreat l with
 | true =>
  have HG1:=Lib.hid (HG.out w1 (Hb0.out.trans (hb1.mono Hb0.out.size)))
  rw [hg] at HG1
  have Hb1:=Lib.hid (Hb0.out.trans (hb1.mono Hb0.out.size))
  clear HG HGE HAl hg hb1 HK HSm
  go_wp2_with fail
  refine HG1.out.mono ?_
  rintro e w2 ⟨rfl,hb2⟩
  have Hb2:=Lib.hid (Hb1.out.trans (hb2.mono Hb1.out.size))
  clear hb2 HG1
  go_wp2
  go_ret
  exact ⟨rfl,Hb2.out⟩
 | false =>
  have HG1:=Lib.hid (HG.out w1 (Hb0.out.trans (hb1.mono Hb0.out.size)))
  rw [hg] at HG1
  have hsz:=scnSz_of hg
  clear HG hg HAl
  go_wp2_with fail
  refine HG1.out.mono ?_
  rintro e w2 ⟨rfl,hb2⟩
  have hbB:=hb1.trans (hb2.mono hb1.size)
  clear HG1 q0 q1 q2 hb1 hb2
  obtain ⟨q0,q1,q2⟩:=HCe.out w2 hbB
  have HG2:=Lib.hid (HGE.out w2 (Hb0.out.trans (hbB.mono Hb0.out.size)))
  cases hg:greatB E.F E.C with
  | true =>
   rw [hg] at HG2
   have Hb1:=Lib.hid (Hb0.out.trans (hbB.mono Hb0.out.size))
   clear HGE hg hbB HK HSm hsz
   go_wp2_with fail
   refine HG2.out.mono ?_
   rintro e w3 ⟨rfl,hb3⟩
   have Hb2:=Lib.hid (Hb1.out.trans (hb3.mono Hb1.out.size))
   clear hb3 HG2
   go_wp2
   go_ret
   exact ⟨rfl,Hb2.out⟩
  | false =>
   rw [hg] at HG2
   have hvl:=small_of_great hg
   have HVl:Hid (∀ f ∈ E.F,f.vl.size≤1000000):=Lib.hid fun f hf => by have:=hvl f hf;omega
   have HSz:=Lib.hid hsz
   clear HGE hg hsz hvl
   go_wp2_with fail
   refine HG2.out.mono ?_
   rintro e w3 ⟨rfl,hb3⟩
   have hbC:=hbB.trans (hb3.mono hbB.size)
   clear HG2 q0 q1 q2 hbB hb3
   obtain ⟨q0,q1,q2⟩:=HCe.out w3 hbC
   have hbw:=Hb0.out.trans (hbC.mono Hb0.out.size)
   have HIn:=Lib.hid (inverse_any l al cl w3 hl (HK.out.1.below hbw) (HK.out.2.1.below hbw) hal HSz.out.s)
   unfold ScnPost at HIn
   have HB1:Hid (inverseE l=0→inverseE (inverseL l)=14∨(inverseE (inverseL l)=0∧inverseL (inverseL l)=l)):=Lib.hid fun h => by
    by_cases hs:scnB l=true
    ·exact again_law hs h
    ·unfold inverseE at h;rw [if_neg hs] at h;cases h
   have HB2:Hid (inverseE l=0→applyE l E.F E.C=0→applyE (inverseL l) (applyF l E.F E.C) (applyC l E.F E.C)=14∨(applyE (inverseL l) (applyF l E.F E.C) (applyC l E.F E.C)=0∧applyF (inverseL l) (applyF l E.F E.C) (applyC l E.F E.C)=E.F∧applyC (inverseL l) (applyF l E.F E.C) (applyC l E.F E.C)=E.C)):=Lib.hid fun h1 h2 => back_law h1 h2
   have HN1:Hid (inverseE l ≠ 0→inverseL l=[]):=Lib.hid fun h => (inverse_err rfl h).2
   have HN2:Hid (applyE l E.F E.C ≠ 0→applyF l E.F E.C=[]∧applyC l E.F E.C=[]):=Lib.hid fun h => (apply_err rfl h).2
   have HAp:Hid (∀ W,Below w.heap.size w W→Calls Tryz.prog 8 #[.agg #[.slice al l.length cl],.agg #[.slice E.af E.F.length E.cf,.slice E.ac E.C.length E.cc]] W (EnvPost W (applyE l E.F E.C) (applyF l E.F E.C) (applyC l E.F E.C))):=Lib.hid fun W hW =>
    apply_any l E.F E.C al E.af E.ac cl E.cf E.cc W hl HK.out.2.2.1.nf HK.out.2.2.1.nc (HK.out.1.below hW) HSz.out.s (HK.out.2.2.1.frame hW).f (HK.out.2.2.1.frame hW).c (fun f hf => ⟨HK.out.2.2.2.2.1 f hf,HVl.out f hf⟩) HK.out.2.2.2.2.2 (HK.out.2.2.2.1.frame hW).f HK.out.2.2.2.1.nf (HK.out.2.2.2.1.frame hW).c HK.out.2.2.2.1.nc
   have HIl:Hid ((∀ x ∈ inverseL l,x.small∧x.ra.size≤1000000∧x.ex.size≤1000000)∧(inverseL l).length≤1100000):=Lib.hid ⟨inv_small HSm.out,Nat.le_trans (inv_len l) hl⟩
   have HFl:Hid ((∀ f ∈ applyF l E.F E.C,f.small∧f.vl.size≤1000000)∧(∀ f ∈ applyC l E.F E.C,f.small)∧(applyF l E.F E.C).length≤1100000∧(applyC l E.F E.C).length≤1100000):=Lib.hid ⟨fun f hf => ⟨applyF_small (fun g hg => ⟨HK.out.2.2.2.2.1 g hg,HVl.out g hg⟩) f hf,newF_vl HVl.out f hf⟩,applyC_small HK.out.2.2.2.2.2,Nat.le_trans (applyF_len _ _ _) HK.out.2.2.1.nf,Nat.le_trans (applyC_len _ _ _) HK.out.2.2.1.nc⟩
   generalize inverseE l=ie at HIn HB1 HB2 HN1
   generalize inverseL l=IL at HIn HB1 HB2 HN1 HIl
   generalize applyE l E.F E.C=ae at HB2 HN2 HAp
   generalize applyF l E.F E.C=AF at HB2 HN2 HAp HFl
   generalize applyC l E.F E.C=AC at HB2 HN2 HAp HFl
   go_wp2_with fail
   refine HIn.out.mono ?_
   rintro e w4 ⟨ai,ci,rfl,hoI,hb4⟩
   have hbD:=hbC.trans (hb4.mono hbC.size)
   clear HIn q0 q1 q2 hbC hb4 hbw
   obtain ⟨W5,hW5,hb5,bi5⟩:∃ W,w4.alloc (.cells #[.slice ai IL.length ci] 28)=W∧Below w4.heap.size w4 W∧BoxN W w4.heap.size 28 [.slice ai IL.length ci]:=⟨_,rfl,below_a1 _ _,BoxN.new w4 _ _⟩
   have hbE:=hbD.trans (hb5.mono hbD.size)
   have hoI5:=ownsRow_below' hoI hb5
   obtain ⟨q0,q1,q2⟩:=HCe.out W5 hbE
   have HA1:=Lib.hid (HAp.out W5 (Hb0.out.trans (hbE.mono Hb0.out.size)))
   clear HAp hoI
   go_wp2_with fail
   clear hW5
   refine HA1.out.mono ?_
   rintro e w6 ⟨a1,n1,a2,n2,rfl,ho1,ho2,hb6⟩
   have hbF:=hbE.trans (hb6.mono hbE.size)
   obtain ⟨W7,hW7,hb7,bw7⟩:∃ W,w6.alloc (.cells #[.slice a1 AF.length n1,.slice a2 AC.length n2] 32)=W∧Below w6.heap.size w6 W∧BoxN W w6.heap.size 32 [.slice a1 AF.length n1,.slice a2 AC.length n2]:=⟨_,rfl,below_a1 _ _,BoxN.new w6 _ _⟩
   have hbG:=hbF.trans (hb7.mono hbF.size)
   have bi7:=(bi5.below hb6 bi5.lt).below hb7 (bi5.below hb6 bi5.lt).lt
   have hoI7:=ownsRow_below' (ownsRow_below' hoI5 hb6) hb7
   have hoF:=ownsRow_below' ho1 hb7
   have hoC:=ownsRow_below' ho2 hb7
   have i0:W7.cell? ⟨w4.heap.size,0,none⟩=some (.slice ai IL.length ci):=bi7.cell (j:=0) rfl
   have j0:W7.cell? ⟨w6.heap.size,0,none⟩=some (.slice a1 AF.length n1):=bw7.cell (j:=0) rfl
   have j1:W7.cell? ⟨w6.heap.size,1,none⟩=some (.slice a2 AC.length n2):=bw7.cell (j:=1) rfl
   have HbG:=Lib.hid (Hb0.out.trans (hbG.mono Hb0.out.size))
   clear HA1 q0 q1 q2 ho1 ho2 hbD hbE hbF hb5 hb6 hb7 hoI5 bi5
   by_cases hie:ie=0
   case neg =>
    have t1:(ie != 0)=true:=by rw [bne_iff_ne];exact hie
    have t2:(ie == 0)=false:=by rw [beq_eq_false_iff_ne];exact hie
    obtain rfl:=HN1.out hie
    by_cases hae:ae=0
    case neg =>
     have t3:(ae != 0)=true:=by rw [bne_iff_ne];exact hae
     have t4:(ae == 0)=false:=by rw [beq_eq_false_iff_ne];exact hae
     obtain ⟨rfl,rfl⟩:=HN2.out hae
     have hW7':w6.alloc (.cells #[.slice a1 0 n1,.slice a2 0 n2] 32)=W7:=hW7
     clear HB1 HB2 HN1 HN2 hie hae HIl HFl hoI7 hoF hoC bi7 bw7 hbG
     go_wp2
     go_ret
     exact ⟨rfl,HbG.out⟩
    subst hae
    clear HB1 HB2 HN1 HN2 hie HIl HFl hoI7 hoF hoC bi7 bw7 hbG
    go_wp2
    go_ret
    exact ⟨rfl,HbG.out⟩
   subst hie
   by_cases hae:ae=0
   case neg =>
    have t3:(ae != 0)=true:=by rw [bne_iff_ne];exact hae
    have t4:(ae == 0)=false:=by rw [beq_eq_false_iff_ne];exact hae
    obtain ⟨rfl,rfl⟩:=HN2.out hae
    have hW7':w6.alloc (.cells #[.slice a1 0 n1,.slice a2 0 n2] 32)=W7:=hW7
    clear HB1 HB2 HN1 HN2 hae HIl HFl hoI7 hoF hoC bi7 bw7 hbG
    go_wp2
    go_ret
    exact ⟨rfl,HbG.out⟩
   subst hae
   have HIn2:=Lib.hid (inverse_any IL ai ci W7 HIl.out.2 (rd_sh hoI7) (Sl.of_owns hoI7) (own_none hoI7) HIl.out.1)
   unfold ScnPost at HIn2
   have HC1:=Lib.hid (HB1.out rfl)
   have HC2:=Lib.hid (HB2.out rfl rfl)
   clear HB1 HB2 HN1 HN2
   have HRF:=Lib.hid fun W (hb:Below W7.heap.size W7 W) => And.intro (ownsRow_below' hoI7 hb) (And.intro (ownsRow_below' hoF hb) (ownsRow_below' hoC hb))
   have HAp2:Hid (∀ W,Below W7.heap.size W7 W→Calls Tryz.prog 8 #[.agg #[.slice ai IL.length ci],.agg #[.slice a1 AF.length n1,.slice a2 AC.length n2]] W (EnvPost W (applyE IL AF AC) (applyF IL AF AC) (applyC IL AF AC))):=Lib.hid fun W hW => by
    obtain ⟨g1,g2,g3⟩:=HRF.out W hW
    exact apply_any IL AF AC ai a1 a2 ci n1 n2 W HIl.out.2 HFl.out.2.2.1 HFl.out.2.2.2 (rd_sh g1) HIl.out.1 (rd_fx g2) (rd_ch g3) HFl.out.1 HFl.out.2.1 (Sl.of_owns g2) (own_none g2) (Sl.of_owns g3) (own_none g3)
   generalize applyE IL AF AC=ae2 at HC2 HAp2
   generalize applyF IL AF AC=AF2 at HC2 HAp2
   generalize applyC IL AF AC=AC2 at HC2 HAp2
   generalize inverseE IL=ie2 at HC1 HIn2
   generalize inverseL IL=IL2 at HC1 HIn2
   clear hoI7 hoF hoC
   go_wp2_with fail
   clear hW7
   refine HIn2.out.mono ?_
   rintro e w8 ⟨aj,cj,rfl,hoJ,hb8⟩
   obtain ⟨W9,hW9,hb9,bj9⟩:∃ W,w8.alloc (.cells #[.slice aj IL2.length cj] 28)=W∧Below w8.heap.size w8 W∧BoxN W w8.heap.size 28 [.slice aj IL2.length cj]:=⟨_,rfl,below_a1 _ _,BoxN.new w8 _ _⟩
   have hbH:=hb8.trans (hb9.mono hb8.size)
   have hbI:=hbG.trans (hbH.mono hbG.size)
   have hoJ9:=ownsRow_below' hoJ hb9
   obtain ⟨q0,q1,q2⟩:=HCe.out W9 hbI
   have i9:=(bi7.below hbH bi7.lt).cell (j:=0) rfl
   have j9:=(bw7.below hbH bw7.lt).cell (j:=0) rfl
   have k9:=(bw7.below hbH bw7.lt).cell (j:=1) rfl
   have s9:W9.cell? ⟨w8.heap.size,0,none⟩=some (.slice aj IL2.length cj):=bj9.cell (j:=0) rfl
   clear HIn2 i0 j0 j1 hoJ hb8 hb9
   have HbI:=Lib.hid (Hb0.out.trans (hbI.mono Hb0.out.size))
   rcases HC1.out with h14 | ⟨h0,he⟩
   ·obtain rfl:ie2=14:=h14
    have HA3:=Lib.hid (HAp2.out W9 hbH)
    clear HC1 HAp2 HRF hoJ9 s9
    go_wp2_with fail
    clear hW9
    refine HA3.out.mono ?_
    rintro e w11 ⟨a3,n3,a4,n4,rfl,ho3,ho4,hb11⟩
    have hbL:=hbI.trans (hb11.mono hbI.size)
    obtain ⟨W12,hW12,hb12,bu12⟩:∃ W,w11.alloc (.cells #[.slice a3 AF2.length n3,.slice a4 AC2.length n4] 32)=W∧Below w11.heap.size w11 W∧BoxN W w11.heap.size 32 [.slice a3 AF2.length n3,.slice a4 AC2.length n4]:=⟨_,rfl,below_a1 _ _,BoxN.new w11 _ _⟩
    have hbM:=hbL.trans (hb12.mono hbL.size)
    have ho3':=ownsRow_below' ho3 hb12
    have ho4':=ownsRow_below' ho4 hb12
    have m0:W12.cell? ⟨w11.heap.size,0,none⟩=some (.slice a3 AF2.length n3):=bu12.cell (j:=0) rfl
    have m1:W12.cell? ⟨w11.heap.size,1,none⟩=some (.slice a4 AC2.length n4):=bu12.cell (j:=1) rfl
    have HbM:=Lib.hid (Hb0.out.trans (hbM.mono Hb0.out.size))
    clear HA3 q0 q1 q2 i9 j9 k9
    obtain ⟨q0,q1,q2⟩:=HCe.out W12 hbM
    rcases HC2.out with h14 | ⟨h0,hF,hC⟩
    ·obtain rfl:ae2=14:=h14
     clear HC2 ho3 ho4 ho3' ho4' bu12 hb12 hb11
     go_wp2
     go_ret
     exact ⟨rfl,HbM.out⟩
    ·obtain rfl:ae2=0:=h0
     obtain rfl:AF2=E.F:=hF
     obtain rfl:AC2=E.C:=hC
     have HSa2:=Lib.hid (same_any E.F E.F E.C E.C a3 a4 E.af E.ac n3 n4 E.cf E.cc W12 HK.out.2.2.1.nf HK.out.2.2.1.nc HK.out.2.2.1.nf HK.out.2.2.1.nc (rd_fx ho3') (rd_ch ho4') (HK.out.2.2.1.frame HbM.out).f (HK.out.2.2.1.frame HbM.out).c)
     rw [eqB_true (p:=E.F=E.F∧E.C=E.C) ⟨rfl,rfl⟩] at HSa2
     clear HC2 ho3 ho4 ho3' ho4' bu12 hb12 hb11
     go_wp2_with fail
     clear hW12
     refine HSa2.out.mono ?_
     rintro e w13 ⟨rfl,hb13⟩
     have HbN:=Lib.hid (HbM.out.trans (hb13.mono HbM.out.size))
     clear hb13 HSa2
     go_wp2
     go_ret
     exact ⟨rfl,HbN.out⟩
   ·obtain rfl:ie2=0:=h0
    obtain rfl:IL2=l:=he
    have HSa:=Lib.hid (sameSh_any IL2 aj al cj cl W9 hl (rd_sh hoJ9) (HK.out.1.below HbI.out))
    clear HC1 hoJ9
    go_wp2_with fail
    clear hW9
    refine HSa.out.mono ?_
    rintro e w10 ⟨rfl,hb10⟩
    have hbJ:=hbH.trans (hb10.mono hbH.size)
    have hbK:=hbI.trans (hb10.mono hbI.size)
    have HA3:=Lib.hid (HAp2.out w10 hbJ)
    clear HSa HAp2 q0 q1 q2 i9 j9 k9 s9
    obtain ⟨q0,q1,q2⟩:=HCe.out w10 hbK
    have i9:=(bi7.below hbJ bi7.lt).cell (j:=0) rfl
    have j9:=(bw7.below hbJ bw7.lt).cell (j:=0) rfl
    have k9:=(bw7.below hbJ bw7.lt).cell (j:=1) rfl
    have HbI:=Lib.hid (Hb0.out.trans (hbK.mono Hb0.out.size))
    have hbI:=hbK
    go_wp2_with fail
    skip
    refine HA3.out.mono ?_
    rintro e w11 ⟨a3,n3,a4,n4,rfl,ho3,ho4,hb11⟩
    have hbL:=hbI.trans (hb11.mono hbI.size)
    obtain ⟨W12,hW12,hb12,bu12⟩:∃ W,w11.alloc (.cells #[.slice a3 AF2.length n3,.slice a4 AC2.length n4] 32)=W∧Below w11.heap.size w11 W∧BoxN W w11.heap.size 32 [.slice a3 AF2.length n3,.slice a4 AC2.length n4]:=⟨_,rfl,below_a1 _ _,BoxN.new w11 _ _⟩
    have hbM:=hbL.trans (hb12.mono hbL.size)
    have ho3':=ownsRow_below' ho3 hb12
    have ho4':=ownsRow_below' ho4 hb12
    have m0:W12.cell? ⟨w11.heap.size,0,none⟩=some (.slice a3 AF2.length n3):=bu12.cell (j:=0) rfl
    have m1:W12.cell? ⟨w11.heap.size,1,none⟩=some (.slice a4 AC2.length n4):=bu12.cell (j:=1) rfl
    have HbM:=Lib.hid (Hb0.out.trans (hbM.mono Hb0.out.size))
    clear HA3 q0 q1 q2 i9 j9 k9
    obtain ⟨q0,q1,q2⟩:=HCe.out W12 hbM
    rcases HC2.out with h14 | ⟨h0,hF,hC⟩
    ·obtain rfl:ae2=14:=h14
     clear HC2 ho3 ho4 ho3' ho4' bu12 hb12 hb11
     go_wp2
     go_ret
     exact ⟨rfl,HbM.out⟩
    ·obtain rfl:ae2=0:=h0
     obtain rfl:AF2=E.F:=hF
     obtain rfl:AC2=E.C:=hC
     have HSa2:=Lib.hid (same_any E.F E.F E.C E.C a3 a4 E.af E.ac n3 n4 E.cf E.cc W12 HK.out.2.2.1.nf HK.out.2.2.1.nc HK.out.2.2.1.nf HK.out.2.2.1.nc (rd_fx ho3') (rd_ch ho4') (HK.out.2.2.1.frame HbM.out).f (HK.out.2.2.1.frame HbM.out).c)
     rw [eqB_true (p:=E.F=E.F∧E.C=E.C) ⟨rfl,rfl⟩] at HSa2
     clear HC2 ho3 ho4 ho3' ho4' bu12 hb12 hb11
     go_wp2_with fail
     clear hW12
     refine HSa2.out.mono ?_
     rintro e w13 ⟨rfl,hb13⟩
     have HbN:=Lib.hid (HbM.out.trans (hb13.mono HbM.out.size))
     clear hb13 HSa2
     go_wp2
     go_ret
     exact ⟨rfl,HbN.out⟩
end Go.Proofs.YthdeijdimfjceaaGreatDoor

namespace Go.Proofs.YthdeijdimfjceaaGreatDoor
open Go.ChangeShapes Go.WideShapes Go.ChangeAt Go.RowKit Go.Joins Go.Deep
set_option maxRecDepth 100000 in
theorem contractBk32 (H:Type) (enc:TypeId × Value→H) (W:World) (base:Nat) (args:Array Value) (ds gs:List (DataW H)) (before:List MemPlace)
  (hval:∀ (j:Nat) t v,Tryz.f4.params[j]? = some t→args[j]? = some v→Value.okWide Tryz.prog W .any base t v)
  (hW:DataW.Whole enc Tryz.prog Tryz.f4.params.toList Rows.scenarioBackSpec.vars false W args.toList ds gs before) (hk:Rows.uptoSmall H (ds ++ gs)=true)
  (hL:laidMetH Tryz.prog Rows.scenarioBackUptoRow.laid W) :
  Calls Tryz.prog 4 args W fun e W' => ∃ v,e = .returned v∧Rows.scenarioBackSpec.post enc Tryz.prog Tryz.f4 false true false false W args v W':=by
 have hW':=hW
 obtain ⟨p,q,hA0,hV,rfl,hfz,hnd⟩:=hW
 have hA:DataW.TrodAll enc Tryz.prog W 0 (fun _ => true) true Tryz.f4.params.toList args.toList ds p:=hA0
 rw [Tryz.params4] at hA hval
 obtain ⟨v0,vs0,d0,ds0,p0,q0,hargs,rfl,rfl,h0,r0⟩:=trodAll_cons hA
 obtain ⟨v1,vs1,d1,ds1,p1,q1,rfl,rfl,rfl,h1,r1⟩:=trodAll_cons r0
 obtain ⟨rfl,rfl,rfl⟩:=trodAll_nil r1
 obtain rfl:args=#[v0,v1]:=by cases args;simp_all
 obtain ⟨rfl,rfl⟩:=trodVars_none hV
 have k0:=h0
 have l0:∀ x ∈ p0,x.block < W.heap.size:=by obtain ⟨m,hm⟩:=k0;exact DataW.trod_lt m _ _ _ hm
 have k1:=h1
 have l1:∀ x ∈ p1,x.block < W.heap.size:=by obtain ⟨m,hm⟩:=k1;exact DataW.trod_lt m _ _ _ hm
 have hb:Rows.uptoBulkAll [d0,d1]≤1048576:=by
  have h:Rows.uptoBulkAll ([d0,d1] ++ [])≤1048576:=of_decide_eq_true hk
  rw [List.append_nil] at h
  exact h
 have hsum:Rows.uptoBulk d0+Rows.uptoBulk d1≤1048576:=by
  simp only [Rows.uptoBulkAll] at hb
  omega
 obtain ⟨xs0,al0,cl0,rfl,hl0,hr0,sl0,an0,hs0⟩:=open_scn (hval 0 _ v0 rfl rfl) h0 (by omega)
 obtain ⟨E,rfl,hE,hEf,hEc,hES⟩:=open_envS (hval 1 _ v1 rfl rfl) h1 (by omega)
 obtain ⟨hS,hP,hO⟩:=laid_look3 hL
 clear hA0
 refine (back32_any xs0 E al0 cl0 W hl0 hr0 sl0 an0 hs0 hE hES hEf hEc hS hP hO).mono fun e W' ⟨he,bel⟩ => ?_
 subst he
 exact ⟨_,rfl,_,_,_,[],_,[],hW',trodAll_mk1 (shut_bool Tryz.underlying4 _),
  trodAll_cons_mk (Below.trod laidOut10 (by kernel_rfl) (of_decide_eq_true (by kernel_rfl)) k0 bel l0) (trodAll_cons_mk (Below.trod laidOut10 (by kernel_rfl) (of_decide_eq_true (by kernel_rfl)) k1 bel l1) (trodAll_mk0)),
  rfl,bel.frame _,fun h => by cases h⟩
def argBk32:Array Value:=#[.agg #[.slice none 0 0],.agg #[.slice none 0 0,.slice none 0 0]]
theorem metBk32 (os:Os):laidMetH Tryz.prog Rows.scenarioBackUptoRow.laid ((World.doorLaid Tryz.prog 176 os).forCall (fun _ _ => 0) ⟨#[],argBk32,[]⟩).memory :=
 laidMetH_of_parts3 (fuel:=8) (laidMet_of_run' 8 (by kernel_rfl) (by kernel_rfl)) (by kernel_rfl) (by kernel_rfl)
theorem readsBk32 (os:Os) {H:Type} (enc:TypeId × Value→H):∃ places,DataW.whole enc Tryz.prog ((World.doorLaid Tryz.prog 176 os).forCall (fun _ _ => 0) ⟨#[],argBk32,[]⟩).memory Tryz.f4.params.toList Rows.scenarioBackSpec.vars false argBk32.toList 8 =
  some ([.agg [.nil],.agg [.nil,.nil]],[],places) :=
 ⟨[],by kernel_rfl⟩
set_option maxRecDepth 100000 in
theorem liftedBk32 (os:Os) (started:os.Started) (H:Type) (enc:TypeId × Value→H) (F:Stop.Interp) :
  ReturnsInHanded {} Tryz.checked os 4 .any ((Rows.OpenSpec.upto Rows.scenarioBackSpec).preRow enc Tryz.prog Tryz.f4 Rows.scenarioBackUptoRow.domain false Rows.scenarioBackUptoRow.laid) (((Rows.OpenSpec.upto Rows.scenarioBackSpec).at F).post enc Tryz.prog Tryz.f4 false true false false):=by
 obtain ⟨places,hx⟩:=readsBk32 os enc
 refine returnsInHanded_of_row (C:=Tryz.checked) (s:=Rows.OpenSpec.upto Rows.scenarioBackSpec) own10 started (by kernel_rfl) Tryz.func4
  (witness_row_atRef (enc:=enc) (C:=Tryz.checked) false (World.doorLaid Tryz.prog 176 os) argBk32 rfl (by kernel_rfl) (by kernel_rfl) (by kernel_rfl)
   (OpenSpec.preRow_of_cond 8 hx (by kernel_rfl) (fun k hk => by cases hk;kernel_rfl) (by kernel_rfl) (metBk32 os))) ?_
 intro W base args ds gs before hval hW _ hcond _ hL _ _
 exact contractBk32 H enc W base args ds gs before hval hW (hcond _ rfl) hL
theorem scenarioBack_upto:Rows.ScenarioBackUptoSaid :=
 OpenClaim.holds_of_cond 4 Tryz.f4 rfl rfl rfl rfl rfl rfl rfl ⟨rfl,rfl,rfl,rfl,rfl⟩ rfl rfl rfl rfl rfl (by kernel_rfl) Tryz.func4 (by kernel_rfl)
  (of_decide_eq_true (by kernel_rfl)) (by unfold Func.isWrapper;first | (rw [if_pos (by decide +kernel)];kernel_rfl) | (rw [if_neg (by decide +kernel)];exact ⟨rfl,rfl⟩))
  (fun os started H enc _ F => by rw [OpenClaim.pre_eq_preRow];exact liftedBk32 os started H enc F)
theorem plainBk32 (f : FuncId) (fn : Func) (hf : Tryz.pinned.checked.prog.funcNamed "novation/novationlaw32.ScenarioBack" = some f) (hfn : Tryz.pinned.checked.prog.funcs[f]? = some fn) :
  true=Tryz.pinned.checked.prog.looks []∧∀ (j:Nat) t,fn.params[j]? = some t→Tryz.pinned.checked.prog.wantsStandIn t=false:=by
 obtain rfl : f = 4 := Option.some.inj ((show Tryz.prog.funcNamed "novation/novationlaw32.ScenarioBack" = some 4 by kernel_rfl).symm.trans hf) |>.symm
 obtain rfl:fn=Tryz.f4:=(Option.some.inj (Tryz.func4.symm.trans hfn)).symm
 refine ⟨by kernel_rfl,fun j t ht => ?_⟩
 rw [Tryz.params4] at ht
 have hm:t ∈ [28,32]:=by simpa using Array.mem_of_getElem? ht
 have hall:([28,32].all fun u => !Tryz.prog.wantsStandIn u)=true:=by kernel_rfl
 exact (show Tryz.prog.wantsStandIn t=false by simpa using List.all_eq_true.1 hall t hm)
theorem scenarioBack_card:Rows.ScenarioBackUptoCardSaid :=
 Claim7.holds_tied_plain_at .later [] _ _ _ _ scenarioBack_upto (fun _ h => by cases h) (by kernel_rfl) (fun _ h => by cases h) scenarioBackUpto_row_tie rfl ⟨rfl,rfl⟩ (by kernel_rfl) rfl plainBk32 (by kernel_rfl)
#print axioms scenarioBack_card
end Go.Proofs.YthdeijdimfjceaaGreatDoor
