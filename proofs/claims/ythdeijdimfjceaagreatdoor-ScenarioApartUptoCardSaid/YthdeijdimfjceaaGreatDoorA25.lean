/- A part. -/
import Derived.Test.YthdeijdimfjceaaGreatDoorA24
namespace Go.Proofs.YthdeijdimfjceaaGreatDoor
open Go.RowKit
def RdS (w:World) (ad:Option Addr) (l:List (List Sh)):Prop:=∀ (j:Nat) (s:List Sh),l[j]? = some s→∃ b off a cp,ad=some ⟨b,off,none⟩∧w.cell? ⟨b,off+j,none⟩=some (.slice a s.length cp)∧Rd Sh.cells 4 w a s
theorem RdS.below {w w':World} {ad:Option Addr} {l:List (List Sh)} (h:RdS w ad l) (hb:Below w.heap.size w w'):RdS w' ad l:=fun j s hj => by
 obtain ⟨b,off,a,cp,e,h1,h2⟩:=h j s hj
 exact ⟨b,off,a,cp,e,by rw [hb.cell (p:=⟨b,off+j,none⟩) (World.block_lt_of_cell? w _ h1)];exact h1,h2.below hb⟩
structure EnvS (E:EvD) (W:World):Prop where
 f:Sl W (.slice E.af E.F.length E.cf) 3 E.F.length (E.F.flatMap Fx.cells)
 c:Sl W (.slice E.ac E.C.length E.cc) 4 E.C.length (E.C.flatMap Ch.cells)
 nf:E.af=none→E.cf=0
 nc:E.ac=none→E.cc=0
theorem EnvS.frame {E:EvD} {W W':World} (h:EnvS E W) (hb:Below W.heap.size W W'):EnvS E W':=⟨h.f.below hb,h.c.below hb,h.nf,h.nc⟩
structure ScnSz (l:List Sh):Prop where
 n:l.length≤1100000
 s:∀ x ∈ l,x.small∧x.ra.size≤1000000∧x.ex.size≤1000000
theorem newV_size (l:List Sh) (f:Fx):(newV l f).size≤2010∨newV l f=f.vl:=by
 unfold newV
 split
 ·exact .inr rfl
 ·exact .inl (addS_size _ _)
theorem applyF_small {l:List Sh} {F:List Fx} {C:List Ch} (h:∀ f ∈ F,f.small∧f.vl.size≤1000000):∀ f ∈ applyF l F C,f.small:=fun f hf => by
 unfold applyF at hf
 split at hf
 ·obtain ⟨g,hg,rfl⟩:=List.mem_map.1 hf
  have h1:=h g hg
  refine ⟨h1.1.1,?_⟩
  show (newV l g).size≤_
  rcases newV_size l g with e | e
  ·omega
  ·rw [e];exact h1.1.2
 ·cases hf
theorem applyC_small {l:List Sh} {F:List Fx} {C:List Ch} (h:∀ f ∈ C,f.small):∀ f ∈ applyC l F C,f.small:=fun f hf => by
 unfold applyC at hf
 split at hf
 ·exact h f hf
 ·cases hf
theorem applyF_len (l:List Sh) (F:List Fx) (C:List Ch):(applyF l F C).length≤F.length:=by
 unfold applyF
 split
 ·rw [List.length_map];exact Nat.le_refl _
 ·exact Nat.zero_le _
theorem applyC_len (l:List Sh) (F:List Fx) (C:List Ch):(applyC l F C).length≤C.length:=by
 unfold applyC
 split
 ·exact Nat.le_refl _
 ·exact Nat.zero_le _
theorem los_many {l:List (List Sh)} {c:Con} {p m:ByteArray} {day:Int} {F:List Fx} {C:List Ch} (h:100 < l.length):losE l c p m day F C=4∧losL l c p m day F C=[]:=by
 have e:losE l c p m day F C=4:=by unfold losE;rw [if_pos h]
 exact ⟨e,los_nil (by rw [e];decide)⟩
theorem los_base {l:List (List Sh)} {c:Con} {p m:ByteArray} {day:Int} {F:List Fx} {C:List Ch} (h : ¬ 100 < l.length) (h1:(conR c p m day F C).2 ≠ 0):losE l c p m day F C=(conR c p m day F C).2∧losL l c p m day F C=[]:=by
 have e:losE l c p m day F C=(conR c p m day F C).2:=by unfold losE;rw [if_neg h,if_pos h1]
 exact ⟨e,los_nil (by rw [e];exact h1)⟩
theorem los_hit {l:List (List Sh)} {c:Con} {p m:ByteArray} {day:Int} {F:List Fx} {C:List Ch} (h : ¬ 100 < l.length) (h1:(conR c p m day F C).2=0) {k:Nat} {s:List Sh} (hs:l[k]? = some s) (h0:errs ((l.take k).map fun s => (lossR c p m day F C (conR c p m day F C).1 s).2)=0) (he:(lossR c p m day F C (conR c p m day F C).1 s).2 ≠ 0) :
  losE l c p m day F C=(lossR c p m day F C (conR c p m day F C).1 s).2∧losL l c p m day F C=[]:=by
 have e:losE l c p m day F C=(lossR c p m day F C (conR c p m day F C).1 s).2:=by
  unfold losE;rw [if_neg h,if_neg (fun k => k h1)];exact errs_take_map_hit hs h0 he
 exact ⟨e,los_nil (by rw [e];exact he)⟩
theorem los_all {l:List (List Sh)} {c:Con} {p m:ByteArray} {day:Int} {F:List Fx} {C:List Ch} (h : ¬ 100 < l.length) (h1:(conR c p m day F C).2=0) (h0:errs (l.map fun s => (lossR c p m day F C (conR c p m day F C).1 s).2)=0) :
  losE l c p m day F C=0∧losL l c p m day F C=l.map fun s => (lossR c p m day F C (conR c p m day F C).1 s).1:=by
 have e:losE l c p m day F C=0:=by unfold losE;rw [if_neg h,if_neg (fun k => k h1)];exact h0
 exact ⟨e,by unfold losL;rw [if_pos e]⟩
def LosP (w:World) (E:Int) (L:List ByteArray) (e:Ending) (w':World):Prop:=∃ v,e = .returned (.tuple #[v,.int .i64 E])∧w'.ownsRow w.heap.size 22 1 v L.length (L.flatMap sC)∧Below w.heap.size w w'
theorem losP_nil {w w':World} {E:Int} {L:List ByteArray} (hb:Below w.heap.size w w') (hL:L=[]):LosP w E L (.returned (.tuple #[.slice none 0 0,.int .i64 E])) w':=by
 subst hL
 exact ⟨_,rfl,World.ownsRow_nil _ _ _ _,hb⟩
theorem ul_ratl:Tryz.prog.underlying 53=some (.slice 22):=by kernel_rfl
theorem info_ratl:(Tryz.prog.info? 22).map (fun i => (i.zero,i.size,i.bytes))=some (some (.string ⟨#[]⟩),1,16):=by kernel_rfl
theorem conR_size (c:Con) (p m:ByteArray) (day:Int) (F:List Fx) (C:List Ch):(conR c p m day F C).1.size≤2010:=by
 unfold conR
 split
 ·exact Nat.zero_le _
 ·show (netS p m _).size≤_
  unfold netS
  split
  ·exact Nat.zero_le _
  ·split
   ·exact netAcc_size _ _ _ _
   ·exact Nat.zero_le _
set_option maxHeartbeats 4000000 in
set_option maxRecDepth 100000 in
theorem losses_any (l:List (List Sh)) (c:Con) (es dd ss:Value) (p m:ByteArray) (day:Int) (E:EvD) (al:Option Addr) (cl:Nat) (w:World) (hl:l.length≤1100000) (hr:RdS w al l) (hz:∀ s ∈ l,ScnSz s) (hA:BfH c es dd ss E w) (hS:EnvS E w) (hv:∀ f ∈ E.F,f.vl.size≤1000000) (hp:p.size≤1100000) (hm:m.size≤1100000) :
  Calls Tryz.prog 15 #[.slice al l.length cl,c.val es dd ss,.string p,.string m,.int .i64 day,E.val] w (LosP w (losE l c p m day E.F E.C) (losL l c p m day E.F E.C)):=by
 obtain ⟨p1,pn1,rfl⟩:=hA.rd.1.len
 obtain ⟨p2,pn2,rfl⟩:=hA.rd.2.1.len
 obtain ⟨p3,pn3,rfl⟩:=hA.rd.2.2.1.len
 obtain ⟨i0,hI0,hI1,hI2,hI3⟩:=info_parts info_ratl
 obtain ⟨W0,hW0,hb0,hz0,bx⟩:=bxl_world w c (.slice p1 c.ex.sub.length pn1) (.slice p2 c.ds.length pn2) (.slice p3 c.sub.length pn3) p m day E
 have HR:=Lib.hid hr
 have HZ:=Lib.hid hz
 have HX:=Lib.hid bx
 have Hb0:=Lib.hid hb0
 have HFn:Hid (∀ W,Below W0.heap.size W0 W→∀ E1:EvD,E1.Rd W→(∀ f ∈ E1.F,f.small)→(∀ f ∈ E1.C,f.small)→Calls Tryz.prog 39 #[E1.val,.pointer (some ⟨w.heap.size,0,none⟩),.pointer (some ⟨w.heap.size+1,0,none⟩),.pointer (some ⟨w.heap.size+1+1,0,none⟩),.pointer (some ⟨w.heap.size+1+1+1,0,none⟩)] W (ConP W (conR c p m day E1.F E1.C))):=Lib.hid fun W hW E1 hE1 hf1 hc1 => by
  have hB:=hb0.trans (hW.mono hb0.size)
  exact valueF_any c _ _ _ p m day E1 E w.heap.size W (bx.below hW) ⟨hA.bulk,(hA.frame hB).rd,(hA.frame hB).ls,(hA.frame hB).lp,(hA.frame hB).lo,hE1,hf1,hc1⟩ hp hm
 have HAp:Hid (∀ W,Below W0.heap.size W0 W→∀ s,ScnSz s→∀ a n,Rd Sh.cells 4 W a s→Calls Tryz.prog 8 #[.agg #[.slice a s.length n],E.val] W (EnvPost W (applyE s E.F E.C) (applyF s E.F E.C) (applyC s E.F E.C))):=Lib.hid fun W hW s hs a n h1 => by
  have hB:=hb0.trans (hW.mono hb0.size)
  exact apply_any s E.F E.C a E.af E.ac n E.cf E.cc W hs.n hA.e.nf hA.e.nc h1 hs.s (hA.frame hB).e.f (hA.frame hB).e.c (fun f hf => ⟨hA.fs f hf,hv f hf⟩) hA.cs (hS.frame hB).f hS.nf (hS.frame hB).c hS.nc
 have HSz:Hid ((∀ f ∈ E.F,f.small∧f.vl.size≤1000000)∧(∀ f ∈ E.C,f.small)∧E.F.length≤1100000∧E.C.length≤1100000):=Lib.hid ⟨fun f hf => ⟨hA.fs f hf,hv f hf⟩,hA.cs,hA.e.nf,hA.e.nc⟩
 have HV0:=Lib.hid (HFn.out W0 (Below.refl _ _) E (hA.frame hb0).e hA.fs hA.cs)
 have HM:=Lib.hid fun h => los_many (l:=l) (c:=c) (p:=p) (m:=m) (day:=day) (F:=E.F) (C:=E.C) h
 have HB:=Lib.hid fun h1 h2 => los_base (l:=l) (c:=c) (p:=p) (m:=m) (day:=day) (F:=E.F) (C:=E.C) h1 h2
 have HH:=Lib.hid fun h1 h2 k s h3 h4 h5 => los_hit (l:=l) (c:=c) (p:=p) (m:=m) (day:=day) (F:=E.F) (C:=E.C) h1 h2 (k:=k) (s:=s) h3 h4 h5
 have HAl:=Lib.hid fun h1 h2 h3 => los_all (l:=l) (c:=c) (p:=p) (m:=m) (day:=day) (F:=E.F) (C:=E.C) h1 h2 h3
 have hcs:=conR_size c p m day E.F E.C
 have HLo:Hid (∀ b s,lossR c p m day E.F E.C b s=if applyE s E.F E.C ≠ 0 then (⟨#[]⟩,applyE s E.F E.C) else if (conR c p m day (applyF s E.F E.C) (applyC s E.F E.C)).2 ≠ 0 then (⟨#[]⟩,(conR c p m day (applyF s E.F E.C) (applyC s E.F E.C)).2) else (mkB (sumS b (conR c p m day (applyF s E.F E.C) (applyC s E.F E.C)).1 (subZ b (conR c p m day (applyF s E.F E.C) (applyC s E.F E.C)).1)),sumE b (conR c p m day (applyF s E.F E.C) (applyC s E.F E.C)).1 (subZ b (conR c p m day (applyF s E.F E.C) (applyC s E.F E.C)).1))):=Lib.hid fun b s => rfl
 generalize losE l c p m day E.F E.C=LE at HM HB HH HAl ⊢
 generalize losL l c p m day E.F E.C=LL at HM HB HH HAl ⊢
 generalize conR c p m day E.F E.C=BV at HV0 HB HH HAl hcs
 generalize hlf:(fun s => lossR c p m day E.F E.C BV.1 s)=LF
 have HLf:Hid (∀ s,lossR c p m day E.F E.C BV.1 s=LF s):=Lib.hid fun s => by rw [← hlf]
 simp only [HLf.out] at HH HAl
 have v0:W0.cell? ⟨w.heap.size+1+1+1+1,0,none⟩=some (.slice E.af E.F.length E.cf):=bx.v.cell (j:=0) rfl
 have v1:W0.cell? ⟨w.heap.size+1+1+1+1,1,none⟩=some (.slice E.ac E.C.length E.cc):=bx.v.cell (j:=1) rfl
 obtain ⟨b0,be⟩:=BV
 obtain ⟨nl,hnl⟩:∃ n,l.length=n:=⟨_,rfl⟩
 have HNl:=Lib.hid hnl
 rw [hnl] at HM HB HH HAl hl ⊢
 clear hA hS hr hz bx hb0 hlf hnl hv hp hm
 unfold Con.val
 unfold EvD.val at HAp HV0 HFn ⊢
 unfold ConP at HV0
 go_enter Tryz.func15,Tryz.ntmps15
 go_upto_region 1 with (fail)
 clear hW0
 by_cases h100:100 < nl
 ·have t1:decide ((100:Int) < (nl:Int))=true:=decide_eq_true (by omega)
  have t2:(100:Int) < (nl:Int):=by omega
  have HE:=Lib.hid (HM.out h100)
  clear HV0 HM HB HH HAl h100
  go_wp2
  go_ret2
  rw [HE.out.1]
  exact losP_nil Hb0.out HE.out.2
 have t1:decide ((100:Int) < (nl:Int))=false:=decide_eq_false (by omega)
 have t2 : ¬ (100:Int) < (nl:Int):=by omega
 go_wp2_with fail
 refine HV0.out.mono ?_
 rintro e w1 ⟨rfl,hb1⟩
 have HX1:=Lib.hid (HX.out.below hb1)
 clear v0 v1 HV0
 by_cases hbe:be=0
 case neg =>
  have t3:(be != 0)=true:=by rw [bne_iff_ne];exact hbe
  have HE:=Lib.hid (HB.out h100 hbe)
  have Hb1:=Lib.hid (Hb0.out.trans (hb1.mono Hb0.out.size))
  clear HM HB HH HAl hbe hb1
  go_wp2
  go_ret2
  rw [HE.out.1]
  exact losP_nil Hb1.out HE.out.2
 subst hbe
 have HH2:=Lib.hid fun k s h3 h4 h5 => HH.out h100 rfl k s h3 h4 h5
 have HA2:=Lib.hid (HAl.out h100 rfl)
 clear HM HB HH HAl t1 t2 h100
 go_wp2_with fail
 go_loopw [17,39] (fun o i wr => ∃ k:Nat,k≤nl∧i = .int .i64 (k:Int)∧Hid (errs ((l.take k).map fun s => (LF s).2)=0)∧wr.ownsRow W0.heap.size 22 1 o k (((l.take k).map fun s => (LF s).1).flatMap sC)∧Below W0.heap.size W0 wr) (fun _ i _ => nl - (intOf i).toNat)
 case atStart => exact ⟨0,Nat.zero_le _,rfl,Lib.hid rfl,World.ownsRow_nil _ _ _ _,hb1⟩
 case round =>
  clear hb1
  obtain ⟨k,hk,rfl,HE0,ho,hbr⟩:=hrel
  by_cases hkn:k < nl
  ·obtain ⟨s,hs⟩:∃ s,l[k]? = some s:=⟨_,List.getElem?_eq_getElem (by rw [HNl.out];exact hkn)⟩
   obtain ⟨b,off,a,cp,rfl,c0,hsr⟩:=(HR.out.below (Hb0.out.trans (hbr.mono Hb0.out.size))) k s hs
   have hsz:=HZ.out s (List.mem_of_getElem? hs)
   have HHit:=Lib.hid (HH2.out k s hs HE0.out)
   have HSn:Hid ((LF s).2=0→errs ((l.take (k+1)).map fun s => (LF s).2)=0):=Lib.hid fun h => errs_take_map_snoc (g:=fun s => (LF s).2) hs HE0.out h
   have HMp:Hid (((l.take (k+1)).map fun s => (LF s).1).flatMap sC=((l.take k).map fun s => (LF s).1).flatMap sC ++ [.string (LF s).1]):=Lib.hid (by rw [take_snoc_get hs,List.map_append,List.flatMap_append];rfl)
   obtain ⟨W1,hW1,hbx1,bs1⟩:∃ W,wr.alloc (.cells #[.slice a s.length cp] 28)=W∧Below wr.heap.size wr W∧BoxN W wr.heap.size 28 [.slice a s.length cp]:=⟨_,rfl,below_a1 _ _,BoxN.new wr _ _⟩
   have hb1:=hbr.trans (hbx1.mono hbr.size)
   have HXa:=HX.out.below hb1
   have v0:W1.cell? ⟨w.heap.size+1+1+1+1,0,none⟩=some (.slice E.af E.F.length E.cf):=HXa.v.cell (j:=0) rfl
   have v1:W1.cell? ⟨w.heap.size+1+1+1+1,1,none⟩=some (.slice E.ac E.C.length E.cc):=HXa.v.cell (j:=1) rfl
   have s0:W1.cell? ⟨wr.heap.size,0,none⟩=some (.slice a s.length cp):=bs1.cell (j:=0) rfl
   have HA1:=Lib.hid (HAp.out W1 hb1 s hsz a cp (hsr.below hbx1))
   have HLs:Hid (LF s=if applyE s E.F E.C ≠ 0 then (⟨#[]⟩,applyE s E.F E.C) else if (conR c p m day (applyF s E.F E.C) (applyC s E.F E.C)).2 ≠ 0 then (⟨#[]⟩,(conR c p m day (applyF s E.F E.C) (applyC s E.F E.C)).2) else (mkB (sumS b0 (conR c p m day (applyF s E.F E.C) (applyC s E.F E.C)).1 (subZ b0 (conR c p m day (applyF s E.F E.C) (applyC s E.F E.C)).1)),sumE b0 (conR c p m day (applyF s E.F E.C) (applyC s E.F E.C)).1 (subZ b0 (conR c p m day (applyF s E.F E.C) (applyC s E.F E.C)).1))):=Lib.hid (by rw [← HLf.out s];exact HLo.out b0 s)
   have HFc:Hid (∀ W,Below W0.heap.size W0 W→∀ a1 n1 a2 n2,Rd Fx.cells 3 W a1 (applyF s E.F E.C)→Rd Ch.cells 4 W a2 (applyC s E.F E.C)→Calls Tryz.prog 39 #[.agg #[.slice a1 (applyF s E.F E.C).length n1,.slice a2 (applyC s E.F E.C).length n2],.pointer (some ⟨w.heap.size,0,none⟩),.pointer (some ⟨w.heap.size+1,0,none⟩),.pointer (some ⟨w.heap.size+1+1,0,none⟩),.pointer (some ⟨w.heap.size+1+1+1,0,none⟩)] W (ConP W (conR c p m day (applyF s E.F E.C) (applyC s E.F E.C)))):=Lib.hid fun W hW a1 n1 a2 n2 h1 h2 =>
    HFn.out W hW ⟨applyF s E.F E.C,applyC s E.F E.C,a1,a2,n1,n2⟩ ⟨h1,h2,Nat.le_trans (applyF_len _ _ _) HSz.out.2.2.1,Nat.le_trans (applyC_len _ _ _) HSz.out.2.2.2⟩ (applyF_small HSz.out.1) (applyC_small HSz.out.2.1)
   have hxs:=conR_size c p m day (applyF s E.F E.C) (applyC s E.F E.C)
   generalize conR c p m day (applyF s E.F E.C) (applyC s E.F E.C)=XV at HLs HFc hxs
   generalize applyF s E.F E.C=AF at HA1 HFc
   generalize applyC s E.F E.C=AC at HA1 HFc
   generalize applyE s E.F E.C=ae at HA1 HLs
   obtain ⟨xv,xe⟩:=XV
   have hkn0:(k:Int) < (nl:Int):=by omega
   generalize LF s=Ls at HHit HSn HMp HLs
   clear hs hsr hsz HXa bs1
   go_wp2_with fail
   clear hW1
   refine HA1.out.mono ?_
   rintro e w2 ⟨a1,n1,a2,n2,rfl,ho1,ho2,hb2⟩
   have hbC:=hb1.trans (hb2.mono hb1.size)
   have hoC:=ownsRow_below' ho (hbx1.trans (hb2.mono hbx1.size))
   obtain ⟨W3,hW3,hbx3,bs3⟩:∃ W,w2.alloc (.cells #[.slice a1 AF.length n1,.slice a2 AC.length n2] 32)=W∧Below w2.heap.size w2 W∧BoxN W w2.heap.size 32 [.slice a1 AF.length n1,.slice a2 AC.length n2]:=⟨_,rfl,below_a1 _ _,BoxN.new w2 _ _⟩
   have hbD:=hbC.trans (hbx3.mono hbC.size)
   have hoD:=ownsRow_below' hoC hbx3
   have x0:W3.cell? ⟨w2.heap.size,0,none⟩=some (.slice a1 AF.length n1):=bs3.cell (j:=0) rfl
   have x1:W3.cell? ⟨w2.heap.size,1,none⟩=some (.slice a2 AC.length n2):=bs3.cell (j:=1) rfl
   have HCl:=Lib.hid (HFc.out W3 hbD a1 n1 a2 n2 ((rd_fx ho1).below hbx3) ((rd_ch ho2).below hbx3))
   unfold ConP at HCl
   have HbD:=Lib.hid (Hb0.out.trans (hbD.mono Hb0.out.size))
   clear v0 v1 s0 c0 HA1 HFc ho hoC ho1 ho2 hb1 hb2 hbx1 bs3 hbr hbC
   by_cases hae:ae=0
   case neg =>
    have t1:(ae != 0)=true:=by rw [bne_iff_ne];exact hae
    have e1:Ls=(⟨#[]⟩,ae):=by rw [HLs.out];exact if_pos hae
    subst e1
    have HE:=Lib.hid (HHit.out hae)
    clear hae HCl HLs HHit HSn HMp hoD hbx3 hbD
    go_wp2
    go_ret2
    rw [HE.out.1]
    exact losP_nil HbD.out HE.out.2
   subst hae
   have HL2:Hid (Ls=if xe ≠ 0 then (⟨#[]⟩,xe) else (mkB (sumS b0 xv (subZ b0 xv)),sumE b0 xv (subZ b0 xv))):=Lib.hid (by rw [HLs.out];exact if_neg (fun k => k rfl))
   clear HLs
   go_wp2_with fail
   clear hW3
   refine HCl.out.mono ?_
   rintro e w4 ⟨rfl,hb4⟩
   have hbE:=hbD.trans (hb4.mono hbD.size)
   have hoE:=ownsRow_below' hoD hb4
   have HbE:=Lib.hid (Hb0.out.trans (hbE.mono Hb0.out.size))
   clear HCl hoD hb4 x0 x1 hbx3 hbD HbD
   by_cases hxe:xe=0
   case neg =>
    have t1:(xe != 0)=true:=by rw [bne_iff_ne];exact hxe
    have e1:Ls=(⟨#[]⟩,xe):=by rw [HL2.out];exact if_pos hxe
    subst e1
    have HE:=Lib.hid (HHit.out hxe)
    clear hxe HL2 HHit HSn HMp hoE hbE
    go_wp2
    go_ret2
    rw [HE.out.1]
    exact losP_nil HbE.out HE.out.2
   subst hxe
   have e1:Ls=(mkB (sumS b0 xv (subZ b0 xv)),sumE b0 xv (subZ b0 xv)):=by rw [HL2.out];exact if_neg (fun k => k rfl)
   subst e1
   have HSu:=Lib.hid ((ratsub_any b0 xv w4 (by have:b0.size≤2010:=hcs;omega) (by have:xv.size≤2010:=hxs;omega)).mono fun e w' h => RatPost2.val h)
   change Hid (Calls Tryz.prog 40 #[.string b0,.string xv] w4 fun e w' => e = .returned (.tuple #[.string (mkB (sumS b0 xv (subZ b0 xv))),.int .i64 (sumE b0 xv (subZ b0 xv))])∧Below w4.heap.size w4 w') at HSu
   clear HL2
   generalize mkB (sumS b0 xv (subZ b0 xv))=ls at HSu HHit HSn HMp
   generalize sumE b0 xv (subZ b0 xv)=le at HSu HHit HSn HMp
   go_wp2_with fail
   refine HSu.out.mono ?_
   rintro e w5 ⟨rfl,hb5⟩
   have hbF:=hbE.trans (hb5.mono hbE.size)
   have hoF:=ownsRow_below' hoE hb5
   have HbF:=Lib.hid (Hb0.out.trans (hbF.mono Hb0.out.size))
   clear HSu hoE hb5 hbE HbE
   by_cases hle:le=0
   case neg =>
    have t1:(le != 0)=true:=by rw [bne_iff_ne];exact hle
    have HE:=Lib.hid (HHit.out hle)
    clear hle HHit HSn HMp hoF hbF
    go_wp2
    go_ret2
    rw [HE.out.1]
    exact losP_nil HbF.out HE.out.2
   subst hle
   have HS2:=Lib.hid (HSn.out rfl)
   have hzF:=HbF.out.size
   clear HHit HSn
   go_wp2_with (at_builtin;refine wpList_append_own _ rfl _ _ 53 rfl W0.heap.size 22 i0 (.string ⟨#[]⟩) 1 16 ul_ratl hI0 hI1 hI2 hI3 rfl (by decide) _ _ _ rfl (hoF.alloc _) ⟨w5.heap.size,0,none⟩ 1 1 [.string ls] rfl rfl (cell_one_at _ _ _) (by simp [Value.oneCell']) (by unfold maxLen;omega) (by omega) (by have:=hbF.size;simp;omega) ?_;intro v' w6 hown' hgrow _)
   have hbG:Below W0.heap.size W0 w6:=(hbF.alloc hbF.size (.cells #[.string ls] 22)).grown hgrow (by have:=hbF.size;simp;omega) (fun k e => ((hoF.alloc (.cells #[.string ls] 22)).lt k e).1)
   have hrow:w6.ownsRow W0.heap.size 22 1 v' (k+1) (((l.take (k+1)).map fun s => (LF s).1).flatMap sC):=by rw [HMp.out];exact hown'
   clear hown' hgrow hoF hbF HMp
   go_roundw
   case rel => exact ⟨k+1,by omega,by go_num,HS2,hrow,hbG⟩
   case measure => simp [intOf];omega
  ·obtain rfl:k=nl:=by omega
   have htk:l.take k=l:=List.take_of_length_le (by rw [HNl.out];exact Nat.le_refl _)
   have HE:=Lib.hid (HA2.out (by have h:=HE0.out;rw [htk] at h;exact h))
   rw [htk] at ho
   have HbF:=Lib.hid (Hb0.out.trans (hbr.mono Hb0.out.size))
   clear htk HE0 hbr
   go_wp2
   go_ret2
   rw [HE.out.1]
   refine ⟨_,rfl,?_,HbF.out⟩
   rw [HE.out.2,List.length_map,HNl.out]
   exact ownsRow_base' ho Hb0.out.size
end Go.Proofs.YthdeijdimfjceaaGreatDoor

namespace Go.Proofs.YthdeijdimfjceaaGreatDoor
open Go.ChangeShapes Go.WideShapes Go.ChangeAt Go.RowKit Go.Joins Go.Deep
theorem scn_open:∃ f0:Field,Tryz.prog.underlying 28=some (.struct #[f0])∧oneCellFields Tryz.prog #[f0]=true∧f0.type=25 :=
 ⟨_,Tryz.underlying28,by kernel_rfl,rfl⟩
theorem scn_cells:Tryz.prog.cellsOf 28=1:=by kernel_rfl
theorem sh_cells:Tryz.prog.cellsOf 24=4:=by kernel_rfl
section
variable {H:Type} {enc:TypeId × Value→H} {P:Program} {w:World} {base:Nat} {sp:Nat→Bool} {held:Bool}
theorem open_agg1 {r:Reach} {b0:Nat} {t:TypeId} {f0:Field} {v:Value} {d:DataW H} {p:List MemPlace} (hs:P.underlying t=some (.struct #[f0])) (hone:oneCellFields P #[f0]=true) (hC:P.cellsOf t=1)
  (hv:Value.okWide P w r b0 t v) (h:DataW.Trod enc P w base sp held t v d p) :
  ∃ (v0:Value) (y0:DataW H × List MemPlace) (n:Nat),v = .agg #[v0]∧d = .agg [y0.1]∧DataW.trod enc P w base sp held n f0.type [v0]=some y0:=by
 obtain ⟨cs,rfl,hsz⟩:=okWide_struct hs hv
 obtain ⟨c0,rfl⟩:∃ c,cs=#[c]:=by
  obtain ⟨l⟩:=cs
  match l,hsz.trans hC with
  | [c],_ => exact ⟨c,rfl⟩
 obtain ⟨fuel,hf⟩:=h
 obtain ⟨xs,n',_,hz,_,hxl,hf⟩:=DataW.trod_struct hs hf
 obtain ⟨y0,rfl⟩:∃ y,xs=[y]:=by
  match xs,hxl with
  | [y],_ => exact ⟨y,rfl⟩
 have h0:=hf 0 f0 rfl
 obtain ⟨o0,k0⟩:=hone_of hone 0 f0 rfl
 exact ⟨c0,y0,n',rfl,by simpa using congrArg Prod.fst hz,by simpa [Value.cells,o0,k0] using h0⟩
end
section
variable {H:Type} {enc:TypeId × Value→H} {w:World} {sp:Nat→Bool} {held:Bool}
theorem dec_sh {n:Nat} {cs:List Value} {z:DataW H × List MemPlace} (hl:cs.length=4) (h:DataW.trod enc Tryz.prog w 0 sp held n 24 cs=some z) :
  ∃ f:Sh,cs=f.cells∧(Rows.uptoBulk z.1≤1048576→f.small):=by
 obtain ⟨c0,c1,c2,c3,rfl⟩:=arr4 hl
 obtain ⟨xs,n',_,hz,_,hxl,hf⟩:=DataW.trod_struct Tryz.underlying24 h
 obtain ⟨y0,y1,y2,y3,rfl⟩:=arr4 hxl
 have h0:=hf 0 _ rfl
 have h1:=hf 1 _ rfl
 have h2:=hf 2 _ rfl
 have h3:=hf 3 _ rfl
 simp [cells_string,cells_int,cells_rat] at h0 h1 h2 h3
 obtain ⟨s,hs,rfl,_⟩:=DataW.trod_string Tryz.underlying9 h0
 obtain ⟨d,hd,rfl,hw⟩:=DataW.trod_int Tryz.underlying3 h1
 obtain ⟨v,hv,rfl,_⟩:=DataW.trod_string Tryz.underlying22 h2
 obtain ⟨u,hu,rfl,_⟩:=DataW.trod_string Tryz.underlying22 h3
 simp at hs hd hv hu
 subst hs hd hv hu
 refine ⟨⟨s,d,v,u⟩,rfl,fun hb => ?_⟩
 rw [hz] at hb
 have hb':Rows.uptoBulk (DataW.agg (H:=H) [.lit (.string s.data.toList),.lit (.int .i64 d),.lit (.string v.data.toList),.lit (.string u.data.toList)])≤1048576:=hb
 have b:∀ t:ByteArray,.lit (.string t.data.toList) ∈ [DataW.lit (H:=H) (.string s.data.toList),.lit (.int .i64 d),.lit (.string v.data.toList),.lit (.string u.data.toList)]→t.size≤1100000:=fun t ht => by
  have h1:=bulk_agg (H:=H) ht
  have h2:=bulk_text (H:=H) t
  omega
 exact ⟨b s (by simp),b v (by simp),b u (by simp)⟩
end
set_option maxRecDepth 100000 in
theorem open_scn {H:Type} {enc:TypeId × Value→H} {W:World} {base:Nat} {v:Value} {d:DataW H} {p:List MemPlace}
  (hv:Value.okWide Tryz.prog W .any base 28 v) (h:DataW.Trod enc Tryz.prog W 0 (fun _ => true) true 28 v d p) (hb:Rows.uptoBulk d≤1048576) :
  ∃ (l:List Sh) (a:Option Addr) (n:Nat),v = .agg #[.slice a l.length n]∧l.length≤1100000∧Rd Sh.cells 4 W a l∧Sl W (.slice a l.length n) 4 l.length (l.flatMap Sh.cells)∧(a=none→n=0)∧(∀ x ∈ l,x.small):=by
 obtain ⟨s0,z0,z1,z2⟩:=scn_open
 obtain ⟨vs,ys,ns,rfl,rfl,ts⟩:=open_agg1 z0 z1 scn_cells hv h
 rw [z2] at ts
 have bs:Rows.uptoBulk ys.1≤1048576:=Nat.le_trans (bulk_agg (by simp)) hb
 obtain ⟨ad,cd,l,rfl,had,sd,ld,gd⟩:=open_list Sh.cells 4 (fun _ => rfl) (by decide) (fun f d => (Rows.uptoBulk d≤1048576→f.small)) Tryz.underlying25 sh_cells (fun _ _ _ hl h => dec_sh hl h) ts
 exact ⟨l,ad,cd,rfl,by omega,Rd.of_sl (enc:=Sh.cells) (m:=4) (fun _ => rfl) (by decide) sd,sd,had,fun f hf => by obtain ⟨d,h,hd⟩:=gd f hf;exact h (by omega)⟩
set_option maxRecDepth 100000 in
theorem open_envS {H:Type} {enc:TypeId × Value→H} {W:World} {base:Nat} {v:Value} {d:DataW H} {p:List MemPlace}
  (hv:Value.okWide Tryz.prog W .any base 32 v) (h:DataW.Trod enc Tryz.prog W 0 (fun _ => true) true 32 v d p) (hb:Rows.uptoBulk d≤1048576) :
  ∃ E:EvD,v=E.val∧E.Rd W∧(∀ f ∈ E.F,f.small)∧(∀ c ∈ E.C,c.small)∧EnvS E W:=by
 obtain ⟨f0,f1,e0,e1,e2,e3⟩:=env_open
 obtain ⟨va,vb,ya,yb,n,rfl,rfl,rfl,ta,tb⟩:=open_agg2 e0 e1 env_cells hv h
 rw [e2] at ta
 rw [e3] at tb
 have ba:Rows.uptoBulk ya.1≤1048576:=Nat.le_trans (bulk_agg (by simp)) hb
 have bb:Rows.uptoBulk yb.1≤1048576:=Nat.le_trans (bulk_agg (by simp)) hb
 obtain ⟨af,cf,fs,rfl,haf,sf,lf,gf⟩:=open_list Fx.cells 3 (fun _ => rfl) (by decide) (fun f d => f.fits∧(Rows.uptoBulk d≤1048576→f.small)) Tryz.underlying29 fx_cells (fun _ _ _ hl h => dec_fx hl h) ta
 obtain ⟨ac,cc,cs,rfl,hac,sc,lc,gc⟩:=open_list Ch.cells 4 (fun _ => rfl) (by decide) (fun f d => f.fits∧(Rows.uptoBulk d≤1048576→f.small)) Tryz.underlying30 ch_cells (fun _ _ _ hl h => dec_ch hl h) tb
 have Rf:=Rd.of_sl (enc:=Fx.cells) (m:=3) (fun _ => rfl) (by decide) sf
 have Rc:=Rd.of_sl (enc:=Ch.cells) (m:=4) (fun _ => rfl) (by decide) sc
 exact ⟨⟨fs,cs,af,ac,cf,cc⟩,rfl,⟨Rf,Rc,by show fs.length≤_;omega,by show cs.length≤_;omega⟩,
  fun f hf => by obtain ⟨d,⟨_,h⟩,hd⟩:=gf f hf;exact h (by omega),fun f hf => by obtain ⟨d,⟨_,h⟩,hd⟩:=gc f hf;exact h (by omega),⟨sf,sc,haf,hac⟩⟩
end Go.Proofs.YthdeijdimfjceaaGreatDoor

namespace Go.Proofs.YthdeijdimfjceaaGreatDoor
open Go.RowKit
def sE:ByteArray:=⟨#[]⟩
def sAnn:ByteArray:=⟨#[65,110,110]⟩
def sBob:ByteArray:=⟨#[66,111,98]⟩
def sUSD:ByteArray:=⟨#[85,83,68]⟩
def sACME:ByteArray:=⟨#[65,67,77,69]⟩
def s1:ByteArray:=⟨#[49]⟩
def s19:ByteArray:=⟨#[49,57]⟩
def s20:ByteArray:=⟨#[50,48]⟩
def s910:ByteArray:=⟨#[57,47,49,48]⟩
def s109:ByteArray:=⟨#[49,48,47,57]⟩
def sM109:ByteArray:=⟨#[45,49,48,47,57]⟩
def payA:Con:=.mk 2 sBob sAnn sUSD (.mk 3 sE sACME 0 []) 0 [] []
def paysC:Con:=.mk 6 sE sE sE (.mk 0 sE sE 0 []) 5 [] [payA]
def knF (x:ByteArray):List Fx:=[⟨sACME,5,x⟩]
def exS:List Sh:=[⟨sACME,0,s910,s1⟩]
def exI:List Sh:=[⟨sACME,0,s109,sM109⟩]
theorem paysC_err:paysC.err=0:=by rw [Con.errB_eq];decide +kernel
theorem envK (x:ByteArray) (h:ratErr x=0):envErr (knF x) []=0:=by
 unfold envErr knF
 simp only [List.length_cons,List.length_nil,List.any_cons,List.any_nil,Bool.or_false,incB]
 rw [if_neg (by decide)]
 have:fxBad ⟨sACME,5,x⟩=false:=by
  unfold fxBad
  simp only
  rw [show isNm (bl sACME)=true by decide,show isDay 5=true by decide,h];rfl
 rw [this];rfl
theorem fl20:paysC.flows (knF s20) [] 2 100000=(0,[⟨5,sBob,sAnn,sUSD,s20⟩]):=by kernel_rfl
theorem fl19:paysC.flows (knF s19) [] 2 100000=(0,[⟨5,sBob,sAnn,sUSD,s19⟩]):=by kernel_rfl
theorem be20:befR paysC 2 100000 (knF s20) []=(0,[⟨5,sBob,sAnn,sUSD,s20⟩]):=by
 rw [befR,if_neg (fun h => h paysC_err),if_neg (fun h => h (envK s20 (by decide +kernel))),if_neg (by decide),fl20];rfl
theorem be19:befR paysC 2 100000 (knF s19) []=(0,[⟨5,sBob,sAnn,sUSD,s19⟩]):=by
 rw [befR,if_neg (fun h => h paysC_err),if_neg (fun h => h (envK s19 (by decide +kernel))),if_neg (by decide),fl19];rfl
theorem na20:netAcc sAnn sUSD [⟨5,sBob,sAnn,sUSD,s20⟩] 1=(s20,0):=by kernel_rfl
theorem na19:netAcc sAnn sUSD [⟨5,sBob,sAnn,sUSD,s19⟩] 1=(s19,0):=by kernel_rfl
theorem con20:conR paysC sAnn sUSD 2 (knF s20) []=(s20,0):=by
 have h:=flows_ok (c:=paysC) (day:=2) (F:=knF s20) (C:=[]) (by rw [be20])
 have h2:=h.2.1
 rw [be20] at h2
 obtain ⟨e1,e2⟩:=netE_ok (p:=sAnn) (c:=sUSD) h2 (by decide)
 unfold conR
 rw [be20]
 rw [if_neg (fun k => k rfl)]
 show (netS sAnn sUSD [⟨5,sBob,sAnn,sUSD,s20⟩],netE sAnn sUSD [⟨5,sBob,sAnn,sUSD,s20⟩])=_
 rw [e1,e2]
 exact Prod.ext (congrArg Prod.fst na20) (congrArg Prod.snd na20)
theorem con19:conR paysC sAnn sUSD 2 (knF s19) []=(s19,0):=by
 have h:=flows_ok (c:=paysC) (day:=2) (F:=knF s19) (C:=[]) (by rw [be19])
 have h2:=h.2.1
 rw [be19] at h2
 obtain ⟨e1,e2⟩:=netE_ok (p:=sAnn) (c:=sUSD) h2 (by decide)
 unfold conR
 rw [be19]
 rw [if_neg (fun k => k rfl)]
 show (netS sAnn sUSD [⟨5,sBob,sAnn,sUSD,s19⟩],netE sAnn sUSD [⟨5,sBob,sAnn,sUSD,s19⟩])=_
 rw [e1,e2]
 exact Prod.ext (congrArg Prod.fst na19) (congrArg Prod.snd na19)
theorem exS_ok:scnB exS=true:=scnB_ok (by decide) (fun y hy => by
 obtain rfl:=List.mem_singleton.1 hy
 exact shBad_ok ⟨by decide,by decide,by decide +kernel,by decide,by decide +kernel⟩) rfl
theorem ap_err:errs ((knF s20).map (newE exS))=0:=by decide +kernel
theorem ap_val:(knF s20).map (newF exS)=knF s19:=by kernel_rfl
theorem ap_ok:applyE exS (knF s20) []=0∧applyF exS (knF s20) []=knF s19∧applyC exS (knF s20) []=[]:=by
 obtain ⟨h1,h2,h3⟩:=apply_ok exS_ok (envK s20 (by decide +kernel)) ap_err
 exact ⟨h1,h2.trans ap_val,h3⟩
theorem los_one:(lossR paysC sAnn sUSD 2 (knF s20) [] s20 exS)=(s1,0):=by
 unfold lossR
 rw [if_neg (fun k => k ap_ok.1),ap_ok.2.1,ap_ok.2.2,con19]
 rw [if_neg (fun k => k rfl)]
 kernel_rfl
theorem los_ex:losE [exS] paysC sAnn sUSD 2 (knF s20) []=0∧losL [exS] paysC sAnn sUSD 2 (knF s20) []=[s1]:=by
 have e:losE [exS] paysC sAnn sUSD 2 (knF s20) []=0:=by
  unfold losE
  rw [if_neg (by decide),con20,if_neg (fun k => k rfl),List.map_cons,List.map_nil,los_one]
  rfl
 refine ⟨e,?_⟩
 unfold losL
 rw [if_pos e,con20,List.map_cons,List.map_nil,los_one]
theorem inv_ex:inverseE exS=0∧inverseL exS=exI:=by
 obtain ⟨h1,h2⟩:=inverse_ok exS_ok (by decide +kernel)
 exact ⟨h1,h2.trans (by kernel_rfl)⟩
end Go.Proofs.YthdeijdimfjceaaGreatDoor

namespace Go.Proofs.YthdeijdimfjceaaGreatDoor
open Go.RowKit
theorem cell_new (w:World) (vs:List Value) (t:TypeId) {i:Nat} {u:Value} (h:vs[i]? = some u):(w.alloc (.cells vs.toArray t)).cell? ⟨w.heap.size,i,none⟩=some u:=by
 have e:(w.alloc (.cells vs.toArray t)).heap[w.heap.size]? = some (.cells vs.toArray t (0,0)):=by
  show (w.heap.push _)[w.heap.size]? = _
  simp
 unfold World.cell?
 simp only [e,Option.isSome_none,Bool.false_eq_true,if_false]
 simpa using h
theorem rdE_nil (w:World):RdE w [] (.slice none 0 0):=.mk none 0 [] (fun _ => .slice none 0 0) (fun j x h => by simp at h) (fun j x h => by simp at h)
theorem rdC_nil (w:World):RdC w [] (.slice none 0 0):=.mk none 0 [] (fun _ => .slice none 0 0) (fun _ => .slice none 0 0) (fun _ => .slice none 0 0) (fun j x h => by simp at h) (fun j x h => by simp at h) (fun j x h => by simp at h) (fun j x h => by simp at h)
theorem rdI_nil (w:World):RdI w [] (.slice none 0 0):=⟨none,0,rfl,⟨Nat.le_refl _,fun _ => rfl⟩,fun j d h => by simp at h⟩
theorem rdC_one {w:World} {B cap:Nat} {x:Con} {es dd ss:Value} (hc:∀ i u,(x.cells es dd ss)[i]? = some u→w.cell? ⟨B,i,none⟩=some u) (hr:RdN w x es dd ss):RdC w [x] (.slice (some ⟨B,0,none⟩) 1 cap):=by
 refine .mk (some ⟨B,0,none⟩) cap [x] (fun _ => es) (fun _ => dd) (fun _ => ss) (fun j y h => ?_) (fun j y h => ?_) (fun j y h => ?_) (fun j y h => ?_)
 all_goals
  cases j with
  | succ j => simp at h
  | zero => ?_
 all_goals (simp only [List.getElem?_cons_zero,Option.some.injEq] at h;subst h)
 ·exact ⟨hr.2.2.2,B,0,rfl,fun i u hu => by simpa using hc i u hu⟩
 ·exact hr.1
 ·exact hr.2.1
 ·exact hr.2.2.1
end Go.Proofs.YthdeijdimfjceaaGreatDoor

namespace Go.Proofs.YthdeijdimfjceaaGreatDoor
open Go.RowKit
def ScnPost (w:World) (er:Int) (l:List Sh) (e:Ending) (w':World):Prop :=
 ∃ ad cap,e = .returned (.tuple #[.agg #[.slice ad l.length cap],.int .i64 er])∧w'.ownsRow w.heap.size 24 4 (.slice ad l.length cap) l.length (l.flatMap Sh.cells)∧Below w.heap.size w w'
theorem scnPost_none {w w':World} {er:Int} (hb:Below w.heap.size w w'):ScnPost w er [] (.returned (.tuple #[.agg #[.slice none 0 0],.int .i64 er])) w' :=
 ⟨none,0,rfl,World.ownsRow_nil _ _ _ _,hb⟩
theorem rd_sh {w:World} {base n c:Nat} {e:TypeId} {a:Option Addr} {l:List Sh} (h:w.ownsRow base e 4 (.slice a n c) n (l.flatMap Sh.cells)):Rd Sh.cells 4 w a l:=by
 obtain ⟨hl,h2⟩:=h
 have e:n=l.length:=by rw [flat_length Sh.cells 4 (fun _ => rfl)] at hl;omega
 subst e
 exact Rd.of_sl (enc:=Sh.cells) (m:=4) (fun _ => rfl) (by decide) (Sl.of_owns ⟨hl,h2⟩)
end Go.Proofs.YthdeijdimfjceaaGreatDoor

namespace Go.Proofs.YthdeijdimfjceaaGreatDoor
open Go.RowKit
theorem row_one {base size B:Nat} (w:World) (xs:List Value) (t:TypeId) (hs:xs.length=size) (hb:base≤B) (hB:w.heap.size=B):(w.alloc (.cells xs.toArray t)).ownsRow base t size (.slice (some ⟨B,0,none⟩) 1 1) 1 xs:=by
 subst hB
 exact ⟨by rw [hs,Nat.one_mul],.inr ⟨_,1,xs.toArray,rfl,hb,World.alloc_heap_new w _,Nat.le_refl _,by unfold maxLen;omega,by simp [hs],by rw [Nat.one_mul,← hs];simp⟩⟩
set_option maxRecDepth 100000 in
theorem known32_any (x:ByteArray) (w:World):Calls Tryz.prog 12 #[.string x] w fun e w' => ∃ K,e = .returned (.agg #[.slice (some ⟨K,0,none⟩) 1 1,.slice none 0 0])∧w'.ownsRow w.heap.size 37 3 (.slice (some ⟨K,0,none⟩) 1 1) 1 ((knF x).flatMap Fx.cells)∧Below w.heap.size w w':=by
 go_enter Tryz.func12,Tryz.ntmps12
 go_wp2
 refine bodyPost_ret (v:=.agg #[.slice (some ⟨w.heap.size+1,0,none⟩) 1 1,.slice none 0 0]) (by simp [results,Tryz.results12,go_sem]) rfl ?_
 exact ⟨_,rfl,row_one (base:=w.heap.size) (size:=3) (B:=w.heap.size+1) (w.alloc _) [.string sACME,.int .i64 5,.string x] _ rfl (by omega) (by simp),below_a2 _ _ _⟩
set_option maxRecDepth 100000 in
theorem example32_any (w:World):Calls Tryz.prog 11 #[] w fun e w' => ∃ K,e = .returned (.agg #[.slice (some ⟨K,0,none⟩) 1 1])∧w'.ownsRow w.heap.size 24 4 (.slice (some ⟨K,0,none⟩) 1 1) 1 (exS.flatMap Sh.cells)∧Below w.heap.size w w':=by
 go_enter Tryz.func11,Tryz.ntmps11
 go_wp2
 refine bodyPost_ret (v:=.agg #[.slice (some ⟨w.heap.size+1,0,none⟩) 1 1]) (by simp [results,Tryz.results11,go_sem]) rfl ?_
 exact ⟨_,rfl,row_one (base:=w.heap.size) (size:=4) (B:=w.heap.size+1) (w.alloc _) [.string sACME,.int .i64 0,.string s910,.string s1] _ rfl (by omega) (by simp),below_a2 _ _ _⟩
set_option maxRecDepth 100000 in
theorem pays32_any (w:World):Calls Tryz.prog 14 #[] w fun e w' => ∃ K,e = .returned (paysC.val (.slice none 0 0) (.slice none 0 0) (.slice (some ⟨K,0,none⟩) 1 1))∧RdN w' paysC (.slice none 0 0) (.slice none 0 0) (.slice (some ⟨K,0,none⟩) 1 1)∧Below w.heap.size w w':=by
 go_enter Tryz.func14,Tryz.ntmps14
 go_wp2
 refine bodyPost_ret (v:=.agg #[.int .u8 6,.string ⟨#[]⟩,.string ⟨#[]⟩,.string ⟨#[]⟩,.int .u8 0,.string ⟨#[]⟩,.string ⟨#[]⟩,.int .i64 0,.slice none 0 0,.int .i64 5,.slice none 0 0,.slice (some ⟨w.heap.size+1+1,0,none⟩) 1 1]) (by simp [results,Tryz.results14,go_sem]) rfl ?_
 refine ⟨w.heap.size+1+1,rfl,⟨rdE_nil _,rdI_nil _,rdC_one (es:=.slice none 0 0) (dd:=.slice none 0 0) (ss:=.slice none 0 0) (fun i u h => ?_) ⟨rdE_nil _,rdI_nil _,rdC_nil _,by decide,by decide⟩,by decide,by decide⟩,below_a3 _ _ _ _⟩
 have:=cell_new ((w.alloc (.cells #[.int .u8 6,.string ⟨#[]⟩,.string ⟨#[]⟩,.string ⟨#[]⟩,.int .u8 0,.string ⟨#[]⟩,.string ⟨#[]⟩,.int .i64 0,.slice none 0 0,.int .i64 5,.slice none 0 0,.slice (some ⟨w.heap.size+1+1,0,none⟩) 1 1] 51)).alloc (.cells (payA.cells (.slice none 0 0) (.slice none 0 0) (.slice none 0 0)).toArray 51)) _ 51 h
 rw [World.size_alloc,World.size_alloc] at this
 exact this
end Go.Proofs.YthdeijdimfjceaaGreatDoor

namespace Go.Proofs.YthdeijdimfjceaaGreatDoor
open Go.RowKit
set_option maxHeartbeats 1000000 in
set_option maxRecDepth 100000 in
theorem got_zero (B:Nat) (r:ByteArray) (e:Int) (w:World) (h:BoxN w B 86 [.int .i64 0]) :
  Calls Tryz.prog 33 #[.pointer (some ⟨B,0,none⟩),.string r,.int .i64 e] w fun x w' => x = .returned (.string r)∧w'=w.setCell ⟨B,0,none⟩ (.int .i64 e):=by
 have hc:w.cell? ⟨B,0,none⟩=some (.int .i64 0):=h.cell rfl
 have hf:=h.frozen 0
 clear h
 go_enter Tryz.func33,Tryz.ntmps33
 go_wp2
 go_ret
 exact ⟨rfl,rfl⟩
set_option maxHeartbeats 1000000 in
set_option maxRecDepth 100000 in
theorem got_kept (B:Nat) (r:ByteArray) (k e:Int) (w:World) (h:BoxN w B 86 [.int .i64 k]) (hk:k ≠ 0) :
  Calls Tryz.prog 33 #[.pointer (some ⟨B,0,none⟩),.string r,.int .i64 e] w fun x w' => x = .returned (.string r)∧w'=w:=by
 have hc:w.cell? ⟨B,0,none⟩=some (.int .i64 k):=h.cell rfl
 have t1:(k == 0)=false:=by rw [beq_eq_false_iff_ne];exact hk
 clear h
 go_enter Tryz.func33,Tryz.ntmps33
 go_wp2
 go_ret
 exact ⟨rfl,rfl⟩
def kept (k e:Int):Int:=if k=0 then e else k
theorem got_any (B:Nat) (r:ByteArray) (k e:Int) (w:World) (h:BoxN w B 86 [.int .i64 k]) :
  Calls Tryz.prog 33 #[.pointer (some ⟨B,0,none⟩),.string r,.int .i64 e] w fun x w' => x = .returned (.string r)∧BoxN w' B 86 [.int .i64 (kept k e)]∧(∀ b,b ≠ B→w'.heap[b]? = w.heap[b]?)∧Below B w w'∧w.heap.size≤w'.heap.size:=by
 by_cases hk:k=0
 ·subst hk
  refine (got_zero B r e w h).mono ?_
  rintro x w' ⟨rfl,rfl⟩
  refine ⟨rfl,?_,fun b hb => Below.heap_setCell _ _ _ _ (by show b ≠ B;exact hb),(Below.refl _ _).setCell (p:=⟨B,0,none⟩) (Nat.le_refl _) _,by simp [World.setCell]⟩
  have:=h.set 0 (.int .i64 e)
  rw [kept,if_pos rfl]
  exact this
 ·refine (got_kept B r k e w h hk).mono ?_
  rintro x w' ⟨rfl,rfl⟩
  exact ⟨rfl,by rw [kept,if_neg hk];exact h,fun _ _ => rfl,Below.refl _ _,Nat.le_refl _⟩
end Go.Proofs.YthdeijdimfjceaaGreatDoor

namespace Go.Proofs.YthdeijdimfjceaaGreatDoor
open Go.RowKit
set_option maxHeartbeats 4000000 in
set_option maxRecDepth 100000 in
theorem ratdiv_bad (a b:ByteArray) (w:World) (ha:a.size≤1000000) (hb:b.size≤1000000) (he0:bE a b ≠ 0) :
  Calls Tryz.prog 34 #[.string a,.string b] w (RatPost2 w (divS a b) (divE a b)):=by
 have Hz:=Lib.hid (show ¬ (bE a b=0∧bl (pN b)=[48]) from fun k => he0 k.1)
 have t0:(bE a b == 0)=false:=by rw [beq_eq_false_iff_ne];exact he0
 have HB:=Lib.hid (both_ab a b w (by omega) (by omega))
 have Hs:=Lib.hid (part_sizes a b ha hb)
 clear ha hb
 go_enter Tryz.func34,Tryz.ntmps34
 go_wp2_with fail
 refine HB.out.mono ?_
 rintro e w1 ⟨P,rfl,hP,hp,hb1⟩
 obtain ⟨q0,q1,q2,q3,q4⟩:=hp.cells
 go_wp2_with fail
 refine (keepr_any P 50 w1).mono ?_
 rintro e w2 ⟨rfl,hm,hb2⟩
 clear q0 q1 q2 q3 q4
 clear t0
 skip
 obtain ⟨Bm,hBm⟩:∃ B,B=w1.heap.size:=⟨_,rfl⟩
 rw [← hBm] at hm ⊢
 obtain ⟨n0,hn0⟩:∃ n,n=pN a:=⟨_,rfl⟩
 obtain ⟨n1,hn1⟩:∃ n,n=bN1 a b:=⟨_,rfl⟩
 obtain ⟨d0,hd0⟩:∃ n,n=pD a:=⟨_,rfl⟩
 obtain ⟨d1,hd1⟩:∃ n,n=bD1 a b:=⟨_,rfl⟩
 rw [← hn0,← hn1,← hd0,← hd1] at hp Hs
 have HN:=Lib.hid (And.intro hn0 (And.intro hn1 (And.intro hd0 hd1)))
 clear hn0 hn1 hd0 hd1
 obtain ⟨z0,z1,z2,z3⟩:=Hs.out
 have st0:PSt w w2.drew P Bm Bm 50 50 n0 n1 d0 d1 (bE a b):=PSt.drew ⟨hp.below hb2,hm,hm,hb1.trans (hb2.mono hb1.size),hP⟩
 have p:=hp.below hb2
 obtain ⟨h0,h1,h2,h3,_⟩:=p.cells
 clear p hp hm hb1 hb2 hBm hP HB Hs
 obtain ⟨e0,he⟩:∃ e,e=bE a b:=⟨_,rfl⟩
 rw [← he] at st0
 have HE0:=Lib.hid he
 clear he he0
 have HM:Hid (∀ W er x y,PSt w W P Bm Bm 50 50 n0 n1 d0 d1 er→x.size≤1100000→y.size≤1100000→Calls Tryz.prog 89 #[.string x,.string y,.pointer (some ⟨Bm,0,none⟩),.pointer (some ⟨Bm+1,0,none⟩)] W fun e w' => ∃ t er',e = .returned (.string t)∧Hid (StepR (bl x) (bl y) (ival (bl x) * ival (bl y)) er (bl t) er')∧PSt w w' P Bm Bm 50 50 n0 n1 d0 d1 er'∧t.size≤1100000∧w'.cell? ⟨P,0,none⟩=some (.string n0)∧w'.cell? ⟨P,1,none⟩=some (.string n1)∧w'.cell? ⟨P,2,none⟩=some (.string d0)∧w'.cell? ⟨P,3,none⟩=some (.string d1)):=by
  intro W er x y hst hx hy
  refine (pst_mul hst x y hx hy).mono ?_
  rintro e w' ⟨t,er',rfl,hr,hst'⟩
  obtain ⟨c0,c1,c2,c3,_⟩:=hst'.p.cells
  exact ⟨t,er',rfl,hr,hst',by have:=hr.out.len;rw [← bl_length];omega,c0,c1,c2,c3⟩
 have HD:Hid (∀ W er x y,PSt w W P Bm Bm 50 50 n0 n1 d0 d1 er→x.size≤1100000→y.size≤1100000→(er=0→intErr (bl x)=0∧intErr (bl y)=0∧dval (body (bl y)) ≠ 0)→Calls Tryz.prog 52 #[.pointer (some ⟨P,0,none⟩),.string x,.string y] W fun e w' => ∃ s er2,e = .returned (.tuple #[.string s,.int .i64 er2])∧Hid (MadeR (bl x) (bl y) er (bl s) er2)∧Below w.heap.size w w'∧w'.cell? ⟨P,0,none⟩=some (.string n0)∧w'.cell? ⟨P,1,none⟩=some (.string n1)∧w'.cell? ⟨P,2,none⟩=some (.string d0)∧w'.cell? ⟨P,3,none⟩=some (.string d1)):=by
  intro W er x y hst hx hy hpre
  have hcc:=fun W' (hb:Below W.heap.size W W') => (hst.p.below hb).cells
  by_cases he:er=0
  ·subst he
   obtain ⟨i1,i2,i3⟩:=hpre rfl
   refine (made_ok x y P n0 n1 d0 d1 W hst.p _ (Lib.hid fun W' => make_ok x y W' hx hy i1 i2 i3)).mono ?_
   rintro e w' ⟨s,rfl,hs,hb⟩
   obtain ⟨c0,c1,c2,c3,_⟩:=hcc _ hb
   exact ⟨s,0,rfl,.inr ⟨rfl,rfl,hs⟩,hst.b.trans (hb.mono hst.b.size),c0,c1,c2,c3⟩
  ·refine (made_err x y P n0 n1 d0 d1 er W hst.p he).mono ?_
   rintro e w' ⟨rfl,hb⟩
   obtain ⟨c0,c1,c2,c3,_⟩:=hcc _ hb
   exact ⟨_,er,rfl,.inl ⟨he,rfl,rfl⟩,hst.b.trans (hb.mono hst.b.size),c0,c1,c2,c3⟩
 have HC:Hid (∀ t1 t2 e1 e2,StepR (bl n0) (bl d1) (ival (bl n0) * ival (bl d1)) e0 t1 e1→StepR (bl d0) (bl n1) (ival (bl d0) * ival (bl n1)) e1 t2 e2→e2=divE a b∧(e2=0→intErr t1=0∧intErr t2=0∧dval (body t2) ≠ 0∧ratTxt (!(isNeg t1 == isNeg t2)) (dval (body t1)) (dval (body t2))=divS a b)):=by
  obtain ⟨q1,q2,q3,q4⟩:=HN.out
  have q5:=HE0.out
  subst q1 q2 q3 q4 q5
  exact fun _ _ _ _ r1 r2 => div_done ⟨r1,r2⟩ Hz.out
 have HS:Hid (divE a b ≠ 0→divS a b=[]):=fun k => by have h:=k;rw [divE,if_neg Hz.out] at h;rw [divS,if_neg Hz.out];exact frS_err h
 clear HN HE0 Hz
 go_wp2_with fail
 go_region_held3 (fun w' => w'.cell? ⟨P,0,none⟩=some (.string n0)∧w'.cell? ⟨P,1,none⟩=some (.string n1)∧w'.cell? ⟨P,2,none⟩=some (.string d0)∧w'.cell? ⟨P,3,none⟩=some (.string d1))
  (first | assumption | exact ⟨by assumption,by assumption,by assumption,by assumption⟩ | go_keep)
  (first | (go_at_call 89;first | (refine (HM.out _ _ _ _ st1 z2 z1).mono ?_;rintro e w5 ⟨t2,e2,rfl,r2,st2,l2,p0,p1,p2,p3⟩) | (refine (HM.out _ _ _ _ st0 z0 z3).mono ?_;rintro e w4 ⟨t1,e1,rfl,r1,st1,l1,p0,p1,p2,p3⟩)) | (go_at_call 52;refine (HD.out _ _ _ _ st2 l1 l2 (fun h => by obtain ⟨h1,h2,h3,_⟩:=(HC.out _ _ _ _ r1.out r2.out).2 h;exact ⟨h1,h2,h3⟩)).mono ?_;rintro e w8 ⟨s,e5,rfl,r5,hbz,p0,p1,p2,p3⟩))
 have HF:Hid (RatPost2 w (divS a b) (divE a b) (.returned (.tuple #[.string s,.int .i64 e5])) w8):=by
  have hc:=HC.out _ _ _ _ r1.out r2.out
  rcases r5.out with ⟨h1,h2,rfl⟩ | ⟨h1,rfl,h2⟩
  ·have hne:divE a b ≠ 0:=by rw [← hc.1];exact h1
   refine ⟨s,?_,?_,hbz⟩
   ·rw [hc.1]
   ·rw [HS.out hne];exact h2
  ·refine ⟨s,?_,?_,hbz⟩
   ·rw [← hc.1,h1]
   ·rw [h2];exact (hc.2 h1).2.2.2
 clear HC HD HM HS r1 r2 r5 st0 st1 st2
 go_wp2
 go_ret2
 exact HF.out
set_option maxHeartbeats 4000000 in
set_option maxRecDepth 100000 in
theorem ratdiv_ok (a b:ByteArray) (w:World) (ha:a.size≤1000000) (hb:b.size≤1000000) (he0:bE a b=0) (hn0:bl (pN b) ≠ [48]) :
  Calls Tryz.prog 34 #[.string a,.string b] w (RatPost2 w (divS a b) (divE a b)):=by
 have Hz:=Lib.hid (show ¬ (bE a b=0∧bl (pN b)=[48]) from fun k => hn0 k.2)
 have tn:((bN1 a b).toList == [48])=false:=ne_lit (by rw [(bE_zero he0).2.2.1];exact hn0)
 clear hn0
 have HB:=Lib.hid (both_ab a b w (by omega) (by omega))
 have Hs:=Lib.hid (part_sizes a b ha hb)
 clear ha hb
 go_enter Tryz.func34,Tryz.ntmps34
 go_wp2_with fail
 refine HB.out.mono ?_
 rintro e w1 ⟨P,rfl,hP,hp,hb1⟩
 obtain ⟨q0,q1,q2,q3,q4⟩:=hp.cells
 rw [he0] at q4
 go_wp2_with fail
 refine (keepr_any P 50 w1).mono ?_
 rintro e w2 ⟨rfl,hm,hb2⟩
 clear q0 q1 q2 q3 q4
 skip
 clear tn
 obtain ⟨Bm,hBm⟩:∃ B,B=w1.heap.size:=⟨_,rfl⟩
 rw [← hBm] at hm ⊢
 obtain ⟨n0,hn0⟩:∃ n,n=pN a:=⟨_,rfl⟩
 obtain ⟨n1,hn1⟩:∃ n,n=bN1 a b:=⟨_,rfl⟩
 obtain ⟨d0,hd0⟩:∃ n,n=pD a:=⟨_,rfl⟩
 obtain ⟨d1,hd1⟩:∃ n,n=bD1 a b:=⟨_,rfl⟩
 rw [← hn0,← hn1,← hd0,← hd1] at hp Hs
 have HN:=Lib.hid (And.intro hn0 (And.intro hn1 (And.intro hd0 hd1)))
 clear hn0 hn1 hd0 hd1
 obtain ⟨z0,z1,z2,z3⟩:=Hs.out
 have st0:PSt w w2.drew P Bm Bm 50 50 n0 n1 d0 d1 (bE a b):=PSt.drew ⟨hp.below hb2,hm,hm,hb1.trans (hb2.mono hb1.size),hP⟩
 have p:=hp.below hb2
 obtain ⟨h0,h1,h2,h3,_⟩:=p.cells
 clear p hp hm hb1 hb2 hBm hP HB Hs
 obtain ⟨e0,he⟩:∃ e,e=bE a b:=⟨_,rfl⟩
 rw [← he] at st0
 have HE0:=Lib.hid he
 clear he he0
 have HM:Hid (∀ W er x y,PSt w W P Bm Bm 50 50 n0 n1 d0 d1 er→x.size≤1100000→y.size≤1100000→Calls Tryz.prog 89 #[.string x,.string y,.pointer (some ⟨Bm,0,none⟩),.pointer (some ⟨Bm+1,0,none⟩)] W fun e w' => ∃ t er',e = .returned (.string t)∧Hid (StepR (bl x) (bl y) (ival (bl x) * ival (bl y)) er (bl t) er')∧PSt w w' P Bm Bm 50 50 n0 n1 d0 d1 er'∧t.size≤1100000∧w'.cell? ⟨P,0,none⟩=some (.string n0)∧w'.cell? ⟨P,1,none⟩=some (.string n1)∧w'.cell? ⟨P,2,none⟩=some (.string d0)∧w'.cell? ⟨P,3,none⟩=some (.string d1)):=by
  intro W er x y hst hx hy
  refine (pst_mul hst x y hx hy).mono ?_
  rintro e w' ⟨t,er',rfl,hr,hst'⟩
  obtain ⟨c0,c1,c2,c3,_⟩:=hst'.p.cells
  exact ⟨t,er',rfl,hr,hst',by have:=hr.out.len;rw [← bl_length];omega,c0,c1,c2,c3⟩
 have HD:Hid (∀ W er x y,PSt w W P Bm Bm 50 50 n0 n1 d0 d1 er→x.size≤1100000→y.size≤1100000→(er=0→intErr (bl x)=0∧intErr (bl y)=0∧dval (body (bl y)) ≠ 0)→Calls Tryz.prog 52 #[.pointer (some ⟨P,0,none⟩),.string x,.string y] W fun e w' => ∃ s er2,e = .returned (.tuple #[.string s,.int .i64 er2])∧Hid (MadeR (bl x) (bl y) er (bl s) er2)∧Below w.heap.size w w'∧w'.cell? ⟨P,0,none⟩=some (.string n0)∧w'.cell? ⟨P,1,none⟩=some (.string n1)∧w'.cell? ⟨P,2,none⟩=some (.string d0)∧w'.cell? ⟨P,3,none⟩=some (.string d1)):=by
  intro W er x y hst hx hy hpre
  have hcc:=fun W' (hb:Below W.heap.size W W') => (hst.p.below hb).cells
  by_cases he:er=0
  ·subst he
   obtain ⟨i1,i2,i3⟩:=hpre rfl
   refine (made_ok x y P n0 n1 d0 d1 W hst.p _ (Lib.hid fun W' => make_ok x y W' hx hy i1 i2 i3)).mono ?_
   rintro e w' ⟨s,rfl,hs,hb⟩
   obtain ⟨c0,c1,c2,c3,_⟩:=hcc _ hb
   exact ⟨s,0,rfl,.inr ⟨rfl,rfl,hs⟩,hst.b.trans (hb.mono hst.b.size),c0,c1,c2,c3⟩
  ·refine (made_err x y P n0 n1 d0 d1 er W hst.p he).mono ?_
   rintro e w' ⟨rfl,hb⟩
   obtain ⟨c0,c1,c2,c3,_⟩:=hcc _ hb
   exact ⟨_,er,rfl,.inl ⟨he,rfl,rfl⟩,hst.b.trans (hb.mono hst.b.size),c0,c1,c2,c3⟩
 have HC:Hid (∀ t1 t2 e1 e2,StepR (bl n0) (bl d1) (ival (bl n0) * ival (bl d1)) e0 t1 e1→StepR (bl d0) (bl n1) (ival (bl d0) * ival (bl n1)) e1 t2 e2→e2=divE a b∧(e2=0→intErr t1=0∧intErr t2=0∧dval (body t2) ≠ 0∧ratTxt (!(isNeg t1 == isNeg t2)) (dval (body t1)) (dval (body t2))=divS a b)):=by
  obtain ⟨q1,q2,q3,q4⟩:=HN.out
  have q5:=HE0.out
  subst q1 q2 q3 q4 q5
  exact fun _ _ _ _ r1 r2 => div_done ⟨r1,r2⟩ Hz.out
 have HS:Hid (divE a b ≠ 0→divS a b=[]):=fun k => by have h:=k;rw [divE,if_neg Hz.out] at h;rw [divS,if_neg Hz.out];exact frS_err h
 clear HN HE0 Hz
 go_wp2_with fail
 go_region_held3 (fun w' => w'.cell? ⟨P,0,none⟩=some (.string n0)∧w'.cell? ⟨P,1,none⟩=some (.string n1)∧w'.cell? ⟨P,2,none⟩=some (.string d0)∧w'.cell? ⟨P,3,none⟩=some (.string d1))
  (first | assumption | exact ⟨by assumption,by assumption,by assumption,by assumption⟩ | go_keep)
  (first | (go_at_call 89;first | (refine (HM.out _ _ _ _ st1 z2 z1).mono ?_;rintro e w5 ⟨t2,e2,rfl,r2,st2,l2,p0,p1,p2,p3⟩) | (refine (HM.out _ _ _ _ st0 z0 z3).mono ?_;rintro e w4 ⟨t1,e1,rfl,r1,st1,l1,p0,p1,p2,p3⟩)) | (go_at_call 52;refine (HD.out _ _ _ _ st2 l1 l2 (fun h => by obtain ⟨h1,h2,h3,_⟩:=(HC.out _ _ _ _ r1.out r2.out).2 h;exact ⟨h1,h2,h3⟩)).mono ?_;rintro e w8 ⟨s,e5,rfl,r5,hbz,p0,p1,p2,p3⟩))
 have HF:Hid (RatPost2 w (divS a b) (divE a b) (.returned (.tuple #[.string s,.int .i64 e5])) w8):=by
  have hc:=HC.out _ _ _ _ r1.out r2.out
  rcases r5.out with ⟨h1,h2,rfl⟩ | ⟨h1,rfl,h2⟩
  ·have hne:divE a b ≠ 0:=by rw [← hc.1];exact h1
   refine ⟨s,?_,?_,hbz⟩
   ·rw [hc.1]
   ·rw [HS.out hne];exact h2
  ·refine ⟨s,?_,?_,hbz⟩
   ·rw [← hc.1,h1]
   ·rw [h2];exact (hc.2 h1).2.2.2
 clear HC HD HM HS r1 r2 r5 st0 st1 st2
 go_wp2
 go_ret2
 exact HF.out
set_option maxHeartbeats 4000000 in
set_option maxRecDepth 100000 in
theorem ratdiv_zero (a b:ByteArray) (w:World) (ha:a.size≤1000000) (hb:b.size≤1000000) (he0:bE a b=0) (hn0:bl (pN b)=[48]) :
  Calls Tryz.prog 34 #[.string a,.string b] w (RatPost2 w (divS a b) (divE a b)):=by
 have hE:divE a b=16:=by rw [divE,if_pos ⟨he0,hn0⟩]
 have hS:divS a b=[]:=by rw [divS,if_pos ⟨he0,hn0⟩]
 rw [hE,hS]
 have HB:=Lib.hid (both_ab a b w (by omega) (by omega))
 have tn:bN1 a b=⟨#[48]⟩:=by rw [(bE_zero he0).2.2.1];exact eq_lit hn0
 have Htn:=Lib.hid tn
 have He0:=Lib.hid he0
 clear ha hb hE hS he0 hn0 tn
 go_enter Tryz.func34,Tryz.ntmps34
 go_wp2_with fail
 refine HB.out.mono ?_
 rintro e w1 ⟨P,rfl,hP,hp,hb1⟩
 rw [Htn.out,He0.out] at hp
 obtain ⟨q0,q1,q2,q3,q4⟩:=hp.cells
 clear hp
 go_wp2
 go_ret2
 exact ⟨_,rfl,rfl,hb1⟩
theorem ratdiv_any (a b:ByteArray) (w:World) (ha:a.size≤1000000) (hb:b.size≤1000000) :
  Calls Tryz.prog 34 #[.string a,.string b] w (RatPost2 w (divS a b) (divE a b)):=by
 by_cases he0:bE a b=0
 ·by_cases hn0:bl (pN b)=[48]
  ·exact ratdiv_zero a b w ha hb he0 hn0
  ·exact ratdiv_ok a b w ha hb he0 hn0
 ·exact ratdiv_bad a b w ha hb he0
end Go.Proofs.YthdeijdimfjceaaGreatDoor
