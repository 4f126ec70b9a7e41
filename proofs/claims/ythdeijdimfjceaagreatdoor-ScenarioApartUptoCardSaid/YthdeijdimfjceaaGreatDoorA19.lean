/- A part. -/
import Derived.Test.YthdeijdimfjceaaGreatDoorA18
import Derived.Deep.DeepHandedRow
import Derived.Deep.DeepWitnessRowRef
import Derived.Deep.CutBlock
namespace Go.Proofs.YthdeijdimfjceaaGreatDoor
open Go.RowKit Go.Shelf
attribute [local go_sem] Oper.semAt_some
mutual
theorem Con.formed_nodes:∀ c:Con,c.formed=c.nodes.all nodeOk
 | .mk k f t n x d dd l => by rw [Con.formed,Con.nodes,List.all_cons,Con.formeds_nodes l]
theorem Con.formeds_nodes:∀ l:List Con,Con.formeds l=(Con.nodess l).all nodeOk
 | [] => by rw [Con.formeds,Con.nodess];rfl
 | x :: l => by rw [Con.formeds,Con.nodess,List.all_append,Con.formed_nodes x,Con.formeds_nodes l]
end
theorem Con.err_many {c:Con} (h:500 < c.size∨60 < c.depth):c.err=4:=by unfold Con.err;rw [if_pos h]
theorem Con.err_ok {c:Con} (h : ¬ (500 < c.size∨60 < c.depth)) (h2:∀ x ∈ c.nodes,nodeOk x=true):c.err=0:=by
 unfold Con.err
 rw [if_neg h,if_pos (by rw [Con.formed_nodes];exact List.all_eq_true.2 h2)]
theorem Con.err_bad {c:Con} (h : ¬ (500 < c.size∨60 < c.depth)) {x:Con} (hx:x ∈ c.nodes) (h2:nodeOk x=false):c.err=8:=by
 unfold Con.err
 rw [if_neg h,if_neg (fun hf => by rw [Con.formed_nodes,List.all_eq_true] at hf;have:=hf x hx;rw [h2] at this;cases this)]
set_option maxHeartbeats 4000000 in
set_option maxRecDepth 100000 in
theorem cchk_any (c:Con) (es dd ss:Value) (w:World) (hB:c.bulk≤2000000) (hr:RdN w c es dd ss) (hS:LookS w) (hP:LookP w) :
  Calls Tryz.prog 22 #[c.val es dd ss] w fun e w' => e = .returned (.int .i64 c.err)∧Below w.heap.size w w':=by
 obtain ⟨ad,cap,rfl⟩:=hr.2.2.1.len
 obtain ⟨ad1,cap1,rfl⟩:=hr.1.len
 obtain ⟨ad2,cap2,rfl⟩:=hr.2.1.len
 have HNo:=Lib.hid (fun W => cnodes_any c (.slice ad1 c.ex.sub.length cap1) (.slice ad2 c.ds.length cap2) (.slice ad c.sub.length cap) W)
 have HSi:=Lib.hid (fun W (hb:Below w.heap.size w W) => csize_any c _ _ _ W hB (hr.frame hb))
 have HDe:=Lib.hid (fun W (hb:Below w.heap.size w W) => cdepth_any c.bulk c _ _ _ W (Nat.le_refl _) hB (hr.frame hb))
 have HLk:=Lib.hid (And.intro hS hP)
 have hb0:=below_a2 w (.cells #[.int .u8 c.k,.string c.fr,.string c.rc,.string c.nm,.int .u8 c.ex.k,.string c.ex.ra,.string c.ex.nm,.int .i64 c.ex.d,.slice ad1 c.ex.sub.length cap1,.int .i64 c.d,.slice ad2 c.ds.length cap2,.slice ad c.sub.length cap] 51) (.cells #[.int .i64 0] 33)
 have bC:=(CBox.new w c (.slice ad1 c.ex.sub.length cap1) (.slice ad2 c.ds.length cap2) (.slice ad c.sub.length cap) 51).low (below_a1 _ (.cells #[.int .i64 0] 33))
 have bR:=Boxed.new (w.alloc (.cells #[.int .u8 c.k,.string c.fr,.string c.rc,.string c.nm,.int .u8 c.ex.k,.string c.ex.ra,.string c.ex.nm,.int .i64 c.ex.d,.slice ad1 c.ex.sub.length cap1,.int .i64 c.d,.slice ad2 c.ds.length cap2,.slice ad c.sub.length cap] 51)) 33 (.int .i64 0)
 simp only [World.size_alloc] at bR
 have hsz:((w.alloc (.cells #[.int .u8 c.k,.string c.fr,.string c.rc,.string c.nm,.int .u8 c.ex.k,.string c.ex.ra,.string c.ex.nm,.int .i64 c.ex.d,.slice ad1 c.ex.sub.length cap1,.int .i64 c.d,.slice ad2 c.ds.length cap2,.slice ad c.sub.length cap] 51)).alloc (.cells #[.int .i64 0] 33)).heap.size=w.heap.size+2:=by simp
 have hszb:=c.size_le
 have hdzb:=c.depth_le
 clear hS hP
 refine (callsIn_wide (n:=10)).1 ?_
 unfold Con.val at HNo HSi HDe ⊢
 refine callsIn_of_wp_marks Tryz.func22 rfl trivial ?_ rfl
 simp only [Tryz.ntmps22,List.size_toArray,List.length_cons,List.length_nil,Nat.reduceAdd,Nat.reduceSub,Array.replicate_succ,Array.replicate_zero,List.push_toArray,List.append_toArray,List.nil_append,List.cons_append]
 by_cases h5:500 < c.size
 ·have HF:Hid (c.err=4):=Con.err_many (.inl h5)
  have t1:(500:Int) < (c.size:Int):=by omega
  gi_wp2_with (refine ⟨trivial,?_⟩;gi_at_call 44;refine (callsIn_wide.2 (HSi.out _ hb0)).mono ?_;rintro e w1 ⟨rfl,hb1⟩;have hz1:=hb1.size;(simp only [World.size_alloc] at hz1);have bR1:Boxed w1 (w.heap.size+1) 33 (.int .i64 0):=(hb1.block _ bR.lt).trans bR;have hc1:=bR1.cell;have hf1:=bR1.frozen)
  refine ⟨trivial,?_⟩
  have hb2:=hb0.trans (hb1.mono (by rw [hsz];omega))
  have hb3:=hb2.setCell (p:=⟨w.heap.size+1,0,none⟩) (by simp) (.int .i64 4)
  have hc4:=(bR1.set (.int .i64 4)).cell
  clear hb0 hb1 hb2
  gi_wp2
  refine ⟨.int .i64 4,?_,by rw [HF.out],hb3⟩
  simp [results,Tryz.f22,go_sem,hc4]
 ·have t1:decide ((500:Int) < (c.size:Int))=false:=by rw [decide_eq_false_iff_not];omega
  have t1b:decide (500 < c.size)=false:=by rw [decide_eq_false_iff_not];omega
  by_cases h6:60 < c.depth
  ·have HF:Hid (c.err=4):=Con.err_many (.inr h6)
   have t2:(60:Int) < (c.depth:Int):=by omega
   gi_wp2_with (first
    | (refine ⟨trivial,?_⟩;gi_at_call 44;refine (callsIn_wide.2 (HSi.out _ hb0)).mono ?_;rintro e w1 ⟨rfl,hb1⟩;have hz1:=hb1.size;(simp only [World.size_alloc] at hz1);have hb2:=hb0.trans (hb1.mono (by rw [hsz];omega));obtain ⟨c0,c1,c2,c3,c4,c5,c6,c7,c8,c9,c10,c11⟩:=bC.low hb1)
    | (refine ⟨trivial,?_⟩;gi_at_call 45;refine (callsIn_wide.2 (HDe.out _ hb2)).mono ?_;rintro e w2 ⟨rfl,hb3⟩;have hz2:=hb3.size;have bR2:Boxed w2 (w.heap.size+1) 33 (.int .i64 0):=(hb3.block _ (by omega)).trans ((hb1.block _ bR.lt).trans bR);have hc2:=bR2.cell;have hf2:=bR2.frozen))
   have hb4:=hb2.trans (hb3.mono (by omega))
   have hb5:=hb4.setCell (p:=⟨w.heap.size+1,0,none⟩) (by simp) (.int .i64 4)
   have hc4:=(bR2.set (.int .i64 4)).cell
   clear hb0 hb1 hb2 hb3 hb4
   gi_wp2
   refine ⟨.int .i64 4,?_,by rw [HF.out],hb5⟩
   simp [results,Tryz.f22,go_sem,hc4]
  ·have t2:decide ((60:Int) < (c.depth:Int))=false:=by rw [decide_eq_false_iff_not];omega
   have t2b:decide (60 < c.depth)=false:=by rw [decide_eq_false_iff_not];omega
   gi_wp2_with (first
    | (refine ⟨trivial,?_⟩;gi_at_call 44;refine (callsIn_wide.2 (HSi.out _ hb0)).mono ?_;rintro e w1 ⟨rfl,hb1⟩;have hz1:=hb1.size;(simp only [World.size_alloc] at hz1);have hb2:=hb0.trans (hb1.mono (by rw [hsz];omega));obtain ⟨c0,c1,c2,c3,c4,c5,c6,c7,c8,c9,c10,c11⟩:=bC.low hb1)
    | (refine ⟨trivial,?_⟩;gi_at_call 45;refine (callsIn_wide.2 (HDe.out _ hb2)).mono ?_;rintro e w2 ⟨rfl,hb3⟩;have hz2:=hb3.size;have bR2:Boxed w2 (w.heap.size+1) 33 (.int .i64 0):=(hb3.block _ (by omega)).trans ((hb1.block _ bR.lt).trans bR);have hb4:=hb2.trans (hb3.mono (by omega));obtain ⟨d0,d1,d2,d3,d4,d5,d6,d7,d8,d9,d10,d11⟩:=(bC.low hb1).low hb3)
    | (refine ⟨trivial,?_⟩;gi_at_call 46;refine (callsIn_wide.2 (HNo.out _)).mono ?_;rintro e w3 ⟨rfl,rfl⟩))
   have bC0:=CBox.new w2 c (.slice ad1 c.ex.sub.length cap1) (.slice ad2 c.ds.length cap2) (.slice ad c.sub.length cap) 51
   have bR0:=bR2.alloc (.cells #[.int .u8 c.k,.string c.fr,.string c.rc,.string c.nm,.int .u8 c.ex.k,.string c.ex.ra,.string c.ex.nm,.int .i64 c.ex.d,.slice ad1 c.ex.sub.length cap1,.int .i64 c.d,.slice ad2 c.ds.length cap2,.slice ad c.sub.length cap] 51)
   have hbW:=hb4.alloc hb4.size (.cells #[.int .u8 c.k,.string c.fr,.string c.rc,.string c.nm,.int .u8 c.ex.k,.string c.ex.ra,.string c.ex.nm,.int .i64 c.ex.d,.slice ad1 c.ex.sub.length cap1,.int .i64 c.d,.slice ad2 c.ds.length cap2,.slice ad c.sub.length cap] 51)
   have hsz0:w.heap.size+2≤(w2.alloc (.cells #[.int .u8 c.k,.string c.fr,.string c.rc,.string c.nm,.int .u8 c.ex.k,.string c.ex.ra,.string c.ex.nm,.int .i64 c.ex.d,.slice ad1 c.ex.sub.length cap1,.int .i64 c.d,.slice ad2 c.ds.length cap2,.slice ad c.sub.length cap] 51)).heap.size:=by simp;omega
   obtain ⟨W0,hW0⟩:∃ W0,w2.alloc (.cells #[.int .u8 c.k,.string c.fr,.string c.rc,.string c.nm,.int .u8 c.ex.k,.string c.ex.ra,.string c.ex.nm,.int .i64 c.ex.d,.slice ad1 c.ex.sub.length cap1,.int .i64 c.d,.slice ad2 c.ds.length cap2,.slice ad c.sub.length cap] 51)=W0:=⟨_,rfl⟩
   rw [hW0] at bC0 bR0 hbW hsz0 ⊢
   have hE : ¬ (500 < c.size∨60 < c.depth):=by omega
   have HOk:=Lib.hid (fun h2 => Con.err_ok (c:=c) hE h2)
   have HBad:=Lib.hid (fun x hx h2 => Con.err_bad (c:=c) hE (x:=x) hx h2)
   have hw2:w2.heap.size < W0.heap.size:=by rw [← hW0];simp
   clear hW0 HNo HSi HDe hb0 bC bR hb1 hz1 hb2 hb3 hz2 bR2 hb4 d0 d1 d2 d3 d4 d5 d6 d7 d8 d9 d10 d11 c0 c1 c2 c3 c4 c5 c6 c7 c8 c9 c10 c11 hsz t1 t1b t2 t2b hE
   refine wpIn_rangeFunc_ownH rfl (by decide) (gf:=80) (lb:=#[.pointer (some ⟨w2.heap.size,0,none⟩)]) rfl trivial (enters_of Tryz.func80 (by kernel_rfl) rfl)
    (cnodes_stops w Fence.wide rfl trivial trivial rfl 9 c _ _ _ W0 hB hr hbW _ bC0) (fun h k => h.trans k) (fun W l o o' hl h hc _ => Kept.putObj W l o o' (by omega) h hc) (Below.refl _ _) (fun _ => rfl)
    (fun pre W => (Boxed W (w.heap.size+1) 33 (.int .i64 0)∧(∀ x ∈ pre.map NdW.con,nodeOk x=true))∧(Below w.heap.size w W∧W0.heap.size≤W.heap.size))
    (fun cd pre W => (cd = .ret∧(∃ x ∈ pre.map NdW.con,nodeOk x=false)∧Boxed W (w.heap.size+1) 33 (.int .i64 8))∧(Below w.heap.size w W∧W0.heap.size≤W.heap.size))
    (OwnFrom.and (Own.from (fun s A B row hs hg hr => ⟨boxed_own (β:=Unit) _ _ (fun _ => .int .i64 0) () A B row hs.1 hg hr,hs.2⟩) _) (OwnFrom.and (ownFrom_below (Nat.le_refl _) (by omega)) (fun _ _ _ _ hs hg _ => Nat.le_trans hs hg.size)))
    (fun cd => OwnFrom.and (Own.from (fun s A B row hs hg hr => ⟨hs.1,hs.2.1,boxed_own (β:=Unit) _ _ (fun _ => .int .i64 8) () A B row hs.2.2 hg hr⟩) _) (OwnFrom.and (ownFrom_below (Nat.le_refl _) (by omega)) (fun _ _ _ _ hs hg _ => Nat.le_trans hs hg.size)))
    ⟨⟨bR0,by simp⟩,hbW,Nat.le_refl _⟩
    (fun x a' W => ∃ Bx,W0.heap.size≤Bx∧CBox W Bx x.1.1 x.1.2.1 x.1.2.2.1 x.1.2.2.2∧a'={ tmps:=#[.agg #[.int .u8 c.k,.string c.fr,.string c.rc,.string c.nm,.int .u8 c.ex.k,.string c.ex.ra,.string c.ex.nm,.int .i64 c.ex.d,.slice ad1 c.ex.sub.length cap1,.int .i64 c.d,.slice ad2 c.ds.length cap2,.slice ad c.sub.length cap],.pointer (some ⟨w.heap.size,0,none⟩),.pointer (some ⟨w.heap.size+1,0,none⟩),.pointer (some ⟨Bx,0,none⟩),.agg #[.int .u8 c.k,.string c.fr,.string c.rc,.string c.nm,.int .u8 c.ex.k,.string c.ex.ra,.string c.ex.nm,.int .i64 c.ex.d,.slice ad1 c.ex.sub.length cap1,.int .i64 c.d,.slice ad2 c.ds.length cap2,.slice ad c.sub.length cap],.int .i64 c.size,.bool false,.bool false,.agg #[.int .u8 c.k,.string c.fr,.string c.rc,.string c.nm,.int .u8 c.ex.k,.string c.ex.ra,.string c.ex.nm,.int .i64 c.ex.d,.slice ad1 c.ex.sub.length cap1,.int .i64 c.d,.slice ad2 c.ds.length cap2,.slice ad c.sub.length cap],.int .i64 c.depth,.bool false,.bool false,.agg #[.int .u8 c.k,.string c.fr,.string c.rc,.string c.nm,.int .u8 c.ex.k,.string c.ex.ra,.string c.ex.nm,.int .i64 c.ex.d,.slice ad1 c.ex.sub.length cap1,.int .i64 c.d,.slice ad2 c.ds.length cap2,.slice ad c.sub.length cap],.func (.func 80) #[] #[.pointer (some ⟨w2.heap.size,0,none⟩)],x.1.1.val x.1.2.1 x.1.2.2.1 x.1.2.2.2,undef,undef,undef],defers:=[] })
    (fun x a' s A B row hs hg hr => by
     obtain ⟨Bx,h1,h2,h3⟩:=hs
     exact ⟨Bx,h1,cbox_own (β:=Unit) Bx _ _ _ _ () A B row h2 hg (fun r e => (hr r e).2),h3⟩)
    ?assign ?body ?done ?stop
   case assign =>
    rintro l pre ⟨⟨y,es',dd',ss'⟩,hy,hyB⟩ W K ⟨⟨hi,hall⟩,hbi,hZ0⟩ hK
    have hy2:RdN w y es' dd' ss':=hy
    obtain ⟨bd,bcap,rfl⟩:=hy2.2.2.1.len
    obtain ⟨bd1,bcap1,rfl⟩:=hy2.1.len
    obtain ⟨bd2,bcap2,rfl⟩:=hy2.2.1.len
    have hz:=hbi.size
    have hl:=hi.lt
    have hk:=hK _ _ ((KeepsOthers.alloc W (.cells #[.int .u8 y.k,.string y.fr,.string y.rc,.string y.nm,.int .u8 y.ex.k,.string y.ex.ra,.string y.ex.nm,.int .i64 y.ex.d,.slice bd1 y.ex.sub.length bcap1,.int .i64 y.d,.slice bd2 y.ds.length bcap2,.slice bd y.sub.length bcap] 51)).from _) (Kept.alloc W hz _) ⟨⟨hi.alloc _,hall⟩,hbi.alloc hz _,Nat.le_trans hZ0 (by simp)⟩ ⟨W.heap.size,hZ0,CBox.new W y _ _ _ _,rfl⟩
    unfold NdW.enc Con.val
    unfold Con.val at hk
    clear hK
    gi_wp2
    exact hk
   case body =>
    rintro l pre ⟨⟨y,es',dd',ss'⟩,hy,hyB⟩ a' W hl ⟨r,hlr⟩ ⟨⟨hi,hall⟩,hbi,hZ0⟩ ⟨Bx,hBx,hbox,rfl⟩ hlt
    have hy2:RdN w y es' dd' ss':=hy
    obtain ⟨bd,bcap,rfl⟩:=hy2.2.2.1.len
    obtain ⟨bd1,bcap1,rfl⟩:=hy2.1.len
    obtain ⟨bd2,bcap2,rfl⟩:=hy2.2.1.len
    have hyb:y.bulk≤2000000:=hyB
    have HNd:=Lib.hid (node_any y _ _ _ W hyb (hy2.frame hbi) (HLk.out.1.frame hbi) (HLk.out.2.frame hbi))
    unfold Con.val at HNd ⊢
    obtain ⟨c0,c1,c2,c3,c4,c5,c6,c7,c8,c9,c10,c11⟩:=hbox
    have hall':nodeOk y=true→∀ x ∈ (pre ++ [(⟨(y,.slice bd1 y.ex.sub.length bcap1,.slice bd2 y.ds.length bcap2,.slice bd y.sub.length bcap),hy,hyB⟩:NdW w)]).map NdW.con,nodeOk x=true:=fun h x hx => by
     rw [List.map_append,List.mem_append] at hx
     rcases hx with hx | hx
     ·exact hall x hx
     ·obtain rfl:x=y:=by simpa [NdW.con] using hx
      exact h
    have hbad':nodeOk y=false→∃ x ∈ (pre ++ [(⟨(y,.slice bd1 y.ex.sub.length bcap1,.slice bd2 y.ds.length bcap2,.slice bd y.sub.length bcap),hy,hyB⟩:NdW w)]).map NdW.con,nodeOk x=false:=fun h => ⟨y,by simp [NdW.con],h⟩
    have HA:=Lib.hid hall'
    have HB:=Lib.hid hbad'
    clear hall hall' hbad' hyb hlr bC0 bR0
    cases hq:nodeOk y with
    | true =>
     rw [hq] at HNd
     have HA2:=Lib.hid (HA.out hq)
     clear hq HA HB
     gi_wp2_with (refine ⟨trivial,?_⟩;gi_at_call 47;refine (CallsIn.inRound l (callsIn_wide.2 HNd.out)).mono ?_;rintro e w4 ⟨rfl,hb5⟩)
     exact ⟨(KeepsOthers.of_below hb5).from _,Kept.of_below hbi.size hb5,⟨(hb5.block _ hi.lt).trans hi,HA2.out⟩,hbi.trans (hb5.mono hbi.size),Nat.le_trans hZ0 hb5.size⟩
    | false =>
     rw [hq] at HNd
     have HB2:=Lib.hid (HB.out hq)
     clear hq HA HB
     gi_wp2_with (refine ⟨trivial,?_⟩;gi_at_call 47;refine (CallsIn.inRound l (callsIn_wide.2 HNd.out)).mono ?_;rintro e w4 ⟨rfl,hb5⟩;have hi5:Boxed w4 (w.heap.size+1) 33 (.int .i64 0):=(hb5.block _ hi.lt).trans hi;have hc5:=hi5.cell;have hf5:=hi5.frozen)
     exact ⟨((KeepsOthers.of_below hb5).trans (KeepsOthers.setCell _ _ _)).from _,⟨rfl,HB2.out,hi5.set _⟩,(hbi.trans (hb5.mono hbi.size)).setCell (p:=⟨w.heap.size+1,0,none⟩) (by simp) _,Nat.le_trans (Nat.le_trans hZ0 hb5.size) (by simp)⟩
   case done =>
    rintro D xs W hD hS ⟨⟨hi,hall⟩,hbi,hZ0⟩ hK
    rw [hS] at hall
    have HF:=Lib.hid (HOk.out hall)
    have hf:=hi.frozen
    have hlt:=hi.lt
    have hc:=hi.cell
    have hK2:=(KeepsOthers.setCell W ⟨w.heap.size+1,0,none⟩ (.int .i64 0)).same D _ hK rfl
    have hb7:=(hbi.setCell (p:=⟨w.heap.size+1,0,none⟩) (by simp) (.int .i64 0)).trans (belowK_b (w:=w) (Nat.le_refl _) _ D (.deferred (some [])) (.deferred none) (by omega) hK2 rfl rfl)
    have hc5:=cell_kept (hi.set (.int .i64 0)).cell (grownBy_putObj' _ D (.deferred none)) (fun r e => by cases e;exact ⟨_,hK2,rfl⟩)
    clear hall hi hbi
    gi_wp2
    refine ⟨by simp,.inl ⟨_,_,rfl,run_takeDeferred hK2,?_⟩⟩
    refine ⟨.int .i64 0,?_,by rw [HF.out],hb7⟩
    simp [results,Tryz.f22,go_sem,hc5]
   case stop =>
    rintro D cd pre W hD hpre ⟨⟨rfl,⟨x,hx,hxb⟩,hi⟩,hbi,hZ0⟩ hK
    have HF:=Lib.hid (HBad.out x (hpre.subset hx) hxb)
    have hb7:=hbi.trans (belowK_b (w:=w) (Nat.le_refl _) W D (.deferred (some [])) (.deferred none) (by omega) hK rfl rfl)
    have hc5:=cell_kept hi.cell (grownBy_putObj' _ D (.deferred none)) (fun r e => by cases e;exact ⟨_,hK,rfl⟩)
    clear hi hbi hx hxb
    gi_wp2
    refine ⟨by simp,.inl ⟨_,_,rfl,run_takeDeferred hK,?_⟩⟩
    refine ⟨.int .i64 8,?_,by rw [HF.out],hb7⟩
    simp [results,Tryz.f22,go_sem,hc5]
end Go.Proofs.YthdeijdimfjceaaGreatDoor

namespace Go.Proofs.YthdeijdimfjceaaGreatDoor
open Go.RowKit
structure BfH (c:Con) (es dd ss:Value) (E:EvD) (w:World):Prop where
 bulk:c.bulk≤1100000
 rd:RdN w c es dd ss
 ls:LookS w
 lp:LookP w
 lo:LookO w
 e:E.Rd w
 fs:∀ f ∈ E.F,f.small
 cs:∀ c ∈ E.C,c.small
theorem BfH.frame {c:Con} {es dd ss:Value} {E:EvD} {w w':World} (h:BfH c es dd ss E w) (hb:Below w.heap.size w w'):BfH c es dd ss E w' :=
 ⟨h.bulk,h.rd.frame hb,h.ls.frame hb,h.lp.frame hb,h.lo.frame hb,h.e.frame hb,h.fs,h.cs⟩
theorem con_wf {c:Con} (h:c.err=0):c.formed=true:=by
 unfold Con.err at h
 split at h
 ·exact absurd h (by decide)
 ·split at h
  ·assumption
  ·exact absurd h (by decide)
theorem BfH.fl {c:Con} {es dd ss:Value} {E:EvD} {w:World} (h:BfH c es dd ss E w) (hc:c.err=0) (he:envErr E.F E.C=0):FlH c es dd ss E w:=⟨h.bulk,h.rd,h.ls,h.lo,h.e,h.fs,h.cs,he,con_wf hc⟩
structure BfB (W:World) (B:Nat) (c:Con) (es dd ss:Value) (E:EvD) (l:Value) (er:Int):Prop where
 c:BoxN W B 51 (c.cells es dd ss)
 v:BoxN W (B+1) 32 [.slice E.af E.F.length E.cf,.slice E.ac E.C.length E.cc]
 l:BoxN W (B+2) 90 [l]
 r:BoxN W (B+3) 33 [.int .i64 er]
theorem BfB.below {W W':World} {B:Nat} {c:Con} {es dd ss:Value} {E:EvD} {l:Value} {er:Int} (h:BfB W B c es dd ss E l er) (hb:Below W.heap.size W W'):BfB W' B c es dd ss E l er :=
 ⟨h.c.below hb h.c.lt,h.v.below hb h.v.lt,h.l.below hb h.l.lt,h.r.below hb h.r.lt⟩
theorem bf_world (w:World) (c:Con) (es dd ss:Value) (E:EvD):∃ W,(((w.alloc (.cells #[.int .u8 c.k,.string c.fr,.string c.rc,.string c.nm,.int .u8 c.ex.k,.string c.ex.ra,.string c.ex.nm,.int .i64 c.ex.d,es,.int .i64 c.d,dd,ss] 51)).alloc (.cells #[.slice E.af E.F.length E.cf,.slice E.ac E.C.length E.cc] 32)).alloc (.cells #[.slice none 0 0] 90)).alloc (.cells #[.int .i64 0] 33)=W ∧
  Below w.heap.size w W∧w.heap.size+4≤W.heap.size∧BfB W w.heap.size c es dd ss E (.slice none 0 0) 0:=by
 refine ⟨_,rfl,(below_a3 _ _ _ _).trans ((below_a1 _ _).mono (by simp;omega)),by simp,?_⟩
 have hc:=((BoxN.new w (c.cells es dd ss) 51).alloc (.cells #[.slice E.af E.F.length E.cf,.slice E.ac E.C.length E.cc] 32)).alloc (.cells #[.slice none 0 0] 90)
 have hd:=(BoxN.new (w.alloc (.cells (c.cells es dd ss).toArray 51)) [.slice E.af E.F.length E.cf,.slice E.ac E.C.length E.cc] 32).alloc (.cells #[.slice none 0 0] 90)
 have hf:=BoxN.new ((w.alloc (.cells (c.cells es dd ss).toArray 51)).alloc (.cells #[.slice E.af E.F.length E.cf,.slice E.ac E.C.length E.cc] 32)) [.slice none 0 0] 90
 have hv:=BoxN.new (((w.alloc (.cells (c.cells es dd ss).toArray 51)).alloc (.cells #[.slice E.af E.F.length E.cf,.slice E.ac E.C.length E.cc] 32)).alloc (.cells #[.slice none 0 0] 90)) [.int .i64 0] 33
 simp only [World.size_alloc] at hd hf hv
 exact ⟨hc.alloc _,hd.alloc _,hf.alloc _,hv⟩
def BfP (w:World) (R:Int × List Fl) (e:Ending) (w':World):Prop :=
 ∃ ad cap,e = .returned (.tuple #[.slice ad R.2.length cap,.int .i64 R.1])∧Below w.heap.size w w'∧R.2.length≤cap∧(ad=none→cap=0)∧Rd Fl.cells 5 w' ad R.2
theorem BfB.store {w W:World} {B:Nat} {c:Con} {es dd ss:Value} {E:EvD} {l:Value} {er:Int} (h:BfB W B c es dd ss E l er) (hB:w.heap.size≤B) (hb:Below w.heap.size w W) (l':Value) (er':Int) :
  Below w.heap.size w ((W.setCell ⟨B+2,0,none⟩ l').setCell ⟨B+3,0,none⟩ (.int .i64 er'))∧BfB ((W.setCell ⟨B+2,0,none⟩ l').setCell ⟨B+3,0,none⟩ (.int .i64 er')) B c es dd ss E l' er' :=
 ⟨(hb.setCell (p:=⟨B+2,0,none⟩) (show w.heap.size≤B+2 by omega) _).setCell (p:=⟨B+3,0,none⟩) (show w.heap.size≤B+3 by omega) _,
  ⟨(h.c.far (show B ≠ B+2 by omega) _).far (show B ≠ B+3 by omega) _,(h.v.far (show B+1 ≠ B+2 by omega) _).far (show B+1 ≠ B+3 by omega) _,(h.l.set 0 _).far (show B+2 ≠ B+3 by omega) _,(h.r.far (show B+3 ≠ B+2 by omega) _).set 0 _⟩⟩
theorem BfB.store2 {w W:World} {B:Nat} {c:Con} {es dd ss:Value} {E:EvD} {l:Value} {er:Int} (h:BfB W B c es dd ss E l er) (hB:w.heap.size≤B) (hb:Below w.heap.size w W) (l':Value) (er':Int) :
  Below w.heap.size w (((W.setCell ⟨B+3,0,none⟩ (.int .i64 er')).setCell ⟨B+2,0,none⟩ l').alloc (.cells #[.int .i64 er'] 190))∧BfB (((W.setCell ⟨B+3,0,none⟩ (.int .i64 er')).setCell ⟨B+2,0,none⟩ l').alloc (.cells #[.int .i64 er'] 190)) B c es dd ss E l' er' :=
 ⟨((hb.setCell (p:=⟨B+3,0,none⟩) (show w.heap.size≤B+3 by omega) _).setCell (p:=⟨B+2,0,none⟩) (show w.heap.size≤B+2 by omega) _).alloc (by simp only [World.size_setCell];exact hb.size) _,
  ⟨((h.c.far (show B ≠ B+3 by omega) _).far (show B ≠ B+2 by omega) _).alloc _,((h.v.far (show B+1 ≠ B+3 by omega) _).far (show B+1 ≠ B+2 by omega) _).alloc _,((h.l.far (show B+2 ≠ B+3 by omega) _).set 0 _).alloc _,((h.r.set 0 _).far (show B+3 ≠ B+2 by omega) _).alloc _⟩⟩
theorem rd_set1 {W:World} {B:Nat} {t:TypeId} {u:Value} {ad:Option Addr} {l:List Fl} (h:Rd Fl.cells 5 W ad l) (hB:BoxN W B t [u]) (v:Value):Rd Fl.cells 5 (W.setCell ⟨B,0,none⟩ v) ad l:=fun j x hj => by
 obtain ⟨b,off,e,h3⟩:=h j x hj
 refine ⟨b,off,e,fun i y hy => ?_⟩
 have hne:b ≠ B:=by
  rintro rfl
  have h1:=h3 1 (.string x.fr) rfl
  simp [World.cell?,show W.heap[b]? = _ from hB] at h1
 rw [World.cell?_setCell_far _ _ _ _ (fun e => hne e.symm)]
 exact h3 i y hy
theorem bfp_nil {w W:World} (er:Int) (h:Below w.heap.size w W):BfP w (er,[]) (.returned (.tuple #[.slice none 0 0,.int .i64 er])) W:=⟨none,0,rfl,h,Nat.le_refl _,fun _ => rfl,Rd.nil _ _⟩
theorem twelve {W:World} {B:Nat} {t:TypeId} {v0 v1 v2 v3 v4 v5 v6 v7 v8 v9 v10 v11:Value} (h:BoxN W B t [v0,v1,v2,v3,v4,v5,v6,v7,v8,v9,v10,v11]):W.cell? ⟨B,0,none⟩=some v0∧W.cell? ⟨B,1,none⟩=some v1∧W.cell? ⟨B,2,none⟩=some v2∧W.cell? ⟨B,3,none⟩=some v3∧W.cell? ⟨B,4,none⟩=some v4∧W.cell? ⟨B,5,none⟩=some v5∧W.cell? ⟨B,6,none⟩=some v6∧W.cell? ⟨B,7,none⟩=some v7∧W.cell? ⟨B,8,none⟩=some v8∧W.cell? ⟨B,9,none⟩=some v9∧W.cell? ⟨B,10,none⟩=some v10∧W.cell? ⟨B,11,none⟩=some v11 :=
 ⟨h.cell (j:=0) rfl,h.cell (j:=1) rfl,h.cell (j:=2) rfl,h.cell (j:=3) rfl,h.cell (j:=4) rfl,h.cell (j:=5) rfl,h.cell (j:=6) rfl,h.cell (j:=7) rfl,h.cell (j:=8) rfl,h.cell (j:=9) rfl,h.cell (j:=10) rfl,h.cell (j:=11) rfl⟩
theorem BfB.q {W:World} {B:Nat} {c:Con} {es dd ss:Value} {E:EvD} {l:Value} {er:Int} (h:BfB W B c es dd ss E l er):W.cell? ⟨B+1+1,0,none⟩=some l∧W.cell? ⟨B+1+1+1,0,none⟩=some (.int .i64 er)∧W.frozen? ⟨B+1+1,0,none⟩=false∧W.frozen? ⟨B+1+1+1,0,none⟩=false :=
 ⟨h.l.cell (j:=0) rfl,h.r.cell (j:=0) rfl,h.l.frozen 0,h.r.frozen 0⟩
theorem BfB.v2 {W:World} {B:Nat} {c:Con} {es dd ss:Value} {E:EvD} {l:Value} {er:Int} (h:BfB W B c es dd ss E l er):W.cell? ⟨B+1,0,none⟩=some (.slice E.af E.F.length E.cf)∧W.cell? ⟨B+1,1,none⟩=some (.slice E.ac E.C.length E.cc) :=
 ⟨h.v.cell (j:=0) rfl,h.v.cell (j:=1) rfl⟩
theorem BfB.set2 {w W:World} {c:Con} {es dd ss:Value} {E:EvD} {l:Value} {er:Int} (h:BfB W w.heap.size c es dd ss E l er) (hb:Below w.heap.size w W) (l':Value) (er':Int):∃ W3,((W.setCell ⟨w.heap.size+1+1,0,none⟩ l').setCell ⟨w.heap.size+1+1+1,0,none⟩ (.int .i64 er'))=W3∧Below w.heap.size w W3∧W3.cell? ⟨w.heap.size+1+1,0,none⟩=some l'∧W3.cell? ⟨w.heap.size+1+1+1,0,none⟩=some (.int .i64 er') :=
 have hs:=h.store (Nat.le_refl _) hb l' er'
 ⟨_,rfl,hs.1,hs.2.q.1,hs.2.q.2.1⟩
set_option maxHeartbeats 4000000 in
set_option maxRecDepth 100000 in
theorem before_any (c:Con) (es dd ss:Value) (day fin:Int) (E:EvD) (w:World) (h:BfH c es dd ss E w) :
  Calls Tryz.prog 71 #[c.val es dd ss,.int .i64 day,.int .i64 fin,E.val] w (BfP w (befR c day fin E.F E.C)):=by
 generalize hR0:befR c day fin E.F E.C=R0
 obtain ⟨a1,n1,rfl⟩:=h.rd.1.len
 obtain ⟨a2,n2,rfl⟩:=h.rd.2.1.len
 obtain ⟨a3,n3,rfl⟩:=h.rd.2.2.1.len
 obtain ⟨W0,hW0,hb0,hz0,hB0⟩:=bf_world w c (.slice a1 c.ex.sub.length n1) (.slice a2 c.ds.length n2) (.slice a3 c.sub.length n3) E
 have H0:=h.frame hb0
 have HC:=Lib.hid (cchk_any c (.slice a1 c.ex.sub.length n1) (.slice a2 c.ds.length n2) (.slice a3 c.sub.length n3) W0 (by have:=h.bulk;omega) H0.rd H0.ls H0.lp)
 have HR:=Lib.hid hR0
 have HH:=Lib.hid H0
 have HB0:=Lib.hid hB0
 have Hb0:=Lib.hid hb0
 obtain ⟨c0,c1,c2,c3,c4,c5,c6,c7,c8,c9,c10,c11⟩:=twelve hB0.c
 clear h H0 hB0 hb0 hR0
 show Calls _ _ #[.agg #[.int .u8 c.k,.string c.fr,.string c.rc,.string c.nm,.int .u8 c.ex.k,.string c.ex.ra,.string c.ex.nm,.int .i64 c.ex.d,.slice a1 c.ex.sub.length n1,.int .i64 c.d,.slice a2 c.ds.length n2,.slice a3 c.sub.length n3],.int .i64 day,.int .i64 fin,.agg #[.slice E.af E.F.length E.cf,.slice E.ac E.C.length E.cc]] _ _
 go_enter_defers Tryz.func71,Tryz.ntmps71
 go_upto_region 1 with (fail)
 clear hW0
 go_wp2_with fail
 refine HC.out.mono ?_
 rintro e w1 ⟨rfl,hb1⟩
 have hB1:=HB0.out.below hb1
 have hb01:=Hb0.out.trans (hb1.mono Hb0.out.size)
 have HB1:=Lib.hid hB1
 have Hb1:=Lib.hid hb1
 have Hb01:=Lib.hid hb01
 clear c0 c1 c2 c3 c4 c5 c6 c7 c8 c9 c10 c11 HC hb1
 by_cases hce:c.err=0
 rotate_left
 ·have t1:(c.err == 0)=false:=by rw [beq_eq_false_iff_ne];exact hce
  have HQ:Hid (R0=(c.err,[])):=Lib.hid (by rw [← HR.out,befR,if_pos hce])
  obtain ⟨q0,q1,z0,z1⟩:=hB1.q
  obtain ⟨W3,e3,hbs,r0,r1⟩:=HB1.out.set2 Hb01.out (.slice none 0 0) c.err
  have E3:=Lib.hid e3
  clear e3 hce
  go_wp2_with fail
  rw [E3.out]
  simp [bodyPostD,Leaves,results,Tryz.results71,go_sem,r0,r1]
  rw [HQ.out]
  exact bfp_nil _ hbs
 obtain ⟨v0,v1⟩:=hB1.v2
 rw [hce]
 clear hB1 hb01
 go_wp2_with fail
 have H1:=HH.out.frame Hb1.out
 refine (checkEnv_any E.F E.C E.af E.ac E.cf E.cc w1 H1.e.nf H1.e.nc H1.e.f H1.e.c H1.fs H1.cs).mono ?_
 clear H1
 rintro e w2 ⟨rfl,hb2⟩
 have hB2:=HB1.out.below hb2
 have HB2:=Lib.hid hB2
 have Hb02:=Lib.hid (Hb01.out.trans (hb2.mono Hb01.out.size))
 have H2:=Lib.hid ((HH.out.frame Hb1.out).frame hb2)
 clear v0 v1 hb2 HB1 Hb01 Hb1
 by_cases hee:envErr E.F E.C=0
 rotate_left
 ·have t2:(envErr E.F E.C == 0)=false:=by rw [beq_eq_false_iff_ne];exact hee
  have HQ:Hid (R0=(envErr E.F E.C,[])):=Lib.hid (by rw [← HR.out,befR,if_neg (fun h => h hce),if_pos hee])
  obtain ⟨q0,q1,z0,z1⟩:=hB2.q
  obtain ⟨W3,e3,hbs,r0,r1⟩:=HB2.out.set2 Hb02.out (.slice none 0 0) (envErr E.F E.C)
  have E3:=Lib.hid e3
  clear e3 hce hee
  go_wp2_with fail
  rw [E3.out]
  simp [bodyPostD,Leaves,results,Tryz.results71,go_sem,r0,r1]
  rw [HQ.out]
  exact bfp_nil _ hbs
 rw [hee]
 by_cases hbad:day < 0∨day ≥ 100000∨fin < 0∨100000 < fin
 ·have HQ:Hid (R0=(2,[])):=Lib.hid (by rw [← HR.out,befR,if_neg (fun h => h hce),if_neg (fun h => h hee),if_pos (by omega)])
  obtain ⟨q0,q1,z0,z1⟩:=hB2.q
  obtain ⟨W3,e3,hbs,r0,r1⟩:=HB2.out.set2 Hb02.out (.slice none 0 0) 2
  have E3:=Lib.hid e3
  clear e3 hce hee
  cases b0:decide (day < 0)
  cases b1:decide (99999 < day)
  cases b2:decide (fin < 0)
  have b3:decide (100000 < fin)=true:=by simp at b0 b1 b2 ⊢;omega
  all_goals
   clear hbad
   go_wp2_with fail
   rw [E3.out]
   simp [bodyPostD,Leaves,results,Tryz.results71,go_sem,r0,r1]
   rw [HQ.out]
   exact bfp_nil _ hbs
 have b0:decide (day < 0)=false:=decide_eq_false (by omega)
 have b1:decide (99999 < day)=false:=decide_eq_false (by omega)
 have b2:decide (fin < 0)=false:=decide_eq_false (by omega)
 have b3:decide (100000 < fin)=false:=decide_eq_false (by omega)
 have hfl:=H2.out.fl hce hee
 have HF:=Lib.hid (flows_any c.bulk c E (Nat.le_refl _) _ _ _ day fin w2 hfl (by omega) (by omega))
 have hlen:=flows_len E.F E.C c.bulk c (Nat.le_refl _) day fin
 have hbk:=hfl.bulk
 have HR2:Hid (R0=andR (c.flows E.F E.C day fin) [] fun l => (0,srtFl l)):=Lib.hid (by rw [← HR.out,befR,if_neg (fun h => h hce),if_neg (fun h => h hee),if_neg (by omega)])
 generalize c.flows E.F E.C day fin=R1 at HF HR2 hlen
 have hl5:R1.2.length≤5000000:=by omega
 have HL5:=Lib.hid hl5
 obtain ⟨v0,v1⟩:=hB2.v2
 obtain ⟨c0,c1,c2,c3,c4,c5,c6,c7,c8,c9,c10,c11⟩:=twelve hB2.c
 clear hfl hbk hlen hl5 hbad hce hee HR H2 HH hB2
 go_wp2_with fail
 refine HF.out.mono ?_
 rintro e w3 ⟨hb3,⟨hr,v,rfl,⟨ad3,cap3,rfl⟩,ho⟩ | ⟨hr,rfl⟩⟩
 all_goals
  have hB3:=HB2.out.below hb3
  have HB3:=Lib.hid hB3
  have Hb03:=Lib.hid (Hb02.out.trans (hb3.mono Hb02.out.size))
  clear v0 v1 c0 c1 c2 c3 c4 c5 c6 c7 c8 c9 c10 c11 HB2 Hb02 hb3 HF
 ·have HR3:Hid (R0=(0,srtFl R1.2)):=Lib.hid (by rw [HR2.out,andR,if_neg (fun h => h hr)])
  obtain ⟨o1,o2,o3⟩:=own_rd ho
  have HO:=Lib.hid (ordered_any _ R1.2 (Nat.le_refl _) HL5.out ad3 cap3 _ o1 o2 o3)
  clear hr ho hB3 HR2 HL5 o1 o2 o3
  go_wp2_with fail
  refine HO.out.mono ?_
  rintro e w4 ⟨ad4,cap4,rfl,hb4,l4,n4,r4⟩
  have hB4:=HB3.out.below hb4
  have HB4:=Lib.hid hB4
  have Hb04:=Lib.hid (Hb03.out.trans (hb4.mono Hb03.out.size))
  have R4:=Lib.hid r4
  obtain ⟨q0,q1,z0,z1⟩:=hB4.q
  clear HO HB3 Hb03 hb4 hB4 r4
  go_wp2_with fail
  refine leaves_cons (f:=105) (args:=#[.pointer (some ⟨w.heap.size+1+1+1,0,none⟩),.pointer (some ⟨w.heap.size+1+1,0,none⟩)]) (by simp) (by simp [go_sem]) ?_
  refine (caught_idle _ _ _).mono ?_
  rintro e u' w'' ⟨rfl,rfl,rfl⟩
  have r4:=rd_set1 (rd_set1 R4.out HB4.out.l (.slice ad4 R1.2.length cap4)) (HB4.out.r.far (show w.heap.size+3 ≠ w.heap.size+2 by omega) _) (.int .i64 0)
  replace r4:Rd Fl.cells 5 ((w4.setCell ⟨w.heap.size+1+1,0,none⟩ (.slice ad4 R1.2.length cap4)).setCell ⟨w.heap.size+1+1+1,0,none⟩ (.int .i64 0)) ad4 (srtFl R1.2):=r4
  obtain ⟨W3,e3,hbs,r0,r1⟩:=HB4.out.set2 Hb04.out (.slice ad4 R1.2.length cap4) 0
  rw [e3] at r4 ⊢
  simp [Leaves,settle,results,Tryz.results71,go_sem,r0,r1]
  rw [HR3.out]
  exact ⟨_,_,by rw [srtFl_len],hbs,by rw [srtFl_len];exact l4,n4,r4⟩
 ·have HR3:Hid (R0=(R1.1,[])):=Lib.hid (by rw [HR2.out,andR,if_pos hr])
  obtain ⟨q0,q1,z0,z1⟩:=hB3.q
  have Q:=Lib.hid (caught_panicking (w.heap.size+1+1+1) (w.heap.size+1+1) 0 R1.1 (.slice none 0 0) [] w3 q1 z1 q0 z0 (by omega) hB3.r.lt hB3.l.lt)
  clear hr hB3 HR2 HL5
  go_wp2_with fail
  refine leaves_cons (f:=105) (args:=#[.pointer (some ⟨w.heap.size+1+1+1,0,none⟩),.pointer (some ⟨w.heap.size+1+1,0,none⟩)]) (by simp) (by simp [go_sem]) ?_
  refine Q.out.mono ?_
  rintro e u' w'' ⟨rfl,rfl,rfl⟩
  obtain ⟨hbs,hst⟩:=HB3.out.store2 (Nat.le_refl _) Hb03.out (.slice none 0 0) R1.1
  have r0:=hst.q.1
  have r1:=hst.q.2.1
  replace hbs:Below w.heap.size w (((w3.setCell ⟨w.heap.size+1+1+1,0,none⟩ (.int .i64 R1.1)).setCell ⟨w.heap.size+1+1,0,none⟩ (.slice none 0 0)).alloc (.cells #[.int .i64 R1.1] 190)):=hbs
  change World.cell? (((w3.setCell ⟨w.heap.size+1+1+1,0,none⟩ (.int .i64 R1.1)).setCell ⟨w.heap.size+1+1,0,none⟩ (.slice none 0 0)).alloc (.cells #[.int .i64 R1.1] 190)) _=_ at r0 r1
  generalize (((w3.setCell ⟨w.heap.size+1+1+1,0,none⟩ (.int .i64 R1.1)).setCell ⟨w.heap.size+1+1,0,none⟩ (.slice none 0 0)).alloc (.cells #[.int .i64 R1.1] 190))=W3 at r0 r1 hbs ⊢
  simp [Leaves,settle,results,Tryz.results71,go_sem,r0,r1]
  rw [HR3.out]
  exact bfp_nil _ hbs
end Go.Proofs.YthdeijdimfjceaaGreatDoor

namespace Go.Proofs.YthdeijdimfjceaaGreatDoor
open Go.ChangeShapes Go.WideShapes Go.ChangeAt Go.RowKit Go.Joins Go.Deep
theorem own10:ownKnob Tryz.prog.godebug=none:=by kernel_rfl
theorem laidOut10:laidOutB Tryz.prog=true:=by kernel_rfl
theorem env_open:∃ f0 f1:Field,Tryz.prog.underlying 32=some (.struct #[f0,f1])∧oneCellFields Tryz.prog #[f0,f1]=true∧f0.type=29∧f1.type=30 :=
 ⟨_,_,Tryz.underlying32,by kernel_rfl,rfl,rfl⟩
theorem env_cells:Tryz.prog.cellsOf 32=2:=by kernel_rfl
theorem fx_cells:Tryz.prog.cellsOf 37=3:=by kernel_rfl
theorem ch_cells:Tryz.prog.cellsOf 80=4:=by kernel_rfl
end Go.Proofs.YthdeijdimfjceaaGreatDoor

namespace Go.Proofs.YthdeijdimfjceaaGreatDoor
open Go.RowKit
def CountPost (M:Nat) (w:World) (e:Ending) (w':World):Prop:=(∃ (n:Nat) (b:Bool),e = .returned (.tuple #[.int .i64 (n:Int),.bool b])∧n≤M)∧Below w.heap.size w w'
theorem CountPost.mk {M:Nat} {w:World} {e:Ending} {w':World} (n:Nat) (b:Bool) (h:e = .returned (.tuple #[.int .i64 (n:Int),.bool b])) (hn:n≤M) (hb:Below w.heap.size w w'):CountPost M w e w':=⟨⟨n,b,h,hn⟩,hb⟩
def BoolPost (w:World) (e:Ending) (w':World):Prop:=(∃ b:Bool,e = .returned (.bool b))∧Below w.heap.size w w'
theorem BoolPost.mk {w:World} {e:Ending} {w':World} (b:Bool) (h:e = .returned (.bool b)) (hb:Below w.heap.size w w'):BoolPost w e w':=⟨⟨b,h⟩,hb⟩
def NatPost (M:Nat) (w:World) (e:Ending) (w':World):Prop:=(∃ n:Nat,e = .returned (.int .i64 (n:Int))∧n≤M)∧Below w.heap.size w w'
theorem NatPost.mk {M:Nat} {w:World} {e:Ending} {w':World} (n:Nat) (h:e = .returned (.int .i64 (n:Int))) (hn:n≤M) (hb:Below w.heap.size w w'):NatPost M w e w':=⟨⟨n,h,hn⟩,hb⟩
end Go.Proofs.YthdeijdimfjceaaGreatDoor

namespace Go.Proofs.YthdeijdimfjceaaGreatDoor
open Go.RowKit
def fxSum:List Fx→Nat
 | [] => 0
 | f :: l => f.nm.size+f.vl.size+fxSum l
def chSum:List Ch→Nat
 | [] => 0
 | f :: l => f.pt.size+f.nm.size+chSum l
theorem fxSum_append (l m:List Fx):fxSum (l ++ m)=fxSum l+fxSum m:=by
 induction l with
 | nil => simp [fxSum]
 | cons a l ih => simp [fxSum,ih];omega
theorem chSum_append (l m:List Ch):chSum (l ++ m)=chSum l+chSum m:=by
 induction l with
 | nil => simp [chSum]
 | cons a l ih => simp [chSum,ih];omega
theorem fxSum_snoc {l:List Fx} {k:Nat} {f:Fx} (h:l[k]? = some f):fxSum (l.take (k+1))=fxSum (l.take k)+(f.nm.size+f.vl.size):=by
 rw [List.take_add_one,h,fxSum_append];simp [fxSum]
theorem chSum_snoc {l:List Ch} {k:Nat} {f:Ch} (h:l[k]? = some f):chSum (l.take (k+1))=chSum (l.take k)+(f.pt.size+f.nm.size):=by
 rw [List.take_add_one,h,chSum_append];simp [chSum]
def greatB (fs:List Fx) (cs:List Ch):Bool:=decide (1100 < fs.length∨1100 < cs.length∨20000 < fxSum fs+chSum cs)
set_option maxHeartbeats 4000000 in
set_option maxRecDepth 100000 in
theorem great_loop (fs:List Fx) (cs:List Ch) (af ac:Option Addr) (cf cc:Nat) (w:World) (_hn:fs.length≤1100000) (_hm:cs.length≤1100000)
  (hf:Rd Fx.cells 3 w af fs) (hc:Rd Ch.cells 4 w ac cs) (hfs:∀ f ∈ fs,f.small) (hcs:∀ c ∈ cs,c.small) (h1 : ¬ 1100 < fs.length) (h2 : ¬ 1100 < cs.length) :
  Calls Tryz.prog 19 #[.agg #[.slice af fs.length cf,.slice ac cs.length cc]] w fun e w' => e = .returned (.bool (greatB fs cs))∧Below w.heap.size w w':=by
 have hbw:=fun a => below_a1 w a
 have t1:decide ((1100:Int) < (fs.length:Int))=false:=by rw [decide_eq_false_iff_not];omega
 have t2:decide ((1100:Int) < (cs.length:Int))=false:=by rw [decide_eq_false_iff_not];omega
 have HL:Hid (fs.length≤1100∧cs.length≤1100):=⟨by omega,by omega⟩
 have h1':fs.length≤1100:=by omega
 have h2':cs.length≤1100:=by omega
 have Rfs:=Lib.hid hf
 have Rcs:=Lib.hid hc
 have Hfs:=Lib.hid hfs
 have Hcs:=Lib.hid hcs
 clear hf hc hfs hcs h1 h2
 go_enter Tryz.func19,Tryz.ntmps19
 go_upto_block 0 with fail
 clear t1 t2
 go_cut [3,4] from 16 to 39 (fun s _ wc => ∃ S0:Nat,s = .int .i64 S0∧Hid (S0=fxSum fs)∧S0≤2420000000∧Below w.heap.size w wc∧(wc.cell? ⟨w.heap.size,0,none⟩=some (.slice af fs.length cf)∧wc.cell? ⟨w.heap.size,1,none⟩=some (.slice ac cs.length cc)))
 case first =>
  go_wp2_with fail
  go_loopw [3,4] (fun s i wr => ∃ (k S:Nat),k≤fs.length∧i = .int .i64 k∧s = .int .i64 S∧Hid (S=fxSum (fs.take k))∧S≤k * 2200000∧Below w.heap.size w wr∧(wr.cell? ⟨w.heap.size,0,none⟩=some (.slice af fs.length cf)∧wr.cell? ⟨w.heap.size,1,none⟩=some (.slice ac cs.length cc))) (fun _ i _ => fs.length - (intOf i).toNat)
  case atStart => exact ⟨0,0,Nat.zero_le _,rfl,rfl,Lib.hid rfl,by omega,hbw _,by go_simp,by go_simp⟩
  case round =>
   obtain ⟨k,S,hk,rfl,rfl,HS,hSk,hbel,b0,b1⟩:=hrel
   by_cases hlt:k < fs.length
   ·obtain ⟨f,hf⟩:∃ f,fs[k]? = some f:=⟨_,List.getElem?_eq_getElem hlt⟩
    have HRf:=((Rfs.out.below hbel).fx hf)
    have hsm:=Hfs.out f (List.mem_of_getElem? hf)
    have HT:=Lib.hid (fxSum_snoc hf)
    clear hf
    obtain ⟨b,off,rfl,hc1,hc2,hc3⟩:=HRf
    have hA:f.nm.size≤1100000:=hsm.1
    have hB:f.vl.size≤1100000:=hsm.2
    clear hsm
    have hk1:(0:Int)≤(k:Int):=by omega
    have hk2:(k:Int) < (fs.length:Int):=by omega
    have e1:IntKind.i64.wrap ((S:Int)+(f.nm.size:Int))=(S:Int)+(f.nm.size:Int):=IntWalk.i64_in _ (by omega)
    have e2:IntKind.i64.wrap ((S:Int)+(f.nm.size:Int)+(f.vl.size:Int))=(S:Int)+(f.nm.size:Int)+(f.vl.size:Int):=IntWalk.i64_in _ (by omega)
    have HS2:Hid (S+f.nm.size+f.vl.size=fxSum (fs.take (k+1))):=by show _=_;have h1:=HS.out;have h2:=HT.out;omega
    go_wp2
    go_quiet (fail)
    clear e1 e2
    go_wp2
    go_roundw
    case rel => exact ⟨k+1,S+f.nm.size+f.vl.size,by omega,by go_num,by go_num,HS2,by omega,below_drewN hbel _,by first | assumption | go_simp,by first | assumption | go_simp⟩
    case measure => simp [intOf];omega
   ·obtain rfl:k=fs.length:=by omega
    have HS2:Hid (S=fxSum fs):=by have h:=HS.out;rw [List.take_length] at h;exact h
    clear HS hlt hk
    go_wp2
    go_meet
    exact ⟨S,rfl,HS2,by omega,hbel,b0,b1⟩
 case rest =>
  obtain ⟨S0,rfl,HS0,hS0,hbel,b0,b1⟩:=hcut
  go_wp2
  go_loopw [3,5] (fun s i wr => ∃ (k S:Nat),k≤cs.length∧i = .int .i64 k∧s = .int .i64 S∧Hid (S=S0+chSum (cs.take k))∧S≤2420000000+k * 2200000∧Below w.heap.size w wr∧(wr.cell? ⟨w.heap.size,0,none⟩=some (.slice af fs.length cf)∧wr.cell? ⟨w.heap.size,1,none⟩=some (.slice ac cs.length cc))) (fun _ i _ => cs.length - (intOf i).toNat)
  case atStart => exact ⟨0,S0,Nat.zero_le _,rfl,rfl,Lib.hid rfl,by omega,hbel,b0,b1⟩
  case round =>
   clear hbel b0 b1
   obtain ⟨k,S,hk,rfl,rfl,HS,hSk,hbel,b0,b1⟩:=hrel
   by_cases hlt:k < cs.length
   ·obtain ⟨f,hf⟩:∃ f,cs[k]? = some f:=⟨_,List.getElem?_eq_getElem hlt⟩
    have HRf:=((Rcs.out.below hbel).ch hf)
    have hsm:=Hcs.out f (List.mem_of_getElem? hf)
    have HT:=Lib.hid (chSum_snoc hf)
    clear hf
    obtain ⟨b,off,rfl,hc1,hc2,hc3,hc4⟩:=HRf
    have hA:f.pt.size≤1100000:=hsm.1
    have hB:f.nm.size≤1100000:=hsm.2
    clear hsm
    have hk1:(0:Int)≤(k:Int):=by omega
    have hk2:(k:Int) < (cs.length:Int):=by omega
    have e1:IntKind.i64.wrap ((S:Int)+(f.pt.size:Int))=(S:Int)+(f.pt.size:Int):=IntWalk.i64_in _ (by omega)
    have e2:IntKind.i64.wrap ((S:Int)+(f.pt.size:Int)+(f.nm.size:Int))=(S:Int)+(f.pt.size:Int)+(f.nm.size:Int):=IntWalk.i64_in _ (by omega)
    have HS2:Hid (S+f.pt.size+f.nm.size=S0+chSum (cs.take (k+1))):=by show _=_;have h1:=HS.out;have h2:=HT.out;omega
    go_wp2
    go_quiet (fail)
    clear e1 e2
    go_wp2
    go_roundw
    case rel => exact ⟨k+1,S+f.pt.size+f.nm.size,by omega,by go_num,by go_num,HS2,by omega,below_drewN hbel _,by first | assumption | go_simp,by first | assumption | go_simp⟩
    case measure => simp [intOf];omega
   ·obtain rfl:k=cs.length:=by omega
    have HS2:Hid (S=S0+chSum cs):=by have h:=HS.out;rw [List.take_length] at h;exact h
    clear HS hlt hk
    have HR:Hid (greatB fs cs=decide ((20000:Int) < (S:Int))):=by
     show _=_
     rw [greatB,Bool.eq_iff_iff,decide_eq_true_eq,decide_eq_true_eq]
     have h1:=HS0.out
     have h2:=HS2.out
     have h3:=HL.out
     omega
    go_wp2
    go_ret
    exact ⟨ret_bool' HR.out.symm,hbel⟩
set_option maxHeartbeats 1000000 in
set_option maxRecDepth 100000 in
theorem great_any (fs:List Fx) (cs:List Ch) (af ac:Option Addr) (cf cc:Nat) (w:World) (hn:fs.length≤1100000) (hm:cs.length≤1100000)
  (hf:Rd Fx.cells 3 w af fs) (hc:Rd Ch.cells 4 w ac cs) (hfs:∀ f ∈ fs,f.small) (hcs:∀ c ∈ cs,c.small) :
  Calls Tryz.prog 19 #[.agg #[.slice af fs.length cf,.slice ac cs.length cc]] w fun e w' => e = .returned (.bool (greatB fs cs))∧Below w.heap.size w w':=by
 by_cases h1:1100 < fs.length
 ·have HR:Hid (greatB fs cs=true):=by show _=_;rw [greatB,decide_eq_true_eq];exact .inl h1
  have t1:decide ((1100:Int) < (fs.length:Int))=true:=by rw [decide_eq_true_eq];omega
  clear h1 hf hc hfs hcs
  go_enter Tryz.func19,Tryz.ntmps19
  go_wp2
  go_ret
  exact ⟨ret_bool' HR.out.symm,below_a1 _ _⟩
 ·by_cases h2:1100 < cs.length
  ·have HR:Hid (greatB fs cs=true):=by show _=_;rw [greatB,decide_eq_true_eq];exact .inr (.inl h2)
   have t1:decide ((1100:Int) < (fs.length:Int))=false:=by rw [decide_eq_false_iff_not];omega
   have t2:decide ((1100:Int) < (cs.length:Int))=true:=by rw [decide_eq_true_eq];omega
   clear h1 h2 hf hc hfs hcs
   go_enter Tryz.func19,Tryz.ntmps19
   go_wp2
   go_ret
   exact ⟨ret_bool' HR.out.symm,below_a1 _ _⟩
  ·exact great_loop fs cs af ac cf cc w hn hm hf hc hfs hcs h1 h2
end Go.Proofs.YthdeijdimfjceaaGreatDoor

namespace Go.Proofs.YthdeijdimfjceaaGreatDoor
open Go.RowKit
structure Bx2 (W:World) (B:Nat) (c:Con) (es dd ss:Value) (E:EvD):Prop where
 c:BoxN W B 51 (c.cells es dd ss)
 v:BoxN W (B+1) 32 [.slice E.af E.F.length E.cf,.slice E.ac E.C.length E.cc]
theorem bx2_world (w:World) (c:Con) (es dd ss:Value) (E:EvD):∃ W,(w.alloc (.cells #[.int .u8 c.k,.string c.fr,.string c.rc,.string c.nm,.int .u8 c.ex.k,.string c.ex.ra,.string c.ex.nm,.int .i64 c.ex.d,es,.int .i64 c.d,dd,ss] 51)).alloc (.cells #[.slice E.af E.F.length E.cf,.slice E.ac E.C.length E.cc] 32)=W∧Below w.heap.size w W∧w.heap.size+2≤W.heap.size∧Bx2 W w.heap.size c es dd ss E:=by
 refine ⟨_,rfl,below_a2 _ _ _,by simp,?_⟩
 have hc:=BoxN.new w (c.cells es dd ss) 51
 have hv:=BoxN.new (w.alloc (.cells (c.cells es dd ss).toArray 51)) [.slice E.af E.F.length E.cf,.slice E.ac E.C.length E.cc] 32
 simp only [World.size_alloc] at hv
 exact ⟨hc.alloc _,hv⟩
theorem Bx2.below {W W':World} {B:Nat} {c:Con} {es dd ss:Value} {E:EvD} (h:Bx2 W B c es dd ss E) (hb:Below W.heap.size W W'):Bx2 W' B c es dd ss E:=⟨h.c.below hb h.c.lt,h.v.below hb h.v.lt⟩
end Go.Proofs.YthdeijdimfjceaaGreatDoor

namespace Go.Proofs.YthdeijdimfjceaaGreatDoor
open Go.RowKit
theorem Bx2.all {W:World} {B:Nat} {c:Con} {es dd ss:Value} {E:EvD} (h:Bx2 W B c es dd ss E) :
  W.cell? ⟨B,0,none⟩=some (.int .u8 c.k)∧W.cell? ⟨B,1,none⟩=some (.string c.fr)∧W.cell? ⟨B,2,none⟩=some (.string c.rc)∧W.cell? ⟨B,3,none⟩=some (.string c.nm)∧W.cell? ⟨B,4,none⟩=some (.int .u8 c.ex.k)∧W.cell? ⟨B,5,none⟩=some (.string c.ex.ra)∧W.cell? ⟨B,6,none⟩=some (.string c.ex.nm)∧W.cell? ⟨B,7,none⟩=some (.int .i64 c.ex.d)∧W.cell? ⟨B,8,none⟩=some (es)∧W.cell? ⟨B,9,none⟩=some (.int .i64 c.d)∧W.cell? ⟨B,10,none⟩=some (dd)∧W.cell? ⟨B,11,none⟩=some (ss)∧W.cell? ⟨B+1,0,none⟩=some (.slice E.af E.F.length E.cf)∧W.cell? ⟨B+1,1,none⟩=some (.slice E.ac E.C.length E.cc) :=
 ⟨h.c.cell (j:=0) rfl,h.c.cell (j:=1) rfl,h.c.cell (j:=2) rfl,h.c.cell (j:=3) rfl,h.c.cell (j:=4) rfl,h.c.cell (j:=5) rfl,h.c.cell (j:=6) rfl,h.c.cell (j:=7) rfl,h.c.cell (j:=8) rfl,h.c.cell (j:=9) rfl,h.c.cell (j:=10) rfl,h.c.cell (j:=11) rfl,h.v.cell (j:=0) rfl,h.v.cell (j:=1) rfl⟩
end Go.Proofs.YthdeijdimfjceaaGreatDoor

namespace Go.Proofs.YthdeijdimfjceaaGreatDoor
open Go.RowKit
set_option maxHeartbeats 1000000 in
set_option maxRecDepth 100000 in
theorem mflows_any (c:Con) (es dd ss:Value) (day:Int) (E:EvD) (w:World) (h:BfH c es dd ss E w) :
  Calls Tryz.prog 37 #[c.val es dd ss,.int .i64 day,E.val] w (BfP w (befR c day 100000 E.F E.C)):=by
 obtain ⟨a1,n1,rfl⟩:=h.rd.1.len
 obtain ⟨a2,n2,rfl⟩:=h.rd.2.1.len
 obtain ⟨a3,n3,rfl⟩:=h.rd.2.2.1.len
 obtain ⟨W0,hW0,hb0,hz0,bc,bv⟩:∃ W,(w.alloc (.cells #[.int .u8 c.k,.string c.fr,.string c.rc,.string c.nm,.int .u8 c.ex.k,.string c.ex.ra,.string c.ex.nm,.int .i64 c.ex.d,.slice a1 c.ex.sub.length n1,.int .i64 c.d,.slice a2 c.ds.length n2,.slice a3 c.sub.length n3] 51)).alloc (.cells #[.slice E.af E.F.length E.cf,.slice E.ac E.C.length E.cc] 32)=W∧Below w.heap.size w W∧w.heap.size+2≤W.heap.size∧BoxN W w.heap.size 51 (c.cells (.slice a1 c.ex.sub.length n1) (.slice a2 c.ds.length n2) (.slice a3 c.sub.length n3))∧BoxN W (w.heap.size+1) 32 [.slice E.af E.F.length E.cf,.slice E.ac E.C.length E.cc]:=by
  refine ⟨_,rfl,below_a2 _ _ _,by simp,?_⟩
  have hc:=BoxN.new w (c.cells (.slice a1 c.ex.sub.length n1) (.slice a2 c.ds.length n2) (.slice a3 c.sub.length n3)) 51
  have hv:=BoxN.new (w.alloc (.cells (c.cells (.slice a1 c.ex.sub.length n1) (.slice a2 c.ds.length n2) (.slice a3 c.sub.length n3)).toArray 51)) [.slice E.af E.F.length E.cf,.slice E.ac E.C.length E.cc] 32
  simp only [World.size_alloc] at hv
  exact ⟨hc.alloc _,hv⟩
 have HC:Hid (Calls Tryz.prog 71 #[.agg #[.int .u8 c.k,.string c.fr,.string c.rc,.string c.nm,.int .u8 c.ex.k,.string c.ex.ra,.string c.ex.nm,.int .i64 c.ex.d,.slice a1 c.ex.sub.length n1,.int .i64 c.d,.slice a2 c.ds.length n2,.slice a3 c.sub.length n3],.int .i64 day,.int .i64 100000,.agg #[.slice E.af E.F.length E.cf,.slice E.ac E.C.length E.cc]] W0 (BfP W0 (befR c day 100000 E.F E.C))):=before_any c _ _ _ day 100000 E W0 (h.frame hb0)
 have Hb0:=Lib.hid hb0
 have c0:W0.cell? ⟨w.heap.size,0,none⟩=some (.int .u8 c.k):=bc.cell (j:=0) rfl
 have c1:W0.cell? ⟨w.heap.size,1,none⟩=some (.string c.fr):=bc.cell (j:=1) rfl
 have c2:W0.cell? ⟨w.heap.size,2,none⟩=some (.string c.rc):=bc.cell (j:=2) rfl
 have c3:W0.cell? ⟨w.heap.size,3,none⟩=some (.string c.nm):=bc.cell (j:=3) rfl
 have c4:W0.cell? ⟨w.heap.size,4,none⟩=some (.int .u8 c.ex.k):=bc.cell (j:=4) rfl
 have c5:W0.cell? ⟨w.heap.size,5,none⟩=some (.string c.ex.ra):=bc.cell (j:=5) rfl
 have c6:W0.cell? ⟨w.heap.size,6,none⟩=some (.string c.ex.nm):=bc.cell (j:=6) rfl
 have c7:W0.cell? ⟨w.heap.size,7,none⟩=some (.int .i64 c.ex.d):=bc.cell (j:=7) rfl
 have c8:W0.cell? ⟨w.heap.size,8,none⟩=some (.slice a1 c.ex.sub.length n1):=bc.cell (j:=8) rfl
 have c9:W0.cell? ⟨w.heap.size,9,none⟩=some (.int .i64 c.d):=bc.cell (j:=9) rfl
 have c10:W0.cell? ⟨w.heap.size,10,none⟩=some (.slice a2 c.ds.length n2):=bc.cell (j:=10) rfl
 have c11:W0.cell? ⟨w.heap.size,11,none⟩=some (.slice a3 c.sub.length n3):=bc.cell (j:=11) rfl
 have v0:W0.cell? ⟨w.heap.size+1,0,none⟩=some (.slice E.af E.F.length E.cf):=bv.cell (j:=0) rfl
 have v1:W0.cell? ⟨w.heap.size+1,1,none⟩=some (.slice E.ac E.C.length E.cc):=bv.cell (j:=1) rfl
 show Calls _ _ #[.agg #[.int .u8 c.k,.string c.fr,.string c.rc,.string c.nm,.int .u8 c.ex.k,.string c.ex.ra,.string c.ex.nm,.int .i64 c.ex.d,.slice a1 c.ex.sub.length n1,.int .i64 c.d,.slice a2 c.ds.length n2,.slice a3 c.sub.length n3],.int .i64 day,.agg #[.slice E.af E.F.length E.cf,.slice E.ac E.C.length E.cc]] _ _
 generalize befR c day 100000 E.F E.C=R at HC ⊢
 clear h bc bv hb0
 show Calls _ _ _ _ (fun e w' => ∃ ad cap,e = .returned (.tuple #[.slice ad R.2.length cap,.int .i64 R.1])∧Below w.heap.size w w'∧R.2.length≤cap∧(ad=none→cap=0)∧Rd Fl.cells 5 w' ad R.2)
 go_enter Tryz.func37,Tryz.ntmps37
 go_upto_region 1 with (fail)
 clear hW0
 go_wp2_with (go_at_call 71;refine HC.out.mono ?_;rintro e w1 ⟨ad,cap,rfl,hb1,q⟩)
 go_ret2
 exact ⟨_,_,rfl,Hb0.out.trans (hb1.mono Hb0.out.size),q⟩
end Go.Proofs.YthdeijdimfjceaaGreatDoor
