/- A part. -/
import Derived.Test.YtknpnhodpgajbaaGreatDoorG19
import Derived.Test.YtknpnhodpgajbaaGreatDoorG20
import Derived.Test.YtknpnhodpgajbaaGreatDoorG18
import Derived.Deep.DeepHandedRow
import Derived.Deep.DeepWitnessRowRef
import Derived.Laws.OwnMore
import Derived.Deep.RegionLaw
set_option maxHeartbeats 8000000
set_option maxRecDepth 100000
namespace Go.Proofs.YtknpnhodpgajbaaGreatDoor
open Go.RowKit
theorem Zqt {c:Con} (h:Zgd c.k=none):Zbt c=false:=by
 unfold Zgd at h;repeat' split at h
 all_goals first
  | (cases h;done)
  | skip
 unfold Zbt;simp [*]
theorem Zqu {c:Con}:∀ {m:Nat},Zgd c.k=some m →
  (m=0∧Zbt c=Zfz false false false false false false false 0 c)∨(m=15∧Zbt c=Zfz true true true true false false false 0 c)∨(m=256∧Zbt c=Zfz false false false false false false false 2 c) ∨
  (m=136∧Zbt c=Zfz false false false true false false false 1 c)∨(m=272∧Zbt c=Zfz false false false false true false false 2 c)∨(m=160∧Zbt c=Zfz false false false false false true false 1 c) ∨
  (m=261∧Zbt c=Zfz true false true false false false false 2 c)∨(m=197∧Zbt c=Zfz true false true false false false true 1 c)∨(m=208∧Zbt c=Zfz false false false false true false true 1 c):=by
 intro m h;unfold Zgd at h;repeat' split at h
 all_goals first
  | (cases h;done)
  | (rename_i hk
     cases h
     simp only [Nat.reduceEqDiff,false_and,true_and,false_or,or_false];unfold Zbt Zfz Ze9;first
      | (rw [hk]
         simp (decide:=true) only [if_true,if_false,Bool.false_and,Bool.not_false,Bool.true_and]
         ac_rfl)
      | (rcases hk with hk | hk <;> rw [hk] <;> simp (decide:=true) only [if_true,if_false,Bool.false_and,Bool.not_false,Bool.true_and] <;> ac_rfl))
theorem Zzi (c:Con) (es dd ss:Value) (w:World) (hB:c.bulk≤2000000) (hr:RdN w c es dd ss) (hS:Ze6 w) (hP:Znu w) :
  Calls Tryz.prog 56 #[c.val es dd ss] w fun e w'=>e = .returned (.bool (Zbt c))∧Below w.heap.size w w':=by
 obtain ⟨ad,cap,rfl⟩:=hr.2.2.1.len;obtain ⟨ad1,cap1,rfl⟩:=hr.1.len;obtain ⟨ad2,cap2,rfl⟩:=hr.2.1.len;obtain ⟨bm,hm,hlk⟩:=hP;have hk8:=hr.2.2.2.1
 cases hp:Zgd c.k with
 | none =>
  have HF:Hid (Zbt c=false):=Zqt hp;have hmb:0 < w.heap.size:=World.block_lt_of_cell? w _ hm;have hlk1:=hlk _ (Zac w (.cells #[.int .u8 c.k,.string c.fr,.string c.rc,.string c.nm,.int .u8 c.ex.k,.string c.ex.ra,.string c.ex.nm,.int .i64 c.ex.d,.slice ad1 c.ex.sub.length cap1,.int .i64 c.d,.slice ad2 c.ds.length cap2,.slice ad c.sub.length cap] 29)) c.k hk8;have hbW:=Zaz w (.cells #[.int .u8 c.k,.string c.fr,.string c.rc,.string c.nm,.int .u8 c.ex.k,.string c.ex.ra,.string c.ex.nm,.int .i64 c.ex.d,.slice ad1 c.ex.sub.length cap1,.int .i64 c.d,.slice ad2 c.ds.length cap2,.slice ad c.sub.length cap] 29) (.cells #[.int .i64 0] 3)
  rw [hp] at hlk1;unfold Z0h at hlk1;clear hlk hr hp;unfold Con.val;go_enter Tryz.func56,Tryz.ntmps56
  go_wp2_with fail;go_ret;exact ⟨Zaf HF.out.symm,hbW⟩
 | some m =>
  have hlk2:∀ W,Below w.heap.size w W→(Instr.lookup 152 (.map (some bm)) (.int .u8 (c.k:Int)) true).run Tryz.prog W = .ok (.tuple #[.int .i64 (m:Int),.bool true]) W:=fun W hb=>by
   have h:=hlk W hb c.k hk8;rw [hp] at h;exact h
  rcases Zqu hp with ⟨rfl,e⟩ | ⟨rfl,e⟩ | ⟨rfl,e⟩ | ⟨rfl,e⟩ | ⟨rfl,e⟩ | ⟨rfl,e⟩ | ⟨rfl,e⟩ | ⟨rfl,e⟩ | ⟨rfl,e⟩ <;> rw [e]
  all_goals first
   | exact Zkp (b128:=false) (b256:=false) c w _ (by decide) (by decide) (by decide) (by decide) (by decide) (by decide) (by decide) (by decide) (by decide) bm ad ad1 ad2 cap cap1 cap2 hB hm hr (Lh hS) (by decide) hlk2
   | exact Zkp (b128:=true) (b256:=false) c w _ (by decide) (by decide) (by decide) (by decide) (by decide) (by decide) (by decide) (by decide) (by decide) bm ad ad1 ad2 cap cap1 cap2 hB hm hr (Lh hS) (by decide) hlk2
   | exact Zkp (b128:=false) (b256:=true) c w _ (by decide) (by decide) (by decide) (by decide) (by decide) (by decide) (by decide) (by decide) (by decide) bm ad ad1 ad2 cap cap1 cap2 hB hm hr (Lh hS) (by decide) hlk2
   | exact Zl8 (b128:=true) (b256:=false) c w _ (by decide) (by decide) (by decide) (by decide) (by decide) (by decide) (by decide) (by decide) (by decide) bm ad ad1 ad2 cap cap1 cap2 hB hm hr (Lh hS) (by decide) hlk2
   | exact Zl8 (b128:=false) (b256:=true) c w _ (by decide) (by decide) (by decide) (by decide) (by decide) (by decide) (by decide) (by decide) (by decide) bm ad ad1 ad2 cap cap1 cap2 hB hm hr (Lh hS) (by decide) hlk2
end Go.Proofs.YtknpnhodpgajbaaGreatDoor
namespace Go.Proofs.YtknpnhodpgajbaaGreatDoor
open Go.RowKit Go.Shelf
attribute [local go_sem] Oper.semAt_some
mutual
theorem Con.formed_nodes:∀ c:Con,c.formed=c.nodes.all Zbt
 | .mk k f t n x d dd l=>by rw [Con.formed,Con.nodes,List.all_cons,Con.formeds_nodes l]
theorem Con.formeds_nodes:∀ l:List Con,Con.formeds l=(Con.nodess l).all Zbt
 | []=>by rw [Con.formeds,Con.nodess];rfl
 | x :: l=>by rw [Con.formeds,Con.nodess,List.all_append,Con.formed_nodes x,Con.formeds_nodes l]
end
theorem Con.err_many {c:Con} (h:500 < c.size∨60 < c.depth):c.err=4:=by unfold Con.err;rw [if_pos h]
theorem Con.err_ok {c:Con} (h : ¬ (500 < c.size∨60 < c.depth)) (h2:∀ x ∈ c.nodes,Zbt x=true):c.err=0:=by
 unfold Con.err;rw [if_neg h,if_pos (by rw [Con.formed_nodes];exact List.all_eq_true.2 h2)]
theorem Con.err_bad {c:Con} (h : ¬ (500 < c.size∨60 < c.depth)) {x:Con} (hx:x ∈ c.nodes) (h2:Zbt x=false):c.err=8:=by
 unfold Con.err;rw [if_neg h,if_neg (fun hf=>by rw [Con.formed_nodes,List.all_eq_true] at hf;have:=hf x hx;rw [h2] at this;cases this)]
theorem Zym (c:Con) (es dd ss:Value) (w:World) (hB:c.bulk≤2000000) (hr:RdN w c es dd ss) (hS:Ze6 w) (hP:Znu w) :
  Calls Tryz.prog 20 #[c.val es dd ss] w fun e w'=>e = .returned (.int .i64 c.err)∧Below w.heap.size w w':=by
 obtain ⟨ad,cap,rfl⟩:=hr.2.2.1.len;obtain ⟨ad1,cap1,rfl⟩:=hr.1.len;obtain ⟨ad2,cap2,rfl⟩:=hr.2.1.len;have HNo:=Lh (fun W=>Zlt c (.slice ad1 c.ex.sub.length cap1) (.slice ad2 c.ds.length cap2) (.slice ad c.sub.length cap) W);have HSi:=Lh (fun W (hb:Below w.heap.size w W)=>Zvp c _ _ _ W hB (hr.frame hb));have HDe:=Lh (fun W (hb:Below w.heap.size w W)=>Zs7 c.bulk c _ _ _ W (Nat.le_refl _) hB (hr.frame hb))
 have HLk:=Lh (And.intro hS hP);have hb0:=Zaz w (.cells #[.int .u8 c.k,.string c.fr,.string c.rc,.string c.nm,.int .u8 c.ex.k,.string c.ex.ra,.string c.ex.nm,.int .i64 c.ex.d,.slice ad1 c.ex.sub.length cap1,.int .i64 c.d,.slice ad2 c.ds.length cap2,.slice ad c.sub.length cap] 29) (.cells #[.int .i64 0] 38);have bC:=(CBox.new w c (.slice ad1 c.ex.sub.length cap1) (.slice ad2 c.ds.length cap2) (.slice ad c.sub.length cap) 29).low (Zac _ (.cells #[.int .i64 0] 38))
 have bR:=Boxed.new (w.alloc (.cells #[.int .u8 c.k,.string c.fr,.string c.rc,.string c.nm,.int .u8 c.ex.k,.string c.ex.ra,.string c.ex.nm,.int .i64 c.ex.d,.slice ad1 c.ex.sub.length cap1,.int .i64 c.d,.slice ad2 c.ds.length cap2,.slice ad c.sub.length cap] 29)) 38 (.int .i64 0);simp only [World.size_alloc] at bR;have hsz:((w.alloc (.cells #[.int .u8 c.k,.string c.fr,.string c.rc,.string c.nm,.int .u8 c.ex.k,.string c.ex.ra,.string c.ex.nm,.int .i64 c.ex.d,.slice ad1 c.ex.sub.length cap1,.int .i64 c.d,.slice ad2 c.ds.length cap2,.slice ad c.sub.length cap] 29)).alloc (.cells #[.int .i64 0] 38)).heap.size=w.heap.size+2:=by simp
 have hszb:=c.size_le;have hdzb:=c.depth_le;clear hS hP;refine (callsIn_wide (n:=10)).1 ?_;unfold Con.val at HNo HSi HDe ⊢;refine callsIn_of_wp_marks Tryz.func20 rfl trivial ?_ rfl;simp only [Tryz.ntmps20,List.size_toArray,List.length_cons,List.length_nil,Nat.reduceAdd,Nat.reduceSub,Array.replicate_succ,Array.replicate_zero,List.push_toArray,List.append_toArray,List.nil_append,List.cons_append];by_cases h5:500 < c.size
 ·have HF:Hid (c.err=4):=Con.err_many (.inl h5);have t1:(500:Int) < (c.size:Int):=by omega
  gi_wp2_with (refine ⟨trivial,?_⟩;gi_at_call 53;refine (callsIn_wide.2 (HSi.out _ hb0)).mono ?_;rintro e w1 ⟨rfl,hb1⟩;have hz1:=hb1.size;(simp only [World.size_alloc] at hz1);have bR1:Boxed w1 (w.heap.size+1) 38 (.int .i64 0):=(hb1.block _ bR.lt).trans bR;have hc1:=bR1.cell;have hf1:=bR1.frozen)
  refine ⟨trivial,?_⟩;have hb2:=hb0.trans (hb1.mono (by rw [hsz];omega));have hb3:=hb2.setCell (p:=⟨w.heap.size+1,0,none⟩) (by simp) (.int .i64 4);have hc4:=(bR1.set (.int .i64 4)).cell;clear hb0 hb1 hb2;gi_wp2
  refine ⟨.int .i64 4,?_,by rw [HF.out],hb3⟩;simp [results,Tryz.f20,go_sem,hc4]
 ·have t1:decide ((500:Int) < (c.size:Int))=false:=by rw [decide_eq_false_iff_not];omega
  have t1b:decide (500 < c.size)=false:=by rw [decide_eq_false_iff_not];omega
  by_cases h6:60 < c.depth
  ·have HF:Hid (c.err=4):=Con.err_many (.inr h6);have t2:(60:Int) < (c.depth:Int):=by omega
   gi_wp2_with (first
    | (refine ⟨trivial,?_⟩;gi_at_call 53;refine (callsIn_wide.2 (HSi.out _ hb0)).mono ?_;rintro e w1 ⟨rfl,hb1⟩;have hz1:=hb1.size;(simp only [World.size_alloc] at hz1);have hb2:=hb0.trans (hb1.mono (by rw [hsz];omega));obtain ⟨c0,c1,c2,c3,c4,c5,c6,c7,c8,c9,c10,c11⟩:=bC.low hb1)
    | (refine ⟨trivial,?_⟩;gi_at_call 54;refine (callsIn_wide.2 (HDe.out _ hb2)).mono ?_;rintro e w2 ⟨rfl,hb3⟩;have hz2:=hb3.size;have bR2:Boxed w2 (w.heap.size+1) 38 (.int .i64 0):=(hb3.block _ (by omega)).trans ((hb1.block _ bR.lt).trans bR);have hc2:=bR2.cell;have hf2:=bR2.frozen))
   have hb4:=hb2.trans (hb3.mono (by omega));have hb5:=hb4.setCell (p:=⟨w.heap.size+1,0,none⟩) (by simp) (.int .i64 4);have hc4:=(bR2.set (.int .i64 4)).cell;clear hb0 hb1 hb2 hb3 hb4;gi_wp2
   refine ⟨.int .i64 4,?_,by rw [HF.out],hb5⟩;simp [results,Tryz.f20,go_sem,hc4]
  ·have t2:decide ((60:Int) < (c.depth:Int))=false:=by rw [decide_eq_false_iff_not];omega
   have t2b:decide (60 < c.depth)=false:=by rw [decide_eq_false_iff_not];omega
   gi_wp2_with (first
    | (refine ⟨trivial,?_⟩;gi_at_call 53;refine (callsIn_wide.2 (HSi.out _ hb0)).mono ?_;rintro e w1 ⟨rfl,hb1⟩;have hz1:=hb1.size;(simp only [World.size_alloc] at hz1);have hb2:=hb0.trans (hb1.mono (by rw [hsz];omega));obtain ⟨c0,c1,c2,c3,c4,c5,c6,c7,c8,c9,c10,c11⟩:=bC.low hb1)
    | (refine ⟨trivial,?_⟩;gi_at_call 54;refine (callsIn_wide.2 (HDe.out _ hb2)).mono ?_;rintro e w2 ⟨rfl,hb3⟩;have hz2:=hb3.size;have bR2:Boxed w2 (w.heap.size+1) 38 (.int .i64 0):=(hb3.block _ (by omega)).trans ((hb1.block _ bR.lt).trans bR);have hb4:=hb2.trans (hb3.mono (by omega));obtain ⟨d0,d1,d2,d3,d4,d5,d6,d7,d8,d9,d10,d11⟩:=(bC.low hb1).low hb3)
    | (refine ⟨trivial,?_⟩;gi_at_call 55;refine (callsIn_wide.2 (HNo.out _)).mono ?_;rintro e w3 ⟨rfl,rfl⟩))
   have bC0:=CBox.new w2 c (.slice ad1 c.ex.sub.length cap1) (.slice ad2 c.ds.length cap2) (.slice ad c.sub.length cap) 29;have bR0:=bR2.alloc (.cells #[.int .u8 c.k,.string c.fr,.string c.rc,.string c.nm,.int .u8 c.ex.k,.string c.ex.ra,.string c.ex.nm,.int .i64 c.ex.d,.slice ad1 c.ex.sub.length cap1,.int .i64 c.d,.slice ad2 c.ds.length cap2,.slice ad c.sub.length cap] 29);have hbW:=hb4.alloc hb4.size (.cells #[.int .u8 c.k,.string c.fr,.string c.rc,.string c.nm,.int .u8 c.ex.k,.string c.ex.ra,.string c.ex.nm,.int .i64 c.ex.d,.slice ad1 c.ex.sub.length cap1,.int .i64 c.d,.slice ad2 c.ds.length cap2,.slice ad c.sub.length cap] 29)
   have hsz0:w.heap.size+2≤(w2.alloc (.cells #[.int .u8 c.k,.string c.fr,.string c.rc,.string c.nm,.int .u8 c.ex.k,.string c.ex.ra,.string c.ex.nm,.int .i64 c.ex.d,.slice ad1 c.ex.sub.length cap1,.int .i64 c.d,.slice ad2 c.ds.length cap2,.slice ad c.sub.length cap] 29)).heap.size:=by simp;omega
   obtain ⟨W0,hW0⟩:∃ W0,w2.alloc (.cells #[.int .u8 c.k,.string c.fr,.string c.rc,.string c.nm,.int .u8 c.ex.k,.string c.ex.ra,.string c.ex.nm,.int .i64 c.ex.d,.slice ad1 c.ex.sub.length cap1,.int .i64 c.d,.slice ad2 c.ds.length cap2,.slice ad c.sub.length cap] 29)=W0:=⟨_,rfl⟩
   rw [hW0] at bC0 bR0 hbW hsz0 ⊢;have hE : ¬ (500 < c.size∨60 < c.depth):=by omega
   have HOk:=Lh (fun h2=>Con.err_ok (c:=c) hE h2);have HBad:=Lh (fun x hx h2=>Con.err_bad (c:=c) hE (x:=x) hx h2);have hw2:w2.heap.size < W0.heap.size:=by rw [← hW0];simp
   clear hW0 HNo HSi HDe hb0 bC bR hb1 hz1 hb2 hb3 hz2 bR2 hb4 d0 d1 d2 d3 d4 d5 d6 d7 d8 d9 d10 d11 c0 c1 c2 c3 c4 c5 c6 c7 c8 c9 c10 c11 hsz t1 t1b t2 t2b hE;refine wpIn_rangeFunc_ownH rfl (by decide) (gf:=110) (lb:=#[.pointer (some ⟨w2.heap.size,0,none⟩)]) rfl trivial (enters_of Tryz.func110 (by kernel_rfl) rfl)
    (Zi2 w Fence.wide rfl trivial trivial rfl 9 c _ _ _ W0 hB hr hbW _ bC0) (fun h k=>h.trans k) (fun W l o o' hl h hc _=>Kept.putObj W l o o' (by omega) h hc) (Below.refl _ _) (fun _=>rfl)
    (fun pre W=>(Boxed W (w.heap.size+1) 38 (.int .i64 0)∧(∀ x ∈ pre.map NdW.con,Zbt x=true))∧(Below w.heap.size w W∧W0.heap.size≤W.heap.size))
    (fun cd pre W=>(cd = .ret∧(∃ x ∈ pre.map NdW.con,Zbt x=false)∧Boxed W (w.heap.size+1) 38 (.int .i64 8))∧(Below w.heap.size w W∧W0.heap.size≤W.heap.size))
    (OwnFrom.and (Own.from (fun s A B row hs hg hr=>⟨boxed_own (β:=Unit) _ _ (fun _=>.int .i64 0) () A B row hs.1 hg hr,hs.2⟩) _) (OwnFrom.and (ownFrom_below (Nat.le_refl _) (by omega)) (fun _ _ _ _ hs hg _=>Nat.le_trans hs hg.size)))
    (fun cd=>OwnFrom.and (Own.from (fun s A B row hs hg hr=>⟨hs.1,hs.2.1,boxed_own (β:=Unit) _ _ (fun _=>.int .i64 8) () A B row hs.2.2 hg hr⟩) _) (OwnFrom.and (ownFrom_below (Nat.le_refl _) (by omega)) (fun _ _ _ _ hs hg _=>Nat.le_trans hs hg.size)))
    ⟨⟨bR0,by simp⟩,hbW,Nat.le_refl _⟩
    (fun x a' W=>∃ Bx,W0.heap.size≤Bx∧CBox W Bx x.1.1 x.1.2.1 x.1.2.2.1 x.1.2.2.2∧a'={ tmps:=#[.agg #[.int .u8 c.k,.string c.fr,.string c.rc,.string c.nm,.int .u8 c.ex.k,.string c.ex.ra,.string c.ex.nm,.int .i64 c.ex.d,.slice ad1 c.ex.sub.length cap1,.int .i64 c.d,.slice ad2 c.ds.length cap2,.slice ad c.sub.length cap],.pointer (some ⟨w.heap.size,0,none⟩),.pointer (some ⟨w.heap.size+1,0,none⟩),.pointer (some ⟨Bx,0,none⟩),.agg #[.int .u8 c.k,.string c.fr,.string c.rc,.string c.nm,.int .u8 c.ex.k,.string c.ex.ra,.string c.ex.nm,.int .i64 c.ex.d,.slice ad1 c.ex.sub.length cap1,.int .i64 c.d,.slice ad2 c.ds.length cap2,.slice ad c.sub.length cap],.int .i64 c.size,.bool false,.bool false,.agg #[.int .u8 c.k,.string c.fr,.string c.rc,.string c.nm,.int .u8 c.ex.k,.string c.ex.ra,.string c.ex.nm,.int .i64 c.ex.d,.slice ad1 c.ex.sub.length cap1,.int .i64 c.d,.slice ad2 c.ds.length cap2,.slice ad c.sub.length cap],.int .i64 c.depth,.bool false,.bool false,.agg #[.int .u8 c.k,.string c.fr,.string c.rc,.string c.nm,.int .u8 c.ex.k,.string c.ex.ra,.string c.ex.nm,.int .i64 c.ex.d,.slice ad1 c.ex.sub.length cap1,.int .i64 c.d,.slice ad2 c.ds.length cap2,.slice ad c.sub.length cap],.func (.func 110) #[] #[.pointer (some ⟨w2.heap.size,0,none⟩)],x.1.1.val x.1.2.1 x.1.2.2.1 x.1.2.2.2,undef,undef,undef],defers:=[] })
    (fun x a' s A B row hs hg hr=>by
     obtain ⟨Bx,h1,h2,h3⟩:=hs;exact ⟨Bx,h1,Zrk (β:=Unit) Bx _ _ _ _ () A B row h2 hg (fun r e=>(hr r e).2),h3⟩)
    ?assign ?body ?done ?stop
   case assign =>
    rintro l pre ⟨⟨y,es',dd',ss'⟩,hy,hyB⟩ W K ⟨⟨hi,hall⟩,hbi,hZ0⟩ hK;have hy2:RdN w y es' dd' ss':=hy;obtain ⟨bd,bcap,rfl⟩:=hy2.2.2.1.len;obtain ⟨bd1,bcap1,rfl⟩:=hy2.1.len;obtain ⟨bd2,bcap2,rfl⟩:=hy2.2.1.len;have hz:=hbi.size;have hl:=hi.lt;have hk:=hK _ _ ((KeepsOthers.alloc W (.cells #[.int .u8 y.k,.string y.fr,.string y.rc,.string y.nm,.int .u8 y.ex.k,.string y.ex.ra,.string y.ex.nm,.int .i64 y.ex.d,.slice bd1 y.ex.sub.length bcap1,.int .i64 y.d,.slice bd2 y.ds.length bcap2,.slice bd y.sub.length bcap] 29)).from _) (Kept.alloc W hz _) ⟨⟨hi.alloc _,hall⟩,hbi.alloc hz _,Nat.le_trans hZ0 (by simp)⟩ ⟨W.heap.size,hZ0,CBox.new W y _ _ _ _,rfl⟩
    unfold NdW.enc Con.val;unfold Con.val at hk;clear hK;gi_wp2
    exact hk
   case body =>
    rintro l pre ⟨⟨y,es',dd',ss'⟩,hy,hyB⟩ a' W hl ⟨r,hlr⟩ ⟨⟨hi,hall⟩,hbi,hZ0⟩ ⟨Bx,hBx,hbox,rfl⟩ hlt;have hy2:RdN w y es' dd' ss':=hy;obtain ⟨bd,bcap,rfl⟩:=hy2.2.2.1.len;obtain ⟨bd1,bcap1,rfl⟩:=hy2.1.len;obtain ⟨bd2,bcap2,rfl⟩:=hy2.2.1.len;have hyb:y.bulk≤2000000:=hyB;have HNd:=Lh (Zzi y _ _ _ W hyb (hy2.frame hbi) (HLk.out.1.frame hbi) (HLk.out.2.frame hbi));unfold Con.val at HNd ⊢;obtain ⟨c0,c1,c2,c3,c4,c5,c6,c7,c8,c9,c10,c11⟩:=hbox
    have hall':Zbt y=true→∀ x ∈ (pre ++ [(⟨(y,.slice bd1 y.ex.sub.length bcap1,.slice bd2 y.ds.length bcap2,.slice bd y.sub.length bcap),hy,hyB⟩:NdW w)]).map NdW.con,Zbt x=true:=fun h x hx=>by
     rw [List.map_append,List.mem_append] at hx;rcases hx with hx | hx
     ·exact hall x hx
     ·obtain rfl:x=y:=by simpa [NdW.con] using hx
      exact h
    have hbad':Zbt y=false→∃ x ∈ (pre ++ [(⟨(y,.slice bd1 y.ex.sub.length bcap1,.slice bd2 y.ds.length bcap2,.slice bd y.sub.length bcap),hy,hyB⟩:NdW w)]).map NdW.con,Zbt x=false:=fun h=>⟨y,by simp [NdW.con],h⟩
    have HA:=Lh hall';have HB:=Lh hbad';clear hall hall' hbad' hyb hlr bC0 bR0
    cases hq:Zbt y with
    | true =>
     rw [hq] at HNd;have HA2:=Lh (HA.out hq);clear hq HA HB;gi_wp2_with (refine ⟨trivial,?_⟩;gi_at_call 56;refine (CallsIn.inRound l (callsIn_wide.2 HNd.out)).mono ?_;rintro e w4 ⟨rfl,hb5⟩)
     exact ⟨(KeepsOthers.of_below hb5).from _,Kept.of_below hbi.size hb5,⟨(hb5.block _ hi.lt).trans hi,HA2.out⟩,hbi.trans (hb5.mono hbi.size),Nat.le_trans hZ0 hb5.size⟩
    | false =>
     rw [hq] at HNd;have HB2:=Lh (HB.out hq);clear hq HA HB;gi_wp2_with (refine ⟨trivial,?_⟩;gi_at_call 56;refine (CallsIn.inRound l (callsIn_wide.2 HNd.out)).mono ?_;rintro e w4 ⟨rfl,hb5⟩;have hi5:Boxed w4 (w.heap.size+1) 38 (.int .i64 0):=(hb5.block _ hi.lt).trans hi;have hc5:=hi5.cell;have hf5:=hi5.frozen)
     exact ⟨((KeepsOthers.of_below hb5).trans (KeepsOthers.setCell _ _ _)).from _,⟨rfl,HB2.out,hi5.set _⟩,(hbi.trans (hb5.mono hbi.size)).setCell (p:=⟨w.heap.size+1,0,none⟩) (by simp) _,Nat.le_trans (Nat.le_trans hZ0 hb5.size) (by simp)⟩
   case done =>
    rintro D xs W hD hS ⟨⟨hi,hall⟩,hbi,hZ0⟩ hK;rw [hS] at hall;have HF:=Lh (HOk.out hall);have hf:=hi.frozen;have hlt:=hi.lt;have hc:=hi.cell;have hK2:=(KeepsOthers.setCell W ⟨w.heap.size+1,0,none⟩ (.int .i64 0)).same D _ hK rfl;have hb7:=(hbi.setCell (p:=⟨w.heap.size+1,0,none⟩) (by simp) (.int .i64 0)).trans (belowK_b (w:=w) (Nat.le_refl _) _ D (.deferred (some [])) (.deferred none) (by omega) hK2 rfl rfl)
    have hc5:=cell_kept (hi.set (.int .i64 0)).cell (grownBy_putObj' _ D (.deferred none)) (fun r e=>by cases e;exact ⟨_,hK2,rfl⟩);clear hall hi hbi;gi_wp2
    refine ⟨by simp,.inl ⟨_,_,rfl,run_takeDeferred hK2,?_⟩⟩;refine ⟨.int .i64 0,?_,by rw [HF.out],hb7⟩;simp [results,Tryz.f20,go_sem,hc5]
   case stop =>
    rintro D cd pre W hD hpre ⟨⟨rfl,⟨x,hx,hxb⟩,hi⟩,hbi,hZ0⟩ hK;have HF:=Lh (HBad.out x (hpre.subset hx) hxb);have hb7:=hbi.trans (belowK_b (w:=w) (Nat.le_refl _) W D (.deferred (some [])) (.deferred none) (by omega) hK rfl rfl);have hc5:=cell_kept hi.cell (grownBy_putObj' _ D (.deferred none)) (fun r e=>by cases e;exact ⟨_,hK,rfl⟩);clear hi hbi hx hxb;gi_wp2
    refine ⟨by simp,.inl ⟨_,_,rfl,run_takeDeferred hK,?_⟩⟩;refine ⟨.int .i64 8,?_,by rw [HF.out],hb7⟩;simp [results,Tryz.f20,go_sem,hc5]
end Go.Proofs.YtknpnhodpgajbaaGreatDoor
namespace Go.Proofs.YtknpnhodpgajbaaGreatDoor
open Go.RowKit
structure BfH (c:Con) (es dd ss:Value) (E:EvD) (w:World):Prop where
 bulk:c.bulk≤1100000
 rd:RdN w c es dd ss
 ls:Ze6 w
 lp:Znu w
 lo:Zlj w
 e:E.Rd w
 fs:∀ f ∈ E.F,f.small
 cs:∀ c ∈ E.C,c.small
theorem BfH.frame {c:Con} {es dd ss:Value} {E:EvD} {w w':World} (h:BfH c es dd ss E w) (hb:Below w.heap.size w w'):BfH c es dd ss E w' :=
 ⟨h.bulk,h.rd.frame hb,h.ls.frame hb,h.lp.frame hb,h.lo.frame hb,h.e.frame hb,h.fs,h.cs⟩
theorem Z0j {c:Con} (h:c.err=0):c.formed=true:=by
 unfold Con.err at h;split at h
 ·exact absurd h (by decide)
 ·split at h
  ·assumption
  ·exact absurd h (by decide)
theorem BfH.fl {c:Con} {es dd ss:Value} {E:EvD} {w:World} (h:BfH c es dd ss E w) (hc:c.err=0) (he:Za7 E.F E.C=0):FlH c es dd ss E w:=⟨h.bulk,h.rd,h.ls,h.lo,h.e,h.fs,h.cs,he,Z0j hc⟩
structure BfB (W:World) (B:Nat) (c:Con) (es dd ss:Value) (E:EvD) (l:Value) (er:Int):Prop where
 c:BoxN W B 29 (c.cells es dd ss)
 v:BoxN W (B+1) 33 [.slice E.af E.F.length E.cf,.slice E.ac E.C.length E.cc]
 l:BoxN W (B+2) 37 [l]
 r:BoxN W (B+3) 38 [.int .i64 er]
theorem BfB.below {W W':World} {B:Nat} {c:Con} {es dd ss:Value} {E:EvD} {l:Value} {er:Int} (h:BfB W B c es dd ss E l er) (hb:Below W.heap.size W W'):BfB W' B c es dd ss E l er :=
 ⟨h.c.below hb h.c.lt,h.v.below hb h.v.lt,h.l.below hb h.l.lt,h.r.below hb h.r.lt⟩
theorem Zyi (w:World) (c:Con) (es dd ss:Value) (E:EvD):∃ W,(((w.alloc (.cells #[.int .u8 c.k,.string c.fr,.string c.rc,.string c.nm,.int .u8 c.ex.k,.string c.ex.ra,.string c.ex.nm,.int .i64 c.ex.d,es,.int .i64 c.d,dd,ss] 29)).alloc (.cells #[.slice E.af E.F.length E.cf,.slice E.ac E.C.length E.cc] 33)).alloc (.cells #[.slice none 0 0] 37)).alloc (.cells #[.int .i64 0] 38)=W ∧
  Below w.heap.size w W∧w.heap.size+4≤W.heap.size∧BfB W w.heap.size c es dd ss E (.slice none 0 0) 0:=by
 refine ⟨_,rfl,(Zdh _ _ _ _).trans ((Zac _ _).mono (by simp;omega)),by simp,?_⟩;have hc:=((BoxN.new w (c.cells es dd ss) 29).alloc (.cells #[.slice E.af E.F.length E.cf,.slice E.ac E.C.length E.cc] 33)).alloc (.cells #[.slice none 0 0] 37);have hd:=(BoxN.new (w.alloc (.cells (c.cells es dd ss).toArray 29)) [.slice E.af E.F.length E.cf,.slice E.ac E.C.length E.cc] 33).alloc (.cells #[.slice none 0 0] 37)
 have hf:=BoxN.new ((w.alloc (.cells (c.cells es dd ss).toArray 29)).alloc (.cells #[.slice E.af E.F.length E.cf,.slice E.ac E.C.length E.cc] 33)) [.slice none 0 0] 37;have hv:=BoxN.new (((w.alloc (.cells (c.cells es dd ss).toArray 29)).alloc (.cells #[.slice E.af E.F.length E.cf,.slice E.ac E.C.length E.cc] 33)).alloc (.cells #[.slice none 0 0] 37)) [.int .i64 0] 38;simp only [World.size_alloc] at hd hf hv
 exact ⟨hc.alloc _,hd.alloc _,hf.alloc _,hv⟩
def BfP (w:World) (R:Int × List Fl) (e:Ending) (w':World):Prop :=
 ∃ ad cap,e = .returned (.tuple #[.slice ad R.2.length cap,.int .i64 R.1])∧Below w.heap.size w w'∧R.2.length≤cap∧(ad=none→cap=0)∧Rd Fl.cells 5 w' ad R.2
theorem BfB.store {w W:World} {B:Nat} {c:Con} {es dd ss:Value} {E:EvD} {l:Value} {er:Int} (h:BfB W B c es dd ss E l er) (hB:w.heap.size≤B) (hb:Below w.heap.size w W) (l':Value) (er':Int) :
  Below w.heap.size w ((W.setCell ⟨B+2,0,none⟩ l').setCell ⟨B+3,0,none⟩ (.int .i64 er'))∧BfB ((W.setCell ⟨B+2,0,none⟩ l').setCell ⟨B+3,0,none⟩ (.int .i64 er')) B c es dd ss E l' er' :=
 ⟨(hb.setCell (p:=⟨B+2,0,none⟩) (show w.heap.size≤B+2 by omega) _).setCell (p:=⟨B+3,0,none⟩) (show w.heap.size≤B+3 by omega) _,
  ⟨(h.c.far (show B ≠ B+2 by omega) _).far (show B ≠ B+3 by omega) _,(h.v.far (show B+1 ≠ B+2 by omega) _).far (show B+1 ≠ B+3 by omega) _,(h.l.set 0 _).far (show B+2 ≠ B+3 by omega) _,(h.r.far (show B+3 ≠ B+2 by omega) _).set 0 _⟩⟩
theorem BfB.store2 {w W:World} {B:Nat} {c:Con} {es dd ss:Value} {E:EvD} {l:Value} {er:Int} (h:BfB W B c es dd ss E l er) (hB:w.heap.size≤B) (hb:Below w.heap.size w W) (l':Value) (er':Int) :
  Below w.heap.size w (((W.setCell ⟨B+3,0,none⟩ (.int .i64 er')).setCell ⟨B+2,0,none⟩ l').alloc (.cells #[.int .i64 er'] 127))∧BfB (((W.setCell ⟨B+3,0,none⟩ (.int .i64 er')).setCell ⟨B+2,0,none⟩ l').alloc (.cells #[.int .i64 er'] 127)) B c es dd ss E l' er' :=
 ⟨((hb.setCell (p:=⟨B+3,0,none⟩) (show w.heap.size≤B+3 by omega) _).setCell (p:=⟨B+2,0,none⟩) (show w.heap.size≤B+2 by omega) _).alloc (by simp only [World.size_setCell];exact hb.size) _,
  ⟨((h.c.far (show B ≠ B+3 by omega) _).far (show B ≠ B+2 by omega) _).alloc _,((h.v.far (show B+1 ≠ B+3 by omega) _).far (show B+1 ≠ B+2 by omega) _).alloc _,((h.l.far (show B+2 ≠ B+3 by omega) _).set 0 _).alloc _,((h.r.set 0 _).far (show B+3 ≠ B+2 by omega) _).alloc _⟩⟩
theorem Zxi {W:World} {B:Nat} {t:TypeId} {u:Value} {ad:Option Addr} {l:List Fl} (h:Rd Fl.cells 5 W ad l) (hB:BoxN W B t [u]) (v:Value):Rd Fl.cells 5 (W.setCell ⟨B,0,none⟩ v) ad l:=fun j x hj=>by
 obtain ⟨b,off,e,h3⟩:=h j x hj;refine ⟨b,off,e,fun i y hy=>?_⟩;have hne:b ≠ B:=by
  rintro rfl;have h1:=h3 1 (.string x.fr) rfl;simp [World.cell?,show W.heap[b]? = _ from hB] at h1
 rw [World.cell?_setCell_far _ _ _ _ (fun e=>hne e.symm)];exact h3 i y hy
theorem Zmt {w W:World} (er:Int) (h:Below w.heap.size w W):BfP w (er,[]) (.returned (.tuple #[.slice none 0 0,.int .i64 er])) W:=⟨none,0,rfl,h,Nat.le_refl _,fun _=>rfl,Rd.nil _ _⟩
theorem Z0u {W:World} {B:Nat} {t:TypeId} {v0 v1 v2 v3 v4 v5 v6 v7 v8 v9 v10 v11:Value} (h:BoxN W B t [v0,v1,v2,v3,v4,v5,v6,v7,v8,v9,v10,v11]):W.cell? ⟨B,0,none⟩=some v0∧W.cell? ⟨B,1,none⟩=some v1∧W.cell? ⟨B,2,none⟩=some v2∧W.cell? ⟨B,3,none⟩=some v3∧W.cell? ⟨B,4,none⟩=some v4∧W.cell? ⟨B,5,none⟩=some v5∧W.cell? ⟨B,6,none⟩=some v6∧W.cell? ⟨B,7,none⟩=some v7∧W.cell? ⟨B,8,none⟩=some v8∧W.cell? ⟨B,9,none⟩=some v9∧W.cell? ⟨B,10,none⟩=some v10∧W.cell? ⟨B,11,none⟩=some v11 :=
 ⟨h.cell (j:=0) rfl,h.cell (j:=1) rfl,h.cell (j:=2) rfl,h.cell (j:=3) rfl,h.cell (j:=4) rfl,h.cell (j:=5) rfl,h.cell (j:=6) rfl,h.cell (j:=7) rfl,h.cell (j:=8) rfl,h.cell (j:=9) rfl,h.cell (j:=10) rfl,h.cell (j:=11) rfl⟩
theorem BfB.q {W:World} {B:Nat} {c:Con} {es dd ss:Value} {E:EvD} {l:Value} {er:Int} (h:BfB W B c es dd ss E l er):W.cell? ⟨B+1+1,0,none⟩=some l∧W.cell? ⟨B+1+1+1,0,none⟩=some (.int .i64 er)∧W.frozen? ⟨B+1+1,0,none⟩=false∧W.frozen? ⟨B+1+1+1,0,none⟩=false :=
 ⟨h.l.cell (j:=0) rfl,h.r.cell (j:=0) rfl,h.l.frozen 0,h.r.frozen 0⟩
theorem BfB.v2 {W:World} {B:Nat} {c:Con} {es dd ss:Value} {E:EvD} {l:Value} {er:Int} (h:BfB W B c es dd ss E l er):W.cell? ⟨B+1,0,none⟩=some (.slice E.af E.F.length E.cf)∧W.cell? ⟨B+1,1,none⟩=some (.slice E.ac E.C.length E.cc) :=
 ⟨h.v.cell (j:=0) rfl,h.v.cell (j:=1) rfl⟩
theorem BfB.set2 {w W:World} {c:Con} {es dd ss:Value} {E:EvD} {l:Value} {er:Int} (h:BfB W w.heap.size c es dd ss E l er) (hb:Below w.heap.size w W) (l':Value) (er':Int):∃ W3,((W.setCell ⟨w.heap.size+1+1,0,none⟩ l').setCell ⟨w.heap.size+1+1+1,0,none⟩ (.int .i64 er'))=W3∧Below w.heap.size w W3∧W3.cell? ⟨w.heap.size+1+1,0,none⟩=some l'∧W3.cell? ⟨w.heap.size+1+1+1,0,none⟩=some (.int .i64 er') :=
 have hs:=h.store (Nat.le_refl _) hb l' er';⟨_,rfl,hs.1,hs.2.q.1,hs.2.q.2.1⟩
theorem Zls (c:Con) (es dd ss:Value) (day fin:Int) (E:EvD) (w:World) (h:BfH c es dd ss E w) :
  Calls Tryz.prog 14 #[c.val es dd ss,.int .i64 day,.int .i64 fin,E.val] w (BfP w (befR c day fin E.F E.C)):=by
 generalize hR0:befR c day fin E.F E.C=R0;obtain ⟨a1,n1,rfl⟩:=h.rd.1.len;obtain ⟨a2,n2,rfl⟩:=h.rd.2.1.len;obtain ⟨a3,n3,rfl⟩:=h.rd.2.2.1.len;obtain ⟨W0,hW0,hb0,hz0,hB0⟩:=Zyi w c (.slice a1 c.ex.sub.length n1) (.slice a2 c.ds.length n2) (.slice a3 c.sub.length n3) E;have H0:=h.frame hb0;have HC:=Lh (Zym c (.slice a1 c.ex.sub.length n1) (.slice a2 c.ds.length n2) (.slice a3 c.sub.length n3) W0 (by have:=h.bulk;omega) H0.rd H0.ls H0.lp)
 have HR:=Lh hR0;have HH:=Lh H0;have HB0:=Lh hB0;have Hb0:=Lh hb0;obtain ⟨c0,c1,c2,c3,c4,c5,c6,c7,c8,c9,c10,c11⟩:=Z0u hB0.c;clear h H0 hB0 hb0 hR0;show Calls _ _ #[.agg #[.int .u8 c.k,.string c.fr,.string c.rc,.string c.nm,.int .u8 c.ex.k,.string c.ex.ra,.string c.ex.nm,.int .i64 c.ex.d,.slice a1 c.ex.sub.length n1,.int .i64 c.d,.slice a2 c.ds.length n2,.slice a3 c.sub.length n3],.int .i64 day,.int .i64 fin,.agg #[.slice E.af E.F.length E.cf,.slice E.ac E.C.length E.cc]] _ _
 go_enter_defers Tryz.func14,Tryz.ntmps14
 go_upto_region 1 with (fail);clear hW0;go_wp2_with fail;refine HC.out.mono ?_;rintro e w1 ⟨rfl,hb1⟩;have hB1:=HB0.out.below hb1;have hb01:=Hb0.out.trans (hb1.mono Hb0.out.size);have HB1:=Lh hB1;have Hb1:=Lh hb1;have Hb01:=Lh hb01;clear c0 c1 c2 c3 c4 c5 c6 c7 c8 c9 c10 c11 HC hb1;by_cases hce:c.err=0
 rotate_left
 ·have t1:(c.err == 0)=false:=by rw [beq_eq_false_iff_ne];exact hce
  have HQ:Hid (R0=(c.err,[])):=Lh (by rw [← HR.out,befR,if_pos hce]);obtain ⟨q0,q1,z0,z1⟩:=hB1.q;obtain ⟨W3,e3,hbs,r0,r1⟩:=HB1.out.set2 Hb01.out (.slice none 0 0) c.err;have E3:=Lh e3;clear e3 hce;go_wp2_with fail;rw [E3.out];simp [bodyPostD,Leaves,results,Tryz.results14,go_sem,r0,r1]
  rw [HQ.out];exact Zmt _ hbs
 obtain ⟨v0,v1⟩:=hB1.v2;rw [hce];clear hB1 hb01;go_wp2_with fail;have H1:=HH.out.frame Hb1.out;refine (Ziz E.F E.C E.af E.ac E.cf E.cc w1 H1.e.nf H1.e.nc H1.e.f H1.e.c H1.fs H1.cs).mono ?_;clear H1;rintro e w2 ⟨rfl,hb2⟩;have hB2:=HB1.out.below hb2;have HB2:=Lh hB2;have Hb02:=Lh (Hb01.out.trans (hb2.mono Hb01.out.size));have H2:=Lh ((HH.out.frame Hb1.out).frame hb2);clear v0 v1 hb2 HB1 Hb01 Hb1;by_cases hee:Za7 E.F E.C=0
 rotate_left
 ·have t2:(Za7 E.F E.C == 0)=false:=by rw [beq_eq_false_iff_ne];exact hee
  have HQ:Hid (R0=(Za7 E.F E.C,[])):=Lh (by rw [← HR.out,befR,if_neg (fun h=>h hce),if_pos hee]);obtain ⟨q0,q1,z0,z1⟩:=hB2.q;obtain ⟨W3,e3,hbs,r0,r1⟩:=HB2.out.set2 Hb02.out (.slice none 0 0) (Za7 E.F E.C);have E3:=Lh e3;clear e3 hce hee;go_wp2_with fail;rw [E3.out];simp [bodyPostD,Leaves,results,Tryz.results14,go_sem,r0,r1]
  rw [HQ.out];exact Zmt _ hbs
 rw [hee];by_cases hbad:day < 0∨day ≥ 100000∨fin < 0∨100000 < fin
 ·have HQ:Hid (R0=(2,[])):=Lh (by rw [← HR.out,befR,if_neg (fun h=>h hce),if_neg (fun h=>h hee),if_pos (by omega)]);obtain ⟨q0,q1,z0,z1⟩:=hB2.q;obtain ⟨W3,e3,hbs,r0,r1⟩:=HB2.out.set2 Hb02.out (.slice none 0 0) 2;have E3:=Lh e3;clear e3 hce hee
  cases b0:decide (day < 0)
  cases b1:decide (99999 < day)
  cases b2:decide (fin < 0)
  have b3:decide (100000 < fin)=true:=by simp at b0 b1 b2 ⊢;omega
  all_goals
   clear hbad;go_wp2_with fail;rw [E3.out];simp [bodyPostD,Leaves,results,Tryz.results14,go_sem,r0,r1]
   rw [HQ.out];exact Zmt _ hbs
 have b0:decide (day < 0)=false:=decide_eq_false (by omega);have b1:decide (99999 < day)=false:=decide_eq_false (by omega);have b2:decide (fin < 0)=false:=decide_eq_false (by omega);have b3:decide (100000 < fin)=false:=decide_eq_false (by omega);have hfl:=H2.out.fl hce hee;have HF:=Lh (Zog c.bulk c E (Nat.le_refl _) _ _ _ day fin w2 hfl (by omega) (by omega));have hlen:=Zff E.F E.C c.bulk c (Nat.le_refl _) day fin
 have hbk:=hfl.bulk;have HR2:Hid (R0=andR (c.flows E.F E.C day fin) [] fun l=>(0,Zbs l)):=Lh (by rw [← HR.out,befR,if_neg (fun h=>h hce),if_neg (fun h=>h hee),if_neg (by omega)]);generalize c.flows E.F E.C day fin=R1 at HF HR2 hlen;have hl5:R1.2.length≤5000000:=by omega
 have HL5:=Lh hl5;obtain ⟨v0,v1⟩:=hB2.v2;obtain ⟨c0,c1,c2,c3,c4,c5,c6,c7,c8,c9,c10,c11⟩:=Z0u hB2.c;clear hfl hbk hlen hl5 hbad hce hee HR H2 HH hB2;go_wp2_with fail;refine HF.out.mono ?_;rintro e w3 ⟨hb3,⟨hr,v,rfl,⟨ad3,cap3,rfl⟩,ho⟩ | ⟨hr,rfl⟩⟩
 all_goals
  have hB3:=HB2.out.below hb3;have HB3:=Lh hB3;have Hb03:=Lh (Hb02.out.trans (hb3.mono Hb02.out.size));clear v0 v1 c0 c1 c2 c3 c4 c5 c6 c7 c8 c9 c10 c11 HB2 Hb02 hb3 HF
 ·have HR3:Hid (R0=(0,Zbs R1.2)):=Lh (by rw [HR2.out,andR,if_neg (fun h=>h hr)]);obtain ⟨o1,o2,o3⟩:=Z0q ho;have HO:=Lh (Zkr _ R1.2 (Nat.le_refl _) HL5.out ad3 cap3 _ o1 o2 o3);clear hr ho hB3 HR2 HL5 o1 o2 o3;go_wp2_with fail;refine HO.out.mono ?_;rintro e w4 ⟨ad4,cap4,rfl,hb4,l4,n4,r4⟩;have hB4:=HB3.out.below hb4;have HB4:=Lh hB4;have Hb04:=Lh (Hb03.out.trans (hb4.mono Hb03.out.size));have R4:=Lh r4
  obtain ⟨q0,q1,z0,z1⟩:=hB4.q;clear HO HB3 Hb03 hb4 hB4 r4;go_wp2_with fail;refine leaves_cons (f:=41) (args:=#[.pointer (some ⟨w.heap.size+1+1+1,0,none⟩),.pointer (some ⟨w.heap.size+1+1,0,none⟩)]) (by simp) (by simp [go_sem]) ?_;refine (Zpw _ _ _).mono ?_;rintro e u' w'' ⟨rfl,rfl,rfl⟩;have r4:=Zxi (Zxi R4.out HB4.out.l (.slice ad4 R1.2.length cap4)) (HB4.out.r.far (show w.heap.size+3 ≠ w.heap.size+2 by omega) _) (.int .i64 0)
  replace r4:Rd Fl.cells 5 ((w4.setCell ⟨w.heap.size+1+1,0,none⟩ (.slice ad4 R1.2.length cap4)).setCell ⟨w.heap.size+1+1+1,0,none⟩ (.int .i64 0)) ad4 (Zbs R1.2):=r4;obtain ⟨W3,e3,hbs,r0,r1⟩:=HB4.out.set2 Hb04.out (.slice ad4 R1.2.length cap4) 0;rw [e3] at r4 ⊢;simp [Leaves,settle,results,Tryz.results14,go_sem,r0,r1]
  rw [HR3.out];exact ⟨_,_,by rw [Zeq],hbs,by rw [Zeq];exact l4,n4,r4⟩
 ·have HR3:Hid (R0=(R1.1,[])):=Lh (by rw [HR2.out,andR,if_pos hr]);obtain ⟨q0,q1,z0,z1⟩:=hB3.q;have Q:=Lh (Zjf (w.heap.size+1+1+1) (w.heap.size+1+1) 0 R1.1 (.slice none 0 0) [] w3 q1 z1 q0 z0 (by omega) hB3.r.lt hB3.l.lt);clear hr hB3 HR2 HL5;go_wp2_with fail;refine leaves_cons (f:=41) (args:=#[.pointer (some ⟨w.heap.size+1+1+1,0,none⟩),.pointer (some ⟨w.heap.size+1+1,0,none⟩)]) (by simp) (by simp [go_sem]) ?_
  refine Q.out.mono ?_;rintro e u' w'' ⟨rfl,rfl,rfl⟩;obtain ⟨hbs,hst⟩:=HB3.out.store2 (Nat.le_refl _) Hb03.out (.slice none 0 0) R1.1;have r0:=hst.q.1;have r1:=hst.q.2.1;replace hbs:Below w.heap.size w (((w3.setCell ⟨w.heap.size+1+1+1,0,none⟩ (.int .i64 R1.1)).setCell ⟨w.heap.size+1+1,0,none⟩ (.slice none 0 0)).alloc (.cells #[.int .i64 R1.1] 127)):=hbs;change World.cell? (((w3.setCell ⟨w.heap.size+1+1+1,0,none⟩ (.int .i64 R1.1)).setCell ⟨w.heap.size+1+1,0,none⟩ (.slice none 0 0)).alloc (.cells #[.int .i64 R1.1] 127)) _=_ at r0 r1
  generalize (((w3.setCell ⟨w.heap.size+1+1+1,0,none⟩ (.int .i64 R1.1)).setCell ⟨w.heap.size+1+1,0,none⟩ (.slice none 0 0)).alloc (.cells #[.int .i64 R1.1] 127))=W3 at r0 r1 hbs ⊢;simp [Leaves,settle,results,Tryz.results14,go_sem,r0,r1]
  rw [HR3.out];exact Zmt _ hbs
end Go.Proofs.YtknpnhodpgajbaaGreatDoor
namespace Go.Proofs.YtknpnhodpgajbaaGreatDoor
open Go.ChangeShapes Go.WideShapes Go.ChangeAt Go.RowKit Go.Joins Go.Deep
theorem Z3n:ownKnob Tryz.prog.godebug=none:=by kernel_rfl
theorem Zh1:laidOutB Tryz.prog=true:=by kernel_rfl
theorem Zyz:∃ f0 f1:Field,Tryz.prog.underlying 33=some (.struct #[f0,f1])∧oneCellFields Tryz.prog #[f0,f1]=true∧f0.type=30∧f1.type=31 :=
 ⟨_,_,Tryz.underlying33,by kernel_rfl,rfl,rfl⟩
theorem Zvv:Tryz.prog.cellsOf 33=2:=by kernel_rfl
theorem Zy3:Tryz.prog.cellsOf 94=3:=by kernel_rfl
theorem Zyp:Tryz.prog.cellsOf 67=4:=by kernel_rfl
theorem Zzj {H:Type} {enc:TypeId × Value→H} {W:World} {base:Nat} {sp:Nat→Bool} {held:Bool} {v:Value} {d:DataW H} {p:List MemPlace}
  (hv:Value.okWide Tryz.prog W .any base 29 v) (h:DataW.Trod enc Tryz.prog W 0 sp held 29 v d p) :
  ∃ (c:Con) (es dd ss:Value),v=c.val es dd ss∧RdN W c es dd ss∧c.bulk≤Rows.uptoBulk d:=by
 obtain ⟨n,h⟩:=h;obtain ⟨cs,rfl⟩:∃ cs,v = .agg cs:=by
  unfold Value.okWide at hv
  cases v with
  | agg cs=>exact ⟨cs,rfl⟩
  | _=>simp [Tryz.underlying29] at hv
 have hl:(Value.agg cs).cells.toList.length=12:=by
  obtain ⟨_,_,_,_,hl,_⟩:=DataW.trod_struct Tryz.underlying29 h;rw [hl];exact Zn2
 obtain ⟨c,es,dd,ss,hc,hr,hb⟩:=Z04 n _ _ hl h;refine ⟨c,es,dd,ss,?_,hr,hb⟩;have:cs=(c.cells es dd ss).toArray:=by
  cases cs
  simp [Value.cells] at hc
  rw [hc]
 rw [this];rfl
end Go.Proofs.YtknpnhodpgajbaaGreatDoor
namespace Go.Proofs.YtknpnhodpgajbaaGreatDoor
open Go.RowKit
theorem Z1l:(Tryz.prog.info? 25).map (fun i=>(i.zero,i.size,i.bytes))=some (some (.agg #[.int .u8 0,.string ⟨#[]⟩,.string ⟨#[]⟩,.int .i64 0,.slice none 0 0]),5,72):=by kernel_rfl
theorem Z3i:Tryz.prog.underlying 23=some (.slice 25):=by kernel_rfl
abbrev ExV:Type:=Ex × Value
def exC (p:ExV):List Value:=p.1.cells p.2
theorem Zik (p:ExV):(exC p).length=5:=rfl
def exR (p:ExV) (w:World):Prop:=RdE w p.1.sub p.2
def exCS (s:Value):Prop:=∃ a n c,s = .slice a n c
theorem Z07 (p:ExV) (hp:exCS p.2):∀ u ∈ exC p,u.oneCell'=true:=by
 obtain ⟨x,s⟩:=p;obtain ⟨a,n,c,h⟩:=hp;simp only at h
 subst h;intro u hu;simp [exC,Ex.cells] at hu
 rcases hu with rfl | rfl | rfl | rfl | rfl <;> rfl
theorem Zuj {w wr w2:World} {D n:Nat} {LL:List ExV} {a2:Option Addr} {c2:Nat} {xs:List Ex} (hL:LL.map Prod.fst=xs) (hn:LL.length=n) (h:PRow exC 25 5 exR (fun _=>True) w D LL a2 c2 wr) (h8:∀ y ∈ xs,y.k < 256)
  (hz:wr.heap.size≤w2.heap.size) (hag:∀ b,D≤b→b < wr.heap.size→w2.heap[b]? = wr.heap[b]?):RdE w2 xs (.slice a2 n c2):=by
 subst hL;have e:n=(LL.map Prod.fst).length:=by rw [List.length_map,hn]
 rw [e];have hat:∀ (j:Nat) (x:Ex),(LL.map Prod.fst)[j]? = some x→∃ s:Value,LL[j]? = some (x,s):=by
  intro j x hx;rw [List.getElem?_map] at hx
  cases hp:LL[j]? with
  | none=>rw [hp] at hx;cases hx
  | some p=>rw [hp] at hx;cases hx;exact ⟨p.2,rfl⟩
 refine .mk a2 c2 _ (fun j=>(LL[j]?.map Prod.snd).getD undef) (fun j x hx=>?_) fun j x hx=>?_
 ·obtain ⟨s,hs⟩:=hat j x hx;refine ⟨h8 x (List.mem_of_getElem? hx),?_⟩;obtain ⟨g,rfl,c0⟩:=h.cell Zik hs (j:=0) rfl hag;obtain ⟨_,e1,c1⟩:=h.cell Zik hs (j:=1) rfl hag
  cases e1
  obtain ⟨_,e1,c2⟩:=h.cell Zik hs (j:=2) rfl hag
  cases e1
  obtain ⟨_,e1,c3⟩:=h.cell Zik hs (j:=3) rfl hag
  cases e1
  obtain ⟨_,e1,c4⟩:=h.cell Zik hs (j:=4) rfl hag
  cases e1
  refine ⟨g,0,rfl,c0,c1,c2,c3,?_⟩;simp only [hs];exact c4
 ·obtain ⟨s,hs⟩:=hat j x hx;have hk:=h.2.1 _ (List.mem_of_getElem? hs) w2 hz fun b hb1 hb2 _=>hag b hb1 hb2
  simp only [hs];exact hk
theorem Zux:∀ (B:Nat) (x:Ex) (s:Value) (w:World),x.bulk≤B→x.bulk≤2000000→RdE w x.sub s →
  Calls Tryz.prog 40 #[x.val s] w fun e w'=>∃ s',e = .returned (x.val s')∧Keep none w.heap.size w' (exR (x,s'))∧exCS s'∧Below w.heap.size w w':=by
 intro B;induction B with
 | zero =>
  intro x s w h0;rw [Ex.bulk_eq] at h0;omega
 | succ B ih =>
  intro x s w hB hM hs;obtain ⟨i0,hi,hz0,hz1,hz2⟩:=info_parts Z1l;obtain ⟨ad,cap,rfl⟩:=hs.len;have HS:=Lh hs;have HI:=Lh ih;have hlen:=Ex.bulks_len x.sub;have hlt0:=x.sub_lt;have hn:x.sub.length≤2000000:=by omega
  clear hs ih;unfold Ex.val;go_enter Tryz.func40,Tryz.ntmps40
  go_wp2_with fail;go_loopw [4] (fun i wr=>∃ (LL:List ExV) (a2:Option Addr) (c2:Nat),LL.length≤x.sub.length∧i = .int .i64 (LL.length:Int)∧Hid (LL.map Prod.fst=x.sub.take LL.length∧PRow exC 25 5 exR (fun _=>True) w (w.heap.size+1+1+1) LL a2 c2 wr) ∧
   BoxN wr w.heap.size 25 [.int .u8 x.k,.string x.ra,.string x.nm,.int .i64 x.d,.slice ad x.sub.length cap]∧BoxN wr (w.heap.size+1) 25 [.int .u8 0,.string ⟨#[]⟩,.string ⟨#[]⟩,.int .i64 0,.slice none 0 0] ∧
   BoxN wr (w.heap.size+1+1) 25 [.int .u8 x.k,.string x.ra,.string x.nm,.int .i64 x.d,.slice a2 LL.length c2]) (fun i _=>x.sub.length - (intOf i).toNat)
  case atStart =>
   exact ⟨[],none,0,Nat.zero_le _,rfl,Lh ⟨rfl,World.ownsRow_nil _ _ _ _,fun _ h=>(by cases h),Zdh _ _ _ _,by simp,fun _ _ _=>trivial⟩,((BoxN.new _ [.int .u8 x.k,.string x.ra,.string x.nm,.int .i64 x.d,.slice ad x.sub.length cap] _).alloc _).alloc _,by have h:=(BoxN.new (w.alloc (.cells #[.int .u8 x.k,.string x.ra,.string x.nm,.int .i64 x.d,.slice ad x.sub.length cap] 25)) [.int .u8 0,.string ⟨#[]⟩,.string ⟨#[]⟩,.int .i64 0,.slice none 0 0] 25);rw [World.size_alloc] at h;exact h.alloc _,by have h:=(BoxN.new ((w.alloc (.cells #[.int .u8 x.k,.string x.ra,.string x.nm,.int .i64 x.d,.slice ad x.sub.length cap] 25)).alloc (.cells #[.int .u8 0,.string ⟨#[]⟩,.string ⟨#[]⟩,.int .i64 0,.slice none 0 0] 25)) [.int .u8 x.k,.string x.ra,.string x.nm,.int .i64 x.d,.slice none 0 0] 25);rw [World.size_alloc,World.size_alloc] at h;exact h⟩
  case round =>
   obtain ⟨LL,a2,c2,hk,rfl,HL,hbx,hbr,hbo⟩:=hrel;obtain ⟨k,hkk⟩:∃ k,LL.length=k:=⟨_,rfl⟩
   have HK:=Lh hkk;rw [hkk] at hk hbo ⊢;have q0:wr.cell? ⟨w.heap.size,4,none⟩=some (.slice ad x.sub.length cap):=hbx.cell rfl;have q1:wr.cell? ⟨w.heap.size+1+1,4,none⟩=some (.slice a2 k c2):=hbo.cell rfl;clear hkk;by_cases hlt:k < x.sub.length
   ·obtain ⟨y,hy⟩:∃ y,x.sub[k]? = some y:=⟨_,List.getElem?_eq_getElem hlt⟩
    obtain ⟨b,off,sy,rfl,d0,d1,d2,d3,d4,hs',_⟩:=(HS.out.frame HL.out.2.2.2.1).at hy;have hk1:(0:Int)≤(k:Int):=by omega
    have hk2:(k:Int) < (x.sub.length:Int):=by omega
    have hym:=Ex.mem_lt (List.mem_of_getElem? hy);have HC:=Lh fun (V:World) (hV:Below wr.heap.size wr V)=>HI.out y sy V (by omega) (by omega) (hs'.frame hV)
    have HY:=Lh hy;unfold Ex.val at HC;clear hy hym hs';go_wp2_with fail;refine Zbb (fun L a w'=>∃ (sn:Value) (g:Nat) (r v0 v1 v2 v3 v4 v5 v6 v7 v8 v9 v10:Value),a=⟨#[.agg #[.int .u8 (x.k:Int),.string x.ra,.string x.nm,.int .i64 x.d,.slice (some ⟨b,off,none⟩) x.sub.length cap],.pointer (some ⟨w.heap.size,0,none⟩),.pointer (some ⟨w.heap.size+1,0,none⟩),.pointer (some ⟨w.heap.size+1+1,0,none⟩),.int .i64 (k:Int),.pointer (some ⟨w.heap.size,0,none⟩),.int .u8 (x.k:Int),.pointer (some ⟨w.heap.size,1,none⟩),.string x.ra,.pointer (some ⟨w.heap.size,2,none⟩),.string x.nm,.pointer (some ⟨w.heap.size,3,none⟩),.int .i64 x.d,.agg #[.int .u8 (x.k:Int),.string x.ra,.string x.nm,.int .i64 x.d,.slice none 0 0],.int .i64 (k:Int),.pointer (some ⟨w.heap.size,4,none⟩),.slice (some ⟨b,off,none⟩) x.sub.length cap,.int .i64 (x.sub.length:Int),.bool true,u19,u20,v0,v1,v2,v3,v4,v5,v6,v7,v8,v9,v10,undef],[]⟩∧VInv w' [.pointer (some ⟨w.heap.size+1+1,4,none⟩),.slice a2 k c2,.pointer (some ⟨w.heap.size,4,none⟩),.slice (some ⟨b,off,none⟩) x.sub.length cap,.int .i64 (k:Int),.pointer (some ⟨b,off+k * 5,none⟩),.agg #[.int .u8 (y.k:Int),.string y.ra,.string y.nm,.int .i64 y.d,sy],.agg #[.int .u8 (y.k:Int),.string y.ra,.string y.nm,.int .i64 y.d,sn],.slice (some ⟨g,0,none⟩) 1 1,r,.pointer (some ⟨w.heap.size+1+1,4,none⟩)] [v0,v1,v2,v3,v4,v5,v6,v7,v8,v9,v10] L w' ∧
     TwI (fun w1=>∃ q,w1=wr.drewN q) (fun w1 sn=>Below wr.heap.size wr w1∧Keep none wr.heap.size w1 (exR (y,sn))∧exCS sn) (fun w1 sn g=>Below wr.heap.size wr w1∧Keep none wr.heap.size w1 (exR (y,sn))∧exCS sn∧∀ j u,(exC (y,sn))[j]? = some u→w1.cell? ((⟨g,0,none⟩:Addr).add j)=some u)
      (fun w1 sn r=>∃ a3 c3,r = .slice a3 (k+1) c3∧Hid (PRow exC 25 5 exR (fun _=>True) w (w.heap.size+1+1+1) (LL ++ [(y,sn)]) a3 c3 w1)∧BoxN w1 w.heap.size 25 [.int .u8 (x.k:Int),.string x.ra,.string x.nm,.int .i64 x.d,.slice (some ⟨b,off,none⟩) x.sub.length cap]∧BoxN w1 (w.heap.size+1) 25 [.int .u8 0,.string ⟨#[]⟩,.string ⟨#[]⟩,.int .i64 0,.slice none 0 0]∧BoxN w1 (w.heap.size+1+1) 25 [.int .u8 (x.k:Int),.string x.ra,.string x.nm,.int .i64 x.d,.slice a2 k c2]) (fun w1 sn r=>∃ a3 c3,Hid (PRow exC 25 5 exR (fun _=>True) w (w.heap.size+1+1+1) (LL ++ [(y,sn)]) a3 c3 w1)∧BoxN w1 w.heap.size 25 [.int .u8 (x.k:Int),.string x.ra,.string x.nm,.int .i64 x.d,.slice (some ⟨b,off,none⟩) x.sub.length cap]∧BoxN w1 (w.heap.size+1) 25 [.int .u8 0,.string ⟨#[]⟩,.string ⟨#[]⟩,.int .i64 0,.slice none 0 0]∧BoxN w1 (w.heap.size+1+1) 25 [.int .u8 (x.k:Int),.string x.ra,.string x.nm,.int .i64 x.d,.slice a3 (k+1) c3]) L sn g r w') (by kernel_rfl) (by kernel_rfl) ?_ ?_ ?_
    ·exact ⟨.slice none 0 0,0,.slice none 0 0,_,_,_,_,_,_,_,_,_,_,_,rfl,VInv.start (Below.refl _ _) rfl,fun _=>⟨1,rfl⟩,fun h=>(by cases h),fun h=>(by cases h),fun h=>(by cases h),fun h=>(by cases h)⟩
    ·rintro L a w' ⟨sn,g,r,v0,v1,v2,v3,v4,v5,v6,v7,v8,v9,v10,rfl,h,ht⟩ hcl i o ho hL hp;have hi9:i < 12:=by simpa using (Array.getElem?_eq_some_iff.1 ho).1
     have hi2:i=0∨i=1∨i=2∨i=3∨i=4∨i=5∨i=6∨i=7∨i=8∨i=9∨i=10∨i=11:=by omega
     clear hi9;have hbl:=fun h9=>ht.bel (wr:=wr) (fun _ ⟨q,e⟩=>e ▸ below_drewN (Below.refl _ _) q) (fun _ _ e=>e.1) (fun _ _ _ e=>e.1) h9
     rcases hi2 with rfl | rfl | rfl | rfl | rfl | rfl | rfl | rfl | rfl | rfl | rfl | rfl
     ·refine wpOp_step rfl ?_;intro K hK;go_simp;exact hK _ _ ⟨sn,g,r,_,_,_,_,_,_,_,_,_,_,_,rfl,h.step (i:=0) (v:=.pointer (some ⟨w.heap.size+1+1,4,none⟩)) rfl,ht.keep (by decide)⟩
     ·refine wpOp_step rfl ?_;intro K hK;obtain rfl:=h.at (i:=0) (Zaa ho hp (j:=0) (by kernel_rfl)) rfl rfl;have z:=Zad (hbl (Zba hcl hL 9 (by kernel_rfl))) q1;go_simp;exact hK _ _ ⟨sn,g,r,_,_,_,_,_,_,_,_,_,_,_,rfl,h.step (i:=1) (v:=.slice a2 k c2) rfl,ht.keep (by decide)⟩
     ·refine wpOp_step rfl ?_;intro K hK;go_simp;exact hK _ _ ⟨sn,g,r,_,_,_,_,_,_,_,_,_,_,_,rfl,h.step (i:=2) (v:=.pointer (some ⟨w.heap.size,4,none⟩)) rfl,ht.keep (by decide)⟩
     ·refine wpOp_step rfl ?_;intro K hK;obtain rfl:=h.at (i:=2) (Zaa ho hp (j:=2) (by kernel_rfl)) rfl rfl;obtain ⟨q,rfl⟩:=ht.a (Zba hcl (Zba hcl (Zba hcl hL 5 (by kernel_rfl)) 6 (by kernel_rfl)) 7 (by kernel_rfl));have z:=Za4 q q0;go_simp;exact hK _ _ ⟨sn,g,r,_,_,_,_,_,_,_,_,_,_,_,rfl,h.step (i:=3) (v:=.slice (some ⟨b,off,none⟩) x.sub.length cap) rfl,ht.keep (by decide)⟩
     ·refine wpOp_step rfl ?_;intro K hK;go_simp;exact hK _ _ ⟨sn,g,r,_,_,_,_,_,_,_,_,_,_,_,rfl,h.step (i:=4) (v:=.int .i64 (k:Int)) rfl,ht.keep (by decide)⟩
     ·refine wpOp_step rfl ?_;intro K hK;obtain rfl:=h.at (i:=3) (Zaa ho hp (j:=3) (by kernel_rfl)) rfl rfl;obtain rfl:=h.at (i:=4) (Zaa ho hp (j:=4) (by kernel_rfl)) rfl rfl;go_simp;exact hK _ _ ⟨sn,g,r,_,_,_,_,_,_,_,_,_,_,_,rfl,h.step (i:=5) (v:=.pointer (some ⟨b,off+k * 5,none⟩)) rfl,ht.keep (by decide)⟩
     ·refine wpOp_step rfl ?_;intro K hK;obtain rfl:=h.at (i:=5) (Zaa ho hp (j:=5) (by kernel_rfl)) rfl rfl;obtain ⟨q,rfl⟩:=ht.a (Zba hcl hL 7 (by kernel_rfl));have z0:=Za4 q d0;have z1:=Za4 q d1;have z2:=Za4 q d2;have z3:=Za4 q d3;have z4:=Za4 q d4;go_simp;exact hK _ _ ⟨sn,g,r,_,_,_,_,_,_,_,_,_,_,_,rfl,h.step (i:=6) (v:=.agg #[.int .u8 (y.k:Int),.string y.ra,.string y.nm,.int .i64 y.d,sy]) rfl,ht.keep (by decide)⟩
     ·refine wpOp_step rfl ?_;intro K hK;obtain rfl:=h.at (i:=6) (Zaa ho hp (j:=6) (by kernel_rfl)) rfl rfl;obtain ⟨q,rfl⟩:=ht.a hL;have h8:=Zba hcl hL 8 (by kernel_rfl);have h9:=Zba hcl h8 9 (by kernel_rfl);have h11:=Zba hcl h9 11 (by kernel_rfl);go_simp;refine (HC.out (wr.drewN q) (below_drewN (Below.refl _ _) q)).mono ?_;rintro e w4 ⟨s4,rfl,hk4,hs4,hb4⟩;exact hK _ _ ⟨s4,g,r,_,_,_,_,_,_,_,_,_,_,_,rfl,VInv.step (i:=7) (v:=.agg #[.int .u8 (y.k:Int),.string y.ra,.string y.nm,.int .i64 y.d,s4]) (h.late hL _).re rfl,TwI.u7 h8 h9 h11 ⟨(below_drewN (Below.refl _ _) q).trans hb4,hk4,hs4⟩⟩
     ·refine wpOp_step rfl ?_;intro K hK;obtain rfl:=h.at (i:=7) (Zaa ho hp (j:=7) (by kernel_rfl)) rfl rfl;have h7:=Zaa ho hp (j:=7) (by kernel_rfl);have h9:=Zba hcl hL 9 (by kernel_rfl);have h11:=Zba hcl h9 11 (by kernel_rfl);obtain ⟨hb1,hk1,hs1⟩:=ht.b h7 hL;go_simp;exact hK _ _ ⟨sn,w'.heap.size,r,_,_,_,_,_,_,_,_,_,_,_,rfl,VInv.step (i:=8) (v:=.slice (some ⟨w'.heap.size,0,none⟩) 1 1) (h.late hL _).re rfl,TwI.u8 h7 h9 h11 ⟨hb1.alloc hb1.size _,hk1.below (Zac _ _),hs1,Zo1 _ _ _⟩⟩
     ·refine wpOp_step rfl ?_;intro K hK;obtain rfl:=h.at (i:=1) (Zaa ho hp (j:=1) (by kernel_rfl)) rfl rfl;obtain rfl:=h.at (i:=8) (Zaa ho hp (j:=8) (by kernel_rfl)) rfl rfl;have h8:=Zaa ho hp (j:=8) (by kernel_rfl);have h7:=Zcx hcl h8 (j:=7) (by kernel_rfl);have h11:=Zba hcl hL 11 (by kernel_rfl);obtain ⟨hb2,hk2,hs2,hc2⟩:=ht.c h8 hL;have hz:=HL.out.2.2.2.2.1;refine Zg4 rfl (.tmp 22) (.tmp 29) 23 rfl (w.heap.size+1+1+1) 25 i0 (.agg #[.int .u8 0,.string ⟨#[]⟩,.string ⟨#[]⟩,.int .i64 0,.slice none 0 0]) 5 72 Z3i hi hz0 hz1 hz2 rfl (by decide) (.slice a2 k c2) k (LL.flatMap exC) rfl (Zag (HK.out ▸ HL.out.2.1) hb2) ⟨g,0,none⟩ 1 1 (exC (y,sn)) rfl (Zik _) hc2 (Z07 _ hs2) (by simp only [maxLen];omega) (by omega) (Nat.le_trans hz hb2.size) ?_
      intro v2 w2 ho2 hg2 hl2;obtain ⟨a3,c3,rfl,hR3⟩:=PRow.append HL.out.2 (by omega) hb2 (y:=(y,sn)) hk2 (by rw [HK.out];exact ho2) (by rw [HK.out];exact hg2) (by rw [HK.out];exact hl2);have hz3:(LL ++ [(y,sn)]).length=k+1:=by rw [List.length_append,HK.out];rfl
      have hg9:w'.grownBy w2 (Value.slice a2 LL.length c2).ownBlock:=by rw [HK.out];exact hg2
      rw [hz3];exact hK _ _ ⟨sn,g,.slice a3 (k+1) c3,_,_,_,_,_,_,_,_,_,_,_,rfl,VInv.step (i:=9) (v:=.slice a3 (k+1) c3) (h.late hL _).re rfl,TwI.u9 h7 h8 h11 ⟨a3,c3,rfl,Lh hR3,PRow.kept HL.out.2 hb2 hg9 hbx (by omega),PRow.kept HL.out.2 hb2 hg9 hbr (by omega),PRow.kept HL.out.2 hb2 hg9 hbo (by omega)⟩⟩
     ·refine wpOp_step rfl ?_;intro K hK;go_simp;exact hK _ _ ⟨sn,g,r,_,_,_,_,_,_,_,_,_,_,_,rfl,h.step (i:=10) (v:=.pointer (some ⟨w.heap.size+1+1,4,none⟩)) rfl,ht.keep (by decide)⟩
     ·refine wpOp_step rfl ?_;intro K hK;obtain rfl:=h.at (i:=10) (Zaa ho hp (j:=10) (by kernel_rfl)) rfl rfl;obtain rfl:=h.at (i:=9) (Zaa ho hp (j:=9) (by kernel_rfl)) rfl rfl;have h9:=Zaa ho hp (j:=9) (by kernel_rfl);have h8:=Zcx hcl h9 (j:=8) (by kernel_rfl);have h7:=Zcx hcl h8 (j:=7) (by kernel_rfl);obtain ⟨a3,c3,rfl,hR3,hx3,hr3,ho3⟩:=ht.d h9 hL;have z:=ho3.cell (j:=4) rfl;have z1:=ho3.frozen 4
      go_simp;exact hK _ _ ⟨sn,g,_,_,_,_,_,_,_,_,_,_,_,_,rfl,(h.skip (Nat.le_refl _)).re,TwI.u11 h7 h8 h9 ⟨a3,c3,Lh (hR3.out.set (by show w.heap.size+1+1 < _;omega) (by show _≤w.heap.size+1+1;omega) _),hx3.far (by show w.heap.size ≠ w.heap.size+1+1;omega) _,hr3.far (by show w.heap.size+1 ≠ w.heap.size+1+1;omega) _,ho3.set 4 _⟩⟩
    ·rintro L a w4 ⟨sn,g,r,v0,v1,v2,v3,v4,v5,v6,v7,v8,v9,v10,rfl,h,ht⟩ hall;obtain ⟨a3,c3,hR3,hx3,hr3,ho3⟩:=ht.e (hall 11 (by decide));have hz3:(LL ++ [(y,sn)]).length=k+1:=by rw [List.length_append,HK.out];rfl
     have HZ:Hid ((LL ++ [(y,sn)]).map Prod.fst=x.sub.take (LL ++ [(y,sn)]).length):=Lh (by rw [hz3,List.map_append,HL.out.1,HK.out,Zau HY.out];rfl);clear h ht hall;go_wp2;go_roundw
     case rel=>exact ⟨LL ++ [(y,sn)],a3,c3,by omega,by rw [hz3];go_num,Lh ⟨HZ.out,hR3.out⟩,hx3,hr3,hz3 ▸ ho3⟩
     case measure=>simp [intOf];omega
   ·obtain rfl:k=x.sub.length:=by omega
    have o0:wr.cell? ⟨w.heap.size+1+1,0,none⟩=some (.int .u8 x.k):=hbo.cell rfl;have o1:wr.cell? ⟨w.heap.size+1+1,1,none⟩=some (.string x.ra):=hbo.cell rfl;have o2:wr.cell? ⟨w.heap.size+1+1,2,none⟩=some (.string x.nm):=hbo.cell rfl;have o3:wr.cell? ⟨w.heap.size+1+1,3,none⟩=some (.int .i64 x.d):=hbo.cell rfl;have r0:wr.cell? ⟨w.heap.size+1,0,none⟩=some (.int .u8 0):=hbr.cell rfl;have r1:wr.cell? ⟨w.heap.size+1,1,none⟩=some (.string ⟨#[]⟩):=hbr.cell rfl
    have r2:wr.cell? ⟨w.heap.size+1,2,none⟩=some (.string ⟨#[]⟩):=hbr.cell rfl;have r3:wr.cell? ⟨w.heap.size+1,3,none⟩=some (.int .i64 0):=hbr.cell rfl;have r4:wr.cell? ⟨w.heap.size+1,4,none⟩=some (.slice none 0 0):=hbr.cell rfl;have f0:=hbr.frozen 0;have f1:=hbr.frozen 1;have f2:=hbr.frozen 2;have f3:=hbr.frozen 3;have f4:=hbr.frozen 4;have HF:Hid (∀ u,PRow exC 25 5 exR (fun _=>True) w (w.heap.size+1+1+1) LL a2 c2 u→Keep none w.heap.size u (exR (x,.slice a2 x.sub.length c2))∧Below w.heap.size w u):=Lh fun u hu=>⟨fun u2 hz2 hag=>by
     have hM2:=HL.out.1;rw [HK.out,List.take_length] at hM2;refine Zuj hM2 HK.out hu (fun y hy=>?_) hz2 fun b hb1 hb2=>hag b (by omega) hb2 (by simp)
     obtain ⟨j,hj⟩:=List.getElem?_of_mem hy;obtain ⟨_,_,_,_,_,_,_,_,_,_,h8⟩:=HS.out.at hj;exact h8,hu.2.2.1⟩
    go_wp2_with fail;refine bodyPost_ret (v:=.agg #[.int .u8 x.k,.string x.ra,.string x.nm,.int .i64 x.d,.slice a2 x.sub.length c2]) (by simp [results,Tryz.results40,go_sem,r0,r1,r2,r3,r4]) rfl ?_;have hs5:=fun (u:World) (hu:PRow exC 25 5 exR (fun _=>True) w (w.heap.size+1+1+1) LL a2 c2 u) (j:Nat) (v:Value)=>hu.set (a:=⟨w.heap.size+1,j,none⟩) (by show w.heap.size+1 < _;omega) (by show _≤w.heap.size+1;omega) v
    refine ⟨_,rfl,(HF.out _ ?_).1,⟨_,_,_,rfl⟩,(HF.out _ ?_).2⟩ <;> exact hs5 _ (hs5 _ (hs5 _ (hs5 _ (hs5 _ HL.out.2 0 _) 1 _) 2 _) 3 _) 4 _
theorem Zfv {P:Program} {w:World} (t ty e:TypeId) (i:TypeInfo) (z:Value) (size bytes:Nat) (ht:P.underlying t=some (.slice e)) (hi:P.info? e=some i) (hz:i.zero=some z)
  (hsize:i.size=size) (hby:i.bytes=bytes) (hsz:0 < size) (a0:Addr) (A:Option Addr) (m c:Nat) (news:List Value) (hs:Sl w (.slice A m c) size m news) (hA:A=none→c=0)
  (h63:m≤9223372036854775807) (hbytes:m * bytes≤140737488355328) :
  ∃ ad cap w',(Builtin.append_ #[t,t] ty #[.slice (some a0) 0 0,.slice A m c]).run P w = .ok (.slice ad m cap) w'∧Sl w' (.slice ad m cap) size m news∧(m=0∨∃ g,ad=some ⟨g,0,none⟩∧w.heap.size≤g)∧w.grownBy w' none:=by
 subst hsize;subst hby;obtain ⟨ad',cap',he,h1,h2,h3⟩:=hs;obtain ⟨rfl,_,rfl⟩:=Value.slice.inj he;rcases Nat.eq_zero_or_pos m with h0 | h0
 ·subst h0;have hn:news=[]:=List.eq_nil_of_length_eq_zero (by simpa using h2);subst hn;refine ⟨some a0,0,w,?_,⟨_,_,rfl,Nat.le_refl _,by simp,.inl rfl⟩,.inl rfl,⟨rfl,rfl,rfl,Nat.le_refl _,fun _ _ _=>rfl⟩⟩
  cases A with
  | none =>
   obtain rfl:=hA rfl;simp [Builtin.append_,run_underlying ht,sizeOf,typeInfo,hi,Builtin.lenOf,Builtin.firstCells,storeCells]
  | some a=>simp [Builtin.append_,run_underlying ht,sizeOf,typeInfo,hi,Builtin.lenOf,Builtin.firstCells,storeCells,loadCells,loadCellsFrom]
 ·rcases h3 with h3 | ⟨b,off,rfl,h3⟩
  ·exfalso;rw [h3] at h2;have:=Nat.mul_pos h0 hsz;omega
  ·have hr:=run_append_grow (P:=P) w t ty e i z ht hi hz a0 0 0 [] (by simp) (by simp) ⟨b,off,none⟩ m c news h2 (fun j v hj=>by
     have h:=h3 j v hj;by_cases h0:j=0
     ·subst h0;simpa [Addr.add] using h
     ·simpa [Addr.add,h0] using h) (by omega) (by omega)
    (by rw [Nat.zero_add];exact growslice_fits (by omega) (by omega))
   simp only [Nat.zero_add] at hr;refine ⟨_,_,_,hr,?_,.inr ⟨_,rfl,Nat.le_refl _⟩,⟨rfl,rfl,rfl,by simp,fun k hk _=>Below.heap_alloc w.drew _ k hk⟩⟩;refine ⟨_,_,rfl,grownCap_ge w m 0 e,h2,.inr ⟨w.heap.size,0,rfl,fun j u hj=>?_⟩⟩;rw [Nat.zero_add,cell_of_row _ w.heap.size j _ e (0,0) (heap_alloc_new w.drew _)];have hjl:=(List.getElem?_eq_some_iff.1 hj).1;show (([]:List Value).toArray ++ news.toArray ++ _)[j]? = some u
   rw [Array.getElem?_append_left (by simpa using hjl)];simpa using hj
theorem Zfi {P:Program} {w:World} {ops:Array Oper} {o:Oper} {a:Act} {K:Act→World→Prop} {Q:Exit→Act→World→Prop} {E:Prop} (hgd:o.guard=none) (s x:Operand) (t:TypeId)
  (ho:o.op = .call { callee:=.builtin .append,args:=#[s,x],argTypes:=#[t,t] }) (e:TypeId) (i:TypeInfo) (z:Value) (size bytes:Nat) (ht:P.underlying t=some (.slice e)) (hi:P.info? e=some i) (hz:i.zero=some z)
  (hsize:i.size=size) (hby:i.bytes=bytes) (hsz:0 < size) (a0:Addr) (A:Option Addr) (m c:Nat) (news:List Value) (hs:a.eval s = .slice (some a0) 0 0) (hx:a.eval x = .slice A m c) (hl:Sl w (.slice A m c) size m news) (hA:A=none→c=0)
  (h63:m≤9223372036854775807) (hbytes:m * bytes≤140737488355328)
  (h:∀ ad cap w',Sl w' (.slice ad m cap) size m news→(m=0∨∃ g,ad=some ⟨g,0,none⟩∧w.heap.size≤g)→Below w.heap.size w w'→K (a.put o.dst (.slice ad m cap)) w') :
  if Region.wanted o (yielded ops a.tmps)=true then Oper.wp P o a w K Q else E:=by
 have hw:Region.wanted o (yielded ops a.tmps)=true:=by simp [Region.wanted,hgd]
 rw [if_pos hw];obtain ⟨ad,cap,w',hr,h2,h4,h3⟩:=Zfv (P:=P) (w:=w) t o.type e i z size bytes ht hi hz hsize hby hsz a0 A m c news hl hA h63 hbytes;unfold Oper.wp execOp;simp only [ho,resolve,invoke,builtin,Sem.run_bind,Sem.run_pure,Result.andThen_ok,List.map_toArray,List.map_cons,List.map_nil,hs,hx,hr];exact h ad cap w' h2 h4 ((Below.refl _ _).grown h3 (Nat.le_refl _) (by simp))
theorem Sl.stored {w:World} {ad:Option Addr} {m cap size B:Nat} {cs:List Value} (h:Sl w (.slice ad m cap) size m cs) (hg:m=0∨∃ g,ad=some ⟨g,0,none⟩∧B < g) (x y:Value) :
  Sl ((w.setCell ⟨B,0,none⟩ x).setCell ⟨B,1,none⟩ y) (.slice ad m cap) size m cs:=by
 rcases hg with rfl | ⟨g,rfl,hB⟩
 ·obtain ⟨_,_,_,h1,h2,_⟩:=h;have:cs=[]:=List.eq_nil_of_length_eq_zero (by simpa using h2)
  subst this;exact Sl.empty _ _ _ _
 ·refine h.kept fun k hk _=>?_
  obtain rfl:g=k:=by simpa [Value.ownBlock] using hk
  exact (Below.heap_setCell _ _ _ _ (by simp;omega)).trans (Below.heap_setCell _ _ _ _ (by simp;omega))
theorem Z3h:Tryz.prog.underlying 26=some (.slice 3):=by kernel_rfl
theorem Z1k:(Tryz.prog.info? 3).map (fun i=>(i.zero,i.size,i.bytes))=some (some (.int .i64 0),1,8):=by kernel_rfl
def RdDy (w:World) (l:List Int) (v:Value):Prop:=∃ ad cap,v = .slice ad l.length cap∧∀ k x,l[k]? = some x→∃ b off,ad=some ⟨b,off,none⟩∧w.cell? ⟨b,off+k,none⟩=some (.int .i64 x)
theorem Zxp {α:Type} {a b:List α} {k:Nat} (h:∀ j,j < k→a[j]? = b[j]?) (hk:a[k]? = b[k]?):∀ j,j < k+1→a[j]? = b[j]?:=by
 intro j hj;rcases Nat.lt_or_ge j k with h1 | h1
 ·exact h j h1
 ·have:j=k:=by omega
  rw [this];exact hk
end Go.Proofs.YtknpnhodpgajbaaGreatDoor
