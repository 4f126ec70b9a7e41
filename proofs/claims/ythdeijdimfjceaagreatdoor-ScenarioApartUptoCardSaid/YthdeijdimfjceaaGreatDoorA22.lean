/- A part. -/
import Derived.Test.YthdeijdimfjceaaGreatDoorA21
import Derived.Maps.OwnSet
namespace Go.Proofs.YthdeijdimfjceaaGreatDoor
open Go.RowKit
theorem scnB_parts {l:List Sh} (h:scnB l=true):l.length≤100∧(∀ x ∈ l,shGood x)∧incB shLt l=true:=by
 unfold scnB at h
 simp only [Bool.and_eq_true,decide_eq_true_eq,Bool.not_eq_true'] at h
 refine ⟨h.1,fun x hx => ?_,h.2.2⟩
 have h2:=h.2.1
 rw [List.any_eq_false] at h2
 have:=h2 x hx
 by_cases hg:shGood x
 ·exact hg
 ·exact absurd (shBad_of hg) this
theorem errs_zero:∀ {l:List Int},errs l=0→∀ e ∈ l,e=0
 | [],_,_,h => by cases h
 | x :: l,h,e,he => by
  rw [errs] at h
  by_cases hx:x=0
  ·rw [if_pos hx] at h
   rcases List.mem_cons.1 he with rfl | he
   ·exact hx
   ·exact errs_zero h e he
  ·rw [if_neg hx] at h;exact absurd h hx
theorem errs_two:∀ {l:List Int},(∀ e ∈ l,e=0∨e=14)→errs l=0∨errs l=14
 | [],_ => .inl rfl
 | x :: l,h => by
  rw [errs]
  split
  ·exact errs_two fun e he => h e (List.mem_cons_of_mem _ he)
  ·next hx => exact .inr ((h x (List.mem_cons_self ..)).resolve_left hx)
theorem inv_val {x:Sh} (hx:shGood x) (h:invE x=0):shGood (inv x)∧rv (inv x).ra * rv x.ra=1∧rv (inv x).ex * rv x.ra = -rv x.ex:=by
 unfold invE at h
 by_cases h1:divE oneB x.ra=0
 ·rw [if_pos h1] at h
  by_cases h2:mulE x.ex negB=0
  ·rw [if_pos h2] at h
   obtain ⟨q1,q2,q3⟩:=rv_div h1
   obtain ⟨m1,m2⟩:=rv_mul h2
   obtain ⟨d1,d2,d3⟩:=rv_div h
   have e2:rv (inv x).ra * rv x.ra=1:=q2.trans rv_one
   refine ⟨⟨hx.1,hx.2.1,q1,fun e => ?_,d1⟩,e2,?_⟩
   ·have hz:rv (inv x).ra=0:=by
     have hb:(inv x).ra=⟨#[48]⟩:=bl_inj e
     rw [hb];exact rv_zero
    rw [hz,Rat.zero_mul] at e2
    exact absurd e2 (by decide)
   ·show rv (mkB (divS (invM x) x.ra)) * rv x.ra=_
    rw [d2]
    show rv (mkB (mulS x.ex negB))=_
    rw [m2,show rv negB = -1 from rv_neg1]
    grind
  ·rw [if_neg h2] at h;exact absurd h h2
 ·rw [if_neg h1] at h;exact absurd h h1
theorem inv_two {x:Sh} (hx:shGood x):invE x=0∨invE x=14:=by
 obtain ⟨_,_,h1,h2,h3⟩:=hx
 unfold invE
 split
 ·next a =>
  split
  ·next b => exact div_two (rv_mul b).1 h1 h2
  ·next b => exact (mul_two h3 (by decide)).elim (fun k => absurd k b) .inr
 ·next a => exact (div_two (a:=oneB) (by decide) h1 h2).elim (fun k => absurd k a) .inr
theorem inc_map {l:List Sh} (g:Sh→Sh) (hg:∀ x,(g x).nm=x.nm):incB shLt (l.map g)=incB shLt l:=by
 induction l with
 | nil => rfl
 | cons x l ih =>
  cases l with
  | nil => rfl
  | cons y l =>
   rw [List.map_cons] at ih
   rw [List.map_cons,List.map_cons]
   simp only [incB]
   rw [ih]
   unfold shLt
   rw [hg,hg]
theorem scnB_inv {l:List Sh} (h:scnB l=true) (he:inverseE l=0):inverseL l=l.map inv∧(∀ x ∈ l,invE x=0)∧scnB (l.map inv)=true:=by
 obtain ⟨h1,h2,h3⟩:=scnB_parts h
 have h0:errs (l.map invE)=0:=by unfold inverseE at he;rw [if_pos h] at he;exact he
 have hz:∀ x ∈ l,invE x=0:=fun x hx => errs_zero h0 _ (List.mem_map.2 ⟨x,hx,rfl⟩)
 refine ⟨(inverse_ok h h0).2,hz,scnB_ok (by rw [List.length_map];omega) (fun y hy => ?_) ?_⟩
 ·obtain ⟨x,hx,rfl⟩:=List.mem_map.1 hy
  exact shBad_ok (inv_val (h2 x hx) (hz x hx)).1
 ·rw [inc_map inv fun _ => rfl];exact h3
theorem inv_inv {x:Sh} (hx:shGood x) (h:invE x=0) (h2:invE (inv x)=0):inv (inv x)=x:=by
 obtain ⟨g1,a1,b1⟩:=inv_val hx h
 obtain ⟨g2,a2,b2⟩:=inv_val g1 h2
 have e1:(inv (inv x)).ra=x.ra:=rv_inj g2.2.2.1 hx.2.2.1 (by
  have h3:rv (inv (inv x)).ra * (rv (inv x).ra * rv x.ra)=rv x.ra:=by rw [← Rat.mul_assoc,a2,Rat.one_mul]
  rw [a1,Rat.mul_one] at h3;exact h3)
 have e2:(inv (inv x)).ex=x.ex:=rv_inj g2.2.2.2.2 hx.2.2.2.2 (by
  have h3:rv (inv (inv x)).ex * (rv (inv x).ra * rv x.ra)=rv x.ex:=by
   rw [← Rat.mul_assoc,b2,Rat.neg_mul,b1,Rat.neg_neg]
  rw [a1,Rat.mul_one] at h3;exact h3)
 obtain ⟨nm,fr,ra,ex⟩:=x
 show (⟨nm,fr,(inv (inv ⟨nm,fr,ra,ex⟩)).ra,(inv (inv ⟨nm,fr,ra,ex⟩)).ex⟩:Sh)=_
 rw [e1,e2]
theorem again_law {l:List Sh} (h:scnB l=true) (he:inverseE l=0):(inverseE (inverseL l)=14)∨(inverseE (inverseL l)=0∧inverseL (inverseL l)=l):=by
 obtain ⟨e1,hz,hb⟩:=scnB_inv h he
 obtain ⟨_,h2,_⟩:=scnB_parts h
 rw [e1]
 by_cases h3:inverseE (l.map inv)=0
 ·right
  refine ⟨h3,?_⟩
  obtain ⟨e2,hz2,_⟩:=scnB_inv hb h3
  rw [e2,List.map_map]
  conv => rhs;rw [← List.map_id l]
  exact List.map_congr_left fun x hx => inv_inv (h2 x hx) (hz x hx) (hz2 _ (List.mem_map.2 ⟨x,hx,rfl⟩))
 ·left
  have h4:inverseE (l.map inv)=errs ((l.map inv).map invE):=by unfold inverseE;rw [if_pos hb]
  rw [h4] at h3 ⊢
  refine (errs_two fun e he => ?_).resolve_left h3
  obtain ⟨y,hy,rfl⟩:=List.mem_map.1 he
  exact inv_two ((scnB_parts hb).2.1 y hy)
theorem find_inv (f:Fx):∀ l:List Sh,(l.map inv).find? (hits f)=(l.find? (hits f)).map inv
 | [] => rfl
 | x :: l => by
  rw [List.map_cons,List.find?_cons,List.find?_cons]
  have:hits f (inv x)=hits f x:=rfl
  rw [this]
  cases hits f x
  ·exact find_inv f l
  ·rfl
theorem sh_val {x:Sh} {v:ByteArray} (h:shE x v=0):ratErr (shV x v)=0∧rv (shV x v)=rv x.ra * rv v+rv x.ex:=by
 unfold shE at h
 by_cases h1:mulE x.ra v=0
 ·rw [if_pos h1] at h
  obtain ⟨m1,m2⟩:=rv_mul h1
  have h2:=rv_add h
  refine ⟨sumS_rat h,?_⟩
  rw [show rv (shV x v)=rv (shM x v)+rv x.ex from h2]
  show rv (mkB (mulS x.ra v))+_=_
  rw [m2]
 ·rw [if_neg h1] at h;exact absurd h h1
theorem sh_two {x:Sh} {v:ByteArray} (hx:shGood x) (hv:ratErr v=0):shE x v=0∨shE x v=14:=by
 unfold shE
 split
 ·next a => exact add_two _ (rv_mul a).1 hx.2.2.2.2
 ·next a => exact (mul_two hx.2.2.1 hv).elim (fun k => absurd k a) .inr
theorem new_two {l:List Sh} (hl:∀ x ∈ l,shGood x) {f:Fx} (hf:ratErr f.vl=0):newE l f=0∨newE l f=14:=by
 unfold newE
 split
 ·exact .inl rfl
 ·next x hx => exact sh_two (hl x (List.mem_of_find?_eq_some hx)) hf
theorem new_rat {l:List Sh} {f:Fx} (hf:ratErr f.vl=0) (h:newE l f=0):ratErr (newV l f)=0:=by
 unfold newE at h
 unfold newV
 split
 ·exact hf
 ·next x hx =>
  rw [hx] at h
  exact (sh_val h).1
theorem new_back {l:List Sh} (hl:∀ x ∈ l,shGood x∧invE x=0) {f:Fx} (hf:ratErr f.vl=0) (h:newE l f=0) (h2:newE (l.map inv) (newF l f)=0):newF (l.map inv) (newF l f)=f:=by
 have hfind:(l.map inv).find? (hits (newF l f))=(l.find? (hits f)).map inv:=find_inv (newF l f) l
 have e:newV (l.map inv) (newF l f)=f.vl:=by
  unfold newE at h h2
  rw [hfind] at h2
  unfold newV
  rw [hfind]
  cases hx:l.find? (hits f) with
  | none => show newV l f=f.vl;unfold newV;rw [hx]
  | some x =>
   rw [hx] at h h2
   obtain ⟨hg,hi⟩:=hl x (List.mem_of_find?_eq_some hx)
   have hv:newV l f=shV x f.vl:=by unfold newV;rw [hx]
   obtain ⟨a1,a2⟩:=sh_val h
   have h3:shE (inv x) (newF l f).vl=0:=h2
   obtain ⟨b1,b2⟩:=sh_val h3
   obtain ⟨g1,c1,c2⟩:=inv_val hg hi
   refine rv_inj b1 hf ?_
   show rv (shV (inv x) (newF l f).vl)=rv f.vl
   rw [b2]
   show rv (inv x).ra * rv (newV l f)+_=_
   rw [hv,a2]
   have h5:rv (inv x).ex = -(rv (inv x).ra * rv x.ex):=by
    have h6:rv (inv x).ex * (rv (inv x).ra * rv x.ra) = -(rv (inv x).ra * rv x.ex):=by
     rw [show rv (inv x).ex * (rv (inv x).ra * rv x.ra)=rv (inv x).ra * (rv (inv x).ex * rv x.ra) by grind,c2]
     grind
    rw [c1,Rat.mul_one] at h6;exact h6
   rw [h5,show rv (inv x).ra * (rv x.ra * rv f.vl+rv x.ex) + -(rv (inv x).ra * rv x.ex)=(rv (inv x).ra * rv x.ra) * rv f.vl by grind,c1,Rat.one_mul]
 show (⟨f.nm,f.d,newV (l.map inv) (newF l f)⟩:Fx)=f
 rw [e]
theorem inc_mapF {l:List Fx} (g:Fx→Fx) (hg:∀ x,(g x).nm=x.nm∧(g x).d=x.d):incB Fx.lt (l.map g)=incB Fx.lt l:=by
 induction l with
 | nil => rfl
 | cons x l ih =>
  cases l with
  | nil => rfl
  | cons y l =>
   rw [List.map_cons] at ih
   rw [List.map_cons,List.map_cons]
   simp only [incB]
   rw [ih]
   unfold Fx.lt
   rw [(hg x).1,(hg x).2,(hg y).1,(hg y).2]
theorem env_map {F:List Fx} {C:List Ch} (h:envErr F C=0) (g:Fx→Fx) (hg:∀ x,(g x).nm=x.nm∧(g x).d=x.d) (hv:∀ f ∈ F,ratErr (g f).vl=0):envErr (F.map g) C=0:=by
 obtain ⟨h1,h2,h3,h4,h5⟩:=envErr_zero' h
 have h6:(F.map g).any fxBad=false:=by
  rw [List.any_eq_false] at h2 ⊢
  intro f hf
  obtain ⟨x,hx,rfl⟩:=List.mem_map.1 hf
  have:=h2 x hx
  unfold fxBad at this ⊢
  rw [(hg x).1,(hg x).2,hv x hx]
  simpa [fx_vals h x hx] using this
 unfold envErr
 rw [List.length_map,if_neg h1,h6,h3,inc_mapF g hg,h4,h5]
 rfl
theorem apply_parts {l:List Sh} {F:List Fx} {C:List Ch} (h:applyE l F C=0):scnB l=true∧envErr F C=0∧(∀ f ∈ F,newE l f=0)∧applyF l F C=F.map (newF l)∧applyC l F C=C:=by
 have h0:=h
 unfold applyE at h
 by_cases h1:scnB l=true
 ·rw [if_pos h1] at h
  by_cases h2:envErr F C=0
  ·rw [if_pos h2] at h
   exact ⟨h1,h2,fun f hf => errs_zero h _ (List.mem_map.2 ⟨f,hf,rfl⟩),(apply_ok h1 h2 h).2.1,(apply_ok h1 h2 h).2.2⟩
  ·rw [if_neg h2] at h;exact absurd h h2
 ·rw [if_neg h1] at h;cases h
theorem apply_two {l:List Sh} {F:List Fx} {C:List Ch} (h1:scnB l=true) (h2:envErr F C=0):applyE l F C=0∨applyE l F C=14:=by
 unfold applyE
 rw [if_pos h1,if_pos h2]
 exact errs_two fun e he => by
  obtain ⟨f,hf,rfl⟩:=List.mem_map.1 he
  exact new_two (scnB_parts h1).2.1 (fx_vals h2 f hf)
theorem back_law {l:List Sh} {F:List Fx} {C:List Ch} (hi:inverseE l=0) (ha:applyE l F C=0) :
  applyE (inverseL l) (applyF l F C) (applyC l F C)=14∨(applyE (inverseL l) (applyF l F C) (applyC l F C)=0∧applyF (inverseL l) (applyF l F C) (applyC l F C)=F∧applyC (inverseL l) (applyF l F C) (applyC l F C)=C):=by
 obtain ⟨hs,hv,hn,e1,e2⟩:=apply_parts ha
 obtain ⟨e3,hz,hb⟩:=scnB_inv hs hi
 rw [e1,e2,e3]
 have henv:envErr (F.map (newF l)) C=0:=env_map hv (newF l) (fun _ => ⟨rfl,rfl⟩) fun f hf => new_rat (fx_vals hv f hf) (hn f hf)
 rcases apply_two hb henv with h | h
 ·right
  obtain ⟨_,_,k1,k2,k3⟩:=apply_parts h
  refine ⟨h,?_,k3⟩
  rw [k2,List.map_map]
  conv => rhs;rw [← List.map_id F]
  exact List.map_congr_left fun f hf => new_back (fun x hx => ⟨(scnB_parts hs).2.1 x hx,hz x hx⟩) (fx_vals hv f hf) (hn f hf) (k1 _ (List.mem_map.2 ⟨f,hf,rfl⟩))
 ·exact .inl h
end Go.Proofs.YthdeijdimfjceaaGreatDoor

namespace Go.Proofs.YthdeijdimfjceaaGreatDoor
open Go.RowKit
noncomputable def conR (c:Con) (p m:ByteArray) (day:Int) (F:List Fx) (C:List Ch):ByteArray × Int :=
 if (befR c day 100000 F C).1 ≠ 0 then (⟨#[]⟩,(befR c day 100000 F C).1) else (netS p m (befR c day 100000 F C).2,netE p m (befR c day 100000 F C).2)
noncomputable def lossR (c:Con) (p m:ByteArray) (day:Int) (F:List Fx) (C:List Ch) (b:ByteArray) (s:List Sh):ByteArray × Int :=
 if applyE s F C ≠ 0 then (⟨#[]⟩,applyE s F C)
 else if (conR c p m day (applyF s F C) (applyC s F C)).2 ≠ 0 then (⟨#[]⟩,(conR c p m day (applyF s F C) (applyC s F C)).2)
 else (mkB (sumS b (conR c p m day (applyF s F C) (applyC s F C)).1 (subZ b (conR c p m day (applyF s F C) (applyC s F C)).1)),sumE b (conR c p m day (applyF s F C) (applyC s F C)).1 (subZ b (conR c p m day (applyF s F C) (applyC s F C)).1))
noncomputable def losE (l:List (List Sh)) (c:Con) (p m:ByteArray) (day:Int) (F:List Fx) (C:List Ch):Int :=
 if 100 < l.length then 4 else if (conR c p m day F C).2 ≠ 0 then (conR c p m day F C).2 else errs (l.map fun s => (lossR c p m day F C (conR c p m day F C).1 s).2)
noncomputable def losL (l:List (List Sh)) (c:Con) (p m:ByteArray) (day:Int) (F:List Fx) (C:List Ch):List ByteArray :=
 if losE l c p m day F C=0 then l.map fun s => (lossR c p m day F C (conR c p m day F C).1 s).1 else []
theorem los_nil {l:List (List Sh)} {c:Con} {p m:ByteArray} {day:Int} {F:List Fx} {C:List Ch} (h:losE l c p m day F C ≠ 0):losL l c p m day F C=[]:=by unfold losL;rw [if_neg h]
end Go.Proofs.YthdeijdimfjceaaGreatDoor

namespace Go.Proofs.YthdeijdimfjceaaGreatDoor
open Go.RowKit
def ConP (w:World) (R:ByteArray × Int) (e:Ending) (w':World):Prop:=e = .returned (.tuple #[.string R.1,.int .i64 R.2])∧Below w.heap.size w w'
set_option maxHeartbeats 2000000 in
set_option maxRecDepth 100000 in
theorem value32_any (c:Con) (es dd ss:Value) (p m:ByteArray) (day:Int) (E:EvD) (w:World) (hA:BfH c es dd ss E w) (hp:p.size≤1100000) (hm:m.size≤1100000) :
  Calls Tryz.prog 13 #[c.val es dd ss,.string p,.string m,.int .i64 day,E.val] w (ConP w (conR c p m day E.F E.C)):=by
 obtain ⟨p1,pn1,rfl⟩:=hA.rd.1.len
 obtain ⟨p2,pn2,rfl⟩:=hA.rd.2.1.len
 obtain ⟨p3,pn3,rfl⟩:=hA.rd.2.2.1.len
 obtain ⟨W0,hW0,hb0,hz0,bx⟩:=bx2_world w c (.slice p1 c.ex.sub.length pn1) (.slice p2 c.ds.length pn2) (.slice p3 c.sub.length pn3) E
 have HF:=Lib.hid (mflows_any c _ _ _ day E W0 (hA.frame hb0))
 have HV:Hid (conR c p m day E.F E.C=if (befR c day 100000 E.F E.C).1 ≠ 0 then (⟨#[]⟩,(befR c day 100000 E.F E.C).1) else (netS p m (befR c day 100000 E.F E.C).2,netE p m (befR c day 100000 E.F E.C).2)):=Lib.hid rfl
 have HO:Hid ((befR c day 100000 E.F E.C).1=0→flowsErr (befR c day 100000 E.F E.C).2=0):=Lib.hid fun h => (flows_ok h).2.1
 have HY:Hid ((befR c day 100000 E.F E.C).2.length≤1100000):=Lib.hid (Nat.le_trans (befR_len _ _ _ _ _) hA.bulk)
 generalize befR c day 100000 E.F E.C=R at HF HV HO HY
 generalize conR c p m day E.F E.C=V at HV ⊢
 obtain ⟨k0,k1,k2,k3,k4,k5,k6,k7,k8,k9,k10,k11,v0,v1⟩:=bx.all
 have Hb0:=Lib.hid hb0
 clear hA bx hb0
 unfold Con.val EvD.val at HF ⊢
 go_enter Tryz.func13,Tryz.ntmps13
 go_upto_region 1 with (fail)
 clear hW0
 go_wp2_with fail
 refine HF.out.mono ?_
 rintro e w1 ⟨ad,cp,rfl,hb1,l1,n1,r1⟩
 have Hb1:=Lib.hid (Hb0.out.trans (hb1.mono Hb0.out.size))
 obtain ⟨ef,L⟩:=R
 clear k0 k1 k2 k3 k4 k5 k6 k7 k8 k9 k10 k11 v0 v1 HF hb1 Hb0 l1 n1
 by_cases he:ef=0
 case neg =>
  have t1:(ef != 0)=true:=by rw [bne_iff_ne];exact he
  have HE:Hid (V=(⟨#[]⟩,ef)):=Lib.hid (by rw [HV.out];exact if_pos he)
  clear he HO HV HY
  go_wp2
  go_ret2
  exact ⟨by rw [HE.out];rfl,Hb1.out⟩
 subst he
 have hfe:=HO.out rfl
 have HN:=Lib.hid (net_any L p m ad cp w1 HY.out r1 (fun f hf => (flow_small hfe f hf).1) hp hm (fun f hf => by have:=(flow_small hfe f hf).2;omega))
 have HE:Hid (V=(netS p m L,netE p m L)):=Lib.hid (by rw [HV.out];exact if_neg (fun k => k rfl))
 unfold netPost at HN
 clear HO HV HY hfe r1 hp hm
 generalize netS p m L=S at HN HE
 generalize netE p m L=N at HN HE
 go_wp2_with fail
 refine HN.out.mono ?_
 rintro e w2 ⟨rfl,hb2⟩
 have Hb2:=Lib.hid (Hb1.out.trans (hb2.mono Hb1.out.size))
 clear hb2 HN
 go_wp2
 go_ret2
 exact ⟨by rw [HE.out];rfl,Hb2.out⟩
structure BxL (W:World) (B:Nat) (c:Con) (es dd ss:Value) (p m:ByteArray) (day:Int) (E:EvD):Prop where
 c:BoxN W B 51 (c.cells es dd ss)
 p:BoxN W (B+1) 9 [.string p]
 m:BoxN W (B+1+1) 9 [.string m]
 d:BoxN W (B+1+1+1) 3 [.int .i64 day]
 v:BoxN W (B+1+1+1+1) 32 [.slice E.af E.F.length E.cf,.slice E.ac E.C.length E.cc]
theorem BxL.below {W W':World} {B:Nat} {c:Con} {es dd ss:Value} {p m:ByteArray} {day:Int} {E:EvD} (h:BxL W B c es dd ss p m day E) (hb:Below W.heap.size W W'):BxL W' B c es dd ss p m day E :=
 ⟨h.c.below hb h.c.lt,h.p.below hb h.p.lt,h.m.below hb h.m.lt,h.d.below hb h.d.lt,h.v.below hb h.v.lt⟩
theorem bxl_world (w:World) (c:Con) (es dd ss:Value) (p m:ByteArray) (day:Int) (E:EvD):∃ W,((((w.alloc (.cells #[.int .u8 c.k,.string c.fr,.string c.rc,.string c.nm,.int .u8 c.ex.k,.string c.ex.ra,.string c.ex.nm,.int .i64 c.ex.d,es,.int .i64 c.d,dd,ss] 51)).alloc (.cells #[.string p] 9)).alloc (.cells #[.string m] 9)).alloc (.cells #[.int .i64 day] 3)).alloc (.cells #[.slice E.af E.F.length E.cf,.slice E.ac E.C.length E.cc] 32)=W∧Below w.heap.size w W∧w.heap.size+5≤W.heap.size∧BxL W w.heap.size c es dd ss p m day E:=by
 refine ⟨_,rfl,((below_a3 w _ _ _).trans ((below_a2 _ _ _).mono (by simp;omega))),by simp,?_⟩
 have h1:=BoxN.new w (c.cells es dd ss) 51
 have h2:=BoxN.new (w.alloc (.cells (c.cells es dd ss).toArray 51)) [.string p] 9
 have h3:=BoxN.new ((w.alloc (.cells (c.cells es dd ss).toArray 51)).alloc (.cells #[.string p] 9)) [.string m] 9
 have h4:=BoxN.new (((w.alloc (.cells (c.cells es dd ss).toArray 51)).alloc (.cells #[.string p] 9)).alloc (.cells #[.string m] 9)) [.int .i64 day] 3
 have h5:=BoxN.new ((((w.alloc (.cells (c.cells es dd ss).toArray 51)).alloc (.cells #[.string p] 9)).alloc (.cells #[.string m] 9)).alloc (.cells #[.int .i64 day] 3)) [.slice E.af E.F.length E.cf,.slice E.ac E.C.length E.cc] 32
 simp only [World.size_alloc] at h2 h3 h4 h5
 exact ⟨(((h1.alloc _).alloc _).alloc _).alloc _,((h2.alloc _).alloc _).alloc _,(h3.alloc _).alloc _,h4.alloc _,h5⟩
set_option maxHeartbeats 2000000 in
set_option maxRecDepth 100000 in
theorem valueF_any (c:Con) (es dd ss:Value) (p m:ByteArray) (day:Int) (E E0:EvD) (B:Nat) (w:World) (hx:BxL w B c es dd ss p m day E0) (hA:BfH c es dd ss E w) (hp:p.size≤1100000) (hm:m.size≤1100000) :
  Calls Tryz.prog 39 #[E.val,.pointer (some ⟨B,0,none⟩),.pointer (some ⟨B+1,0,none⟩),.pointer (some ⟨B+1+1,0,none⟩),.pointer (some ⟨B+1+1+1,0,none⟩)] w (ConP w (conR c p m day E.F E.C)):=by
 obtain ⟨p1,pn1,rfl⟩:=hA.rd.1.len
 obtain ⟨p2,pn2,rfl⟩:=hA.rd.2.1.len
 obtain ⟨p3,pn3,rfl⟩:=hA.rd.2.2.1.len
 obtain ⟨W0,hW0,hb0,bv⟩:∃ W,w.alloc (.cells #[.slice E.af E.F.length E.cf,.slice E.ac E.C.length E.cc] 32)=W∧Below w.heap.size w W∧BoxN W w.heap.size 32 [.slice E.af E.F.length E.cf,.slice E.ac E.C.length E.cc]:=⟨_,rfl,below_a1 _ _,BoxN.new w _ _⟩
 have HV:=Lib.hid (value32_any c _ _ _ p m day E W0 (hA.frame hb0) hp hm)
 have hx0:=hx.below hb0
 have k0:W0.cell? ⟨B,0,none⟩=some (.int .u8 c.k):=hx0.c.cell (j:=0) rfl
 have k1:W0.cell? ⟨B,1,none⟩=some (.string c.fr):=hx0.c.cell (j:=1) rfl
 have k2:W0.cell? ⟨B,2,none⟩=some (.string c.rc):=hx0.c.cell (j:=2) rfl
 have k3:W0.cell? ⟨B,3,none⟩=some (.string c.nm):=hx0.c.cell (j:=3) rfl
 have k4:W0.cell? ⟨B,4,none⟩=some (.int .u8 c.ex.k):=hx0.c.cell (j:=4) rfl
 have k5:W0.cell? ⟨B,5,none⟩=some (.string c.ex.ra):=hx0.c.cell (j:=5) rfl
 have k6:W0.cell? ⟨B,6,none⟩=some (.string c.ex.nm):=hx0.c.cell (j:=6) rfl
 have k7:W0.cell? ⟨B,7,none⟩=some (.int .i64 c.ex.d):=hx0.c.cell (j:=7) rfl
 have k8:W0.cell? ⟨B,8,none⟩=some (.slice p1 c.ex.sub.length pn1):=hx0.c.cell (j:=8) rfl
 have k9:W0.cell? ⟨B,9,none⟩=some (.int .i64 c.d):=hx0.c.cell (j:=9) rfl
 have k10:W0.cell? ⟨B,10,none⟩=some (.slice p2 c.ds.length pn2):=hx0.c.cell (j:=10) rfl
 have k11:W0.cell? ⟨B,11,none⟩=some (.slice p3 c.sub.length pn3):=hx0.c.cell (j:=11) rfl
 have kp:W0.cell? ⟨B+1,0,none⟩=some (.string p):=hx0.p.cell (j:=0) rfl
 have km:W0.cell? ⟨B+1+1,0,none⟩=some (.string m):=hx0.m.cell (j:=0) rfl
 have kd:W0.cell? ⟨B+1+1+1,0,none⟩=some (.int .i64 day):=hx0.d.cell (j:=0) rfl
 have v0:W0.cell? ⟨w.heap.size,0,none⟩=some (.slice E.af E.F.length E.cf):=bv.cell (j:=0) rfl
 have v1:W0.cell? ⟨w.heap.size,1,none⟩=some (.slice E.ac E.C.length E.cc):=bv.cell (j:=1) rfl
 have Hb0:=Lib.hid hb0
 unfold ConP at HV
 generalize conR c p m day E.F E.C=R at HV ⊢
 clear hA hx hx0 bv hb0 hp hm
 unfold Con.val EvD.val at HV
 unfold EvD.val
 go_enter Tryz.func39,Tryz.ntmps39
 go_upto_region 1 with (fail)
 clear hW0
 go_wp2_with fail
 refine HV.out.mono ?_
 rintro e w1 ⟨rfl,hb1⟩
 have Hb1:=Lib.hid (Hb0.out.trans (hb1.mono Hb0.out.size))
 clear k0 k1 k2 k3 k4 k5 k6 k7 k8 k9 k10 k11 kp km kd v0 v1 hb1 HV
 go_wp2
 go_ret2
 exact ⟨rfl,Hb1.out⟩
end Go.Proofs.YthdeijdimfjceaaGreatDoor

namespace Go.Proofs.YthdeijdimfjceaaGreatDoor
open Go.RowKit
theorem rd_fx {w:World} {base n c:Nat} {e:TypeId} {a:Option Addr} {l:List Fx} (h:w.ownsRow base e 3 (.slice a n c) n (l.flatMap Fx.cells)):Rd Fx.cells 3 w a l:=by
 obtain ⟨hl,h2⟩:=h
 have e:n=l.length:=by rw [flat_length Fx.cells 3 (fun _ => rfl)] at hl;omega
 subst e
 exact Rd.of_sl (enc:=Fx.cells) (m:=3) (fun _ => rfl) (by decide) (Sl.of_owns ⟨hl,h2⟩)
theorem rd_ch {w:World} {base n c:Nat} {e:TypeId} {a:Option Addr} {l:List Ch} (h:w.ownsRow base e 4 (.slice a n c) n (l.flatMap Ch.cells)):Rd Ch.cells 4 w a l:=by
 obtain ⟨hl,h2⟩:=h
 have e:n=l.length:=by rw [flat_length Ch.cells 4 (fun _ => rfl)] at hl;omega
 subst e
 exact Rd.of_sl (enc:=Ch.cells) (m:=4) (fun _ => rfl) (by decide) (Sl.of_owns ⟨hl,h2⟩)
end Go.Proofs.YthdeijdimfjceaaGreatDoor

namespace Go.Proofs.YthdeijdimfjceaaGreatDoor
open Go.RowKit
def shV4 (nm:ByteArray) (fr:Int) (ra ex:ByteArray):Value:=.agg #[.string nm,.int .i64 fr,.string ra,.string ex]
def Sh.val (f:Sh):Value:=shV4 f.nm f.fr f.ra f.ex
def shZero:Value:=.agg #[.string ⟨#[]⟩,.int .i64 0,.string ⟨#[]⟩,.string ⟨#[]⟩]
def heldElem (v:Value):Option (DataW Value × List MemPlace):=some (.held v,[])
def litS (n:ByteArray):Lit:=.string n.data.toList
theorem litS_ne {a b:ByteArray} (h:a ≠ b):litS a ≠ litS b:=fun e => h (by
 have e1:a.data.toList=b.data.toList:=Lit.string.inj e
 exact ByteArray.ext (Array.toList_inj.1 e1))
def putSh (m:DataW Value) (x:Sh):DataW Value:=m.put (litS x.nm) (.held x.val)
def mapSh (l:List Sh):DataW Value:=l.foldl putSh (.map [])
theorem mapSh_snoc (l:List Sh) (x:Sh):mapSh (l ++ [x])=putSh (mapSh l) x:=by rw [mapSh,List.foldl_append];rfl
theorem litS_key (n:ByteArray):WideAt.IsKeyLit (litS n):=trivial
theorem fold_miss (n:ByteArray) (z:DataW Value):∀ (l:List Sh) (m:DataW Value),(∀ x ∈ l,x.nm ≠ n)→Maps.has (l.foldl putSh m) (litS n)=Maps.has m (litS n)∧(l.foldl putSh m).atKey (litS n) z=m.atKey (litS n) z
 | [],_,_ => ⟨rfl,rfl⟩
 | y :: l,m,h => by
  have hy:litS n ≠ litS y.nm:=(litS_ne (h y (by simp))).symm
  obtain ⟨h1,h2⟩:=fold_miss n z l (putSh m y) (fun x hx => h x (by simp [hx]))
  rw [List.foldl_cons]
  exact ⟨h1.trans (Maps.has_put_other hy _),h2.trans (Maps.atKey_put_other hy _ _)⟩
theorem fold_hit (x:Sh) (z:DataW Value):∀ (l:List Sh) (m:DataW Value),Maps.IsMap m→l.Pairwise (fun a b => a.nm ≠ b.nm)→x ∈ l→Maps.has (l.foldl putSh m) (litS x.nm)=true∧(l.foldl putSh m).atKey (litS x.nm) z = .held x.val
 | [],_,_,_,h => by cases h
 | y :: l,m,hm,hp,h => by
  rw [List.foldl_cons]
  obtain ⟨hp1,hp2⟩:=List.pairwise_cons.1 hp
  rcases List.mem_cons.1 h with rfl | h
  ·obtain ⟨h1,h2⟩:=fold_miss x.nm z l (putSh m x) (fun y hy e => hp1 y hy e.symm)
   exact ⟨h1.trans (Maps.has_put_same hm (litS_key _) _),h2.trans (Maps.atKey_put_same hm (litS_key _) _ _)⟩
  ·exact fold_hit x z l (putSh m y) (hm.put _ _) hp2 h
theorem mapSh_miss {l:List Sh} {n:ByteArray} (h:∀ x ∈ l,x.nm ≠ n) (z:DataW Value):Maps.has (mapSh l) (litS n)=false∧(mapSh l).atKey (litS n) z=z:=by
 obtain ⟨h1,h2⟩:=fold_miss n z l (.map []) h
 exact ⟨h1,h2⟩
theorem mapSh_hit {l:List Sh} {x:Sh} (hp:l.Pairwise (fun a b => a.nm ≠ b.nm)) (h:x ∈ l) (z:DataW Value):Maps.has (mapSh l) (litS x.nm)=true∧(mapSh l).atKey (litS x.nm) z = .held x.val :=
 fold_hit x z l (.map []) Maps.isMap_empty hp h
theorem find_name {l:List Sh} (n:ByteArray):(∀ x ∈ l,x.nm ≠ n)∨∃ x ∈ l,x.nm=n:=by
 by_cases h:∃ x ∈ l,x.nm=n
 ·exact .inr h
 ·exact .inl fun x hx e => h ⟨x,hx,e⟩
theorem find_none {l:List Sh} {f:Fx} (h:∀ x ∈ l,x.nm ≠ f.nm):l.find? (hits f)=none:=by
 rw [List.find?_eq_none]
 intro x hx
 rw [hits,decide_eq_false (h x hx)];simp
theorem hits_name {f:Fx} {x:Sh} (h:x.nm ≠ f.nm) : ¬ hits f x=true:=by rw [hits,decide_eq_false h];simp
theorem hits_early {f:Fx} {x:Sh} (h:f.d < x.fr) : ¬ hits f x=true:=by rw [hits,decide_eq_false (p:=x.fr≤f.d) (by omega)];simp
theorem find_early {f:Fx} {x:Sh}:∀ {l:List Sh},l.Pairwise (fun a b => a.nm ≠ b.nm)→x ∈ l→x.nm=f.nm→f.d < x.fr→l.find? (hits f)=none
 | [],_,h,_,_ => by cases h
 | y :: l,hp,h,hn,hd => by
  obtain ⟨hp1,hp2⟩:=List.pairwise_cons.1 hp
  rcases List.mem_cons.1 h with rfl | h
  ·rw [List.find?_cons_of_neg (hits_early hd)]
   exact find_none fun z hz e => hp1 z hz (hn.trans e.symm)
  ·rw [List.find?_cons_of_neg (hits_name fun e => hp1 x h (e.trans hn.symm))]
   exact find_early hp2 h hn hd
theorem find_there {f:Fx} {x:Sh}:∀ {l:List Sh},l.Pairwise (fun a b => a.nm ≠ b.nm)→x ∈ l→x.nm=f.nm→¬ f.d < x.fr→l.find? (hits f)=some x
 | [],_,h,_,_ => by cases h
 | y :: l,hp,h,hn,hd => by
  obtain ⟨hp1,hp2⟩:=List.pairwise_cons.1 hp
  rcases List.mem_cons.1 h with rfl | h
  ·rw [List.find?_cons_of_pos]
   rw [hits,decide_eq_true hn,decide_eq_true (show x.fr≤f.d by omega)];rfl
  ·rw [List.find?_cons_of_neg (hits_name fun e => hp1 x h (e.trans hn.symm))]
   exact find_there hp2 h hn hd
theorem wpList_lookup_held {P:Program} (w:World) {ops:Array Oper} {rest:List Oper} {o:Oper} {a:Act} {Q:Exit→Act→World→Prop} (hg:o.guard=none) (m x:Operand) (t:TypeId) (hop:o.op=Op.lookup t m x true)
  (k e:TypeId) (K:Maps.Keyed P k) (ht:P.underlying t=some (.map k e)) (z:Value) (hz:(zeroValue e).run P w = .ok z w) (b n:Nat) (D:DataW Value)
  (hm:a.eval m = .map (some b)) (hown:w.ownsMap P k heldElem b n D) (key:Value) (kl:Lit) (hx:a.eval x=key) (hkey:keyOf P k key=some kl) (u:Value) (c:Bool) (hc:Maps.has D kl=c) (hu:D.atKey kl (.held z) = .held u)
  (hK:wpList P ops Q rest (a.put o.dst (.tuple #[u,.bool c])) w) :
  wpList P ops Q (o :: rest) a w :=
 wpList_lookup_own_ok w hg m x t hop k e K ht heldElem hz (.held z) [] rfl b n D hm hown key kl hx hkey (fun v ps hv => by
  rw [hu] at hv
  obtain rfl:v=u:=by simpa [heldElem] using (Prod.mk.inj (Option.some.inj hv)).1
  rw [hc]
  exact hK)
theorem ul_shmap:Tryz.prog.underlying 76=some (.map 9 24):=by kernel_rfl
theorem zero_shift (w:World):(zeroValue 24).run Tryz.prog w = .ok shZero w:=by kernel_rfl
theorem law_str:Maps.Keyed Tryz.prog 9:=Maps.string_keyed Tryz.underlying9
theorem key_str {n:ByteArray} (h:n.size≤1100000):keyOf Tryz.prog 9 (.string n)=some (litS n) :=
 Go.WideMaps.keyOf_string_mk Tryz.underlying9 (by unfold maxLen;omega)
end Go.Proofs.YthdeijdimfjceaaGreatDoor

namespace Go.Proofs.YthdeijdimfjceaaGreatDoor
open Go.RowKit
theorem rplus_step (A Bv O P x y c d r:Nat) (h:O+c * P=A+Bv) (hd:d+r * 10=x+y+c):(O+P * d)+r * (P * 10)=(A+P * x)+(Bv+P * y):=by
 have e1:P * (d+r * 10)=P * (x+y+c):=by rw [hd]
 rw [Nat.mul_add,Nat.mul_add,Nat.mul_add] at e1
 have e2:P * (r * 10)=r * (P * 10):=by rw [← Nat.mul_assoc,← Nat.mul_assoc,Nat.mul_comm P r]
 rw [e2] at e1
 rw [Nat.mul_comm c P] at h
 omega
def RPlusInv (xs ys o:List Nat) (k c:Nat):Prop :=
 o.length=k∧Dig 10 o∧val 10 o+c * 10 ^ k=val 10 (xs.take k)+val 10 (ys.take k)
theorem RPlusInv.start (xs ys:List Nat):RPlusInv xs ys [] 0 0:=⟨rfl,Dig.nil _,by simp [val]⟩
theorem RPlusInv.step {xs ys o:List Nat} {k c d r:Nat} (h:RPlusInv xs ys o k c) (hd:d < 10) (e:d+r * 10=xs.getD k 0+ys.getD k 0+c):RPlusInv xs ys (o ++ [d]) (k+1) r:=by
 obtain ⟨h1,h2,h3⟩:=h
 refine ⟨by simp [h1],h2.snoc hd,?_⟩
 rw [val_take_succ,val_take_succ,val_snoc,h1,Nat.pow_succ]
 exact rplus_step _ _ _ _ _ _ _ _ _ h3 e
theorem RPlusInv.fin {xs ys o:List Nat} {m c:Nat} (h:RPlusInv xs ys o (m+1) c) (dx:Dig 10 xs) (dy:Dig 10 ys) (h1:xs.length≤m) (h2:ys.length≤m):val 10 o=val 10 xs+val 10 ys:=by
 obtain ⟨_,_,h3⟩:=h
 rw [List.take_of_length_le (by omega),List.take_of_length_le (by omega)] at h3
 have a:=Nat.lt_of_lt_of_le (val_lt dx) (Nat.pow_le_pow_right (by decide) h1)
 have b:=Nat.lt_of_lt_of_le (val_lt dy) (Nat.pow_le_pow_right (by decide) h2)
 rw [Nat.pow_succ] at h3
 generalize 10 ^ m=P at a b h3
 rcases Nat.eq_zero_or_pos c with rfl | hc
 ·omega
 ·have:P * 10≤c * (P * 10):=Nat.le_mul_of_pos_left _ hc
  omega
end Go.Proofs.YthdeijdimfjceaaGreatDoor

namespace Go.Proofs.YthdeijdimfjceaaGreatDoor
open Go.RowKit
def RTOut (xs ys os:List Nat) (k:Nat):Prop :=
 os.length=xs.length+ys.length∧(∀ i,os.getD i 0≤81 * k)∧val 10 os=val 10 (xs.take k) * val 10 ys
def RTIn (xs ys os:List Nat) (k x j:Nat):Prop :=
 os.length=xs.length+ys.length∧(∀ i,os.getD i 0≤81 * (k+1))∧(∀ i,k+j≤i→os.getD i 0≤81 * k) ∧
  val 10 os=val 10 (xs.take k) * val 10 ys+x * val 10 (ys.take j) * 10 ^ k
theorem getD_zeros (n i:Nat):(List.replicate n 0).getD i 0=0:=by
 simp only [List.getD,List.getElem?_replicate];split <;> rfl
theorem RTOut.start (xs ys:List Nat):RTOut xs ys (List.replicate (xs.length+ys.length) 0) 0 :=
 ⟨by simp,fun i => by rw [getD_zeros];omega,by rw [val_zeros];simp [val]⟩
theorem RTOut.into {xs ys os:List Nat} {k:Nat} (h:RTOut xs ys os k) (x:Nat):RTIn xs ys os k x 0 :=
 ⟨h.1,fun i => by have:=h.2.1 i;omega,fun i _ => h.2.1 i,by rw [h.2.2];simp [val]⟩
theorem getD_set_eq (os:List Nat) (i d:Nat) (h:i < os.length):(os.set i d).getD i 0=d:=by simp [List.getD,h]
theorem getD_set_far (os:List Nat) (i j d:Nat) (h:i ≠ j):(os.set i d).getD j 0=os.getD j 0:=by simp only [List.getD];rw [List.getElem?_set_ne h]
theorem RTIn.step {xs ys os:List Nat} {k x j y q p:Nat} (h:RTIn xs ys os k x j) (hk:k < xs.length) (hj:j < ys.length) (hy:y=ys.getD j 0) (hq:q=os.getD (k+j) 0) (hp:p=x * y) (h81:p≤81) :
  RTIn xs ys (os.set (k+j) (q+p)) k x (j+1):=by
 obtain ⟨h1,h2,h3,h4⟩:=h
 have hl:k+j < os.length:=by omega
 have hq2:=h3 (k+j) (Nat.le_refl _)
 rw [← hq] at hq2
 refine ⟨by simpa using h1,fun i => ?_,fun i hi => ?_,?_⟩
 ·by_cases hi:k+j=i
  ·subst hi;rw [getD_set_eq _ _ _ hl];omega
  ·rw [getD_set_far _ _ _ _ hi];exact h2 i
 ·rw [getD_set_far _ _ _ _ (by omega)];exact h3 i (by omega)
 ·have e1:=val_set 10 os (k+j) (q+p) hl
  rw [← hq,Nat.mul_add] at e1
  rw [val_take_succ,← hy]
  have e4:10 ^ j * 10 ^ k=10 ^ (k+j):=by rw [← Nat.pow_add,Nat.add_comm]
  have e7:x * (val 10 (ys.take j)+10 ^ j * y) * 10 ^ k=x * val 10 (ys.take j) * 10 ^ k+10 ^ (k+j) * p:=by
   rw [← e4,hp];grind
  rw [e7]
  omega
theorem RTIn.fin {xs ys os:List Nat} {k:Nat} (h:RTIn xs ys os k (xs.getD k 0) ys.length):RTOut xs ys os (k+1):=by
 obtain ⟨h1,h2,h3,h4⟩:=h
 rw [List.take_of_length_le (Nat.le_refl _)] at h4
 refine ⟨h1,h2,?_⟩
 rw [h4,val_take_succ,Nat.add_mul]
 congr 1
 grind
def RTFin (os:List Nat) (N B V k:Nat):Prop :=
 os.length=N∧(∀ i,i < k→os.getD i 0 < 10)∧os.getD k 0≤2 * B∧(∀ i,k < i→os.getD i 0≤B)∧val 10 os=V
theorem RTOut.fin {xs ys os:List Nat} {N:Nat} (h:RTOut xs ys os xs.length) (hN:N=xs.length+ys.length):RTFin os N (81 * xs.length) (val 10 xs * val 10 ys) 0:=by
 obtain ⟨h1,h2,h3⟩:=h
 rw [List.take_of_length_le (Nat.le_refl _)] at h3
 exact ⟨by omega,fun i hi => by omega,by have:=h2 0;omega,fun i _ => h2 i,h3⟩
theorem RTFin.step {os:List Nat} {N B V k q r:Nat} (h:RTFin os N B V k) (hk:k+1 < N) (hq:q=os.getD k 0) (hr:r=os.getD (k+1) 0) :
  RTFin ((os.set (k+1) (r+q / 10)).set k (q % 10)) N B V (k+1):=by
 obtain ⟨h1,h2,h3,h4,h5⟩:=h
 have hr2:=h4 (k+1) (by omega)
 rw [← hr] at hr2
 rw [← hq] at h3
 refine ⟨by simpa using h1,fun i hi => ?_,?_,fun i hi => ?_,?_⟩
 ·by_cases hik:k=i
  ·subst hik;rw [getD_set_eq _ _ _ (by simp;omega)];exact Nat.mod_lt _ (by decide)
  ·rw [getD_set_far _ _ _ _ hik,getD_set_far _ _ _ _ (by omega)];exact h2 i (by omega)
 ·rw [getD_set_far _ _ _ _ (by omega),getD_set_eq _ _ _ (by omega)];omega
 ·rw [getD_set_far _ _ _ _ (by omega),getD_set_far _ _ _ _ (by omega)];exact h4 i (by omega)
 ·have e1:=val_set 10 os (k+1) (r+q / 10) (by omega)
  have e2:=val_set 10 (os.set (k+1) (r+q / 10)) k (q % 10) (by simp;omega)
  rw [getD_set_far _ _ _ _ (by omega),← hq] at e2
  rw [← hr,Nat.mul_add] at e1
  have e3:=Nat.div_add_mod q 10
  have e4:10 ^ k * q=10 ^ k * (10 * (q / 10)+q % 10):=by rw [e3]
  rw [Nat.mul_add,← Nat.mul_assoc] at e4
  have e5:10 ^ (k+1)=10 ^ k * 10:=Nat.pow_succ ..
  rw [e5] at e1
  omega
theorem RTFin.done {os:List Nat} {N B V k:Nat} (h:RTFin os N B V k) (hk:N≤k+1) (hk2:k < N∨N=0) (hV:V < 10 ^ N):Dig 10 os:=by
 obtain ⟨h1,h2,h3,h4,h5⟩:=h
 intro x hx
 obtain ⟨i,hi⟩:=List.getElem?_of_mem hx
 have hil:=(List.getElem?_eq_some_iff.1 hi).1
 have e:os.getD i 0=x:=by simp [List.getD,hi]
 rcases hk2 with hk2 | hk2
 ·by_cases hik:i < k
  ·rw [← e];exact h2 i hik
  ·obtain rfl:i=k:=by omega
   have e1:=val_split 10 os i (by omega)
   have e2:=val_drop 10 os i hil
   have ed:os.drop (i+1)=[]:=List.drop_of_length_le (by omega)
   rw [e,ed] at e2
   rw [e2] at e1
   have e3:10 ^ i * x≤V:=by rw [← h5,e1];simp [val]
   have e4:N=i+1:=by omega
   rw [e4,Nat.pow_succ] at hV
   exact Nat.lt_of_mul_lt_mul_left (Nat.lt_of_le_of_lt e3 hV)
 ·omega
end Go.Proofs.YthdeijdimfjceaaGreatDoor

namespace Go.Proofs.YthdeijdimfjceaaGreatDoor
open Go.RowKit
theorem new_none {l:List Sh} {f:Fx} (h:l.find? (hits f)=none):newE l f=0∧newV l f=f.vl:=by rw [newE,newV,h];exact ⟨rfl,rfl⟩
theorem new_some {l:List Sh} {f:Fx} {x:Sh} (h:l.find? (hits f)=some x):newE l f=shE x f.vl∧newV l f=shV x f.vl:=by rw [newE,newV,h];exact ⟨rfl,rfl⟩
theorem shE_mul {x:Sh} {v:ByteArray} (h:mulE x.ra v ≠ 0):shE x v=mulE x.ra v:=by rw [shE,if_neg h]
theorem shE_add {x:Sh} {v:ByteArray} (h:mulE x.ra v=0):shE x v=addE (shM x v) x.ex:=by rw [shE,if_pos h]
end Go.Proofs.YthdeijdimfjceaaGreatDoor

namespace Go.Proofs.YthdeijdimfjceaaGreatDoor
open Go.RowKit
def OfPost (w:World) (t:ByteArray) (e:Ending) (w':World):Prop:=e = .returned (.string t)∧Below w.heap.size w w'
set_option maxHeartbeats 1000000 in
set_option maxRecDepth 100000 in
theorem iof_zero (w:World):Calls Tryz.prog 56 #[.int .i64 0] w (OfPost w ⟨#[48]⟩):=by
 obtain ⟨i0,hi,hz0,hz1,hz2⟩:=info_parts Tryz.info_u8
 go_enter Tryz.func56,Tryz.ntmps56
 go_wp2_with fail
 go_loopw [0,3] (fun nv bv wr => nv = .int .i64 0∧bv = .slice none 0 0∧wr=w) (fun _ _ _ => 0)
 case atStart => exact ⟨rfl,rfl,rfl⟩
 case round =>
  obtain ⟨rfl,rfl,rfl⟩:=hrel
  have hown0:wr.ownsRow wr.heap.size 5 1 (.slice none 0 0) 0 []:=World.ownsRow_nil _ _ _ _
  go_wp2_with (at_builtin;refine wpList_append_own _ rfl _ _ 156 rfl wr.heap.size 5 i0 (.int .u8 0) 1 1 Tryz.ul_bytes hi hz0 hz1 hz2 rfl (by decide) _ _ _ rfl (hown0.alloc _) ⟨wr.heap.size,0,none⟩ 1 1 [_] rfl rfl (cell_one_new _ _ _) (int_oneCell _ _) ?d1 ?d2 ?d3 ?_)
  case d1 => unfold maxLen;omega
  case d2 => omega
  case d3 => simp
  intro v2 w2 hown2 hgrow2 _
  have hbel2:Below wr.heap.size wr w2:=((Below.refl _ _).alloc (Nat.le_refl _) _).grown hgrow2 (by simp) (fun k hk => by cases hk)
  obtain ⟨g2,cap2,rfl,hg2,_,_⟩:=own_shape hown2 (by omega)
  clear hgrow2 hown0
  have ho:w2.ownsRow wr.heap.size 5 1 (.slice (some ⟨g2,0,none⟩) 1 cap2) 1 (nums .u8 [48]):=hown2
  have C:=Lib.hid (reverse_any g2 cap2 wr.heap.size [48] w2 ho (by decide))
  clear hown2 ho
  go_wp2_with fail
  refine C.out.mono ?_
  rintro e w5 ⟨rfl,hr,hg⟩
  have hcv:=run_convert_bytes_back (P:=Tryz.prog) w5 156 108 5 ⟨g2,0,none⟩ cap2 [48] Tryz.ul_bytes Tryz.ul_u8 Tryz.ul_Int
   (cells_bytes (ns:=[48]) hr rfl (by decide))
  simp only [List.length_cons,List.length_nil,Nat.reduceAdd] at hcv
  have hbelz:Below wr.heap.size wr w5:=hbel2.grown hg hbel2.size (fun k hk => by cases hk;exact hg2)
  clear hr hg C
  go_wp2
  go_ret
  exact ⟨rfl,hbelz⟩
set_option maxHeartbeats 1000000 in
set_option maxRecDepth 100000 in
theorem rof_zero (w:World):Calls Tryz.prog 27 #[.int .i64 0] w (OfPost w ⟨#[48]⟩):=by
 go_enter Tryz.func27,Tryz.ntmps27
 go_wp2_with fail
 refine (iof_zero w).mono ?_
 rintro e w1 ⟨rfl,hb⟩
 go_wp2
 go_ret
 exact ⟨rfl,hb⟩
set_option maxHeartbeats 1000000 in
set_option maxRecDepth 100000 in
theorem iof_one (w:World):Calls Tryz.prog 56 #[.int .i64 1] w (OfPost w ⟨#[49]⟩):=by
 obtain ⟨i0,hi,hz0,hz1,hz2⟩:=info_parts Tryz.info_u8
 go_enter Tryz.func56,Tryz.ntmps56
 go_wp2_with fail
 go_loopw [0,3] (fun nv bv wr => nv = .int .i64 1∧bv = .slice none 0 0∧wr=w) (fun _ _ _ => 0)
 case atStart => exact ⟨rfl,rfl,rfl⟩
 case round =>
  obtain ⟨rfl,rfl,rfl⟩:=hrel
  have hown0:wr.ownsRow wr.heap.size 5 1 (.slice none 0 0) 0 []:=World.ownsRow_nil _ _ _ _
  go_wp2_with (at_builtin;refine wpList_append_own _ rfl _ _ 156 rfl wr.heap.size 5 i0 (.int .u8 0) 1 1 Tryz.ul_bytes hi hz0 hz1 hz2 rfl (by decide) _ _ _ rfl (hown0.alloc _) ⟨wr.heap.size,0,none⟩ 1 1 [_] rfl rfl (cell_one_new _ _ _) (int_oneCell _ _) ?d1 ?d2 ?d3 ?_)
  case d1 => unfold maxLen;omega
  case d2 => omega
  case d3 => simp
  intro v2 w2 hown2 hgrow2 _
  have hbel2:Below wr.heap.size wr w2:=((Below.refl _ _).alloc (Nat.le_refl _) _).grown hgrow2 (by simp) (fun k hk => by cases hk)
  obtain ⟨g2,cap2,rfl,hg2,_,_⟩:=own_shape hown2 (by omega)
  clear hgrow2 hown0
  have ho:w2.ownsRow wr.heap.size 5 1 (.slice (some ⟨g2,0,none⟩) 1 cap2) 1 (nums .u8 [49]):=hown2
  have C:=Lib.hid (reverse_any g2 cap2 wr.heap.size [49] w2 ho (by decide))
  clear hown2 ho
  go_wp2_with fail
  refine C.out.mono ?_
  rintro e w5 ⟨rfl,hr,hg⟩
  have hcv:=run_convert_bytes_back (P:=Tryz.prog) w5 156 108 5 ⟨g2,0,none⟩ cap2 [49] Tryz.ul_bytes Tryz.ul_u8 Tryz.ul_Int
   (cells_bytes (ns:=[49]) hr rfl (by decide))
  simp only [List.length_cons,List.length_nil,Nat.reduceAdd] at hcv
  have hbelz:Below wr.heap.size wr w5:=hbel2.grown hg hbel2.size (fun k hk => by cases hk;exact hg2)
  clear hr hg C
  go_wp2
  go_ret
  exact ⟨rfl,hbelz⟩
set_option maxHeartbeats 1000000 in
set_option maxRecDepth 100000 in
theorem rof_one (w:World):Calls Tryz.prog 27 #[.int .i64 1] w (OfPost w ⟨#[49]⟩):=by
 go_enter Tryz.func27,Tryz.ntmps27
 go_wp2_with fail
 refine (iof_one w).mono ?_
 rintro e w1 ⟨rfl,hb⟩
 go_wp2
 go_ret
 exact ⟨rfl,hb⟩
set_option maxHeartbeats 1000000 in
set_option maxRecDepth 100000 in
theorem iof_neg (w:World):Calls Tryz.prog 56 #[.int .i64 (-1)] w (OfPost w ⟨#[45,49]⟩):=by
 obtain ⟨i0,hi,hz0,hz1,hz2⟩:=info_parts Tryz.info_u8
 go_enter Tryz.func56,Tryz.ntmps56
 go_wp2_with fail
 go_loopw [0,3] (fun nv bv wr => nv = .int .i64 (-1)∧bv = .slice none 0 0∧wr=w) (fun _ _ _ => 0)
 case atStart => exact ⟨rfl,rfl,rfl⟩
 case round =>
  obtain ⟨rfl,rfl,rfl⟩:=hrel
  have hown0:wr.ownsRow wr.heap.size 5 1 (.slice none 0 0) 0 []:=World.ownsRow_nil _ _ _ _
  go_wp2_with (at_builtin;refine wpList_append_own _ rfl _ _ 156 rfl wr.heap.size 5 i0 (.int .u8 0) 1 1 Tryz.ul_bytes hi hz0 hz1 hz2 rfl (by decide) _ _ _ rfl (hown0.alloc _) ⟨wr.heap.size,0,none⟩ 1 1 [_] rfl rfl (cell_one_new _ _ _) (int_oneCell _ _) ?d1 ?d2 ?d3 ?_)
  case d1 => unfold maxLen;omega
  case d2 => omega
  case d3 => simp
  intro v2 w2 hown2 hgrow2 _
  have hbel2:Below wr.heap.size wr w2:=((Below.refl _ _).alloc (Nat.le_refl _) _).grown hgrow2 (by simp) (fun k hk => by cases hk)
  obtain ⟨g2,cap2,rfl,hg2,_,_⟩:=own_shape hown2 (by omega)
  clear hgrow2 hown0
  go_wp2_with (at_builtin;refine wpList_append_own _ rfl _ _ 156 rfl wr.heap.size 5 i0 (.int .u8 0) 1 1 Tryz.ul_bytes hi hz0 hz1 hz2 rfl (by decide) _ _ _ rfl (hown2.alloc _) ⟨w2.heap.size,0,none⟩ 1 1 [_] rfl rfl (cell_one_new _ _ _) (int_oneCell _ _) ?d1 ?d2 ?d3 ?_)
  case d1 => unfold maxLen;omega
  case d2 => omega
  case d3 => simp;have:=hbel2.size;omega
  intro v3 w3 hown3 hgrow3 _
  have hbel3:Below wr.heap.size wr w3:=(hbel2.alloc hbel2.size _).grown hgrow3 (by simp;have:=hbel2.size;omega) (fun k hk => (hown2.lt k hk).1)
  obtain ⟨g3,cap3,rfl,hg3,_,_⟩:=own_shape hown3 (by omega)
  clear hgrow3 hown2 hbel2
  have ho:w3.ownsRow wr.heap.size 5 1 (.slice (some ⟨g3,0,none⟩) 2 cap3) 2 (nums .u8 [49,45]):=hown3
  have C:=Lib.hid (reverse_any g3 cap3 wr.heap.size [49,45] w3 ho (by decide))
  clear hown3 ho
  go_wp2_with fail
  refine C.out.mono ?_
  rintro e w5 ⟨rfl,hr,hg⟩
  have hcv:=run_convert_bytes_back (P:=Tryz.prog) w5 156 108 5 ⟨g3,0,none⟩ cap3 [45,49] Tryz.ul_bytes Tryz.ul_u8 Tryz.ul_Int
   (cells_bytes (ns:=[45,49]) hr rfl (by decide))
  simp only [List.length_cons,List.length_nil,Nat.reduceAdd] at hcv
  have hbelz:Below wr.heap.size wr w5:=hbel3.grown hg hbel3.size (fun k hk => by cases hk;exact hg3)
  clear hr hg C
  go_wp2
  go_ret
  exact ⟨rfl,hbelz⟩
set_option maxHeartbeats 1000000 in
set_option maxRecDepth 100000 in
theorem rof_neg (w:World):Calls Tryz.prog 27 #[.int .i64 (-1)] w (OfPost w ⟨#[45,49]⟩):=by
 go_enter Tryz.func27,Tryz.ntmps27
 go_wp2_with fail
 refine (iof_neg w).mono ?_
 rintro e w1 ⟨rfl,hb⟩
 go_wp2
 go_ret
 exact ⟨rfl,hb⟩
end Go.Proofs.YthdeijdimfjceaaGreatDoor
