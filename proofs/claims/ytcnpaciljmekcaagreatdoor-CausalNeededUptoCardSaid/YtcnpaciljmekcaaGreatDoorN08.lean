/- A part. -/
import Derived.Test.YtcnpaciljmekcaaGreatDoorN07
namespace Go.Proofs.YtcnpaciljmekcaaGreatDoor
open Go.RowKit
def fixOk (y:Ex):Prop:=(y.k=2→isDay y.d=true)∧(y.k=2∨y.k=3→isNm (bl y.nm)=true)
theorem shapeOf_pos {k:Nat} {ps:List Nat} {own:Nat} (h:shapeOf k=some (ps,own)):(k ≠ 2∧k ≠ 3)∧∀ p ∈ ps,p ≠ 0:=by
 unfold shapeOf at h
 repeat' split at h
 all_goals first
  | (cases h;done)
  | (cases h;refine ⟨⟨by omega,by omega⟩,by simp⟩)
mutual
theorem Ex.fixes:∀ x:Ex,x.sort ≠ 0→∀ y ∈ x.nodes,fixOk y
 | .mk k r n d l,h,y,hy => by
  rw [Ex.sort,sortOf] at h
  rw [Ex.nodes] at hy
  split at h
  ·have hl:leafOk k r n d (Ex.sorts l).length:=by
    refine Classical.byContradiction fun hn => h ?_
    unfold leafSort;rw [if_neg hn]
   obtain ⟨h0,h1⟩:=hl
   rw [Ex.sorts_length] at h0
   have hl0:l=[]:=List.eq_nil_of_length_eq_zero h0
   subst hl0
   rcases List.mem_cons.1 hy with rfl | hy
   ·rcases h1 with ⟨e,_⟩ | ⟨k2,_,m,e⟩ | ⟨k3,_,m,_⟩
    ·exact ⟨fun (hk:k=2) => by omega,fun (hk:k=2∨k=3) => by omega⟩
    ·exact ⟨fun _ => e,fun _ => m⟩
    ·exact ⟨fun (hk:k=2) => by omega,fun _ => m⟩
   ·rw [Ex.nodess] at hy;cases hy
  ·next ps own hs =>
   obtain ⟨hk,hp⟩:=shapeOf_pos hs
   have hl:Ex.sorts l=ps:=by
    refine Classical.byContradiction fun hn => h ?_
    unfold partSort;rw [if_neg (fun e => hn e.2.2.2)]
   rcases List.mem_cons.1 hy with rfl | hy
   ·exact ⟨fun e => absurd e hk.1,fun e => e.elim (fun e => absurd e hk.1) fun e => absurd e hk.2⟩
   ·exact Ex.fixess l (fun p hm => hp p (hl ▸ hm)) y hy
theorem Ex.fixess:∀ l:List Ex,(∀ p ∈ Ex.sorts l,p ≠ 0)→∀ y ∈ Ex.nodess l,fixOk y
 | [],_,_,hy => by rw [Ex.nodess] at hy;cases hy
 | x :: l,h,y,hy => by
  rw [Ex.nodess] at hy
  rw [Ex.sorts] at h
  rcases List.mem_append.1 hy with hy | hy
  ·exact Ex.fixes x (h _ (List.mem_cons_self ..)) y hy
  ·exact Ex.fixess l (fun p hm => h p (List.mem_cons_of_mem _ hm)) y hy
end
theorem Ex.isA_fixes {x:Ex} {t:Nat} (h:x.isA t=true):∀ y ∈ x.nodes,fixOk y:=by
 refine x.fixes fun h0 => ?_
 unfold Ex.isA Ex.err at h
 simp only [Bool.and_eq_true,decide_eq_true_eq] at h
 have:=h.1
 rw [if_pos h0] at this
 split at this <;> omega
def DayOk (day d:Int):Prop:=day≤d∧isDay d=true
def evOk (day:Int):Ev→Prop
 | .expr x ds => (∀ d ∈ ds,DayOk day d)∧∀ y ∈ x.nodes,fixOk y
 | .choice p n ds => (∀ d ∈ ds,DayOk day d)∧isNm (bl p)=true∧isNm (bl n)=true
 | .pay ds => ∀ d ∈ ds,DayOk day d
theorem isDays_all {l:List Int} (h:isDays l=true):∀ d ∈ l,isDay d=true:=by
 unfold isDays at h
 simp only [Bool.and_eq_true,List.all_eq_true] at h
 exact h.2.2.1
theorem later_ok {day d0:Int} {l:List Int} (hl:∀ d ∈ l,isDay d=true) (h0:day≤d0):∀ d ∈ laterD l d0,DayOk day d:=by
 intro d hd
 unfold laterD at hd
 rw [List.mem_filter,decide_eq_true_eq] at hd
 exact ⟨by omega,hl d hd.1⟩
theorem headEv_ok {day:Int} (c:Con) (hn:nodeOk c=true) (d0:Int) (ds:List Int) (hd:∀ d ∈ ds,DayOk day d) (h0:day≤d0):∀ e ∈ headEv c ds d0,evOk day e:=by
 intro e he
 unfold headEv at he
 unfold nodeOk at hn
 by_cases k2:c.k=2
 ·rw [if_pos k2] at he
  rw [if_neg (by omega),if_pos k2] at hn
  simp only [Bool.and_eq_true] at hn
  have hx:=Ex.isA_fixes hn.2.2.2.2.2.1
  simp at he
  rcases he with rfl | rfl
  ·exact hd
  ·exact ⟨hd,hx⟩
 ·rw [if_neg k2] at he
  by_cases k45:c.k=4∨c.k=5
  ·rw [if_pos k45] at he
   simp at he
   subst he
   refine ⟨hd,?_⟩
   rcases k45 with k | k
   ·rw [if_neg (by omega),if_neg (by omega),if_neg (by omega),if_pos k] at hn
    simp only [Bool.and_eq_true] at hn
    exact Ex.isA_fixes hn.2.2.2.2.2.2
   ·rw [if_neg (by omega),if_neg (by omega),if_neg (by omega),if_neg (by omega),if_pos k] at hn
    simp only [Bool.and_eq_true] at hn
    exact Ex.isA_fixes hn.2.2.2.2.2.2
  ·rw [if_neg k45] at he
   by_cases k7:c.k=7
   ·rw [if_pos k7] at he
    rw [if_neg (by omega),if_neg (by omega),if_neg (by omega),if_neg (by omega),if_neg (by omega),if_neg (by omega),if_pos k7] at hn
    simp only [Bool.and_eq_true] at hn
    simp at he
    subst he
    exact ⟨hd,by first | exact ⟨hn.2.1,hn.2.2.2.1⟩ | exact ⟨hn.2.1,hn.2.2.1⟩⟩
   ·rw [if_neg k7] at he
    by_cases k8:c.k=8
    ·rw [if_pos k8] at he
     rw [if_neg (by omega),if_neg (by omega),if_neg (by omega),if_neg (by omega),if_neg (by omega),if_neg (by omega),if_neg (by omega),if_pos k8] at hn
     simp only [Bool.and_eq_true] at hn
     simp at he
     subst he
     exact ⟨later_ok (isDays_all hn.2.2.2.2.2.1) h0,by first | exact ⟨hn.2.1,hn.2.2.2.1⟩ | exact ⟨hn.2.1,hn.2.2.1⟩⟩
    ·rw [if_neg k8] at he
     by_cases k9:c.k=9∨c.k=10
     ·rw [if_pos k9] at he
      rw [if_neg (by omega),if_neg (by omega),if_neg (by omega),if_neg (by omega),if_neg (by omega),if_neg (by omega),if_neg (by omega),if_neg (by omega),if_pos k9] at hn
      simp only [Bool.and_eq_true] at hn
      simp at he
      subst he
      exact ⟨later_ok (isDays_all hn.2.2.2.2.2.1) h0,Ex.isA_fixes hn.2.2.2.2.2.2⟩
     ·rw [if_neg k9] at he;cases he
theorem innerD_ok {day:Int} (c:Con) (hn:nodeOk c=true) (d0:Int) (ds:List Int) (hd:∀ d ∈ ds,DayOk day d) (h0:day≤d0):∀ d ∈ innerD c ds d0,DayOk day d:=by
 unfold innerD
 unfold nodeOk at hn
 by_cases k6:c.k=6
 ·rw [if_pos k6]
  rw [if_neg (by omega),if_neg (by omega),if_neg (by omega),if_neg (by omega),if_neg (by omega),if_pos k6] at hn
  simp only [Bool.and_eq_true] at hn
  split
  ·intro d hm
   rw [List.mem_singleton] at hm
   subst hm
   exact ⟨by omega,hn.2.2.2.2.1⟩
  ·intro d hm;cases hm
 ·rw [if_neg k6]
  split
  ·next h =>
   rcases h with k | k
   ·rw [if_neg (by omega),if_neg (by omega),if_neg (by omega),if_neg (by omega),if_neg (by omega),if_neg (by omega),if_neg (by omega),if_pos k] at hn
    simp only [Bool.and_eq_true] at hn
    exact later_ok (isDays_all hn.2.2.2.2.2.1) h0
   ·rw [if_neg (by omega),if_neg (by omega),if_neg (by omega),if_neg (by omega),if_neg (by omega),if_neg (by omega),if_neg (by omega),if_neg (by omega),if_pos (.inr k)] at hn
    simp only [Bool.and_eq_true] at hn
    exact later_ok (isDays_all hn.2.2.2.2.2.1) h0
  ·exact hd
mutual
theorem Con.evs_ok (day:Int):∀ (c:Con) (ds:List Int),c.formed=true→(∀ d ∈ ds,DayOk day d)→∀ e ∈ c.evs ds,evOk day e
 | .mk k f t n x d dd s,[],_,_,e,he => by rw [Con.evs_nil] at he;cases he
 | .mk k f t n x d dd s,d0 :: r,hf,hd,e,he => by
  rw [Con.formed,Bool.and_eq_true] at hf
  have h0:day≤d0:=(hd d0 (List.mem_cons_self ..)).1
  rw [Con.evs_cons] at he
  rcases List.mem_append.1 he with he | he
  ·exact headEv_ok _ hf.1 d0 _ hd h0 e he
  ·exact Con.evss_ok day s _ hf.2 (innerD_ok _ hf.1 d0 _ hd h0) e he
theorem Con.evss_ok (day:Int):∀ (s:List Con) (ds:List Int),Con.formeds s=true→(∀ d ∈ ds,DayOk day d)→∀ e ∈ Con.evss s ds,evOk day e
 | [],_,_,_,_,he => by rw [Con.evss] at he;cases he
 | c :: s,ds,hf,hd,e,he => by
  rw [Con.formeds,Bool.and_eq_true] at hf
  rw [Con.evss] at he
  rcases List.mem_append.1 he with he | he
  ·exact Con.evs_ok day c ds hf.1 hd e he
  ·exact Con.evss_ok day s ds hf.2 hd e he
end
theorem visEvs_ok (c:Con) (day:Int) (h:visErr c day=0):∀ e ∈ visEvs c day,evOk day e:=by
 have hE:c.err=0:=by
  unfold visErr at h
  by_cases e:c.err=0
  ·exact e
  ·rw [if_neg e] at h;exact absurd h e
 have hd:isDay day=true:=by
  unfold visErr at h
  rw [if_pos hE] at h
  by_cases e:isDay day=true
  ·exact e
  ·rw [if_neg e] at h;omega
 have hf:c.formed=true:=by
  unfold Con.err at hE
  split at hE
  ·omega
  ·by_cases e:c.formed=true
   ·exact e
   ·rw [if_neg e] at hE;omega
 unfold visEvs
 rw [if_pos h]
 exact Con.evs_ok day c [day] hf fun d hm => by rw [List.mem_singleton] at hm;subst hm;exact ⟨by omega,hd⟩
theorem evCs_ok {day:Int} {l:List Ev} (h:∀ e ∈ l,evOk day e):∀ x ∈ evCs l,DayOk day x.2.2:=by
 intro x hx
 obtain ⟨e,he,hm⟩:=List.mem_flatMap.1 hx
 cases e with
 | expr x ds => cases hm
 | pay ds => cases hm
 | choice p n ds =>
  obtain ⟨d,hd,rfl⟩:=List.mem_map.1 hm
  exact (h _ he).1 d hd
theorem evNs_ok {day:Int} {l:List Ev} (h:∀ e ∈ l,evOk day e):∀ x ∈ evNs l,isDay x.2=true:=by
 intro x hx
 obtain ⟨e,he,hm⟩:=List.mem_flatMap.1 hx
 cases e with
 | choice p n ds => cases hm
 | pay ds => cases hm
 | expr y ds =>
  obtain ⟨h1,h2⟩:=h _ he
  obtain ⟨z,hz,hm⟩:=List.mem_flatMap.1 hm
  unfold xNeed at hm
  split at hm
  ·cases hm
  ·split at hm
   ·next hk => rw [List.mem_singleton] at hm;subst hm;exact (h2 z hz).1 hk
   ·split at hm
    ·obtain ⟨d,hd,rfl⟩:=List.mem_map.1 hm
     exact (h1 d hd).2
    ·cases hm
theorem nm_small {s:ByteArray} (h:isNm (bl s)=true):s.size≤1100000:=by
 unfold isNm at h
 simp only [Bool.and_eq_true,decide_eq_true_eq] at h
 have:=h.2.1
 unfold bl at this
 rw [show s.size=s.data.toList.length from (Array.length_toList ..).symm]
 omega
theorem evCs_nm {day:Int} {l:List Ev} (h:∀ e ∈ l,evOk day e):∀ x ∈ evCs l,x.1.size≤1100000∧x.2.1.size≤1100000:=by
 intro x hx
 obtain ⟨e,he,hm⟩:=List.mem_flatMap.1 hx
 cases e with
 | expr x ds => cases hm
 | pay ds => cases hm
 | choice p n ds =>
  obtain ⟨d,hd,rfl⟩:=List.mem_map.1 hm
  exact ⟨nm_small (h _ he).2.1,nm_small (h _ he).2.2⟩
theorem evNs_nm {day:Int} {l:List Ev} (h:∀ e ∈ l,evOk day e):∀ x ∈ evNs l,x.1.size≤1100000:=by
 intro x hx
 obtain ⟨e,he,hm⟩:=List.mem_flatMap.1 hx
 cases e with
 | choice p n ds => cases hm
 | pay ds => cases hm
 | expr y ds =>
  obtain ⟨h1,h2⟩:=h _ he
  obtain ⟨z,hz,hm⟩:=List.mem_flatMap.1 hm
  unfold xNeed at hm
  split at hm
  ·cases hm
  ·split at hm
   ·next hk => rw [List.mem_singleton] at hm;subst hm;exact nm_small ((h2 z hz).2 (.inl hk))
   ·split at hm
    ·next hk => obtain ⟨d,hd,rfl⟩:=List.mem_map.1 hm;exact nm_small ((h2 z hz).2 (.inr hk))
    ·cases hm
end Go.Proofs.YtcnpaciljmekcaaGreatDoor

namespace Go.Proofs.YtcnpaciljmekcaaGreatDoor
open Go.RowKit
theorem rd_fx {w:World} {base n c:Nat} {e:TypeId} {a:Option Addr} {l:List Fx} (h:w.ownsRow base e 3 (.slice a n c) n (l.flatMap Fx.cells)):Rd Fx.cells 3 w a l:=by
 obtain ⟨hl,h2⟩:=h
 have e:n=l.length:=by rw [flat_length Fx.cells 3 (fun _ => rfl)] at hl;omega
 subst e
 exact Rd.of_sl (enc:=Fx.cells) (m:=3) (fun _ => rfl) (by decide) (Sl.of_owns ⟨hl,h2⟩)
theorem rd_ch {w:World} {base n c:Nat} {e:TypeId} {a:Option Addr} {l:List Ch} (h:w.ownsRow base e 4 (.slice a n c) n (l.flatMap Ch.cells)):Rd Ch.cells 4 w a l:=by
 obtain ⟨hl,h2⟩:=h
 have e:n=l.length:=by rw [flat_length Ch.cells 4 (fun _ => rfl)] at hl;omega
 subst e
 exact Rd.of_sl (enc:=Ch.cells) (m:=4) (fun _ => rfl) (by decide) (Sl.of_owns ⟨hl,h2⟩)
end Go.Proofs.YtcnpaciljmekcaaGreatDoor

namespace Go.Proofs.YtcnpaciljmekcaaGreatDoor
open Go.RowKit
def mkNd (x:NdP):Nd:=⟨x.1,x.2⟩
def mkCh (x:ChP):Ch:=⟨x.1,x.2.1,x.2.2,false⟩
theorem few_ok {e:Int} {n:Nat} (h:fewErr e n=0):e=0∧n≤1000:=by
 unfold fewErr at h
 by_cases he:e=0
 ·rw [if_pos he] at h
  refine ⟨he,?_⟩
  split at h <;> omega
 ·rw [if_neg he] at h;exact absurd h he
theorem vis_ok {c:Con} {day:Int} (h:visErr c day=0):c.err=0∧isDay day=true∧visEvs c day=c.evs [day]:=by
 refine ⟨?_,?_,by unfold visEvs;rw [if_pos h]⟩
 ·unfold visErr at h
  split at h
  ·assumption
  ·exact h
 ·unfold visErr at h
  split at h
  ·split at h
   ·assumption
   ·omega
  ·exact absurd h (by assumption)
theorem nSet_ok {c:Con} {day:Int} (h:nErr c day=0):visErr c day=0∧(nSet c day).length≤1000∧nSet c day=uniq ndLt (evNs (c.evs [day])):=by
 obtain ⟨hv,hl⟩:=few_ok h
 have e:nSet c day=uniq ndLt (evNs (visEvs c day)):=by unfold nSet;rw [if_pos h]
 exact ⟨hv,by rw [e];exact hl,by rw [e,(vis_ok hv).2.2]⟩
theorem dSet_ok {c:Con} {day:Int} (h:dErr c day=0):visErr c day=0∧(dSet c day).length≤1000∧dSet c day=uniq chxLt (evCs (c.evs [day])):=by
 obtain ⟨hv,hl⟩:=few_ok h
 have e:dSet c day=uniq chxLt (evCs (visEvs c day)):=by unfold dSet;rw [if_pos h]
 exact ⟨hv,by rw [e];exact hl,by rw [e,(vis_ok hv).2.2]⟩
theorem isDay_wf {d:Int} (h:isDay d=true):(Lit.int .i64 d).wf=true:=by
 unfold isDay at h
 simp only [Bool.and_eq_true,decide_eq_true_eq] at h
 simp [Lit.wf]
 refine ⟨?_,by omega⟩
 show (-9223372036854775808:Int)≤d
 omega
theorem nSet_small {c:Con} {day:Int} (h:nErr c day=0):∀ f ∈ (nSet c day).map mkNd,f.small:=by
 intro f hf
 obtain ⟨x,hx,rfl⟩:=List.mem_map.1 hf
 obtain ⟨hv,_,e⟩:=nSet_ok h
 have hE:=visEvs_ok c day hv
 rw [(vis_ok hv).2.2] at hE
 rw [e,uniq_mem] at hx
 exact ⟨evNs_nm hE x hx,isDay_wf (evNs_ok hE x hx)⟩
theorem dSet_small {c:Con} {day:Int} (h:dErr c day=0):∀ f ∈ (dSet c day).map mkCh,f.small∧f.fits:=by
 intro f hf
 obtain ⟨x,hx,rfl⟩:=List.mem_map.1 hf
 obtain ⟨hv,_,e⟩:=dSet_ok h
 have hE:=visEvs_ok c day hv
 rw [(vis_ok hv).2.2] at hE
 rw [e,uniq_mem] at hx
 exact ⟨evCs_nm hE x hx,isDay_wf (evCs_ok hE x hx).2⟩
theorem rd_nd {w:World} {base c:Nat} {e:TypeId} {a:Option Addr} {l:List NdP} (h:w.ownsRow base e 2 (.slice a l.length c) l.length (l.flatMap ndCells)):Rd Nd.cells 2 w a (l.map mkNd):=by
 have hf:l.flatMap ndCells=(l.map mkNd).flatMap Nd.cells:=by rw [List.flatMap_map];rfl
 rw [hf] at h
 have hl:l.length=(l.map mkNd).length:=(List.length_map _).symm
 rw [hl] at h
 exact Rd.of_sl (enc:=Nd.cells) (m:=2) (fun _ => rfl) (by decide) (Sl.of_owns h)
theorem rd_cx {w:World} {base c:Nat} {e:TypeId} {a:Option Addr} {l:List ChP} (h:w.ownsRow base e 4 (.slice a l.length c) l.length (l.flatMap cxCells)):Rd Ch.cells 4 w a (l.map mkCh):=by
 have hf:l.flatMap cxCells=(l.map mkCh).flatMap Ch.cells:=by rw [List.flatMap_map];rfl
 rw [hf] at h
 have hl:l.length=(l.map mkCh).length:=(List.length_map _).symm
 rw [hl] at h
 exact Rd.of_sl (enc:=Ch.cells) (m:=4) (fun _ => rfl) (by decide) (Sl.of_owns h)
theorem needed_fin {c:Con} {day:Int} {F:List Fx} {C:List Ch} (hn:nErr c day=0) (hd:dErr c day=0) (he:envErr F C=0) :
  befR c day 100000 (onlyF F C ((nSet c day).map mkNd)) (onlyC F C ((dSet c day).map mkCh))=befR c day 100000 F C ∧
  ((onlyF F C ((nSet c day).map mkNd)).length=(nSet c day).length→(befR c day 100000 F C).1 ≠ 30):=by
 obtain ⟨hv,_,eN⟩:=nSet_ok hn
 obtain ⟨_,_,eC⟩:=dSet_ok hd
 have hc:=(vis_ok hv).1
 have e1:onlyF F C ((nSet c day).map mkNd)=F.filter (needed ((nSet c day).map mkNd)):=by unfold onlyF;rw [if_pos he]
 have e2:onlyC F C ((dSet c day).map mkCh)=C.filter (isOpen ((dSet c day).map mkCh)):=by unfold onlyC;rw [if_pos he]
 rw [e1,e2]
 refine ⟨only_law c day F C hc he _ _ (fun f _ hm => eqB_true ⟨mkNd (f.nm,f.d),List.mem_map.2 ⟨_,by rw [eN,uniq_mem];exact hm,rfl⟩,rfl,rfl⟩)
  (fun f _ hm => eqB_true ⟨mkCh (f.pt,f.nm,f.d),List.mem_map.2 ⟨_,by rw [eC,uniq_mem];exact hm,rfl⟩,rfl,rfl,rfl⟩),fun hl => ?_⟩
 have hg:=(envErr_zero (envErr_filter (needed ((nSet c day).map mkNd)) (isOpen ((dSet c day).map mkCh)) he)).2.2.2.1
 have ha:=all_of_len hg (by rw [eN];exact uniq_srt nd_sto _) (fun f hf => by
  have h:=eqB_iff.1 (List.mem_filter.1 hf).2
  obtain ⟨x,hx,h1,h2⟩:=h
  obtain ⟨y,hy,rfl⟩:=List.mem_map.1 hx
  have e:y=(f.nm,f.d):=Prod.ext h1 h2
  rw [← e];exact hy) hl
 refine full_law c day F C hc he fun n hm => ?_
 obtain ⟨f,hf,h1,h2⟩:=ha n (by rw [eN,uniq_mem];exact hm)
 exact ⟨f,(List.mem_filter.1 hf).1,h1,h2⟩
theorem needed_err {c:Con} {day fin:Int} {F:List Fx} {C:List Ch} (hn:nErr c day=0) (he:envErr F C ≠ 0):(befR c day fin F C).1=envErr F C:=by
 rw [befR_ok (vis_ok (nSet_ok hn).1).1,if_pos he]
theorem past_fin {c:Con} {day last:Int} {F:List Fx} {C:List Ch} (hk:knownErr F C last=0) (hc:causErr c day=0) :
  (0≤last∧last≤99999)∧befR c day (last+1) (knownF F C last) (knownC F C last)=befR c day (last+1) F C:=by
 have hv:visErr c day=0:=by
  unfold causErr at hc
  split at hc
  ·assumption
  ·exact hc
 have hl:evLt (visEvs c day)=false:=by
  unfold causErr at hc
  rw [if_pos hv] at hc
  cases h:evLt (visEvs c day)
  ·rfl
  ·rw [if_pos h] at hc;omega
 have he:envErr F C=0:=by
  unfold knownErr at hk
  split at hk
  ·assumption
  ·exact hk
 have hd:isDay last=true:=by
  unfold knownErr at hk
  rw [if_pos he] at hk
  split at hk
  ·assumption
  ·omega
 refine ⟨by unfold isDay at hd;simpa using hd,?_⟩
 unfold knownF knownC
 rw [if_pos hk,if_pos hk]
 exact past_law c day last F C (vis_ok hv).1 (by rw [← (vis_ok hv).2.2];exact hl) he
theorem knownF_mem {F:List Fx} {C:List Ch} {last:Int} {f:Fx} (h:f ∈ knownF F C last):f ∈ F:=by
 unfold knownF at h
 split at h
 ·exact (List.mem_filter.1 h).1
 ·cases h
theorem knownC_mem {F:List Fx} {C:List Ch} {last:Int} {f:Ch} (h:f ∈ knownC F C last):f ∈ C:=by
 unfold knownC at h
 split at h
 ·exact (List.mem_filter.1 h).1
 ·cases h
theorem onlyF_mem {F:List Fx} {C:List Ch} {N:List Nd} {f:Fx} (h:f ∈ onlyF F C N):f ∈ F:=by
 unfold onlyF at h
 split at h
 ·exact (List.mem_filter.1 h).1
 ·cases h
theorem onlyC_mem {F:List Fx} {C:List Ch} {N:List Ch} {f:Ch} (h:f ∈ onlyC F C N):f ∈ C:=by
 unfold onlyC at h
 split at h
 ·exact (List.mem_filter.1 h).1
 ·cases h
theorem knownF_len (F:List Fx) (C:List Ch) (last:Int):(knownF F C last).length≤F.length:=by
 unfold knownF
 split
 ·exact List.length_filter_le ..
 ·exact Nat.zero_le _
theorem knownC_len (F:List Fx) (C:List Ch) (last:Int):(knownC F C last).length≤C.length:=by
 unfold knownC
 split
 ·exact List.length_filter_le ..
 ·exact Nat.zero_le _
theorem onlyF_len (F:List Fx) (C:List Ch) (N:List Nd):(onlyF F C N).length≤F.length:=by
 unfold onlyF
 split
 ·exact List.length_filter_le ..
 ·exact Nat.zero_le _
theorem onlyC_len (F:List Fx) (C:List Ch) (N:List Ch):(onlyC F C N).length≤C.length:=by
 unfold onlyC
 split
 ·exact List.length_filter_le ..
 ·exact Nat.zero_le _
end Go.Proofs.YtcnpaciljmekcaaGreatDoor
