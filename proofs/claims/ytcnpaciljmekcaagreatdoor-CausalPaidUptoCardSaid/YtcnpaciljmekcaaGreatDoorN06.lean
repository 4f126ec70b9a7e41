/- A part. -/
import Derived.Test.YtcnpaciljmekcaaGreatDoorN05
import Derived.Maps.OwnSet
import Derived.DeepKeys4
namespace Go.Proofs.YtcnpaciljmekcaaGreatDoor
open Go.RowKit
theorem first_mem (is:Int→Int × Bool) (day fin:Int):∀ l:List Int,(firstR is day fin l).1=0→(firstR is day fin l).2=fin∨((firstR is day fin l).2 ∈ l∧day≤(firstR is day fin l).2)
 | [],_ => .inl rfl
 | d :: l,h => by
  have ih:=first_mem is day fin l
  rw [firstR_cons] at h ⊢
  by_cases h1:fin≤d
  ·rw [if_pos h1];exact .inl rfl
  ·rw [if_neg h1] at h ⊢
   have up:(firstR is day fin l).1=0→(firstR is day fin l).2=fin∨((firstR is day fin l).2 ∈ d :: l∧day≤(firstR is day fin l).2):=fun h => (ih h).imp id fun k => ⟨List.mem_cons_of_mem _ k.1,k.2⟩
   by_cases h2:day≤d
   ·rw [if_pos h2] at h ⊢
    obtain ⟨_,e⟩:=andR_ok h
    rw [e] at h ⊢
    by_cases h3:(is d).2=true
    ·rw [if_pos h3];exact .inr ⟨List.mem_cons_self ..,h2⟩
    ·rw [if_neg h3] at h ⊢;exact up h
   ·rw [if_neg h2] at h ⊢;exact up h
theorem first_same (is js:Int→Int × Bool) (day fin:Int):∀ l:List Int,(∀ e ∈ l,day≤e→e < fin→is e=js e)→firstR is day fin l=firstR js day fin l
 | [],_ => rfl
 | d :: l,h => by
  have ih:=first_same is js day fin l fun e he => h e (List.mem_cons_of_mem _ he)
  rw [firstR_cons,firstR_cons,ih]
  by_cases h1:fin≤d
  ·rw [if_pos h1,if_pos h1]
  ·rw [if_neg h1,if_neg h1]
   by_cases h2:day≤d
   ·rw [if_pos h2,if_pos h2,h d (List.mem_cons_self ..) h2 (by omega)]
   ·rw [if_neg h2,if_neg h2]
theorem evss_mem {x:Con} {ds:List Int} {e:Ev} (he:e ∈ x.evs ds):∀ {l:List Con},x ∈ l→e ∈ Con.evss l ds
 | [],h => by cases h
 | y :: l,h => by
  rw [Con.evss]
  rcases List.mem_cons.1 h with rfl | h
  ·exact List.mem_append_left _ he
  ·exact List.mem_append_right _ (evss_mem he h)
theorem evDs_mem {d:Int} {l:List Ev}:d ∈ evDs l ↔ ∃ e ∈ l,d ∈ evDays e:=List.mem_flatMap
theorem evNs_mem {d:NdP} {l:List Ev}:d ∈ evNs l ↔ ∃ e ∈ l,d ∈ evNeeds e:=List.mem_flatMap
theorem evCs_mem {d:ChP} {l:List Ev}:d ∈ evCs l ↔ ∃ e ∈ l,d ∈ evChs e:=List.mem_flatMap
theorem later_pw {l:List Int} (h:isDays l=true) (d:Int):(laterD l d).Pairwise (·≤·):=((isDays_pw h).imp Int.le_of_lt).filter _
theorem later_mem {l:List Int} {d e:Int} (h:e ∈ l) (hd:d≤e):e ∈ laterD l d:=List.mem_filter.2 ⟨h,by simpa using hd⟩
theorem inner_same {c:Con} {ds:List Int} {d0:Int} (h:c.k ≠ 6) (h2 : ¬ (c.k=8∨c.k=10)):innerD c ds d0=ds:=by unfold innerD;rw [if_neg h,if_neg h2]
theorem inner_lat {c:Con} {ds:List Int} {d0:Int} (h:c.k=8∨c.k=10):innerD c ds d0=laterD c.ds d0:=by unfold innerD;rw [if_neg (by omega),if_pos h]
theorem inner_at {c:Con} {ds:List Int} {d0:Int} (h:c.k=6) (hd:d0≤c.d):innerD c ds d0=[c.d]:=by unfold innerD;rw [if_pos h,if_pos hd]
theorem ev_sub {c x:Con} {d0:Int} {r:List Int} (hx:x ∈ c.sub) {e:Ev} (he:e ∈ x.evs (innerD c (d0 :: r) d0)):e ∈ c.evs (d0 :: r):=by
 rw [Con.evs_cons]
 exact List.mem_append_right _ (evss_mem he hx)
theorem ev_head {c:Con} {d0:Int} {r:List Int} {e:Ev} (he:e ∈ headEv c (d0 :: r) d0):e ∈ c.evs (d0 :: r):=by
 rw [Con.evs_cons]
 exact List.mem_append_left _ he
theorem flows_paid (F:List Fx) (C:List Ch):∀ (N:Nat) (c:Con),c.bulk≤N→c.formed=true→∀ (ds:List Int) (day fin:Int),ds.Pairwise (·≤·)→(day < fin→day ∈ ds)→∀ f ∈ (c.flows F C day fin).2,f.d ∈ evDs (c.evs ds)
 | 0,c,hN,_ => by have:=c.sub_lt;omega
 | N+1,c,hN,hw => fun ds day fin hp hm => by
  have hsub:∀ y ∈ c.sub,y.formed=true:=fun y hy => by
   rw [Con.formed_eq,Bool.and_eq_true,Con.formeds_eq] at hw;exact List.all_eq_true.1 hw.2 y hy
  have IH:∀ y ∈ c.sub,∀ (ds:List Int) (day fin:Int),ds.Pairwise (·≤·)→(day < fin→day ∈ ds)→∀ f ∈ (y.flows F C day fin).2,f.d ∈ evDs (y.evs ds):=fun y hy => flows_paid F C N y (by have:=Con.mem_lt hy;omega) (hsub y hy)
  by_cases hn:fin≤day
  ·rw [flows_late c F C day fin hn]
   intro f hf;cases hf
  have hd:=hm (by omega)
  obtain ⟨d0,r,rfl⟩:∃ d0 r,ds=d0 :: r:=by
   cases ds with
   | nil => cases hd
   | cons a b => exact ⟨a,b,rfl⟩
  have h0:d0≤day:=by
   rcases List.mem_cons.1 hd with rfl | hd
   ·exact Int.le_refl _
   ·exact (List.pairwise_cons.1 hp).1 _ hd
  have UP:∀ x ∈ c.sub,∀ e,e ∈ evDs (x.evs (innerD c (d0 :: r) d0))→e ∈ evDs (c.evs (d0 :: r)):=fun x hx e he => by
   obtain ⟨v,h1,h2⟩:=evDs_mem.1 he
   exact evDs_mem.2 ⟨v,ev_sub hx h1,h2⟩
  have hcs:=con_cases c hw
  obtain ⟨k,fr,rc,nm,ex,d,dd,l⟩:=c
  simp only [Con.k,Con.sub,Con.ex,Con.d,Con.ds] at hcs IH UP
  have hh:∀ e ∈ evDs (headEv (.mk k fr rc nm ex d dd l) (d0 :: r) d0),e ∈ evDs (Con.evs (.mk k fr rc nm ex d dd l) (d0 :: r)):=fun e he => by
   obtain ⟨v,h1,h2⟩:=evDs_mem.1 he
   exact evDs_mem.2 ⟨v,ev_head h1,h2⟩
  have same:k ≠ 6→¬ (k=8∨k=10)→innerD (.mk k fr rc nm ex d dd l) (d0 :: r) d0=d0 :: r:=fun h1 h2 => inner_same h1 h2
  have lat:k=8∨k=10→innerD (.mk k fr rc nm ex d dd l) (d0 :: r) d0=laterD dd d0:=fun h => inner_lat h
  have lm:∀ is:Int→Int × Bool,(firstR is day fin dd).1=0→(firstR is day fin dd).2 < fin→(firstR is day fin dd).2 ∈ laterD dd d0:=fun is h1 h2 => by
   rcases first_mem is day fin dd h1 with h | h
   ·omega
   ·exact later_mem h.1 (by omega)
  unfold Con.flows
  rw [if_neg hn]
  rcases hcs with ⟨rfl,rfl⟩ | ⟨rfl,rfl,hA⟩ | ⟨rfl,x,y,rfl⟩ | ⟨rfl,hA,x,rfl⟩ | ⟨rfl,hA,x,y,rfl⟩ | ⟨rfl,_,x,rfl⟩ | ⟨rfl,x,y,rfl⟩ | ⟨rfl,hD,x,rfl⟩ | ⟨hk,hD,hA,x,rfl⟩
  ·intro f hf;cases hf
  ·dsimp only
   rw [if_pos rfl]
   refine andR_all fun _ => fun f hf => hh _ ?_
   rw [paidS_d f hf]
   exact List.mem_append_left _ hd
  ·rw [same (by decide) (by decide)] at UP
   dsimp only
   rw [if_pos rfl]
   refine andR_all fun _ => andR_all fun _ => fun f hf => ?_
   rcases List.mem_append.1 hf with hf | hf
   ·exact UP x (by simp) _ (IH x (by simp) _ _ _ hp hm f hf)
   ·exact UP y (by simp) _ (IH y (by simp) _ _ _ hp hm f hf)
  ·rw [same (by decide) (by decide)] at UP
   dsimp only
   rw [if_pos rfl]
   exact andR_all fun _ => andR_all fun _ => mulAll_d (P:=fun e => e ∈ evDs (Con.evs _ (d0 :: r))) _ _ fun f hf => UP x (by simp) _ (IH x (by simp) _ _ _ hp hm f hf)
  ·rw [same (by decide) (by decide)] at UP
   dsimp only
   rw [if_neg (by decide),if_pos rfl]
   refine andR_all fun _ => ?_
   split
   ·exact fun f hf => UP x (by simp) _ (IH x (by simp) _ _ _ hp hm f hf)
   ·exact fun f hf => UP y (by simp) _ (IH y (by simp) _ _ _ hp hm f hf)
  ·dsimp only
   rw [if_neg (by decide),if_pos rfl]
   split
   ·next h1 =>
    have e6:innerD (.mk 6 fr rc nm ex d dd [x]) (d0 :: r) d0=[d]:=inner_at rfl (show d0≤d by omega)
    rw [e6] at UP
    exact fun f hf => UP x (by simp) _ (IH x (by simp) _ _ _ (List.pairwise_singleton ..) (fun _ => List.mem_singleton.2 rfl) f hf)
   ·intro f hf;cases hf
  ·rw [same (by decide) (by decide)] at UP
   dsimp only
   rw [if_neg (by decide),if_neg (by decide)]
   split
   ·exact fun f hf => UP x (by simp) _ (IH x (by simp) _ _ _ hp hm f hf)
   ·exact fun f hf => UP y (by simp) _ (IH y (by simp) _ _ _ hp hm f hf)
  ·rw [lat (.inl rfl)] at UP
   dsimp only
   rw [if_neg (by decide),if_neg (by decide),if_pos rfl]
   exact fun f hf => UP x (by simp) _ (IH x (by simp) _ _ _ (later_pw hD d0) (lm _ (first_pure (fun e => chosenB C fr nm e) day fin dd)) f hf)
  ·dsimp only
   rcases hk with rfl | rfl
   ·rw [same (by decide) (by decide)] at UP
    rw [if_neg (by decide),if_neg (by decide),if_neg (by decide),if_pos rfl]
    exact andR_all fun _ => fun f hf => UP x (by simp) _ (IH x (by simp) _ _ _ hp (fun _ => hd) f hf)
   ·rw [lat (.inr rfl)] at UP
    rw [if_neg (by decide),if_neg (by decide),if_neg (by decide),if_neg (by decide)]
    exact andR_all fun h => fun f hf => UP x (by simp) _ (IH x (by simp) _ _ _ (later_pw hD d0) (lm _ h) f hf)
def AlikeE (F G:List Fx) (C D:List Ch) (M:Int):Ev→Prop
 | .expr x es => es.Pairwise (·≤·)→∀ e ∈ es,e < M→x.value F e=x.value G e∧x.hold F e=x.hold G e
 | .choice p n es => ∀ e ∈ es,e < M→chosenB C p n e=chosenB D p n e
 | .pay _ => True
theorem flows_alike (F G:List Fx) (C D:List Ch) (M:Int):∀ (N:Nat) (c:Con),c.bulk≤N→c.formed=true→∀ (ds:List Int) (day fin:Int),ds.Pairwise (·≤·)→(day < fin→day ∈ ds)→fin≤M→(∀ e ∈ c.evs ds,AlikeE F G C D M e)→c.flows F C day fin=c.flows G D day fin
 | 0,c,hN,_ => by have:=c.sub_lt;omega
 | N+1,c,hN,hw => fun ds day fin hp hm hM hE => by
  have hsub:∀ y ∈ c.sub,y.formed=true:=fun y hy => by
   rw [Con.formed_eq,Bool.and_eq_true,Con.formeds_eq] at hw;exact List.all_eq_true.1 hw.2 y hy
  have IH:∀ y ∈ c.sub,∀ (ds:List Int) (day fin:Int),ds.Pairwise (·≤·)→(day < fin→day ∈ ds)→fin≤M→(∀ e ∈ y.evs ds,AlikeE F G C D M e)→y.flows F C day fin=y.flows G D day fin:=fun y hy => flows_alike F G C D M N y (by have:=Con.mem_lt hy;omega) (hsub y hy)
  by_cases hn:fin≤day
  ·rw [flows_late c F C day fin hn,flows_late c G D day fin hn]
  have hd:=hm (by omega)
  obtain ⟨d0,r,rfl⟩:∃ d0 r,ds=d0 :: r:=by
   cases ds with
   | nil => cases hd
   | cons a b => exact ⟨a,b,rfl⟩
  have h0:d0≤day:=by
   rcases List.mem_cons.1 hd with rfl | hd
   ·exact Int.le_refl _
   ·exact (List.pairwise_cons.1 hp).1 _ hd
  have UP:∀ x ∈ c.sub,∀ e ∈ x.evs (innerD c (d0 :: r) d0),AlikeE F G C D M e:=fun x hx e he => hE e (ev_sub hx he)
  have hcs:=con_cases c hw
  obtain ⟨k,fr,rc,nm,ex,d,dd,l⟩:=c
  simp only [Con.k,Con.sub,Con.ex,Con.d,Con.ds] at hcs IH UP
  have hh:∀ e ∈ headEv (.mk k fr rc nm ex d dd l) (d0 :: r) d0,AlikeE F G C D M e:=fun e he => hE e (ev_head he)
  have same:k ≠ 6→¬ (k=8∨k=10)→innerD (.mk k fr rc nm ex d dd l) (d0 :: r) d0=d0 :: r:=fun h1 h2 => inner_same h1 h2
  have lat:k=8∨k=10→innerD (.mk k fr rc nm ex d dd l) (d0 :: r) d0=laterD dd d0:=fun h => inner_lat h
  have lm:∀ is:Int→Int × Bool,(firstR is day fin dd).1=0→(firstR is day fin dd).2 < fin→(firstR is day fin dd).2 ∈ laterD dd d0:=fun is h1 h2 => by
   rcases first_mem is day fin dd h1 with h | h
   ·omega
   ·exact later_mem h.1 (by omega)
  unfold Con.flows
  rw [if_neg hn,if_neg hn]
  rcases hcs with ⟨rfl,rfl⟩ | ⟨rfl,rfl,hA⟩ | ⟨rfl,x,y,rfl⟩ | ⟨rfl,hA,x,rfl⟩ | ⟨rfl,hA,x,y,rfl⟩ | ⟨rfl,_,x,rfl⟩ | ⟨rfl,x,y,rfl⟩ | ⟨rfl,hD,x,rfl⟩ | ⟨hk,hD,hA,x,rfl⟩
  ·rfl
  ·have h1:AlikeE F G C D M (.expr ex (d0 :: r)):=hh _ (by simp [headEv,Con.k,Con.ex])
   dsimp only
   rw [if_pos rfl,if_pos rfl,(h1 hp day hd (by omega)).1]
  ·rw [same (by decide) (by decide)] at UP
   dsimp only
   rw [if_pos rfl,if_pos rfl,IH x (by simp) _ _ _ hp hm hM (UP x (by simp)),IH y (by simp) _ _ _ hp hm hM (UP y (by simp))]
  ·have h1:AlikeE F G C D M (.expr ex (d0 :: r)):=hh _ (by simp [headEv,Con.k,Con.ex])
   rw [same (by decide) (by decide)] at UP
   dsimp only
   rw [if_pos rfl,if_pos rfl,(h1 hp day hd (by omega)).1,IH x (by simp) _ _ _ hp hm hM (UP x (by simp))]
  ·have h1:AlikeE F G C D M (.expr ex (d0 :: r)):=hh _ (by simp [headEv,Con.k,Con.ex])
   rw [same (by decide) (by decide)] at UP
   dsimp only
   rw [if_neg (by decide),if_pos rfl,if_neg (by decide),if_pos rfl,(h1 hp day hd (by omega)).2,IH x (by simp) _ _ _ hp hm hM (UP x (by simp)),IH y (by simp) _ _ _ hp hm hM (UP y (by simp))]
  ·show (if day≤d then Con.flows F C x d fin else (0,[]))=(if day≤d then Con.flows G D x d fin else (0,[]))
   by_cases h1:day≤d
   ·have e6:innerD (.mk 6 fr rc nm ex d dd [x]) (d0 :: r) d0=[d]:=inner_at rfl (show d0≤d by omega)
    rw [e6] at UP
    rw [if_pos h1,if_pos h1,IH x (by simp) _ _ _ (List.pairwise_singleton ..) (fun _ => List.mem_singleton.2 rfl) hM (UP x (by simp))]
   ·rw [if_neg h1,if_neg h1]
  ·have h1:AlikeE F G C D M (.choice fr nm (d0 :: r)):=hh _ (by simp [headEv,Con.k,Con.fr,Con.nm])
   rw [same (by decide) (by decide)] at UP
   show (if chosenB C fr nm day=true then Con.flows F C x day fin else Con.flows F C y day fin)=(if chosenB D fr nm day=true then Con.flows G D x day fin else Con.flows G D y day fin)
   rw [h1 day hd (by omega),IH x (by simp) _ _ _ hp hm hM (UP x (by simp)),IH y (by simp) _ _ _ hp hm hM (UP y (by simp))]
  ·have h1:AlikeE F G C D M (.choice fr nm (laterD dd d0)):=hh _ (by simp [headEv,Con.k,Con.fr,Con.nm,Con.ds])
   have e1:=first_same (fun e => (0,chosenB C fr nm e)) (fun e => (0,chosenB D fr nm e)) day fin dd fun e he h2 h3 => congrArg (Prod.mk 0) (h1 e (later_mem he (by omega)) (by omega))
   rw [lat (.inl rfl)] at UP
   dsimp only
   rw [if_neg (by decide),if_neg (by decide),if_pos rfl,if_neg (by decide),if_neg (by decide),if_pos rfl,e1]
   exact IH x (by simp) _ _ _ (later_pw hD d0) (lm _ (first_pure (fun e => chosenB D fr nm e) day fin dd)) hM (UP x (by simp))
  ·have h1:AlikeE F G C D M (.expr ex (laterD dd d0)):=hh _ (by rcases hk with rfl | rfl <;> simp [headEv,Con.k,Con.ex,Con.ds])
   have e1:=first_same (fun e => ex.hold F e) (fun e => ex.hold G e) day fin dd fun e he h2 h3 => (h1 (later_pw hD d0) e (later_mem he (by omega)) (by omega)).2
   dsimp only
   rcases hk with rfl | rfl
   ·rw [same (by decide) (by decide)] at UP
    rw [if_neg (by decide),if_neg (by decide),if_neg (by decide),if_pos rfl,if_neg (by decide),if_neg (by decide),if_neg (by decide),if_pos rfl,e1]
    by_cases h2:(firstR (fun e => ex.hold G e) day fin dd).1=0
    ·have h3:=(first_bd _ day fin (by omega) dd h2).2
     rw [andR_go h2,andR_go h2,IH x (by simp) _ _ _ hp (fun _ => hd) (by omega) (UP x (by simp))]
    ·rw [andR_err h2,andR_err h2]
   ·rw [lat (.inr rfl)] at UP
    rw [if_neg (by decide),if_neg (by decide),if_neg (by decide),if_neg (by decide),if_neg (by decide),if_neg (by decide),if_neg (by decide),if_neg (by decide),e1]
    by_cases h2:(firstR (fun e => ex.hold G e) day fin dd).1=0
    ·rw [andR_go h2,andR_go h2,IH x (by simp) _ _ _ (later_pw hD d0) (lm _ h2) hM (UP x (by simp))]
    ·rw [andR_err h2,andR_err h2]
end Go.Proofs.YtcnpaciljmekcaaGreatDoor

namespace Go.Proofs.YtcnpaciljmekcaaGreatDoor
open Go.RowKit
theorem befR_good {c:Con} {day fin:Int} {F:List Fx} {C:List Ch} (h:(befR c day fin F C).1=0):c.err=0∧envErr F C=0∧isDay day=true∧(c.flows F C day fin).1=0∧(befR c day fin F C).2=srtFl (c.flows F C day fin).2:=by
 by_cases hc:c.err=0
 ·rw [befR_ok hc] at h ⊢
  by_cases he:envErr F C=0
  ·simp only [if_neg (show ¬ (envErr F C ≠ 0) from fun k => k he)] at h ⊢
   by_cases hd:day < 0∨99999 < day∨fin < 0∨100000 < fin
   ·rw [if_pos hd] at h;exact absurd h (by show ¬ ((2:Int)=0);decide)
   ·rw [if_neg hd] at h ⊢
    obtain ⟨h1,e1⟩:=andR_ok h
    rw [e1]
    exact ⟨hc,he,by unfold isDay;simp;omega,h1,rfl⟩
  ·rw [if_pos he] at h;exact absurd h he
 ·unfold befR at h
  rw [if_pos hc] at h;exact absurd h hc
theorem paid_fin {c:Con} {day:Int} {F:List Fx} {C:List Ch} (h:(befR c day 100000 F C).1=0):visErr c day=0∧∀ f ∈ (befR c day 100000 F C).2,f.d ∈ ySet c day:=by
 obtain ⟨hc,_,hd,_,e⟩:=befR_good h
 have hv:visErr c day=0:=by unfold visErr;rw [if_pos hc,if_pos hd]
 refine ⟨hv,fun f hf => ?_⟩
 rw [e,srtFl_mem] at hf
 unfold ySet visEvs
 rw [if_pos hv,uniq_mem,if_pos hv]
 exact flows_paid F C c.bulk c (Nat.le_refl _) (err_formed hc).2 [day] day 100000 (List.pairwise_singleton ..) (fun _ => List.mem_singleton.2 rfl) f hf
end Go.Proofs.YtcnpaciljmekcaaGreatDoor

namespace Go.Proofs.YtcnpaciljmekcaaGreatDoor
open Go.RowKit
theorem mem_step {α:Type} [DecidableEq α] {l:List α} {k:Nat} {x y:α} (h:l[k]? = some y):eqB (x ∈ l.take (k+1))=(eqB (x ∈ l.take k) || decide (y=x)):=by
 rw [take_snoc_get h,Bool.eq_iff_iff,Bool.or_eq_true,eqB_iff,eqB_iff,List.mem_append,List.mem_singleton,decide_eq_true_eq]
 exact ⟨fun h => h.imp id Eq.symm,fun h => h.imp id Eq.symm⟩
end Go.Proofs.YtcnpaciljmekcaaGreatDoor

namespace Go.Proofs.YtcnpaciljmekcaaGreatDoor
open Go.RowKit
def AskE (F G:List Fx) (e:Int) (y:Ex):Prop:=(y.k=2→fixR F y.nm y.d=fixR G y.nm y.d)∧(y.k=3→fixR F y.nm e=fixR G y.nm e)
theorem nodes_sub {x y z:Ex} (hy:y ∈ x.sub) (hz:z ∈ y.nodes):z ∈ x.nodes:=by
 rw [Ex.nodes_eq]
 refine List.mem_cons_of_mem _ ?_
 generalize x.sub=l at hy
 induction l with
 | nil => cases hy
 | cons a l ih =>
  rw [Ex.nodess]
  rcases List.mem_cons.1 hy with rfl | hy
  ·exact List.mem_append_left _ hz
  ·exact List.mem_append_right _ (ih hy)
theorem value_alike (F G:List Fx) (e:Int):∀ (N:Nat) (x:Ex),x.bulk≤N→(∀ y ∈ x.nodes,AskE F G e y)→x.value F e=x.value G e∧x.hold F e=x.hold G e
 | 0,x,hN,_ => by have:=x.sub_lt;omega
 | N+1,.mk k ra nm d l,hN,hA => by
  have IH:∀ y ∈ l,y.value F e=y.value G e∧y.hold F e=y.hold G e:=fun y hy => value_alike F G e N y (by have:=Ex.mem_lt (x:=.mk k ra nm d l) hy;omega) fun z hz => hA z (nodes_sub (x:=.mk k ra nm d l) hy hz)
  have h0:AskE F G e (.mk k ra nm d l):=hA _ (by rw [Ex.nodes_eq];exact List.mem_cons_self ..)
  have h2:k=2→fixR F nm d=fixR G nm d:=h0.1
  have h3:k=3→fixR F nm e=fixR G nm e:=h0.2
  clear hA h0
  have go:∀ A B:Int × ByteArray,(k ≠ 1→k ≠ 2→k ≠ 3→A=B)→(if k=1 then (0,ra) else if k=2 then fixR F nm d else if k=3 then fixR F nm e else A)=if k=1 then (0,ra) else if k=2 then fixR G nm d else if k=3 then fixR G nm e else B:=fun A B hAB => by
   by_cases k1:k=1
   ·rw [if_pos k1,if_pos k1]
   ·rw [if_neg k1,if_neg k1]
    by_cases k2:k=2
    ·rw [if_pos k2,if_pos k2,h2 k2]
    ·rw [if_neg k2,if_neg k2]
     by_cases k3:k=3
     ·rw [if_pos k3,if_pos k3,h3 k3]
     ·rw [if_neg k3,if_neg k3];exact hAB k1 k2 k3
  match l with
  | [] => exact ⟨by rw [Ex.value,Ex.value] <;> first | exact go _ _ fun _ _ _ => rfl | simp,rfl⟩
  | [x] =>
   refine ⟨by rw [Ex.value,Ex.value] <;> first | exact go _ _ fun _ _ _ => rfl | simp,?_⟩
   rw [Ex.hold,Ex.hold,(IH x (by simp)).2]
  | [x,y] =>
   refine ⟨?_,?_⟩
   ·rw [Ex.value,Ex.value,(IH x (by simp)).1,(IH y (by simp)).1];exact go _ _ fun _ _ _ => rfl
   ·rw [Ex.hold,Ex.hold,(IH x (by simp)).1,(IH y (by simp)).1,(IH x (by simp)).2,(IH y (by simp)).2]
  | [p,x,y] =>
   refine ⟨?_,rfl⟩
   rw [Ex.value,Ex.value,(IH p (by simp)).2,(IH x (by simp)).1,(IH y (by simp)).1];exact go _ _ fun _ _ _ => rfl
  | a :: b :: c :: d' :: r => exact ⟨by rw [Ex.value,Ex.value] <;> first | exact go _ _ fun _ _ _ => rfl | simp,rfl⟩
theorem fixR_filter (F:List Fx) (p:Fx→Bool) (nm:ByteArray) (d:Int) (h:∀ f ∈ F,f.nm=nm→f.d=d→p f=true):fixR (F.filter p) nm d=fixR F nm d:=by
 have e:(F.filter p).find? (fxIs ⟨nm,d,⟨#[]⟩⟩)=F.find? (fxIs ⟨nm,d,⟨#[]⟩⟩):=by
  induction F with
  | nil => rfl
  | cons f F ih =>
   have ih:=ih fun g hg => h g (List.mem_cons_of_mem _ hg)
   by_cases hq:fxIs ⟨nm,d,⟨#[]⟩⟩ f=true
   ·have h1:f.nm=nm∧f.d=d:=by unfold fxIs at hq;simpa using hq
    rw [List.filter_cons,if_pos (h f (List.mem_cons_self ..) h1.1 h1.2),List.find?_cons,List.find?_cons,hq]
   ·rw [List.find?_cons_of_neg hq,List.filter_cons]
    split
    ·rw [List.find?_cons_of_neg hq];exact ih
    ·exact ih
 unfold fixR
 rw [e]
theorem chosen_filter (C:List Ch) (p:Ch→Bool) (pt nm:ByteArray) (d:Int) (h:∀ f ∈ C,f.pt=pt→f.nm=nm→f.d=d→p f=true):chosenB (C.filter p) pt nm d=chosenB C pt nm d:=by
 have e:(C.filter p).find? (chIs ⟨pt,nm,d,false⟩)=C.find? (chIs ⟨pt,nm,d,false⟩):=by
  induction C with
  | nil => rfl
  | cons f C ih =>
   have ih:=ih fun g hg => h g (List.mem_cons_of_mem _ hg)
   by_cases hq:chIs ⟨pt,nm,d,false⟩ f=true
   ·have h1:f.pt=pt∧f.nm=nm∧f.d=d:=by unfold chIs at hq;simpa using hq
    rw [List.filter_cons,if_pos (h f (List.mem_cons_self ..) h1.1 h1.2.1 h1.2.2),List.find?_cons,List.find?_cons,hq]
   ·rw [List.find?_cons_of_neg hq,List.filter_cons]
    split
    ·rw [List.find?_cons_of_neg hq];exact ih
    ·exact ih
 unfold chosenB
 rw [e]
theorem inc_pw {α:Type} {lt:α→α→Bool} (ht:∀ x y z,lt x y=true→lt y z=true→lt x z=true) {l:List α} (h:incB lt l=true):l.Pairwise fun a b => lt a b=true:=by
 induction l with
 | nil => exact .nil
 | cons x r ih =>
  cases r with
  | nil => exact .cons (by simp) .nil
  | cons y r =>
   rw [incB,Bool.and_eq_true] at h
   have hp:=ih h.2
   refine .cons ?_ hp
   intro z hz
   rcases List.mem_cons.1 hz with rfl | hz
   ·exact h.1
   ·exact ht _ _ _ h.1 ((List.pairwise_cons.1 hp).1 z hz)
theorem pw_inc {α:Type} {lt:α→α→Bool}:∀ {l:List α},l.Pairwise (fun a b => lt a b=true)→incB lt l=true
 | [],_ => rfl
 | [_],_ => rfl
 | x :: y :: l,h => by
  have h1:=List.pairwise_cons.1 h
  rw [incB,h1.1 y (List.mem_cons_self ..),pw_inc h1.2];rfl
theorem fxl_trans (x y z:Fx):Fx.lt x y=true→Fx.lt y z=true→Fx.lt x z=true:=nd_sto.trans (x.nm,x.d) (y.nm,y.d) (z.nm,z.d)
theorem chl_trans (x y z:Ch):Ch.lt x y=true→Ch.lt y z=true→Ch.lt x z=true:=chx_sto.trans (x.pt,x.nm,x.d) (y.pt,y.nm,y.d) (z.pt,z.nm,z.d)
theorem envErr_zero {F:List Fx} {C:List Ch} (h:envErr F C=0) : ¬ (1000 < F.length∨1000 < C.length)∧F.any fxBad=false∧C.any chBad=false∧incB Fx.lt F=true∧incB Ch.lt C=true:=by
 unfold envErr at h
 split at h
 ·cases h
 ·next h1 =>
  split at h
  ·cases h
  ·next h2 => exact ⟨h1,by simpa [not_or,Bool.not_eq_true] using h2⟩
theorem envErr_filter {F:List Fx} {C:List Ch} (p:Fx→Bool) (q:Ch→Bool) (h:envErr F C=0):envErr (F.filter p) (C.filter q)=0:=by
 obtain ⟨h1,h2,h3,h4,h5⟩:=envErr_zero h
 have l1:=List.length_filter_le p F
 have l2:=List.length_filter_le q C
 have a1:(F.filter p).any fxBad=false:=by
  rw [List.any_eq_false] at h2 ⊢
  exact fun x hx => h2 x (List.mem_filter.1 hx).1
 have a2:(C.filter q).any chBad=false:=by
  rw [List.any_eq_false] at h3 ⊢
  exact fun x hx => h3 x (List.mem_filter.1 hx).1
 have a3:=pw_inc ((inc_pw fxl_trans h4).filter p)
 have a4:=pw_inc ((inc_pw chl_trans h5).filter q)
 unfold envErr
 rw [if_neg (by omega),a1,a2,a3,a4]
 rfl
theorem past_law (c:Con) (day last:Int) (F:List Fx) (C:List Ch) (hc:c.err=0) (hl:evLt (c.evs [day])=false) (hv:envErr F C=0) :
  befR c day (last+1) (F.filter fun f => decide (f.d≤last)) (C.filter fun f => decide (f.d≤last))=befR c day (last+1) F C:=by
 have hg:=envErr_filter (fun f:Fx => decide (f.d≤last)) (fun f:Ch => decide (f.d≤last)) hv
 have hE:∀ e ∈ c.evs [day],AlikeE (F.filter fun f => decide (f.d≤last)) F (C.filter fun f => decide (f.d≤last)) C (last+1) e:=fun e he => by
  have hn:evLate e=false:=by
   have:=List.any_eq_false.1 hl e he
   simpa using this
  cases e with
  | pay ds => trivial
  | choice p n ds => exact fun e _ hlt => chosen_filter _ _ _ _ _ fun f _ _ _ hd => by rw [decide_eq_true_eq];omega
  | expr x es =>
   intro hp e hm hlt
   refine value_alike _ _ e x.bulk x (Nat.le_refl _) fun y hy => ⟨fun hk => ?_,fun hk => ?_⟩
   ·have h1:=List.any_eq_false.1 hn y hy
    refine fixR_filter _ _ _ _ fun f _ _ hd => ?_
    rw [decide_eq_true_eq]
    cases es with
    | nil => cases hm
    | cons d0 r =>
     have h2 : ¬ (d0 < y.d):=by
      intro h;apply h1;unfold xLate;simp only;rw [decide_eq_true hk,decide_eq_true h];rfl
     have h3:d0≤e:=by
      rcases List.mem_cons.1 hm with rfl | hm
      ·exact Int.le_refl _
      ·exact (List.pairwise_cons.1 hp).1 e hm
     omega
   ·exact fixR_filter _ _ _ _ fun f _ _ hd => by rw [decide_eq_true_eq];omega
 rw [befR_ok hc,befR_ok hc,hg,hv,flows_alike _ _ _ _ (last+1) c.bulk c (Nat.le_refl _) (err_formed hc).2 [day] day (last+1) (List.pairwise_singleton ..) (fun _ => List.mem_singleton.2 rfl) (Int.le_refl _) hE]
end Go.Proofs.YtcnpaciljmekcaaGreatDoor

namespace Go.Proofs.YtcnpaciljmekcaaGreatDoor
open Go.RowKit
theorem wide_need:(match Tryz.prog.underlying 81 with | some (.array _ _) | some (.struct _) => true | _ => false)=true:=by kernel_rfl
theorem wide_choice:(match Tryz.prog.underlying 85 with | some (.array _ _) | some (.struct _) => true | _ => false)=true:=by kernel_rfl
theorem laidOut:laidOutB Tryz.prog=true:=by kernel_rfl
theorem row_need:(81:TypeId) < Tryz.prog.types.size:=of_decide_eq_true (by kernel_rfl)
theorem row_choice:(85:TypeId) < Tryz.prog.types.size:=of_decide_eq_true (by kernel_rfl)
set_option maxRecDepth 100000 in
theorem law_need:Maps.Keyed Tryz.prog 81:=.of_law (deep_law_laid laidOut (m:=2) (by omega) row_need (by kernel_rfl) wide_need)
set_option maxRecDepth 100000 in
theorem law_choice:Maps.Keyed Tryz.prog 85:=.of_law (deep_law_laid laidOut (m:=2) (by omega) row_choice (by kernel_rfl) wide_choice)
theorem keyType_need:Tryz.prog.keyType 81=true:=by kernel_rfl
theorem keyType_choice:Tryz.prog.keyType 85=true:=by kernel_rfl
theorem cells_need:Tryz.prog.cellsOf 81=2:=by kernel_rfl
theorem cells_choice:Tryz.prog.cellsOf 85=4:=by kernel_rfl
theorem pos_succ {n m:Nat} (h:n < m):∃ k,m=k+1:=⟨m - 1,by omega⟩
theorem types_succ:∃ m,Tryz.prog.types.size=m+1:=pos_succ row_need
theorem lits_string (m:Nat) {n:ByteArray} (hn:n.size≤maxLen):Tryz.prog.keyLits (m+1) 9 [.string n]=some [.string n.data.toList]:=by
 rw [Program.keyLits.eq_def];simp [Tryz.underlying9,hn]
theorem lits_int (m:Nat) {d:Int} (hd:(Lit.int .i64 d).wf=true):Tryz.prog.keyLits (m+1) 3 [.int .i64 d]=some [.int .i64 d]:=by
 rw [Program.keyLits.eq_def];simp [Tryz.underlying3,hd]
theorem lits_bool (m:Nat) (b:Bool):Tryz.prog.keyLits (m+1) 4 [.bool b]=some [.bool b]:=by
 rw [Program.keyLits.eq_def];simp [Tryz.underlying4]
theorem key_need (n:ByteArray) (d:Int) (hn:n.size≤maxLen) (hd:(Lit.int .i64 d).wf=true):∃ kl,keyOf Tryz.prog 81 (.agg #[.string n,.int .i64 d])=some kl:=by
 obtain ⟨m,hm⟩:=types_succ
 have hf:Value.formed Tryz.prog 81 (.agg #[.string n,.int .i64 d])=true:=by simp [Value.formed,Tryz.underlying81,cells_need]
 unfold keyOf
 rw [Tryz.underlying81]
 simp only [keyType_need,hf,Bool.and_self,if_true,hm]
 have hl:Tryz.prog.keyLits (m+1+1) 81 [.string n,.int .i64 d]=some [.string n.data.toList,.int .i64 d]:=by
  rw [Program.keyLits.eq_def]
  simp [Tryz.underlying81,cells_need,cells_string,cells_int,lits_string m hn,lits_int m hd]
 exact ⟨_,by rw [show (Value.agg #[Value.string n,.int .i64 d]).cells.toList=[.string n,.int .i64 d] from rfl,hl];rfl⟩
theorem key_choice (p n:ByteArray) (d:Int) (f:Bool) (hp:p.size≤maxLen) (hn:n.size≤maxLen) (hd:(Lit.int .i64 d).wf=true):∃ kl,keyOf Tryz.prog 85 (.agg #[.string p,.string n,.int .i64 d,.bool f])=some kl:=by
 obtain ⟨m,hm⟩:=types_succ
 have hf:Value.formed Tryz.prog 85 (.agg #[.string p,.string n,.int .i64 d,.bool f])=true:=by simp [Value.formed,Tryz.underlying85,cells_choice]
 unfold keyOf
 rw [Tryz.underlying85]
 simp only [keyType_choice,hf,Bool.and_self,if_true,hm]
 have hl:Tryz.prog.keyLits (m+1+1) 85 [.string p,.string n,.int .i64 d,.bool f]=some [.string p.data.toList,.string n.data.toList,.int .i64 d,.bool f]:=by
  rw [Program.keyLits.eq_def]
  simp [Tryz.underlying85,cells_choice,cells_string,cells_int,cells_bool,lits_string m hn,lits_string m hp,lits_int m hd,lits_bool m f]
 exact ⟨_,by rw [show (Value.agg #[Value.string p,.string n,.int .i64 d,.bool f]).cells.toList=[.string p,.string n,.int .i64 d,.bool f] from rfl,hl];rfl⟩
end Go.Proofs.YtcnpaciljmekcaaGreatDoor

namespace Go.Proofs.YtcnpaciljmekcaaGreatDoor
open Go.RowKit
theorem ul_needmap:Tryz.prog.underlying 128=some (.map 81 130):=by kernel_rfl
theorem ul_choicemap:Tryz.prog.underlying 129=some (.map 85 130):=by kernel_rfl
theorem zero_unit (w:World):(zeroValue 130).run Tryz.prog w = .ok (.agg #[]) w:=by kernel_rfl
theorem ownsMap_kept {P:Program} {k:TypeId} {R:Value→Option (DataW Unit × List MemPlace)} {w w':World} {b n:Nat} {D:DataW Unit} (h:w.ownsMap P k R b n D) (e:w'.heap[b]? = w.heap[b]?):w'.ownsMap P k R b n D:=by
 obtain ⟨es,clock,hb,r⟩:=h
 exact ⟨es,clock,by rw [e];exact hb,r⟩
theorem ownsMap_lt {P:Program} {k:TypeId} {R:Value→Option (DataW Unit × List MemPlace)} {w:World} {b n:Nat} {D:DataW Unit} (h:w.ownsMap P k R b n D):b < w.heap.size:=by
 obtain ⟨es,clock,hb,r⟩:=h
 exact (Array.getElem?_eq_some_iff.1 hb).1
set_option maxHeartbeats 1000000 in
set_option maxRecDepth 100000 in
theorem only1_any (f:Fx) (B bm n:Nat) (D:DataW Unit) (kl:Lit) (w:World) (hc:w.cell? ⟨B,0,none⟩=some (.map (some bm))) (hm:w.ownsMap Tryz.prog 81 (unitElem (H:=Unit)) bm n D)
  (hk:keyOf Tryz.prog 81 (.agg #[.string f.nm,.int .i64 f.d])=some kl) :
  Calls Tryz.prog 75 #[f.val,.pointer (some ⟨B,0,none⟩)] w fun e w' => e = .returned (.bool (Maps.has D kl))∧Below w.heap.size w w':=by
 have hB:B < w.heap.size:=World.block_lt_of_cell? w _ hc
 unfold Fx.val fxV
 have HM:=Lib.hid hm
 have HK:=Lib.hid hk
 clear hm hk
 go_enter Tryz.func75,Tryz.ntmps75
 go_wp2_with (at_lookup;refine wpList_lookup_own_unit _ rfl _ _ 128 rfl 81 130 law_need ul_needmap (zero_unit _) bm n D rfl (HM.out.alloc _) _ _ rfl HK.out ?_)
 go_ret
 exact ⟨rfl,below_a2 _ _ _⟩
set_option maxHeartbeats 1000000 in
set_option maxRecDepth 100000 in
theorem only2_any (f:Ch) (B bm n:Nat) (D:DataW Unit) (kl:Lit) (w:World) (hc:w.cell? ⟨B,0,none⟩=some (.map (some bm))) (hm:w.ownsMap Tryz.prog 85 (unitElem (H:=Unit)) bm n D)
  (hk:keyOf Tryz.prog 85 (.agg #[.string f.pt,.string f.nm,.int .i64 f.d,.bool false])=some kl) :
  Calls Tryz.prog 76 #[f.val,.pointer (some ⟨B,0,none⟩)] w fun e w' => e = .returned (.bool (Maps.has D kl))∧Below w.heap.size w w':=by
 have hB:B < w.heap.size:=World.block_lt_of_cell? w _ hc
 unfold Ch.val chV
 have HM:=Lib.hid hm
 have HK:=Lib.hid hk
 clear hm hk
 go_enter Tryz.func76,Tryz.ntmps76
 go_wp2_with (at_lookup;refine wpList_lookup_own_unit _ rfl _ _ 129 rfl 85 130 law_choice ul_choicemap (zero_unit _) bm n D rfl (HM.out.alloc _) _ _ rfl HK.out ?_)
 go_ret
 exact ⟨rfl,below_a2 _ _ _⟩
end Go.Proofs.YtcnpaciljmekcaaGreatDoor

namespace Go.Proofs.YtcnpaciljmekcaaGreatDoor
open Go.RowKit
set_option maxRecDepth 100000 in
theorem known1_any (f:Fx) (day:Int) (B:Nat) (w:World) (hc:w.cell? ⟨B,0,none⟩=some (.int .i64 day)) :
  Calls Tryz.prog 55 #[f.val,.pointer (some ⟨B,0,none⟩)] w fun e w' => e = .returned (.bool (decide (f.d≤day)))∧Below w.heap.size w w':=by
 have hB:B < w.heap.size:=World.block_lt_of_cell? w _ hc
 unfold Fx.val fxV
 go_enter Tryz.func55,Tryz.ntmps55
 go_wp2
 go_ret
 exact ⟨rfl,below_a1 _ _⟩
set_option maxRecDepth 100000 in
theorem known2_any (f:Ch) (day:Int) (B:Nat) (w:World) (hc:w.cell? ⟨B,0,none⟩=some (.int .i64 day)) :
  Calls Tryz.prog 57 #[f.val,.pointer (some ⟨B,0,none⟩)] w fun e w' => e = .returned (.bool (decide (f.d≤day)))∧Below w.heap.size w w':=by
 have hB:B < w.heap.size:=World.block_lt_of_cell? w _ hc
 unfold Ch.val chV
 go_enter Tryz.func57,Tryz.ntmps57
 go_wp2
 go_ret
 exact ⟨rfl,below_a1 _ _⟩
end Go.Proofs.YtcnpaciljmekcaaGreatDoor

namespace Go.Proofs.YtcnpaciljmekcaaGreatDoor
open Go.RowKit
set_option maxHeartbeats 2000000 in
set_option maxRecDepth 100000 in
theorem keepF1_any (p:Fx→Bool) (l:List Fx) (ad:Option Addr) (cap B:Nat) (w:World) (hn:l.length≤1100000) (hr:Rd Fx.cells 3 w ad l)
  (HP:∀ f ∈ l,∀ W,Below w.heap.size w W→Calls Tryz.prog 55 #[f.val,.pointer (some ⟨B,0,none⟩)] W fun e w' => e = .returned (.bool (p f))∧Below W.heap.size W w') :
  Calls Tryz.prog 54 #[.slice ad l.length cap,.func (.func 55) #[] #[.pointer (some ⟨B,0,none⟩)]] w (OwnPost Fx.cells 89 3 w (l.filter p)):=by
 obtain ⟨i0,hi,hz0,hz1,hz2⟩:=info_parts info_fixing
 have HQ:=Lib.hid HP
 have HD:=Lib.hid hr
 clear HP hr
 go_enter Tryz.func54,Tryz.ntmps54
 go_wp2
 go_loopw [5,10] (fun v i wr => ∃ (k M:Nat) (adb:Option Addr) (capb:Nat),k≤l.length∧i = .int .i64 k∧v = .slice adb M capb∧M≤k∧Hid (M=((l.take k).filter p).length) ∧
   wr.ownsRow w.heap.size 89 3 (.slice adb M capb) M (((l.take k).filter p).flatMap Fx.cells)∧Below w.heap.size w wr) (fun _ i _ => l.length - (intOf i).toNat)
 case atStart => exact ⟨0,0,none,0,Nat.zero_le _,rfl,rfl,Nat.le_refl _,rfl,World.ownsRow_nil _ _ _ _,Below.refl _ _⟩
 case round =>
  obtain ⟨k,M,adb,capb,hk,rfl,rfl,hMk,HM,hown,hbel⟩:=hrel
  by_cases hlt:k < l.length
  ·obtain ⟨f,hf⟩:∃ f,l[k]? = some f:=⟨_,List.getElem?_eq_getElem hlt⟩
   have hfm:f ∈ l:=List.mem_of_getElem? hf
   have HRf:=((HD.out.below hbel).fx hf)
   have hsz:=hbel.size
   have HC:=Lib.hid (HQ.out f hfm _ (hbel.alloc hsz (.cells #[.string f.nm,.int .i64 f.d,.string f.vl] 89)))
   have HF:=Lib.hid hf
   clear hf hfm
   obtain ⟨b,off,rfl,hc1,hc2,hc3⟩:=HRf
   simp only [Fx.val,fxV] at HC
   cases hp:p f with
   | true =>
    rw [hp] at HC
    have HX:=Lib.hid (filter_take_true HF.out hp)
    clear hp
    go_wp2_with fail
    refine (HC.out).mono ?_
    rintro e w1 ⟨rfl,hb1⟩
    have hown1:=ownsRow_below' (hown.alloc (.cells #[.string f.nm,.int .i64 f.d,.string f.vl] 89)) hb1
    have q0:w1.cell? ⟨wr.heap.size,0,none⟩=some (.string f.nm):=by rw [hb1.cell (by simp)];go_simp
    have q1:w1.cell? ⟨wr.heap.size,1,none⟩=some (.int .i64 f.d):=by rw [hb1.cell (by simp)];go_simp
    have q2:w1.cell? ⟨wr.heap.size,2,none⟩=some (.string f.vl):=by rw [hb1.cell (by simp)];go_simp
    have hs1:wr.heap.size < w1.heap.size:=by have:=hb1.size;simp at this;omega
    have hbel1:Below w.heap.size w w1:=(hbel.alloc hsz _).trans (hb1.mono (by simp;omega))
    have hlt1:=hown1.lt
    clear hb1 hown hbel
    go_wp2_with (at_builtin;refine wpList_append_own _ rfl _ _ 30 rfl w.heap.size 89 i0 (.agg #[.string ⟨#[]⟩,.int .i64 0,.string ⟨#[]⟩]) 3 40 ul_fixings hi hz0 hz1 hz2 rfl (by decide) _ _ _ rfl (hown1.alloc _) ⟨w1.heap.size,0,none⟩ 1 1 [.string f.nm,.int .i64 f.d,.string f.vl] rfl rfl (cell_three_new _ _ _ _ _) (fx_oneCell f) ?d1 ?d2 ?d3 ?_)
    case d1 => unfold maxLen;omega
    case d2 => omega
    case d3 => simp;omega
    intro v2 w2 hown2 hgrow2 _
    have hbel2:Below w.heap.size w w2:=(hbel1.alloc (by omega) _).grown hgrow2 (by simp;omega) (fun k hk => (hlt1 k hk).1)
    obtain ⟨ad3,cap3,rfl,_⟩:=Sl.of_owns hown2
    have HM2:Hid (M+1=((l.take (k+1)).filter p).length):=by show _=_;rw [HX.out,List.length_append,← HM.out];rfl
    have hown3:w2.ownsRow w.heap.size 89 3 (.slice ad3 (M+1) cap3) (M+1) (((l.take (k+1)).filter p).flatMap Fx.cells):=by
     rw [HX.out,List.flatMap_append];simpa [Fx.cells] using hown2
    clear hgrow2 hown2 hown1 hbel1 hlt1
    go_wp2
    go_roundw
    case rel => exact ⟨k+1,M+1,ad3,cap3,by omega,by go_num,rfl,by omega,HM2,hown3,hbel2⟩
    case measure => simp [intOf];omega
   | false =>
    rw [hp] at HC
    have HX:=Lib.hid (filter_take_false HF.out hp)
    clear hp
    go_wp2_with fail
    refine (HC.out).mono ?_
    rintro e w1 ⟨rfl,hb1⟩
    have hown1:=ownsRow_below' (hown.alloc (.cells #[.string f.nm,.int .i64 f.d,.string f.vl] 89)) hb1
    have hbel1:Below w.heap.size w w1:=(hbel.alloc hsz _).trans (hb1.mono (by simp;omega))
    rw [← HX.out] at hown1
    have HM2:Hid (M=((l.take (k+1)).filter p).length):=by show _=_;rw [HX.out];exact HM.out
    clear hb1 hown hbel
    go_wp2
    go_roundw
    case rel => exact ⟨k+1,M,adb,capb,by omega,by go_num,rfl,by omega,HM2,hown1,hbel1⟩
    case measure => simp [intOf];omega
  ·obtain rfl:k=l.length:=by omega
   rw [List.take_length] at hown HM
   have HR:Hid (OwnPost Fx.cells 89 3 w (l.filter p) (.returned (.slice adb M capb)) wr):=by
    have h:=HM.out
    subst h
    exact ⟨adb,capb,rfl,hown,hbel⟩
   go_wp2
   go_ret
   exact HR.out
set_option maxHeartbeats 2000000 in
set_option maxRecDepth 100000 in
theorem keepC1_any (p:Ch→Bool) (l:List Ch) (ad:Option Addr) (cap B:Nat) (w:World) (hn:l.length≤1100000) (hr:Rd Ch.cells 4 w ad l)
  (HP:∀ f ∈ l,∀ W,Below w.heap.size w W→Calls Tryz.prog 57 #[f.val,.pointer (some ⟨B,0,none⟩)] W fun e w' => e = .returned (.bool (p f))∧Below W.heap.size W w') :
  Calls Tryz.prog 56 #[.slice ad l.length cap,.func (.func 57) #[] #[.pointer (some ⟨B,0,none⟩)]] w (OwnPost Ch.cells 85 4 w (l.filter p)):=by
 obtain ⟨i0,hi,hz0,hz1,hz2⟩:=info_parts info_choice
 have HQ:=Lib.hid HP
 have HD:=Lib.hid hr
 clear HP hr
 go_enter Tryz.func56,Tryz.ntmps56
 go_wp2
 go_loopw [5,10] (fun v i wr => ∃ (k M:Nat) (adb:Option Addr) (capb:Nat),k≤l.length∧i = .int .i64 k∧v = .slice adb M capb∧M≤k∧Hid (M=((l.take k).filter p).length) ∧
   wr.ownsRow w.heap.size 85 4 (.slice adb M capb) M (((l.take k).filter p).flatMap Ch.cells)∧Below w.heap.size w wr) (fun _ i _ => l.length - (intOf i).toNat)
 case atStart => exact ⟨0,0,none,0,Nat.zero_le _,rfl,rfl,Nat.le_refl _,rfl,World.ownsRow_nil _ _ _ _,Below.refl _ _⟩
 case round =>
  obtain ⟨k,M,adb,capb,hk,rfl,rfl,hMk,HM,hown,hbel⟩:=hrel
  by_cases hlt:k < l.length
  ·obtain ⟨f,hf⟩:∃ f,l[k]? = some f:=⟨_,List.getElem?_eq_getElem hlt⟩
   have hfm:f ∈ l:=List.mem_of_getElem? hf
   have HRf:=((HD.out.below hbel).ch hf)
   have hsz:=hbel.size
   have HC:=Lib.hid (HQ.out f hfm _ (hbel.alloc hsz (.cells #[.string f.pt,.string f.nm,.int .i64 f.d,.bool f.first] 85)))
   have HF:=Lib.hid hf
   clear hf hfm
   obtain ⟨b,off,rfl,hc1,hc2,hc3,hc4⟩:=HRf
   simp only [Ch.val,chV] at HC
   cases hp:p f with
   | true =>
    rw [hp] at HC
    have HX:=Lib.hid (filter_take_true HF.out hp)
    clear hp
    go_wp2_with fail
    refine (HC.out).mono ?_
    rintro e w1 ⟨rfl,hb1⟩
    have hown1:=ownsRow_below' (hown.alloc (.cells #[.string f.pt,.string f.nm,.int .i64 f.d,.bool f.first] 85)) hb1
    have q0:w1.cell? ⟨wr.heap.size,0,none⟩=some (.string f.pt):=by rw [hb1.cell (by simp)];go_simp
    have q1:w1.cell? ⟨wr.heap.size,1,none⟩=some (.string f.nm):=by rw [hb1.cell (by simp)];go_simp
    have q2:w1.cell? ⟨wr.heap.size,2,none⟩=some (.int .i64 f.d):=by rw [hb1.cell (by simp)];go_simp
    have q3:w1.cell? ⟨wr.heap.size,3,none⟩=some (.bool f.first):=by rw [hb1.cell (by simp)];go_simp
    have hs1:wr.heap.size < w1.heap.size:=by have:=hb1.size;simp at this;omega
    have hbel1:Below w.heap.size w w1:=(hbel.alloc hsz _).trans (hb1.mono (by simp;omega))
    have hlt1:=hown1.lt
    clear hb1 hown hbel
    go_wp2_with (at_builtin;refine wpList_append_own _ rfl _ _ 31 rfl w.heap.size 85 i0 (.agg #[.string ⟨#[]⟩,.string ⟨#[]⟩,.int .i64 0,.bool false]) 4 48 ul_choices hi hz0 hz1 hz2 rfl (by decide) _ _ _ rfl (hown1.alloc _) ⟨w1.heap.size,0,none⟩ 1 1 [.string f.pt,.string f.nm,.int .i64 f.d,.bool f.first] rfl rfl (cell_four_new _ _ _ _ _ _) (ch_oneCell f) ?d1 ?d2 ?d3 ?_)
    case d1 => unfold maxLen;omega
    case d2 => omega
    case d3 => simp;omega
    intro v2 w2 hown2 hgrow2 _
    have hbel2:Below w.heap.size w w2:=(hbel1.alloc (by omega) _).grown hgrow2 (by simp;omega) (fun k hk => (hlt1 k hk).1)
    obtain ⟨ad3,cap3,rfl,_⟩:=Sl.of_owns hown2
    have HM2:Hid (M+1=((l.take (k+1)).filter p).length):=by show _=_;rw [HX.out,List.length_append,← HM.out];rfl
    have hown3:w2.ownsRow w.heap.size 85 4 (.slice ad3 (M+1) cap3) (M+1) (((l.take (k+1)).filter p).flatMap Ch.cells):=by
     rw [HX.out,List.flatMap_append];simpa [Ch.cells] using hown2
    clear hgrow2 hown2 hown1 hbel1 hlt1
    go_wp2
    go_roundw
    case rel => exact ⟨k+1,M+1,ad3,cap3,by omega,by go_num,rfl,by omega,HM2,hown3,hbel2⟩
    case measure => simp [intOf];omega
   | false =>
    rw [hp] at HC
    have HX:=Lib.hid (filter_take_false HF.out hp)
    clear hp
    go_wp2_with fail
    refine (HC.out).mono ?_
    rintro e w1 ⟨rfl,hb1⟩
    have hown1:=ownsRow_below' (hown.alloc (.cells #[.string f.pt,.string f.nm,.int .i64 f.d,.bool f.first] 85)) hb1
    have hbel1:Below w.heap.size w w1:=(hbel.alloc hsz _).trans (hb1.mono (by simp;omega))
    rw [← HX.out] at hown1
    have HM2:Hid (M=((l.take (k+1)).filter p).length):=by show _=_;rw [HX.out];exact HM.out
    clear hb1 hown hbel
    go_wp2
    go_roundw
    case rel => exact ⟨k+1,M,adb,capb,by omega,by go_num,rfl,by omega,HM2,hown1,hbel1⟩
    case measure => simp [intOf];omega
  ·obtain rfl:k=l.length:=by omega
   rw [List.take_length] at hown HM
   have HR:Hid (OwnPost Ch.cells 85 4 w (l.filter p) (.returned (.slice adb M capb)) wr):=by
    have h:=HM.out
    subst h
    exact ⟨adb,capb,rfl,hown,hbel⟩
   go_wp2
   go_ret
   exact HR.out
set_option maxHeartbeats 2000000 in
set_option maxRecDepth 100000 in
theorem keepF2_any (p:Fx→Bool) (l:List Fx) (ad:Option Addr) (cap B:Nat) (w:World) (hn:l.length≤1100000) (hr:Rd Fx.cells 3 w ad l)
  (HP:∀ f ∈ l,∀ W,Below w.heap.size w W→Calls Tryz.prog 75 #[f.val,.pointer (some ⟨B,0,none⟩)] W fun e w' => e = .returned (.bool (p f))∧Below W.heap.size W w') :
  Calls Tryz.prog 54 #[.slice ad l.length cap,.func (.func 75) #[] #[.pointer (some ⟨B,0,none⟩)]] w (OwnPost Fx.cells 89 3 w (l.filter p)):=by
 obtain ⟨i0,hi,hz0,hz1,hz2⟩:=info_parts info_fixing
 have HQ:=Lib.hid HP
 have HD:=Lib.hid hr
 clear HP hr
 go_enter Tryz.func54,Tryz.ntmps54
 go_wp2
 go_loopw [5,10] (fun v i wr => ∃ (k M:Nat) (adb:Option Addr) (capb:Nat),k≤l.length∧i = .int .i64 k∧v = .slice adb M capb∧M≤k∧Hid (M=((l.take k).filter p).length) ∧
   wr.ownsRow w.heap.size 89 3 (.slice adb M capb) M (((l.take k).filter p).flatMap Fx.cells)∧Below w.heap.size w wr) (fun _ i _ => l.length - (intOf i).toNat)
 case atStart => exact ⟨0,0,none,0,Nat.zero_le _,rfl,rfl,Nat.le_refl _,rfl,World.ownsRow_nil _ _ _ _,Below.refl _ _⟩
 case round =>
  obtain ⟨k,M,adb,capb,hk,rfl,rfl,hMk,HM,hown,hbel⟩:=hrel
  by_cases hlt:k < l.length
  ·obtain ⟨f,hf⟩:∃ f,l[k]? = some f:=⟨_,List.getElem?_eq_getElem hlt⟩
   have hfm:f ∈ l:=List.mem_of_getElem? hf
   have HRf:=((HD.out.below hbel).fx hf)
   have hsz:=hbel.size
   have HC:=Lib.hid (HQ.out f hfm _ (hbel.alloc hsz (.cells #[.string f.nm,.int .i64 f.d,.string f.vl] 89)))
   have HF:=Lib.hid hf
   clear hf hfm
   obtain ⟨b,off,rfl,hc1,hc2,hc3⟩:=HRf
   simp only [Fx.val,fxV] at HC
   cases hp:p f with
   | true =>
    rw [hp] at HC
    have HX:=Lib.hid (filter_take_true HF.out hp)
    clear hp
    go_wp2_with fail
    refine (HC.out).mono ?_
    rintro e w1 ⟨rfl,hb1⟩
    have hown1:=ownsRow_below' (hown.alloc (.cells #[.string f.nm,.int .i64 f.d,.string f.vl] 89)) hb1
    have q0:w1.cell? ⟨wr.heap.size,0,none⟩=some (.string f.nm):=by rw [hb1.cell (by simp)];go_simp
    have q1:w1.cell? ⟨wr.heap.size,1,none⟩=some (.int .i64 f.d):=by rw [hb1.cell (by simp)];go_simp
    have q2:w1.cell? ⟨wr.heap.size,2,none⟩=some (.string f.vl):=by rw [hb1.cell (by simp)];go_simp
    have hs1:wr.heap.size < w1.heap.size:=by have:=hb1.size;simp at this;omega
    have hbel1:Below w.heap.size w w1:=(hbel.alloc hsz _).trans (hb1.mono (by simp;omega))
    have hlt1:=hown1.lt
    clear hb1 hown hbel
    go_wp2_with (at_builtin;refine wpList_append_own _ rfl _ _ 30 rfl w.heap.size 89 i0 (.agg #[.string ⟨#[]⟩,.int .i64 0,.string ⟨#[]⟩]) 3 40 ul_fixings hi hz0 hz1 hz2 rfl (by decide) _ _ _ rfl (hown1.alloc _) ⟨w1.heap.size,0,none⟩ 1 1 [.string f.nm,.int .i64 f.d,.string f.vl] rfl rfl (cell_three_new _ _ _ _ _) (fx_oneCell f) ?d1 ?d2 ?d3 ?_)
    case d1 => unfold maxLen;omega
    case d2 => omega
    case d3 => simp;omega
    intro v2 w2 hown2 hgrow2 _
    have hbel2:Below w.heap.size w w2:=(hbel1.alloc (by omega) _).grown hgrow2 (by simp;omega) (fun k hk => (hlt1 k hk).1)
    obtain ⟨ad3,cap3,rfl,_⟩:=Sl.of_owns hown2
    have HM2:Hid (M+1=((l.take (k+1)).filter p).length):=by show _=_;rw [HX.out,List.length_append,← HM.out];rfl
    have hown3:w2.ownsRow w.heap.size 89 3 (.slice ad3 (M+1) cap3) (M+1) (((l.take (k+1)).filter p).flatMap Fx.cells):=by
     rw [HX.out,List.flatMap_append];simpa [Fx.cells] using hown2
    clear hgrow2 hown2 hown1 hbel1 hlt1
    go_wp2
    go_roundw
    case rel => exact ⟨k+1,M+1,ad3,cap3,by omega,by go_num,rfl,by omega,HM2,hown3,hbel2⟩
    case measure => simp [intOf];omega
   | false =>
    rw [hp] at HC
    have HX:=Lib.hid (filter_take_false HF.out hp)
    clear hp
    go_wp2_with fail
    refine (HC.out).mono ?_
    rintro e w1 ⟨rfl,hb1⟩
    have hown1:=ownsRow_below' (hown.alloc (.cells #[.string f.nm,.int .i64 f.d,.string f.vl] 89)) hb1
    have hbel1:Below w.heap.size w w1:=(hbel.alloc hsz _).trans (hb1.mono (by simp;omega))
    rw [← HX.out] at hown1
    have HM2:Hid (M=((l.take (k+1)).filter p).length):=by show _=_;rw [HX.out];exact HM.out
    clear hb1 hown hbel
    go_wp2
    go_roundw
    case rel => exact ⟨k+1,M,adb,capb,by omega,by go_num,rfl,by omega,HM2,hown1,hbel1⟩
    case measure => simp [intOf];omega
  ·obtain rfl:k=l.length:=by omega
   rw [List.take_length] at hown HM
   have HR:Hid (OwnPost Fx.cells 89 3 w (l.filter p) (.returned (.slice adb M capb)) wr):=by
    have h:=HM.out
    subst h
    exact ⟨adb,capb,rfl,hown,hbel⟩
   go_wp2
   go_ret
   exact HR.out
set_option maxHeartbeats 2000000 in
set_option maxRecDepth 100000 in
theorem keepC2_any (p:Ch→Bool) (l:List Ch) (ad:Option Addr) (cap B:Nat) (w:World) (hn:l.length≤1100000) (hr:Rd Ch.cells 4 w ad l)
  (HP:∀ f ∈ l,∀ W,Below w.heap.size w W→Calls Tryz.prog 76 #[f.val,.pointer (some ⟨B,0,none⟩)] W fun e w' => e = .returned (.bool (p f))∧Below W.heap.size W w') :
  Calls Tryz.prog 56 #[.slice ad l.length cap,.func (.func 76) #[] #[.pointer (some ⟨B,0,none⟩)]] w (OwnPost Ch.cells 85 4 w (l.filter p)):=by
 obtain ⟨i0,hi,hz0,hz1,hz2⟩:=info_parts info_choice
 have HQ:=Lib.hid HP
 have HD:=Lib.hid hr
 clear HP hr
 go_enter Tryz.func56,Tryz.ntmps56
 go_wp2
 go_loopw [5,10] (fun v i wr => ∃ (k M:Nat) (adb:Option Addr) (capb:Nat),k≤l.length∧i = .int .i64 k∧v = .slice adb M capb∧M≤k∧Hid (M=((l.take k).filter p).length) ∧
   wr.ownsRow w.heap.size 85 4 (.slice adb M capb) M (((l.take k).filter p).flatMap Ch.cells)∧Below w.heap.size w wr) (fun _ i _ => l.length - (intOf i).toNat)
 case atStart => exact ⟨0,0,none,0,Nat.zero_le _,rfl,rfl,Nat.le_refl _,rfl,World.ownsRow_nil _ _ _ _,Below.refl _ _⟩
 case round =>
  obtain ⟨k,M,adb,capb,hk,rfl,rfl,hMk,HM,hown,hbel⟩:=hrel
  by_cases hlt:k < l.length
  ·obtain ⟨f,hf⟩:∃ f,l[k]? = some f:=⟨_,List.getElem?_eq_getElem hlt⟩
   have hfm:f ∈ l:=List.mem_of_getElem? hf
   have HRf:=((HD.out.below hbel).ch hf)
   have hsz:=hbel.size
   have HC:=Lib.hid (HQ.out f hfm _ (hbel.alloc hsz (.cells #[.string f.pt,.string f.nm,.int .i64 f.d,.bool f.first] 85)))
   have HF:=Lib.hid hf
   clear hf hfm
   obtain ⟨b,off,rfl,hc1,hc2,hc3,hc4⟩:=HRf
   simp only [Ch.val,chV] at HC
   cases hp:p f with
   | true =>
    rw [hp] at HC
    have HX:=Lib.hid (filter_take_true HF.out hp)
    clear hp
    go_wp2_with fail
    refine (HC.out).mono ?_
    rintro e w1 ⟨rfl,hb1⟩
    have hown1:=ownsRow_below' (hown.alloc (.cells #[.string f.pt,.string f.nm,.int .i64 f.d,.bool f.first] 85)) hb1
    have q0:w1.cell? ⟨wr.heap.size,0,none⟩=some (.string f.pt):=by rw [hb1.cell (by simp)];go_simp
    have q1:w1.cell? ⟨wr.heap.size,1,none⟩=some (.string f.nm):=by rw [hb1.cell (by simp)];go_simp
    have q2:w1.cell? ⟨wr.heap.size,2,none⟩=some (.int .i64 f.d):=by rw [hb1.cell (by simp)];go_simp
    have q3:w1.cell? ⟨wr.heap.size,3,none⟩=some (.bool f.first):=by rw [hb1.cell (by simp)];go_simp
    have hs1:wr.heap.size < w1.heap.size:=by have:=hb1.size;simp at this;omega
    have hbel1:Below w.heap.size w w1:=(hbel.alloc hsz _).trans (hb1.mono (by simp;omega))
    have hlt1:=hown1.lt
    clear hb1 hown hbel
    go_wp2_with (at_builtin;refine wpList_append_own _ rfl _ _ 31 rfl w.heap.size 85 i0 (.agg #[.string ⟨#[]⟩,.string ⟨#[]⟩,.int .i64 0,.bool false]) 4 48 ul_choices hi hz0 hz1 hz2 rfl (by decide) _ _ _ rfl (hown1.alloc _) ⟨w1.heap.size,0,none⟩ 1 1 [.string f.pt,.string f.nm,.int .i64 f.d,.bool f.first] rfl rfl (cell_four_new _ _ _ _ _ _) (ch_oneCell f) ?d1 ?d2 ?d3 ?_)
    case d1 => unfold maxLen;omega
    case d2 => omega
    case d3 => simp;omega
    intro v2 w2 hown2 hgrow2 _
    have hbel2:Below w.heap.size w w2:=(hbel1.alloc (by omega) _).grown hgrow2 (by simp;omega) (fun k hk => (hlt1 k hk).1)
    obtain ⟨ad3,cap3,rfl,_⟩:=Sl.of_owns hown2
    have HM2:Hid (M+1=((l.take (k+1)).filter p).length):=by show _=_;rw [HX.out,List.length_append,← HM.out];rfl
    have hown3:w2.ownsRow w.heap.size 85 4 (.slice ad3 (M+1) cap3) (M+1) (((l.take (k+1)).filter p).flatMap Ch.cells):=by
     rw [HX.out,List.flatMap_append];simpa [Ch.cells] using hown2
    clear hgrow2 hown2 hown1 hbel1 hlt1
    go_wp2
    go_roundw
    case rel => exact ⟨k+1,M+1,ad3,cap3,by omega,by go_num,rfl,by omega,HM2,hown3,hbel2⟩
    case measure => simp [intOf];omega
   | false =>
    rw [hp] at HC
    have HX:=Lib.hid (filter_take_false HF.out hp)
    clear hp
    go_wp2_with fail
    refine (HC.out).mono ?_
    rintro e w1 ⟨rfl,hb1⟩
    have hown1:=ownsRow_below' (hown.alloc (.cells #[.string f.pt,.string f.nm,.int .i64 f.d,.bool f.first] 85)) hb1
    have hbel1:Below w.heap.size w w1:=(hbel.alloc hsz _).trans (hb1.mono (by simp;omega))
    rw [← HX.out] at hown1
    have HM2:Hid (M=((l.take (k+1)).filter p).length):=by show _=_;rw [HX.out];exact HM.out
    clear hb1 hown hbel
    go_wp2
    go_roundw
    case rel => exact ⟨k+1,M,adb,capb,by omega,by go_num,rfl,by omega,HM2,hown1,hbel1⟩
    case measure => simp [intOf];omega
  ·obtain rfl:k=l.length:=by omega
   rw [List.take_length] at hown HM
   have HR:Hid (OwnPost Ch.cells 85 4 w (l.filter p) (.returned (.slice adb M capb)) wr):=by
    have h:=HM.out
    subst h
    exact ⟨adb,capb,rfl,hown,hbel⟩
   go_wp2
   go_ret
   exact HR.out
end Go.Proofs.YtcnpaciljmekcaaGreatDoor
