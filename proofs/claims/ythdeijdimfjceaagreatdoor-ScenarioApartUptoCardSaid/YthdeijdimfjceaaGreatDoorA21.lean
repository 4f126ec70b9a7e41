/- A part. -/
import Derived.Test.YthdeijdimfjceaaGreatDoorA20
import Derived.Test.YthdeijdimfjceaaGreatDoorA19
import Derived.Laws.OwnMore
import Derived.Deep.RegionLaw
import Derived.Lib.SliceRun
import Derived.ArgAppend
namespace Go.Proofs.YthdeijdimfjceaaGreatDoor
open Go.RowKit
theorem err_formed {c:Con} (h:c.err=0) : ¬ (500 < c.size∨60 < c.depth)∧c.formed=true:=by
 have hs : ¬ (500 < c.size∨60 < c.depth):=by
  intro h1;unfold Con.err at h;rw [if_pos h1] at h;cases h
 refine ⟨hs,?_⟩
 unfold Con.err at h;rw [if_neg hs] at h;split at h
 ·assumption
 ·cases h
theorem paidS_d {d:Int} {fr rc cy am:ByteArray}:∀ f ∈ paidS d fr rc cy am,f.d=d:=by
 intro f hf
 unfold paidS at hf
 split at hf
 ·cases hf
 ·split at hf
  ·rw [List.mem_singleton] at hf;subst hf;rfl
  ·rw [List.mem_singleton] at hf;subst hf;rfl
theorem andR_all {α:Type} {P:Fl→Prop} {a:Int × α} {f:α→Int × List Fl} (h:a.1=0→∀ g ∈ (f a.2).2,P g):∀ g ∈ (andR a [] f).2,P g:=by
 unfold andR
 split
 ·intro f hf;cases hf
 ·next h0 => exact h (Decidable.not_not.1 h0)
theorem mulAll_d (k:ByteArray) {P:Int→Prop}:∀ l:List Fl,(∀ f ∈ l,P f.d)→∀ f ∈ (mulAll k l).2,P f.d
 | [],_ => by intro f hf;cases hf
 | g :: l,h => by
  unfold mulAll
  refine andR_all (P:=fun f => P f.d) fun _ => andR_all (P:=fun f => P f.d) fun _ => ?_
  intro f hf
  rcases List.mem_append.1 hf with hf | hf
  ·rw [paidS_d f hf];exact h g (List.mem_cons_self ..)
  ·exact mulAll_d k l (fun f hf => h f (List.mem_cons_of_mem _ hf)) f hf
theorem flows_in (F:List Fx) (C:List Ch):∀ (N:Nat) (c:Con),c.bulk≤N→c.formed=true→∀ day fin,∀ f ∈ (c.flows F C day fin).2,day≤f.d∧f.d < fin
 | 0,c,hN,_ => by have:=c.sub_lt;omega
 | N+1,c,hN,hw => fun day fin => by
  have IH:∀ y ∈ c.sub,∀ day fin,∀ f ∈ (y.flows F C day fin).2,day≤f.d∧f.d < fin:=fun y hy => flows_in F C N y (by have:=Con.mem_lt hy;omega) (by
   rw [Con.formed_eq,Bool.and_eq_true,Con.formeds_eq] at hw;exact List.all_eq_true.1 hw.2 y hy)
  have hcs:=con_cases c hw
  obtain ⟨k,fr,rc,nm,ex,d,ds,l⟩:=c
  simp only [Con.k,Con.sub,Con.ex,Con.d,Con.ds] at hcs IH
  unfold Con.flows
  by_cases hn:fin≤day
  ·rw [if_pos hn];intro f hf;cases hf
  ·rw [if_neg hn]
   have two:∀ (is:Int→Int × Bool),(firstR is day fin ds).1=0→day≤(firstR is day fin ds).2∧(firstR is day fin ds).2≤fin:=fun is h => first_bd is day fin (by omega) ds h
   rcases hcs with ⟨rfl,rfl⟩ | ⟨rfl,rfl,hA⟩ | ⟨rfl,x,y,rfl⟩ | ⟨rfl,hA,x,rfl⟩ | ⟨rfl,hA,x,y,rfl⟩ | ⟨rfl,hd,x,rfl⟩ | ⟨rfl,x,y,rfl⟩ | ⟨rfl,hd,x,rfl⟩ | ⟨hk,hd,hA,x,rfl⟩
   ·intro f hf;cases hf
   ·dsimp only
    rw [if_pos rfl]
    exact andR_all fun h f hf => by rw [paidS_d f hf];omega
   ·dsimp only
    rw [if_pos rfl]
    refine andR_all fun _ => andR_all fun _ => ?_
    intro f hf
    rcases List.mem_append.1 hf with hf | hf
    ·exact IH x (by simp) _ _ f hf
    ·exact IH y (by simp) _ _ f hf
   ·dsimp only
    rw [if_pos rfl]
    exact andR_all fun _ => andR_all fun _ => mulAll_d (P:=fun d => day≤d∧d < fin) _ _ (IH x (by simp) _ _)
   ·dsimp only
    rw [if_neg (by decide),if_pos rfl]
    refine andR_all fun _ => ?_
    split
    ·exact IH x (by simp) _ _
    ·exact IH y (by simp) _ _
   ·dsimp only
    rw [if_neg (by decide),if_pos rfl]
    split
    ·next h1 =>
     intro f hf
     have:=IH x (by simp) _ _ f hf
     omega
    ·intro f hf;cases hf
   ·dsimp only
    rw [if_neg (by decide),if_neg (by decide)]
    split
    ·exact IH x (by simp) _ _
    ·exact IH y (by simp) _ _
   ·dsimp only
    rw [if_neg (by decide),if_neg (by decide),if_pos rfl]
    intro f hf
    have h1:=IH x (by simp) _ _ f hf
    have h2:=two _ (first_pure (fun e => chosenB C fr nm e) day fin ds)
    omega
   ·dsimp only
    rcases hk with rfl | rfl
    ·rw [if_neg (by decide),if_neg (by decide),if_neg (by decide),if_pos rfl]
     refine andR_all fun h f hf => ?_
     have h1:=IH x (by simp) _ _ f hf
     have h2:=two _ h
     omega
    ·rw [if_neg (by decide),if_neg (by decide),if_neg (by decide),if_neg (by decide)]
     refine andR_all fun h f hf => ?_
     have h1:=IH x (by simp) _ _ f hf
     have h2:=two _ h
     omega
theorem befR_srt (c:Con) (day fin:Int) (F:List Fx) (C:List Ch):SrtFl (befR c day fin F C).2:=by
 unfold befR
 repeat' split
 all_goals first
  | exact List.Pairwise.nil
  | skip
 unfold andR
 split
 ·exact List.Pairwise.nil
 ·exact srtFl_srt _
end Go.Proofs.YthdeijdimfjceaaGreatDoor

namespace Go.Proofs.YthdeijdimfjceaaGreatDoor
open Go.RowKit
theorem andR_posA {α:Type} {a:Int × α} {f:α→Int × List Fl} (h:a.1=0→∀ g ∈ (f a.2).2,posA g.am):∀ g ∈ (andR a [] f).2,posA g.am:=andR_all (P:=fun g => posA g.am) h
theorem mulAll_posA (k:ByteArray):∀ l:List Fl,∀ f ∈ (mulAll k l).2,posA f.am
 | [] => by intro f hf;cases hf
 | f :: l => by
  unfold mulAll
  refine andR_posA fun h => andR_posA fun _ => ?_
  intro g hg
  rcases List.mem_append.1 hg with hg | hg
  ·exact paidS_posA (mulS_rat h) g hg
  ·exact mulAll_posA k l g hg
theorem flows_posA {F:List Fx} {C:List Ch} (hF:∀ f ∈ F,ratErr f.vl=0):∀ (N:Nat) (c:Con),c.bulk≤N→c.formed=true→∀ day fin,∀ f ∈ (c.flows F C day fin).2,posA f.am
 | 0,c,hN,_ => by have:=c.sub_lt;omega
 | N+1,c,hN,hw => fun day fin => by
  have IH:∀ y ∈ c.sub,∀ day fin,∀ f ∈ (y.flows F C day fin).2,posA f.am:=fun y hy => flows_posA hF N y (by have:=Con.mem_lt hy;omega) (by
   rw [Con.formed_eq,Bool.and_eq_true,Con.formeds_eq] at hw;exact List.all_eq_true.1 hw.2 y hy)
  have hcs:=con_cases c hw
  obtain ⟨k,fr,rc,nm,ex,d,ds,l⟩:=c
  simp only [Con.k,Con.sub,Con.ex,Con.d,Con.ds] at hcs IH
  unfold Con.flows
  split
  ·intro f hf;cases hf
  ·rcases hcs with ⟨rfl,rfl⟩ | ⟨rfl,rfl,hA⟩ | ⟨rfl,x,y,rfl⟩ | ⟨rfl,hA,x,rfl⟩ | ⟨rfl,hA,x,y,rfl⟩ | ⟨rfl,hd,x,rfl⟩ | ⟨rfl,x,y,rfl⟩ | ⟨rfl,hd,x,rfl⟩ | ⟨hk,hd,hA,x,rfl⟩
   ·intro f hf;cases hf
   ·dsimp only
    rw [if_pos rfl]
    exact andR_posA fun h => paidS_posA (value_rat hF day ex.bulk ex (Nat.le_refl _) (isA_is hA).2 h)
   ·dsimp only
    rw [if_pos rfl]
    refine andR_posA fun _ => andR_posA fun _ => ?_
    intro f hf
    rcases List.mem_append.1 hf with hf | hf
    ·exact IH x (by simp) _ _ f hf
    ·exact IH y (by simp) _ _ f hf
   ·dsimp only
    rw [if_pos rfl]
    exact andR_posA fun _ => andR_posA fun _ => mulAll_posA _ _
   ·dsimp only
    rw [if_neg (by decide),if_pos rfl]
    refine andR_posA fun _ => ?_
    split
    ·exact IH x (by simp) _ _
    ·exact IH y (by simp) _ _
   ·dsimp only
    rw [if_neg (by decide),if_pos rfl]
    split
    ·exact IH x (by simp) _ _
    ·intro f hf;cases hf
   ·dsimp only
    rw [if_neg (by decide),if_neg (by decide)]
    split
    ·exact IH x (by simp) _ _
    ·exact IH y (by simp) _ _
   ·dsimp only
    rw [if_neg (by decide),if_neg (by decide),if_pos rfl]
    exact IH x (by simp) _ _
   ·dsimp only
    rcases hk with rfl | rfl
    ·rw [if_neg (by decide),if_neg (by decide),if_neg (by decide),if_pos rfl]
     exact andR_posA fun _ => IH x (by simp) _ _
    ·rw [if_neg (by decide),if_neg (by decide),if_neg (by decide),if_neg (by decide)]
     exact andR_posA fun _ => IH x (by simp) _ _
end Go.Proofs.YthdeijdimfjceaaGreatDoor

namespace Go.Proofs.YthdeijdimfjceaaGreatDoor
open Go.RowKit
def PayOf (c:Con) (f:Fl):Prop:=∃ n ∈ c.nodes,n.k=2∧(f.fr=n.fr∧f.rc=n.rc∨f.fr=n.rc∧f.rc=n.fr)∧f.cy=n.nm
def Con.pays (c:Con):Nat:=(c.nodes.filter fun n => n.k == 2).length
def Con.payss (l:List Con):Nat:=((Con.nodess l).filter fun n => n.k == 2).length
theorem Con.pays_eq (c:Con):c.pays=(if c.k=2 then 1 else 0)+Con.payss c.sub:=by
 unfold Con.pays Con.payss
 rw [c.nodes_eq,List.filter_cons]
 by_cases h:c.k=2
 ·rw [if_pos (by simp [h]),if_pos h,List.length_cons];omega
 ·rw [if_neg (by simp [h]),if_neg h];omega
theorem Con.payss_one (x:Con):Con.payss [x]=x.pays:=by simp [Con.payss,Con.nodess,Con.pays]
theorem Con.payss_two (x y:Con):Con.payss [x,y]=x.pays+y.pays:=by simp [Con.payss,Con.nodess,Con.pays]
theorem nodess_mem {n x:Con}:∀ {l:List Con},x ∈ l→n ∈ x.nodes→n ∈ Con.nodess l
 | [],h,_ => by cases h
 | y :: l,h,hn => by
  rw [Con.nodess,List.mem_append]
  rcases List.mem_cons.1 h with rfl | h
  ·exact .inl hn
  ·exact .inr (nodess_mem h hn)
theorem PayOf.up {c x:Con} {f:Fl} (hx:x ∈ c.sub) (h:PayOf x f):PayOf c f:=by
 obtain ⟨n,hn,h⟩:=h
 exact ⟨n,by rw [c.nodes_eq];exact List.mem_cons_of_mem _ (nodess_mem hx hn),h⟩
theorem paidS_who {d:Int} {fr rc cy am:ByteArray}:∀ f ∈ paidS d fr rc cy am,(f.fr=fr∧f.rc=rc∨f.fr=rc∧f.rc=fr)∧f.cy=cy:=by
 intro f hf
 unfold paidS at hf
 split at hf
 ·cases hf
 ·split at hf
  ·rw [List.mem_singleton] at hf;subst hf;exact ⟨.inr ⟨rfl,rfl⟩,rfl⟩
  ·rw [List.mem_singleton] at hf;subst hf;exact ⟨.inl ⟨rfl,rfl⟩,rfl⟩
theorem paidS_one {d:Int} {fr rc cy am:ByteArray}:(paidS d fr rc cy am).length≤1:=by
 unfold paidS
 split
 ·simp
 ·split <;> simp
theorem mulAll_pay (k:ByteArray) {c:Con}:∀ l:List Fl,(∀ f ∈ l,PayOf c f)→∀ f ∈ (mulAll k l).2,PayOf c f
 | [],_ => by intro f hf;cases hf
 | g :: l,h => by
  unfold mulAll
  refine andR_all fun _ => andR_all fun _ => ?_
  intro f hf
  rcases List.mem_append.1 hf with hf | hf
  ·obtain ⟨n,hn,h2,hw,hc⟩:=h g (List.mem_cons_self ..)
   obtain ⟨e1,e2⟩:=paidS_who f hf
   refine ⟨n,hn,h2,?_,e2.trans hc⟩
   rcases e1 with ⟨a,b⟩ | ⟨a,b⟩ <;> rcases hw with ⟨u,v⟩ | ⟨u,v⟩ <;> rw [a,b,u,v] <;> simp
  ·exact mulAll_pay k l (fun f hf => h f (List.mem_cons_of_mem _ hf)) f hf
theorem andR_cnt {α:Type} {N:Nat} {a:Int × α} {f:α→Int × List Fl} (h:(f a.2).2.length≤N):(andR a [] f).2.length≤N:=by
 unfold andR
 split
 ·exact Nat.zero_le _
 ·exact h
theorem mulAll_cnt (k:ByteArray):∀ l:List Fl,(mulAll k l).2.length≤l.length
 | [] => Nat.le_refl _
 | g :: l => by
  unfold mulAll
  refine andR_cnt (andR_cnt ?_)
  rw [List.length_append,List.length_cons]
  have h1:=mulAll_cnt k l
  have h2:(paidS g.d g.fr g.rc g.cy (mkB (mulS g.am k))).length≤1:=paidS_one
  show (paidS g.d g.fr g.rc g.cy (mkB (mulS g.am k))).length+(mulAll k l).2.length≤l.length+1
  omega
theorem flows_pays (F:List Fx) (C:List Ch):∀ (N:Nat) (c:Con),c.bulk≤N→c.formed=true→∀ day fin,(∀ f ∈ (c.flows F C day fin).2,PayOf c f)∧(c.flows F C day fin).2.length≤c.pays
 | 0,c,hN,_ => by have:=c.sub_lt;omega
 | N+1,c,hN,hw => fun day fin => by
  have IH:∀ y ∈ c.sub,∀ day fin,(∀ f ∈ (y.flows F C day fin).2,PayOf c f)∧(y.flows F C day fin).2.length≤y.pays:=fun y hy day fin => by
   have h:=flows_pays F C N y (by have:=Con.mem_lt hy;omega) (by rw [Con.formed_eq,Bool.and_eq_true,Con.formeds_eq] at hw;exact List.all_eq_true.1 hw.2 y hy) day fin
   exact ⟨fun f hf => (h.1 f hf).up hy,h.2⟩
  have hcs:=con_cases c hw
  have hP:∀ f:Fl,c.k=2→(f.fr=c.fr∧f.rc=c.rc∨f.fr=c.rc∧f.rc=c.fr)∧f.cy=c.nm→PayOf c f:=fun f hk h => ⟨c,by rw [c.nodes_eq];exact List.mem_cons_self ..,hk,h⟩
  have hp:=c.pays_eq
  generalize c.pays=P at *
  have hM:∀ (a:ByteArray) (l:List Fl),(∀ f ∈ l,PayOf c f)→∀ f ∈ (mulAll a l).2,PayOf c f:=fun a l => mulAll_pay a l
  generalize hQ:PayOf c=Q at *
  obtain ⟨k,fr,rc,nm,ex,d,ds,l⟩:=c
  simp only [Con.k,Con.sub,Con.ex,Con.d,Con.ds,Con.fr,Con.rc,Con.nm] at hcs IH hP hp
  clear hQ
  unfold Con.flows
  by_cases hn:fin≤day
  ·rw [if_pos hn];exact ⟨fun f hf => (by cases hf),Nat.zero_le _⟩
  ·rw [if_neg hn]
   have one:∀ {x:Con} {day fin:Int},l=[x]→(∀ f ∈ (x.flows F C day fin).2,Q f)∧(x.flows F C day fin).2.length≤P:=fun {x day fin} h => by
    subst h
    have h:=IH x (by simp) day fin
    exact ⟨h.1,by rw [Con.payss_one] at hp;omega⟩
   have nil:(∀ f ∈ ((0,[]):Int × List Fl).2,Q f)∧((0,[]):Int × List Fl).2.length≤P:=⟨fun f hf => (by cases hf),Nat.zero_le _⟩
   have and1:∀ {α:Type} {a:Int × α} {f:α→Int × List Fl},((∀ g ∈ (f a.2).2,Q g)∧(f a.2).2.length≤P)→(∀ g ∈ (andR a [] f).2,Q g)∧(andR a [] f).2.length≤P:=fun h => ⟨andR_all fun _ => h.1,andR_cnt h.2⟩
   rcases hcs with ⟨rfl,rfl⟩ | ⟨rfl,rfl,hA⟩ | ⟨rfl,x,y,rfl⟩ | ⟨rfl,hA,x,rfl⟩ | ⟨rfl,hA,x,y,rfl⟩ | ⟨rfl,hd,x,rfl⟩ | ⟨rfl,x,y,rfl⟩ | ⟨rfl,hd,x,rfl⟩ | ⟨hk,hd,hA,x,rfl⟩
   ·exact nil
   ·dsimp only
    rw [if_pos rfl]
    exact and1 ⟨fun f hf => hP f rfl (paidS_who f hf),Nat.le_trans paidS_one (by simp at hp;omega)⟩
   ·dsimp only
    rw [if_pos rfl]
    rw [Con.payss_two] at hp
    have hx:=IH x (by simp) day fin
    have hy:=IH y (by simp) day fin
    refine and1 (and1 ⟨fun f hf => ?_,?_⟩)
    ·rcases List.mem_append.1 hf with hf | hf
     ·exact hx.1 f hf
     ·exact hy.1 f hf
    ·show ((x.flows F C day fin).2 ++ (y.flows F C day fin).2).length≤P
     rw [List.length_append];omega
   ·dsimp only
    rw [if_pos rfl]
    exact and1 (and1 ⟨hM _ _ (one rfl).1,Nat.le_trans (mulAll_cnt _ _) (one rfl).2⟩)
   ·dsimp only
    rw [if_neg (by decide),if_pos rfl]
    rw [Con.payss_two] at hp
    refine and1 ?_
    split
    ·exact ⟨(IH x (by simp) day fin).1,by have:=(IH x (by simp) day fin).2;omega⟩
    ·exact ⟨(IH y (by simp) day fin).1,by have:=(IH y (by simp) day fin).2;omega⟩
   ·dsimp only
    rw [if_neg (by decide),if_pos rfl]
    split
    ·exact one rfl
    ·exact nil
   ·dsimp only
    rw [if_neg (by decide),if_neg (by decide)]
    rw [Con.payss_two] at hp
    split
    ·exact ⟨(IH x (by simp) day fin).1,by have:=(IH x (by simp) day fin).2;omega⟩
    ·exact ⟨(IH y (by simp) day fin).1,by have:=(IH y (by simp) day fin).2;omega⟩
   ·dsimp only
    rw [if_neg (by decide),if_neg (by decide),if_pos rfl]
    exact one rfl
   ·dsimp only
    rcases hk with rfl | rfl
    ·rw [if_neg (by decide),if_neg (by decide),if_neg (by decide),if_pos rfl]
     exact and1 (one rfl)
    ·rw [if_neg (by decide),if_neg (by decide),if_neg (by decide),if_neg (by decide)]
     exact and1 (one rfl)
end Go.Proofs.YthdeijdimfjceaaGreatDoor

namespace Go.Proofs.YthdeijdimfjceaaGreatDoor
open Go.RowKit
theorem nodes_ok {c:Con} (h:c.err=0):c.size≤500∧∀ x ∈ c.nodes,nodeOk x=true:=by
 obtain ⟨h1,h2⟩:=err_formed h
 rw [Con.formed_nodes,List.all_eq_true] at h2
 exact ⟨by omega,h2⟩
theorem nszs_ge (l:List Con):l.length≤nszs l:=by
 induction l with
 | nil => simp [nszs]
 | cons x l ih =>
  simp only [nszs,List.map_cons,List.sum_cons,List.length_cons] at ih ⊢
  have:1≤x.nsz:=by unfold Con.nsz;omega
  omega
theorem nodes_few {c:Con} (h:c.err=0):c.nodes.length≤500:=by
 have h1:=(nodes_ok h).1
 rw [Con.size_nodes] at h1
 exact Nat.le_trans (nszs_ge _) h1
theorem node_pay {x:Con} (h:nodeOk x=true) (k:x.k=2):isNm (bl x.fr)=true∧isNm (bl x.rc)=true∧x.fr ≠ x.rc∧isNm (bl x.nm)=true:=by
 unfold nodeOk at h
 rw [if_neg (by omega),if_pos k] at h
 simp only [Bool.and_eq_true,Bool.not_eq_true',decide_eq_false_iff_not] at h
 exact ⟨h.2.1,h.2.2.1,h.2.2.2.1,h.2.2.2.2.1⟩
theorem posA_is {a:ByteArray} (h:posA a):ratErr a=0∧bl a ≠ [48]∧isNeg (bl a)=false:=by
 obtain ⟨h1,h2⟩:=h
 obtain ⟨sg,N,D,rfl,hN,hD,h0,hg,hsg⟩:=rat_is h1
 rw [(rat_txt sg hN hD h0 hg).2.1] at h2
 have hz:N ≠ 0:=by
  rintro rfl
  cases sg <;> simp [sgnv] at h2
 have hs:sg=false:=by
  cases sg
  ·rfl
  ·simp [sgnv] at h2;omega
 subst hs
 exact ⟨h1,by rw [bl_mkB];exact fun e => hz ((ratTxt_nil false h0).1 e),by rw [bl_mkB,ratTxt_neg false h0];rfl⟩
theorem envErr_zero' {F:List Fx} {C:List Ch} (h:envErr F C=0) : ¬ (1000 < F.length∨1000 < C.length)∧F.any fxBad=false∧C.any chBad=false∧incB Fx.lt F=true∧incB Ch.lt C=true:=by
 unfold envErr at h
 split at h
 ·cases h
 ·next h1 =>
  split at h
  ·cases h
  ·next h2 => exact ⟨h1,by simpa [not_or,Bool.not_eq_true] using h2⟩
theorem fx_vals {F:List Fx} {C:List Ch} (h:envErr F C=0):∀ f ∈ F,ratErr f.vl=0:=fun f hm => by
 have:=(envErr_zero' h).2.1
 rw [List.any_eq_false] at this
 have:=this f hm
 unfold fxBad at this
 simp only [Bool.not_eq_true',Bool.not_eq_false,Bool.and_eq_true,decide_eq_true_eq] at this
 exact this.2.2
theorem befR_fin {c:Con} {day:Int} {F:List Fx} {C:List Ch} (h:(befR c day 100000 F C).1=0):c.err=0∧envErr F C=0∧0≤day∧day≤99999∧(c.flows F C day 100000).1=0∧(befR c day 100000 F C).2=srtFl (c.flows F C day 100000).2:=by
 by_cases hc:c.err=0
 case neg => unfold befR at h;rw [if_pos hc] at h;exact absurd h hc
 rw [befR_ok hc] at h ⊢
 by_cases he:envErr F C=0
 case neg => rw [if_pos he] at h;exact absurd h he
 simp only [if_neg (show ¬ (envErr F C ≠ 0) from fun k => k he)] at h ⊢
 by_cases hd:day < 0∨99999 < day∨(100000:Int) < 0∨(100000:Int) < 100000
 ·rw [if_pos hd] at h;exact absurd h (by show ¬ ((2:Int)=0);decide)
 rw [if_neg hd] at h ⊢
 obtain ⟨h1,e1⟩:=andR_ok h
 rw [e1]
 exact ⟨hc,he,by omega,by omega,h1,rfl⟩
theorem flows_ok {c:Con} {day:Int} {F:List Fx} {C:List Ch} (h:(befR c day 100000 F C).1=0) :
  c.err=0∧flowsErr (befR c day 100000 F C).2=0∧(befR c day 100000 F C).2.length≤c.pays ∧
  ∀ f ∈ (befR c day 100000 F C).2,day≤f.d∧flGood f∧PayOf c f:=by
 have hs:=befR_srt c day 100000 F C
 obtain ⟨hc,he,hd0,hd1,_,e⟩:=befR_fin h
 rw [e] at hs ⊢
 have hf:=(err_formed hc).2
 obtain ⟨hp,hl⟩:=flows_pays F C c.bulk c (Nat.le_refl _) hf day 100000
 have hi:=flows_in F C c.bulk c (Nat.le_refl _) hf day 100000
 have ha:=flows_posA (C:=C) (fx_vals he) c.bulk c (Nat.le_refl _) hf day 100000
 generalize (c.flows F C day 100000).2=l at hs hp hl hi ha ⊢
 have hno:=nodes_ok hc
 have hgood:∀ f ∈ srtFl l,day≤f.d∧flGood f∧PayOf c f:=fun f hm => by
  rw [srtFl_mem] at hm
  obtain ⟨n,hn,hk,hw,hcy⟩:=hp f hm
  obtain ⟨q1,q2,q3,q4⟩:=node_pay (hno.2 n hn) hk
  obtain ⟨a1,a2,a3⟩:=posA_is (ha f hm)
  have hday:=hi f hm
  have hdd:isDay f.d=true:=by unfold isDay;simp;omega
  refine ⟨hday.1,?_,n,hn,hk,hw,hcy⟩
  rcases hw with ⟨e1,e2⟩ | ⟨e1,e2⟩
  ·exact ⟨by rw [e1];exact q1,by rw [e2];exact q2,by rw [hcy];exact q4,by rw [e1,e2];exact q3,a1,a2,a3,hdd⟩
  ·exact ⟨by rw [e1];exact q2,by rw [e2];exact q1,by rw [hcy];exact q4,by rw [e1,e2];exact q3.symm,a1,a2,a3,hdd⟩
 have hlen:(srtFl l).length≤c.pays:=by rw [srtFl_len];exact hl
 have hpl:c.pays≤500:=Nat.le_trans (List.length_filter_le ..) (nodes_few hc)
 refine ⟨hc,?_,hlen,hgood⟩
 have h5 : ¬ 5000 < (srtFl l).length:=by omega
 show flowsErr (srtFl l)=0
 unfold flowsErr
 rw [if_neg h5,eqB_true (p:=okP (srtFl l)) (fun j f hj => ⟨(hgood f (List.mem_of_getElem? hj)).2.1,fun i g hij hg => by
  have h1:=List.pairwise_iff_getElem.1 hs i j (List.getElem?_eq_some_iff.1 hg).1 (List.getElem?_eq_some_iff.1 hj).1 (by omega)
  rw [(List.getElem?_eq_some_iff.1 hg).2,(List.getElem?_eq_some_iff.1 hj).2] at h1
  exact h1⟩)]
 rfl
theorem rat_small {a:ByteArray} (h:ratErr a=0):a.size≤2010:=by
 obtain ⟨sg,N,D,rfl,hN,hD,_⟩:=rat_is h
 rw [mkB_size]
 exact ratTxt_len hN hD
theorem nm_small' {s:ByteArray} (h:isNm (bl s)=true):s.size≤40:=by
 unfold isNm at h
 simp only [Bool.and_eq_true,decide_eq_true_eq] at h
 have:=h.2.1
 unfold bl at this
 rw [show s.size=s.data.toList.length from (Array.length_toList ..).symm]
 omega
theorem flow_small {l:List Fl} (h:flowsErr l=0):∀ f ∈ l,f.small∧f.am.size≤2010:=fun f hf => by
 obtain ⟨j,hj,e⟩:=List.mem_iff_getElem.1 hf
 obtain ⟨g1,g2,g3,_,g5,_⟩:=((okP_of_err h) j f (by rw [List.getElem?_eq_getElem hj,e])).1
 have h5:=rat_small g5
 exact ⟨⟨by have:=nm_small' g1;omega,by have:=nm_small' g2;omega,by have:=nm_small' g3;omega,by omega⟩,h5⟩
end Go.Proofs.YthdeijdimfjceaaGreatDoor

namespace Go.Proofs.YthdeijdimfjceaaGreatDoor
open Go.RowKit
theorem Sl.stored {w:World} {ad:Option Addr} {m cap size B:Nat} {cs:List Value} (h:Sl w (.slice ad m cap) size m cs) (hg:m=0∨∃ g,ad=some ⟨g,0,none⟩∧B < g) (x y:Value) :
  Sl ((w.setCell ⟨B,0,none⟩ x).setCell ⟨B,1,none⟩ y) (.slice ad m cap) size m cs:=by
 rcases hg with rfl | ⟨g,rfl,hB⟩
 ·obtain ⟨_,_,_,h1,h2,_⟩:=h
  have:cs=[]:=List.eq_nil_of_length_eq_zero (by simpa using h2)
  subst this
  exact Sl.empty _ _ _ _
 ·refine h.kept fun k hk _ => ?_
  obtain rfl:g=k:=by simpa [Value.ownBlock] using hk
  exact (Below.heap_setCell _ _ _ _ (by simp;omega)).trans (Below.heap_setCell _ _ _ _ (by simp;omega))
end Go.Proofs.YthdeijdimfjceaaGreatDoor

namespace Go.Proofs.YthdeijdimfjceaaGreatDoor
open Go.RowKit
structure Sh where
 nm:ByteArray
 fr:Int
 ra:ByteArray
 ex:ByteArray
def Sh.cells (f:Sh):List Value:=[.string f.nm,.int .i64 f.fr,.string f.ra,.string f.ex]
def Sh.small (f:Sh):Prop:=f.nm.size≤1100000∧f.ra.size≤1100000∧f.ex.size≤1100000
def Sh.fits (f:Sh):Prop:=(Lit.int .i64 f.fr).wf=true
theorem sh_oneCell (f:Sh):∀ u ∈ f.cells,u.oneCell'=true:=by
 intro u hu
 simp [Sh.cells] at hu
 rcases hu with rfl | rfl | rfl | rfl <;> rfl
theorem Rd.sh {w:World} {ad:Option Addr} {l:List Sh} (h:Rd Sh.cells 4 w ad l) {j:Nat} {f:Sh} (hj:l[j]? = some f) :
  ∃ b off,ad=some ⟨b,off,none⟩∧w.cell? ⟨b,off+j * 4,none⟩=some (.string f.nm)∧w.cell? ⟨b,off+j * 4+1,none⟩=some (.int .i64 f.fr)∧w.cell? ⟨b,off+j * 4+2,none⟩=some (.string f.ra)∧w.cell? ⟨b,off+j * 4+3,none⟩=some (.string f.ex):=by
 obtain ⟨b,off,rfl,h3⟩:=h j f hj
 exact ⟨b,off,rfl,h3 0 _ rfl,h3 1 _ rfl,h3 2 _ rfl,h3 3 _ rfl⟩
theorem ul_shifts:Tryz.prog.underlying 25=some (.slice 24):=by kernel_rfl
theorem info_shift:(Tryz.prog.info? 24).map (fun i => (i.zero,i.size,i.bytes))=some (some (.agg #[.string ⟨#[]⟩,.int .i64 0,.string ⟨#[]⟩,.string ⟨#[]⟩]),4,56):=by kernel_rfl
def shGreat (f:Sh):Bool:=decide (1000 < f.nm.size∨1000 < f.ra.size∨1000 < f.ex.size)
def scnGreat (l:List Sh):Bool:=decide (110 < l.length) || l.any shGreat
set_option maxHeartbeats 2000000 in
set_option maxRecDepth 100000 in
theorem scnGreat_any (l:List Sh) (ad:Option Addr) (cap:Nat) (w:World) (_hn:l.length≤1100000) (hr:Rd Sh.cells 4 w ad l) (hs:∀ f ∈ l,f.small) :
  Calls Tryz.prog 18 #[.agg #[.slice ad l.length cap]] w fun e w' => e = .returned (.bool (scnGreat l))∧Below w.heap.size w w':=by
 have HR:=Lib.hid hr
 have HS:=Lib.hid hs
 clear hr hs
 have hb0:=below_a1 w (.cells #[.slice ad l.length cap] 28)
 by_cases h1:110 < l.length
 ·have HE:Hid (scnGreat l=true):=by show _=_;rw [scnGreat,decide_eq_true h1];rfl
  have t1:decide ((110:Int) < (l.length:Int))=true:=by rw [decide_eq_true_eq];omega
  clear h1
  go_enter Tryz.func18,Tryz.ntmps18
  go_wp2
  go_ret
  exact ⟨ret_bool' HE.out.symm,hb0⟩
 ·have t1:decide ((110:Int) < (l.length:Int))=false:=by rw [decide_eq_false_iff_not];omega
  have HL:Hid (scnGreat l=l.any shGreat):=by show _=_;rw [scnGreat,decide_eq_false h1];rfl
  go_enter Tryz.func18,Tryz.ntmps18
  go_wp2_with fail
  go_loopw [3] (fun i wr => ∃ k:Nat,k≤l.length∧i = .int .i64 k∧Hid (∀ y ∈ l.take k,shGreat y=false)∧Below w.heap.size w wr∧wr.cell? ⟨w.heap.size,0,none⟩=some (.slice ad l.length cap)) (fun i _ => l.length - (intOf i).toNat)
  case atStart => exact ⟨0,Nat.zero_le _,rfl,Lib.hid (by simp),hb0,by go_simp⟩
  case round =>
   clear hb0
   obtain ⟨k,hk,rfl,Hall,hbel,q0⟩:=hrel
   by_cases hlt:k < l.length
   ·obtain ⟨f,hf⟩:∃ f,l[k]? = some f:=⟨_,List.getElem?_eq_getElem hlt⟩
    obtain ⟨b,off,rfl,c0,c1,c2,c3⟩:=(HR.out.below hbel).sh hf
    obtain ⟨s1,s2,s3⟩:=HS.out f (List.mem_of_getElem? hf)
    have HF:=Lib.hid hf
    clear hf
    have hsz:=hbel.size
    have hblk:b < wr.heap.size:=World.block_lt_of_cell? wr _ c0
    have hbx:w.heap.size < wr.heap.size:=World.block_lt_of_cell? wr _ q0
    have hk1:(0:Int)≤(k:Int):=by omega
    have hk2:(k:Int) < (l.length:Int):=by omega
    have hb1:=hbel.alloc hsz (.cells #[.string f.nm,.int .i64 f.fr,.string f.ra,.string f.ex] 24)
    have HB1:=Lib.hid hb1
    clear hb1
    have HG:Hid (∀ c1 c2 c3,decide ((1000:Int) < (f.nm.size:Int))=c1→decide ((1000:Int) < (f.ra.size:Int))=c2→decide ((1000:Int) < (f.ex.size:Int))=c3→shGreat f=(c1 || (c2 || c3))):=by
     rintro c1 c2 c3 rfl rfl rfl
     rw [shGreat,Bool.eq_iff_iff]
     simp only [Bool.or_eq_true,decide_eq_true_eq]
     omega
    obtain ⟨x1,h1⟩:∃ c,decide ((1000:Int) < (f.nm.size:Int))=c:=⟨_,rfl⟩
    obtain ⟨x2,h2⟩:∃ c,decide ((1000:Int) < (f.ra.size:Int))=c:=⟨_,rfl⟩
    obtain ⟨x3,h3⟩:∃ c,decide ((1000:Int) < (f.ex.size:Int))=c:=⟨_,rfl⟩
    have HX:=Lib.hid (HG.out x1 x2 x3 h1 h2 h3)
    clear HG
    cases x1
    ·cases x2
     ·cases x3
      ·have Hall2:Hid (∀ y ∈ l.take (k+1),shGreat y=false):=all_take_succ HF.out HX.out Hall.out
       clear HX
       go_wp2
       go_roundw
       case rel => exact ⟨k+1,by omega,by go_num,Hall2,HB1.out,by first | assumption | go_simp⟩
       case measure => simp [intOf];omega
      all_goals
       have HE:Hid (scnGreat l=true):=by show _=_;rw [HL.out,List.any_eq_true];exact ⟨f,List.mem_of_getElem? HF.out,HX.out⟩
       clear HX
       go_wp2
       go_ret
       exact ⟨ret_bool' HE.out.symm,HB1.out⟩
     ·have HE:Hid (scnGreat l=true):=by show _=_;rw [HL.out,List.any_eq_true];exact ⟨f,List.mem_of_getElem? HF.out,HX.out⟩
      clear HX
      go_wp2
      go_ret
      exact ⟨ret_bool' HE.out.symm,HB1.out⟩
    ·have HE:Hid (scnGreat l=true):=by show _=_;rw [HL.out,List.any_eq_true];exact ⟨f,List.mem_of_getElem? HF.out,HX.out⟩
     clear HX
     go_wp2
     go_ret
     exact ⟨ret_bool' HE.out.symm,HB1.out⟩
   ·obtain rfl:k=l.length:=by omega
    have HE:Hid (scnGreat l=false):=by
     show _=_
     rw [HL.out,List.any_eq_false]
     intro y hy
     have:=Hall.out y (by rw [List.take_of_length_le (Nat.le_refl _)];exact hy)
     rw [this];simp
    go_wp2
    go_ret
    exact ⟨ret_bool' HE.out.symm,hbel⟩
theorem eqv_sh (f:Sh) (w:World):(Op.equalIn 10000 24 (.agg #[.string f.nm,.int .i64 f.fr,.string f.ra,.string f.ex]) (.agg #[.string f.nm,.int .i64 f.fr,.string f.ra,.string f.ex])).run Tryz.prog w = .ok true w:=by
 have hS:Tryz.prog.underlying 24=some (.struct (Tryz.prog.fieldsOf 24)):=by kernel_rfl
 have hp:Tryz.prog.stoodInHeld 24=false:=by kernel_rfl
 rw [show (10000:Nat)=9999+1 from rfl,run_equalIn_agg w 9999 _ _ _ hS hp]
 simp only [Program.fieldsOf,Tryz.underlying24]
 go_simp
set_option maxHeartbeats 1000000 in
set_option maxRecDepth 100000 in
theorem sameSh_any (l:List Sh) (a b:Option Addr) (c d:Nat) (w:World) (_hn:l.length≤1100000) (ha:Rd Sh.cells 4 w a l) (hb:Rd Sh.cells 4 w b l) :
  Calls Tryz.prog 20 #[.agg #[.slice a l.length c],.agg #[.slice b l.length d]] w fun e w' => e = .returned (.bool true)∧Below w.heap.size w w':=by
 have hb0:=below_a2 w (.cells #[.slice a l.length c] 28) (.cells #[.slice b l.length d] 28)
 have HA:=Lib.hid (ha.below hb0)
 have HB:=Lib.hid (hb.below hb0)
 clear ha hb
 have t0:((l.length:Int) != (l.length:Int))=false:=by simp
 go_enter Tryz.func20,Tryz.ntmps20
 go_wp2_with fail
 obtain ⟨W0,hW0⟩:∃ W0,W0=((w.alloc (.cells #[.slice a l.length c] 28)).alloc (.cells #[.slice b l.length d] 28)):=⟨_,rfl⟩
 have x0:W0.cell? ⟨w.heap.size,0,none⟩=some (.slice a l.length c):=by rw [hW0];go_simp
 have x1:W0.cell? ⟨w.heap.size+1,0,none⟩=some (.slice b l.length d):=by rw [hW0];go_simp
 rw [← hW0] at hb0 HA HB ⊢
 clear hW0
 go_loopw [5] (fun i wr => ∃ (k nq:Nat),k≤l.length∧i = .int .i64 k∧wr=W0.drewN nq) (fun i _ => l.length - (intOf i).toNat)
 case atStart => exact ⟨0,0,by omega,rfl,rfl⟩
 case round =>
  obtain ⟨k,mq,hk,rfl,rfl⟩:=hrel
  by_cases hlt:k < l.length
  ·obtain ⟨f,hf⟩:∃ f,l[k]? = some f:=⟨_,List.getElem?_eq_getElem hlt⟩
   obtain ⟨b1,off,rfl,c0,c1,c2,c3⟩:=HA.out.sh hf
   obtain ⟨b2,off2,rfl,d0,d1,d2,d3⟩:=HB.out.sh hf
   have hq:∀ W,(Op.equalIn 10000 24 (.agg #[.string f.nm,.int .i64 f.fr,.string f.ra,.string f.ex]) (.agg #[.string f.nm,.int .i64 f.fr,.string f.ra,.string f.ex])).run Tryz.prog W = .ok true W:=fun W => eqv_sh f W
   have hk1:(0:Int)≤(k:Int):=by omega
   have hk2:(k:Int) < (l.length:Int):=by omega
   clear hf
   go_wp2
   go_quiet (fail)
   go_wp2
   go_roundw
   case rel => exact ⟨k+1,_,by omega,by go_num,rfl⟩
   case measure => simp [intOf];omega
  ·obtain rfl:k=l.length:=by omega
   go_wp2
   go_ret
   exact ⟨rfl,below_drewN hb0 _⟩
def ClonePost {α:Type} (enc:α→List Value) (E:TypeId) (m:Nat) (w:World) (l:List α) (e:Ending) (w':World):Prop:=∃ ad cap,e = .returned (.slice ad l.length cap)∧w'.ownsRow w.heap.size E m (.slice ad l.length cap) l.length (l.flatMap enc)∧Below w.heap.size w w'
theorem flat_oneCell {α:Type} (enc:α→List Value) (h:∀ x,∀ u ∈ enc x,u.oneCell'=true) (l:List α):∀ u ∈ l.flatMap enc,u.oneCell'=true:=by
 intro u hu
 obtain ⟨x,_,hx⟩:=List.mem_flatMap.1 hu
 exact h x u hx
theorem Below.cellq {w W:World} (h:Below w.heap.size w W) {a:Addr} {v:Value} (hc:w.cell? a=some v):W.cell? a=some v:=by
 have hb:=h.block a.block (World.block_lt_of_cell? w a hc)
 have e:W.cell? a=w.cell? a:=by simp only [World.cell?,hb]
 exact e.trans hc
set_option maxHeartbeats 1000000 in
set_option maxRecDepth 100000 in
theorem cloneFx_any (l:List Fx) (A:Option Addr) (c:Nat) (w:World) (hn:l.length≤1100000) (hs:Sl w (.slice A l.length c) 3 l.length (l.flatMap Fx.cells)) (hA:A=none→c=0) :
  Calls Tryz.prog 29 #[.slice A l.length c] w (ClonePost Fx.cells 37 3 w l):=by
 have qn:∀ (w:World) (a:Option Addr) (n c n' c':Nat),(binOp .eql 29 (.slice a n c) (.slice none n' c')).run Tryz.prog w = .ok (.bool a.isNone) w:=fun w a n c n' c' => Lib.run_eql_slice_nil w _ _ a n c n' c' ul_fixings
 cases A with
 | none =>
  obtain rfl:=hA rfl
  obtain rfl:l=[]:=by
   obtain ⟨ad,cap,he,h1,h2,h3⟩:=hs
   obtain ⟨_,_,rfl⟩:=Value.slice.inj he
   exact List.length_eq_zero_iff.1 (by omega)
  clear hs hA hn
  go_enter Tryz.func29,Tryz.ntmps29
  go_wp2
  go_ret
  exact ⟨none,0,rfl,World.ownsRow_nil _ _ _ _,Below.refl _ _⟩
 | some ad =>
  obtain ⟨i0,hi,hz0,hz1,hz2⟩:=info_parts info_fixing
  have hnews:∀ j u,(l.flatMap Fx.cells)[j]? = some u→w.cell? (ad.add j)=some u:=by
   intro j u hj
   obtain ⟨ad',cap',he,h1,h2,h3⟩:=hs
   obtain ⟨rfl,_,_⟩:=Value.slice.inj he
   rcases h3 with h3 | ⟨b,off,e,h3⟩
   ·exfalso
    have:=(List.getElem?_eq_some_iff.1 hj).1
    rw [flat_length Fx.cells 3 (fun _ => rfl)] at this
    omega
   ·obtain rfl:=Option.some.inj e
    have h:=h3 j u hj
    by_cases h0:j=0
    ·subst h0;simpa [Addr.add] using h
    ·simpa [Addr.add,h0] using h
  have Hnews:=Lib.hid hnews
  have hb0:=below_a1 w (.cells #[] 37)
  have h0:(w.alloc (.cells #[] 37)).ownsRow w.heap.size 37 3 (.slice (some ⟨w.heap.size,0,none⟩) 0 0) 0 [] :=
   ⟨rfl,.inr ⟨w.heap.size,0,#[],rfl,Nat.le_refl _,heap_alloc_new w _,Nat.le_refl _,by unfold maxLen;omega,rfl,rfl⟩⟩
  clear hs hA hnews
  go_enter Tryz.func29,Tryz.ntmps29
  go_wp2_with (at_builtin;refine wpList_append_own _ rfl _ _ 29 rfl w.heap.size 37 i0 (.agg #[.string ⟨#[]⟩,.int .i64 0,.string ⟨#[]⟩]) 3 40 ul_fixings hi hz0 hz1 hz2 rfl (by decide) _ _ _ rfl h0 ad l.length c (l.flatMap Fx.cells) rfl (flat_length Fx.cells 3 (fun _ => rfl) l) (fun j u hj => Below.cellq hb0 (Hnews.out j u hj)) (flat_oneCell Fx.cells fx_oneCell l) ?d1 ?d2 ?d3 ?_)
  case d1 => unfold maxLen;omega
  case d2 => omega
  case d3 => simp
  intro v2 w2 hown2 hgrow2 _
  have hbel2:Below w.heap.size w w2:=hb0.grown hgrow2 (by simp) (fun k hk => by simp [Value.ownBlock] at hk;omega)
  obtain ⟨ad3,cap3,rfl,_⟩:=Sl.of_owns hown2
  have HF:Hid (ClonePost Fx.cells 37 3 w l (.returned (.slice ad3 l.length cap3)) w2):=⟨ad3,cap3,rfl,hown2,hbel2⟩
  clear hgrow2 hown2 hbel2 hb0 h0
  go_wp2
  go_ret
  exact HF.out
set_option maxHeartbeats 1000000 in
set_option maxRecDepth 100000 in
theorem cloneCh_any (l:List Ch) (A:Option Addr) (c:Nat) (w:World) (hn:l.length≤1100000) (hs:Sl w (.slice A l.length c) 4 l.length (l.flatMap Ch.cells)) (hA:A=none→c=0) :
  Calls Tryz.prog 30 #[.slice A l.length c] w (ClonePost Ch.cells 80 4 w l):=by
 have qn:∀ (w:World) (a:Option Addr) (n c n' c':Nat),(binOp .eql 30 (.slice a n c) (.slice none n' c')).run Tryz.prog w = .ok (.bool a.isNone) w:=fun w a n c n' c' => Lib.run_eql_slice_nil w _ _ a n c n' c' ul_choices
 cases A with
 | none =>
  obtain rfl:=hA rfl
  obtain rfl:l=[]:=by
   obtain ⟨ad,cap,he,h1,h2,h3⟩:=hs
   obtain ⟨_,_,rfl⟩:=Value.slice.inj he
   exact List.length_eq_zero_iff.1 (by omega)
  clear hs hA hn
  go_enter Tryz.func30,Tryz.ntmps30
  go_wp2
  go_ret
  exact ⟨none,0,rfl,World.ownsRow_nil _ _ _ _,Below.refl _ _⟩
 | some ad =>
  obtain ⟨i0,hi,hz0,hz1,hz2⟩:=info_parts info_choice
  have hnews:∀ j u,(l.flatMap Ch.cells)[j]? = some u→w.cell? (ad.add j)=some u:=by
   intro j u hj
   obtain ⟨ad',cap',he,h1,h2,h3⟩:=hs
   obtain ⟨rfl,_,_⟩:=Value.slice.inj he
   rcases h3 with h3 | ⟨b,off,e,h3⟩
   ·exfalso
    have:=(List.getElem?_eq_some_iff.1 hj).1
    rw [flat_length Ch.cells 4 (fun _ => rfl)] at this
    omega
   ·obtain rfl:=Option.some.inj e
    have h:=h3 j u hj
    by_cases h0:j=0
    ·subst h0;simpa [Addr.add] using h
    ·simpa [Addr.add,h0] using h
  have Hnews:=Lib.hid hnews
  have hb0:=below_a1 w (.cells #[] 80)
  have h0:(w.alloc (.cells #[] 80)).ownsRow w.heap.size 80 4 (.slice (some ⟨w.heap.size,0,none⟩) 0 0) 0 [] :=
   ⟨rfl,.inr ⟨w.heap.size,0,#[],rfl,Nat.le_refl _,heap_alloc_new w _,Nat.le_refl _,by unfold maxLen;omega,rfl,rfl⟩⟩
  clear hs hA hnews
  go_enter Tryz.func30,Tryz.ntmps30
  go_wp2_with (at_builtin;refine wpList_append_own _ rfl _ _ 30 rfl w.heap.size 80 i0 (.agg #[.string ⟨#[]⟩,.string ⟨#[]⟩,.int .i64 0,.bool false]) 4 48 ul_choices hi hz0 hz1 hz2 rfl (by decide) _ _ _ rfl h0 ad l.length c (l.flatMap Ch.cells) rfl (flat_length Ch.cells 4 (fun _ => rfl) l) (fun j u hj => Below.cellq hb0 (Hnews.out j u hj)) (flat_oneCell Ch.cells ch_oneCell l) ?d1 ?d2 ?d3 ?_)
  case d1 => unfold maxLen;omega
  case d2 => omega
  case d3 => simp
  intro v2 w2 hown2 hgrow2 _
  have hbel2:Below w.heap.size w w2:=hb0.grown hgrow2 (by simp) (fun k hk => by simp [Value.ownBlock] at hk;omega)
  obtain ⟨ad3,cap3,rfl,_⟩:=Sl.of_owns hown2
  have HF:Hid (ClonePost Ch.cells 80 4 w l (.returned (.slice ad3 l.length cap3)) w2):=⟨ad3,cap3,rfl,hown2,hbel2⟩
  clear hgrow2 hown2 hbel2 hb0 h0
  go_wp2
  go_ret
  exact HF.out
set_option maxHeartbeats 1000000 in
set_option maxRecDepth 100000 in
theorem cloneSh_any (l:List Sh) (A:Option Addr) (c:Nat) (w:World) (hn:l.length≤1100000) (hs:Sl w (.slice A l.length c) 4 l.length (l.flatMap Sh.cells)) (hA:A=none→c=0) :
  Calls Tryz.prog 32 #[.slice A l.length c] w (ClonePost Sh.cells 24 4 w l):=by
 have qn:∀ (w:World) (a:Option Addr) (n c n' c':Nat),(binOp .eql 25 (.slice a n c) (.slice none n' c')).run Tryz.prog w = .ok (.bool a.isNone) w:=fun w a n c n' c' => Lib.run_eql_slice_nil w _ _ a n c n' c' ul_shifts
 cases A with
 | none =>
  obtain rfl:=hA rfl
  obtain rfl:l=[]:=by
   obtain ⟨ad,cap,he,h1,h2,h3⟩:=hs
   obtain ⟨_,_,rfl⟩:=Value.slice.inj he
   exact List.length_eq_zero_iff.1 (by omega)
  clear hs hA hn
  go_enter Tryz.func32,Tryz.ntmps32
  go_wp2
  go_ret
  exact ⟨none,0,rfl,World.ownsRow_nil _ _ _ _,Below.refl _ _⟩
 | some ad =>
  obtain ⟨i0,hi,hz0,hz1,hz2⟩:=info_parts info_shift
  have hnews:∀ j u,(l.flatMap Sh.cells)[j]? = some u→w.cell? (ad.add j)=some u:=by
   intro j u hj
   obtain ⟨ad',cap',he,h1,h2,h3⟩:=hs
   obtain ⟨rfl,_,_⟩:=Value.slice.inj he
   rcases h3 with h3 | ⟨b,off,e,h3⟩
   ·exfalso
    have:=(List.getElem?_eq_some_iff.1 hj).1
    rw [flat_length Sh.cells 4 (fun _ => rfl)] at this
    omega
   ·obtain rfl:=Option.some.inj e
    have h:=h3 j u hj
    by_cases h0:j=0
    ·subst h0;simpa [Addr.add] using h
    ·simpa [Addr.add,h0] using h
  have Hnews:=Lib.hid hnews
  have hb0:=below_a1 w (.cells #[] 24)
  have h0:(w.alloc (.cells #[] 24)).ownsRow w.heap.size 24 4 (.slice (some ⟨w.heap.size,0,none⟩) 0 0) 0 [] :=
   ⟨rfl,.inr ⟨w.heap.size,0,#[],rfl,Nat.le_refl _,heap_alloc_new w _,Nat.le_refl _,by unfold maxLen;omega,rfl,rfl⟩⟩
  clear hs hA hnews
  go_enter Tryz.func32,Tryz.ntmps32
  go_wp2_with (at_builtin;refine wpList_append_own _ rfl _ _ 25 rfl w.heap.size 24 i0 (.agg #[.string ⟨#[]⟩,.int .i64 0,.string ⟨#[]⟩,.string ⟨#[]⟩]) 4 56 ul_shifts hi hz0 hz1 hz2 rfl (by decide) _ _ _ rfl h0 ad l.length c (l.flatMap Sh.cells) rfl (flat_length Sh.cells 4 (fun _ => rfl) l) (fun j u hj => Below.cellq hb0 (Hnews.out j u hj)) (flat_oneCell Sh.cells sh_oneCell l) ?d1 ?d2 ?d3 ?_)
  case d1 => unfold maxLen;omega
  case d2 => omega
  case d3 => simp
  intro v2 w2 hown2 hgrow2 _
  have hbel2:Below w.heap.size w w2:=hb0.grown hgrow2 (by simp) (fun k hk => by simp [Value.ownBlock] at hk;omega)
  obtain ⟨ad3,cap3,rfl,_⟩:=Sl.of_owns hown2
  have HF:Hid (ClonePost Sh.cells 24 4 w l (.returned (.slice ad3 l.length cap3)) w2):=⟨ad3,cap3,rfl,hown2,hbel2⟩
  clear hgrow2 hown2 hbel2 hb0 h0
  go_wp2
  go_ret
  exact HF.out
end Go.Proofs.YthdeijdimfjceaaGreatDoor

namespace Go.Proofs.YthdeijdimfjceaaGreatDoor
open Go.RowKit
def MInv (xs ys o:List Nat) (k c:Nat):Prop :=
 o.length=k∧Dig 10 o∧val 10 (xs.take k)+c * 10 ^ k=val 10 o+val 10 (ys.take k)
theorem MInv.start (xs ys:List Nat):MInv xs ys [] 0 0:=⟨rfl,Dig.nil _,by simp [val]⟩
theorem m_step (A Bv O P x y c d r:Nat) (h:A+c * P=O+Bv) (hd:d+y+c=x+r * 10):(A+P * x)+r * (P * 10)=(O+P * d)+(Bv+P * y):=by
 have e1:P * (d+y+c)=P * (x+r * 10):=by rw [hd]
 rw [Nat.mul_add,Nat.mul_add,Nat.mul_add] at e1
 have e2:P * (r * 10)=r * (P * 10):=by rw [← Nat.mul_assoc,← Nat.mul_assoc,Nat.mul_comm P r]
 rw [e2] at e1
 rw [Nat.mul_comm c P] at h
 omega
theorem MInv.step {xs ys o:List Nat} {k c d r:Nat} (h:MInv xs ys o k c) (hd:d < 10) (e:d+ys.getD k 0+c=xs.getD k 0+r * 10):MInv xs ys (o ++ [d]) (k+1) r:=by
 obtain ⟨h1,h2,h3⟩:=h
 refine ⟨by simp [h1],h2.snoc hd,?_⟩
 rw [val_take_succ,val_take_succ,val_snoc,h1,Nat.pow_succ]
 exact m_step _ _ _ _ _ _ _ _ _ h3 e
theorem val_take_of_lt {ys:List Nat} {k:Nat} (h:val 10 ys < 10 ^ k):val 10 (ys.take k)=val 10 ys:=by
 by_cases hk:k≤ys.length
 ·have e:=val_split 10 ys k hk
  by_cases h0:val 10 (ys.drop k)=0
  ·rw [h0] at e;omega
  ·have:10 ^ k * 1≤10 ^ k * val 10 (ys.drop k):=Nat.mul_le_mul_left _ (by omega)
   omega
 ·rw [List.take_of_length_le (by omega)]
theorem MInv.fin {xs ys o:List Nat} {c:Nat} (h:MInv xs ys o xs.length c) (dx:Dig 10 xs) (hle:val 10 ys≤val 10 xs) (hc:c≤1) :
  val 10 o=val 10 xs - val 10 ys:=by
 obtain ⟨h1,h2,h3⟩:=h
 have hx:=val_lt dx
 rw [List.take_of_length_le (Nat.le_refl _),val_take_of_lt (by omega)] at h3
 have h4:=val_lt h2
 rw [h1] at h4
 by_cases h0:c=0
 ·subst h0;omega
 ·obtain rfl:c=1:=by omega
  omega
end Go.Proofs.YthdeijdimfjceaaGreatDoor

namespace Go.Proofs.YthdeijdimfjceaaGreatDoor
open Go.RowKit
def RDInv (xs os rs:List Nat) (B n k:Nat):Prop :=
 os.length=xs.length∧Dig 10 os∧Dig 10 rs∧rs.length≤n+1∧val 10 rs < B∧val 10 (xs.drop k)=B * val 10 (os.drop k)+val 10 rs∧∀ i,i < k→os.getD i 0=0
theorem RDInv.start (xs:List Nat) (B n:Nat) (hB:0 < B):RDInv xs (List.replicate xs.length 0) [] B n xs.length :=
 ⟨by simp,fun x hx => by rw [(List.mem_replicate.1 hx).2];decide,Dig.nil _,by simp,hB,by simp [val],fun i hi => by simp [List.getD,hi]⟩
def DIn (xs os rs:List Nat) (B n k q:Nat):Prop :=
 os.length=xs.length∧Dig 10 os∧Dig 10 rs∧rs.length≤n+1∧q < 10∧os.getD k 0=q∧val 10 rs+q * B < 10 * B∧val 10 (xs.drop k)=B * val 10 (os.drop k)+val 10 rs∧∀ i,i < k→os.getD i 0=0
theorem DIn.start {xs os rs ts:List Nat} {B n k x:Nat} (h:RDInv xs os rs B n (k+1)) (hk:k < xs.length) (hx:xs.getD k 0=x) (dx:x < 10) (hts:val 10 ts=x+10 * val 10 rs) (hd:Dig 10 ts) (hl:ts.length≤n+1):DIn xs os ts B n k 0:=by
 obtain ⟨h1,h2,h3,h4,h5,h6,h7⟩:=h
 have e0:=h7 k (by omega)
 refine ⟨h1,h2,hd,hl,by decide,e0,by omega,?_,fun i hi => h7 i (by omega)⟩
 rw [val_drop _ xs _ hk,val_drop _ os _ (by omega),h6,e0,hx,hts]
 grind
theorem DIn.step {xs os rs ts:List Nat} {B n k q:Nat} (h:DIn xs os rs B n k q) (hk:k < xs.length) (hle:B≤val 10 rs) (hts:val 10 ts=val 10 rs - B) (hd:Dig 10 ts) (hl:ts.length=rs.length):DIn xs (os.set k (q+1)) ts B n k (q+1):=by
 obtain ⟨h1,h2,h3,h4,h5,h6,h7,h8,h9⟩:=h
 have hq:(q+1) * B < 10 * B:=by rw [Nat.add_mul];omega
 have hq10:q+1 < 10:=Nat.lt_of_mul_lt_mul_right hq
 refine ⟨by simpa using h1,h2.set _ hq10,hd,by omega,hq10,?_,?_,?_,fun i hi => ?_⟩
 ·simp [List.getD,show k < os.length by omega]
 ·rw [Nat.add_mul];omega
 ·rw [h8,val_drop _ os _ (by omega),val_drop _ (os.set k (q+1)) _ (by simp;omega),List.drop_set_of_lt (by omega),h6]
  have e6:(os.set k (q+1)).getD k 0=q+1:=by simp [List.getD,show k < os.length by omega]
  rw [e6,hts]
  have e1:B * (q+1+10 * val 10 (os.drop (k+1)))=B * (q+10 * val 10 (os.drop (k+1)))+B:=by grind
  rw [e1]
  omega
 ·have:=h9 i hi
  simp only [List.getD] at this ⊢
  rw [List.getElem?_set_ne (by omega)]
  exact this
theorem DIn.fin {xs os rs:List Nat} {B n k q:Nat} (h:DIn xs os rs B n k q) (hlt:val 10 rs < B):RDInv xs os rs B n k:=by
 obtain ⟨h1,h2,h3,h4,h5,h6,h7,h8,h9⟩:=h
 exact ⟨h1,h2,h3,h4,hlt,h8,h9⟩
theorem RDInv.fin {xs os rs:List Nat} {B n:Nat} (h:RDInv xs os rs B n 0):val 10 os=val 10 xs / B∧val 10 rs=val 10 xs % B:=by
 obtain ⟨h1,h2,h3,h4,h5,h6,h7⟩:=h
 rw [List.drop_zero,List.drop_zero] at h6
 rw [h6]
 have hB:0 < B:=by omega
 exact ⟨by rw [Nat.mul_add_div hB,Nat.div_eq_of_lt h5];simp,by rw [Nat.mul_add_mod,Nat.mod_eq_of_lt h5]⟩
end Go.Proofs.YthdeijdimfjceaaGreatDoor

namespace Go.Proofs.YthdeijdimfjceaaGreatDoor
open Go.RowKit
def shGood (f:Sh):Prop:=isNm (bl f.nm)=true∧isDay f.fr=true∧ratErr f.ra=0∧bl f.ra ≠ [48]∧ratErr f.ex=0
noncomputable def shBad (f:Sh):Bool:=!(eqB (shGood f))
def shLt (a b:Sh):Bool:=Op.bytesLess a.nm.toList b.nm.toList
noncomputable def scnB (l:List Sh):Bool:=decide (l.length≤100) && (!(l.any shBad) && incB shLt l)
theorem shBad_of {f:Sh} (h : ¬ shGood f):shBad f=true:=by rw [shBad,eqB_false h];rfl
theorem shBad_ok {f:Sh} (h:shGood f):shBad f=false:=by rw [shBad,eqB_true h];rfl
theorem scnB_bad {l:List Sh} {k:Nat} {f:Sh} (hf:l[k]? = some f) (h : ¬ shGood f):scnB l=false:=by
 have e:l.any shBad=true:=List.any_eq_true.2 ⟨f,List.mem_of_getElem? hf,shBad_of h⟩
 rw [scnB,e];simp
theorem scnB_ord {l:List Sh} {k:Nat} {g f:Sh} (hg:l[k]? = some g) (hf:l[k+1]? = some f) (h:shLt g f=false):scnB l=false:=by
 have e:incB shLt l=false:=incB_false_of_take (k:=k+1+1) (by rw [incB_snoc hg hf,h];simp)
 rw [scnB,e];simp
theorem scnB_long {l:List Sh} (h:100 < l.length):scnB l=false:=by
 rw [scnB,decide_eq_false (by omega)];rfl
theorem scnB_ok {l:List Sh} (h : ¬ 100 < l.length) (h1:∀ y ∈ l,shBad y=false) (h2:incB shLt l=true):scnB l=true:=by
 have e:l.any shBad=false:=by rw [List.any_eq_false];intro y hy;rw [h1 y hy];simp
 rw [scnB,decide_eq_true (by omega),e,h2];rfl
end Go.Proofs.YthdeijdimfjceaaGreatDoor

namespace Go.Proofs.YthdeijdimfjceaaGreatDoor
open Go.RowKit
def addE (a b:ByteArray):Int:=sumE a b (addZ a b)
def addS (a b:ByteArray):List UInt8:=sumS a b (addZ a b)
def shM (x:Sh) (v:ByteArray):ByteArray:=mkB (mulS x.ra v)
def shE (x:Sh) (v:ByteArray):Int:=if mulE x.ra v=0 then addE (shM x v) x.ex else mulE x.ra v
def shV (x:Sh) (v:ByteArray):ByteArray:=mkB (addS (shM x v) x.ex)
def hits (f:Fx) (x:Sh):Bool:=decide (x.nm=f.nm) && decide (x.fr≤f.d)
def newE (l:List Sh) (f:Fx):Int:=match l.find? (hits f) with | none => 0 | some x => shE x f.vl
def newV (l:List Sh) (f:Fx):ByteArray:=match l.find? (hits f) with | none => f.vl | some x => shV x f.vl
def newF (l:List Sh) (f:Fx):Fx:=⟨f.nm,f.d,newV l f⟩
def errs:List Int→Int
 | [] => 0
 | e :: r => if e=0 then errs r else e
theorem errs_hit:∀ {l:List Int} {k:Nat} {e:Int},l[k]? = some e→errs (l.take k)=0→e ≠ 0→errs l=e
 | [],k,e,h,_,_ => by simp at h
 | x :: l,0,e,h,_,he => by simp at h;subst h;rw [errs,if_neg he]
 | x :: l,k+1,e,h,h0,he => by
  rw [List.take_succ_cons,errs] at h0
  by_cases hx:x=0
  ·rw [if_pos hx] at h0
   rw [errs,if_pos hx]
   exact errs_hit (by simpa using h) h0 he
  ·rw [if_neg hx] at h0;exact absurd h0 hx
theorem errs_snoc:∀ {l:List Int} {k:Nat} {e:Int},l[k]? = some e→errs (l.take k)=0→e=0→errs (l.take (k+1))=0
 | [],k,e,h,_,_ => by simp at h
 | x :: l,0,e,h,_,he => by simp at h;subst h;rw [List.take_succ_cons,errs,if_pos he];rfl
 | x :: l,k+1,e,h,h0,he => by
  rw [List.take_succ_cons,errs] at h0
  by_cases hx:x=0
  ·rw [if_pos hx] at h0
   rw [List.take_succ_cons,errs,if_pos hx]
   exact errs_snoc (by simpa using h) h0 he
  ·rw [if_neg hx] at h0;exact absurd h0 hx
theorem errs_take_map_hit {α:Type} {g:α→Int} {l:List α} {k:Nat} {f:α} (hf:l[k]? = some f) (h0:errs ((l.take k).map g)=0) (he:g f ≠ 0):errs (l.map g)=g f :=
 errs_hit (k:=k) (by rw [List.getElem?_map,hf];rfl) (by rw [← List.map_take];exact h0) he
theorem errs_take_map_snoc {α:Type} {g:α→Int} {l:List α} {k:Nat} {f:α} (hf:l[k]? = some f) (h0:errs ((l.take k).map g)=0) (he:g f=0):errs ((l.take (k+1)).map g)=0:=by
 rw [List.map_take]
 exact errs_snoc (by rw [List.getElem?_map,hf];rfl) (by rw [← List.map_take];exact h0) he
noncomputable def applyE (l:List Sh) (fs:List Fx) (cs:List Ch):Int:=if scnB l=true then (if envErr fs cs=0 then errs (fs.map (newE l)) else envErr fs cs) else 8
noncomputable def applyF (l:List Sh) (fs:List Fx) (cs:List Ch):List Fx:=if applyE l fs cs=0 then fs.map (newF l) else []
noncomputable def applyC (l:List Sh) (fs:List Fx) (cs:List Ch):List Ch:=if applyE l fs cs=0 then cs else []
theorem apply_err {l:List Sh} {fs:List Fx} {cs:List Ch} {e:Int} (h:applyE l fs cs=e) (he:e ≠ 0):applyE l fs cs=e∧applyF l fs cs=[]∧applyC l fs cs=[]:=by
 have h2 : ¬ applyE l fs cs=0:=by rw [h];exact he
 exact ⟨h,by rw [applyF,if_neg h2],by rw [applyC,if_neg h2]⟩
theorem apply_bad {l:List Sh} {fs:List Fx} {cs:List Ch} (h:scnB l=false):applyE l fs cs=8∧applyF l fs cs=[]∧applyC l fs cs=[] :=
 apply_err (by rw [applyE,if_neg (by rw [h];simp)]) (by decide)
theorem apply_env {l:List Sh} {fs:List Fx} {cs:List Ch} (h:scnB l=true) (he:envErr fs cs ≠ 0):applyE l fs cs=envErr fs cs∧applyF l fs cs=[]∧applyC l fs cs=[] :=
 apply_err (by rw [applyE,if_pos h,if_neg he]) he
theorem apply_num {l:List Sh} {fs:List Fx} {cs:List Ch} {k:Nat} {f:Fx} (h:scnB l=true) (he:envErr fs cs=0) (hf:fs[k]? = some f) (h0:errs ((fs.take k).map (newE l))=0) (hx:newE l f ≠ 0) :
  applyE l fs cs=newE l f∧applyF l fs cs=[]∧applyC l fs cs=[] :=
 apply_err (by rw [applyE,if_pos h,if_pos he];exact errs_take_map_hit hf h0 hx) hx
theorem apply_ok {l:List Sh} {fs:List Fx} {cs:List Ch} (h:scnB l=true) (he:envErr fs cs=0) (h0:errs (fs.map (newE l))=0):applyE l fs cs=0∧applyF l fs cs=fs.map (newF l)∧applyC l fs cs=cs:=by
 have e:applyE l fs cs=0:=by rw [applyE,if_pos h,if_pos he];exact h0
 exact ⟨e,by rw [applyF,if_pos e],by rw [applyC,if_pos e]⟩
def oneB:ByteArray:=⟨#[49]⟩
def negB:ByteArray:=⟨#[45,49]⟩
def invM (x:Sh):ByteArray:=mkB (mulS x.ex negB)
def invE (x:Sh):Int:=if divE oneB x.ra=0 then (if mulE x.ex negB=0 then divE (invM x) x.ra else mulE x.ex negB) else divE oneB x.ra
def inv (x:Sh):Sh:=⟨x.nm,x.fr,mkB (divS oneB x.ra),mkB (divS (invM x) x.ra)⟩
noncomputable def inverseE (l:List Sh):Int:=if scnB l=true then errs (l.map invE) else 8
noncomputable def inverseL (l:List Sh):List Sh:=if inverseE l=0 then l.map inv else []
theorem inverse_err {l:List Sh} {e:Int} (h:inverseE l=e) (he:e ≠ 0):inverseE l=e∧inverseL l=[]:=by
 have h2 : ¬ inverseE l=0:=by rw [h];exact he
 exact ⟨h,by rw [inverseL,if_neg h2]⟩
theorem inverse_bad {l:List Sh} (h:scnB l=false):inverseE l=8∧inverseL l=[]:=inverse_err (by rw [inverseE,if_neg (by rw [h];simp)]) (by decide)
theorem inverse_num {l:List Sh} {k:Nat} {x:Sh} (h:scnB l=true) (hf:l[k]? = some x) (h0:errs ((l.take k).map invE)=0) (hx:invE x ≠ 0):inverseE l=invE x∧inverseL l=[] :=
 inverse_err (by rw [inverseE,if_pos h];exact errs_take_map_hit hf h0 hx) hx
theorem inverse_ok {l:List Sh} (h:scnB l=true) (h0:errs (l.map invE)=0):inverseE l=0∧inverseL l=l.map inv:=by
 have e:inverseE l=0:=by rw [inverseE,if_pos h];exact h0
 exact ⟨e,by rw [inverseL,if_pos e]⟩
theorem inv_div {x:Sh} (h:divE oneB x.ra ≠ 0):invE x=divE oneB x.ra:=by rw [invE,if_neg h]
theorem inv_mul {x:Sh} (h:divE oneB x.ra=0) (h2:mulE x.ex negB ≠ 0):invE x=mulE x.ex negB:=by rw [invE,if_pos h,if_neg h2]
theorem inv_last {x:Sh} (h:divE oneB x.ra=0) (h2:mulE x.ex negB=0):invE x=divE (invM x) x.ra:=by rw [invE,if_pos h,if_pos h2]
theorem divS_size (a b:ByteArray):(mkB (divS a b)).size≤2010:=by
 rw [mkB_size,divS]
 split
 ·simp
 ·exact frS_len _ _ _ _
theorem addS_size (a b:ByteArray):(mkB (addS a b)).size≤2010:=by rw [mkB_size];exact sumS_len _ _ _
theorem sbl_trans:∀ {x y z:List UInt8},Op.bytesLess x y=true→Op.bytesLess y z=true→Op.bytesLess x z=true
 | [],[],_,h,_ => by cases h
 | [],_ :: _,[],_,h => by cases h
 | [],_ :: _,_ :: _,_,_ => rfl
 | _ :: _,[],_,h,_ => by cases h
 | _ :: _,_ :: _,[],_,h => by cases h
 | a :: x,b :: y,c :: z,h1,h2 => by
  simp only [Op.bytesLess,Bool.or_eq_true,Bool.and_eq_true,decide_eq_true_eq,beq_iff_eq] at h1 h2 ⊢
  rcases h1 with h1 | ⟨rfl,h1⟩
  ·rcases h2 with h2 | ⟨rfl,h2⟩
   ·exact .inl (UInt8.lt_trans h1 h2)
   ·exact .inl h1
  ·rcases h2 with h2 | ⟨rfl,h2⟩
   ·exact .inl h2
   ·exact .inr ⟨rfl,sbl_trans h1 h2⟩
theorem sbl_irr:∀ (x:List UInt8),Op.bytesLess x x=false
 | [] => rfl
 | a :: x => by
  simp only [Op.bytesLess,sbl_irr x,Bool.and_false,Bool.or_false,decide_eq_false_iff_not]
  exact UInt8.lt_irrefl a
theorem inc_pairwise {l:List Sh} (h:incB shLt l=true):l.Pairwise (fun a b => shLt a b=true):=by
 induction l with
 | nil => exact .nil
 | cons x r ih =>
  cases r with
  | nil => exact .cons (by simp) .nil
  | cons y r =>
   rw [incB,Bool.and_eq_true] at h
   have hp:=ih h.2
   refine .cons ?_ hp
   intro z hz
   rcases List.mem_cons.1 hz with rfl | hz
   ·exact h.1
   ·exact sbl_trans h.1 ((List.pairwise_cons.1 hp).1 z hz)
theorem inc_names {l:List Sh} (h:incB shLt l=true):l.Pairwise (fun a b => a.nm ≠ b.nm) :=
 (inc_pairwise h).imp fun {a b} hab e => by
  unfold shLt at hab
  rw [e,sbl_irr] at hab
  cases hab
theorem scn_names {l:List Sh} (h:scnB l=true):l.Pairwise (fun a b => a.nm ≠ b.nm):=by
 rw [scnB] at h
 simp only [Bool.and_eq_true] at h
 exact inc_names h.2.2
end Go.Proofs.YthdeijdimfjceaaGreatDoor
