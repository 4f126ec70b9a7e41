/- A part. -/
import Derived.Test.YthdeijdimfjceaaGreatDoorA27
namespace Go.Proofs.YthdeijdimfjceaaGreatDoor
open Go.RowKit Go.ChangeShapes Go.WideShapes Go.Deep
theorem arr5 {α:Type} {l:List α} (h:l.length=5):∃ a b c d e,l=[a,b,c,d,e]:=by
 match l,h with
 | [a,b,c,d,e],_ => exact ⟨a,b,c,d,e,rfl⟩
theorem arr8 {α:Type} {l:List α} (h:l.length=8):∃ a b c d e f g i,l=[a,b,c,d,e,f,g,i]:=by
 match l,h with
 | [a,b,c,d,e,f,g,i],_ => exact ⟨a,b,c,d,e,f,g,i,rfl⟩
theorem arr12 {α:Type} {l:List α} (h:l.length=12):∃ a b c d e f g i j k m n,l=[a,b,c,d,e,f,g,i,j,k,m,n]:=by
 match l,h with
 | [a,b,c,d,e,f,g,i,j,k,m,n],_ => exact ⟨a,b,c,d,e,f,g,i,j,k,m,n,rfl⟩
theorem cells_u8:Tryz.prog.cellsOf 5=1:=by kernel_rfl
theorem cells_ex:Tryz.prog.cellsOf 47=5:=by kernel_rfl
theorem cells_con:Tryz.prog.cellsOf 51=12:=by kernel_rfl
theorem cells_exs:Tryz.prog.cellsOf 45=1:=by kernel_rfl
theorem cells_cons:Tryz.prog.cellsOf 49=1:=by kernel_rfl
theorem cells_ints:Tryz.prog.cellsOf 48=1:=by kernel_rfl
theorem u8_nat {k:Int} (h:(Lit.int .u8 k).wf=true):∃ n:Nat,k=(n:Int)∧n < 256:=by
 have h:(decide ((0:Int)≤k) && decide (k≤(255:Int)))=true:=h
 simp only [Bool.and_eq_true,decide_eq_true_eq] at h
 refine ⟨k.toNat,?_,?_⟩ <;> omega
section
variable {H:Type} {enc:TypeId × Value→H} {w:World} {sp:Nat→Bool} {held:Bool}
theorem open_row {t e:TypeId} {m:Nat} (hm:0 < m) {fuel:Nat} {v:Value} {y:DataW H × List MemPlace} (ht:Tryz.prog.underlying t=some (.slice e)) (hc:Tryz.prog.cellsOf e=m)
  (h:DataW.trod enc Tryz.prog w 0 sp held fuel t [v]=some y) :
  ∃ (ad:Option Addr) (cap:Nat) (D:List (DataW H)) (n:Nat),n+1≤fuel∧v = .slice ad D.length cap∧(D.length≤cap∧(ad=none→cap=0))∧Rows.uptoBulkAll D+1≤Rows.uptoBulk y.1 ∧
   ∀ i,i < D.length→∃ (a:Addr) (cs:List Value) (z:DataW H × List MemPlace),ad=some a∧a.spot=none∧cs.length=m∧(∀ k,k < m→w.cell? (a.add (i * m+k))=cs[k]?)∧DataW.trod enc Tryz.prog w 0 sp held n e cs=some z∧D[i]? = some z.1:=by
 rcases DataW.trod_slice ht h with ⟨h0,hy⟩ | ⟨a,len,cap,elems,rest,n,hf,hcs,hy,hb,hl,hmx,hlen,hel,_,_⟩
 ·simp at h0
  subst hy
  refine ⟨none,0,[],0,?_,h0,⟨Nat.le_refl _,fun _ => rfl⟩,by simp [Rows.uptoBulkAll,Rows.uptoBulk],fun i hi => absurd hi (Nat.not_lt_zero _)⟩
  cases fuel with
  | zero => simp [DataW.trod] at h
  | succ n => omega
 ·simp at hcs
  refine ⟨some a,cap,elems.map (·.1),n,by omega,by rw [List.length_map,hlen];exact hcs,⟨by rw [List.length_map,hlen];exact hl,fun h => by cases h⟩,?_,fun i hi => ?_⟩
  ·rw [hy];simp only [Rows.uptoBulk];omega
  ·rw [List.length_map,hlen] at hi
   have h1:=hel i hi
   rw [List.getElem?_eq_getElem (by omega)] at h1
   obtain ⟨cs,h2,h3⟩:=Option.bind_eq_some_iff.1 h1
   rw [hc] at h2
   obtain ⟨_,h4,h5⟩:=World.cells?_some h2
   have ha:∀ k,(a.add (i * m)).add k=a.add (i * m+k):=fun k => by
    simp only [Addr.add]
    split <;> split <;> simp_all <;> omega
   refine ⟨a,cs,_,rfl,?_,h4,fun k hk => ?_,h3,?_⟩
   ·have g1:=hel 0 (by omega)
    rw [List.getElem?_eq_getElem (by omega)] at g1
    obtain ⟨cs0,g2,_⟩:=Option.bind_eq_some_iff.1 g1
    rw [hc] at g2
    obtain ⟨_,g4,g5⟩:=World.cells?_some g2
    have g6:=g5 0 hm
    rw [List.getElem?_eq_getElem (by omega),Nat.zero_mul,show (a.add 0).add 0=a from rfl] at g6
    simp only [World.cell?] at g6
    cases hsp:a.spot with
    | none => rfl
    | some q => rw [hsp] at g6;simp at g6;split at g6 <;> simp at g6
   ·rw [← h5 k hk,ha]
   ·rw [List.getElem?_map,List.getElem?_eq_getElem (by omega)];rfl
theorem bulks_le {α:Type} (f:α→Nat) (g:List α→Nat) (g0:g []=0) (g1:∀ x l,g (x :: l)=f x+g l):∀ (l:List α) (D:List (DataW H)),l.length=D.length→(∀ (i:Nat) (x:α) (d:DataW H),l[i]? = some x→D[i]? = some d→f x≤Rows.uptoBulk d)→g l≤Rows.uptoBulkAll D
 | [],_,_,_ => by rw [g0];exact Nat.zero_le _
 | x :: l,[],h,_ => by simp at h
 | x :: l,d :: D,h,k => by
  rw [g1]
  simp only [Rows.uptoBulkAll]
  have h1:=k 0 x d rfl rfl
  have h2:=bulks_le f g g0 g1 l D (by simpa using h) fun i y e hy he => k (i+1) y e (by simpa using hy) (by simpa using he)
  omega
def IsEx (w:World) (cs:List Value) (d:DataW H):Prop:=∃ (x:Ex) (s:Value),cs=x.cells s∧x.k < 256∧RdE w x.sub s∧x.bulk≤Rows.uptoBulk d
theorem addr_spot {a:Addr} (h:a.spot=none) (k:Nat):a.add k=⟨a.block,a.off+k,none⟩:=by
 cases a;simp at h;subst h;simp [Addr.add]
theorem rdE_of {t:TypeId} {fuel:Nat} {v:Value} {y:DataW H × List MemPlace} (ht:Tryz.prog.underlying t=some (.slice 47))
  (ih:∀ n < fuel,∀ cs (z:DataW H × List MemPlace),cs.length=5→DataW.trod enc Tryz.prog w 0 sp held n 47 cs=some z→IsEx w cs z.1)
  (h:DataW.trod enc Tryz.prog w 0 sp held fuel t [v]=some y):∃ l,RdE w l v∧Ex.bulks l+1≤Rows.uptoBulk y.1:=by
 obtain ⟨ad,cap,D,n,hn,rfl,hcap,hb,hel⟩:=open_row (m:=5) (by decide) ht cells_ex h
 obtain ⟨l,hll,hq⟩:=list_of (α:=Ex × Value) (Q:=fun i p => p.1.k < 256∧RdE w p.1.sub p.2∧(∃ a,ad=some a∧a.spot=none∧∀ k,k < 5→w.cell? (a.add (i * 5+k))=(p.1.cells p.2)[k]?)∧∀ d,D[i]? = some d→p.1.bulk≤Rows.uptoBulk d) D.length fun i hi => by
  obtain ⟨a,cs,z,ha,hs,hlc,hcell,ht,hD⟩:=hel i hi
  obtain ⟨x,s,rfl,h8,hr,hbx⟩:=ih n (by omega) cs z hlc ht
  exact ⟨(x,s),h8,hr,⟨a,ha,hs,hcell⟩,fun d hd => by rw [hD] at hd;cases hd;exact hbx⟩
 have hlen:(l.map (·.1)).length=D.length:=by rw [List.length_map,hll]
 have get:∀ j x,(l.map (·.1))[j]? = some x→∃ s,l[j]? = some (x,s):=fun j x hx => by
  rw [List.getElem?_map,Option.map_eq_some_iff] at hx
  obtain ⟨p,hp,rfl⟩:=hx
  exact ⟨p.2,hp⟩
 refine ⟨l.map (·.1),?_,?_⟩
 ·rw [← hlen]
  refine .mk ad cap _ (fun j => (l[j]?.map (·.2)).getD default) (fun j x hx => ?_) (fun j x hx => ?_)
  ·obtain ⟨s,hp⟩:=get j x hx
   obtain ⟨h8,hr,⟨a,ha,hs,hcell⟩,_⟩:=hq j _ hp
   have hc:∀ k,k < 5→w.cell? ⟨a.block,a.off+j * 5+k,none⟩=(x.cells s)[k]?:=fun k hk => by
    rw [← hcell k hk,addr_spot hs,Nat.add_assoc]
   refine ⟨h8,a.block,a.off,?_,hc 0 (by decide),hc 1 (by decide),hc 2 (by decide),hc 3 (by decide),?_⟩
   ·rw [ha];cases a;simp at hs;subst hs;rfl
   ·rw [hp];exact hc 4 (by decide)
  ·obtain ⟨s,hp⟩:=get j x hx
   rw [hp]
   exact (hq j _ hp).2.1
 ·have:=bulks_le Ex.bulk Ex.bulks rfl (fun _ _ => rfl) (l.map (·.1)) D hlen fun i x d hx hd => by
   obtain ⟨s,hp⟩:=get i x hx
   exact (hq i _ hp).2.2.2 d hd
  omega
theorem dec_ex:∀ (n:Nat) (cs:List Value) (z:DataW H × List MemPlace),cs.length=5→DataW.trod enc Tryz.prog w 0 sp held n 47 cs=some z→IsEx w cs z.1:=by
 intro n
 induction n using Nat.strongRecOn with
 | ind n ih =>
  intro cs z hl h
  obtain ⟨c0,c1,c2,c3,c4,rfl⟩:=arr5 hl
  obtain ⟨xs,n',hn,hz,_,hxl,hf⟩:=DataW.trod_struct Tryz.underlying47 h
  obtain ⟨y0,y1,y2,y3,y4,rfl⟩:=arr5 hxl
  have h0:=hf 0 _ rfl
  have h1:=hf 1 _ rfl
  have h2:=hf 2 _ rfl
  have h3:=hf 3 _ rfl
  have h4:=hf 4 _ rfl
  simp [cells_string,cells_int,cells_rat,cells_u8,cells_exs] at h0 h1 h2 h3 h4
  obtain ⟨k,hk,rfl,hw⟩:=DataW.trod_int Tryz.underlying5 h0
  obtain ⟨r,hr,rfl,_⟩:=DataW.trod_string Tryz.underlying22 h1
  obtain ⟨s,hs,rfl,_⟩:=DataW.trod_string Tryz.underlying9 h2
  obtain ⟨d,hd,rfl,_⟩:=DataW.trod_int Tryz.underlying3 h3
  simp at hk hr hs hd
  subst hk hr hs hd
  obtain ⟨k,rfl,hk8⟩:=u8_nat hw
  obtain ⟨l,hrd,hb⟩:=rdE_of Tryz.underlying45 (fun m hm => ih m (by omega)) h4
  refine ⟨.mk k r s d l,c4,rfl,hk8,hrd,?_⟩
  rw [hz,Ex.bulk_eq]
  simp [Rows.uptoBulk,Rows.uptoBulkAll]
  have e1:r.data.size=r.size:=rfl
  have e2:s.data.size=s.size:=rfl
  have e3:(Ex.mk k r s d l).ra=r:=rfl
  have e4:(Ex.mk k r s d l).nm=s:=rfl
  have e5:(Ex.mk k r s d l).sub=l:=rfl
  rw [e3,e4,e5]
  omega
theorem rdI_of {t:TypeId} {fuel:Nat} {v:Value} {y:DataW H × List MemPlace} (ht:Tryz.prog.underlying t=some (.slice 3))
  (h:DataW.trod enc Tryz.prog w 0 sp held fuel t [v]=some y):∃ l,RdI w l v∧l.length+1≤Rows.uptoBulk y.1:=by
 obtain ⟨ad,cap,D,n,hn,rfl,hcap,hb,hel⟩:=open_row (m:=1) (by decide) ht cells_int h
 obtain ⟨l,hll,hq⟩:=list_of (α:=Int) (Q:=fun i d => ∃ a,ad=some a∧a.spot=none∧w.cell? (a.add (i * 1+0))=some (.int .i64 d)) D.length fun i hi => by
  obtain ⟨a,cs,z,ha,hs,hlc,hcell,ht,hD⟩:=hel i hi
  obtain ⟨d,rfl,_,_⟩:=DataW.trod_int Tryz.underlying3 ht
  exact ⟨d,a,ha,hs,hcell 0 (by decide)⟩
 have:=bulk_length D
 obtain ⟨hcap,hnil⟩:=hcap
 refine ⟨l,⟨ad,cap,by rw [hll],⟨by omega,hnil⟩,fun j d hj => ?_⟩,by omega⟩
 obtain ⟨a,ha,hs,hc⟩:=hq j d hj
 refine ⟨a.block,a.off,?_,?_⟩
 ·rw [ha];cases a;simp at hs;subst hs;rfl
 ·rw [addr_spot hs,Nat.mul_one,Nat.add_zero] at hc;exact hc
def IsCon (w:World) (cs:List Value) (d:DataW H):Prop:=∃ (x:Con) (es dd ss:Value),cs=x.cells es dd ss∧RdN w x es dd ss∧x.bulk≤Rows.uptoBulk d
theorem rdC_of {t:TypeId} {fuel:Nat} {v:Value} {y:DataW H × List MemPlace} (ht:Tryz.prog.underlying t=some (.slice 51))
  (ih:∀ n < fuel,∀ cs (z:DataW H × List MemPlace),cs.length=12→DataW.trod enc Tryz.prog w 0 sp held n 51 cs=some z→IsCon w cs z.1)
  (h:DataW.trod enc Tryz.prog w 0 sp held fuel t [v]=some y):∃ l,RdC w l v∧Con.bulks l+1≤Rows.uptoBulk y.1:=by
 obtain ⟨ad,cap,D,n,hn,rfl,hcap,hb,hel⟩:=open_row (m:=12) (by decide) ht cells_con h
 obtain ⟨l,hll,hq⟩:=list_of (α:=Con × Value × Value × Value) (Q:=fun i p => RdN w p.1 p.2.1 p.2.2.1 p.2.2.2∧(∃ a,ad=some a∧a.spot=none∧∀ k,k < 12→w.cell? (a.add (i * 12+k))=(p.1.cells p.2.1 p.2.2.1 p.2.2.2)[k]?)∧∀ d,D[i]? = some d→p.1.bulk≤Rows.uptoBulk d) D.length fun i hi => by
  obtain ⟨a,cs,z,ha,hs,hlc,hcell,ht,hD⟩:=hel i hi
  obtain ⟨x,es,dd,ss,rfl,hr,hbx⟩:=ih n (by omega) cs z hlc ht
  exact ⟨(x,es,dd,ss),hr,⟨a,ha,hs,hcell⟩,fun d hd => by rw [hD] at hd;cases hd;exact hbx⟩
 have hlen:(l.map (·.1)).length=D.length:=by rw [List.length_map,hll]
 have get:∀ j x,(l.map (·.1))[j]? = some x→∃ s,l[j]? = some (x,s):=fun j x hx => by
  rw [List.getElem?_map,Option.map_eq_some_iff] at hx
  obtain ⟨p,hp,rfl⟩:=hx
  exact ⟨p.2,hp⟩
 refine ⟨l.map (·.1),?_,?_⟩
 ·rw [← hlen]
  refine .mk ad cap _ (fun j => (l[j]?.map (·.2.1)).getD default) (fun j => (l[j]?.map (·.2.2.1)).getD default) (fun j => (l[j]?.map (·.2.2.2)).getD default) (fun j x hx => ?_) (fun j x hx => ?_) (fun j x hx => ?_) (fun j x hx => ?_)
  ·obtain ⟨s,hp⟩:=get j x hx
   obtain ⟨hr,⟨a,ha,hs,hcell⟩,_⟩:=hq j _ hp
   refine ⟨hr.2.2.2,a.block,a.off,?_,fun i u hu => ?_⟩
   ·rw [ha];cases a;simp at hs;subst hs;rfl
   ·have hi:i < 12:=(List.getElem?_eq_some_iff.1 hu).1
    rw [hp] at hu
    rw [Nat.add_assoc,← addr_spot hs,hcell i hi]
    exact hu
  ·obtain ⟨s,hp⟩:=get j x hx
   rw [hp]
   exact (hq j _ hp).1.1
  ·obtain ⟨s,hp⟩:=get j x hx
   rw [hp]
   exact (hq j _ hp).1.2.1
  ·obtain ⟨s,hp⟩:=get j x hx
   rw [hp]
   exact (hq j _ hp).1.2.2.1
 ·have:=bulks_le Con.bulk Con.bulks rfl (fun _ _ => rfl) (l.map (·.1)) D hlen fun i x d hx hd => by
   obtain ⟨s,hp⟩:=get i x hx
   exact (hq i _ hp).2.2 d hd
  omega
theorem dec_con:∀ (n:Nat) (cs:List Value) (z:DataW H × List MemPlace),cs.length=12→DataW.trod enc Tryz.prog w 0 sp held n 51 cs=some z→IsCon w cs z.1:=by
 intro n
 induction n using Nat.strongRecOn with
 | ind n ih =>
  intro cs z hl h
  obtain ⟨c0,c1,c2,c3,c4,c5,c6,c7,c8,c9,c10,c11,rfl⟩:=arr12 hl
  obtain ⟨xs,n',hn,hz,_,hxl,hf⟩:=DataW.trod_struct Tryz.underlying51 h
  obtain ⟨y0,y1,y2,y3,y4,y5,y6,y7,rfl⟩:=arr8 hxl
  have h0:=hf 0 _ rfl
  have h1:=hf 1 _ rfl
  have h2:=hf 2 _ rfl
  have h3:=hf 3 _ rfl
  have h4:=hf 4 _ rfl
  have h5:=hf 5 _ rfl
  have h6:=hf 6 _ rfl
  have h7:=hf 7 _ rfl
  simp [cells_string,cells_int,cells_u8,cells_ex,cells_ints,cells_cons] at h0 h1 h2 h3 h4 h5 h6 h7
  obtain ⟨k,hk,rfl,hw⟩:=DataW.trod_int Tryz.underlying5 h0
  obtain ⟨f,hff,rfl,_⟩:=DataW.trod_string Tryz.underlying9 h1
  obtain ⟨r,hr,rfl,_⟩:=DataW.trod_string Tryz.underlying9 h2
  obtain ⟨s,hs,rfl,_⟩:=DataW.trod_string Tryz.underlying9 h3
  obtain ⟨x,es,hx,hx8,hxr,hxb⟩:=dec_ex _ _ _ rfl h4
  obtain ⟨d,hd,rfl,_⟩:=DataW.trod_int Tryz.underlying3 h5
  obtain ⟨ds,hds,hdb⟩:=rdI_of Tryz.underlying48 h6
  obtain ⟨l,hrd,hb⟩:=rdC_of Tryz.underlying49 (fun m hm => ih m (by omega)) h7
  simp at hk hff hr hs hd
  simp [Ex.cells] at hx
  obtain ⟨rfl,rfl,rfl,rfl,rfl⟩:=hx
  subst hk hff hr hs hd
  obtain ⟨k,rfl,hk8⟩:=u8_nat hw
  refine ⟨.mk k f r s x d ds l,c8,c10,c11,rfl,⟨hxr,hds,hrd,hk8,hx8⟩,?_⟩
  rw [hz,Con.bulk_eq]
  simp [Rows.uptoBulk,Rows.uptoBulkAll]
  have e1:f.data.size=f.size:=rfl
  have e2:r.data.size=r.size:=rfl
  have e3:s.data.size=s.size:=rfl
  have e4:(Con.mk k f r s x d ds l).fr=f:=rfl
  have e5:(Con.mk k f r s x d ds l).rc=r:=rfl
  have e6:(Con.mk k f r s x d ds l).nm=s:=rfl
  have e7:(Con.mk k f r s x d ds l).ex=x:=rfl
  have e8:(Con.mk k f r s x d ds l).ds=ds:=rfl
  have e9:(Con.mk k f r s x d ds l).sub=l:=rfl
  rw [e4,e5,e6,e7,e8,e9]
  omega
end
end Go.Proofs.YthdeijdimfjceaaGreatDoor

namespace Go.Proofs.YthdeijdimfjceaaGreatDoor
open Go.RowKit
theorem Ex.bulks_append (l m:List Ex):Ex.bulks (l ++ m)=Ex.bulks l+Ex.bulks m:=by
 induction l with
 | nil => simp [Ex.bulks]
 | cons x l ih => rw [List.cons_append,Ex.bulks,Ex.bulks,ih];omega
theorem Ex.bulks_snoc {l:List Ex} {k:Nat} {x:Ex} (h:l[k]? = some x):Ex.bulks (l.take (k+1))=Ex.bulks (l.take k)+x.bulk:=by
 rw [take_snoc_get h,Ex.bulks_append,Ex.bulks,Ex.bulks];omega
theorem Ex.bulks_take (l:List Ex) (k:Nat):Ex.bulks (l.take k)≤Ex.bulks l:=by
 have h:=Ex.bulks_append (l.take k) (l.drop k)
 rw [List.take_append_drop] at h
 omega
end Go.Proofs.YthdeijdimfjceaaGreatDoor

namespace Go.Proofs.YthdeijdimfjceaaGreatDoor
open Go.RowKit
theorem Con.bulks_append (l m:List Con):Con.bulks (l ++ m)=Con.bulks l+Con.bulks m:=by
 induction l with
 | nil => simp [Con.bulks]
 | cons x l ih => rw [List.cons_append,Con.bulks,Con.bulks,ih];omega
theorem Con.bulks_snoc {l:List Con} {k:Nat} {x:Con} (h:l[k]? = some x):Con.bulks (l.take (k+1))=Con.bulks (l.take k)+x.bulk:=by
 rw [take_snoc_get h,Con.bulks_append,Con.bulks,Con.bulks];omega
theorem Con.bulks_take (l:List Con) (k:Nat):Con.bulks (l.take k)≤Con.bulks l:=by
 have h:=Con.bulks_append (l.take k) (l.drop k)
 rw [List.take_append_drop] at h
 omega
end Go.Proofs.YthdeijdimfjceaaGreatDoor

namespace Go.Proofs.YthdeijdimfjceaaGreatDoor
open Go.RowKit
set_option maxHeartbeats 1000000 in
set_option maxRecDepth 100000 in
theorem rsize_any:∀ (N:Nat) (x:Ex) (s:Value) (w:World),x.bulk≤N→x.bulk≤2000000→RdE w x.sub s →
  Calls Tryz.prog 110 #[x.val s] w fun e w' => e = .returned (.int .i64 (x.size:Int))∧Below w.heap.size w w':=by
 intro N
 induction N with
 | zero =>
  intro x s w h0 _ _
  rw [Ex.bulk_eq] at h0
  omega
 | succ N ih =>
  intro x s w hN hB hs
  obtain ⟨ad,cap,rfl⟩:=hs.len
  have HS:=Lib.hid hs
  have HI:=Lib.hid ih
  have hlen:=Ex.bulks_len x.sub
  have hlt0:=x.sub_lt
  have hsz:=x.size_le
  have hsq:=x.size_eq
  have hn:x.sub.length≤2000000:=by omega
  have hb0:=below_a1 w (.cells #[.int .u8 x.k,.string x.ra,.string x.nm,.int .i64 x.d,.slice ad x.sub.length cap] 47)
  clear hs ih
  unfold Ex.val
  go_enter Tryz.func110,Tryz.ntmps110
  go_wp2_with fail
  go_loopw [3,4] (fun n i wr => ∃ (k S:Nat),k≤x.sub.length∧i = .int .i64 (k:Int)∧n = .int .i64 (S:Int)∧S≤2000000∧Hid (S=1+Ex.sizes (x.sub.take k))∧Below w.heap.size w wr∧wr.cell? ⟨w.heap.size,4,none⟩=some (.slice ad x.sub.length cap)) (fun _ i _ => x.sub.length - (intOf i).toNat)
  case atStart => exact ⟨0,1,Nat.zero_le _,rfl,rfl,by omega,rfl,hb0,by go_simp⟩
  case round =>
   clear hb0
   obtain ⟨k,S,hk,rfl,rfl,hS,HSz,hbel,q0⟩:=hrel
   by_cases hlt:k < x.sub.length
   ·obtain ⟨y,hy⟩:∃ y,x.sub[k]? = some y:=⟨_,List.getElem?_eq_getElem hlt⟩
    obtain ⟨b,off,s',rfl,c0,c1,c2,c3,c4,hs',_⟩:=(HS.out.frame hbel).at hy
    have hym:=Ex.mem_lt (List.mem_of_getElem? hy)
    have hblk:b < wr.heap.size:=World.block_lt_of_cell? wr _ c0
    have hbx:w.heap.size < wr.heap.size:=World.block_lt_of_cell? wr _ q0
    have hzw:=hbel.size
    have HSn:Hid (S+y.size=1+Ex.sizes (x.sub.take (k+1))):=by show _=_;rw [Ex.sizes_snoc hy,HSz.out];omega
    have hSn:S+y.size≤2000000:=by have:=HSn.out;have:=Ex.sizes_take x.sub (k+1);omega
    have e1:IntKind.i64.wrap ((S:Int)+(y.size:Int))=((S+y.size:Nat):Int):=by rw [IntWalk.i64_in _ (by omega)];omega
    have hk1:(0:Int)≤(k:Int):=by omega
    have hk2:(k:Int) < (x.sub.length:Int):=by omega
    have HC:=Lib.hid (HI.out y s' wr (by omega) (by omega) hs')
    unfold Ex.val at HC
    clear hy hym hs'
    go_wp2_with fail
    refine HC.out.mono ?_
    rintro e w1 ⟨rfl,hb1⟩
    have q1:w1.cell? ⟨w.heap.size,4,none⟩=some (.slice (some ⟨b,off,none⟩) x.sub.length cap):=by rw [hb1.cell (p:=⟨w.heap.size,4,none⟩) hbx];exact q0
    have hb2:=hbel.trans (hb1.mono hzw)
    clear hb1 hbel q0
    go_wp2
    go_roundw
    case rel => exact ⟨k+1,S+y.size,by omega,by go_num,rfl,hSn,HSn,hb2,q1⟩
    case measure => simp [intOf];omega
   ·obtain rfl:k=x.sub.length:=by omega
    have HF:Hid ((S:Int)=(x.size:Int)):=by
     show _=_
     have h:=HSz.out
     rw [List.take_length] at h
     omega
    go_wp2
    go_ret
    exact ⟨by rw [HF.out];rfl,hbel⟩
end Go.Proofs.YthdeijdimfjceaaGreatDoor

namespace Go.Proofs.YthdeijdimfjceaaGreatDoor
open Go.RowKit
section
variable {o o':Option Nat} {base B:Nat} {w w':World} {R:World→Prop}
end
section
variable {α:Type} {enc:α→List Value} {e:TypeId} {m:Nat} {Rd:α→World→Prop} {R0:World→Prop} {w:World} {D:Nat} {LL:List α} {a2:Option Addr} {c2:Nat} {wr w1 w2:World}
end
section
variable {P:Program} {ops:Array Oper}
end
section
variable {σ:Type} {Q0:World→Prop} {Q1:World→σ→Prop} {Q2:World→σ→Nat→Prop} {Q3 Q4:World→σ→Value→Prop} {L:Nat→Bool} {s:σ} {r:Value} {g:Nat} {w:World}
theorem TwI.u7 (h8:L 8=false) (h9:L 9=false) (h11:L 11=false) (h:Q1 w s):TwI Q0 Q1 Q2 Q3 Q4 (upd L 7) s g r w :=
 ⟨fun k => (by simp [upd] at k),fun _ _ => h,fun k => (by simp [upd,h8] at k),fun k => (by simp [upd,h9] at k),fun k => (by simp [upd,h11] at k)⟩
end
end Go.Proofs.YthdeijdimfjceaaGreatDoor

namespace Go.Proofs.YthdeijdimfjceaaGreatDoor
open Go.ChangeShapes Go.WideShapes Go.ChangeAt Go.RowKit Go.Joins Go.Deep
set_option maxRecDepth 100000 in
theorem open_con {H:Type} {enc:TypeId × Value→H} {W:World} {base:Nat} {sp:Nat→Bool} {held:Bool} {v:Value} {d:DataW H} {p:List MemPlace}
  (hv:Value.okWide Tryz.prog W .any base 51 v) (h:DataW.Trod enc Tryz.prog W 0 sp held 51 v d p) :
  ∃ (c:Con) (es dd ss:Value),v=c.val es dd ss∧RdN W c es dd ss∧c.bulk≤Rows.uptoBulk d:=by
 obtain ⟨n,h⟩:=h
 obtain ⟨cs,rfl⟩:∃ cs,v = .agg cs:=by
  unfold Value.okWide at hv
  cases v with
  | agg cs => exact ⟨cs,rfl⟩
  | _ => simp [Tryz.underlying51] at hv
 have hl:(Value.agg cs).cells.toList.length=12:=by
  obtain ⟨_,_,_,_,hl,_⟩:=DataW.trod_struct Tryz.underlying51 h
  rw [hl];exact cells_con
 obtain ⟨c,es,dd,ss,hc,hr,hb⟩:=dec_con n _ _ hl h
 refine ⟨c,es,dd,ss,?_,hr,hb⟩
 have:cs=(c.cells es dd ss).toArray:=by
  cases cs
  simp [Value.cells] at hc
  rw [hc]
 rw [this]
 rfl
end Go.Proofs.YthdeijdimfjceaaGreatDoor

namespace Go.Proofs.YthdeijdimfjceaaGreatDoor
open Go.RowKit
set_option maxHeartbeats 1000000 in
set_option maxRecDepth 100000 in
theorem xcount_any:∀ (N:Nat) (x:Ex) (s:Value) (lim deep:Int) (w:World),x.bulk≤N→x.bulk≤2000000→RdE w x.sub s→0≤lim→lim≤1000→0≤deep→deep≤1000 →
  Calls Tryz.prog 139 #[x.val s,.int .i64 lim,.int .i64 deep] w (CountPost x.size w):=by
 intro N
 induction N with
 | zero =>
  intro x s lim deep w h0
  rw [Ex.bulk_eq] at h0
  omega
 | succ N ih =>
  intro x s lim deep w hN hB hs hl0 hl1 hd0 hd1
  obtain ⟨ad,cap,rfl⟩:=hs.len
  have HS:=Lib.hid hs
  have HI:=Lib.hid ih
  have hlen:=Ex.bulks_len x.sub
  have hlt0:=x.sub_lt
  have hsz:=x.size_le
  have hsq:=Lib.hid x.size_eq
  have hn:x.sub.length≤2000000:=by omega
  have hb0:=below_a1 w (.cells #[.int .u8 x.k,.string x.ra,.string x.nm,.int .i64 x.d,.slice ad x.sub.length cap] 47)
  clear hs ih
  unfold Ex.val
  by_cases hdz:deep=0
  ·subst hdz
   have H1:Hid (1≤x.size):=Lib.hid (by have:=hsq.out;have:=hsq.out;omega)
   go_enter Tryz.func139,Tryz.ntmps139
   go_wp2_with fail
   go_ret2
   exact .mk 1 false rfl H1.out hb0
  have hde:(deep == 0)=false:=by simpa using hdz
  go_enter Tryz.func139,Tryz.ntmps139
  go_wp2_with fail
  go_loopw [8,9] (fun n i wr => ∃ (k S:Nat),k≤x.sub.length∧i = .int .i64 (k:Int)∧n = .int .i64 (S:Int)∧S≤2000000∧Hid (S≤1+Ex.sizes (x.sub.take k))∧Below w.heap.size w wr∧wr.cell? ⟨w.heap.size,4,none⟩=some (.slice ad x.sub.length cap)) (fun _ i _ => x.sub.length - (intOf i).toNat)
  case atStart => exact ⟨0,1,Nat.zero_le _,rfl,rfl,by omega,Lib.hid (by have:=hsq.out;have:=hsq.out;omega),hb0,by go_simp⟩
  case round =>
   clear hb0
   obtain ⟨k,S,hk,rfl,rfl,hS,HSz,hbel,q0⟩:=hrel
   by_cases hlt:k < x.sub.length
   ·by_cases hli:(S:Int)≤lim
    ·obtain ⟨y,hy⟩:∃ y,x.sub[k]? = some y:=⟨_,List.getElem?_eq_getElem hlt⟩
     obtain ⟨b,off,s',rfl,c0,c1,c2,c3,c4,hs',_⟩:=(HS.out.frame hbel).at hy
     have hym:=Ex.mem_lt (List.mem_of_getElem? hy)
     have hblk:b < wr.heap.size:=World.block_lt_of_cell? wr _ c0
     have hbx:w.heap.size < wr.heap.size:=World.block_lt_of_cell? wr _ q0
     have hzw:=hbel.size
     have hyl:y.size≤2000000:=by have:=y.size_le;omega
     have hst:=Ex.sizes_take x.sub (k+1)
     have hst0:=Ex.sizes_take x.sub k
     have HSn:=Lib.hid (Ex.sizes_snoc hy)
     have HSq:=Lib.hid hst
     have HS0:Hid (S≤x.size):=Lib.hid (by have:=hsq.out;have:=HSz.out;omega)
     have hk1:(0:Int)≤(k:Int):=by omega
     have hk2:(k:Int) < (x.sub.length:Int):=by omega
     have e1:IntKind.i64.wrap (lim - (S:Int))=lim - (S:Int):=by rw [IntWalk.i64_in _ (by omega)]
     have e2:IntKind.i64.wrap (deep - 1)=deep - 1:=by rw [IntWalk.i64_in _ (by omega)]
     have HC:=Lib.hid (HI.out y s' (lim - (S:Int)) (deep - 1) wr (by omega) (by omega) hs' (by omega) (by omega) (by omega) (by omega))
     unfold Ex.val at HC
     clear hy hym hs' hst hst0
     go_wp2_with fail
     refine HC.out.mono ?_
     rintro e w1 ⟨⟨m,g,rfl,hm⟩,hb1⟩
     have q1:w1.cell? ⟨w.heap.size,4,none⟩=some (.slice (some ⟨b,off,none⟩) x.sub.length cap):=by rw [hb1.cell (p:=⟨w.heap.size,4,none⟩) hbx];exact q0
     have hb2:=hbel.trans (hb1.mono hzw)
     clear hb1 hbel q0 HC
     cases g with
     | false =>
      go_wp2
      go_ret2
      exact .mk S false rfl HS0.out hb2
     | true =>
      have HSm:Hid (S+m≤1+Ex.sizes (x.sub.take (k+1))):=Lib.hid (by have:=hsq.out;have:=HSn.out;have:=HSz.out;omega)
      have hSm:S+m≤2000000:=by have:=hsq.out;have:=HSm.out;have:=HSq.out;omega
      have e3:IntKind.i64.wrap ((S:Int)+(m:Int))=((S+m:Nat):Int):=by rw [IntWalk.i64_in _ (by omega)];omega
      go_wp2
      go_roundw
      case rel => exact ⟨k+1,S+m,by omega,by go_num,rfl,hSm,HSm,hb2,q1⟩
      case measure => simp [intOf];omega
    ·have HS0:Hid (S≤x.size):=Lib.hid (by have:=hsq.out;have:=HSz.out;have:=Ex.sizes_take x.sub k;omega)
     go_wp2
     go_ret2
     exact .mk S true rfl HS0.out hbel
   ·have HS0:Hid (S≤x.size):=Lib.hid (by have:=hsq.out;have:=HSz.out;have:=Ex.sizes_take x.sub k;omega)
    go_wp2
    go_ret2
    exact .mk S true rfl HS0.out hbel
set_option maxHeartbeats 1000000 in
set_option maxRecDepth 100000 in
theorem xbytes_any:∀ (N:Nat) (x:Ex) (s:Value) (w:World),x.bulk≤N→x.bulk≤2000000→RdE w x.sub s →
  Calls Tryz.prog 140 #[x.val s] w (NatPost x.bulk w):=by
 intro N
 induction N with
 | zero =>
  intro x s w h0
  rw [Ex.bulk_eq] at h0
  omega
 | succ N ih =>
  intro x s w hN hB hs
  obtain ⟨ad,cap,rfl⟩:=hs.len
  have HS:=Lib.hid hs
  have HI:=Lib.hid ih
  have hlen:=Ex.bulks_len x.sub
  have hlt0:=x.sub_lt
  have hsq:=Lib.hid x.bulk_eq
  have hn:x.sub.length≤2000000:=by omega
  have hsz1:x.ra.size+x.nm.size≤2000000:=by have:=hsq.out;omega
  have hb0:=below_a1 w (.cells #[.int .u8 x.k,.string x.ra,.string x.nm,.int .i64 x.d,.slice ad x.sub.length cap] 47)
  have e0:IntKind.i64.wrap ((x.ra.size:Int)+(x.nm.size:Int))=((x.ra.size+x.nm.size:Nat):Int):=by rw [IntWalk.i64_in _ (by omega)];omega
  clear hs ih
  unfold Ex.val
  go_enter Tryz.func140,Tryz.ntmps140
  go_wp2_with fail
  go_loopw [3,4] (fun n i wr => ∃ (k S:Nat),k≤x.sub.length∧i = .int .i64 (k:Int)∧n = .int .i64 (S:Int)∧S≤2000000∧Hid (S≤x.ra.size+x.nm.size+Ex.bulks (x.sub.take k))∧Below w.heap.size w wr∧wr.cell? ⟨w.heap.size,4,none⟩=some (.slice ad x.sub.length cap)) (fun _ i _ => x.sub.length - (intOf i).toNat)
  case atStart => exact ⟨0,x.ra.size+x.nm.size,Nat.zero_le _,rfl,rfl,by omega,Lib.hid (by omega),hb0,by go_simp⟩
  case round =>
   clear hb0
   obtain ⟨k,S,hk,rfl,rfl,hS,HSz,hbel,q0⟩:=hrel
   by_cases hlt:k < x.sub.length
   ·obtain ⟨y,hy⟩:∃ y,x.sub[k]? = some y:=⟨_,List.getElem?_eq_getElem hlt⟩
    obtain ⟨b,off,s',rfl,c0,c1,c2,c3,c4,hs',_⟩:=(HS.out.frame hbel).at hy
    have hym:=Ex.mem_lt (List.mem_of_getElem? hy)
    have hblk:b < wr.heap.size:=World.block_lt_of_cell? wr _ c0
    have hbx:w.heap.size < wr.heap.size:=World.block_lt_of_cell? wr _ q0
    have hzw:=hbel.size
    have HSn:=Lib.hid (Ex.bulks_snoc hy)
    have HSq:=Lib.hid (Ex.bulks_take x.sub (k+1))
    have hk1:(0:Int)≤(k:Int):=by omega
    have hk2:(k:Int) < (x.sub.length:Int):=by omega
    have HC:=Lib.hid (HI.out y s' wr (by omega) (by omega) hs')
    unfold Ex.val at HC
    clear hy hym hs'
    go_wp2_with fail
    refine HC.out.mono ?_
    rintro e w1 ⟨⟨m,rfl,hm⟩,hb1⟩
    have q1:w1.cell? ⟨w.heap.size,4,none⟩=some (.slice (some ⟨b,off,none⟩) x.sub.length cap):=by rw [hb1.cell (p:=⟨w.heap.size,4,none⟩) hbx];exact q0
    have hb2:=hbel.trans (hb1.mono hzw)
    clear hb1 hbel q0 HC
    have HSm:Hid (S+m≤x.ra.size+x.nm.size+Ex.bulks (x.sub.take (k+1))):=Lib.hid (by have:=HSn.out;have:=HSz.out;omega)
    have hSm:S+m≤2000000:=by have:=hsq.out;have:=HSm.out;have:=HSq.out;omega
    have e3:IntKind.i64.wrap ((S:Int)+(m:Int))=((S+m:Nat):Int):=by rw [IntWalk.i64_in _ (by omega)];omega
    go_wp2
    go_roundw
    case rel => exact ⟨k+1,S+m,by omega,by go_num,rfl,hSm,HSm,hb2,q1⟩
    case measure => simp [intOf];omega
   ·have HF:Hid (S≤x.bulk):=Lib.hid (by have:=hsq.out;have:=HSz.out;have:=Ex.bulks_take x.sub k;omega)
    go_wp2
    go_ret
    exact .mk S rfl HF.out hbel
set_option maxHeartbeats 1000000 in
set_option maxRecDepth 100000 in
theorem xgreat_any (x:Ex) (s:Value) (w:World) (hB:x.bulk≤2000000) (hs:RdE w x.sub s) :
  Calls Tryz.prog 109 #[x.val s] w (BoolPost w):=by
 have hsz:=x.size_le
 have hb0:=below_a1 w (.cells #[.int .u8 x.k,.string x.ra,.string x.nm,.int .i64 x.d,s] 47)
 have HS:=Lib.hid hs
 have HC:=Lib.hid (xcount_any x.bulk x s 600 100 _ (Nat.le_refl _) hB (hs.frame hb0) (by omega) (by omega) (by omega) (by omega))
 clear hs
 unfold Ex.val at HC ⊢
 obtain ⟨ad,cap,rfl⟩:=HS.out.len
 go_enter Tryz.func109,Tryz.ntmps109
 go_wp2_with fail
 refine HC.out.mono ?_
 rintro e w1 ⟨⟨n,g,rfl,hn⟩,hb1⟩
 have hz1:=hb1.size
 simp only [World.size_alloc] at hz1
 have c:∀ j u,(w.alloc (.cells #[.int .u8 x.k,.string x.ra,.string x.nm,.int .i64 x.d,.slice ad x.sub.length cap] 47)).cell? ⟨w.heap.size,j,none⟩=some u→w1.cell? ⟨w.heap.size,j,none⟩=some u:=fun j u h => by
  rw [hb1.cell (p:=⟨w.heap.size,j,none⟩) (by simp)];exact h
 have c0:=c 0 (.int .u8 x.k) (by go_simp)
 have c1:=c 1 (.string x.ra) (by go_simp)
 have c2:=c 2 (.string x.nm) (by go_simp)
 have c3:=c 3 (.int .i64 x.d) (by go_simp)
 have c4:=c 4 (.slice ad x.sub.length cap) (by go_simp)
 have hb2:=hb0.trans (hb1.mono (by simp))
 have HB:=Lib.hid (xbytes_any x.bulk x _ w1 (Nat.le_refl _) hB (HS.out.frame hb2))
 unfold Ex.val at HB
 clear c hb0 hb1 HC
 cases g with
 | false =>
  go_wp2
  go_ret
  exact .mk _ rfl hb2
 | true =>
  by_cases h6:(600:Int) < (n:Int)
  ·go_wp2
   go_ret
   exact .mk _ rfl hb2
  ·go_wp2_with fail
   refine HB.out.mono ?_
   rintro e w2 ⟨⟨m,rfl,hm⟩,hb3⟩
   have hb4:=hb2.trans (hb3.mono (by omega))
   clear hb2 hb3 HB
   go_wp2
   go_ret
   exact .mk _ rfl hb4
end Go.Proofs.YthdeijdimfjceaaGreatDoor

namespace Go.Proofs.YthdeijdimfjceaaGreatDoor
open Go.RowKit
set_option maxHeartbeats 1000000 in
set_option maxRecDepth 100000 in
theorem ccount_any:∀ (N:Nat) (x:Con) (es dd ss:Value) (lim deep:Int) (w:World),x.bulk≤N→x.bulk≤2000000→RdN w x es dd ss→0≤lim→lim≤1000→0≤deep→deep≤1000 →
  Calls Tryz.prog 74 #[x.val es dd ss,.int .i64 lim,.int .i64 deep] w (CountPost x.bulk w):=by
 intro N
 induction N with
 | zero =>
  intro x es dd ss lim deep w h0
  rw [Con.bulk_eq] at h0
  omega
 | succ N ih =>
  intro x es dd ss lim deep w hN hB hs hl0 hl1 hd0 hd1
  obtain ⟨ad,cap,rfl⟩:=hs.2.2.1.len
  obtain ⟨ad1,cap1,rfl⟩:=hs.1.len
  obtain ⟨ad2,cap2,rfl⟩:=hs.2.1.len
  have HS:=Lib.hid hs.2.2.1
  have HI:=Lib.hid ih
  have hlen:=Con.bulks_len x.sub
  have hlt0:=x.sub_lt
  have hsq:=Lib.hid x.bulk_eq
  have hsub:=Con.sub_lt x
  have hn:x.sub.length≤2000000:=by omega
  have hb0:=below_a1 w (.cells #[.int .u8 x.k,.string x.fr,.string x.rc,.string x.nm,.int .u8 x.ex.k,.string x.ex.ra,.string x.ex.nm,.int .i64 x.ex.d,.slice ad1 x.ex.sub.length cap1,.int .i64 x.d,.slice ad2 x.ds.length cap2,.slice ad x.sub.length cap] 51)
  clear hs ih
  unfold Con.val
  by_cases hdz:deep=0
  ·subst hdz
   have H1:Hid (1≤x.bulk):=Lib.hid (by have:=hsq.out;omega)
   go_enter Tryz.func74,Tryz.ntmps74
   go_wp2_with fail
   go_ret2
   exact .mk 1 false rfl H1.out hb0
  have hde:(deep == 0)=false:=by simpa using hdz
  go_enter Tryz.func74,Tryz.ntmps74
  go_wp2_with fail
  go_loopw [8,9] (fun n i wr => ∃ (k S:Nat),k≤x.sub.length∧i = .int .i64 (k:Int)∧n = .int .i64 (S:Int)∧S≤2000000∧Hid (S≤1+Con.bulks (x.sub.take k))∧Below w.heap.size w wr∧wr.cell? ⟨w.heap.size,11,none⟩=some (.slice ad x.sub.length cap)) (fun _ i _ => x.sub.length - (intOf i).toNat)
  case atStart => exact ⟨0,1,Nat.zero_le _,rfl,rfl,by omega,Lib.hid (by have:=hsq.out;omega),hb0,by go_simp⟩
  case round =>
   clear hb0
   obtain ⟨k,S,hk,rfl,rfl,hS,HSz,hbel,q0⟩:=hrel
   have HS0:Hid (S≤x.bulk):=Lib.hid (by have:=hsq.out;have:=HSz.out;have:=Con.bulks_take x.sub k;omega)
   by_cases hlt:k < x.sub.length
   ·by_cases hli:(S:Int)≤lim
    ·obtain ⟨y,hy⟩:∃ y,x.sub[k]? = some y:=⟨_,List.getElem?_eq_getElem hlt⟩
     obtain ⟨b,off,es',dd',ss',rfl,⟨c0,c1,c2,c3,c4,c5,c6,c7,c8,c9,c10,c11⟩,hs'⟩:=(HS.out.frame hbel).cells hy
     have hym:=Con.mem_lt (List.mem_of_getElem? hy)
     have hblk:b < wr.heap.size:=World.block_lt_of_cell? wr _ c0
     have hbx:w.heap.size < wr.heap.size:=World.block_lt_of_cell? wr _ q0
     have hzw:=hbel.size
     have HSn:=Lib.hid (Con.bulks_snoc hy)
     have HSq:=Lib.hid (Con.bulks_take x.sub (k+1))
     have hk1:(0:Int)≤(k:Int):=by omega
     have hk2:(k:Int) < (x.sub.length:Int):=by omega
     have e1:IntKind.i64.wrap (lim - (S:Int))=lim - (S:Int):=by rw [IntWalk.i64_in _ (by omega)]
     have e2:IntKind.i64.wrap (deep - 1)=deep - 1:=by rw [IntWalk.i64_in _ (by omega)]
     have HC:=Lib.hid (HI.out y es' dd' ss' (lim - (S:Int)) (deep - 1) wr (by omega) (by omega) hs' (by omega) (by omega) (by omega) (by omega))
     unfold Con.val at HC
     clear hy hym hs'
     go_wp2_with fail
     refine HC.out.mono ?_
     rintro e w1 ⟨⟨m,g,rfl,hm⟩,hb1⟩
     have q1:w1.cell? ⟨w.heap.size,11,none⟩=some (.slice (some ⟨b,off,none⟩) x.sub.length cap):=by rw [hb1.cell (p:=⟨w.heap.size,11,none⟩) hbx];exact q0
     have hb2:=hbel.trans (hb1.mono hzw)
     clear hb1 hbel q0 HC c0 c1 c2 c3 c4 c5 c6 c7 c8 c9 c10 c11
     cases g with
     | false =>
      go_wp2
      go_ret2
      exact .mk S false rfl HS0.out hb2
     | true =>
      have HSm:Hid (S+m≤1+Con.bulks (x.sub.take (k+1))):=Lib.hid (by have:=HSn.out;have:=HSz.out;omega)
      have hSm:S+m≤2000000:=by have:=hsq.out;have:=HSm.out;have:=HSq.out;omega
      have e3:IntKind.i64.wrap ((S:Int)+(m:Int))=((S+m:Nat):Int):=by rw [IntWalk.i64_in _ (by omega)];omega
      go_wp2
      go_roundw
      case rel => exact ⟨k+1,S+m,by omega,by go_num,rfl,hSm,HSm,hb2,q1⟩
      case measure => simp [intOf];omega
    ·go_wp2
     go_ret2
     exact .mk S true rfl HS0.out hbel
   ·go_wp2
    go_ret2
    exact .mk S true rfl HS0.out hbel
set_option maxHeartbeats 2000000 in
set_option maxRecDepth 100000 in
theorem cweight_any:∀ (N:Nat) (x:Con) (es dd ss:Value) (w:World),x.bulk≤N→x.bulk≤2000000→RdN w x es dd ss →
  Calls Tryz.prog 75 #[x.val es dd ss] w (NatPost (200000 * x.bulk) w):=by
 intro N
 induction N with
 | zero =>
  intro x es dd ss w h0
  rw [Con.bulk_eq] at h0
  omega
 | succ N ih =>
  intro x es dd ss w hN hB hs
  obtain ⟨ad,cap,rfl⟩:=hs.2.2.1.len
  obtain ⟨ad1,cap1,rfl⟩:=hs.1.len
  obtain ⟨ad2,cap2,rfl⟩:=hs.2.1.len
  have HS:=Lib.hid hs.2.2.1
  have HE:=Lib.hid hs.1
  have HI:=Lib.hid ih
  have hlen:=Con.bulks_len x.sub
  have hlt0:=x.sub_lt
  have hsq:=Lib.hid x.bulk_eq
  have hsq1:=x.bulk_eq
  have hesz:=x.ex.size_le
  have hn:x.sub.length≤2000000:=by omega
  have hexb:x.ex.bulk≤2000000:=by omega
  have hn1:x.ds.length≤2000000:=by omega
  have hf1:x.fr.size≤2000000:=by omega
  have hf2:x.rc.size≤2000000:=by omega
  have hf3:x.nm.size≤2000000:=by omega
  have hf4:x.ex.size≤2000000:=by omega
  have hb0:=below_a1 w (.cells #[.int .u8 x.k,.string x.fr,.string x.rc,.string x.nm,.int .u8 x.ex.k,.string x.ex.ra,.string x.ex.nm,.int .i64 x.ex.d,.slice ad1 x.ex.sub.length cap1,.int .i64 x.d,.slice ad2 x.ds.length cap2,.slice ad x.sub.length cap] 51)
  have HG:=Lib.hid (xgreat_any x.ex _ _ (by omega) (HE.out.frame hb0))
  have H2:Hid (200000≤200000 * x.bulk):=Lib.hid (by omega)
  clear hs ih hsq1 hesz
  unfold Con.val
  unfold Ex.val at HG
  go_enter Tryz.func75,Tryz.ntmps75
  go_wp2_with fail
  refine HG.out.mono ?_
  rintro e w1 ⟨⟨g,rfl⟩,hb1⟩
  have hz1:=hb1.size
  simp only [World.size_alloc] at hz1
  have c:∀ j u,(w.alloc (.cells #[.int .u8 x.k,.string x.fr,.string x.rc,.string x.nm,.int .u8 x.ex.k,.string x.ex.ra,.string x.ex.nm,.int .i64 x.ex.d,.slice ad1 x.ex.sub.length cap1,.int .i64 x.d,.slice ad2 x.ds.length cap2,.slice ad x.sub.length cap] 51)).cell? ⟨w.heap.size,j,none⟩=some u→w1.cell? ⟨w.heap.size,j,none⟩=some u:=fun j u h => by
   rw [hb1.cell (p:=⟨w.heap.size,j,none⟩) (by simp)];exact h
  have c1:=c 1 (.string x.fr) (by go_simp)
  have c2:=c 2 (.string x.rc) (by go_simp)
  have c3:=c 3 (.string x.nm) (by go_simp)
  have c4:=c 4 (.int .u8 x.ex.k) (by go_simp)
  have c5:=c 5 (.string x.ex.ra) (by go_simp)
  have c6:=c 6 (.string x.ex.nm) (by go_simp)
  have c7:=c 7 (.int .i64 x.ex.d) (by go_simp)
  have c8:=c 8 (.slice ad1 x.ex.sub.length cap1) (by go_simp)
  have c10:=c 10 (.slice ad2 x.ds.length cap2) (by go_simp)
  have c11:=c 11 (.slice ad x.sub.length cap) (by go_simp)
  have hb2:=hb0.trans (hb1.mono (by simp))
  have HZ:Hid (∀ W,Ext w1 W→Calls Tryz.prog 110 #[.agg #[.int .u8 x.ex.k,.string x.ex.ra,.string x.ex.nm,.int .i64 x.ex.d,.slice ad1 x.ex.sub.length cap1]] W fun e w' => e = .returned (.int .i64 (x.ex.size:Int))∧Below W.heap.size W w') :=
   Lib.hid fun W hW => rsize_any x.ex.bulk x.ex _ W (Nat.le_refl _) hexb (HE.out.frame (hb2.trans (Below.mono hW (by omega))))
  clear c hb0 hb1 HG
  cases g with
  | true =>
   go_wp2
   go_ret
   exact .mk 200000 rfl H2.out hb2
  | false =>
   obtain ⟨T,hT,hTl,hTb⟩:∃ T:Nat,(x.fr.size:Int)+(x.rc.size:Int)+(x.nm.size:Int)+(x.ds.length:Int)+4 * (x.ex.size:Int)=(T:Int)∧T≤20000000∧Hid (T+200000 * Con.bulks x.sub≤200000 * x.bulk) :=
    ⟨x.fr.size+x.rc.size+x.nm.size+x.ds.length+4 * x.ex.size,by omega,by omega,Lib.hid (by have:=hsq.out;have:=x.ex.size_le;omega)⟩
   have e1:IntKind.i64.wrap ((x.fr.size:Int)+(x.rc.size:Int))=(x.fr.size:Int)+(x.rc.size:Int):=IntWalk.i64_in _ (by omega)
   have e2:IntKind.i64.wrap ((x.fr.size:Int)+(x.rc.size:Int)+(x.nm.size:Int))=(x.fr.size:Int)+(x.rc.size:Int)+(x.nm.size:Int):=IntWalk.i64_in _ (by omega)
   have e3:IntKind.i64.wrap ((x.fr.size:Int)+(x.rc.size:Int)+(x.nm.size:Int)+(x.ds.length:Int))=(x.fr.size:Int)+(x.rc.size:Int)+(x.nm.size:Int)+(x.ds.length:Int):=IntWalk.i64_in _ (by omega)
   have e4:IntKind.i64.wrap (4 * (x.ex.size:Int))=4 * (x.ex.size:Int):=IntWalk.i64_in _ (by omega)
   have e5:IntKind.i64.wrap (T:Int)=(T:Int):=IntWalk.i64_in _ (by omega)
   go_wp2
   refine wp_region_ext (fun W' => W'.cell? ⟨w.heap.size,1,none⟩=some (.string x.fr)∧W'.cell? ⟨w.heap.size,2,none⟩=some (.string x.rc)∧W'.cell? ⟨w.heap.size,3,none⟩=some (.string x.nm)∧W'.cell? ⟨w.heap.size,4,none⟩=some (.int .u8 x.ex.k)∧W'.cell? ⟨w.heap.size,5,none⟩=some (.string x.ex.ra)∧W'.cell? ⟨w.heap.size,6,none⟩=some (.string x.ex.nm)∧W'.cell? ⟨w.heap.size,7,none⟩=some (.int .i64 x.ex.d)∧W'.cell? ⟨w.heap.size,8,none⟩=some (.slice ad1 x.ex.sub.length cap1)∧W'.cell? ⟨w.heap.size,10,none⟩=some (.slice ad2 x.ds.length cap2)∧W'.cell? ⟨w.heap.size,11,none⟩=some (.slice ad x.sub.length cap)) (fun W' hW' => ⟨hW'.cell (by go_simp),hW'.cell (by go_simp),hW'.cell (by go_simp),hW'.cell (by go_simp),hW'.cell (by go_simp),hW'.cell (by go_simp),hW'.cell (by go_simp),hW'.cell (by go_simp),hW'.cell (by go_simp),hW'.cell (by go_simp)⟩) (by kernel_rfl) (by kernel_rfl) ?_
   intro HCW
   repeat (first | go_big_quiet_skip | (go_big_quiet_want;apply Exists.intro;refine ⟨fun W hW => ?_,?_⟩;(focus (obtain ⟨q1,q2,q3,q4,q5,q6,q7,q8,q10,q11⟩:=HCW W hW;go_simp;first | done | rfl | with_reducible exact ext_callsE HZ.out W hW));(simp only [Act.put,List.setIfInBounds_toArray,List.set_cons_zero,List.set_cons_succ]);go_big_quiet_on))
   refine wpQuiet_nil ?_
   intro W hW
   obtain ⟨q1,q2,q3,q4,q5,q6,q7,q8,q10,q11⟩:=HCW W hW
   have hW:=hW.below
   have hb3:=hb2.trans (hW.mono (by omega))
   have hbx:w.heap.size < W.heap.size:=by have:=hW.size;omega
   clear hb2 hW HCW HZ
   clear e1 e2 e3 e4 e5
   go_wp2
   go_loopw [3,4] (fun n i wr => ∃ (k S:Nat),k≤x.sub.length∧i = .int .i64 (k:Int)∧n = .int .i64 (S:Int)∧S≤1000000000000∧Hid (S≤T+200000 * Con.bulks (x.sub.take k))∧Below w.heap.size w wr∧wr.cell? ⟨w.heap.size,11,none⟩=some (.slice ad x.sub.length cap)) (fun _ i _ => x.sub.length - (intOf i).toNat)
   case atStart => exact ⟨0,T,Nat.zero_le _,rfl,rfl,by omega,Lib.hid (by omega),hb3,q11⟩
   case round =>
    clear hb3
    obtain ⟨k,S,hk,rfl,rfl,hS,HSz,hbel,q0⟩:=hrel
    have HS0:Hid (S≤200000 * x.bulk):=Lib.hid (by have:=HSz.out;have:=hTb.out;have:=Con.bulks_take x.sub k;omega)
    by_cases hlt:k < x.sub.length
    ·by_cases hli:(S:Int) < 100000
     ·obtain ⟨y,hy⟩:∃ y,x.sub[k]? = some y:=⟨_,List.getElem?_eq_getElem hlt⟩
      obtain ⟨b,off,es',dd',ss',rfl,⟨c0,c1,c2,c3,c4,c5,c6,c7,c8,c9,c10,c11⟩,hs'⟩:=(HS.out.frame hbel).cells hy
      have hym:=Con.mem_lt (List.mem_of_getElem? hy)
      have hblk:b < wr.heap.size:=World.block_lt_of_cell? wr _ c0
      have hbx:w.heap.size < wr.heap.size:=World.block_lt_of_cell? wr _ q0
      have hzw:=hbel.size
      have HSn:=Lib.hid (Con.bulks_snoc hy)
      have HSq:=Lib.hid (Con.bulks_take x.sub (k+1))
      have hk1:(0:Int)≤(k:Int):=by omega
      have hk2:(k:Int) < (x.sub.length:Int):=by omega
      have HC:=Lib.hid (HI.out y es' dd' ss' wr (by omega) (by omega) hs')
      unfold Con.val at HC
      clear hy hym hs'
      go_wp2_with fail
      refine HC.out.mono ?_
      rintro e w1 ⟨⟨m,rfl,hm⟩,hb1⟩
      have q1:w1.cell? ⟨w.heap.size,11,none⟩=some (.slice (some ⟨b,off,none⟩) x.sub.length cap):=by rw [hb1.cell (p:=⟨w.heap.size,11,none⟩) hbx];exact q0
      have hb2:=hbel.trans (hb1.mono hzw)
      clear hb1 hbel q0 HC c0 c1 c2 c3 c4 c5 c6 c7 c8 c9 c10 c11
      have HSm:Hid (S+m≤T+200000 * Con.bulks (x.sub.take (k+1))):=Lib.hid (by have:=HSn.out;have:=HSz.out;omega)
      have hSm:S+m≤1000000000000:=by have:=hsq.out;have:=HSm.out;have:=HSq.out;have:=hTb.out;omega
      have e3:IntKind.i64.wrap ((S:Int)+(m:Int))=((S+m:Nat):Int):=by rw [IntWalk.i64_in _ (by omega)];omega
      go_wp2
      go_roundw
      case rel => exact ⟨k+1,S+m,by omega,by go_num,rfl,hSm,HSm,hb2,q1⟩
      case measure => simp [intOf];omega
     ·go_wp2
      go_ret
      exact .mk S rfl HS0.out hbel
    ·go_wp2
     go_ret
     exact .mk S rfl HS0.out hbel
set_option maxHeartbeats 1000000 in
set_option maxRecDepth 100000 in
theorem cgreat_any (x:Con) (es dd ss:Value) (w:World) (hB:x.bulk≤2000000) (hs:RdN w x es dd ss) :
  Calls Tryz.prog 42 #[x.val es dd ss] w (BoolPost w):=by
 have HS:=Lib.hid hs
 obtain ⟨ad,cap,rfl⟩:=hs.2.2.1.len
 obtain ⟨ad1,cap1,rfl⟩:=hs.1.len
 obtain ⟨ad2,cap2,rfl⟩:=hs.2.1.len
 have hb0:=below_a1 w (.cells #[.int .u8 x.k,.string x.fr,.string x.rc,.string x.nm,.int .u8 x.ex.k,.string x.ex.ra,.string x.ex.nm,.int .i64 x.ex.d,.slice ad1 x.ex.sub.length cap1,.int .i64 x.d,.slice ad2 x.ds.length cap2,.slice ad x.sub.length cap] 51)
 have HC:=Lib.hid (ccount_any x.bulk x _ _ _ 600 100 _ (Nat.le_refl _) hB (HS.out.frame hb0) (by omega) (by omega) (by omega) (by omega))
 clear hs
 unfold Con.val at HC ⊢
 go_enter Tryz.func42,Tryz.ntmps42
 go_wp2_with fail
 refine HC.out.mono ?_
 rintro e w1 ⟨⟨n,g,rfl,hn⟩,hb1⟩
 have hz1:=hb1.size
 simp only [World.size_alloc] at hz1
 have c:∀ j u,(w.alloc (.cells #[.int .u8 x.k,.string x.fr,.string x.rc,.string x.nm,.int .u8 x.ex.k,.string x.ex.ra,.string x.ex.nm,.int .i64 x.ex.d,.slice ad1 x.ex.sub.length cap1,.int .i64 x.d,.slice ad2 x.ds.length cap2,.slice ad x.sub.length cap] 51)).cell? ⟨w.heap.size,j,none⟩=some u→w1.cell? ⟨w.heap.size,j,none⟩=some u:=fun j u h => by
  rw [hb1.cell (p:=⟨w.heap.size,j,none⟩) (by simp)];exact h
 have c0:=c 0 (.int .u8 x.k) (by go_simp)
 have c1:=c 1 (.string x.fr) (by go_simp)
 have c2:=c 2 (.string x.rc) (by go_simp)
 have c3:=c 3 (.string x.nm) (by go_simp)
 have c4:=c 4 (.int .u8 x.ex.k) (by go_simp)
 have c5:=c 5 (.string x.ex.ra) (by go_simp)
 have c6:=c 6 (.string x.ex.nm) (by go_simp)
 have c7:=c 7 (.int .i64 x.ex.d) (by go_simp)
 have c8:=c 8 (.slice ad1 x.ex.sub.length cap1) (by go_simp)
 have c9:=c 9 (.int .i64 x.d) (by go_simp)
 have c10:=c 10 (.slice ad2 x.ds.length cap2) (by go_simp)
 have c11:=c 11 (.slice ad x.sub.length cap) (by go_simp)
 have hb2:=hb0.trans (hb1.mono (by simp))
 have HB:=Lib.hid (cweight_any x.bulk x _ _ _ w1 (Nat.le_refl _) hB (HS.out.frame hb2))
 unfold Con.val at HB
 clear c hb0 hb1 HC
 cases g with
 | false =>
  go_wp2
  go_ret
  exact .mk _ rfl hb2
 | true =>
  by_cases h6:(600:Int) < (n:Int)
  ·go_wp2
   go_ret
   exact .mk _ rfl hb2
  ·go_wp2_with fail
   refine HB.out.mono ?_
   rintro e w2 ⟨⟨m,rfl,hm⟩,hb3⟩
   have hb4:=hb2.trans (hb3.mono (by omega))
   clear hb2 hb3 HB
   go_wp2
   go_ret
   exact .mk _ rfl hb4
end Go.Proofs.YthdeijdimfjceaaGreatDoor

namespace Go.Proofs.YthdeijdimfjceaaGreatDoor
open Go.RowKit
set_option maxHeartbeats 2000000 in
set_option maxRecDepth 100000 in
theorem work_any:∀ (N:Nat) (x:Con) (es dd ss:Value) (w:World),x.bulk≤N→x.bulk≤2000000→RdN w x es dd ss →
  Calls Tryz.prog 76 #[x.val es dd ss] w fun e w' => (∃ m:Int,e = .returned (.int .i64 m))∧Below w.heap.size w w':=by
 intro N
 induction N with
 | zero =>
  intro x es dd ss w h0
  rw [Con.bulk_eq] at h0
  omega
 | succ N ih =>
  intro x es dd ss w hN hB hs
  obtain ⟨ad,cap,rfl⟩:=hs.2.2.1.len
  obtain ⟨ad1,cap1,rfl⟩:=hs.1.len
  obtain ⟨ad2,cap2,rfl⟩:=hs.2.1.len
  have HS:=Lib.hid hs.2.2.1
  have HE:=Lib.hid hs.1
  have HI:=Lib.hid ih
  have hsq1:=x.bulk_eq
  have hlen:=Con.bulks_len x.sub
  have hn:x.sub.length≤2000000:=by omega
  have hexb:x.ex.bulk≤2000000:=by omega
  obtain ⟨W1,hW1,hb2,hz1,bx⟩:∃ W,w.alloc (.cells #[.int .u8 x.k,.string x.fr,.string x.rc,.string x.nm,.int .u8 x.ex.k,.string x.ex.ra,.string x.ex.nm,.int .i64 x.ex.d,.slice ad1 x.ex.sub.length cap1,.int .i64 x.d,.slice ad2 x.ds.length cap2,.slice ad x.sub.length cap] 51)=W∧Below w.heap.size w W∧w.heap.size < W.heap.size∧BoxN W w.heap.size 51 (x.cells (.slice ad1 x.ex.sub.length cap1) (.slice ad2 x.ds.length cap2) (.slice ad x.sub.length cap)) :=
   ⟨_,rfl,below_a1 _ _,by simp,BoxN.new w _ _⟩
  have HZ:=Lib.hid fun W (hW:Below W1.heap.size W1 W) => rsize_any x.ex.bulk x.ex _ W (Nat.le_refl _) hexb (HE.out.frame (hb2.trans (hW.mono (by omega))))
  have HBx:Hid (∀ W,Below W1.heap.size W1 W→W.cell? ⟨w.heap.size,4,none⟩=some (.int .u8 x.ex.k)∧W.cell? ⟨w.heap.size,5,none⟩=some (.string x.ex.ra)∧W.cell? ⟨w.heap.size,6,none⟩=some (.string x.ex.nm)∧W.cell? ⟨w.heap.size,7,none⟩=some (.int .i64 x.ex.d)∧W.cell? ⟨w.heap.size,8,none⟩=some (.slice ad1 x.ex.sub.length cap1)∧W.cell? ⟨w.heap.size,10,none⟩=some (.slice ad2 x.ds.length cap2)∧W.cell? ⟨w.heap.size,11,none⟩=some (.slice ad x.sub.length cap)):=Lib.hid fun W hW => by
   have h:=bx.below hW bx.lt
   exact ⟨h.cell (j:=4) rfl,h.cell (j:=5) rfl,h.cell (j:=6) rfl,h.cell (j:=7) rfl,h.cell (j:=8) rfl,h.cell (j:=10) rfl,h.cell (j:=11) rfl⟩
  obtain ⟨c4,c5,c6,c7,c8,c10,c11⟩:=HBx.out W1 (Below.refl _ _)
  have hd:Below W1.heap.size W1 W1.drew:=(Below.refl _ _).drew
  clear hs ih hsq1 bx
  unfold Con.val
  go_enter Tryz.func76,Tryz.ntmps76
  go_upto_region 1 with (fail)
  clear hW1
  go_upto_region 2 with (fail)
  go_cut [3] from 5 to 13 (fun v wc => (∃ m:Int,v = .int .i64 m)∧Below W1.heap.size W1 wc)
  case first =>
   by_cases hm1:(1:Int) < (x.ds.length:Int)
   all_goals (try have hm2:(x.ds.length:Int)≤1:=Int.not_lt.1 hm1)
   all_goals
    go_wp2_with fail
    go_region_held3 (fun W => W.cell? ⟨w.heap.size,4,none⟩=some (.int .u8 x.ex.k)∧W.cell? ⟨w.heap.size,5,none⟩=some (.string x.ex.ra)∧W.cell? ⟨w.heap.size,6,none⟩=some (.string x.ex.nm)∧W.cell? ⟨w.heap.size,7,none⟩=some (.int .i64 x.ex.d)∧W.cell? ⟨w.heap.size,8,none⟩=some (.slice ad1 x.ex.sub.length cap1)∧W.cell? ⟨w.heap.size,10,none⟩=some (.slice ad2 x.ds.length cap2))
     (first | assumption | exact ⟨by assumption,by assumption,by assumption,by assumption,by assumption,by assumption⟩ | go_keep)
     (first | (go_at_call 110;refine (HZ.out _ hd).mono ?_;rintro e w5 ⟨rfl,hb5⟩;have hb6:=hd.trans hb5;obtain ⟨x4,x5,x6,x7,x8,x10,_⟩:=HBx.out _ hb6))
    all_goals
     go_wp2
     go_meet
     exact ⟨⟨_,rfl⟩,hb6⟩
  case rest =>
   obtain ⟨⟨m0,rfl⟩,hbc⟩:=hcut
   have q11:wc.cell? ⟨w.heap.size,11,none⟩=some (.slice ad x.sub.length cap):=(HBx.out wc hbc).2.2.2.2.2.2
   have hb3:=hb2.trans (hbc.mono hb2.size)
   clear hbc HBx HZ hd c4 c5 c6 c7 c8 c10 c11 hb2 HE
   go_wp2_with fail
   go_loopw [3,4] (fun n i wr => ∃ (k:Nat) (S:Int),k≤x.sub.length∧i = .int .i64 (k:Int)∧n = .int .i64 S∧Below w.heap.size w wr∧wr.cell? ⟨w.heap.size,11,none⟩=some (.slice ad x.sub.length cap)) (fun _ i _ => x.sub.length - (intOf i).toNat)
   case atStart => exact ⟨0,m0,Nat.zero_le _,rfl,rfl,hb3,q11⟩
   case round =>
    clear hb3
    obtain ⟨k,S,hk,rfl,rfl,hbel,q0⟩:=hrel
    by_cases hlt:k < x.sub.length
    ·by_cases hli:S < 100000
     ·obtain ⟨y,hy⟩:∃ y,x.sub[k]? = some y:=⟨_,List.getElem?_eq_getElem hlt⟩
      obtain ⟨b,off,es',dd',ss',rfl,⟨c0,c1,c2,c3,c4,c5,c6,c7,c8,c9,c10,c11⟩,hs'⟩:=(HS.out.frame hbel).cells hy
      have hym:=Con.mem_lt (List.mem_of_getElem? hy)
      have hblk:b < wr.heap.size:=World.block_lt_of_cell? wr _ c0
      have hbx:w.heap.size < wr.heap.size:=World.block_lt_of_cell? wr _ q0
      have hzw:=hbel.size
      have hk1:(0:Int)≤(k:Int):=by omega
      have hk2:(k:Int) < (x.sub.length:Int):=by omega
      have HC:=Lib.hid (HI.out y es' dd' ss' wr (by omega) (by omega) hs')
      unfold Con.val at HC
      clear hy hym hs'
      go_wp2_with fail
      refine HC.out.mono ?_
      rintro e w1 ⟨⟨m,rfl⟩,hb1⟩
      have q1:w1.cell? ⟨w.heap.size,11,none⟩=some (.slice (some ⟨b,off,none⟩) x.sub.length cap):=by rw [hb1.cell (p:=⟨w.heap.size,11,none⟩) hbx];exact q0
      have hb2:=hbel.trans (hb1.mono hzw)
      clear hb1 hbel q0 HC c0 c1 c2 c3 c4 c5 c6 c7 c8 c9 c10 c11
      go_wp2
      go_roundw
      case rel => exact ⟨k+1,_,by omega,by go_num,rfl,hb2,q1⟩
      case measure => simp [intOf];omega
     ·go_wp2
      go_ret
      exact ⟨⟨_,rfl⟩,hbel⟩
    ·go_wp2
     go_ret
     exact ⟨⟨_,rfl⟩,hbel⟩
set_option maxHeartbeats 1000000 in
set_option maxRecDepth 100000 in
theorem heavy_any (x:Con) (es dd ss:Value) (E:EvD) (w:World) (hB:x.bulk≤2000000) (hs:RdN w x es dd ss) (hE:E.Rd w) :
  Calls Tryz.prog 43 #[x.val es dd ss,E.val] w (BoolPost w):=by
 obtain ⟨ad,cap,rfl⟩:=hs.2.2.1.len
 obtain ⟨ad1,cap1,rfl⟩:=hs.1.len
 obtain ⟨ad2,cap2,rfl⟩:=hs.2.1.len
 obtain ⟨W0,hW0,hb0,hz0,bx⟩:=bx2_world w x (.slice ad1 x.ex.sub.length cap1) (.slice ad2 x.ds.length cap2) (.slice ad x.sub.length cap) E
 have HC:=Lib.hid (work_any x.bulk x _ _ _ W0 (Nat.le_refl _) hB (hs.frame hb0))
 unfold Con.val at HC
 have c0:W0.cell? ⟨w.heap.size,0,none⟩=some (.int .u8 x.k):=bx.c.cell (j:=0) rfl
 have c1:W0.cell? ⟨w.heap.size,1,none⟩=some (.string x.fr):=bx.c.cell (j:=1) rfl
 have c2:W0.cell? ⟨w.heap.size,2,none⟩=some (.string x.rc):=bx.c.cell (j:=2) rfl
 have c3:W0.cell? ⟨w.heap.size,3,none⟩=some (.string x.nm):=bx.c.cell (j:=3) rfl
 have c4:W0.cell? ⟨w.heap.size,4,none⟩=some (.int .u8 x.ex.k):=bx.c.cell (j:=4) rfl
 have c5:W0.cell? ⟨w.heap.size,5,none⟩=some (.string x.ex.ra):=bx.c.cell (j:=5) rfl
 have c6:W0.cell? ⟨w.heap.size,6,none⟩=some (.string x.ex.nm):=bx.c.cell (j:=6) rfl
 have c7:W0.cell? ⟨w.heap.size,7,none⟩=some (.int .i64 x.ex.d):=bx.c.cell (j:=7) rfl
 have c8:W0.cell? ⟨w.heap.size,8,none⟩=some (.slice ad1 x.ex.sub.length cap1):=bx.c.cell (j:=8) rfl
 have c9:W0.cell? ⟨w.heap.size,9,none⟩=some (.int .i64 x.d):=bx.c.cell (j:=9) rfl
 have c10:W0.cell? ⟨w.heap.size,10,none⟩=some (.slice ad2 x.ds.length cap2):=bx.c.cell (j:=10) rfl
 have c11:W0.cell? ⟨w.heap.size,11,none⟩=some (.slice ad x.sub.length cap):=bx.c.cell (j:=11) rfl
 have HB:=Lib.hid bx
 have h1:=hE.nf
 have h2:=hE.nc
 have h3:IntKind.i64.wrap (10+(E.F.length:Int))=10+(E.F.length:Int):=IntWalk.i64_in _ (by omega)
 have h4:IntKind.i64.wrap (10+(E.F.length:Int)+(E.C.length:Int))=10+(E.F.length:Int)+(E.C.length:Int):=IntWalk.i64_in _ (by omega)
 have Hb0:=Lib.hid hb0
 clear hs bx hE hb0
 show Calls _ _ #[.agg #[.int .u8 x.k,.string x.fr,.string x.rc,.string x.nm,.int .u8 x.ex.k,.string x.ex.ra,.string x.ex.nm,.int .i64 x.ex.d,.slice ad1 x.ex.sub.length cap1,.int .i64 x.d,.slice ad2 x.ds.length cap2,.slice ad x.sub.length cap],.agg #[.slice E.af E.F.length E.cf,.slice E.ac E.C.length E.cc]] _ _
 go_enter Tryz.func43,Tryz.ntmps43
 go_upto_region 2 with (fail)
 go_wp2_with (go_at_call 76;refine HC.out.mono ?_;rintro e w1 ⟨⟨m,rfl⟩,hb1⟩;have hB1:=HB.out.below hb1;have v0:w1.cell? ⟨w.heap.size+1,0,none⟩=some (.slice E.af E.F.length E.cf):=hB1.v.cell (j:=0) rfl;have v1:w1.cell? ⟨w.heap.size+1,1,none⟩=some (.slice E.ac E.C.length E.cc):=hB1.v.cell (j:=1) rfl)
 all_goals
  go_ret
  exact .mk _ rfl (Hb0.out.trans (hb1.mono Hb0.out.size))
end Go.Proofs.YthdeijdimfjceaaGreatDoor

namespace Go.Proofs.YthdeijdimfjceaaGreatDoor
open Go.RowKit
theorem rv_sub {a b:ByteArray} (h:sumE a b (subZ a b)=0):rv (mkB (sumS a b (subZ a b)))=rv a - rv b:=by
 obtain ⟨e,ra,rb⟩:=rv_sum h
 rw [e,rv,rv,Rat.sub_eq_add_neg,Rat.neg_divInt,Rat.divInt_add_divInt _ _ (by have:=ival_den ra;omega) (by have:=ival_den rb;omega),subZ,pN,pN,pD,pD,if_pos ra,if_pos rb,if_pos ra,if_pos rb,Int.neg_mul,Int.sub_eq_add_neg]
def rsum:List Rat→Rat
 | [] => 0
 | x :: l => x+rsum l
theorem rsum_snoc (l:List Rat) (x:Rat):rsum (l ++ [x])=rsum l+x:=by
 induction l with
 | nil => simp [rsum];grind
 | cons y l ih => rw [List.cons_append,rsum,rsum,ih];grind
theorem net_val (p c:ByteArray) (l:List Fl):∀ k,k≤l.length→(netAcc p c l k).2=0→ratErr (netAcc p c l k).1=0∧rv (netAcc p c l k).1=rsum ((l.take k).map (part p c))
 | 0,_,_ => ⟨by show ratErr ⟨#[48]⟩=0;decide,rv_zero⟩
 | k+1,hk,h => by
  have hg:l[k]? = some l[k]:=List.getElem?_eq_getElem (by omega)
  rw [take_snoc_get hg,List.map_append,List.map_cons,List.map_nil,rsum_snoc]
  rw [netAcc_succ p c hg] at h ⊢
  generalize l[k]=f at *
  unfold netStep at h ⊢
  by_cases h0:(netAcc p c l k).2 ≠ 0
  ·rw [if_pos h0] at h;exact absurd h h0
  ·obtain ⟨i1,i2⟩:=net_val p c l k (by omega) (Decidable.not_not.1 h0)
   rw [if_neg h0] at h ⊢
   rw [part]
   by_cases h1:f.cy ≠ c
   ·rw [if_pos h1] at h ⊢;rw [if_pos h1];exact ⟨i1,by rw [i2,Rat.add_zero]⟩
   ·rw [if_neg h1] at h ⊢;rw [if_neg h1]
    by_cases h2:f.rc=p
    ·rw [if_pos h2] at h ⊢;rw [if_pos h2]
     exact ⟨sumS_rat h,by rw [← i2];exact rv_add h⟩
    ·rw [if_neg h2] at h ⊢;rw [if_neg h2]
     by_cases h3:f.fr=p
     ·rw [if_pos h3] at h ⊢;rw [if_pos h3]
      exact ⟨sumS_rat h,by rw [← i2,← Rat.sub_eq_add_neg];exact rv_sub h⟩
     ·rw [if_neg h3] at h ⊢;rw [if_neg h3];exact ⟨i1,by rw [i2,Rat.add_zero]⟩
end Go.Proofs.YthdeijdimfjceaaGreatDoor

namespace Go.Proofs.YthdeijdimfjceaaGreatDoor
open Go.RowKit
theorem netAcc_two (p c:ByteArray) (l:List Fl) (hl:∀ f ∈ l,ratErr f.am=0):∀ k,k≤l.length→((netAcc p c l k).2=0∧ratErr (netAcc p c l k).1=0)∨(netAcc p c l k).2=14
 | 0,_ => .inl ⟨rfl,by show ratErr ⟨#[48]⟩=0;decide⟩
 | k+1,hk => by
  have hg:l[k]? = some l[k]:=List.getElem?_eq_getElem (by omega)
  have ha:=hl l[k] (List.getElem_mem _)
  rw [netAcc_succ p c hg]
  unfold netStep
  rcases netAcc_two p c l hl k (by omega) with ⟨h0,hr⟩ | h0
  ·have key:∀ z,(sumE (netAcc p c l k).1 l[k].am z=0∧ratErr (mkB (sumS (netAcc p c l k).1 l[k].am z))=0)∨sumE (netAcc p c l k).1 l[k].am z=14:=fun z => by
    by_cases h:sumE (netAcc p c l k).1 l[k].am z=0
    ·exact .inl ⟨h,sumS_rat h⟩
    ·refine .inr ?_
     unfold sumE at h ⊢
     rw [if_neg (fun k => k (by rw [bE,if_pos hr];exact ha))] at h ⊢
     split
     ·rfl
     ·next h2 => rw [if_neg h2] at h;exact absurd rfl h
   rw [if_neg (fun k => k h0)]
   split
   ·exact .inl ⟨h0,hr⟩
   ·split
    ·exact key _
    ·split
     ·exact key _
     ·exact .inl ⟨h0,hr⟩
  ·rw [if_pos (by rw [h0];decide)];exact .inr h0
theorem net_two {p c:ByteArray} {l:List Fl} (h:flowsErr l=0) (hp:isNm (bl p)=true) (hc:isNm (bl c)=true):netE p c l=(netAcc p c l l.length).2∧netS p c l=(netAcc p c l l.length).1∧(((netAcc p c l l.length).2=0∧ratErr (netAcc p c l l.length).1=0)∨(netAcc p c l l.length).2=14):=by
 obtain ⟨e1,e2⟩:=netE_ok (p:=p) (c:=c) h (by rw [hp,hc];rfl)
 exact ⟨e1,e2,netAcc_two p c l (fun f hm => by
  obtain ⟨j,hj,e⟩:=List.mem_iff_getElem.1 hm
  exact ((okP_of_err h) j f (by rw [List.getElem?_eq_getElem hj,e])).1.2.2.2.2.1) l.length (Nat.le_refl _)⟩
end Go.Proofs.YthdeijdimfjceaaGreatDoor

namespace Go.Proofs.YthdeijdimfjceaaGreatDoor
open Go.RowKit
theorem val_ok {c:Con} {p m:ByteArray} {day:Int} {F:List Fx} {C:List Ch} (h:(conR c p m day F C).2=0) :
  (befR c day 100000 F C).1=0∧envErr F C=0∧isNm (bl p)=true∧isNm (bl m)=true∧ratErr (conR c p m day F C).1=0∧rv (conR c p m day F C).1=rsum ((befR c day 100000 F C).2.map (part p m)):=by
 unfold conR at h ⊢
 by_cases h0:(befR c day 100000 F C).1=0
 case neg => rw [if_pos h0] at h;exact absurd h h0
 rw [if_neg (fun k => k h0)] at h ⊢
 obtain ⟨_,hf,_⟩:=flows_ok h0
 have hn:isNm (bl p)=true∧isNm (bl m)=true:=by
  cases h1:isNm (bl p)
  ·have:=(netE_arg (p:=p) (c:=m) hf (by rw [h1];rfl)).1
   change netE p m _=0 at h
   rw [this] at h;cases h
  ·cases h2:isNm (bl m)
   ·have:=(netE_arg (p:=p) (c:=m) hf (by rw [h1,h2];rfl)).1
    change netE p m _=0 at h
    rw [this] at h;cases h
   ·exact ⟨rfl,rfl⟩
 obtain ⟨e1,e2,_⟩:=net_two hf hn.1 hn.2
 change netE p m _=0 at h
 rw [e1] at h
 have hv:=net_val p m _ _ (Nat.le_refl _) h
 rw [List.take_of_length_le (Nat.le_refl _)] at hv
 refine ⟨h0,(befR_fin h0).2.1,hn.1,hn.2,?_,?_⟩
 ·show ratErr (netS p m _)=0;rw [e2];exact hv.1
 ·show rv (netS p m _)=_;rw [e2];exact hv.2
theorem los_ok {l:List (List Sh)} {c:Con} {p m:ByteArray} {day:Int} {F:List Fx} {C:List Ch} (h:losE l c p m day F C=0) :
  l.length≤100∧(conR c p m day F C).2=0∧(∀ s ∈ l,(lossR c p m day F C (conR c p m day F C).1 s).2=0)∧losL l c p m day F C=l.map fun s => (lossR c p m day F C (conR c p m day F C).1 s).1:=by
 have h':=h
 unfold losE at h
 by_cases h0:100 < l.length
 ·rw [if_pos h0] at h;cases h
 rw [if_neg h0] at h
 by_cases h1:(conR c p m day F C).2=0
 case neg => rw [if_pos h1] at h;exact absurd h h1
 rw [if_neg (fun k => k h1)] at h
 exact ⟨by omega,h1,fun s hs => errs_zero h _ (List.mem_map.2 ⟨s,hs,rfl⟩),by unfold losL;rw [if_pos h']⟩
theorem sub_self {a:ByteArray} (h:sumE a a (subZ a a)=0):mkB (sumS a a (subZ a a))=⟨#[48]⟩:=by
 have h1:=rv_sub h
 rw [Rat.sub_self] at h1
 exact bl_inj (rv_nil (sumS_rat h) h1)
theorem loss_same {c:Con} {p m:ByteArray} {day:Int} {F:List Fx} {C:List Ch} {s:List Sh} (h0:(conR c p m day F C).2=0) (hs:applyE s F C=0) (hv:conR c p m day (applyF s F C) (applyC s F C)=conR c p m day F C) :
  (lossR c p m day F C (conR c p m day F C).1 s).2=14∨((lossR c p m day F C (conR c p m day F C).1 s).2=0∧(lossR c p m day F C (conR c p m day F C).1 s).1=⟨#[48]⟩):=by
 unfold lossR
 rw [if_neg (fun k => k hs),hv,if_neg (fun k => k h0)]
 have hr:=(val_ok h0).2.2.2.2.1
 rcases add_two (subZ (conR c p m day F C).1 (conR c p m day F C).1) hr hr with h | h
 ·exact .inr ⟨h,sub_self h⟩
 ·exact .inl h
end Go.Proofs.YthdeijdimfjceaaGreatDoor
