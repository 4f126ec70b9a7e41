/- A part. -/
import Derived.Test.YtcnpaciljmekcaaGreatDoorA23
import Derived.Deep.Slices
import Derived.Deep.Fields
import Derived.Lib.SmallJoins
import Derived.Carry
import Derived.Maps.Keyed
import Derived.Laws.IdiomMaps
import Derived.LaidMore
import Derived.MakeChecks
import Derived.OpenShut
import Derived.WalkArith
import Derived.ProofKit
import Derived.Deep.DeepHandedRow
import Derived.Deep.DeepWitnessRowRef
namespace Go.Proofs.YtcnpaciljmekcaaGreatDoor
open Go.RowKit Go.ChangeShapes Go.WideShapes Go.Deep
theorem bulk_one {H:Type} (d:DataW H):1≤Rows.uptoBulk d:=by
 cases d with
 | lit l => cases l <;> simp [Rows.uptoBulk]
 | _ => simp [Rows.uptoBulk]
theorem bulk_part {H:Type} {d:DataW H} {l:List (DataW H)} (h:d ∈ l):Rows.uptoBulk d≤Rows.uptoBulkAll l:=by
 induction l with
 | nil => cases h
 | cons x r ih =>
  simp only [Rows.uptoBulkAll]
  rcases List.mem_cons.1 h with e | e
  ·subst e;omega
  ·have:=ih e;omega
theorem bulk_length {H:Type} (l:List (DataW H)):l.length≤Rows.uptoBulkAll l:=by
 induction l with
 | nil => simp [Rows.uptoBulkAll]
 | cons x r ih => have:=bulk_one x;simp only [Rows.uptoBulkAll,List.length_cons];omega
theorem bulk_agg {H:Type} {d:DataW H} {l:List (DataW H)} (h:d ∈ l):Rows.uptoBulk d≤Rows.uptoBulk (.agg l):=by
 have:=bulk_part h
 simp only [Rows.uptoBulk];omega
theorem bulk_text {H:Type} (s:ByteArray):s.size≤Rows.uptoBulk (DataW.lit (H:=H) (.string s.data.toList)):=by
 simp only [Rows.uptoBulk,Array.length_toList]
 show s.data.size≤_
 omega
theorem list_of {α:Type} {Q:Nat→α→Prop}:∀ n:Nat,(∀ i,i < n→∃ x,Q i x)→∃ l:List α,l.length=n∧∀ i x,l[i]? = some x→Q i x
 | 0,_ => ⟨[],rfl,by simp⟩
 | n+1,h => by
  obtain ⟨l,hl,hq⟩:=list_of n (fun i hi => h i (by omega))
  obtain ⟨x,hx⟩:=h n (by omega)
  refine ⟨l ++ [x],by simp [hl],fun i y hy => ?_⟩
  by_cases hi:i < l.length
  ·rw [List.getElem?_append_left hi] at hy
   exact hq i y hy
  ·have hi2:=(List.getElem?_eq_some_iff.1 hy).1
   simp at hi2
   obtain rfl:i=l.length:=by omega
   simp at hy
   rw [hl,← hy];exact hx
theorem flat_inv {α:Type} (enc:α→List Value) (m:Nat) (hm:∀ x,(enc x).length=m) (hm0:0 < m):∀ (l:List α) (j:Nat) (u:Value),(l.flatMap enc)[j]? = some u→∃ i k x,j=i * m+k∧k < m∧l[i]? = some x∧(enc x)[k]? = some u
 | [],j,u,h => by simp at h
 | y :: l,j,u,h => by
  rw [List.flatMap_cons] at h
  by_cases hj:j < m
  ·rw [List.getElem?_append_left (by rw [hm];exact hj)] at h
   exact ⟨0,j,y,by simp,hj,rfl,h⟩
  ·rw [List.getElem?_append_right (by rw [hm];omega),hm] at h
   obtain ⟨i,k,x,h1,h2,h3,h4⟩:=flat_inv enc m hm hm0 l (j - m) u h
   exact ⟨i+1,k,x,by rw [Nat.add_mul,Nat.one_mul];omega,h2,by simpa using h3,h4⟩
section
variable {H:Type} {enc:TypeId × Value→H} {P:Program} {w:World} {sp:Nat→Bool} {held:Bool}
theorem open_list {α:Type} (en:α→List Value) (m:Nat) (hm:∀ x,(en x).length=m) (hm0:0 < m) (good:α→DataW H→Prop) {t e:TypeId} {fuel:Nat} {v:Value} {y:DataW H × List MemPlace}
  (ht:P.underlying t=some (.slice e)) (hc:P.cellsOf e=m)
  (dec:∀ (n:Nat) (cs:List Value) (z:DataW H × List MemPlace),cs.length=m→DataW.trod enc P w 0 sp held n e cs=some z→∃ x,cs=en x∧good x z.1)
  (h:DataW.trod enc P w 0 sp held fuel t [v]=some y) :
  ∃ (ad:Option Addr) (cap:Nat) (l:List α),v = .slice ad l.length cap∧(ad=none→cap=0)∧Sl w (.slice ad l.length cap) m l.length (l.flatMap en) ∧
   l.length≤Rows.uptoBulk y.1∧∀ x ∈ l,∃ d,good x d∧Rows.uptoBulk d≤Rows.uptoBulk y.1:=by
 rcases open_slice ht h with ⟨h0,hy⟩ | ⟨a,len,cap,mm,n,D,Pl,hcs,hb,hl,hmx,hmm,hx,hi⟩
 ·simp at h0
  exact ⟨none,0,[],h0,fun _ => rfl,Sl.empty w none 0 m,Nat.zero_le _,by simp⟩
 ·have hlm:len≤mm:=by rw [hmm];split <;> omega
  obtain ⟨l,hll,hq⟩:=list_of (Q:=fun i x => w.cells? 0 (a.add (i * m)) m=some (en x)∧good x (D i)) len (fun i hil => by
   obtain ⟨cs',h1,h2⟩:=hi i (by omega)
   rw [hc] at h1
   obtain ⟨x,hx,hg⟩:=dec n cs' _ (World.cells?_some h1).2.1 h2
   exact ⟨x,by rw [← hx];exact h1,hg⟩)
  have hspot:0 < len→a.spot=none:=fun h0 => by
   obtain ⟨x,hx⟩:∃ x,l[0]? = some x:=⟨_,List.getElem?_eq_getElem (by omega)⟩
   have h1:=(World.cells?_some (hq 0 x hx).1).2.2 0 hm0
   rw [Nat.zero_mul] at h1
   have h2:w.cell? a=(en x)[0]?:=h1
   rw [List.getElem?_eq_getElem (by rw [hm];exact hm0)] at h2
   simp only [World.cell?] at h2
   cases hsp:a.spot with
   | none => rfl
   | some k => rw [hsp] at h2;simp at h2;split at h2 <;> simp at h2
  simp at hcs
  have hbulk:∀ i,i < len→Rows.uptoBulk (D i)≤Rows.uptoBulk y.1:=fun i hil => by
   have:=bulk_part (H:=H) (d:=D i) (l:=(List.range len).map D) (List.mem_map.2 ⟨i,by simpa using hil,rfl⟩)
   rw [hx]
   simp only [Rows.uptoBulk]
   omega
  refine ⟨some a,cap,l,by rw [hll];exact hcs,fun h => (by cases h),?_,?_,?_⟩
  ·refine ⟨some a,cap,rfl,by omega,flat_length en m hm l,?_⟩
   by_cases h0:l.length=0
   ·exact .inl h0
   ·right
    have hs:=hspot (by omega)
    obtain ⟨b,off,sp⟩:=a
    simp at hs
    subst hs
    refine ⟨b,off,rfl,fun j u hj => ?_⟩
    obtain ⟨i,k,x,rfl,hk,h3,h4⟩:=flat_inv en m hm hm0 l j u hj
    have h5:=(World.cells?_some (hq i x h3).1).2.2 k hk
    rw [h4] at h5
    rw [← h5]
    congr 1
    simp only [Addr.add]
    split <;> split <;> simp_all <;> omega
  ·have h1:=bulk_length ((List.range len).map D)
   rw [List.length_map,List.length_range] at h1
   rw [hx]
   simp only [Rows.uptoBulk]
   omega
  ·intro x hxl
   obtain ⟨i,hix⟩:=List.getElem?_of_mem hxl
   have hil:=(List.getElem?_eq_some_iff.1 hix).1
   exact ⟨D i,(hq i x hix).2,hbulk i (by omega)⟩
theorem arr2 {α:Type} {l:List α} (h:l.length=2):∃ a b,l=[a,b]:=by
 match l,h with
 | [a,b],_ => exact ⟨a,b,rfl⟩
theorem arr3 {α:Type} {l:List α} (h:l.length=3):∃ a b c,l=[a,b,c]:=by
 match l,h with
 | [a,b,c],_ => exact ⟨a,b,c,rfl⟩
theorem arr4 {α:Type} {l:List α} (h:l.length=4):∃ a b c d,l=[a,b,c,d]:=by
 match l,h with
 | [a,b,c,d],_ => exact ⟨a,b,c,d,rfl⟩
end
end Go.Proofs.YtcnpaciljmekcaaGreatDoor

namespace Go.Proofs.YtcnpaciljmekcaaGreatDoor
open Go.RowKit
theorem cells_string:Tryz.prog.cellsOf 9=1:=by kernel_rfl
theorem cells_int:Tryz.prog.cellsOf 3=1:=by kernel_rfl
theorem cells_bool:Tryz.prog.cellsOf 4=1:=by kernel_rfl
end Go.Proofs.YtcnpaciljmekcaaGreatDoor

namespace Go.Proofs.YtcnpaciljmekcaaGreatDoor
open Go.RowKit
theorem cells_rat:Tryz.prog.cellsOf 22=1:=by kernel_rfl
end Go.Proofs.YtcnpaciljmekcaaGreatDoor

namespace Go.Proofs.YtcnpaciljmekcaaGreatDoor
open Go.RowKit Go.ChangeShapes Go.WideShapes Go.Deep
theorem arr5 {α:Type} {l:List α} (h:l.length=5):∃ a b c d e,l=[a,b,c,d,e]:=by
 match l,h with
 | [a,b,c,d,e],_ => exact ⟨a,b,c,d,e,rfl⟩
theorem arr8 {α:Type} {l:List α} (h:l.length=8):∃ a b c d e f g i,l=[a,b,c,d,e,f,g,i]:=by
 match l,h with
 | [a,b,c,d,e,f,g,i],_ => exact ⟨a,b,c,d,e,f,g,i,rfl⟩
theorem arr12 {α:Type} {l:List α} (h:l.length=12):∃ a b c d e f g i j k m n,l=[a,b,c,d,e,f,g,i,j,k,m,n]:=by
 match l,h with
 | [a,b,c,d,e,f,g,i,j,k,m,n],_ => exact ⟨a,b,c,d,e,f,g,i,j,k,m,n,rfl⟩
theorem cells_u8:Tryz.prog.cellsOf 5=1:=by kernel_rfl
theorem cells_ex:Tryz.prog.cellsOf 25=5:=by kernel_rfl
theorem cells_con:Tryz.prog.cellsOf 29=12:=by kernel_rfl
theorem cells_exs:Tryz.prog.cellsOf 23=1:=by kernel_rfl
theorem cells_cons:Tryz.prog.cellsOf 27=1:=by kernel_rfl
theorem cells_ints:Tryz.prog.cellsOf 26=1:=by kernel_rfl
theorem u8_nat {k:Int} (h:(Lit.int .u8 k).wf=true):∃ n:Nat,k=(n:Int)∧n < 256:=by
 have h:(decide ((0:Int)≤k) && decide (k≤(255:Int)))=true:=h
 simp only [Bool.and_eq_true,decide_eq_true_eq] at h
 refine ⟨k.toNat,?_,?_⟩ <;> omega
section
variable {H:Type} {enc:TypeId × Value→H} {w:World} {sp:Nat→Bool} {held:Bool}
theorem open_row {t e:TypeId} {m:Nat} (hm:0 < m) {fuel:Nat} {v:Value} {y:DataW H × List MemPlace} (ht:Tryz.prog.underlying t=some (.slice e)) (hc:Tryz.prog.cellsOf e=m)
  (h:DataW.trod enc Tryz.prog w 0 sp held fuel t [v]=some y) :
  ∃ (ad:Option Addr) (cap:Nat) (D:List (DataW H)) (n:Nat),n+1≤fuel∧v = .slice ad D.length cap∧(D.length≤cap∧(ad=none→cap=0))∧Rows.uptoBulkAll D+1≤Rows.uptoBulk y.1 ∧
   ∀ i,i < D.length→∃ (a:Addr) (cs:List Value) (z:DataW H × List MemPlace),ad=some a∧a.spot=none∧cs.length=m∧(∀ k,k < m→w.cell? (a.add (i * m+k))=cs[k]?)∧DataW.trod enc Tryz.prog w 0 sp held n e cs=some z∧D[i]? = some z.1:=by
 rcases DataW.trod_slice ht h with ⟨h0,hy⟩ | ⟨a,len,cap,elems,rest,n,hf,hcs,hy,hb,hl,hmx,hlen,hel,_,_⟩
 ·simp at h0
  subst hy
  refine ⟨none,0,[],0,?_,h0,⟨Nat.le_refl _,fun _ => rfl⟩,by simp [Rows.uptoBulkAll,Rows.uptoBulk],fun i hi => absurd hi (Nat.not_lt_zero _)⟩
  cases fuel with
  | zero => simp [DataW.trod] at h
  | succ n => omega
 ·simp at hcs
  refine ⟨some a,cap,elems.map (·.1),n,by omega,by rw [List.length_map,hlen];exact hcs,⟨by rw [List.length_map,hlen];exact hl,fun h => by cases h⟩,?_,fun i hi => ?_⟩
  ·rw [hy];simp only [Rows.uptoBulk];omega
  ·rw [List.length_map,hlen] at hi
   have h1:=hel i hi
   rw [List.getElem?_eq_getElem (by omega)] at h1
   obtain ⟨cs,h2,h3⟩:=Option.bind_eq_some_iff.1 h1
   rw [hc] at h2
   obtain ⟨_,h4,h5⟩:=World.cells?_some h2
   have ha:∀ k,(a.add (i * m)).add k=a.add (i * m+k):=fun k => by
    simp only [Addr.add]
    split <;> split <;> simp_all <;> omega
   refine ⟨a,cs,_,rfl,?_,h4,fun k hk => ?_,h3,?_⟩
   ·have g1:=hel 0 (by omega)
    rw [List.getElem?_eq_getElem (by omega)] at g1
    obtain ⟨cs0,g2,_⟩:=Option.bind_eq_some_iff.1 g1
    rw [hc] at g2
    obtain ⟨_,g4,g5⟩:=World.cells?_some g2
    have g6:=g5 0 hm
    rw [List.getElem?_eq_getElem (by omega),Nat.zero_mul,show (a.add 0).add 0=a from rfl] at g6
    simp only [World.cell?] at g6
    cases hsp:a.spot with
    | none => rfl
    | some q => rw [hsp] at g6;simp at g6;split at g6 <;> simp at g6
   ·rw [← h5 k hk,ha]
   ·rw [List.getElem?_map,List.getElem?_eq_getElem (by omega)];rfl
theorem bulks_le {α:Type} (f:α→Nat) (g:List α→Nat) (g0:g []=0) (g1:∀ x l,g (x :: l)=f x+g l):∀ (l:List α) (D:List (DataW H)),l.length=D.length→(∀ (i:Nat) (x:α) (d:DataW H),l[i]? = some x→D[i]? = some d→f x≤Rows.uptoBulk d)→g l≤Rows.uptoBulkAll D
 | [],_,_,_ => by rw [g0];exact Nat.zero_le _
 | x :: l,[],h,_ => by simp at h
 | x :: l,d :: D,h,k => by
  rw [g1]
  simp only [Rows.uptoBulkAll]
  have h1:=k 0 x d rfl rfl
  have h2:=bulks_le f g g0 g1 l D (by simpa using h) fun i y e hy he => k (i+1) y e (by simpa using hy) (by simpa using he)
  omega
def IsEx (w:World) (cs:List Value) (d:DataW H):Prop:=∃ (x:Ex) (s:Value),cs=x.cells s∧x.k < 256∧RdE w x.sub s∧x.bulk≤Rows.uptoBulk d
theorem addr_spot {a:Addr} (h:a.spot=none) (k:Nat):a.add k=⟨a.block,a.off+k,none⟩:=by
 cases a;simp at h;subst h;simp [Addr.add]
theorem rdE_of {t:TypeId} {fuel:Nat} {v:Value} {y:DataW H × List MemPlace} (ht:Tryz.prog.underlying t=some (.slice 25))
  (ih:∀ n < fuel,∀ cs (z:DataW H × List MemPlace),cs.length=5→DataW.trod enc Tryz.prog w 0 sp held n 25 cs=some z→IsEx w cs z.1)
  (h:DataW.trod enc Tryz.prog w 0 sp held fuel t [v]=some y):∃ l,RdE w l v∧Ex.bulks l+1≤Rows.uptoBulk y.1:=by
 obtain ⟨ad,cap,D,n,hn,rfl,hcap,hb,hel⟩:=open_row (m:=5) (by decide) ht cells_ex h
 obtain ⟨l,hll,hq⟩:=list_of (α:=Ex × Value) (Q:=fun i p => p.1.k < 256∧RdE w p.1.sub p.2∧(∃ a,ad=some a∧a.spot=none∧∀ k,k < 5→w.cell? (a.add (i * 5+k))=(p.1.cells p.2)[k]?)∧∀ d,D[i]? = some d→p.1.bulk≤Rows.uptoBulk d) D.length fun i hi => by
  obtain ⟨a,cs,z,ha,hs,hlc,hcell,ht,hD⟩:=hel i hi
  obtain ⟨x,s,rfl,h8,hr,hbx⟩:=ih n (by omega) cs z hlc ht
  exact ⟨(x,s),h8,hr,⟨a,ha,hs,hcell⟩,fun d hd => by rw [hD] at hd;cases hd;exact hbx⟩
 have hlen:(l.map (·.1)).length=D.length:=by rw [List.length_map,hll]
 have get:∀ j x,(l.map (·.1))[j]? = some x→∃ s,l[j]? = some (x,s):=fun j x hx => by
  rw [List.getElem?_map,Option.map_eq_some_iff] at hx
  obtain ⟨p,hp,rfl⟩:=hx
  exact ⟨p.2,hp⟩
 refine ⟨l.map (·.1),?_,?_⟩
 ·rw [← hlen]
  refine .mk ad cap _ (fun j => (l[j]?.map (·.2)).getD default) (fun j x hx => ?_) (fun j x hx => ?_)
  ·obtain ⟨s,hp⟩:=get j x hx
   obtain ⟨h8,hr,⟨a,ha,hs,hcell⟩,_⟩:=hq j _ hp
   have hc:∀ k,k < 5→w.cell? ⟨a.block,a.off+j * 5+k,none⟩=(x.cells s)[k]?:=fun k hk => by
    rw [← hcell k hk,addr_spot hs,Nat.add_assoc]
   refine ⟨h8,a.block,a.off,?_,hc 0 (by decide),hc 1 (by decide),hc 2 (by decide),hc 3 (by decide),?_⟩
   ·rw [ha];cases a;simp at hs;subst hs;rfl
   ·rw [hp];exact hc 4 (by decide)
  ·obtain ⟨s,hp⟩:=get j x hx
   rw [hp]
   exact (hq j _ hp).2.1
 ·have:=bulks_le Ex.bulk Ex.bulks rfl (fun _ _ => rfl) (l.map (·.1)) D hlen fun i x d hx hd => by
   obtain ⟨s,hp⟩:=get i x hx
   exact (hq i _ hp).2.2.2 d hd
  omega
theorem dec_ex:∀ (n:Nat) (cs:List Value) (z:DataW H × List MemPlace),cs.length=5→DataW.trod enc Tryz.prog w 0 sp held n 25 cs=some z→IsEx w cs z.1:=by
 intro n
 induction n using Nat.strongRecOn with
 | ind n ih =>
  intro cs z hl h
  obtain ⟨c0,c1,c2,c3,c4,rfl⟩:=arr5 hl
  obtain ⟨xs,n',hn,hz,_,hxl,hf⟩:=DataW.trod_struct Tryz.underlying25 h
  obtain ⟨y0,y1,y2,y3,y4,rfl⟩:=arr5 hxl
  have h0:=hf 0 _ rfl
  have h1:=hf 1 _ rfl
  have h2:=hf 2 _ rfl
  have h3:=hf 3 _ rfl
  have h4:=hf 4 _ rfl
  simp [cells_string,cells_int,cells_rat,cells_u8,cells_exs] at h0 h1 h2 h3 h4
  obtain ⟨k,hk,rfl,hw⟩:=DataW.trod_int Tryz.underlying5 h0
  obtain ⟨r,hr,rfl,_⟩:=DataW.trod_string Tryz.underlying22 h1
  obtain ⟨s,hs,rfl,_⟩:=DataW.trod_string Tryz.underlying9 h2
  obtain ⟨d,hd,rfl,_⟩:=DataW.trod_int Tryz.underlying3 h3
  simp at hk hr hs hd
  subst hk hr hs hd
  obtain ⟨k,rfl,hk8⟩:=u8_nat hw
  obtain ⟨l,hrd,hb⟩:=rdE_of Tryz.underlying23 (fun m hm => ih m (by omega)) h4
  refine ⟨.mk k r s d l,c4,rfl,hk8,hrd,?_⟩
  rw [hz,Ex.bulk_eq]
  simp [Rows.uptoBulk,Rows.uptoBulkAll]
  have e1:r.data.size=r.size:=rfl
  have e2:s.data.size=s.size:=rfl
  have e3:(Ex.mk k r s d l).ra=r:=rfl
  have e4:(Ex.mk k r s d l).nm=s:=rfl
  have e5:(Ex.mk k r s d l).sub=l:=rfl
  rw [e3,e4,e5]
  omega
theorem rdI_of {t:TypeId} {fuel:Nat} {v:Value} {y:DataW H × List MemPlace} (ht:Tryz.prog.underlying t=some (.slice 3))
  (h:DataW.trod enc Tryz.prog w 0 sp held fuel t [v]=some y):∃ l,RdI w l v∧l.length+1≤Rows.uptoBulk y.1:=by
 obtain ⟨ad,cap,D,n,hn,rfl,hcap,hb,hel⟩:=open_row (m:=1) (by decide) ht cells_int h
 obtain ⟨l,hll,hq⟩:=list_of (α:=Int) (Q:=fun i d => ∃ a,ad=some a∧a.spot=none∧w.cell? (a.add (i * 1+0))=some (.int .i64 d)) D.length fun i hi => by
  obtain ⟨a,cs,z,ha,hs,hlc,hcell,ht,hD⟩:=hel i hi
  obtain ⟨d,rfl,_,_⟩:=DataW.trod_int Tryz.underlying3 ht
  exact ⟨d,a,ha,hs,hcell 0 (by decide)⟩
 have:=bulk_length D
 obtain ⟨hcap,hnil⟩:=hcap
 refine ⟨l,⟨ad,cap,by rw [hll],⟨by omega,hnil⟩,fun j d hj => ?_⟩,by omega⟩
 obtain ⟨a,ha,hs,hc⟩:=hq j d hj
 refine ⟨a.block,a.off,?_,?_⟩
 ·rw [ha];cases a;simp at hs;subst hs;rfl
 ·rw [addr_spot hs,Nat.mul_one,Nat.add_zero] at hc;exact hc
def IsCon (w:World) (cs:List Value) (d:DataW H):Prop:=∃ (x:Con) (es dd ss:Value),cs=x.cells es dd ss∧RdN w x es dd ss∧x.bulk≤Rows.uptoBulk d
theorem rdC_of {t:TypeId} {fuel:Nat} {v:Value} {y:DataW H × List MemPlace} (ht:Tryz.prog.underlying t=some (.slice 29))
  (ih:∀ n < fuel,∀ cs (z:DataW H × List MemPlace),cs.length=12→DataW.trod enc Tryz.prog w 0 sp held n 29 cs=some z→IsCon w cs z.1)
  (h:DataW.trod enc Tryz.prog w 0 sp held fuel t [v]=some y):∃ l,RdC w l v∧Con.bulks l+1≤Rows.uptoBulk y.1:=by
 obtain ⟨ad,cap,D,n,hn,rfl,hcap,hb,hel⟩:=open_row (m:=12) (by decide) ht cells_con h
 obtain ⟨l,hll,hq⟩:=list_of (α:=Con × Value × Value × Value) (Q:=fun i p => RdN w p.1 p.2.1 p.2.2.1 p.2.2.2∧(∃ a,ad=some a∧a.spot=none∧∀ k,k < 12→w.cell? (a.add (i * 12+k))=(p.1.cells p.2.1 p.2.2.1 p.2.2.2)[k]?)∧∀ d,D[i]? = some d→p.1.bulk≤Rows.uptoBulk d) D.length fun i hi => by
  obtain ⟨a,cs,z,ha,hs,hlc,hcell,ht,hD⟩:=hel i hi
  obtain ⟨x,es,dd,ss,rfl,hr,hbx⟩:=ih n (by omega) cs z hlc ht
  exact ⟨(x,es,dd,ss),hr,⟨a,ha,hs,hcell⟩,fun d hd => by rw [hD] at hd;cases hd;exact hbx⟩
 have hlen:(l.map (·.1)).length=D.length:=by rw [List.length_map,hll]
 have get:∀ j x,(l.map (·.1))[j]? = some x→∃ s,l[j]? = some (x,s):=fun j x hx => by
  rw [List.getElem?_map,Option.map_eq_some_iff] at hx
  obtain ⟨p,hp,rfl⟩:=hx
  exact ⟨p.2,hp⟩
 refine ⟨l.map (·.1),?_,?_⟩
 ·rw [← hlen]
  refine .mk ad cap _ (fun j => (l[j]?.map (·.2.1)).getD default) (fun j => (l[j]?.map (·.2.2.1)).getD default) (fun j => (l[j]?.map (·.2.2.2)).getD default) (fun j x hx => ?_) (fun j x hx => ?_) (fun j x hx => ?_) (fun j x hx => ?_)
  ·obtain ⟨s,hp⟩:=get j x hx
   obtain ⟨hr,⟨a,ha,hs,hcell⟩,_⟩:=hq j _ hp
   refine ⟨hr.2.2.2,a.block,a.off,?_,fun i u hu => ?_⟩
   ·rw [ha];cases a;simp at hs;subst hs;rfl
   ·have hi:i < 12:=(List.getElem?_eq_some_iff.1 hu).1
    rw [hp] at hu
    rw [Nat.add_assoc,← addr_spot hs,hcell i hi]
    exact hu
  ·obtain ⟨s,hp⟩:=get j x hx
   rw [hp]
   exact (hq j _ hp).1.1
  ·obtain ⟨s,hp⟩:=get j x hx
   rw [hp]
   exact (hq j _ hp).1.2.1
  ·obtain ⟨s,hp⟩:=get j x hx
   rw [hp]
   exact (hq j _ hp).1.2.2.1
 ·have:=bulks_le Con.bulk Con.bulks rfl (fun _ _ => rfl) (l.map (·.1)) D hlen fun i x d hx hd => by
   obtain ⟨s,hp⟩:=get i x hx
   exact (hq i _ hp).2.2 d hd
  omega
theorem dec_con:∀ (n:Nat) (cs:List Value) (z:DataW H × List MemPlace),cs.length=12→DataW.trod enc Tryz.prog w 0 sp held n 29 cs=some z→IsCon w cs z.1:=by
 intro n
 induction n using Nat.strongRecOn with
 | ind n ih =>
  intro cs z hl h
  obtain ⟨c0,c1,c2,c3,c4,c5,c6,c7,c8,c9,c10,c11,rfl⟩:=arr12 hl
  obtain ⟨xs,n',hn,hz,_,hxl,hf⟩:=DataW.trod_struct Tryz.underlying29 h
  obtain ⟨y0,y1,y2,y3,y4,y5,y6,y7,rfl⟩:=arr8 hxl
  have h0:=hf 0 _ rfl
  have h1:=hf 1 _ rfl
  have h2:=hf 2 _ rfl
  have h3:=hf 3 _ rfl
  have h4:=hf 4 _ rfl
  have h5:=hf 5 _ rfl
  have h6:=hf 6 _ rfl
  have h7:=hf 7 _ rfl
  simp [cells_string,cells_int,cells_u8,cells_ex,cells_ints,cells_cons] at h0 h1 h2 h3 h4 h5 h6 h7
  obtain ⟨k,hk,rfl,hw⟩:=DataW.trod_int Tryz.underlying5 h0
  obtain ⟨f,hff,rfl,_⟩:=DataW.trod_string Tryz.underlying9 h1
  obtain ⟨r,hr,rfl,_⟩:=DataW.trod_string Tryz.underlying9 h2
  obtain ⟨s,hs,rfl,_⟩:=DataW.trod_string Tryz.underlying9 h3
  obtain ⟨x,es,hx,hx8,hxr,hxb⟩:=dec_ex _ _ _ rfl h4
  obtain ⟨d,hd,rfl,_⟩:=DataW.trod_int Tryz.underlying3 h5
  obtain ⟨ds,hds,hdb⟩:=rdI_of Tryz.underlying26 h6
  obtain ⟨l,hrd,hb⟩:=rdC_of Tryz.underlying27 (fun m hm => ih m (by omega)) h7
  simp at hk hff hr hs hd
  simp [Ex.cells] at hx
  obtain ⟨rfl,rfl,rfl,rfl,rfl⟩:=hx
  subst hk hff hr hs hd
  obtain ⟨k,rfl,hk8⟩:=u8_nat hw
  refine ⟨.mk k f r s x d ds l,c8,c10,c11,rfl,⟨hxr,hds,hrd,hk8,hx8⟩,?_⟩
  rw [hz,Con.bulk_eq]
  simp [Rows.uptoBulk,Rows.uptoBulkAll]
  have e1:f.data.size=f.size:=rfl
  have e2:r.data.size=r.size:=rfl
  have e3:s.data.size=s.size:=rfl
  have e4:(Con.mk k f r s x d ds l).fr=f:=rfl
  have e5:(Con.mk k f r s x d ds l).rc=r:=rfl
  have e6:(Con.mk k f r s x d ds l).nm=s:=rfl
  have e7:(Con.mk k f r s x d ds l).ex=x:=rfl
  have e8:(Con.mk k f r s x d ds l).ds=ds:=rfl
  have e9:(Con.mk k f r s x d ds l).sub=l:=rfl
  rw [e4,e5,e6,e7,e8,e9]
  omega
end
end Go.Proofs.YtcnpaciljmekcaaGreatDoor

namespace Go.Proofs.YtcnpaciljmekcaaGreatDoor
open Go.RowKit
theorem slash_none {s:ByteArray} (h:slashI s = -1):∀ k:Nat,(bl s)[k]? ≠ some 47:=Lib.indexByte_none h
end Go.Proofs.YtcnpaciljmekcaaGreatDoor

namespace Go.Proofs.YtcnpaciljmekcaaGreatDoor
open Go.RowKit
def Ch.fits (f:Ch):Prop:=(Lit.int .i64 f.d).wf=true
def Fx.fits (f:Fx):Prop:=(Lit.int .i64 f.d).wf=true
end Go.Proofs.YtcnpaciljmekcaaGreatDoor

namespace Go.Proofs.YtcnpaciljmekcaaGreatDoor
open Go.RowKit Go.ChangeShapes Go.WideShapes Go.Deep
section
variable {H:Type} {enc:TypeId × Value→H} {w:World} {sp:Nat→Bool} {held:Bool}
theorem dec_fx {n:Nat} {cs:List Value} {z:DataW H × List MemPlace} (hl:cs.length=3) (h:DataW.trod enc Tryz.prog w 0 sp held n 89 cs=some z) :
  ∃ f:Fx,cs=f.cells∧f.fits∧(Rows.uptoBulk z.1≤1048576→f.small):=by
 obtain ⟨c0,c1,c2,rfl⟩:=arr3 hl
 obtain ⟨xs,n',_,hz,_,hxl,hf⟩:=DataW.trod_struct Tryz.underlying89 h
 obtain ⟨y0,y1,y2,rfl⟩:=arr3 hxl
 have h0:=hf 0 _ rfl
 have h1:=hf 1 _ rfl
 have h2:=hf 2 _ rfl
 simp [cells_string,cells_int,cells_rat] at h0 h1 h2
 obtain ⟨s,hs,rfl,_⟩:=DataW.trod_string Tryz.underlying9 h0
 obtain ⟨d,hd,rfl,hw⟩:=DataW.trod_int Tryz.underlying3 h1
 obtain ⟨v,hv,rfl,_⟩:=DataW.trod_string Tryz.underlying22 h2
 simp at hs hd hv
 subst hs hd hv
 refine ⟨⟨s,d,v⟩,rfl,hw,fun hb => ?_⟩
 rw [hz] at hb
 have b0:=bulk_agg (H:=H) (d:=.lit (.string s.data.toList)) (l:=[.lit (.string s.data.toList),.lit (.int .i64 d),.lit (.string v.data.toList)]) (by simp)
 have b2:=bulk_agg (H:=H) (d:=.lit (.string v.data.toList)) (l:=[.lit (.string s.data.toList),.lit (.int .i64 d),.lit (.string v.data.toList)]) (by simp)
 have q0:=bulk_text (H:=H) s
 have q2:=bulk_text (H:=H) v
 have hb':Rows.uptoBulk (DataW.agg (H:=H) [.lit (.string s.data.toList),.lit (.int .i64 d),.lit (.string v.data.toList)])≤1048576:=hb
 exact ⟨by show s.size≤_;omega,by show v.size≤_;omega⟩
theorem dec_ch {n:Nat} {cs:List Value} {z:DataW H × List MemPlace} (hl:cs.length=4) (h:DataW.trod enc Tryz.prog w 0 sp held n 85 cs=some z) :
  ∃ f:Ch,cs=f.cells∧f.fits∧(Rows.uptoBulk z.1≤1048576→f.small):=by
 obtain ⟨c0,c1,c2,c3,rfl⟩:=arr4 hl
 obtain ⟨xs,n',_,hz,_,hxl,hf⟩:=DataW.trod_struct Tryz.underlying85 h
 obtain ⟨y0,y1,y2,y3,rfl⟩:=arr4 hxl
 have h0:=hf 0 _ rfl
 have h1:=hf 1 _ rfl
 have h2:=hf 2 _ rfl
 have h3:=hf 3 _ rfl
 simp [cells_string,cells_int,cells_bool] at h0 h1 h2 h3
 obtain ⟨s,hs,rfl,_⟩:=DataW.trod_string Tryz.underlying9 h0
 obtain ⟨v,hv,rfl,_⟩:=DataW.trod_string Tryz.underlying9 h1
 obtain ⟨d,hd,rfl,hw⟩:=DataW.trod_int Tryz.underlying3 h2
 obtain ⟨b,hb,rfl⟩:=DataW.trod_bool Tryz.underlying4 h3
 simp at hs hd hv hb
 subst hs hd hv hb
 refine ⟨⟨s,v,d,b⟩,rfl,hw,fun hb => ?_⟩
 rw [hz] at hb
 have b0:=bulk_agg (H:=H) (d:=.lit (.string s.data.toList)) (l:=[.lit (.string s.data.toList),.lit (.string v.data.toList),.lit (.int .i64 d),.lit (.bool b)]) (by simp)
 have b2:=bulk_agg (H:=H) (d:=.lit (.string v.data.toList)) (l:=[.lit (.string s.data.toList),.lit (.string v.data.toList),.lit (.int .i64 d),.lit (.bool b)]) (by simp)
 have q0:=bulk_text (H:=H) s
 have q2:=bulk_text (H:=H) v
 have hb':Rows.uptoBulk (DataW.agg (H:=H) [.lit (.string s.data.toList),.lit (.string v.data.toList),.lit (.int .i64 d),.lit (.bool b)])≤1048576:=hb
 exact ⟨by show s.size≤_;omega,by show v.size≤_;omega⟩
end
end Go.Proofs.YtcnpaciljmekcaaGreatDoor

namespace Go.Proofs.YtcnpaciljmekcaaGreatDoor
open Go.Deep Go.ChangeShapes Go.WideShapes Go.ChangeAt Go.WideMaps Go.WideElems Go.RowKit Go.Maps
theorem g_parts : Tryz.prog.globalNamed "novation/contract.parts" = some 0 := by kernel_rfl
theorem g_shapes : Tryz.prog.globalNamed "novation/observable.shapes" = some 2 := by kernel_rfl
theorem t_parts:(Tryz.prog.globals[0]?).map (·.type)=some 208:=by kernel_rfl
theorem t_shapes:(Tryz.prog.globals[2]?).map (·.type)=some 281:=by kernel_rfl
theorem keyed_u8:Keyed Tryz.prog 5:=int_keyed Tryz.underlying5
theorem zero_int (w:World):(zeroValue 3).run Tryz.prog w = .ok (.int .i64 0) w:=by kernel_rfl
theorem zero_shape (w:World):(zeroValue 279).run Tryz.prog w = .ok (.agg #[.slice none 0 0,.int .u8 0]) w:=by kernel_rfl
theorem key_u8 {k:Nat} (hk:k < 256):keyOf Tryz.prog 5 (.int .u8 (k:Int))=some (.int .u8 (k:Int)) :=
 keyOf_int_mk Tryz.underlying5 (WalkArith.wf_u8 (by omega))
theorem parts_at (k:Nat) (z:DataW Unit):(Rows.laid_novation_contract_parts).atKey (.int .u8 (k:Int)) z=match partOf k with | none => z | some m => .lit (.int .i64 (m:Int)):=by
 match k with
 | 0 | 1 | 2 | 3 | 4 | 5 | 6 | 7 | 8 | 9 | 10 => rfl
 | n+11 =>
  have e:partOf (n+11)=none:=by
   unfold partOf
   rw [if_neg (by omega),if_neg (by omega),if_neg (by omega),if_neg (by omega),if_neg (by omega),if_neg (by omega),if_neg (by omega),if_neg (by omega),if_neg (by omega)]
  rw [e]
  have hs:∀ m:Int,m < 11→(Lit.int .u8 m).sameKey (.int .u8 ((n+11:Nat):Int))=false:=fun m hm => by simp [Lit.sameKey];omega
  simp only [Rows.laid_novation_contract_parts,DataW.atKey,List.find?_cons,hs _ (show (1:Int) < 11 by decide),hs _ (show (2:Int) < 11 by decide),hs _ (show (3:Int) < 11 by decide),hs _ (show (4:Int) < 11 by decide),hs _ (show (5:Int) < 11 by decide),hs _ (show (6:Int) < 11 by decide),hs _ (show (7:Int) < 11 by decide),hs _ (show (8:Int) < 11 by decide),hs _ (show (9:Int) < 11 by decide),hs _ (show (10:Int) < 11 by decide),List.find?_nil]
theorem shapes_at (k:Nat) (z:DataW Unit):(Rows.laid_novation_observable_shapes).atKey (.int .u8 (k:Int)) z=match shapeOf k with | none => z | some (ps,own) => .agg [.slice (ps.map fun p:Nat => .lit (.int .u8 (p:Int))) [],.lit (.int .u8 (own:Int))]:=by
 match k with
 | 0 | 1 | 2 | 3 | 4 | 5 | 6 | 7 | 8 | 9 | 10 | 11 | 12 | 13 | 14 | 15 => rfl
 | n+16 =>
  have e:shapeOf (n+16)=none:=by
   unfold shapeOf
   rw [if_neg (by omega),if_neg (by omega),if_neg (by omega),if_neg (by omega),if_neg (by omega)]
  rw [e]
  have hs:∀ m:Int,m < 16→(Lit.int .u8 m).sameKey (.int .u8 ((n+16:Nat):Int))=false:=fun m hm => by simp [Lit.sameKey];omega
  simp only [Rows.laid_novation_observable_shapes,DataW.atKey,List.find?_cons,hs _ (show (4:Int) < 16 by decide),hs _ (show (5:Int) < 16 by decide),hs _ (show (6:Int) < 16 by decide),hs _ (show (7:Int) < 16 by decide),hs _ (show (8:Int) < 16 by decide),hs _ (show (9:Int) < 16 by decide),hs _ (show (11:Int) < 16 by decide),hs _ (show (12:Int) < 16 by decide),hs _ (show (13:Int) < 16 by decide),hs _ (show (14:Int) < 16 by decide),hs _ (show (15:Int) < 16 by decide),List.find?_nil]
theorem addr_at (b o j:Nat):Addr.add ⟨b,o,none⟩ j=⟨b,o+j,none⟩:=by
 unfold Addr.add
 split
 ·next h => subst h;rfl
 ·rfl
theorem agg_of_formed {v:Value} (hf:v.formed Tryz.prog 279=true):∃ cs,v = .agg cs∧v.cells.toList=cs.toList:=by
 cases v with
 | agg cs => exact ⟨cs,rfl,rfl⟩
 | _ => simp [Value.formed,Tryz.underlying279] at hf
set_option maxRecDepth 100000 in
theorem laid_plain {W : World} (h : laidMet Tryz.prog [("novation/observable.shapes", Rows.laid_novation_observable_shapes), ("novation/contract.parts", Rows.laid_novation_contract_parts)] W) : LookS W ∧ LookP W := by
 obtain ⟨ps,⟨g0,t0,cs0,f0,p0,q0,hg0,ht0,hv0,hd0,⟨g1,t1,cs1,f1,p1,q1,hg1,ht1,hv1,hd1,_,_⟩,_⟩,_,_⟩:=h
 obtain rfl:=Option.some.inj (g_shapes.symm.trans hg0)
 obtain rfl:=Option.some.inj (g_parts.symm.trans hg1)
 obtain rfl:=Option.some.inj (t_shapes.symm.trans ht0)
 obtain rfl:=Option.some.inj (t_parts.symm.trans ht1)
 refine ⟨?_,?_⟩
 ·rcases open_map Tryz.underlying281 hd0 with ⟨_,hx⟩ | ⟨bm,es,clock,m,_,hcs,hb,_,F,hx⟩
  ·simp [Rows.laid_novation_observable_shapes] at hx
  simp only [Prod.mk.injEq] at hx
  have hcell:W.cell? ⟨2,0,none⟩=some (.map (some bm)):=by
   have:=World.var?_cell hg0 hv0 0
   rw [Array.eq_one_of_toList hcs] at this
   simpa using this
  refine ⟨bm,hcell,fun W' hB k hk => ?_⟩
  have hb':W'.heap[bm]? = some (.map es clock):=by rw [hB.block bm (lt_of_block hb)];exact hb
  rcases fit_look true keyed_u8 Tryz.underlying281 (zero_shape W') hb' F (key_u8 hk) with ⟨hrun,_,hat⟩ | ⟨e0,y,_,_,hrun,hRv,hat,_⟩
  ·have h1:=hat .nil
   rw [← hx.1,shapes_at] at h1
   cases hs:shapeOf k with
   | none => exact hrun
   | some q => rw [hs] at h1;cases h1
  ·have h1:=hat .nil
   rw [← hx.1,shapes_at] at h1
   unfold elemAt at hRv
   split at hRv
   ·rename_i hf
    obtain ⟨cs,hv,hvc⟩:=agg_of_formed hf
    rw [hvc] at hRv
    obtain ⟨xs,n',_,hz,hcl,hxl,hfs⟩:=DataW.trod_struct Tryz.underlying279 hRv
    cases hs:shapeOf k with
    | none => rw [hs] at h1;rw [hz] at h1;cases h1
    | some q =>
     obtain ⟨pl,own⟩:=q
     rw [hs] at h1
     obtain ⟨c0,c1,hc⟩:∃ c0 c1,cs.toList=[c0,c1]:=arr2 (by rw [hcl];kernel_rfl)
     rw [hc] at hfs
     obtain ⟨x0,x1,rfl⟩:=arr2 hxl
     have f0:=hfs 0 _ rfl
     have f1:=hfs 1 _ rfl
     have c8s:Tryz.prog.cellsOf 277=1:=by kernel_rfl
     have c8:Tryz.prog.cellsOf 214=1:=by kernel_rfl
     simp [c8s,c8] at f0 f1
     rw [hz] at h1
     simp only [List.map_cons,List.map_nil,DataW.agg.injEq,List.cons.injEq,and_true] at h1
     obtain ⟨o,ho,rfl,_⟩:=DataW.trod_int Tryz.underlying214 f1
     have ho':o=(own:Int):=by have:=h1.2;cases this;rfl
     subst ho'
     rcases open_slice Tryz.underlying277 f0 with ⟨_,hy⟩ | ⟨a,len,cap,mm,n,D,Pl,hcs0,_,hl,hmx,hmm,hxx,hi⟩
     ·rw [hy] at h1;cases h1.1
     ·have e1:=h1.1
      rw [hxx] at e1
      injection e1 with e1 e2
      simp at hcs0 ho
      have hlen:pl.length=len:=by have:=congrArg List.length e1;simpa using this
      have hlm:len≤mm:=by rw [hmm];split <;> omega
      have hcell:∀ (j p:Nat),pl[j]? = some p→W.cell? (a.add j)=some (.int .u8 (p:Int)):=fun j p hj => by
       have hjl:=(List.getElem?_eq_some_iff.1 hj).1
       obtain ⟨cs',q1,q2⟩:=hi j (by omega)
       rw [c8,Nat.mul_one] at q1
       obtain ⟨v,hv1,hv2,_⟩:=DataW.trod_int Tryz.underlying214 q2
       have q3:=(World.cells?_some q1).2.2 0 (by decide)
       rw [hv1] at q3
       have q4:=congrArg (fun l => l[j]?) e1
       simp only [List.getElem?_map,hj,Option.map_some] at q4
       rw [List.getElem?_range (by omega)] at q4
       simp only [Option.map_some,Option.some.injEq] at q4
       rw [(Prod.mk.inj hv2).1] at q4
       cases q4
       simpa [Addr.add] using q3
      have hsp:0 < pl.length→a.spot=none:=fun h0 => by
       obtain ⟨p,hp⟩:∃ p,pl[0]? = some p:=⟨_,List.getElem?_eq_getElem h0⟩
       have h2:=hcell 0 p hp
       simp only [World.cell?] at h2
       cases hsp:a.spot with
       | none => rfl
       | some k => simp [Addr.add,hsp] at h2;split at h2 <;> simp at h2
      have hpos:0 < pl.length:=by
       unfold shapeOf at hs
       repeat' split at hs
       all_goals first
        | (cases hs;done)
        | (cases hs;decide)
      have hsp:=hsp hpos
      obtain ⟨ab,ao,asp⟩:=a
      simp at hsp
      subst hsp
      refine ⟨ab,ao,cap,?_,fun j p hj => by rw [← addr_at];exact hcell j p hj⟩
      rw [hrun,hv]
      have:cs=#[c0,c1]:=by cases cs;simp at hc;subst hc;rfl
      rw [this,hcs0,ho,hlen]
      rfl
   ·cases hRv
 ·rcases open_map Tryz.underlying208 hd1 with ⟨_,hx⟩ | ⟨bm,es,clock,m,_,hcs,hb,_,F,hx⟩
  ·simp [Rows.laid_novation_contract_parts] at hx
  simp only [Prod.mk.injEq] at hx
  have hcell:W.cell? ⟨0,0,none⟩=some (.map (some bm)):=by
   have:=World.var?_cell hg1 hv1 0
   rw [Array.eq_one_of_toList hcs] at this
   simpa using this
  refine ⟨bm,hcell,fun W' hB k hk => ?_⟩
  have hb':W'.heap[bm]? = some (.map es clock):=by rw [hB.block bm (lt_of_block hb)];exact hb
  rcases fit_look true keyed_u8 Tryz.underlying208 (zero_int W') hb' F (key_u8 hk) with ⟨hrun,_,hat⟩ | ⟨e0,y,_,_,hrun,hRv,hat,_⟩
  ·have h1:=hat .nil
   rw [← hx.1,parts_at] at h1
   cases hs:partOf k with
   | none => exact hrun
   | some q => rw [hs] at h1;cases h1
  ·obtain ⟨r,hr,rfl,_⟩:=elemAt_int Tryz.underlying3 hRv
   have h1:=hat .nil
   rw [← hx.1,parts_at] at h1
   cases hs:partOf k with
   | none => rw [hs] at h1;cases h1
   | some q =>
    rw [hs] at h1
    cases h1
    rw [hr] at hrun
    exact hrun
end Go.Proofs.YtcnpaciljmekcaaGreatDoor

namespace Go.Proofs.YtcnpaciljmekcaaGreatDoor
open Go.RowKit
theorem intErr_text {l:List UInt8} (h:intErr l=0):dval (body l) < ten 1000:=dval_body_lt h
end Go.Proofs.YtcnpaciljmekcaaGreatDoor

namespace Go.Proofs.YtcnpaciljmekcaaGreatDoor
open Go.RowKit
theorem sumS_err {a b:ByteArray} {z:Int} (h:sumE a b z ≠ 0):sumS a b z=[]:=by rw [sumS,if_neg h]
end Go.Proofs.YtcnpaciljmekcaaGreatDoor

namespace Go.Proofs.YtcnpaciljmekcaaGreatDoor
open Go.Deep Go.ChangeShapes Go.WideShapes Go.ChangeAt Go.WideMaps Go.WideElems Go.RowKit Go.Maps
theorem laidMetH_data {P:Program} {l:List (String × DataW Unit)} {w:World} (h:laidMetH P l w):laidMet P (l.filter fun x => x.2.handleName?.isNone) w:=by
 unfold laidMetH at h
 generalize hfl:(l.filter fun x => x.2.handleName?.isSome)=fl at h
 cases fl with
 | nil =>
  have e:(l.filter fun x => x.2.handleName?.isNone)=l:=by
   rw [List.filter_eq_self]
   intro x hx
   have:=(List.filter_eq_nil_iff.1 hfl) x hx
   cases hn:x.2.handleName? with
   | none => rfl
   | some s => rw [hn] at this;exact absurd rfl this
  rw [e]
  exact h
 | cons a t => exact h.1
def opsD:DataW Unit:=match (Rows.laid_novation_observable_operations:DataW Unit) with | .iface _ d => d | d => d
theorem g_ops : Tryz.prog.globalNamed "novation/observable.operations" = some 1 := by kernel_rfl
theorem t_ops:(Tryz.prog.globals[1]?).map (·.type)=some 253:=by kernel_rfl
theorem zero_fn (w:World):∃ z,(zeroValue 252).run Tryz.prog w = .ok z w:=⟨.nilFunc,by kernel_rfl⟩
theorem ops_at:∀ k:Nat,4≤k→k≤8→∃ b r,opsD.funcsOut.atKey (.int .u8 (k:Int)) .nil = .held (b :: r)∧(((List.range Tryz.prog.funcs.size).filter fun f => (Tryz.prog.funcs[f]?).any (·.name.toUTF8.data.toList == b :: r))=[opFn k]):=by
 intro k h4 h8
 match k,h4,h8 with
 | 4,_,_ => exact ⟨_,_,rfl,by kernel_rfl⟩
 | 5,_,_ => exact ⟨_,_,rfl,by kernel_rfl⟩
 | 6,_,_ => exact ⟨_,_,rfl,by kernel_rfl⟩
 | 7,_,_ => exact ⟨_,_,rfl,by kernel_rfl⟩
 | 8,_,_ => exact ⟨_,_,rfl,by kernel_rfl⟩
set_option maxRecDepth 100000 in
theorem laid_look3 {W : World} (h : laidMetH Tryz.prog [("novation/observable.shapes", Rows.laid_novation_observable_shapes), ("novation/observable.operations", Rows.laid_novation_observable_operations), ("novation/contract.parts", Rows.laid_novation_contract_parts)] W) : LookS W ∧ LookP W ∧ LookO W := by
 obtain ⟨hS,hP⟩:=laid_plain (laidMetH_data h)
 refine ⟨hS,hP,?_⟩
 obtain ⟨g, t, cs, fuel, p, hg, ht, hv, hd⟩ := h.funcs (n := "novation/observable.operations") (d := opsD) (.tail _ (.head _))
 obtain rfl:=Option.some.inj (g_ops.symm.trans hg)
 obtain rfl:=Option.some.inj (t_ops.symm.trans ht)
 rcases open_map Tryz.underlying253 hd with ⟨_,hx⟩ | ⟨bm,es,clock,m,_,hcs,hb,_,F,hx⟩
 ·have:opsD.funcsOut = .nil:=(Prod.mk.inj hx).1
  cases this
 simp only [Prod.mk.injEq] at hx
 have hcell:W.cell? ⟨1,0,none⟩=some (.map (some bm)):=by
  have:=World.var?_cell hg hv 0
  rw [Array.eq_one_of_toList hcs] at this
  simpa using this
 refine ⟨bm,hcell,fun W' hB k h4 h8 => ?_⟩
 have hb':W'.heap[bm]? = some (.map es clock):=by rw [hB.block bm (lt_of_block hb)];exact hb
 obtain ⟨b,r,hat0,hone⟩:=ops_at k h4 h8
 obtain ⟨z,hz⟩:=zero_fn W'
 rcases fit_look false keyed_u8 Tryz.underlying253 hz hb' F (key_u8 (k:=k) (by omega)) with ⟨hrun,_,hat⟩ | ⟨e0,y,_,_,hrun,hRv,hat,_⟩
 ·have h1:=hat .nil
  rw [← hx.1,hat0] at h1
  cases h1
 ·have h1:=hat .nil
  rw [← hx.1,hat0] at h1
  unfold elemAt at hRv
  split at hRv
  ·rename_i hf
   obtain ⟨y1,y2⟩:=y
   dsimp only at h1
   subst h1
   have hc:e0.val.cells.toList=[e0.val]:=by
    cases hv:e0.val <;> rw [hv] at hf <;> simp [Value.formed,Tryz.underlying252] at hf <;> rfl
   rw [hc] at hRv
   have:=func_of_trod (f0:=opFn k) Tryz.underlying252 hone hRv
   rw [hrun,this]
   rfl
  ·cases hRv
end Go.Proofs.YtcnpaciljmekcaaGreatDoor

namespace Go.Proofs.YtcnpaciljmekcaaGreatDoor
open Go.RowKit
def SrtFl (l:List Fl):Prop:=l.Pairwise fun a b => a.d≤b.d
theorem insFl_mem (x z:Fl):∀ l:List Fl,z ∈ insFl x l ↔ z=x∨z ∈ l
 | [] => by simp [insFl]
 | y :: l => by
  unfold insFl
  split
  ·simp
  ·rw [List.mem_cons,insFl_mem x z l,List.mem_cons]
   constructor
   ·rintro (h | h | h) <;> simp [h]
   ·rintro (h | h | h) <;> simp [h]
theorem srtFl_mem (z:Fl):∀ l:List Fl,z ∈ srtFl l ↔ z ∈ l
 | [] => by simp [srtFl]
 | x :: l => by rw [srtFl,insFl_mem,srtFl_mem z l,List.mem_cons]
theorem insFl_srt {x:Fl}:∀ {l:List Fl},SrtFl l→SrtFl (insFl x l)
 | [],_ => by simp [insFl,SrtFl]
 | y :: l,h => by
  have h2:=List.pairwise_cons.1 h
  unfold insFl
  split
  ·next hxy =>
   exact List.pairwise_cons.2 ⟨fun z hz => by
    rcases List.mem_cons.1 hz with rfl | hz
    ·exact hxy
    ·exact Int.le_trans hxy (h2.1 z hz),h⟩
  ·next hxy =>
   refine List.pairwise_cons.2 ⟨fun z hz => ?_,insFl_srt h2.2⟩
   rcases (insFl_mem x z l).1 hz with rfl | hz
   ·omega
   ·exact h2.1 z hz
theorem srtFl_srt:∀ l:List Fl,SrtFl (srtFl l)
 | [] => List.Pairwise.nil
 | _ :: l => insFl_srt (srtFl_srt l)
end Go.Proofs.YtcnpaciljmekcaaGreatDoor

namespace Go.Proofs.YtcnpaciljmekcaaGreatDoor
open Go.RowKit
section
variable {α:Type} {lt:α→α→Bool} (h:STO lt)
include h
theorem STO.asymm {x y:α} (hxy:lt x y=true):lt y x=false:=by
 cases hyx:lt y x with
 | false => rfl
 | true => have:=h.trans _ _ _ hxy hyx;rw [h.irrefl] at this;cases this
end
def cmpct {α:Type} [DecidableEq α]:List α→List α
 | [] => []
 | [x] => [x]
 | x :: y :: l => if x=y then cmpct (y :: l) else x :: cmpct (y :: l)
theorem cmpct_mem {α:Type} [DecidableEq α]:∀ (l:List α) (z:α),z ∈ cmpct l ↔ z ∈ l
 | [],z => by simp [cmpct]
 | [x],z => by simp [cmpct]
 | x :: y :: l,z => by
  rw [cmpct]
  split
  ·next e => subst e;rw [cmpct_mem (x :: l) z];simp
  ·rw [List.mem_cons,cmpct_mem (y :: l) z];simp
theorem cmpct_srt {α:Type} [DecidableEq α] {lt:α→α→Bool} (h:STO lt):∀ (l:List α),l.Pairwise (fun a b => lt b a=false)→Srt lt (cmpct l)
 | [],_ => Srt.nil lt
 | [x],_ => by rw [cmpct];exact List.pairwise_cons.2 ⟨by simp,List.Pairwise.nil⟩
 | x :: y :: l,hl => by
  obtain ⟨hx,hl'⟩:=List.pairwise_cons.1 hl
  have ih:=cmpct_srt h (y :: l) hl'
  rw [cmpct]
  split
  ·exact ih
  ·next hne =>
   have hxy:lt x y=true:=by
    cases e:lt x y with
    | true => rfl
    | false => exact absurd (h.conn _ _ e (hx y (List.mem_cons_self ..))) hne
   refine List.pairwise_cons.2 ⟨fun z hz => ?_,ih⟩
   rcases List.mem_cons.1 ((cmpct_mem (y :: l) z).1 hz) with e | e
   ·rw [e];exact hxy
   ·cases e2:lt x z with
    | true => rfl
    | false =>
     have e3:x=z:=h.conn _ _ e2 (hx z (List.mem_cons_of_mem _ e))
     have e4:=(List.pairwise_cons.1 hl').1 z e
     rw [← e3,hxy] at e4;cases e4
end Go.Proofs.YtcnpaciljmekcaaGreatDoor

namespace Go.Proofs.YtcnpaciljmekcaaGreatDoor
open Go.RowKit
section
variable {α:Type}
end
section
variable {α:Type} [DecidableEq α]
theorem cmpct_snoc:∀ (l:List α) (x y:α),cmpct (l ++ [x] ++ [y])=if x=y then cmpct (l ++ [x]) else cmpct (l ++ [x]) ++ [y]
 | [],x,y => by
  show cmpct [x,y]=if x=y then cmpct [x] else cmpct [x] ++ [y]
  by_cases h:x=y
  ·subst h;simp [cmpct]
  ·simp [cmpct,h]
 | [a],x,y => by
  show cmpct (a :: x :: [y])=if x=y then cmpct (a :: x :: []) else cmpct (a :: x :: []) ++ [y]
  simp only [cmpct]
  by_cases h:x=y <;> by_cases h2:a=x <;> simp [h,h2]
 | a :: b :: l,x,y => by
  have ih:=cmpct_snoc (b :: l) x y
  show cmpct (a :: b :: (l ++ [x] ++ [y]))=if x=y then cmpct (a :: b :: (l ++ [x])) else cmpct (a :: b :: (l ++ [x])) ++ [y]
  have ih2:cmpct (b :: (l ++ [x] ++ [y]))=if x=y then cmpct (b :: (l ++ [x])) else cmpct (b :: (l ++ [x])) ++ [y]:=ih
  rw [cmpct,cmpct,ih2]
  by_cases h:x=y <;> by_cases h2:a=b <;> simp [h,h2]
theorem cmpct_len:∀ l:List α,(cmpct l).length≤l.length
 | [] => by simp [cmpct]
 | [x] => by simp [cmpct]
 | x :: y :: l => by
  have:=cmpct_len (y :: l)
  rw [cmpct]
  split
  ·simp at this ⊢;omega
  ·simp at this ⊢;omega
omit [DecidableEq α] in
theorem take_two {L:List α} {m:Nat} {x y:α} (hx:L[m]? = some x) (hy:L[m+1]? = some y):L.take (m+2)=L.take m ++ [x] ++ [y]:=by
 rw [take_snoc_get hy,take_snoc_get hx]
theorem cmpct_same {L:List α} {m:Nat} {x:α} (hx:L[m]? = some x) (hy:L[m+1]? = some x):cmpct (L.take (m+2))=cmpct (L.take (m+1)):=by
 rw [take_two hx hy,cmpct_snoc,if_pos rfl,← take_snoc_get hx]
theorem cmpct_new {L:List α} {m:Nat} {x y:α} (hx:L[m]? = some x) (hy:L[m+1]? = some y) (hne:x ≠ y):cmpct (L.take (m+2))=cmpct (L.take (m+1)) ++ [y]:=by
 rw [take_two hx hy,cmpct_snoc,if_neg hne,← take_snoc_get hx]
theorem cmpct_same' {L:List α} {k:Nat} {x:α} (h1:1≤k) (hx:L[k - 1]? = some x) (hy:L[k]? = some x):cmpct (L.take (k+1))=cmpct (L.take k):=by
 obtain ⟨m,rfl⟩:∃ m,k=m+1:=⟨k - 1,by omega⟩
 exact cmpct_same hx hy
theorem cmpct_new' {L:List α} {k:Nat} {x y:α} (h1:1≤k) (hx:L[k - 1]? = some x) (hy:L[k]? = some y) (hne:y ≠ x):cmpct (L.take (k+1))=cmpct (L.take k) ++ [y]:=by
 obtain ⟨m,rfl⟩:∃ m,k=m+1:=⟨k - 1,by omega⟩
 exact cmpct_new hx hy (Ne.symm hne)
end
section
variable {α:Type} [DecidableEq α]
end
end Go.Proofs.YtcnpaciljmekcaaGreatDoor

namespace Go.Proofs.YtcnpaciljmekcaaGreatDoor
open Go.RowKit
section
variable {o o':Option Nat} {base B:Nat} {w w':World} {R:World→Prop}
theorem Keep.imp {R':World→Prop} (h:Keep o base w R) (hR:∀ w',R w'→R' w'):Keep o base w R':=fun w2 h1 h2 => hR _ (h w2 h1 h2)
end
section
variable {α:Type} {enc:α→List Value} {e:TypeId} {m:Nat} {Rd:α→World→Prop} {R0:World→Prop} {w:World} {D:Nat} {LL:List α} {a2:Option Addr} {c2:Nat} {wr w1 w2:World}
end
section
variable {P:Program} {ops:Array Oper}
end
section
variable {σ:Type} {Q0:World→Prop} {Q1:World→σ→Prop} {Q2:World→σ→Nat→Prop} {Q3 Q4:World→σ→Value→Prop} {L:Nat→Bool} {s:σ} {r:Value} {g:Nat} {w:World}
theorem TwI.u7 (h8:L 8=false) (h9:L 9=false) (h11:L 11=false) (h:Q1 w s):TwI Q0 Q1 Q2 Q3 Q4 (upd L 7) s g r w :=
 ⟨fun k => (by simp [upd] at k),fun _ _ => h,fun k => (by simp [upd,h8] at k),fun k => (by simp [upd,h9] at k),fun k => (by simp [upd,h11] at k)⟩
theorem TwI.bel {wr:World} (h:TwI Q0 Q1 Q2 Q3 Q4 L s g r w) (h0:∀ w,Q0 w→Below wr.heap.size wr w) (h1:∀ w s,Q1 w s→Below wr.heap.size wr w) (h2:∀ w s g,Q2 w s g→Below wr.heap.size wr w) (h9:L 9=false):Below wr.heap.size wr w:=by
 cases h7:L 7 with
 | false => exact h0 _ (h.a h7)
 | true =>
  cases h8:L 8 with
  | false => exact h1 _ _ (h.b h7 h8)
  | true => exact h2 _ _ _ (h.c h8 h9)
end
end Go.Proofs.YtcnpaciljmekcaaGreatDoor

namespace Go.Proofs.YtcnpaciljmekcaaGreatDoor
open Go.ChangeShapes Go.WideShapes Go.ChangeAt Go.RowKit Go.Joins Go.Deep
theorem own10:ownKnob Tryz.prog.godebug=none:=by kernel_rfl
theorem laidOut10:laidOutB Tryz.prog=true:=by kernel_rfl
theorem env_open:∃ f0 f1:Field,Tryz.prog.underlying 33=some (.struct #[f0,f1])∧oneCellFields Tryz.prog #[f0,f1]=true∧f0.type=30∧f1.type=31 :=
 ⟨_,_,Tryz.underlying33,by kernel_rfl,rfl,rfl⟩
theorem env_cells:Tryz.prog.cellsOf 33=2:=by kernel_rfl
theorem fx_cells:Tryz.prog.cellsOf 89=3:=by kernel_rfl
theorem ch_cells:Tryz.prog.cellsOf 85=4:=by kernel_rfl
set_option maxRecDepth 100000 in
theorem open_con {H:Type} {enc:TypeId × Value→H} {W:World} {base:Nat} {sp:Nat→Bool} {held:Bool} {v:Value} {d:DataW H} {p:List MemPlace}
  (hv:Value.okWide Tryz.prog W .any base 29 v) (h:DataW.Trod enc Tryz.prog W 0 sp held 29 v d p) :
  ∃ (c:Con) (es dd ss:Value),v=c.val es dd ss∧RdN W c es dd ss∧c.bulk≤Rows.uptoBulk d:=by
 obtain ⟨n,h⟩:=h
 obtain ⟨cs,rfl⟩:∃ cs,v = .agg cs:=by
  unfold Value.okWide at hv
  cases v with
  | agg cs => exact ⟨cs,rfl⟩
  | _ => simp [Tryz.underlying29] at hv
 have hl:(Value.agg cs).cells.toList.length=12:=by
  obtain ⟨_,_,_,_,hl,_⟩:=DataW.trod_struct Tryz.underlying29 h
  rw [hl];exact cells_con
 obtain ⟨c,es,dd,ss,hc,hr,hb⟩:=dec_con n _ _ hl h
 refine ⟨c,es,dd,ss,?_,hr,hb⟩
 have:cs=(c.cells es dd ss).toArray:=by
  cases cs
  simp [Value.cells] at hc
  rw [hc]
 rw [this]
 rfl
set_option maxRecDepth 100000 in
theorem open_env {H:Type} {enc:TypeId × Value→H} {W:World} {base:Nat} {v:Value} {d:DataW H} {p:List MemPlace}
  (hv:Value.okWide Tryz.prog W .any base 33 v) (h:DataW.Trod enc Tryz.prog W 0 (fun _ => true) true 33 v d p) (hb:Rows.uptoBulk d≤1048576) :
  ∃ E:EvD,v=E.val∧E.Rd W∧(∀ f ∈ E.F,f.small)∧(∀ c ∈ E.C,c.small):=by
 obtain ⟨f0,f1,e0,e1,e2,e3⟩:=env_open
 obtain ⟨va,vb,ya,yb,n,rfl,rfl,rfl,ta,tb⟩:=open_agg2 e0 e1 env_cells hv h
 rw [e2] at ta
 rw [e3] at tb
 have ba:Rows.uptoBulk ya.1≤1048576:=Nat.le_trans (bulk_agg (by simp)) hb
 have bb:Rows.uptoBulk yb.1≤1048576:=Nat.le_trans (bulk_agg (by simp)) hb
 obtain ⟨af,cf,fs,rfl,haf,sf,lf,gf⟩:=open_list Fx.cells 3 (fun _ => rfl) (by decide) (fun f d => f.fits∧(Rows.uptoBulk d≤1048576→f.small)) Tryz.underlying30 fx_cells (fun _ _ _ hl h => dec_fx hl h) ta
 obtain ⟨ac,cc,cs,rfl,hac,sc,lc,gc⟩:=open_list Ch.cells 4 (fun _ => rfl) (by decide) (fun f d => f.fits∧(Rows.uptoBulk d≤1048576→f.small)) Tryz.underlying31 ch_cells (fun _ _ _ hl h => dec_ch hl h) tb
 have Rf:=Rd.of_sl (enc:=Fx.cells) (m:=3) (fun _ => rfl) (by decide) sf
 have Rc:=Rd.of_sl (enc:=Ch.cells) (m:=4) (fun _ => rfl) (by decide) sc
 exact ⟨⟨fs,cs,af,ac,cf,cc⟩,rfl,⟨Rf,Rc,by show fs.length≤_;omega,by show cs.length≤_;omega⟩,
  fun f hf => by obtain ⟨d,⟨_,h⟩,hd⟩:=gf f hf;exact h (by omega),fun f hf => by obtain ⟨d,⟨_,h⟩,hd⟩:=gc f hf;exact h (by omega)⟩
end Go.Proofs.YtcnpaciljmekcaaGreatDoor

namespace Go.Proofs.YtcnpaciljmekcaaGreatDoor
open Go.RowKit
instance (k:Nat) (ra nm:ByteArray) (d:Int) (n:Nat):Decidable (leafOk k ra nm d n):=by unfold leafOk;infer_instance
def sortOfB (k:Nat) (ra nm:ByteArray) (d:Int) (l:List Nat):Nat :=
 match shapeOf k with
 | none => if leafOk k ra nm d l.length then 1 else 0
 | some (ps,own) => if ra.size=0∧nm.size=0∧d=0∧l=ps then own else 0
theorem sortOfB_eq (k:Nat) (ra nm:ByteArray) (d:Int) (l:List Nat):sortOf k ra nm d l=sortOfB k ra nm d l:=by
 unfold sortOf sortOfB leafSort partSort
 cases shapeOf k with
 | none =>
  simp only
  by_cases h:leafOk k ra nm d l.length
  ·rw [if_pos h,if_pos h]
  ·rw [if_neg h,if_neg h]
 | some p => rfl
mutual
def Ex.sortB:Ex→Nat
 | .mk k r n d l => sortOfB k r n d (Ex.sortsB l)
def Ex.sortsB:List Ex→List Nat
 | [] => []
 | x :: l => Ex.sortB x :: Ex.sortsB l
end
mutual
theorem Ex.sortB_eq:∀ x:Ex,x.sort=x.sortB
 | .mk k r n d l => by rw [Ex.sort,Ex.sortB,Ex.sortsB_eq l,sortOfB_eq]
theorem Ex.sortsB_eq:∀ l:List Ex,Ex.sorts l=Ex.sortsB l
 | [] => by rw [Ex.sorts,Ex.sortsB]
 | x :: l => by rw [Ex.sorts,Ex.sortsB,Ex.sortB_eq x,Ex.sortsB_eq l]
end
def Ex.errB (x:Ex):Int:=if 500 < x.size∨60 < x.depth then 4 else if x.sortB=0 then 8 else 0
def Ex.isAB (x:Ex) (t:Nat):Bool:=decide (x.errB=0) && decide (x.sortB=t)
theorem Ex.isAB_eq (x:Ex) (t:Nat):x.isA t=x.isAB t:=by unfold Ex.isA Ex.isAB Ex.err Ex.errB;rw [Ex.sortB_eq]
def nodeOkB (c:Con):Bool :=
 let nobody:=decide (c.fr.size=0)
 let noTo:=decide (c.rc.size=0)
 let noName:=decide (c.nm.size=0)
 let noDate:=decide (c.d=0)
 let noDays:=decide (c.ds.length=0)
 let n:=c.sub.length
 if c.k=1 then decide (n=0) && (nobody && (noTo && (noName && (noDate && (noDays && c.ex.bare)))))
 else if c.k=2 then decide (n=0) && (isNm (bl c.fr) && (isNm (bl c.rc) && (!decide (c.fr=c.rc) && (isNm (bl c.nm) && (c.ex.isAB 1 && (noDate && noDays))))))
 else if c.k=3 then decide (n=2) && (nobody && (noTo && (noName && (noDate && (noDays && c.ex.bare)))))
 else if c.k=4 then decide (n=1) && (nobody && (noTo && (noName && (noDate && (noDays && c.ex.isAB 1)))))
 else if c.k=5 then decide (n=2) && (nobody && (noTo && (noName && (noDate && (noDays && c.ex.isAB 2)))))
 else if c.k=6 then decide (n=1) && (nobody && (noTo && (noName && (isDay c.d && (noDays && c.ex.bare)))))
 else if c.k=7 then decide (n=2) && (isNm (bl c.fr) && (noTo && (isNm (bl c.nm) && (noDate && (noDays && c.ex.bare)))))
 else if c.k=8 then decide (n=1) && (isNm (bl c.fr) && (noTo && (isNm (bl c.nm) && (noDate && (isDays c.ds && c.ex.bare)))))
 else if c.k=9∨c.k=10 then decide (n=1) && (nobody && (noTo && (noName && (noDate && (isDays c.ds && c.ex.isAB 2)))))
 else false
theorem nodeOkB_eq (c:Con):nodeOk c=nodeOkB c:=by unfold nodeOk nodeOkB;simp only [Ex.isAB_eq]
mutual
def Con.formedB:Con→Bool
 | .mk k fr rc nm ex d ds l => nodeOkB (.mk k fr rc nm ex d ds l) && Con.formedsB l
def Con.formedsB:List Con→Bool
 | [] => true
 | x :: l => Con.formedB x && Con.formedsB l
end
mutual
theorem Con.formedB_eq:∀ x:Con,x.formed=x.formedB
 | .mk k fr rc nm ex d ds l => by rw [Con.formed,Con.formedB,Con.formedsB_eq l,nodeOkB_eq]
theorem Con.formedsB_eq:∀ l:List Con,Con.formeds l=Con.formedsB l
 | [] => by rw [Con.formeds,Con.formedsB]
 | x :: l => by rw [Con.formeds,Con.formedsB,Con.formedB_eq x,Con.formedsB_eq l]
end
def Con.errB (x:Con):Int:=if 500 < x.size∨60 < x.depth then 4 else if x.formedB=true then 0 else 8
theorem Con.errB_eq (x:Con):x.err=x.errB:=by unfold Con.err Con.errB;rw [Con.formedB_eq]
end Go.Proofs.YtcnpaciljmekcaaGreatDoor

namespace Go.Proofs.YtcnpaciljmekcaaGreatDoor
open Go.RowKit
def mAnn:ByteArray:=⟨#[65,110,110]⟩
def mBob:ByteArray:=⟨#[66,111,98]⟩
def mUSD:ByteArray:=⟨#[85,83,68]⟩
def mSpot:ByteArray:=⟨#[115,112,111,116]⟩
def mM3:ByteArray:=⟨#[45,51]⟩
def m72:ByteArray:=⟨#[55,47,50]⟩
def xNow:Ex:=.mk 3 mE mSpot 0 []
def xSub:Ex:=.mk 5 mE mE 0 [xNow,xCon m3]
def xMax:Ex:=.mk 7 mE mE 0 [xSub,xCon m0]
def xTwice:Ex:=.mk 6 mE mE 0 [xMax,xCon m2]
def cPay:Con:=.mk 2 mAnn mBob mUSD xTwice 0 [] []
def cScale:Con:=.mk 4 mE mE mE (xCon mM3) 0 [] [cPay]
def fKnown:List Fx:=[⟨mSpot,5,m72⟩,⟨mSpot,6,m2⟩]
theorem cPay_err:cPay.err=0:=by rw [Con.errB_eq];decide +kernel
theorem cScale_err:cScale.err=0:=by rw [Con.errB_eq];decide +kernel
theorem env_known:envErr fKnown []=0:=by decide +kernel
theorem flows10_pay:cPay.flows fKnown [] 5 100000=(0,[⟨5,mAnn,mBob,mUSD,m1⟩]):=by kernel_rfl
theorem flows10_scale:cScale.flows fKnown [] 5 100000=(0,[⟨5,mBob,mAnn,mUSD,m3⟩]):=by kernel_rfl
theorem befR_pay:befR cPay 5 100000 fKnown []=(0,[⟨5,mAnn,mBob,mUSD,m1⟩]):=by
 rw [befR,if_neg (fun h => h cPay_err),if_neg (fun h => h env_known),if_neg (by decide),flows10_pay];rfl
theorem befR_scale:befR cScale 5 100000 fKnown []=(0,[⟨5,mBob,mAnn,mUSD,m3⟩]):=by
 rw [befR,if_neg (fun h => h cScale_err),if_neg (fun h => h env_known),if_neg (by decide),flows10_scale];rfl
end Go.Proofs.YtcnpaciljmekcaaGreatDoor

namespace Go.Proofs.YtcnpaciljmekcaaGreatDoor
open Go.RowKit
set_option maxRecDepth 100000 in
theorem con10_any (r:ByteArray) (w:World):Calls Tryz.prog 32 #[.string r] w fun e w' => e = .returned (.agg #[.int .u8 1,.string r,.string ⟨#[]⟩,.int .i64 0,.slice none 0 0])∧Below w.heap.size w w':=by
 go_enter Tryz.func32,Tryz.ntmps32
 go_wp2
 refine bodyPost_ret (v:=.agg #[.int .u8 1,.string r,.string ⟨#[]⟩,.int .i64 0,.slice none 0 0]) (by simp [results,Tryz.results32,go_sem]) rfl ?_
 exact ⟨rfl,below_a1 _ _⟩
set_option maxRecDepth 100000 in
theorem now10_any (n:ByteArray) (w:World):Calls Tryz.prog 77 #[.string n] w fun e w' => e = .returned (.agg #[.int .u8 3,.string ⟨#[]⟩,.string n,.int .i64 0,.slice none 0 0])∧Below w.heap.size w w':=by
 go_enter Tryz.func77,Tryz.ntmps77
 go_wp2
 refine bodyPost_ret (v:=.agg #[.int .u8 3,.string ⟨#[]⟩,.string n,.int .i64 0,.slice none 0 0]) (by simp [results,Tryz.results77,go_sem]) rfl ?_
 exact ⟨rfl,below_a1 _ _⟩
set_option maxRecDepth 100000 in
theorem pay10_any (k:Int) (r n:ByteArray) (d:Int) (ad:Option Addr) (m cap:Nat) (w:World):Calls Tryz.prog 29 #[.agg #[.int .u8 k,.string r,.string n,.int .i64 d,.slice ad m cap]] w fun e w' =>
  e = .returned (.agg #[.int .u8 2,.string ⟨#[65,110,110]⟩,.string ⟨#[66,111,98]⟩,.string ⟨#[85,83,68]⟩,.int .u8 k,.string r,.string n,.int .i64 d,.slice ad m cap,.int .i64 0,.slice none 0 0,.slice none 0 0])∧Below w.heap.size w w':=by
 go_enter Tryz.func29,Tryz.ntmps29
 go_wp2
 refine bodyPost_ret (v:=.agg #[.int .u8 2,.string ⟨#[65,110,110]⟩,.string ⟨#[66,111,98]⟩,.string ⟨#[85,83,68]⟩,.int .u8 k,.string r,.string n,.int .i64 d,.slice ad m cap,.int .i64 0,.slice none 0 0,.slice none 0 0]) (by simp [results,Tryz.results29,go_sem]) rfl ?_
 exact ⟨rfl,below_a2 _ _ _⟩
set_option maxRecDepth 100000 in
theorem known10_any (w:World):Calls Tryz.prog 31 #[] w fun e w' => ∃ B,e = .returned (.agg #[.slice (some ⟨B,0,none⟩) 2 2,.slice none 0 0])∧Rd Fx.cells 3 w' (some ⟨B,0,none⟩) fKnown∧Below w.heap.size w w':=by
 go_enter Tryz.func31,Tryz.ntmps31
 go_wp2
 refine bodyPost_ret (v:=.agg #[.slice (some ⟨w.heap.size+1,0,none⟩) 2 2,.slice none 0 0]) (by simp [results,Tryz.results31,go_sem]) rfl ?_
 refine ⟨_,rfl,fun j x hj => ⟨_,0,rfl,fun i u hu => ?_⟩,below_a2 _ _ _⟩
 have h1:=cell_new (w.alloc (.cells #[.slice (some ⟨w.heap.size+1,0,none⟩) 2 2,.slice none 0 0] 33)) (fKnown.flatMap Fx.cells) 89 (flat_get Fx.cells 3 (fun _ => rfl) fKnown j x i u hj hu)
 rw [World.size_alloc] at h1
 rw [Nat.zero_add]
 exact h1
end Go.Proofs.YtcnpaciljmekcaaGreatDoor
