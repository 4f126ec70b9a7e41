/- A part. -/
import Derived.Test.YthdeijdimfjceaaGreatDoorC01
namespace Go.Proofs.YthdeijdimfjceaaGreatDoor
open Go.RowKit
theorem netAcc_two (p c:ByteArray) (l:List Fl) (hl:∀ f ∈ l,ratErr f.am=0):∀ k,k≤l.length→((netAcc p c l k).2=0∧ratErr (netAcc p c l k).1=0)∨(netAcc p c l k).2=14
 | 0,_ => .inl ⟨rfl,by show ratErr ⟨#[48]⟩=0;decide⟩
 | k+1,hk => by
  have hg:l[k]? = some l[k]:=List.getElem?_eq_getElem (by omega)
  have ha:=hl l[k] (List.getElem_mem _)
  rw [netAcc_succ p c hg]
  unfold netStep
  rcases netAcc_two p c l hl k (by omega) with ⟨h0,hr⟩ | h0
  ·have key:∀ z,(sumE (netAcc p c l k).1 l[k].am z=0∧ratErr (mkB (sumS (netAcc p c l k).1 l[k].am z))=0)∨sumE (netAcc p c l k).1 l[k].am z=14:=fun z => by
    by_cases h:sumE (netAcc p c l k).1 l[k].am z=0
    ·exact .inl ⟨h,sumS_rat h⟩
    ·refine .inr ?_
     unfold sumE at h ⊢
     rw [if_neg (fun k => k (by rw [bE,if_pos hr];exact ha))] at h ⊢
     split
     ·rfl
     ·next h2 => rw [if_neg h2] at h;exact absurd rfl h
   rw [if_neg (fun k => k h0)]
   split
   ·exact .inl ⟨h0,hr⟩
   ·split
    ·exact key _
    ·split
     ·exact key _
     ·exact .inl ⟨h0,hr⟩
  ·rw [if_pos (by rw [h0];decide)];exact .inr h0
theorem net_two {p c:ByteArray} {l:List Fl} (h:flowsErr l=0) (hp:isNm (bl p)=true) (hc:isNm (bl c)=true):netE p c l=(netAcc p c l l.length).2∧netS p c l=(netAcc p c l l.length).1∧(((netAcc p c l l.length).2=0∧ratErr (netAcc p c l l.length).1=0)∨(netAcc p c l l.length).2=14):=by
 obtain ⟨e1,e2⟩:=netE_ok (p:=p) (c:=c) h (by rw [hp,hc];rfl)
 exact ⟨e1,e2,netAcc_two p c l (fun f hm => by
  obtain ⟨j,hj,e⟩:=List.mem_iff_getElem.1 hm
  exact ((okP_of_err h) j f (by rw [List.getElem?_eq_getElem hj,e])).1.2.2.2.2.1) l.length (Nat.le_refl _)⟩
end Go.Proofs.YthdeijdimfjceaaGreatDoor

namespace Go.Proofs.YthdeijdimfjceaaGreatDoor
open Go.RowKit
theorem val_ok {c:Con} {p m:ByteArray} {day:Int} {F:List Fx} {C:List Ch} (h:(conR c p m day F C).2=0) :
  (befR c day 100000 F C).1=0∧envErr F C=0∧isNm (bl p)=true∧isNm (bl m)=true∧ratErr (conR c p m day F C).1=0∧rv (conR c p m day F C).1=rsum ((befR c day 100000 F C).2.map (part p m)):=by
 unfold conR at h ⊢
 by_cases h0:(befR c day 100000 F C).1=0
 case neg => rw [if_pos h0] at h;exact absurd h h0
 rw [if_neg (fun k => k h0)] at h ⊢
 obtain ⟨_,hf,_⟩:=flows_ok h0
 have hn:isNm (bl p)=true∧isNm (bl m)=true:=by
  cases h1:isNm (bl p)
  ·have:=(netE_arg (p:=p) (c:=m) hf (by rw [h1];rfl)).1
   change netE p m _=0 at h
   rw [this] at h;cases h
  ·cases h2:isNm (bl m)
   ·have:=(netE_arg (p:=p) (c:=m) hf (by rw [h1,h2];rfl)).1
    change netE p m _=0 at h
    rw [this] at h;cases h
   ·exact ⟨rfl,rfl⟩
 obtain ⟨e1,e2,_⟩:=net_two hf hn.1 hn.2
 change netE p m _=0 at h
 rw [e1] at h
 have hv:=net_val p m _ _ (Nat.le_refl _) h
 rw [List.take_of_length_le (Nat.le_refl _)] at hv
 refine ⟨h0,(befR_fin h0).2.1,hn.1,hn.2,?_,?_⟩
 ·show ratErr (netS p m _)=0;rw [e2];exact hv.1
 ·show rv (netS p m _)=_;rw [e2];exact hv.2
theorem val_two {c:Con} {p m:ByteArray} {day:Int} {F:List Fx} {C:List Ch} (h:(befR c day 100000 F C).1=0) (hp:isNm (bl p)=true) (hm:isNm (bl m)=true):(conR c p m day F C).2=0∨(conR c p m day F C).2=14:=by
 unfold conR
 rw [if_neg (fun k => k h)]
 obtain ⟨e1,_,e3⟩:=net_two (flows_ok h).2.1 hp hm
 show netE p m _=0∨netE p m _=14
 rw [e1]
 exact e3.elim (fun k => .inl k.1) .inr
theorem loss_ok {c:Con} {p m:ByteArray} {day:Int} {F:List Fx} {C:List Ch} {b:ByteArray} {s:List Sh} (h:(lossR c p m day F C b s).2=0) :
  applyE s F C=0∧(conR c p m day (applyF s F C) (applyC s F C)).2=0∧ratErr (lossR c p m day F C b s).1=0∧rv (lossR c p m day F C b s).1=rv b - rv (conR c p m day (applyF s F C) (applyC s F C)).1:=by
 unfold lossR at h ⊢
 by_cases h0:applyE s F C=0
 case neg => rw [if_pos h0] at h;exact absurd h h0
 rw [if_neg (fun k => k h0)] at h ⊢
 by_cases h1:(conR c p m day (applyF s F C) (applyC s F C)).2=0
 case neg => rw [if_pos h1] at h;exact absurd h h1
 rw [if_neg (fun k => k h1)] at h ⊢
 exact ⟨h0,h1,sumS_rat h,rv_sub h⟩
theorem los_ok {l:List (List Sh)} {c:Con} {p m:ByteArray} {day:Int} {F:List Fx} {C:List Ch} (h:losE l c p m day F C=0) :
  l.length≤100∧(conR c p m day F C).2=0∧(∀ s ∈ l,(lossR c p m day F C (conR c p m day F C).1 s).2=0)∧losL l c p m day F C=l.map fun s => (lossR c p m day F C (conR c p m day F C).1 s).1:=by
 have h':=h
 unfold losE at h
 by_cases h0:100 < l.length
 ·rw [if_pos h0] at h;cases h
 rw [if_neg h0] at h
 by_cases h1:(conR c p m day F C).2=0
 case neg => rw [if_pos h1] at h;exact absurd h h1
 rw [if_neg (fun k => k h1)] at h
 exact ⟨by omega,h1,fun s hs => errs_zero h _ (List.mem_map.2 ⟨s,hs,rfl⟩),by unfold losL;rw [if_pos h']⟩
end Go.Proofs.YthdeijdimfjceaaGreatDoor

namespace Go.Proofs.YthdeijdimfjceaaGreatDoor
open Go.ChangeShapes Go.WideShapes Go.ChangeAt Go.RowKit Go.Joins Go.Deep
section
variable {H:Type} {enc:TypeId × Value→H} {P:Program} {w:World} {base:Nat} {sp:Nat→Bool} {held:Bool}
end
section
variable {H:Type} {enc:TypeId × Value→H} {w:World} {sp:Nat→Bool} {held:Bool}
end
theorem bulk_pos {H:Type} (d:DataW H):1≤Rows.uptoBulk d:=by
 cases d with
 | lit l => cases l <;> simp [Rows.uptoBulk]
 | _ => simp [Rows.uptoBulk]
theorem bulks_len {H:Type}:∀ D:List (DataW H),D.length≤Rows.uptoBulkAll D
 | [] => Nat.zero_le _
 | x :: D => by
  have h1:=bulk_pos x
  have h2:=bulks_len D
  simp only [Rows.uptoBulkAll,List.length_cons];omega
theorem cells_shs:Tryz.prog.cellsOf 25=1:=by kernel_rfl
set_option maxRecDepth 100000 in
theorem open_scns {H:Type} {enc:TypeId × Value→H} {W:World} {base:Nat} {v:Value} {d:DataW H} {p:List MemPlace}
  (hv:Value.okWide Tryz.prog W .any base 56 v) (h:DataW.Trod enc Tryz.prog W 0 (fun _ => true) true 56 v d p) (hb:Rows.uptoBulk d≤1048576) :
  ∃ (l:List (List Sh)) (a:Option Addr) (n:Nat),v = .slice a l.length n∧l.length≤1100000∧RdS W a l∧(∀ s ∈ l,s.length≤1100000∧∀ x ∈ s,x.small):=by
 obtain ⟨a0,len,cap0,rfl⟩:=okWide_slice Tryz.underlying56 hv
 obtain ⟨fu,h⟩:=h
 obtain ⟨ad,cap,D,n,hn,he,hcap,hb2,hel⟩:=open_row (m:=1) (by decide) Tryz.underlying56 scn_cells h
 change Rows.uptoBulkAll D+1≤Rows.uptoBulk d at hb2
 obtain ⟨l,hll,hq⟩:=list_of (α:=List Sh) (Q:=fun i s => (∃ b off a cp,ad=some ⟨b,off,none⟩∧W.cell? ⟨b,off+i,none⟩=some (.slice a s.length cp)∧Rd Sh.cells 4 W a s)∧s.length≤1100000∧∀ x ∈ s,x.small) D.length (fun i hi => by
  obtain ⟨a,cs,z,ha,hs,hlc,hcell,ht,hD⟩:=hel i hi
  obtain ⟨c0,rfl⟩:∃ c,cs=[c]:=by
   match cs,hlc with
   | [c],_ => exact ⟨c,rfl⟩
  obtain ⟨xs,n',_,hz,_,hxl,hf⟩:=DataW.trod_struct Tryz.underlying28 ht
  obtain ⟨y0,rfl⟩:∃ y,xs=[y]:=by
   match xs,hxl with
   | [y],_ => exact ⟨y,rfl⟩
  have h0:=hf 0 _ rfl
  simp [cells_shs] at h0
  have hbz:Rows.uptoBulk z.1≤1048576:=by
   have:=bulk_part (H:=H) (d:=z.1) (l:=D) (List.mem_of_getElem? hD)
   omega
  have hby:Rows.uptoBulk y0.1≤1048576:=Nat.le_trans (by rw [hz];exact bulk_agg (by simp)) hbz
  obtain ⟨a2,cd,s,rfl,had,sd,ld,gd⟩:=open_list Sh.cells 4 (fun _ => rfl) (by decide) (fun f d => (Rows.uptoBulk d≤1048576→f.small)) Tryz.underlying25 sh_cells (fun _ _ _ hl h => dec_sh hl h) h0
  refine ⟨s,⟨a.block,a.off,a2,cd,?_,?_,Rd.of_sl (enc:=Sh.cells) (m:=4) (fun _ => rfl) (by decide) sd⟩,by omega,fun f hf => by obtain ⟨d,h,hd⟩:=gd f hf;exact h (by omega)⟩
  ·rw [ha];cases a;simp at hs;subst hs;rfl
  ·have h1:=hcell 0 (by decide)
   rw [addr_spot hs] at h1
   simpa using h1)
 refine ⟨l,ad,cap,by rw [hll];exact he,?_,fun j s hj => (hq j s hj).1,fun s hs => ?_⟩
 ·have:=bulks_len D
  omega
 ·obtain ⟨j,hj,rfl⟩:=List.getElem_of_mem hs
  exact (hq j _ (List.getElem?_eq_getElem hj)).2
end Go.Proofs.YthdeijdimfjceaaGreatDoor

namespace Go.Proofs.YthdeijdimfjceaaGreatDoor
open Go.RowKit
theorem small_of_scn {l:List Sh} (h:scnGreat l=false):l.length≤110∧∀ x ∈ l,x.nm.size≤1000∧x.ra.size≤1000∧x.ex.size≤1000:=by
 unfold scnGreat at h
 simp only [Bool.or_eq_false_iff,decide_eq_false_iff_not,List.any_eq_false] at h
 refine ⟨by omega,fun x hx => ?_⟩
 have:=h.2 x hx
 unfold shGreat at this
 simp only [decide_eq_true_eq] at this
 omega
theorem fxSum_mem {l:List Fx} {f:Fx} (h:f ∈ l):f.vl.size≤fxSum l:=by
 induction l with
 | nil => cases h
 | cons x l ih =>
  rw [fxSum]
  rcases List.mem_cons.1 h with rfl | h
  ·omega
  ·have:=ih h;omega
theorem small_of_great {fs:List Fx} {cs:List Ch} (h:greatB fs cs=false):∀ f ∈ fs,f.vl.size≤20000:=fun f hf => by
 unfold greatB at h
 simp only [decide_eq_false_iff_not,not_or] at h
 have:=fxSum_mem hf
 omega
theorem scnSz_of {l:List Sh} (h:scnGreat l=false):ScnSz l:=by
 obtain ⟨h1,h2⟩:=small_of_scn h
 exact ⟨by omega,fun x hx => by have:=h2 x hx;exact ⟨⟨by omega,by omega,by omega⟩,by omega,by omega⟩⟩
def GrP (w:World) (P:Prop) (e:Ending) (w':World):Prop:=∃ b:Bool,e = .returned (.bool b)∧(b=false→P)∧Below w.heap.size w w'
def ListOk (l:List (List Sh)):Prop:=l.length≤110∧∀ s ∈ l,scnGreat s=false
set_option maxHeartbeats 2000000 in
set_option maxRecDepth 100000 in
theorem greatList_any (l:List (List Sh)) (al:Option Addr) (cl:Nat) (w:World) (hl:l.length≤1100000) (hr:RdS w al l) (hs:∀ s ∈ l,s.length≤1100000∧∀ x ∈ s,x.small) :
  Calls Tryz.prog 41 #[.slice al l.length cl] w (GrP w (ListOk l)):=by
 have HR:=Lib.hid hr
 have HS:=Lib.hid hs
 obtain ⟨n,hn⟩:∃ n,l.length=n:=⟨_,rfl⟩
 have HN:=Lib.hid hn
 rw [hn] at hl ⊢
 clear hr hs hn
 by_cases h1:110 < n
 ·have t1:decide ((110:Int) < (n:Int))=true:=by rw [decide_eq_true_eq];omega
  clear h1
  go_enter Tryz.func41,Tryz.ntmps41
  go_wp2
  go_ret
  exact ⟨_,rfl,(fun h => by cases h),Below.refl _ _⟩
 have t1:decide ((110:Int) < (n:Int))=false:=by rw [decide_eq_false_iff_not];omega
 have H1:=Lib.hid h1
 clear h1
 go_enter Tryz.func41,Tryz.ntmps41
 go_wp2_with fail
 go_loopw [3] (fun i wr => ∃ k:Nat,k≤n∧i = .int .i64 k∧Hid (∀ y ∈ l.take k,scnGreat y=false)∧Below w.heap.size w wr) (fun i _ => n - (intOf i).toNat)
 case atStart => exact ⟨0,Nat.zero_le _,rfl,Lib.hid (by simp),Below.refl _ _⟩
 case round =>
  obtain ⟨k,hk,rfl,Hall,hbel⟩:=hrel
  by_cases hlt:k < n
  ·obtain ⟨s,hsg⟩:∃ s,l[k]? = some s:=⟨_,List.getElem?_eq_getElem (by rw [HN.out];exact hlt)⟩
   obtain ⟨b,off,a,cp,rfl,c0,hsr⟩:=(HR.out.below hbel) k s hsg
   have hsm:=HS.out s (List.mem_of_getElem? hsg)
   have HG:=Lib.hid (scnGreat_any s a cp wr hsm.1 hsr hsm.2)
   have hk1:(0:Int)≤(k:Int):=by omega
   have hk2:(k:Int) < (n:Int):=by omega
   have hsz:=hbel.size
   have hblk:b < wr.heap.size:=World.block_lt_of_cell? wr _ c0
   have hsl:∃ q,s.length=q:=⟨_,rfl⟩
   have HT:Hid (scnGreat s=false→∀ y ∈ l.take (k+1),scnGreat y=false):=Lib.hid fun h y hy => by
    rw [take_snoc_get hsg,List.mem_append,List.mem_singleton] at hy
    rcases hy with hy | rfl
    ·exact Hall.out y hy
    ·exact h
   generalize scnGreat s=g at HG HT
   obtain ⟨q,hq⟩:=hsl
   rw [hq] at HG c0
   have hsg2:=Lib.hid hsg
   clear hsm hsr hsg hq
   go_wp2_with fail
   refine HG.out.mono ?_
   rintro e w1 ⟨rfl,hb1⟩
   have hbA:=hbel.trans (hb1.mono hsz)
   have d0:w1.cell? ⟨b,off+k,none⟩=some (.slice a q cp):=by rw [hb1.cell (p:=⟨b,off+k,none⟩) hblk];exact c0
   clear HG hb1 hbel c0
   cases g with
   | true =>
    go_wp2
    go_ret
    exact ⟨_,rfl,(fun h => by cases h),hbA⟩
   | false =>
    have HT2:=Lib.hid (HT.out rfl)
    clear HT
    by_cases h5:5 < n
    ·have u5:(5:Int) < (n:Int):=by omega
     have v5:decide ((5:Int) < (n:Int))=true:=by rw [decide_eq_true_eq];omega
     by_cases h100:n < 100
     ·have u6:(n:Int) < 100:=by omega
      have v6:decide ((n:Int) < 100)=true:=by rw [decide_eq_true_eq];omega
      clear h5 h100
      go_wp2
      go_ret
      exact ⟨_,rfl,(fun h => by cases h),hbA⟩
     ·have u6 : ¬ (n:Int) < 100:=by omega
      have v6:decide ((n:Int) < 100)=false:=by rw [decide_eq_false_iff_not];omega
      by_cases hq0:0 < q
      ·have u7:(0:Int) < (q:Int):=by omega
       have v7:decide ((0:Int) < (q:Int))=true:=by rw [decide_eq_true_eq];omega
       clear h5 h100
       go_wp2
       go_ret
       exact ⟨_,rfl,(fun h => by cases h),hbA⟩
      ·have u7 : ¬ (0:Int) < (q:Int):=by omega
       have v7:decide ((0:Int) < (q:Int))=false:=by rw [decide_eq_false_iff_not];omega
       clear h5 h100 hq0
       go_wp2
       go_roundw
       case rel => exact ⟨k+1,by omega,by go_num,HT2,hbA⟩
       case measure => simp [intOf];omega
    ·have u5 : ¬ (5:Int) < (n:Int):=by omega
     have v5:decide ((5:Int) < (n:Int))=false:=by rw [decide_eq_false_iff_not];omega
     clear h5
     go_wp2
     go_roundw
     case rel => exact ⟨k+1,by omega,by go_num,HT2,hbA⟩
     case measure => simp [intOf];omega
  ·obtain rfl:k=n:=by omega
   have HX:Hid (ListOk l):=Lib.hid ⟨by have:=H1.out;have:=HN.out;omega,fun s hs => by
    have h:=Hall.out
    rw [List.take_of_length_le (by rw [HN.out];exact Nat.le_refl _)] at h
    exact h s hs⟩
   go_wp2
   go_ret
   exact ⟨_,rfl,fun _ => HX.out,hbel⟩
structure GrOk (l:List (List Sh)) (p m:ByteArray) (E:EvD):Prop where
 n:l.length≤110
 z:∀ s ∈ l,ScnSz s
 v:∀ f ∈ E.F,f.vl.size≤1000000
 p:p.size≤1000
 m:m.size≤1000
set_option maxHeartbeats 4000000 in
set_option maxRecDepth 100000 in
theorem great32_any (l:List (List Sh)) (c:Con) (es dd ss:Value) (p m:ByteArray) (E:EvD) (al:Option Addr) (cl:Nat) (w:World) (hl:l.length≤1100000) (hr:RdS w al l) (hz:∀ s ∈ l,s.length≤1100000∧∀ x ∈ s,x.small)
  (hB:c.bulk≤2000000) (hs:RdN w c es dd ss) (hE:E.Rd w) (hf:∀ f ∈ E.F,f.small) (hc:∀ c ∈ E.C,c.small) :
  Calls Tryz.prog 21 #[.slice al l.length cl,c.val es dd ss,.string p,.string m,E.val] w (GrP w (GrOk l p m E)):=by
 obtain ⟨ad,cap,rfl⟩:=hs.2.2.1.len
 obtain ⟨ad1,cap1,rfl⟩:=hs.1.len
 obtain ⟨ad2,cap2,rfl⟩:=hs.2.1.len
 obtain ⟨W0,hW0,hb0,hz0,bx⟩:=bx2_world w c (.slice ad1 c.ex.sub.length cap1) (.slice ad2 c.ds.length cap2) (.slice ad c.sub.length cap) E
 have HL:=Lib.hid (greatList_any l al cl W0 hl (hr.below hb0) hz)
 have HG:Hid (∀ W,Below W0.heap.size W0 W→Calls Tryz.prog 42 #[.agg #[.int .u8 c.k,.string c.fr,.string c.rc,.string c.nm,.int .u8 c.ex.k,.string c.ex.ra,.string c.ex.nm,.int .i64 c.ex.d,.slice ad1 c.ex.sub.length cap1,.int .i64 c.d,.slice ad2 c.ds.length cap2,.slice ad c.sub.length cap]] W (BoolPost W)):=Lib.hid fun W hb => cgreat_any c _ _ _ W hB ((hs.frame hb0).frame hb)
 have HE:Hid (∀ W,Below W0.heap.size W0 W→Calls Tryz.prog 19 #[.agg #[.slice E.af E.F.length E.cf,.slice E.ac E.C.length E.cc]] W fun e w' => e = .returned (.bool (greatB E.F E.C))∧Below W.heap.size W w'):=Lib.hid fun W hb => great_any E.F E.C E.af E.ac E.cf E.cc W hE.nf hE.nc ((hE.frame hb0).frame hb).f ((hE.frame hb0).frame hb).c hf hc
 have HH:Hid (∀ W,Below W0.heap.size W0 W→Calls Tryz.prog 43 #[.agg #[.int .u8 c.k,.string c.fr,.string c.rc,.string c.nm,.int .u8 c.ex.k,.string c.ex.ra,.string c.ex.nm,.int .i64 c.ex.d,.slice ad1 c.ex.sub.length cap1,.int .i64 c.d,.slice ad2 c.ds.length cap2,.slice ad c.sub.length cap],.agg #[.slice E.af E.F.length E.cf,.slice E.ac E.C.length E.cc]] W (BoolPost W)):=Lib.hid fun W hb => heavy_any c _ _ _ E W hB ((hs.frame hb0).frame hb) ((hE.frame hb0).frame hb)
 have HOk:Hid (ListOk l→greatB E.F E.C=false→p.size≤1000→m.size≤1000→GrOk l p m E):=Lib.hid fun h1 h2 h3 h4 =>
  ⟨h1.1,fun s hs => scnSz_of (h1.2 s hs),fun f hf => by have:=small_of_great h2 f hf;omega,h3,h4⟩
 generalize greatB E.F E.C=g at HE HOk
 unfold GrP at HL
 have HB:=Lib.hid bx
 have Hb0:=Lib.hid hb0
 clear hs bx hE hb0 hf hc hr hz
 show Calls _ _ #[.slice al l.length cl,.agg #[.int .u8 c.k,.string c.fr,.string c.rc,.string c.nm,.int .u8 c.ex.k,.string c.ex.ra,.string c.ex.nm,.int .i64 c.ex.d,.slice ad1 c.ex.sub.length cap1,.int .i64 c.d,.slice ad2 c.ds.length cap2,.slice ad c.sub.length cap],.string p,.string m,.agg #[.slice E.af E.F.length E.cf,.slice E.ac E.C.length E.cc]] _ _
 go_enter Tryz.func21,Tryz.ntmps21
 go_upto_region 1 with (fail)
 clear hW0
 go_wp2_with fail
 refine HL.out.mono ?_
 rintro e w1 ⟨b1,rfl,hp,hb1⟩
 have hbA:=Lib.hid (Hb0.out.trans (hb1.mono Hb0.out.size))
 have HPl:=Lib.hid hp
 clear HL hp
 cases b1
 case true =>
  clear hb1
  go_wp2
  go_ret
  exact ⟨_,rfl,(fun h => by cases h),hbA.out⟩
 have HP1:=Lib.hid (HPl.out rfl)
 clear HPl
 obtain ⟨x0,x1,x2,x3,x4,x5,x6,x7,x8,x9,x10,x11,x12,x13⟩:=(HB.out.below hb1).all
 go_wp2_with fail
 refine (HG.out _ hb1).mono ?_
 rintro e w2 ⟨⟨b2,rfl⟩,hb2⟩
 have hbB:=Lib.hid (hbA.out.trans (hb2.mono hbA.out.size))
 have hb12:=hb1.trans (hb2.mono hb1.size)
 clear x0 x1 x2 x3 x4 x5 x6 x7 x8 x9 x10 x11 x12 x13 HG hb1 hb2
 cases b2
 case true =>
  clear hb12
  go_wp2
  go_ret
  exact ⟨_,rfl,(fun h => by cases h),hbB.out⟩
 obtain ⟨x0,x1,x2,x3,x4,x5,x6,x7,x8,x9,x10,x11,x12,x13⟩:=(HB.out.below hb12).all
 go_wp2_with fail
 refine (HE.out _ hb12).mono ?_
 rintro e w3 ⟨rfl,hb3⟩
 have hbC:=Lib.hid (hbB.out.trans (hb3.mono hbB.out.size))
 have hb13:=hb12.trans (hb3.mono hb12.size)
 clear x0 x1 x2 x3 x4 x5 x6 x7 x8 x9 x10 x11 x12 x13 HE hb12 hb3
 cases g
 case true =>
  clear hb13
  go_wp2
  go_ret
  exact ⟨_,rfl,(fun h => by cases h),hbC.out⟩
 obtain ⟨x0,x1,x2,x3,x4,x5,x6,x7,x8,x9,x10,x11,x12,x13⟩:=(HB.out.below hb13).all
 go_wp2_with fail
 refine (HH.out _ hb13).mono ?_
 rintro e w4 ⟨⟨b4,rfl⟩,hb4⟩
 have hbD:=Lib.hid (hbC.out.trans (hb4.mono hbC.out.size))
 clear x0 x1 x2 x3 x4 x5 x6 x7 x8 x9 x10 x11 x12 x13 HH hb13 hb4
 cases b4
 case true =>
  go_wp2
  go_ret
  exact ⟨_,rfl,(fun h => by cases h),hbD.out⟩
 by_cases h5:1000 < p.size
 ·have u5:(1000:Int) < (p.size:Int):=by omega
  have v5:decide ((1000:Int) < (p.size:Int))=true:=decide_eq_true u5
  clear h5
  go_wp2
  go_ret
  exact ⟨_,rfl,(fun h => by cases h),hbD.out⟩
 have u5 : ¬ (1000:Int) < (p.size:Int):=by omega
 have v5:decide ((1000:Int) < (p.size:Int))=false:=decide_eq_false u5
 by_cases h6:1000 < m.size
 ·have u6:(1000:Int) < (m.size:Int):=by omega
  have v6:decide ((1000:Int) < (m.size:Int))=true:=decide_eq_true u6
  clear h5 h6
  go_wp2
  go_ret
  exact ⟨_,rfl,(fun h => by cases h),hbD.out⟩
 have u6 : ¬ (1000:Int) < (m.size:Int):=by omega
 have v6:decide ((1000:Int) < (m.size:Int))=false:=decide_eq_false u6
 have HX:=Lib.hid (HOk.out HP1.out (by first | rfl | trivial) (by omega) (by omega))
 clear h5 h6
 go_wp2
 go_ret
 exact ⟨_,rfl,fun _ => HX.out,hbD.out⟩
end Go.Proofs.YthdeijdimfjceaaGreatDoor

namespace Go.Proofs.YthdeijdimfjceaaGreatDoor
open Go.RowKit
theorem rdC_two {w:World} {B cap:Nat} {x y:Con} {es dd ss es2 dd2 ss2:Value} (hc:∀ i u,(x.cells es dd ss ++ y.cells es2 dd2 ss2)[i]? = some u→w.cell? ⟨B,i,none⟩=some u) (hr:RdN w x es dd ss) (hr2:RdN w y es2 dd2 ss2):RdC w [x,y] (.slice (some ⟨B,0,none⟩) 2 cap):=by
 refine .mk (some ⟨B,0,none⟩) cap [x,y] (fun j => if j=0 then es else es2) (fun j => if j=0 then dd else dd2) (fun j => if j=0 then ss else ss2) (fun j z h => ?_) (fun j z h => ?_) (fun j z h => ?_) (fun j z h => ?_)
 ·match j,h with
  | 0,h =>
   cases h
   refine ⟨hr.2.2.2,B,0,rfl,fun i u hu => ?_⟩
   have hi:i < 12:=(List.getElem?_eq_some_iff.1 hu).1
   rw [show 0+0 * 12+i=i by omega]
   exact hc i u (by rw [List.getElem?_append_left hi];exact hu)
  | 1,h =>
   cases h
   refine ⟨hr2.2.2.2,B,0,rfl,fun i u hu => ?_⟩
   rw [show 0+1 * 12+i=12+i by omega]
   exact hc (12+i) u (by rw [List.getElem?_append_right (by show 12≤_;omega)];show _[12+i - 12]? = _;rw [Nat.add_sub_cancel_left];exact hu)
 ·match j,h with
  | 0,h => cases h;exact hr.1
  | 1,h => cases h;exact hr2.1
 ·match j,h with
  | 0,h => cases h;exact hr.2.1
  | 1,h => cases h;exact hr2.2.1
 ·match j,h with
  | 0,h => cases h;exact hr.2.2.1
  | 1,h => cases h;exact hr2.2.2.1
end Go.Proofs.YthdeijdimfjceaaGreatDoor

namespace Go.Proofs.YthdeijdimfjceaaGreatDoor
open Go.RowKit
theorem rsum_ins (g:Fl→Rat):∀ (n:Nat) (a b:List Fl),a.length+b.length≤n→rsum ((mrgFl a b).map g)=rsum (a.map g)+rsum (b.map g):=by
 intro n
 induction n with
 | zero =>
  intro a b h
  obtain rfl:a=[]:=List.length_eq_zero_iff.1 (by omega)
  obtain rfl:b=[]:=List.length_eq_zero_iff.1 (by omega)
  rw [mrgFl];exact (Rat.add_zero 0).symm
 | succ n ih =>
  intro a b h
  match a,b with
  | [],b => rw [mrgFl];exact (Rat.zero_add _).symm
  | x :: a,[] => rw [mrgFl_nil];exact (Rat.add_zero _).symm
  | x :: a,y :: b =>
   rw [mrgFl]
   split
   ·rw [List.map_cons,rsum,ih _ _ (by simp only [List.length_cons] at h ⊢;omega),List.map_cons,List.map_cons,rsum,rsum];grind
   ·rw [List.map_cons,rsum,ih _ _ (by simp only [List.length_cons] at h ⊢;omega),List.map_cons,List.map_cons,rsum,rsum];grind
theorem rsum_mrg (g:Fl→Rat) (a b:List Fl):rsum ((mrgFl a b).map g)=rsum (a.map g)+rsum (b.map g):=by
 cases a with
 | nil => rw [mrgFl];exact (Rat.zero_add _).symm
 | cons x a => exact rsum_ins g _ _ _ (Nat.le_refl _)
theorem con_both {a b:Con} {p m:ByteArray} {day:Int} {F:List Fx} {C:List Ch} (h:(bothM a b).err=0) (ha:(conR a p m day F C).2=0) (hb:(conR b p m day F C).2=0) :
  (conR (bothM a b) p m day F C).2=14∨((conR (bothM a b) p m day F C).2=0∧ratErr (conR (bothM a b) p m day F C).1=0∧rv (conR (bothM a b) p m day F C).1=rv (conR a p m day F C).1+rv (conR b p m day F C).1):=by
 obtain ⟨a1,a2,a3,a4,a5,a6⟩:=val_ok ha
 obtain ⟨b1,b2,b3,b4,b5,b6⟩:=val_ok hb
 have hB:=(befR_both a b day 100000 F C h).2.2 a1 b1
 have h0:(befR (bothM a b) day 100000 F C).1=0:=by rw [hB]
 rcases val_two (p:=p) (m:=m) h0 a3 a4 with h2 | h2
 ·obtain ⟨c1,c2,c3,c4,c5,c6⟩:=val_ok h2
  refine .inr ⟨h2,c5,?_⟩
  rw [c6,a6,b6,hB,rsum_mrg]
 ·exact .inl h2
theorem loss_both {a b:Con} {p m:ByteArray} {day:Int} {F:List Fx} {C:List Ch} {s:List Sh} (h:(bothM a b).err=0) (ha:(conR a p m day F C).2=0) (hb:(conR b p m day F C).2=0)
  (h0:(conR (bothM a b) p m day F C).2=0) (la:(lossR a p m day F C (conR a p m day F C).1 s).2=0) (lb:(lossR b p m day F C (conR b p m day F C).1 s).2=0) :
  (lossR (bothM a b) p m day F C (conR (bothM a b) p m day F C).1 s).2=14∨((lossR (bothM a b) p m day F C (conR (bothM a b) p m day F C).1 s).2=0∧ratErr (lossR (bothM a b) p m day F C (conR (bothM a b) p m day F C).1 s).1=0 ∧
   rv (lossR (bothM a b) p m day F C (conR (bothM a b) p m day F C).1 s).1=rv (lossR a p m day F C (conR a p m day F C).1 s).1+rv (lossR b p m day F C (conR b p m day F C).1 s).1):=by
 obtain ⟨a1,a2,a3,a4⟩:=loss_ok la
 obtain ⟨b1,b2,b3,b4⟩:=loss_ok lb
 have key:(lossR (bothM a b) p m day F C (conR (bothM a b) p m day F C).1 s).2=14∨(lossR (bothM a b) p m day F C (conR (bothM a b) p m day F C).1 s).2=0:=by
  unfold lossR
  rw [if_neg (fun k => k a1)]
  rcases con_both h a2 b2 with h1 | ⟨h1,h2,_⟩
  ·rw [if_pos (by rw [h1];decide)];exact .inl h1
  ·rw [if_neg (fun k => k h1)]
   have hr:=(val_ok h0).2.2.2.2.1
   exact (add_two _ hr h2).symm
 rcases key with hk | hk
 ·exact .inl hk
 ·obtain ⟨c1,c2,c3,c4⟩:=loss_ok hk
  refine .inr ⟨hk,c3,?_⟩
  rw [c4,a4,b4]
  have e1:=(con_both h ha hb).resolve_left (by rw [h0];decide)
  have e2:=(con_both h a2 b2).resolve_left (by rw [c2];decide)
  rw [e1.2.2,e2.2.2];grind
theorem adds_law {a b:Con} {p m:ByteArray} {day:Int} {F:List Fx} {C:List Ch} {l:List (List Sh)} (h:(bothM a b).err=0) (ha:losE l a p m day F C=0) (hb:losE l b p m day F C=0) (hg:losE l (bothM a b) p m day F C ≠ 14) :
  losE l (bothM a b) p m day F C=0∧(losL l a p m day F C).length=l.length∧(losL l b p m day F C).length=l.length∧(losL l (bothM a b) p m day F C).length=l.length ∧
  ∀ (k:Nat) (x y z:ByteArray),(losL l a p m day F C)[k]? = some x→(losL l b p m day F C)[k]? = some y→(losL l (bothM a b) p m day F C)[k]? = some z→sumE x y (addZ x y)=14∨(sumE x y (addZ x y)=0∧mkB (sumS x y (addZ x y))=z):=by
 obtain ⟨a1,a2,a3,a4⟩:=los_ok ha
 obtain ⟨b1,b2,b3,b4⟩:=los_ok hb
 have h2:(conR (bothM a b) p m day F C).2=0:=by
  rcases con_both h a2 b2 with k | ⟨k,_⟩
  ·refine absurd ?_ hg
   unfold losE
   rw [if_neg (by omega),if_pos (by rw [k];decide)];exact k
  ·exact k
 have h3:losE l (bothM a b) p m day F C=0:=by
  have e:losE l (bothM a b) p m day F C=errs (l.map fun s => (lossR (bothM a b) p m day F C (conR (bothM a b) p m day F C).1 s).2):=by
   unfold losE
   rw [if_neg (by omega),if_neg (fun k => k h2)]
  rw [e] at hg ⊢
  refine (errs_two fun e he => ?_).resolve_right hg
  obtain ⟨s,hs,rfl⟩:=List.mem_map.1 he
  rcases loss_both h a2 b2 h2 (a3 s hs) (b3 s hs) with k | ⟨k,_⟩
  ·exact .inr k
  ·exact .inl k
 obtain ⟨c1,c2,c3,c4⟩:=los_ok h3
 refine ⟨h3,by rw [a4,List.length_map],by rw [b4,List.length_map],by rw [c4,List.length_map],fun k x y z hx hy hz => ?_⟩
 rw [a4,List.getElem?_map] at hx
 rw [b4,List.getElem?_map] at hy
 rw [c4,List.getElem?_map] at hz
 obtain ⟨s,hs,rfl⟩:=Option.map_eq_some_iff.1 hx
 obtain ⟨s2,hs2,rfl⟩:=Option.map_eq_some_iff.1 hy
 obtain ⟨s3,hs3,rfl⟩:=Option.map_eq_some_iff.1 hz
 obtain rfl:s=s2:=Option.some.inj (hs.symm.trans hs2)
 obtain rfl:s=s3:=Option.some.inj (hs.symm.trans hs3)
 have hm:=List.mem_of_getElem? hs
 obtain ⟨e1,e2,e3⟩:=(loss_both h a2 b2 h2 (a3 s hm) (b3 s hm)).resolve_left (by rw [c3 s hm];decide)
 have ra:=(loss_ok (a3 s hm)).2.2.1
 have rb:=(loss_ok (b3 s hm)).2.2.1
 rcases add_two (addZ (lossR a p m day F C (conR a p m day F C).1 s).1 (lossR b p m day F C (conR b p m day F C).1 s).1) ra rb with k | k
 ·exact .inr ⟨k,rv_inj (sumS_rat k) e2 (by rw [rv_add k,e3])⟩
 ·exact .inl k
end Go.Proofs.YthdeijdimfjceaaGreatDoor

namespace Go.Proofs.YthdeijdimfjceaaGreatDoor
open Go.RowKit
structure By2 (W:World) (B:Nat) (a b:Con) (es dd ss es2 dd2 ss2:Value) (E:EvD):Prop where
 a:BoxN W B 51 (a.cells es dd ss)
 b:BoxN W (B+1) 51 (b.cells es2 dd2 ss2)
 v:BoxN W (B+1+1) 32 [.slice E.af E.F.length E.cf,.slice E.ac E.C.length E.cc]
theorem By2.below {W W':World} {B:Nat} {a b:Con} {es dd ss es2 dd2 ss2:Value} {E:EvD} (h:By2 W B a b es dd ss es2 dd2 ss2 E) (hb:Below W.heap.size W W'):By2 W' B a b es dd ss es2 dd2 ss2 E :=
 ⟨h.a.below hb h.a.lt,h.b.below hb h.b.lt,h.v.below hb h.v.lt⟩
theorem by2_world (w:World) (a b:Con) (es dd ss es2 dd2 ss2:Value) (E:EvD):∃ W,((w.alloc (.cells (a.cells es dd ss).toArray 51)).alloc (.cells (b.cells es2 dd2 ss2).toArray 51)).alloc (.cells #[.slice E.af E.F.length E.cf,.slice E.ac E.C.length E.cc] 32)=W∧Below w.heap.size w W∧w.heap.size+3≤W.heap.size∧By2 W w.heap.size a b es dd ss es2 dd2 ss2 E:=by
 refine ⟨_,rfl,below_a3 _ _ _ _,by simp,?_⟩
 have h1:=BoxN.new w (a.cells es dd ss) 51
 have h2:=BoxN.new (w.alloc (.cells (a.cells es dd ss).toArray 51)) (b.cells es2 dd2 ss2) 51
 have h3:=BoxN.new ((w.alloc (.cells (a.cells es dd ss).toArray 51)).alloc (.cells (b.cells es2 dd2 ss2).toArray 51)) [.slice E.af E.F.length E.cf,.slice E.ac E.C.length E.cc] 32
 simp only [World.size_alloc] at h2 h3
 exact ⟨(h1.alloc _).alloc _,h2.alloc _,h3⟩
theorem By2.allA {W:World} {B:Nat} {a b:Con} {es dd ss es2 dd2 ss2:Value} {E:EvD} (h:By2 W B a b es dd ss es2 dd2 ss2 E):W.cell? ⟨B,0,none⟩=some (.int .u8 a.k)∧W.cell? ⟨B,1,none⟩=some (.string a.fr)∧W.cell? ⟨B,2,none⟩=some (.string a.rc)∧W.cell? ⟨B,3,none⟩=some (.string a.nm)∧W.cell? ⟨B,4,none⟩=some (.int .u8 a.ex.k)∧W.cell? ⟨B,5,none⟩=some (.string a.ex.ra)∧W.cell? ⟨B,6,none⟩=some (.string a.ex.nm)∧W.cell? ⟨B,7,none⟩=some (.int .i64 a.ex.d)∧W.cell? ⟨B,8,none⟩=some (es)∧W.cell? ⟨B,9,none⟩=some (.int .i64 a.d)∧W.cell? ⟨B,10,none⟩=some (dd)∧W.cell? ⟨B,11,none⟩=some (ss)∧W.cell? ⟨B+1+1,0,none⟩=some (.slice E.af E.F.length E.cf)∧W.cell? ⟨B+1+1,1,none⟩=some (.slice E.ac E.C.length E.cc) :=
 ⟨h.a.cell (j:=0) rfl,h.a.cell (j:=1) rfl,h.a.cell (j:=2) rfl,h.a.cell (j:=3) rfl,h.a.cell (j:=4) rfl,h.a.cell (j:=5) rfl,h.a.cell (j:=6) rfl,h.a.cell (j:=7) rfl,h.a.cell (j:=8) rfl,h.a.cell (j:=9) rfl,h.a.cell (j:=10) rfl,h.a.cell (j:=11) rfl,h.v.cell (j:=0) rfl,h.v.cell (j:=1) rfl⟩
theorem By2.allB {W:World} {B:Nat} {a b:Con} {es dd ss es2 dd2 ss2:Value} {E:EvD} (h:By2 W B a b es dd ss es2 dd2 ss2 E):W.cell? ⟨B+1,0,none⟩=some (.int .u8 b.k)∧W.cell? ⟨B+1,1,none⟩=some (.string b.fr)∧W.cell? ⟨B+1,2,none⟩=some (.string b.rc)∧W.cell? ⟨B+1,3,none⟩=some (.string b.nm)∧W.cell? ⟨B+1,4,none⟩=some (.int .u8 b.ex.k)∧W.cell? ⟨B+1,5,none⟩=some (.string b.ex.ra)∧W.cell? ⟨B+1,6,none⟩=some (.string b.ex.nm)∧W.cell? ⟨B+1,7,none⟩=some (.int .i64 b.ex.d)∧W.cell? ⟨B+1,8,none⟩=some (es2)∧W.cell? ⟨B+1,9,none⟩=some (.int .i64 b.d)∧W.cell? ⟨B+1,10,none⟩=some (dd2)∧W.cell? ⟨B+1,11,none⟩=some (ss2)∧W.cell? ⟨B+1+1,0,none⟩=some (.slice E.af E.F.length E.cf)∧W.cell? ⟨B+1+1,1,none⟩=some (.slice E.ac E.C.length E.cc) :=
 ⟨h.b.cell (j:=0) rfl,h.b.cell (j:=1) rfl,h.b.cell (j:=2) rfl,h.b.cell (j:=3) rfl,h.b.cell (j:=4) rfl,h.b.cell (j:=5) rfl,h.b.cell (j:=6) rfl,h.b.cell (j:=7) rfl,h.b.cell (j:=8) rfl,h.b.cell (j:=9) rfl,h.b.cell (j:=10) rfl,h.b.cell (j:=11) rfl,h.v.cell (j:=0) rfl,h.v.cell (j:=1) rfl⟩
theorem both2 {w:World} {a b:Con} {es dd ss es2 dd2 ss2:Value} (hr:RdN w a es dd ss) (hr2:RdN w b es2 dd2 ss2) :
  RdN ((w.alloc (.cells (a.cells es dd ss ++ b.cells es2 dd2 ss2).toArray 51)).alloc (.cells ((bothM a b).cells (.slice none 0 0) (.slice none 0 0) (.slice (some ⟨w.heap.size,0,none⟩) 2 2)).toArray 51)) (bothM a b) (.slice none 0 0) (.slice none 0 0) (.slice (some ⟨w.heap.size,0,none⟩) 2 2) ∧
  BoxN ((w.alloc (.cells (a.cells es dd ss ++ b.cells es2 dd2 ss2).toArray 51)).alloc (.cells ((bothM a b).cells (.slice none 0 0) (.slice none 0 0) (.slice (some ⟨w.heap.size,0,none⟩) 2 2)).toArray 51)) (w.heap.size+1) 51 ((bothM a b).cells (.slice none 0 0) (.slice none 0 0) (.slice (some ⟨w.heap.size,0,none⟩) 2 2)):=by
 have b1:=below_a1 w (.cells (a.cells es dd ss ++ b.cells es2 dd2 ss2).toArray 51)
 have b2:=below_a1 (w.alloc (.cells (a.cells es dd ss ++ b.cells es2 dd2 ss2).toArray 51)) (.cells ((bothM a b).cells (.slice none 0 0) (.slice none 0 0) (.slice (some ⟨w.heap.size,0,none⟩) 2 2)).toArray 51)
 refine ⟨⟨rdE_nil _,rdI_nil _,(rdC_two (es:=es) (dd:=dd) (ss:=ss) (es2:=es2) (dd2:=dd2) (ss2:=ss2) (fun i u h => cell_new w _ _ h) (hr.frame b1) (hr2.frame b1)).frame b2,by show 3 < 256;decide,by show 0 < 256;decide⟩,?_⟩
 have:=BoxN.new (w.alloc (.cells (a.cells es dd ss ++ b.cells es2 dd2 ss2).toArray 51)) ((bothM a b).cells (.slice none 0 0) (.slice none 0 0) (.slice (some ⟨w.heap.size,0,none⟩) 2 2)) 51
 rw [World.size_alloc] at this
 exact this
theorem both2_bulk (a b:Con):(bothM a b).bulk≤a.bulk+b.bulk+100:=by
 rw [Con.bulk_eq]
 show 0+0+0+xZ.bulk+0+8+Con.bulks [a,b]≤a.bulk+b.bulk+100
 have e1:xZ.bulk=6:=by decide
 have e2:Con.bulks [a,b]=a.bulk+(b.bulk+0):=by rw [Con.bulks,Con.bulks,Con.bulks]
 omega
def LosQ (w:World) (E:Int) (L:List ByteArray) (e:Ending) (w':World):Prop:=∃ a n,e = .returned (.tuple #[.slice a L.length n,.int .i64 E])∧Rd sC 1 w' a L∧Below w.heap.size w w'
theorem LosP.q {w w':World} {E:Int} {L:List ByteArray} {e:Ending} (h:LosP w E L e w'):LosQ w E L e w':=by
 obtain ⟨v,rfl,ho,hb⟩:=h
 have hv:∃ a n,v = .slice a L.length n:=by
  rcases ho.2 with ⟨e1,h0⟩ | ⟨g,cap,cur,e1,_⟩
  ·exact ⟨none,0,by rw [e1,h0]⟩
  ·exact ⟨_,_,e1⟩
 obtain ⟨a,n,rfl⟩:=hv
 exact ⟨a,n,rfl,rd_st ho rfl,hb⟩
theorem los_size {l:List (List Sh)} {c:Con} {p m:ByteArray} {day:Int} {F:List Fx} {C:List Ch}:∀ x ∈ losL l c p m day F C,x.size≤2010:=fun x hx => by
 unfold losL at hx
 split at hx
 ·obtain ⟨s,_,rfl⟩:=List.mem_map.1 hx
  unfold lossR
  split
  ·exact Nat.zero_le _
  ·split
   ·exact Nat.zero_le _
   ·show (mkB _).size≤_;rw [mkB_size];exact sumS_len _ _ _
 ·cases hx
end Go.Proofs.YthdeijdimfjceaaGreatDoor

namespace Go.Proofs.YthdeijdimfjceaaGreatDoor
open Go.RowKit
set_option maxHeartbeats 8000000 in
set_option maxRecDepth 100000 in
theorem adds32_any (l:List (List Sh)) (a b:Con) (es dd ss es2 dd2 ss2:Value) (p m:ByteArray) (day:Int) (E:EvD) (al:Option Addr) (cl:Nat) (w:World) (hl:l.length≤1100000) (hr:RdS w al l) (hz:∀ s ∈ l,s.length≤1100000∧∀ x ∈ s,x.small)
  (hA:BfH a es dd ss E w) (hB:BfH b es2 dd2 ss2 E w) (hS:EnvS E w) (hab:a.bulk+b.bulk≤1048576) (hp:p.size≤1100000) (hm:m.size≤1100000) :
  Calls Tryz.prog 5 #[.slice al l.length cl,a.val es dd ss,b.val es2 dd2 ss2,.string p,.string m,.int .i64 day,E.val] w fun e w' => e = .returned (.bool true)∧Below w.heap.size w w':=by
 obtain ⟨p1,pn1,rfl⟩:=hA.rd.1.len
 obtain ⟨p2,pn2,rfl⟩:=hA.rd.2.1.len
 obtain ⟨p3,pn3,rfl⟩:=hA.rd.2.2.1.len
 obtain ⟨q1,qn1,rfl⟩:=hB.rd.1.len
 obtain ⟨q2,qn2,rfl⟩:=hB.rd.2.1.len
 obtain ⟨q3,qn3,rfl⟩:=hB.rd.2.2.1.len
 obtain ⟨W0,hW0,hb0,hz0,bx⟩:=by2_world w a b (.slice p1 a.ex.sub.length pn1) (.slice p2 a.ds.length pn2) (.slice p3 a.sub.length pn3) (.slice q1 b.ex.sub.length qn1) (.slice q2 b.ds.length qn2) (.slice q3 b.sub.length qn3) E
 have HX:=Lib.hid bx
 have Hb0:=Lib.hid hb0
 have HAl:=Lib.hid fun W (hb:Below w.heap.size w W) => alive32_any W (hA.frame hb).ls (hA.frame hb).lp (hA.frame hb).lo
 have HG1:Hid (∀ W,Below w.heap.size w W→Calls Tryz.prog 21 #[.slice al l.length cl,.agg #[.int .u8 a.k,.string a.fr,.string a.rc,.string a.nm,.int .u8 a.ex.k,.string a.ex.ra,.string a.ex.nm,.int .i64 a.ex.d,.slice p1 a.ex.sub.length pn1,.int .i64 a.d,.slice p2 a.ds.length pn2,.slice p3 a.sub.length pn3],.string p,.string m,.agg #[.slice E.af E.F.length E.cf,.slice E.ac E.C.length E.cc]] W (GrP W (GrOk l p m E))):=Lib.hid fun W hb => great32_any l a _ _ _ p m E al cl W hl (hr.below hb) hz (by have:=hA.bulk;omega) (hA.frame hb).rd (hA.frame hb).e hA.fs hA.cs
 have HG2:Hid (∀ W,Below w.heap.size w W→Calls Tryz.prog 21 #[.slice al l.length cl,.agg #[.int .u8 b.k,.string b.fr,.string b.rc,.string b.nm,.int .u8 b.ex.k,.string b.ex.ra,.string b.ex.nm,.int .i64 b.ex.d,.slice q1 b.ex.sub.length qn1,.int .i64 b.d,.slice q2 b.ds.length qn2,.slice q3 b.sub.length qn3],.string p,.string m,.agg #[.slice E.af E.F.length E.cf,.slice E.ac E.C.length E.cc]] W (GrP W (GrOk l p m E))):=Lib.hid fun W hb => great32_any l b _ _ _ p m E al cl W hl (hr.below hb) hz (by have:=hB.bulk;omega) (hB.frame hb).rd (hB.frame hb).e hB.fs hB.cs
 have HL1:Hid (GrOk l p m E→∀ W,Below w.heap.size w W→Calls Tryz.prog 15 #[.slice al l.length cl,.agg #[.int .u8 a.k,.string a.fr,.string a.rc,.string a.nm,.int .u8 a.ex.k,.string a.ex.ra,.string a.ex.nm,.int .i64 a.ex.d,.slice p1 a.ex.sub.length pn1,.int .i64 a.d,.slice p2 a.ds.length pn2,.slice p3 a.sub.length pn3],.string p,.string m,.int .i64 day,.agg #[.slice E.af E.F.length E.cf,.slice E.ac E.C.length E.cc]] W (LosQ W (losE l a p m day E.F E.C) (losL l a p m day E.F E.C))):=Lib.hid fun h W hb => (losses_any l a _ _ _ p m day E al cl W hl (hr.below hb) h.z (hA.frame hb) (hS.frame hb) h.v hp hm).mono fun _ _ h => h.q
 have HL2:Hid (GrOk l p m E→∀ W,Below w.heap.size w W→Calls Tryz.prog 15 #[.slice al l.length cl,.agg #[.int .u8 b.k,.string b.fr,.string b.rc,.string b.nm,.int .u8 b.ex.k,.string b.ex.ra,.string b.ex.nm,.int .i64 b.ex.d,.slice q1 b.ex.sub.length qn1,.int .i64 b.d,.slice q2 b.ds.length qn2,.slice q3 b.sub.length qn3],.string p,.string m,.int .i64 day,.agg #[.slice E.af E.F.length E.cf,.slice E.ac E.C.length E.cc]] W (LosQ W (losE l b p m day E.F E.C) (losL l b p m day E.F E.C))):=Lib.hid fun h W hb => (losses_any l b _ _ _ p m day E al cl W hl (hr.below hb) h.z (hB.frame hb) (hS.frame hb) h.v hp hm).mono fun _ _ h => h.q
 have HRD:=Lib.hid (And.intro hr (And.intro hA.rd (And.intro hB.rd (And.intro hS hA))))
 have hbb:(bothM a b).bulk≤1100000:=by have:=both2_bulk a b;omega
 have HN:Hid (l.length≤1100000):=Lib.hid hl
 obtain ⟨n,hn⟩:∃ n,l.length=n:=⟨_,rfl⟩
 have HNn:=Lib.hid hn
 have HZ:=Lib.hid hz
 have HPM:=Lib.hid (And.intro hp hm)
 rw [hn] at HG1 HG2 HL1 HL2 hl
 clear hA hB bx hb0 hab hr hz hS hp hm
 show Calls _ _ #[.slice al l.length cl,.agg #[.int .u8 a.k,.string a.fr,.string a.rc,.string a.nm,.int .u8 a.ex.k,.string a.ex.ra,.string a.ex.nm,.int .i64 a.ex.d,.slice p1 a.ex.sub.length pn1,.int .i64 a.d,.slice p2 a.ds.length pn2,.slice p3 a.sub.length pn3],.agg #[.int .u8 b.k,.string b.fr,.string b.rc,.string b.nm,.int .u8 b.ex.k,.string b.ex.ra,.string b.ex.nm,.int .i64 b.ex.d,.slice q1 b.ex.sub.length qn1,.int .i64 b.d,.slice q2 b.ds.length qn2,.slice q3 b.sub.length qn3],.string p,.string m,.int .i64 day,.agg #[.slice E.af E.F.length E.cf,.slice E.ac E.C.length E.cc]] _ _
 rw [hn]
 clear hn
 change ((w.alloc (.cells #[.int .u8 a.k,.string a.fr,.string a.rc,.string a.nm,.int .u8 a.ex.k,.string a.ex.ra,.string a.ex.nm,.int .i64 a.ex.d,.slice p1 a.ex.sub.length pn1,.int .i64 a.d,.slice p2 a.ds.length pn2,.slice p3 a.sub.length pn3] 51)).alloc (.cells #[.int .u8 b.k,.string b.fr,.string b.rc,.string b.nm,.int .u8 b.ex.k,.string b.ex.ra,.string b.ex.nm,.int .i64 b.ex.d,.slice q1 b.ex.sub.length qn1,.int .i64 b.d,.slice q2 b.ds.length qn2,.slice q3 b.sub.length qn3] 51)).alloc (.cells #[.slice E.af E.F.length E.cf,.slice E.ac E.C.length E.cc] 32)=W0 at hW0
 go_enter Tryz.func5,Tryz.ntmps5
 go_upto_region 1 with (fail)
 clear hW0
 go_wp2_with fail
 refine (HAl.out _ Hb0.out).mono ?_
 rintro e w1 ⟨rfl,hb1⟩
 have hB1:=HX.out.below hb1
 have Hb01:=Lib.hid (Hb0.out.trans (hb1.mono Hb0.out.size))
 obtain ⟨k0,k1,k2,k3,k4,k5,k6,k7,k8,k9,k10,k11,k12,k13⟩:=hB1.allA
 clear HAl hb1
 go_wp2_with fail
 refine (HG1.out _ Hb01.out).mono ?_
 rintro e w2 ⟨g1,rfl,hg1,hb2⟩
 have hB2:=hB1.below hb2
 have Hb02:=Lib.hid (Hb01.out.trans (hb2.mono Hb01.out.size))
 have Hok:=Lib.hid hg1
 clear k0 k1 k2 k3 k4 k5 k6 k7 k8 k9 k10 k11 k12 k13 hB1 hb2 hg1 HG1
 cases g1
 case true =>
  clear hB2
  go_wp2
  go_ret
  exact ⟨rfl,Hb02.out⟩
 have HOK:=Lib.hid (Hok.out rfl)
 clear Hok
 obtain ⟨k0,k1,k2,k3,k4,k5,k6,k7,k8,k9,k10,k11,k12,k13⟩:=hB2.allB
 go_wp2_with fail
 refine (HG2.out _ Hb02.out).mono ?_
 rintro e w3 ⟨g2,rfl,hg2,hb3⟩
 have hB3:=hB2.below hb3
 have Hb03:=Lib.hid (Hb02.out.trans (hb3.mono Hb02.out.size))
 clear k0 k1 k2 k3 k4 k5 k6 k7 k8 k9 k10 k11 k12 k13 hB2 hb3 HG2 hg2
 cases g2
 case true =>
  clear hB3
  go_wp2
  go_ret
  exact ⟨rfl,Hb03.out⟩
 obtain ⟨k0,k1,k2,k3,k4,k5,k6,k7,k8,k9,k10,k11,_,_⟩:=hB3.allA
 obtain ⟨m0,m1,m2,m3,m4,m5,m6,m7,m8,m9,m10,m11,_,_⟩:=hB3.allB
 have HC1:=Lib.hid (HL1.out HOK.out)
 have HC2:=Lib.hid (HL2.out HOK.out)
 clear HL1 HL2
 go_upto_region 5 with (fail)
 have hst:=both2 (w:=w3) (HRD.out.2.1.frame Hb03.out) (HRD.out.2.2.1.frame Hb03.out)
 obtain ⟨W4,hW4⟩:∃ W4,W4=(w3.alloc (.cells #[.int .u8 a.k,.string a.fr,.string a.rc,.string a.nm,.int .u8 a.ex.k,.string a.ex.ra,.string a.ex.nm,.int .i64 a.ex.d,.slice p1 a.ex.sub.length pn1,.int .i64 a.d,.slice p2 a.ds.length pn2,.slice p3 a.sub.length pn3,.int .u8 b.k,.string b.fr,.string b.rc,.string b.nm,.int .u8 b.ex.k,.string b.ex.ra,.string b.ex.nm,.int .i64 b.ex.d,.slice q1 b.ex.sub.length qn1,.int .i64 b.d,.slice q2 b.ds.length qn2,.slice q3 b.sub.length qn3] 51)).alloc (.cells #[.int .u8 3,.string ⟨#[]⟩,.string ⟨#[]⟩,.string ⟨#[]⟩,.int .u8 0,.string ⟨#[]⟩,.string ⟨#[]⟩,.int .i64 0,.slice none 0 0,.int .i64 0,.slice none 0 0,.slice (some ⟨w3.heap.size,0,none⟩) 2 2] 51):=⟨_,rfl⟩
 have hb4:Below w3.heap.size w3 W4:=by rw [hW4];exact below_a2 _ _ _
 have hr4:RdN W4 (bothM a b) (.slice none 0 0) (.slice none 0 0) (.slice (some ⟨w3.heap.size,0,none⟩) 2 2):=by rw [hW4];exact hst.1
 have hx4:BoxN W4 (w3.heap.size+1) 51 ((bothM a b).cells (.slice none 0 0) (.slice none 0 0) (.slice (some ⟨w3.heap.size,0,none⟩) 2 2)):=by rw [hW4];exact hst.2
 rw [← hW4]
 clear hst hW4
 have hB4:=hB3.below hb4
 have Hb04:=Lib.hid (Hb03.out.trans (hb4.mono Hb03.out.size))
 clear hB3 hb4 k0 k1 k2 k3 k4 k5 k6 k7 k8 k9 k10 k11 m0 m1 m2 m3 m4 m5 m6 m7 m8 m9 m10 m11
 generalize w3.heap.size=S at *
 have HL3:Hid (∀ W,Below W4.heap.size W4 W→Calls Tryz.prog 15 #[.slice al n cl,.agg #[.int .u8 3,.string ⟨#[]⟩,.string ⟨#[]⟩,.string ⟨#[]⟩,.int .u8 0,.string ⟨#[]⟩,.string ⟨#[]⟩,.int .i64 0,.slice none 0 0,.int .i64 0,.slice none 0 0,.slice (some ⟨S,0,none⟩) 2 2],.string p,.string m,.int .i64 day,.agg #[.slice E.af E.F.length E.cf,.slice E.ac E.C.length E.cc]] W (LosQ W (losE l (bothM a b) p m day E.F E.C) (losL l (bothM a b) p m day E.F E.C))):=Lib.hid fun W hb => by
  have h0:=Hb04.out.trans (hb.mono Hb04.out.size)
  have HH:=HRD.out.2.2.2.2
  rw [← HNn.out]
  exact (losses_any l (bothM a b) _ _ _ p m day E al cl W HN.out (HRD.out.1.below h0) HOK.out.z ⟨hbb,hr4.frame hb,(HH.frame h0).ls,(HH.frame h0).lp,(HH.frame h0).lo,(HH.frame h0).e,HH.fs,HH.cs⟩ (HRD.out.2.2.2.1.frame h0) HOK.out.v HPM.out.1 HPM.out.2).mono fun _ _ h => h.q
 have HCk:Hid (∀ W,Below W4.heap.size W4 W→Calls Tryz.prog 22 #[.agg #[.int .u8 3,.string ⟨#[]⟩,.string ⟨#[]⟩,.string ⟨#[]⟩,.int .u8 0,.string ⟨#[]⟩,.string ⟨#[]⟩,.int .i64 0,.slice none 0 0,.int .i64 0,.slice none 0 0,.slice (some ⟨S,0,none⟩) 2 2]] W fun e w' => e = .returned (.int .i64 (bothM a b).err)∧Below W.heap.size W w'):=Lib.hid fun W hb => by
  have h0:=Hb04.out.trans (hb.mono Hb04.out.size)
  have HH:=HRD.out.2.2.2.2
  exact cchk_any (bothM a b) _ _ _ W (by omega) (hr4.frame hb) (HH.frame h0).ls (HH.frame h0).lp
 have HLw:Hid ((bothM a b).err=0→losE l a p m day E.F E.C=0→losE l b p m day E.F E.C=0→losE l (bothM a b) p m day E.F E.C ≠ 14→_):=Lib.hid adds_law
 have HZN:Hid (losE l (bothM a b) p m day E.F E.C ≠ 0→losL l (bothM a b) p m day E.F E.C=[]):=Lib.hid los_nil
 have HSx:Hid (∀ x ∈ losL l a p m day E.F E.C,x.size≤2010):=Lib.hid los_size
 have HSy:Hid (∀ x ∈ losL l b p m day E.F E.C,x.size≤2010):=Lib.hid los_size
 have HX4:=Lib.hid hx4
 rw [HNn.out] at HLw
 generalize losE l a p m day E.F E.C=ee at HC1 HLw
 generalize losL l a p m day E.F E.C=LX at HC1 HLw HSx
 generalize losE l b p m day E.F E.C=ef at HC2 HLw
 generalize losL l b p m day E.F E.C=LY at HC2 HLw HSy
 generalize losE l (bothM a b) p m day E.F E.C=eg at HL3 HLw HZN
 generalize losL l (bothM a b) p m day E.F E.C=LZ at HL3 HLw HZN
 generalize (bothM a b).err=ec at HCk HLw
 unfold LosQ at HC1 HC2 HL3
 clear hr4 hx4 HRD HOK hbb
 obtain ⟨k0,k1,k2,k3,k4,k5,k6,k7,k8,k9,k10,k11,k12,k13⟩:=hB4.allA
 go_wp2_with fail
 refine (HC1.out _ Hb04.out).mono ?_
 rintro e w5 ⟨ax,nx,rfl,rx,hb5⟩
 have hB5:=hB4.below hb5
 have Hb05:=Lib.hid (Hb04.out.trans (hb5.mono Hb04.out.size))
 have HX5:=Lib.hid (HX4.out.below hb5 HX4.out.lt)
 have Hb45:=Lib.hid hb5
 clear k0 k1 k2 k3 k4 k5 k6 k7 k8 k9 k10 k11 k12 k13 hB4 hb5 HC1 HX4
 obtain ⟨k0,k1,k2,k3,k4,k5,k6,k7,k8,k9,k10,k11,k12,k13⟩:=hB5.allB
 go_wp2_with fail
 refine (HC2.out _ Hb05.out).mono ?_
 rintro e w6 ⟨ay,ny,rfl,ry,hb6⟩
 have hB6:=hB5.below hb6
 have Hb06:=Lib.hid (Hb05.out.trans (hb6.mono Hb05.out.size))
 have HX6:=Lib.hid (HX5.out.below hb6 HX5.out.lt)
 have Hb46:=Lib.hid (Hb45.out.trans (hb6.mono Hb45.out.size))
 have rx6:=rx.below hb6
 clear k0 k1 k2 k3 k4 k5 k6 k7 k8 k9 k10 k11 k12 k13 hB5 hb6 HC2 HX5 rx
 obtain ⟨_,_,_,_,_,_,_,_,_,_,_,_,k12,k13⟩:=hB6.allB
 have k0:w6.cell? ⟨S+1,0,none⟩=some (.int .u8 3):=HX6.out.cell (j:=0) rfl
 have k1:w6.cell? ⟨S+1,1,none⟩=some (.string ⟨#[]⟩):=HX6.out.cell (j:=1) rfl
 have k2:w6.cell? ⟨S+1,2,none⟩=some (.string ⟨#[]⟩):=HX6.out.cell (j:=2) rfl
 have k3:w6.cell? ⟨S+1,3,none⟩=some (.string ⟨#[]⟩):=HX6.out.cell (j:=3) rfl
 have k4:w6.cell? ⟨S+1,4,none⟩=some (.int .u8 0):=HX6.out.cell (j:=4) rfl
 have k5:w6.cell? ⟨S+1,5,none⟩=some (.string ⟨#[]⟩):=HX6.out.cell (j:=5) rfl
 have k6:w6.cell? ⟨S+1,6,none⟩=some (.string ⟨#[]⟩):=HX6.out.cell (j:=6) rfl
 have k7:w6.cell? ⟨S+1,7,none⟩=some (.int .i64 0):=HX6.out.cell (j:=7) rfl
 have k8:w6.cell? ⟨S+1,8,none⟩=some (.slice none 0 0):=HX6.out.cell (j:=8) rfl
 have k9:w6.cell? ⟨S+1,9,none⟩=some (.int .i64 0):=HX6.out.cell (j:=9) rfl
 have k10:w6.cell? ⟨S+1,10,none⟩=some (.slice none 0 0):=HX6.out.cell (j:=10) rfl
 have k11:w6.cell? ⟨S+1,11,none⟩=some (.slice (some ⟨S,0,none⟩) 2 2):=HX6.out.cell (j:=11) rfl
 go_wp2_with fail
 refine (HL3.out _ Hb46.out).mono ?_
 rintro e w7 ⟨az,nz,rfl,rz,hb7⟩
 have Hb07:=Lib.hid (Hb06.out.trans (hb7.mono Hb06.out.size))
 have HX7:=Lib.hid (HX6.out.below hb7 HX6.out.lt)
 have Hb47:=Lib.hid (Hb46.out.trans (hb7.mono Hb46.out.size))
 have rx7:=rx6.below hb7
 have ry7:=ry.below hb7
 clear k0 k1 k2 k3 k4 k5 k6 k7 k8 k9 k10 k11 k12 k13 hB6 hb7 HL3 HX6 rx6 ry
 by_cases hee:ee=0
 case neg =>
  have t1:(ee != 0)=true:=by rw [bne_iff_ne];exact hee
  clear hee rx7 ry7 rz HLw HCk
  by_cases hg:eg=0
  ·have u1:(eg == 0)=true:=by rw [beq_iff_eq];exact hg
   clear hg HZN
   go_wp2
   go_ret
   exact ⟨rfl,Hb07.out⟩
  ·have u1:(eg == 0)=false:=by rw [beq_eq_false_iff_ne];exact hg
   obtain rfl:=HZN.out hg
   clear hg HZN
   go_wp2
   go_ret
   exact ⟨rfl,Hb07.out⟩
 subst hee
 by_cases hef:ef=0
 case neg =>
  have t1:(ef != 0)=true:=by rw [bne_iff_ne];exact hef
  clear hef rx7 ry7 rz HLw HCk
  by_cases hg:eg=0
  ·have u1:(eg == 0)=true:=by rw [beq_iff_eq];exact hg
   clear hg HZN
   go_wp2
   go_ret
   exact ⟨rfl,Hb07.out⟩
  ·have u1:(eg == 0)=false:=by rw [beq_eq_false_iff_ne];exact hg
   obtain rfl:=HZN.out hg
   clear hg HZN
   go_wp2
   go_ret
   exact ⟨rfl,Hb07.out⟩
 subst hef
 by_cases he14:eg=14
 case pos =>
  subst he14
  obtain rfl:=HZN.out (by decide)
  clear rx7 ry7 rz HLw HCk HZN
  go_wp2
  go_ret
  exact ⟨rfl,Hb07.out⟩
 have t14:(eg == 14)=false:=by rw [beq_eq_false_iff_ne];exact he14
 have HCk2:=Lib.hid (HCk.out _ Hb47.out)
 have k0:w7.cell? ⟨S+1,0,none⟩=some (.int .u8 3):=HX7.out.cell (j:=0) rfl
 have k1:w7.cell? ⟨S+1,1,none⟩=some (.string ⟨#[]⟩):=HX7.out.cell (j:=1) rfl
 have k2:w7.cell? ⟨S+1,2,none⟩=some (.string ⟨#[]⟩):=HX7.out.cell (j:=2) rfl
 have k3:w7.cell? ⟨S+1,3,none⟩=some (.string ⟨#[]⟩):=HX7.out.cell (j:=3) rfl
 have k4:w7.cell? ⟨S+1,4,none⟩=some (.int .u8 0):=HX7.out.cell (j:=4) rfl
 have k5:w7.cell? ⟨S+1,5,none⟩=some (.string ⟨#[]⟩):=HX7.out.cell (j:=5) rfl
 have k6:w7.cell? ⟨S+1,6,none⟩=some (.string ⟨#[]⟩):=HX7.out.cell (j:=6) rfl
 have k7:w7.cell? ⟨S+1,7,none⟩=some (.int .i64 0):=HX7.out.cell (j:=7) rfl
 have k8:w7.cell? ⟨S+1,8,none⟩=some (.slice none 0 0):=HX7.out.cell (j:=8) rfl
 have k9:w7.cell? ⟨S+1,9,none⟩=some (.int .i64 0):=HX7.out.cell (j:=9) rfl
 have k10:w7.cell? ⟨S+1,10,none⟩=some (.slice none 0 0):=HX7.out.cell (j:=10) rfl
 have k11:w7.cell? ⟨S+1,11,none⟩=some (.slice (some ⟨S,0,none⟩) 2 2):=HX7.out.cell (j:=11) rfl
 have rx7:=Lib.hid rx7
 have ry7:=Lib.hid ry7
 have rz7:=Lib.hid rz
 have H14:=Lib.hid he14
 clear rz HCk he14
 go_wp2_with fail
 refine HCk2.out.mono ?_
 rintro e w8 ⟨rfl,hb8⟩
 have Hb08:=Lib.hid (Hb07.out.trans (hb8.mono Hb07.out.size))
 have HRx:=Lib.hid (rx7.out.below hb8)
 have HRy:=Lib.hid (ry7.out.below hb8)
 have HRz:=Lib.hid (rz7.out.below hb8)
 clear k0 k1 k2 k3 k4 k5 k6 k7 k8 k9 k10 k11 hb8 HCk2 HX7 rx7 ry7 rz7
 by_cases hec:ec=0
 case neg =>
  have t1:(ec != 0)=true:=by rw [bne_iff_ne];exact hec
  clear hec HRx HRy HRz HLw
  by_cases hg:eg=0
  ·have u1:(eg == 0)=true:=by rw [beq_iff_eq];exact hg
   clear hg HZN
   go_wp2
   go_ret
   exact ⟨rfl,Hb08.out⟩
  ·have u1:(eg == 0)=false:=by rw [beq_eq_false_iff_ne];exact hg
   obtain rfl:=HZN.out hg
   clear hg HZN
   go_wp2
   go_ret
   exact ⟨rfl,Hb08.out⟩
 subst hec
 obtain ⟨h1,h2,h3,h4,h5⟩:=HLw.out (by first | rfl | trivial) (by first | rfl | trivial) (by first | rfl | trivial) H14.out
 subst h1
 have H5:=Lib.hid h5
 have H2:=Lib.hid h2
 have H3:=Lib.hid h3
 have H4:=Lib.hid h4
 rw [h2,h3,h4]
 clear h2 h3 h4 h5 HLw H14 HZN t14
 have tn:((n:Int) != (n:Int))=false:=by simp
 go_wp2_with fail
 go_loopw [23] (fun i wr => ∃ k:Nat,k≤n∧i = .int .i64 k∧Below w8.heap.size w8 wr) (fun i _ => n - (intOf i).toNat)
 case atStart => exact ⟨0,Nat.zero_le _,rfl,Below.refl _ _⟩
 case round =>
  obtain ⟨k,hk,rfl,hbel⟩:=hrel
  by_cases hlt:k < n
  ·obtain ⟨x,hx⟩:∃ x,LX[k]? = some x:=⟨_,List.getElem?_eq_getElem (by rw [H2.out];exact hlt)⟩
   obtain ⟨y,hy⟩:∃ x,LY[k]? = some x:=⟨_,List.getElem?_eq_getElem (by rw [H3.out];exact hlt)⟩
   obtain ⟨z,hz⟩:∃ x,LZ[k]? = some x:=⟨_,List.getElem?_eq_getElem (by rw [H4.out];exact hlt)⟩
   obtain ⟨bx,ox,rfl,cx⟩:=(HRx.out.below hbel).st hx
   obtain ⟨by1,oy,rfl,cy⟩:=(HRy.out.below hbel).st hy
   obtain ⟨bz,oz,rfl,cz⟩:=(HRz.out.below hbel).st hz
   have HLL:=Lib.hid (H5.out k x y z hx hy hz)
   have sx:=HSx.out x (List.mem_of_getElem? hx)
   have sy:=HSy.out y (List.mem_of_getElem? hy)
   have HAd:Hid (∀ W,Calls Tryz.prog 23 #[.string x,.string y] W fun e w' => e = .returned (.tuple #[.string (mkB (sumS x y (addZ x y))),.int .i64 (sumE x y (addZ x y))])∧Below W.heap.size W w'):=Lib.hid fun W => (ratadd_any x y W (by omega) (by omega)).mono fun e w' h => RatPost2.val h
   generalize mkB (sumS x y (addZ x y))=sm at HAd HLL
   generalize sumE x y (addZ x y)=em at HAd HLL
   have hk1:(0:Int)≤(k:Int):=by omega
   have hk2:(k:Int) < (n:Int):=by omega
   have hszz:bz < wr.heap.size:=World.block_lt_of_cell? wr _ cz
   have HFx:Hid (∀ W,Below wr.heap.size wr W→W.cell? ⟨bx,ox+k,none⟩=some (.string x)):=Lib.hid fun W hW => by rw [hW.cell (p:=⟨bx,ox+k,none⟩) (World.block_lt_of_cell? wr _ cx)];exact cx
   have HFy:Hid (∀ W,Below wr.heap.size wr W→W.cell? ⟨by1,oy+k,none⟩=some (.string y)):=Lib.hid fun W hW => by rw [hW.cell (p:=⟨by1,oy+k,none⟩) (World.block_lt_of_cell? wr _ cy)];exact cy
   clear hx hy hz sx sy
   go_wp2_with fail
   go_region_held3 (fun w' => w'.cell? ⟨bx,ox+k,none⟩=some (.string x)∧w'.cell? ⟨by1,oy+k,none⟩=some (.string y)) (first | assumption | exact ⟨by assumption,by assumption⟩ | go_keep)
    (first | (go_at_call 23;refine (HAd.out _).mono ?_;rintro e w9 ⟨rfl,hb9⟩;have hb10:Below wr.heap.size wr w9:=(Below.drew (Below.refl _ _)).trans hb9;have ex9:=HFx.out _ hb10;have ey9:=HFy.out _ hb10))
   have hbelN:=hbel.trans (hb10.mono hbel.size)
   have dz:w9.cell? ⟨bz,oz+k,none⟩=some (.string z):=by rw [hb10.cell (p:=⟨bz,oz+k,none⟩) hszz];exact cz
   clear HAd hb9 hb10 cx cy cz hbel
   rcases HLL.out with he | ⟨he,hs⟩
   ·subst he
    clear HLL
    go_wp2
    go_roundw
    case rel => exact ⟨k+1,by omega,by go_num,hbelN⟩
    case measure => simp [intOf];omega
   ·subst he
    subst hs
    have tz:(sm.toList != sm.toList)=false:=by simp
    clear HLL
    go_wp2
    go_roundw
    case rel => exact ⟨k+1,by omega,by go_num,hbelN⟩
    case measure => simp [intOf];omega
  ·obtain rfl:k=n:=by omega
   go_wp2
   go_ret
   exact ⟨rfl,Hb08.out.trans (hbel.mono Hb08.out.size)⟩
end Go.Proofs.YthdeijdimfjceaaGreatDoor
