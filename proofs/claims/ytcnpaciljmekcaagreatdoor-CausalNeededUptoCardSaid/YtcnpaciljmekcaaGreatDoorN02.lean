/- A part. -/
import Derived.Test.YtcnpaciljmekcaaGreatDoorN01
import Derived.Deep.DeepHandedRow
import Derived.Deep.DeepWitnessRowRef
import Derived.Test.YtcnpaciljmekcaaGreatDoorA22
namespace Go.Proofs.YtcnpaciljmekcaaGreatDoor
open Go.ChangeShapes Go.WideShapes Go.ChangeAt Go.RowKit Go.Joins Go.Deep
theorem own10:ownKnob Tryz.prog.godebug=none:=by kernel_rfl
theorem laidOut10:laidOutB Tryz.prog=true:=by kernel_rfl
theorem env_open:∃ f0 f1:Field,Tryz.prog.underlying 33=some (.struct #[f0,f1])∧oneCellFields Tryz.prog #[f0,f1]=true∧f0.type=30∧f1.type=31 :=
 ⟨_,_,Tryz.underlying33,by kernel_rfl,rfl,rfl⟩
theorem env_cells:Tryz.prog.cellsOf 33=2:=by kernel_rfl
theorem fx_cells:Tryz.prog.cellsOf 89=3:=by kernel_rfl
theorem ch_cells:Tryz.prog.cellsOf 85=4:=by kernel_rfl
set_option maxRecDepth 100000 in
theorem open_con {H:Type} {enc:TypeId × Value→H} {W:World} {base:Nat} {sp:Nat→Bool} {held:Bool} {v:Value} {d:DataW H} {p:List MemPlace}
  (hv:Value.okWide Tryz.prog W .any base 29 v) (h:DataW.Trod enc Tryz.prog W 0 sp held 29 v d p) :
  ∃ (c:Con) (es dd ss:Value),v=c.val es dd ss∧RdN W c es dd ss∧c.bulk≤Rows.uptoBulk d:=by
 obtain ⟨n,h⟩:=h
 obtain ⟨cs,rfl⟩:∃ cs,v = .agg cs:=by
  unfold Value.okWide at hv
  cases v with
  | agg cs => exact ⟨cs,rfl⟩
  | _ => simp [Tryz.underlying29] at hv
 have hl:(Value.agg cs).cells.toList.length=12:=by
  obtain ⟨_,_,_,_,hl,_⟩:=DataW.trod_struct Tryz.underlying29 h
  rw [hl];exact cells_con
 obtain ⟨c,es,dd,ss,hc,hr,hb⟩:=dec_con n _ _ hl h
 refine ⟨c,es,dd,ss,?_,hr,hb⟩
 have:cs=(c.cells es dd ss).toArray:=by
  cases cs
  simp [Value.cells] at hc
  rw [hc]
 rw [this]
 rfl
end Go.Proofs.YtcnpaciljmekcaaGreatDoor

namespace Go.Proofs.YtcnpaciljmekcaaGreatDoor
open Go.ChangeShapes Go.WideShapes Go.ChangeAt Go.RowKit Go.Joins Go.Deep
set_option maxRecDepth 100000 in
theorem open_envE {H:Type} {enc:TypeId × Value→H} {W:World} {base:Nat} {v:Value} {d:DataW H} {p:List MemPlace}
  (hv:Value.okWide Tryz.prog W .any base 33 v) (h:DataW.Trod enc Tryz.prog W 0 (fun _ => true) true 33 v d p) (hb:Rows.uptoBulk d≤1048576) :
  ∃ E:EvD,v=E.val∧E.Rd W∧(∀ f ∈ E.F,f.small)∧(∀ c ∈ E.C,c.small)∧(∀ f ∈ E.F,f.fits)∧(∀ c ∈ E.C,c.fits):=by
 obtain ⟨f0,f1,e0,e1,e2,e3⟩:=env_open
 obtain ⟨va,vb,ya,yb,n,rfl,rfl,rfl,ta,tb⟩:=open_agg2 e0 e1 env_cells hv h
 rw [e2] at ta
 rw [e3] at tb
 have ba:Rows.uptoBulk ya.1≤1048576:=Nat.le_trans (bulk_agg (by simp)) hb
 have bb:Rows.uptoBulk yb.1≤1048576:=Nat.le_trans (bulk_agg (by simp)) hb
 obtain ⟨af,cf,fs,rfl,haf,sf,lf,gf⟩:=open_list Fx.cells 3 (fun _ => rfl) (by decide) (fun f d => f.fits∧(Rows.uptoBulk d≤1048576→f.small)) Tryz.underlying30 fx_cells (fun _ _ _ hl h => dec_fx hl h) ta
 obtain ⟨ac,cc,cs,rfl,hac,sc,lc,gc⟩:=open_list Ch.cells 4 (fun _ => rfl) (by decide) (fun f d => f.fits∧(Rows.uptoBulk d≤1048576→f.small)) Tryz.underlying31 ch_cells (fun _ _ _ hl h => dec_ch hl h) tb
 have Rf:=Rd.of_sl (enc:=Fx.cells) (m:=3) (fun _ => rfl) (by decide) sf
 have Rc:=Rd.of_sl (enc:=Ch.cells) (m:=4) (fun _ => rfl) (by decide) sc
 exact ⟨⟨fs,cs,af,ac,cf,cc⟩,rfl,⟨Rf,Rc,by show fs.length≤_;omega,by show cs.length≤_;omega⟩,
  fun f hf => by obtain ⟨d,⟨_,h⟩,hd⟩:=gf f hf;exact h (by omega),fun f hf => by obtain ⟨d,⟨_,h⟩,hd⟩:=gc f hf;exact h (by omega),
  fun f hf => by obtain ⟨d,⟨h,_⟩,hd⟩:=gf f hf;exact h,fun f hf => by obtain ⟨d,⟨h,_⟩,hd⟩:=gc f hf;exact h⟩
end Go.Proofs.YtcnpaciljmekcaaGreatDoor

namespace Go.Proofs.YtcnpaciljmekcaaGreatDoor
open Go.RowKit
inductive Ev where
 | expr (x:Ex) (ds:List Int)
 | choice (p n:ByteArray) (ds:List Int)
 | pay (ds:List Int)
def laterD (l:List Int) (d:Int):List Int:=l.filter fun x => decide (d≤x)
def headEv (c:Con) (ds:List Int) (d0:Int):List Ev :=
 if c.k=2 then [.pay ds,.expr c.ex ds] else if c.k=4∨c.k=5 then [.expr c.ex ds] else if c.k=7 then [.choice c.fr c.nm ds]
 else if c.k=8 then [.choice c.fr c.nm (laterD c.ds d0)] else if c.k=9∨c.k=10 then [.expr c.ex (laterD c.ds d0)] else []
def innerD (c:Con) (ds:List Int) (d0:Int):List Int :=
 if c.k=6 then (if d0≤c.d then [c.d] else []) else if c.k=8∨c.k=10 then laterD c.ds d0 else ds
mutual
def Con.evs:Con→List Int→List Ev
 | .mk k f t n x d dd l,ds =>
  match ds with
  | [] => []
  | d0 :: r => headEv (.mk k f t n x d dd l) (d0 :: r) d0 ++ Con.evss l (innerD (.mk k f t n x d dd l) (d0 :: r) d0)
def Con.evss:List Con→List Int→List Ev
 | [],_ => []
 | c :: l,ds => Con.evs c ds ++ Con.evss l ds
end
theorem Con.evs_nil (c:Con):c.evs []=[]:=by cases c;rw [Con.evs]
theorem Con.evs_cons (c:Con) (d0:Int) (r:List Int):c.evs (d0 :: r)=headEv c (d0 :: r) d0 ++ Con.evss c.sub (innerD c (d0 :: r) d0):=by cases c;rw [Con.evs];rfl
theorem Con.evss_append (l m:List Con) (ds:List Int):Con.evss (l ++ m) ds=Con.evss l ds ++ Con.evss m ds:=by
 induction l with
 | nil => simp [Con.evss]
 | cons x l ih => rw [List.cons_append,Con.evss,Con.evss,ih,List.append_assoc]
theorem Con.evss_snoc {l:List Con} {k:Nat} {x:Con} (h:l[k]? = some x) (ds:List Int):Con.evss (l.take (k+1)) ds=Con.evss (l.take k) ds ++ x.evs ds:=by
 rw [take_snoc_get h,Con.evss_append,Con.evss,Con.evss,List.append_nil]
def evNeeds:Ev→List NdP
 | .expr x ds => x.nodes.flatMap (xNeed ds)
 | _ => []
def evChs:Ev→List ChP
 | .choice p n ds => ds.map fun d => (p,n,d)
 | _ => []
def evDays:Ev→List Int
 | .pay ds => ds
 | _ => []
def evLate:Ev→Bool
 | .expr x ds => x.nodes.any (xLate ds)
 | _ => false
def evNs (l:List Ev):List NdP:=l.flatMap evNeeds
def evCs (l:List Ev):List ChP:=l.flatMap evChs
def evDs (l:List Ev):List Int:=l.flatMap evDays
def evLt (l:List Ev):Bool:=l.any evLate
theorem evNs_append (l m:List Ev):evNs (l ++ m)=evNs l ++ evNs m:=by simp [evNs]
theorem evCs_append (l m:List Ev):evCs (l ++ m)=evCs l ++ evCs m:=by simp [evCs]
theorem evDs_append (l m:List Ev):evDs (l ++ m)=evDs l ++ evDs m:=by simp [evDs]
theorem evLt_append (l m:List Ev):evLt (l ++ m)=(evLt l || evLt m):=by simp [evLt]
def evMost (M:Nat):Ev→Prop
 | .expr _ ds => ds.length≤M
 | .choice _ _ ds => ds.length≤M
 | .pay ds => ds.length≤M
def evW:Ev→Nat
 | .expr x _ => x.size
 | _ => 1
theorem laterD_len (l:List Int) (d:Int):(laterD l d).length≤l.length:=List.length_filter_le _ _
theorem xNeed_len (ds:List Int) (y:Ex):(xNeed ds y).length≤ds.length:=by
 unfold xNeed
 split
 ·simp
 ·next h =>
  have:1≤ds.length:=by cases ds;exact absurd rfl h;simp
  split
  ·simpa using this
  ·split <;> simp
theorem flatMap_len {α β:Type} (f:α→List β) (M:Nat) (hf:∀ x,(f x).length≤M) (l:List α):(l.flatMap f).length≤l.length * M:=by
 induction l with
 | nil => simp
 | cons x l ih => rw [List.flatMap_cons,List.length_append,List.length_cons,Nat.add_mul,Nat.one_mul];have:=hf x;omega
theorem evNeeds_len {M:Nat} {e:Ev} (h:evMost M e):(evNeeds e).length≤evW e * M:=by
 cases e with
 | expr x ds =>
  have h1:=flatMap_len (xNeed ds) M (fun y => Nat.le_trans (xNeed_len ds y) h) x.nodes
  rw [Ex.nodes_len] at h1
  exact h1
 | choice p n ds => simp [evNeeds]
 | pay ds => simp [evNeeds]
theorem evChs_len {M:Nat} {e:Ev} (h:evMost M e):(evChs e).length≤evW e * M:=by
 cases e with
 | expr x ds => simp [evChs]
 | choice p n ds => simpa [evChs,evW,evMost] using h
 | pay ds => simp [evChs]
theorem evDays_len {M:Nat} {e:Ev} (h:evMost M e):(evDays e).length≤evW e * M:=by
 cases e with
 | expr x ds => simp [evDays]
 | choice p n ds => simp [evDays]
 | pay ds => simpa [evDays,evW,evMost] using h
def evWs (l:List Ev):Nat:=(l.map evW).sum
theorem evWs_append (l m:List Ev):evWs (l ++ m)=evWs l+evWs m:=by simp [evWs]
theorem headEv_w (c:Con) (ds:List Int) (d0:Int):evWs (headEv c ds d0)≤c.ex.size+1:=by
 unfold headEv
 repeat' split
 all_goals simp [evWs,evW]
 all_goals omega
theorem headEv_most {M:Nat} (c:Con) (ds:List Int) (d0:Int) (h1:ds.length≤M) (h2:c.ds.length≤M):∀ e ∈ headEv c ds d0,evMost M e:=by
 have h3:=laterD_len c.ds d0
 unfold headEv
 repeat' split
 all_goals simp [evMost,h1]
 all_goals omega
theorem innerD_len {M:Nat} (c:Con) (ds:List Int) (d0:Int) (h1:ds.length≤M) (h2:c.ds.length≤M) (hM:1≤M):(innerD c ds d0).length≤M:=by
 have h3:=laterD_len c.ds d0
 unfold innerD
 repeat' split
 all_goals simp
 all_goals omega
mutual
theorem Con.evs_w:∀ (c:Con) (ds:List Int),evWs (c.evs ds)≤c.bulk
 | .mk k f t n x d dd l,[] => by rw [Con.evs_nil];simp [evWs]
 | .mk k f t n x d dd l,d0 :: r => by
  have h1:=headEv_w (.mk k f t n x d dd l) (d0 :: r) d0
  have h2:=Con.evss_w l (innerD (.mk k f t n x d dd l) (d0 :: r) d0)
  have h3:=x.size_le
  rw [Con.evs_cons,evWs_append,Con.bulk]
  have h4:evWs (headEv (.mk k f t n x d dd l) (d0 :: r) d0)≤x.size+1:=h1
  have h5:evWs (Con.evss (Con.sub (.mk k f t n x d dd l)) (innerD (.mk k f t n x d dd l) (d0 :: r) d0))≤Con.bulks l:=h2
  omega
theorem Con.evss_w:∀ (l:List Con) (ds:List Int),evWs (Con.evss l ds)≤Con.bulks l
 | [],_ => by simp [Con.evss,evWs]
 | c :: l,ds => by
  have h1:=Con.evs_w c ds
  have h2:=Con.evss_w l ds
  rw [Con.evss,evWs_append,Con.bulks]
  omega
end
mutual
theorem Con.evs_most (M:Nat) (hM:1≤M):∀ (c:Con) (ds:List Int),c.bulk≤M→ds.length≤M→∀ e ∈ c.evs ds,evMost M e
 | .mk k f t n x d dd l,[],_,_,e,he => by rw [Con.evs_nil] at he;cases he
 | .mk k f t n x d dd l,d0 :: r,hb,hd,e,he => by
  rw [Con.bulk] at hb
  have h2:(Con.ds (.mk k f t n x d dd l)).length≤M:=by show dd.length≤M;omega
  rw [Con.evs_cons] at he
  rcases List.mem_append.1 he with he | he
  ·exact headEv_most _ _ _ hd h2 e he
  ·exact Con.evss_most M hM l _ (by omega) (innerD_len _ _ _ hd h2 hM) e he
theorem Con.evss_most (M:Nat) (hM:1≤M):∀ (l:List Con) (ds:List Int),Con.bulks l≤M→ds.length≤M→∀ e ∈ Con.evss l ds,evMost M e
 | [],_,_,_,e,he => by rw [Con.evss] at he;cases he
 | c :: l,ds,hb,hd,e,he => by
  rw [Con.bulks] at hb
  rw [Con.evss] at he
  rcases List.mem_append.1 he with he | he
  ·exact Con.evs_most M hM c ds (by omega) hd e he
  ·exact Con.evss_most M hM l ds (by omega) hd e he
end
theorem flat_most {β:Type} (f:Ev→List β) (M:Nat) (hf:∀ e,evMost M e→(f e).length≤evW e * M):∀ (l:List Ev),(∀ e ∈ l,evMost M e)→(l.flatMap f).length≤evWs l * M
 | [],_ => by simp
 | e :: l,h => by
  have h1:=hf e (h e (List.mem_cons_self ..))
  have h2:=flat_most f M hf l fun e he => h e (List.mem_cons_of_mem _ he)
  rw [List.flatMap_cons,List.length_append]
  have h3:evWs (e :: l)=evW e+evWs l:=by simp [evWs]
  rw [h3,Nat.add_mul]
  omega
theorem Con.found_len (c:Con) (day:Int) (hB:c.bulk≤2000000) {pre:List Ev} (hp:pre <+: c.evs [day]) :
  (evNs pre).length≤4000000000000∧(evCs pre).length≤4000000000000∧(evDs pre).length≤4000000000000:=by
 obtain ⟨r,hr⟩:=hp
 have hm:∀ e ∈ pre,evMost 2000000 e:=fun e he => Con.evs_most 2000000 (by omega) c [day] hB (by simp) e (by rw [← hr];simp [he])
 have hw:evWs pre≤2000000:=by
  have h1:=Con.evs_w c [day]
  rw [← hr,evWs_append] at h1
  omega
 have h1:=flat_most evNeeds 2000000 (fun _ => evNeeds_len) pre hm
 have h2:=flat_most evChs 2000000 (fun _ => evChs_len) pre hm
 have h3:=flat_most evDays 2000000 (fun _ => evDays_len) pre hm
 have h4:evWs pre * 2000000≤4000000000000:=by omega
 exact ⟨Nat.le_trans h1 h4,Nat.le_trans h2 h4,Nat.le_trans h3 h4⟩
end Go.Proofs.YtcnpaciljmekcaaGreatDoor

namespace Go.Proofs.YtcnpaciljmekcaaGreatDoor
open Go.RowKit
set_option maxRecDepth 100000 in
theorem nanI_no (a:Int) (w:World):Calls Tryz.prog 152 #[.int .i64 a] w fun e w' => e = .returned (.bool false)∧w=w':=by
 go_enter Tryz.func152,Tryz.ntmps152
 go_wp2
 go_ret
 exact ⟨ret_bool' (by simp),rfl⟩
set_option maxRecDepth 100000 in
theorem snanI_no (a:Int) (w:World):Calls Tryz.prog 194 #[.int .i64 a] w fun e w' => e = .returned (.bool false)∧w=w':=by
 go_enter Tryz.func194,Tryz.ntmps194
 go_wp2
 go_ret
 exact ⟨ret_bool' (by simp),rfl⟩
set_option maxRecDepth 100000 in
theorem lessI_any (a b:Int) (w:World):Calls Tryz.prog 193 #[.int .i64 a,.int .i64 b] w fun e w' => e = .returned (.bool (decide (a < b)))∧w=w':=by
 go_enter Tryz.func193,Tryz.ntmps193
 go_wp2_with (go_at_call 152;refine (nanI_no _ _).mono ?_;rintro e w' ⟨rfl,rfl⟩)
 all_goals
  go_ret
  exact ⟨rfl,rfl⟩
def dayIdx (l:List Int) (d:Int):Nat:=l.countP fun x => decide (x < d)
theorem dayIdx_le (l:List Int) (d:Int):dayIdx l d≤l.length:=List.countP_le_length
theorem dayIdx_spec {d:Int}:∀ {l:List Int},l.Pairwise (· < ·)→∀ {k:Nat} {x:Int},l[k]? = some x→(x < d ↔ k < dayIdx l d)
 | [],_,k,x,h => by simp at h
 | y :: l,hp,0,x,h => by
  simp at h
  subst h
  unfold dayIdx
  rw [List.countP_cons]
  by_cases hyd:y < d
  ·simp [hyd]
  ·have h0:l.countP (fun x => decide (x < d))=0:=by
    rw [List.countP_eq_zero]
    intro z hz
    have:=(List.pairwise_cons.1 hp).1 z hz
    simp;omega
   simp [hyd,h0]
 | y :: l,hp,k+1,x,h => by
  have h1:l[k]? = some x:=by simpa using h
  have ih:=dayIdx_spec (d:=d) (List.pairwise_cons.1 hp).2 h1
  have hyx:=(List.pairwise_cons.1 hp).1 x (List.mem_of_getElem? h1)
  unfold dayIdx at ih ⊢
  rw [List.countP_cons]
  by_cases hyd:y < d
  ·simp [hyd,ih]
  ·simp [hyd]
   constructor
   ·intro;omega
   ·intro hk
    have:=ih.2 (by omega)
    omega
theorem laterD_drop {d:Int}:∀ {l:List Int},l.Pairwise (· < ·)→laterD l d=l.drop (dayIdx l d)
 | [],_ => by simp [laterD]
 | y :: l,hp => by
  have ih:=laterD_drop (d:=d) (List.pairwise_cons.1 hp).2
  unfold laterD dayIdx at ih ⊢
  rw [List.countP_cons]
  by_cases hyd:y < d
  ·have h2 : ¬ d≤y:=by omega
   simp [hyd,h2,ih]
  ·have h2:d≤y:=by omega
   have h0:l.countP (fun x => decide (x < d))=0:=by
    rw [List.countP_eq_zero]
    intro z hz
    have:=(List.pairwise_cons.1 hp).1 z hz
    simp;omega
   rw [h0] at ih
   simp [hyd,h2,h0,ih]
def BsPost (l:List Int) (d:Int) (w:World) (e:Ending) (w':World):Prop:=(∃ b:Bool,e = .returned (.tuple #[.int .i64 ((dayIdx l d:Nat):Int),.bool b]))∧w=w'
set_option maxHeartbeats 1000000 in
set_option maxRecDepth 100000 in
theorem bsearch_any (l:List Int) (d:Int) (v:Value) (w:World) (hn:l.length≤2000000) (hp:l.Pairwise (· < ·)) (hr:RdI w l v) :
  Calls Tryz.prog 150 #[v,.int .i64 d] w (BsPost l d w):=by
 obtain ⟨ad,cap,rfl,_,hr⟩:=hr
 have HR:=Lib.hid hr
 have HP:=Lib.hid hp
 have hle:=dayIdx_le l d
 obtain ⟨m,hm⟩:∃ m,dayIdx l d=m:=⟨_,rfl⟩
 have HM:=Lib.hid hm
 rw [hm] at hle
 have HPo:Hid (∀ (b:Bool),BsPost l d w (.returned (.tuple #[.int .i64 (m:Int),.bool b])) w):=Lib.hid fun b => ⟨⟨b,by rw [hm]⟩,rfl⟩
 clear hr hp hm
 go_enter Tryz.func150,Tryz.ntmps150
 go_wp2_with fail
 go_loopw [7,8] (fun i j wr => ∃ (a b:Nat),i = .int .i64 (a:Int)∧j = .int .i64 (b:Int)∧a≤m∧m≤b∧b≤l.length∧wr=w) (fun i j _ => (intOf j).toNat - (intOf i).toNat)
 case atStart => exact ⟨0,l.length,rfl,rfl,Nat.zero_le _,hle,Nat.le_refl _,rfl⟩
 case round =>
  obtain ⟨a,b,rfl,rfl,ham,hmb,hbl,rfl⟩:=hrel
  by_cases hab:a < b
  ·have e1:IntKind.i64.wrap ((a:Int)+(b:Int))=((a+b:Nat):Int):=by rw [IntWalk.i64_in _ (by omega)];omega
   obtain ⟨x,hx⟩:∃ x,l[(a+b) / 2]? = some x:=⟨_,List.getElem?_eq_getElem (by omega)⟩
   obtain ⟨blk,off,rfl,hc⟩:=HR.out _ x hx
   have hsp:=dayIdx_spec (d:=d) HP.out hx
   rw [HM.out] at hsp
   have HL:=Lib.hid (lessI_any x d wr)
   clear hx
   have e2:IntKind.i64.wrap (((a+b) / 2:Nat)+1:Int)=(((a+b) / 2+1:Nat):Int):=by rw [IntWalk.i64_in _ (by omega)];omega
   by_cases hxd:x < d
   ·have h1:(a+b) / 2 < m:=hsp.1 hxd
    clear hsp
    go_wp2_with (go_at_call 193;refine HL.out.mono ?_;rintro e w1 ⟨rfl,rfl⟩)
    go_roundw
    case rel => exact ⟨(a+b) / 2+1,b,by go_num,rfl,by omega,hmb,hbl,by first | rfl | trivial⟩
    case measure => simp [intOf];omega
   ·have h1 : ¬ (a+b) / 2 < m:=fun h => hxd (hsp.2 h)
    have t1:decide (x < d)=false:=by rw [decide_eq_false_iff_not];exact hxd
    clear hsp
    go_wp2_with (go_at_call 193;refine HL.out.mono ?_;rintro e w1 ⟨rfl,rfl⟩)
    go_roundw
    case rel => exact ⟨a,(a+b) / 2,rfl,by go_num,ham,by omega,by omega,by first | rfl | trivial⟩
    case measure => simp [intOf];omega
  ·obtain rfl:a=m:=by omega
   obtain rfl:b=a:=by omega
   by_cases hml:b < l.length
   ·obtain ⟨x,hx⟩:∃ x,l[b]? = some x:=⟨_,List.getElem?_eq_getElem hml⟩
    obtain ⟨blk,off,rfl,hc⟩:=HR.out _ x hx
    have HN:=Lib.hid (fun a => snanI_no a wr)
    clear hx hab
    go_wp2_with (go_at_call 194;refine (HN.out _).mono ?_;rintro e w1 ⟨rfl,rfl⟩)
    all_goals
     go_ret2
     exact HPo.out _
   ·have t1:decide ((b:Int) < (l.length:Int))=false:=by rw [decide_eq_false_iff_not];omega
    have t2:decide (b < l.length)=false:=by rw [decide_eq_false_iff_not];omega
    clear hab
    go_wp2
    go_ret2
    exact HPo.out _
def laterA (l:List Int) (d:Int) (ad:Option Addr) (cap:Nat):Option Addr:=if cap=dayIdx l d then ad else Option.map (fun x => x.add (dayIdx l d)) ad
def laterV (l:List Int) (d:Int) (ad:Option Addr) (cap:Nat):Value:=.slice (laterA l d ad cap) (laterD l d).length (cap - dayIdx l d)
theorem laterV_rd {l:List Int} {d:Int} {ad:Option Addr} {cap:Nat} {w:World} (hp:l.Pairwise (· < ·)) (hr:RdI w l (.slice ad l.length cap)):RdI w (laterD l d) (laterV l d ad cap):=by
 have hdr:=laterD_drop (d:=d) hp
 have hle:=dayIdx_le l d
 obtain ⟨ad',cap',he,⟨hcap,hnil⟩,hr⟩:=hr
 obtain ⟨rfl,_,rfl⟩:=Value.slice.inj he
 refine ⟨_,_,rfl,⟨by rw [hdr,List.length_drop];omega,fun h => ?_⟩,fun j x hj => ?_⟩
 ·unfold laterA at h
  split at h
  ·omega
  ·rw [Option.map_eq_none_iff] at h
   rw [hnil h,Nat.zero_sub]
 have hjl:=(List.getElem?_eq_some_iff.1 hj).1
 rw [hdr,List.length_drop] at hjl
 rw [hdr,List.getElem?_drop] at hj
 obtain ⟨b,off,rfl,hc2⟩:=hr _ x hj
 unfold laterA
 rw [if_neg (by omega)]
 exact ⟨b,off+dayIdx l d,by show some (Addr.add _ _)=_;unfold Addr.add;split <;> simp_all,by rw [Nat.add_assoc];exact hc2⟩
theorem laterV_own {l:List Int} {d:Int} {ad:Option Addr} {cap b:Nat} (h:(laterV l d ad cap).ownBlock=some b):(Value.slice ad l.length cap).ownBlock=some b:=by
 unfold laterV laterA at h
 cases ad with
 | none => split at h <;> cases h
 | some a =>
  split at h
  ·exact h
  ·show some a.block=some b
   have h2:some (a.add (dayIdx l d)).block=some b:=h
   rw [← h2]
   unfold Addr.add
   split <;> rfl
set_option maxHeartbeats 1000000 in
set_option maxRecDepth 100000 in
theorem from_any (l:List Int) (d:Int) (ad:Option Addr) (cap:Nat) (w:World) (hn:l.length≤2000000) (hp:l.Pairwise (· < ·)) (hr:RdI w l (.slice ad l.length cap)) :
  Calls Tryz.prog 98 #[.slice ad l.length cap,.int .i64 d] w fun e w' => e = .returned (laterV l d ad cap)∧w=w':=by
 have hle:=dayIdx_le l d
 have HB:=Lib.hid (bsearch_any l d _ w hn hp hr)
 unfold BsPost at HB
 have HF:Hid (laterV l d ad cap = .slice (if cap=dayIdx l d then ad else Option.map (fun x => x.add (dayIdx l d)) ad) (l.length - dayIdx l d) (cap - dayIdx l d)):=Lib.hid (by
  unfold laterV laterA
  rw [laterD_drop hp,List.length_drop])
 generalize laterV l d ad cap=R at HF ⊢
 generalize dayIdx l d=m at *
 clear hr
 go_enter Tryz.func98,Tryz.ntmps98
 go_wp2_with (go_at_call 150;refine HB.out.mono ?_;rintro e w1 ⟨⟨bb,rfl⟩,rfl⟩)
 case inr =>
  have h:=HF.out
  rw [if_neg (by assumption)] at h
  have H:=Lib.hid h
  clear h
  go_ret
  exact ⟨by rw [H.out];rfl,rfl⟩
 case inl =>
  have h:=HF.out
  rw [if_pos (by assumption)] at h
  subst cap
  rw [Nat.sub_self] at h
  have H:=Lib.hid h
  clear h
  go_ret
  exact ⟨by rw [H.out];rfl,rfl⟩
end Go.Proofs.YtcnpaciljmekcaaGreatDoor

namespace Go.Proofs.YtcnpaciljmekcaaGreatDoor
open Go.RowKit
section
variable {base D Bo:Nat}
theorem CBox.keptO {W W':World} {B:Nat} {x:Con} {es dd ss:Value} (h:CBox W B x es dd ss) (hp:Prv D Bo W B) (k:KeptO base D Bo W W'):CBox W' B x es dd ss:=h.kept fun _ _ hc => hp.cell k hc
theorem EBox.keptO {W W':World} {B:Nat} {x:Ex} {s:Value} (h:EBox W B x s) (hp:Prv D Bo W B) (k:KeptO base D Bo W W'):EBox W' B x s:=h.kept fun _ _ hc => hp.cell k hc
end
structure VisOk (w0:World) (D Bo:Nat) (full:List Ev) (J:List Ev→World→Prop) (fe fc fp:Nat) (ce cc cp:Array Value):Prop where
 frame:∀ pre W W',J pre W→Below W.heap.size W W'→J pre W'
 own:∀ pre W,J pre W→∀ b,OwnB Bo W b→b < W.heap.size
 box:∀ pre W,J pre W→Bo < W.heap.size
 ee:∀ args w,(callFunc fe args).run Tryz.prog w = .ok (.enter fe args) w
 ec:∀ args w,(callFunc fc args).run Tryz.prog w = .ok (.enter fc args) w
 ep:∀ args w,(callFunc fp args).run Tryz.prog w = .ok (.enter fp args) w
 expr:∀ pre x s ds v W,J pre W→Below w0.heap.size w0 W→D≤W.heap.size→RdE w0 x.sub s→x.bulk≤2000000→ds.length≤2000000→DaysAt w0.heap.size D Bo W ds v→pre ++ [.expr x ds] <+: full →
  Calls Tryz.prog fe (#[x.val s,v] ++ ce) W fun e W' => e = .returned (.tuple #[])∧J (pre ++ [.expr x ds]) W'∧KeptO w0.heap.size D Bo W W'
 choice:∀ pre p n ds v W,J pre W→Below w0.heap.size w0 W→D≤W.heap.size→ds.length≤2000000→DaysAt w0.heap.size D Bo W ds v→pre ++ [.choice p n ds] <+: full →
  Calls Tryz.prog fc (#[.string p,.string n,v] ++ cc) W fun e W' => e = .returned (.tuple #[])∧J (pre ++ [.choice p n ds]) W'∧KeptO w0.heap.size D Bo W W'
 pay:∀ pre ds v W,J pre W→Below w0.heap.size w0 W→D≤W.heap.size→ds.length≤2000000→DaysAt w0.heap.size D Bo W ds v→pre ++ [.pay ds] <+: full →
  Calls Tryz.prog fp (#[v] ++ cp) W fun e W' => e = .returned (.tuple #[])∧J (pre ++ [.pay ds]) W'∧KeptO w0.heap.size D Bo W W'
end Go.Proofs.YtcnpaciljmekcaaGreatDoor

namespace Go.Proofs.YtcnpaciljmekcaaGreatDoor
open Go.RowKit
structure LeafOk (w0:World) (D Bo:Nat) (full:List Ex) (K:List Ex→World→Prop) (f:Nat) (cf:Array Value):Prop where
 frame:∀ pre W W',K pre W→Below W.heap.size W W'→K pre W'
 own:∀ pre W,K pre W→∀ b,OwnB Bo W b→b < W.heap.size
 box:∀ pre W,K pre W→Bo < W.heap.size
 ef:∀ args w,(callFunc f args).run Tryz.prog w = .ok (.enter f args) w
 call:∀ pre y sy W,K pre W→Below w0.heap.size w0 W→D≤W.heap.size→RdE w0 y.sub sy→pre ++ [y] <+: full →
  Calls Tryz.prog f (#[y.val sy] ++ cf) W fun e W' => e = .returned (.tuple #[])∧K (pre ++ [y]) W'∧KeptO w0.heap.size D Bo W W'
set_option maxHeartbeats 4000000 in
set_option maxRecDepth 100000 in
theorem leaves_any (w0:World) (D Bo:Nat) (full:List Ex) (K:List Ex→World→Prop) (f:Nat) (cf:Array Value) (hL:LeafOk w0 D Bo full K f cf) :
  ∀ (N:Nat) (x:Ex) (s:Value) (pre:List Ex) (W:World),x.bulk≤N→x.bulk≤2000000→RdE w0 x.sub s→Below w0.heap.size w0 W→D≤W.heap.size→K pre W→pre ++ x.nodes <+: full →
   Calls Tryz.prog 59 #[x.val s,.func (.func f) #[] cf] W fun e W' => e = .returned (.tuple #[])∧K (pre ++ x.nodes) W'∧KeptO w0.heap.size D Bo W W':=by
 intro N
 induction N with
 | zero =>
  intro x s pre W h0
  rw [Ex.bulk_eq] at h0
  omega
 | succ N ih =>
  intro x s pre W hN hB hs hbW hDW hK hpf
  obtain ⟨ad,cap,rfl⟩:=hs.len
  have hbo:=hL.box _ _ hK
  have hob:=hL.own _ _ hK
  have hlen:=Ex.bulks_len x.sub
  have hlt0:=x.sub_lt
  have hn:x.sub.length≤2000000:=by omega
  have hbA:=below_a1 W (.cells #[.int .u8 x.k,.string x.ra,.string x.nm,.int .i64 x.d,.slice ad x.sub.length cap] 25)
  have hk0:KeptO w0.heap.size D Bo W (W.alloc (.cells #[.int .u8 x.k,.string x.ra,.string x.nm,.int .i64 x.d,.slice ad x.sub.length cap] 25)):=KeptO.of_below hbW.size hbo hbA
  have hpB:=Prv.new hDW hbo hob (.cells #[.int .u8 x.k,.string x.ra,.string x.nm,.int .i64 x.d,.slice ad x.sub.length cap] 25)
  have hK0:=hL.frame _ _ _ hK hbA
  have HBX:=Lib.hid (EBox.new W x (.slice ad x.sub.length cap) 25)
  rw [Ex.nodes_eq] at hpf ⊢
  have HPF:=Lib.hid hpf
  have hpf1:pre ++ [x] <+: full:=by
   obtain ⟨r,hr⟩:=hpf
   exact ⟨Ex.nodess x.sub ++ r,by rw [← hr];simp⟩
  have HC:=Lib.hid (hL.call pre x _ _ hK0 (hbW.trans hk0.below) (Nat.le_trans hDW hbA.size) hs hpf1)
  have HIH:=Lib.hid ih
  have HS:=Lib.hid hs
  have hef:=hL.ef
  have HFin:Hid (pre ++ [x] ++ Ex.nodess x.sub=pre ++ (x :: Ex.nodess x.sub)):=Lib.hid (by simp)
  unfold Ex.val at HC ⊢
  clear ih hs hpf hpf1 hK hK0 hob
  go_enter Tryz.func59,Tryz.ntmps59
  go_wp2_with fail
  refine HC.out.mono ?_
  rintro e W1 ⟨rfl,hK1,hk1⟩
  obtain ⟨c0,c1,c2,c3,c4⟩:=HBX.out.keptO hpB hk1
  have hlB:W.heap.size < W1.heap.size:=World.block_lt_of_cell? W1 _ c0
  have hkk:=hk0.trans hk1
  have HK1:Hid (K (pre ++ [x] ++ Ex.nodess (x.sub.take 0)) W1):=Lib.hid (by simpa [Ex.nodess] using hK1)
  clear HC hk1 hk0 hpB hK1 hbA
  go_wp2_with fail
  go_loopw [12] (fun i wr => ∃ k:Nat,k≤x.sub.length∧i = .int .i64 (k:Int)∧Hid (K (pre ++ [x] ++ Ex.nodess (x.sub.take k)) wr)∧KeptO w0.heap.size D Bo W wr) (fun i _ => x.sub.length - (intOf i).toNat)
  case atStart => exact ⟨0,Nat.zero_le _,rfl,HK1,hkk⟩
  case round =>
   clear HK1 hkk c0 c1 c2 c3 c4 hlB
   obtain ⟨k,hk,rfl,HKr,hkr⟩:=hrel
   by_cases hlt:k < x.sub.length
   ·obtain ⟨y,hyk⟩:∃ y,x.sub[k]? = some y:=⟨_,List.getElem?_eq_getElem hlt⟩
    have hbwr:=hbW.trans hkr.below
    have hDr:D≤wr.heap.size:=Nat.le_trans hDW hkr.below.size
    obtain ⟨b,off,s',rfl,c0,c1,c2,c3,c4,hs0,_⟩:=HS.out.at hyk
    have lift:∀ o u,w0.cell? ⟨b,o,none⟩=some u→wr.cell? ⟨b,o,none⟩=some u:=fun o u h => by
     rw [hbwr.cell (p:=⟨b,o,none⟩) (World.block_lt_of_cell? w0 _ h)];exact h
    replace c0:=lift _ _ c0
    replace c1:=lift _ _ c1
    replace c2:=lift _ _ c2
    replace c3:=lift _ _ c3
    replace c4:=lift _ _ c4
    clear lift
    obtain ⟨ad',cap',rfl⟩:=hs0.len
    have hym:=Ex.mem_lt (List.mem_of_getElem? hyk)
    have hblk:b < wr.heap.size:=World.block_lt_of_cell? wr _ c0
    have hk1:(0:Int)≤(k:Int):=by omega
    have hk2:(k:Int) < (x.sub.length:Int):=by omega
    have hbor:=hL.box _ _ HKr.out
    have hka:KeptO w0.heap.size D Bo wr (wr.alloc (.cells #[.int .u8 y.k,.string y.ra,.string y.nm,.int .i64 y.d,.slice ad' y.sub.length cap'] 25)):=KeptO.of_below hbwr.size hbor (below_a1 _ _)
    have hKa:=hL.frame _ _ _ HKr.out (below_a1 wr (.cells #[.int .u8 y.k,.string y.ra,.string y.nm,.int .i64 y.d,.slice ad' y.sub.length cap'] 25))
    have HSn:=Lib.hid (Ex.nodess_snoc hyk)
    have hpfy:pre ++ [x] ++ Ex.nodess (x.sub.take k) ++ y.nodes <+: full:=by
     obtain ⟨r,hr⟩:=Ex.nodess_take hyk
     obtain ⟨r2,hr2⟩:=HPF.out
     exact ⟨r ++ r2,by rw [← hr2,hr];simp [List.append_assoc]⟩
    have HC:=Lib.hid (HIH.out y _ (pre ++ [x] ++ Ex.nodess (x.sub.take k)) _ (by omega) (by omega) hs0 (hbwr.trans hka.below) (Nat.le_trans hDr hka.below.size) hKa hpfy)
    have HKA:=Lib.hid (hkr.trans hka)
    unfold Ex.val at HC
    clear hyk hym hs0 hpfy hKa hka
    go_wp2_with fail
    refine HC.out.mono ?_
    rintro e W4 ⟨rfl,hK4,hk4⟩
    have HK4:Hid (K (pre ++ [x] ++ Ex.nodess (x.sub.take (k+1))) W4):=Lib.hid (by rw [HSn.out,← List.append_assoc];exact hK4)
    have hk5:=HKA.out.trans hk4
    clear hK4 hk4 HC c0 c1 c2 c3 c4
    go_wp2
    go_roundw
    case rel => exact ⟨k+1,by omega,by go_num,HK4,hk5⟩
    case measure => simp [intOf];omega
   ·obtain rfl:k=x.sub.length:=by omega
    have HF:Hid (K (pre ++ (x :: Ex.nodess x.sub)) wr∧KeptO w0.heap.size D Bo W wr):=Lib.hid ⟨by
     have h:=HKr.out
     rw [List.take_length,HFin.out] at h
     exact h,hkr⟩
    go_wp2
    go_end0
    exact ⟨rfl,HF.out.1,HF.out.2⟩
end Go.Proofs.YtcnpaciljmekcaaGreatDoor

namespace Go.Proofs.YtcnpaciljmekcaaGreatDoor
open Go.RowKit
set_option maxRecDepth 100000 in
theorem silent1_any (x:Ex) (s v:Value) (w0 w:World) (hs:RdE w0 x.sub s):Calls Tryz.prog 94 #[x.val s,v] w fun e w' => e = .returned (.tuple #[])∧Below w.heap.size w w':=by
 obtain ⟨ad,cap,rfl⟩:=hs.len
 clear hs
 unfold Ex.val
 go_enter Tryz.func94,Tryz.ntmps94
 go_wp2
 go_end0
 exact ⟨rfl,below_a1 _ _⟩
set_option maxRecDepth 100000 in
theorem silent2_any (p n:ByteArray) (v:Value) (w:World):Calls Tryz.prog 95 #[.string p,.string n,v] w fun e w' => e = .returned (.tuple #[])∧w=w':=by
 go_enter Tryz.func95,Tryz.ntmps95
 go_wp2
 go_end0
 exact ⟨rfl,rfl⟩
set_option maxRecDepth 100000 in
theorem silent3_any (v:Value) (w:World):Calls Tryz.prog 96 #[v] w fun e w' => e = .returned (.tuple #[])∧w=w':=by
 go_enter Tryz.func96,Tryz.ntmps96
 go_wp2
 go_end0
 exact ⟨rfl,rfl⟩
set_option maxRecDepth 100000 in
theorem silent_any (w:World):Calls Tryz.prog 48 #[] w fun e w' => e = .returned (.agg #[.func (.func 94) #[] #[],.func (.func 95) #[] #[],.func (.func 96) #[] #[]])∧Below w.heap.size w w':=by
 go_enter Tryz.func48,Tryz.ntmps48
 go_wp2
 refine bodyPost_ret (v:=.agg #[.func (.func 94) #[] #[],.func (.func 95) #[] #[],.func (.func 96) #[] #[]]) (by simp [results,Tryz.results48,go_sem]) rfl ?_
 exact ⟨rfl,below_a1 _ _⟩
end Go.Proofs.YtcnpaciljmekcaaGreatDoor

namespace Go.Proofs.YtcnpaciljmekcaaGreatDoor
open Go.RowKit
set_option maxHeartbeats 4000000 in
set_option maxRecDepth 100000 in
theorem latef_any (w0:World) (D Bo Bd:Nat) (b0:Bool) (ds:List Int) (vds:Value) (pre:List Ex) (y:Ex) (sy:Value) (W:World) (hBo:w0.heap.size≤Bo) (hBD:Bo < D)
  (hK:LKey w0 D Bo Bd b0 ds vds pre W) (hbW:Below w0.heap.size w0 W) (hsy:RdE w0 y.sub sy) :
  Calls Tryz.prog 60 #[y.val sy,.pointer (some ⟨Bo,0,none⟩),.pointer (some ⟨Bd,0,none⟩)] W fun e W' => e = .returned (.tuple #[])∧LKey w0 D Bo Bd b0 ds vds (pre ++ [y]) W'∧KeptO w0.heap.size D Bo W W':=by
 obtain ⟨ad,cap,rfl⟩:=hsy.len
 have hbo:=hK.1.lt
 have hbA:=below_a1 W (.cells #[.int .u8 y.k,.string y.ra,.string y.nm,.int .i64 y.d,.slice ad y.sub.length cap] 25)
 have hk0:KeptO w0.heap.size D Bo W (W.alloc (.cells #[.int .u8 y.k,.string y.ra,.string y.nm,.int .i64 y.d,.slice ad y.sub.length cap] 25)):=KeptO.of_below hbW.size hbo hbA
 have hbx:=EBox.new W y (.slice ad y.sub.length cap) 25
 have hK0:=hK.frame hbW.size hbA
 unfold Ex.val
 obtain ⟨W1,hW1⟩:∃ W1,W.alloc (.cells #[.int .u8 y.k,.string y.ra,.string y.nm,.int .i64 y.d,.slice ad y.sub.length cap] 25)=W1:=⟨_,rfl⟩
 have hlW:W.heap.size < W1.heap.size:=by rw [← hW1];simp
 rw [hW1] at hbA hk0 hbx hK0
 obtain ⟨lt,hlt⟩:∃ lt,(b0 || pre.any (xLate ds))=lt:=⟨_,rfl⟩
 have HF:=Lib.hid fun (b:Bool) (hb:b=(lt || xLate ds y)) => (hK0.step hBo hBD y b (by rw [hlt];exact hb)).imp id hk0.trans
 obtain ⟨hbv,hcd1,hpd1,hda1⟩:=hK0
 rw [hlt] at hbv
 have hcv:=hbv.cell
 have hfz:=hbv.frozen
 have hlBo:=hbv.lt
 have hlBd:=hpd1.2.1
 go_enter Tryz.func60,Tryz.ntmps60
 go_upto_region 1 with fail
 obtain ⟨c0,c1,c2,c3,c4⟩:=hbx
 obtain ⟨adv,capv,rfl,_,hrd⟩:=hda1.1
 clear hbv hda1 hpd1 hK hk0 hbA hlt
 cases lt with
 | true =>
  have hN:=HF.out true (by simp)
  have HN:=Lib.hid hN
  clear hN hrd
  go_region
  all_goals
   go_wp2
   go_end0
   exact ⟨rfl,HN.out.1,HN.out.2⟩
 | false =>
  by_cases h2:y.k=2
  ·have t2:((y.k:Int) == 2)=true:=by rw [h2];rfl
   cases ds with
   | nil =>
    have HN:=Lib.hid (HF.out false (by simp [xLate]))
    clear hrd h2
    go_region
    all_goals
     go_wp2
     go_end0
     exact ⟨rfl,HN.out.1,HN.out.2⟩
   | cons d0 dr =>
    obtain ⟨b,off,rfl,hc0⟩:=hrd 0 d0 rfl
    rw [Nat.add_zero] at hc0
    have tl:decide ((0:Int) < (dr.length:Int)+1)=true:=by rw [decide_eq_true_eq];omega
    have HN:=Lib.hid (HF.out (decide (d0 < y.d)) (by simp [xLate,h2]))
    have hbl:b < W1.heap.size:=World.block_lt_of_cell? W1 _ hc0
    clear hrd h2
    go_region
    all_goals
     go_wp2
     go_end0
     exact ⟨rfl,HN.out.1,HN.out.2⟩
  ·have t2:((y.k:Int) == 2)=false:=by simp;omega
   have HN:=Lib.hid (HF.out false (by unfold xLate;split <;> simp [h2]))
   clear hrd h2
   go_region
   all_goals
    go_wp2
    go_end0
    exact ⟨rfl,HN.out.1,HN.out.2⟩
end Go.Proofs.YtcnpaciljmekcaaGreatDoor

namespace Go.Proofs.YtcnpaciljmekcaaGreatDoor
open Go.RowKit
section
variable {α:Type} [DecidableEq α]
omit [DecidableEq α] in
theorem merge_mem (le:α→α→Bool) (L:List α) (z:α):z ∈ L.mergeSort le ↔ z ∈ L:=List.mem_mergeSort
omit [DecidableEq α] in
theorem merge_ord {lt:α→α→Bool} (h:STO lt) (L:List α):(L.mergeSort fun x y => !lt y x).Pairwise fun a b => lt b a=false:=by
 have hnt:∀ x y z,lt x y=false→lt y z=false→lt x z=false:=fun x y z h1 h2 => by
  cases h3:lt x z with
  | false => rfl
  | true =>
   by_cases e1:lt y x=true
   ·have:=h.trans y x z e1 h3
    rw [this] at h2;cases h2
   ·have:=h.conn x y h1 (by simpa using e1)
    subst this
    rw [h3] at h2;cases h2
 have:=List.pairwise_mergeSort (le:=fun x y => !lt y x)
  (fun a b c h1 h2 => by simp only [Bool.not_eq_true'] at h1 h2 ⊢;exact hnt c b a h2 h1)
  (fun a b => by
   cases h1:lt b a with
   | false => rfl
   | true => simp [h.asymm h1]) L
 exact this.imp fun h1 => by simpa using h1
def uniq (lt:α→α→Bool) (L:List α):List α:=cmpct (L.mergeSort fun x y => !lt y x)
theorem uniq_mem (lt:α→α→Bool) (L:List α) (z:α):z ∈ uniq lt L ↔ z ∈ L:=by rw [uniq,cmpct_mem,merge_mem]
theorem uniq_srt {lt:α→α→Bool} (h:STO lt) (L:List α):Srt lt (uniq lt L):=cmpct_srt h _ (merge_ord h L)
end
end Go.Proofs.YtcnpaciljmekcaaGreatDoor

namespace Go.Proofs
open Go.Shelf
def Tryz.laysNeed_ren:Go.Shelf.Ren:=⟨fun | 6 => 127 | 15 => 138 | 14 => 168 | 28 => 180 | 29 => 181 | 20 => 209 | 21 => 210 | 22 => 211 | 23 => 212 | 24 => 213 | 25 => 214 | 26 => 215 | 27 => 216 | 46 => 240 | 47 => 226 | 48 => 227 | 49 => 241 | 50 => 242 | 57 => 255 | n => n,fun | 22 => 63 | 24 => 81 | 25 => 118 | 3 => 3 | 39 => 187 | 0 => 0 | 53 => 229 | 55 => 231 | 4 => 4 | 46 => 222 | 45 => 221 | 50 => 86 | 5 => 5 | 9 => 9 | 66 => 265 | 70 => 269 | 76 => 291 | 77 => 292 | n => n,fun | n => n⟩
theorem Tryz.laysNeed:Go.Proofs.SlLaysF0.n6 Tryz.prog Tryz.laysNeed_ren:={
 mixed:=by kernel_rfl
 f6:=⟨Tryz.f127.name,by decide,Tryz.func127.trans (congrArg some (by kernel_rfl))⟩
 f14:=⟨Tryz.f168.name,by decide,Tryz.func168.trans (congrArg some (by kernel_rfl))⟩
 f15:=Tryz.func138.trans (congrArg some (by kernel_rfl))
 f20:=⟨Tryz.f209.name,by decide,Tryz.func209.trans (congrArg some (by kernel_rfl))⟩
 f21:=⟨Tryz.f210.name,by decide,Tryz.func210.trans (congrArg some (by kernel_rfl))⟩
 f22:=⟨Tryz.f211.name,by decide,Tryz.func211.trans (congrArg some (by kernel_rfl))⟩
 f23:=⟨Tryz.f212.name,by decide,Tryz.func212.trans (congrArg some (by kernel_rfl))⟩
 f24:=⟨Tryz.f213.name,by decide,Tryz.func213.trans (congrArg some (by kernel_rfl))⟩
 f25:=⟨Tryz.f214.name,by decide,Tryz.func214.trans (congrArg some (by kernel_rfl))⟩
 f26:=⟨Tryz.f215.name,by decide,Tryz.func215.trans (congrArg some (by kernel_rfl))⟩
 f27:=⟨Tryz.f216.name,by decide,Tryz.func216.trans (congrArg some (by kernel_rfl))⟩
 f28:=Tryz.func180.trans (congrArg some (by kernel_rfl))
 f29:=Tryz.func181.trans (congrArg some (by kernel_rfl))
 f46:=⟨Tryz.f240.name,by decide,Tryz.func240.trans (congrArg some (by kernel_rfl))⟩
 f47:=Tryz.func226.trans (congrArg some (by kernel_rfl))
 f48:=Tryz.func227.trans (congrArg some (by kernel_rfl))
 f49:=⟨Tryz.f241.name,by decide,Tryz.func241.trans (congrArg some (by kernel_rfl))⟩
 f50:=⟨Tryz.f242.name,by decide,Tryz.func242.trans (congrArg some (by kernel_rfl))⟩
 f57:=⟨Tryz.f255.name,by decide,Tryz.func255.trans (congrArg some (by kernel_rfl))⟩
 t0:=Tryz.underlying0
 a0:=Tryz.isAgg0
 z0:=Tryz.sizeOf0
 v0:=Tryz.zeroValue0
 t3:=Tryz.underlying3
 a3:=Tryz.isAgg3
 z3:=Tryz.sizeOf3
 v3:=Tryz.zeroValue3
 t4:=Tryz.underlying4
 a4:=Tryz.isAgg4
 z4:=Tryz.sizeOf4
 v4:=Tryz.zeroValue4
 t5:=Tryz.underlying5
 a5:=Tryz.isAgg5
 z5:=Tryz.sizeOf5
 v5:=Tryz.zeroValue5
 t9:=Tryz.underlying9
 a9:=Tryz.isAgg9
 z9:=Tryz.sizeOf9
 v9:=Tryz.zeroValue9
 t22:=Tryz.underlying63
 a22:=Tryz.isAgg63
 z22:=Tryz.sizeOf63
 v22:=Tryz.zeroValue63
 t25:=Tryz.underlying118
 a25:=Tryz.isAgg118
 z25:=Tryz.sizeOf118
 v25:=Tryz.zeroValue118
 t39:=Tryz.underlying187
 a39:=Tryz.isAgg187
 z39:=Tryz.sizeOf187
 v39:=Tryz.zeroValue187
 t45:=Tryz.underlying221
 a45:=Tryz.isAgg221
 z45:=Tryz.sizeOf221
 v45:=Tryz.zeroValue221
 t46:=Tryz.underlying222
 a46:=Tryz.isAgg222
 z46:=Tryz.sizeOf222
 v46:=Tryz.zeroValue222
 t50:=Tryz.underlying86
 a50:=Tryz.isAgg86
 z50:=Tryz.sizeOf86
 v50:=Tryz.zeroValue86
 t53:=Tryz.underlying229
 a53:=Tryz.isAgg229
 z53:=Tryz.sizeOf229
 v53:=Tryz.zeroValue229
 t55:=Tryz.underlying231
 a55:=Tryz.isAgg231
 z55:=Tryz.sizeOf231
 v55:=Tryz.zeroValue231
 t66:=Tryz.underlying265
 a66:=Tryz.isAgg265
 z66:=Tryz.sizeOf265
 v66:=Tryz.zeroValue265
 t70:=Tryz.underlying269
 a70:=Tryz.isAgg269
 z70:=Tryz.sizeOf269
 v70:=Tryz.zeroValue269
 t76:=Tryz.underlying291
 a76:=Tryz.isAgg291
 z76:=Tryz.sizeOf291
 v76:=Tryz.zeroValue291
 t77:=Tryz.underlying292
 a77:=Tryz.isAgg292
 z77:=Tryz.sizeOf292
 v77:=Tryz.zeroValue292 }
def Tryz.laysChoice_ren:Go.Shelf.Ren:=⟨fun | 6 => 132 | 15 => 138 | 14 => 170 | 28 => 180 | 29 => 181 | 20 => 217 | 21 => 218 | 22 => 219 | 23 => 220 | 24 => 221 | 25 => 222 | 26 => 223 | 27 => 224 | 46 => 243 | 47 => 226 | 48 => 227 | 49 => 244 | 50 => 245 | 57 => 256 | n => n,fun | 22 => 31 | 24 => 85 | 25 => 124 | 3 => 3 | 39 => 187 | 0 => 0 | 53 => 229 | 55 => 231 | 4 => 4 | 46 => 222 | 45 => 221 | 50 => 86 | 5 => 5 | 9 => 9 | 66 => 265 | 70 => 269 | 76 => 291 | 77 => 292 | n => n,fun | n => n⟩
theorem Tryz.laysChoice:Go.Proofs.SlLaysF0.n6 Tryz.prog Tryz.laysChoice_ren:={
 mixed:=by kernel_rfl
 f6:=⟨Tryz.f132.name,by decide,Tryz.func132.trans (congrArg some (by kernel_rfl))⟩
 f14:=⟨Tryz.f170.name,by decide,Tryz.func170.trans (congrArg some (by kernel_rfl))⟩
 f15:=Tryz.func138.trans (congrArg some (by kernel_rfl))
 f20:=⟨Tryz.f217.name,by decide,Tryz.func217.trans (congrArg some (by kernel_rfl))⟩
 f21:=⟨Tryz.f218.name,by decide,Tryz.func218.trans (congrArg some (by kernel_rfl))⟩
 f22:=⟨Tryz.f219.name,by decide,Tryz.func219.trans (congrArg some (by kernel_rfl))⟩
 f23:=⟨Tryz.f220.name,by decide,Tryz.func220.trans (congrArg some (by kernel_rfl))⟩
 f24:=⟨Tryz.f221.name,by decide,Tryz.func221.trans (congrArg some (by kernel_rfl))⟩
 f25:=⟨Tryz.f222.name,by decide,Tryz.func222.trans (congrArg some (by kernel_rfl))⟩
 f26:=⟨Tryz.f223.name,by decide,Tryz.func223.trans (congrArg some (by kernel_rfl))⟩
 f27:=⟨Tryz.f224.name,by decide,Tryz.func224.trans (congrArg some (by kernel_rfl))⟩
 f28:=Tryz.func180.trans (congrArg some (by kernel_rfl))
 f29:=Tryz.func181.trans (congrArg some (by kernel_rfl))
 f46:=⟨Tryz.f243.name,by decide,Tryz.func243.trans (congrArg some (by kernel_rfl))⟩
 f47:=Tryz.func226.trans (congrArg some (by kernel_rfl))
 f48:=Tryz.func227.trans (congrArg some (by kernel_rfl))
 f49:=⟨Tryz.f244.name,by decide,Tryz.func244.trans (congrArg some (by kernel_rfl))⟩
 f50:=⟨Tryz.f245.name,by decide,Tryz.func245.trans (congrArg some (by kernel_rfl))⟩
 f57:=⟨Tryz.f256.name,by decide,Tryz.func256.trans (congrArg some (by kernel_rfl))⟩
 t0:=Tryz.underlying0
 a0:=Tryz.isAgg0
 z0:=Tryz.sizeOf0
 v0:=Tryz.zeroValue0
 t3:=Tryz.underlying3
 a3:=Tryz.isAgg3
 z3:=Tryz.sizeOf3
 v3:=Tryz.zeroValue3
 t4:=Tryz.underlying4
 a4:=Tryz.isAgg4
 z4:=Tryz.sizeOf4
 v4:=Tryz.zeroValue4
 t5:=Tryz.underlying5
 a5:=Tryz.isAgg5
 z5:=Tryz.sizeOf5
 v5:=Tryz.zeroValue5
 t9:=Tryz.underlying9
 a9:=Tryz.isAgg9
 z9:=Tryz.sizeOf9
 v9:=Tryz.zeroValue9
 t22:=Tryz.underlying31
 a22:=Tryz.isAgg31
 z22:=Tryz.sizeOf31
 v22:=Tryz.zeroValue31
 t25:=Tryz.underlying124
 a25:=Tryz.isAgg124
 z25:=Tryz.sizeOf124
 v25:=Tryz.zeroValue124
 t39:=Tryz.underlying187
 a39:=Tryz.isAgg187
 z39:=Tryz.sizeOf187
 v39:=Tryz.zeroValue187
 t45:=Tryz.underlying221
 a45:=Tryz.isAgg221
 z45:=Tryz.sizeOf221
 v45:=Tryz.zeroValue221
 t46:=Tryz.underlying222
 a46:=Tryz.isAgg222
 z46:=Tryz.sizeOf222
 v46:=Tryz.zeroValue222
 t50:=Tryz.underlying86
 a50:=Tryz.isAgg86
 z50:=Tryz.sizeOf86
 v50:=Tryz.zeroValue86
 t53:=Tryz.underlying229
 a53:=Tryz.isAgg229
 z53:=Tryz.sizeOf229
 v53:=Tryz.zeroValue229
 t55:=Tryz.underlying231
 a55:=Tryz.isAgg231
 z55:=Tryz.sizeOf231
 v55:=Tryz.zeroValue231
 t66:=Tryz.underlying265
 a66:=Tryz.isAgg265
 z66:=Tryz.sizeOf265
 v66:=Tryz.zeroValue265
 t70:=Tryz.underlying269
 a70:=Tryz.isAgg269
 z70:=Tryz.sizeOf269
 v70:=Tryz.zeroValue269
 t76:=Tryz.underlying291
 a76:=Tryz.isAgg291
 z76:=Tryz.sizeOf291
 v76:=Tryz.zeroValue291
 t77:=Tryz.underlying292
 a77:=Tryz.isAgg292
 z77:=Tryz.sizeOf292
 v77:=Tryz.zeroValue292 }
def Tryz.laysInt_ren:Go.Shelf.Ren:=⟨fun | 6 => 99 | 15 => 138 | 14 => 151 | 28 => 180 | 29 => 181 | 20 => 195 | 21 => 196 | 22 => 197 | 23 => 198 | 24 => 199 | 25 => 200 | 26 => 201 | 27 => 202 | 46 => 232 | 47 => 226 | 48 => 227 | 49 => 233 | 50 => 234 | 57 => 252 | n => n,fun | 22 => 26 | 24 => 3 | 25 => 98 | 3 => 3 | 39 => 187 | 0 => 0 | 53 => 229 | 55 => 231 | 4 => 4 | 46 => 222 | 45 => 221 | 50 => 86 | 5 => 5 | 9 => 9 | 66 => 265 | 70 => 269 | 76 => 291 | 77 => 292 | n => n,fun | n => n⟩
theorem Tryz.laysInt:Go.Proofs.SlLaysF.n6 Tryz.prog Tryz.laysInt_ren:={
 mixed:=by kernel_rfl
 f6:=⟨Tryz.f99.name,by decide,Tryz.func99.trans (congrArg some (by kernel_rfl))⟩
 f14:=⟨Tryz.f151.name,by decide,Tryz.func151.trans (congrArg some (by kernel_rfl))⟩
 f15:=Tryz.func138.trans (congrArg some (by kernel_rfl))
 f20:=⟨Tryz.f195.name,by decide,Tryz.func195.trans (congrArg some (by kernel_rfl))⟩
 f21:=⟨Tryz.f196.name,by decide,Tryz.func196.trans (congrArg some (by kernel_rfl))⟩
 f22:=⟨Tryz.f197.name,by decide,Tryz.func197.trans (congrArg some (by kernel_rfl))⟩
 f23:=⟨Tryz.f198.name,by decide,Tryz.func198.trans (congrArg some (by kernel_rfl))⟩
 f24:=⟨Tryz.f199.name,by decide,Tryz.func199.trans (congrArg some (by kernel_rfl))⟩
 f25:=⟨Tryz.f200.name,by decide,Tryz.func200.trans (congrArg some (by kernel_rfl))⟩
 f26:=⟨Tryz.f201.name,by decide,Tryz.func201.trans (congrArg some (by kernel_rfl))⟩
 f27:=⟨Tryz.f202.name,by decide,Tryz.func202.trans (congrArg some (by kernel_rfl))⟩
 f28:=Tryz.func180.trans (congrArg some (by kernel_rfl))
 f29:=Tryz.func181.trans (congrArg some (by kernel_rfl))
 f46:=⟨Tryz.f232.name,by decide,Tryz.func232.trans (congrArg some (by kernel_rfl))⟩
 f47:=Tryz.func226.trans (congrArg some (by kernel_rfl))
 f48:=Tryz.func227.trans (congrArg some (by kernel_rfl))
 f49:=⟨Tryz.f233.name,by decide,Tryz.func233.trans (congrArg some (by kernel_rfl))⟩
 f50:=⟨Tryz.f234.name,by decide,Tryz.func234.trans (congrArg some (by kernel_rfl))⟩
 f57:=⟨Tryz.f252.name,by decide,Tryz.func252.trans (congrArg some (by kernel_rfl))⟩
 t0:=Tryz.underlying0
 a0:=Tryz.isAgg0
 z0:=Tryz.sizeOf0
 v0:=Tryz.zeroValue0
 t3:=Tryz.underlying3
 a3:=Tryz.isAgg3
 z3:=Tryz.sizeOf3
 v3:=Tryz.zeroValue3
 t4:=Tryz.underlying4
 a4:=Tryz.isAgg4
 z4:=Tryz.sizeOf4
 v4:=Tryz.zeroValue4
 t5:=Tryz.underlying5
 a5:=Tryz.isAgg5
 z5:=Tryz.sizeOf5
 v5:=Tryz.zeroValue5
 t9:=Tryz.underlying9
 a9:=Tryz.isAgg9
 z9:=Tryz.sizeOf9
 v9:=Tryz.zeroValue9
 t22:=Tryz.underlying26
 a22:=Tryz.isAgg26
 z22:=Tryz.sizeOf26
 v22:=Tryz.zeroValue26
 a24:=Tryz.isAgg3
 z24:=Tryz.sizeOf3
 t25:=Tryz.underlying98
 a25:=Tryz.isAgg98
 z25:=Tryz.sizeOf98
 v25:=Tryz.zeroValue98
 t39:=Tryz.underlying187
 a39:=Tryz.isAgg187
 z39:=Tryz.sizeOf187
 v39:=Tryz.zeroValue187
 t45:=Tryz.underlying221
 a45:=Tryz.isAgg221
 z45:=Tryz.sizeOf221
 v45:=Tryz.zeroValue221
 t46:=Tryz.underlying222
 a46:=Tryz.isAgg222
 z46:=Tryz.sizeOf222
 v46:=Tryz.zeroValue222
 t50:=Tryz.underlying86
 a50:=Tryz.isAgg86
 z50:=Tryz.sizeOf86
 v50:=Tryz.zeroValue86
 t53:=Tryz.underlying229
 a53:=Tryz.isAgg229
 z53:=Tryz.sizeOf229
 v53:=Tryz.zeroValue229
 t55:=Tryz.underlying231
 a55:=Tryz.isAgg231
 z55:=Tryz.sizeOf231
 v55:=Tryz.zeroValue231
 t66:=Tryz.underlying265
 a66:=Tryz.isAgg265
 z66:=Tryz.sizeOf265
 v66:=Tryz.zeroValue265
 t70:=Tryz.underlying269
 a70:=Tryz.isAgg269
 z70:=Tryz.sizeOf269
 v70:=Tryz.zeroValue269
 t76:=Tryz.underlying291
 a76:=Tryz.isAgg291
 z76:=Tryz.sizeOf291
 v76:=Tryz.zeroValue291
 t77:=Tryz.underlying292
 a77:=Tryz.isAgg292
 z77:=Tryz.sizeOf292
 v77:=Tryz.zeroValue292 }
end Go.Proofs

namespace Go.Proofs.YtcnpaciljmekcaaGreatDoor
open Go.RowKit
open Go.Sort (HoldsK Holds flatK get_flatK size_flatK ext_get! putRowK putRow putCells mapBlock onCells grow heap_grow_old SWO)
section
variable {α:Type} [Inhabited α] {enc:α→List Value} {k:Nat}
theorem flatK_list (hk:∀ x,(enc x).length=k) (L:List α):flatK enc k L.toArray=(L.flatMap enc).toArray:=by
 have hfl:=flat_length enc k hk L
 refine ext_get! (by rw [size_flatK,List.size_toArray,List.size_toArray,hfl]) fun t ht => ?_
 have ht':t < L.length * k:=by rw [size_flatK] at ht;simpa using ht
 have k0:0 < k:=by
  rcases Nat.eq_zero_or_pos k with h | h
  ·subst h;simp at ht'
  ·exact h
 rw [get_flatK _ _ _ t (by simpa using ht')]
 have hq:t / k < L.length:=Nat.div_lt_of_lt_mul (by rw [Nat.mul_comm];exact ht')
 have hm:=Nat.mod_lt t k0
 have e:t / k * k+t % k=t:=by rw [Nat.mul_comm];exact Nat.div_add_mod t k
 have h1:=flat_at (enc:=enc) (m:=k) hk (List.getElem?_eq_getElem hq) (t % k) _ (List.getElem?_eq_getElem (by rw [hk];exact hm))
 rw [e] at h1
 rw [getElem!_pos L.toArray (t / k) (by simpa using hq),getElem!_pos (enc L.toArray[t / k]) (t % k) (by rw [hk];exact hm),getElem!_def,List.getElem?_toArray,h1]
 rfl
variable {W:World} {base g cap:Nat} {e:TypeId} {L T:List α}
theorem holdsK_own (hk:∀ x,(enc x).length=k) (hown:W.ownsRow base e k (.slice (some ⟨g,0,none⟩) L.length cap) L.length (L.flatMap enc)):HoldsK enc k W g 0 L.toArray:=by
 have hfl:=flat_length enc k hk L
 unfold HoldsK
 rw [flatK_list hk]
 intro j hj
 have hj':j < (L.flatMap enc).length:=by simpa using hj
 refine ⟨?_,by rw [Nat.zero_add];exact hown.frozenAt j⟩
 rw [Nat.zero_add,hown.cellAt j (by omega),List.getElem?_eq_getElem hj',getElem!_pos _ j hj]
 simp
theorem heap_put (F:Array Value) (q:Nat) (os:Array Obj) {cur:Array Value} {fr:Nat × Nat} (hb:W.heap[g]? = some (.cells cur e fr)) :
  (grow (putRow id (Sort.ahead W q) g 0 F) os).heap[g]? = some (.cells (putCells id 0 F cur) e fr):=by
 have hg:g < W.heap.size:=(Array.getElem?_eq_some_iff.1 hb).1
 rw [heap_grow_old _ _ (by simpa using hg)]
 simp [putRow,mapBlock,Sort.ahead,Array.getElem?_modify,hb,onCells]
theorem grownBy_put (F:Array Value) (q:Nat) (os:Array Obj):W.grownBy (grow (putRow id (Sort.ahead W q) g 0 F) os) (some g):=by
 refine ⟨rfl,rfl,rfl,by simp,fun j hj hne => ?_⟩
 rw [heap_grow_old _ _ (by simpa using hj)]
 have:g ≠ j:=fun e => hne (by rw [e])
 simp [putRow,mapBlock,Sort.ahead,Array.getElem?_modify,this]
theorem take_put (cur:Array Value) (xs:List Value) (h:xs.length≤cur.size):(putCells id 0 xs.toArray cur).toList.take xs.length=xs:=by
 apply List.ext_getElem?
 intro j
 by_cases hj:j < xs.length
 ·rw [List.getElem?_take_of_lt hj,Array.getElem?_toList]
  simp [putCells,hj,show j < cur.size by omega]
 ·rw [List.getElem?_take_eq_none (by omega),List.getElem?_eq_none (by omega)]
theorem sorted_row (hk:∀ x,(enc x).length=k) (hown:W.ownsRow base e k (.slice (some ⟨g,0,none⟩) L.length cap) L.length (L.flatMap enc)) (hl:T.length=L.length) (q:Nat) (os:Array Obj) :
  (sortWorldK enc k W g 0 q T.toArray os).ownsRow base e k (.slice (some ⟨g,0,none⟩) L.length cap) L.length (T.flatMap enc)∧W.grownBy (sortWorldK enc k W g 0 q T.toArray os) (some g):=by
 have hfl:=flat_length enc k hk T
 unfold sortWorldK putRowK
 rw [flatK_list hk]
 refine ⟨⟨by rw [hfl,hl],?_⟩,grownBy_put _ _ _⟩
 rcases hown.2 with ⟨h0,_⟩ | ⟨g',cap',cur,hv,hg,hh,hn,hc,hs,_⟩
 ·cases h0
 ·cases hv
  refine .inr ⟨g,cap,_,rfl,hg,heap_put _ _ _ hh,hn,hc,by simp [putCells,hs],?_⟩
  rw [← hl,← hfl]
  refine take_put cur _ ?_
  rw [hfl,hs,hl]
  exact Nat.mul_le_mul_right k hn
end
theorem swo_of_sto {α:Type} {lt:α→α→Bool} (h:STO lt):SWO lt where
 irrefl:=h.irrefl
 trans:=h.trans
 ntrans x y z h1 h2:=by
  cases h3:lt x z with
  | false => rfl
  | true =>
   by_cases e1:lt y x=true
   ·have:=h.trans y x z e1 h3
    rw [this] at h2;cases h2
   ·have:=h.conn x y h1 (by simpa using e1)
    subst this
    rw [h3] at h2;cases h2
end Go.Proofs.YtcnpaciljmekcaaGreatDoor

namespace Go.Proofs.YtcnpaciljmekcaaGreatDoor
open Go.RowKit
theorem ul_nds:Tryz.prog.underlying 63=some (.slice 81):=by kernel_rfl
theorem info_nd:(Tryz.prog.info? 81).map (fun i => (i.zero,i.size,i.bytes))=some (some (.agg #[.string ⟨#[]⟩,.int .i64 0]),2,24):=by kernel_rfl
theorem nd_oneCells (x:NdP):∀ u ∈ ndCells x,u.oneCell'=true:=by intro u hu;simp [ndCells] at hu;rcases hu with rfl | rfl <;> rfl
theorem cell_two_at (w:World) (u v:Value) (t:TypeId):∀ j x,[u,v][j]? = some x→(w.alloc (.cells #[u,v] t)).cell? ((⟨w.heap.size,0,none⟩:Addr).add j)=some x:=by
 intro j x hj
 match j,hj with
 | 0,h => cases h;simp [Addr.add]
 | 1,h => cases h;simp [Addr.add]
set_option maxHeartbeats 4000000 in
set_option maxRecDepth 100000 in
theorem needf_any (w0:World) (D Bo Bd:Nat) (L0:List NdP) (ds:List Int) (vds:Value) (pre:List Ex) (y:Ex) (sy:Value) (W:World) (hBo:w0.heap.size≤Bo) (hBD:Bo < D) (hdl:ds.length≤2000000) (hbd:(L0 ++ (pre ++ [y]).flatMap (xNeed ds)).length≤4000000000000)
  (hK:NKey w0 D Bo Bd L0 ds vds pre W) (hbW:Below w0.heap.size w0 W) (hDW:D≤W.heap.size) (hsy:RdE w0 y.sub sy) :
  Calls Tryz.prog 67 #[y.val sy,.pointer (some ⟨Bd,0,none⟩),.pointer (some ⟨Bo,0,none⟩)] W fun e W' => e = .returned (.tuple #[])∧NKey w0 D Bo Bd L0 ds vds (pre ++ [y]) W'∧KeptO w0.heap.size D Bo W W':=by
 obtain ⟨ad,cap,rfl⟩:=hsy.len
 obtain ⟨i0,hi,hz0,hz1,hz2⟩:=info_parts info_nd
 obtain ⟨hrow,hcd,hpd,hda⟩:=hK
 have hbo:=hrow.box
 have hob:=hrow.own
 have hbA:=below_a1 W (.cells #[.int .u8 y.k,.string y.ra,.string y.nm,.int .i64 y.d,.slice ad y.sub.length cap] 25)
 have hk0:KeptO w0.heap.size D Bo W (W.alloc (.cells #[.int .u8 y.k,.string y.ra,.string y.nm,.int .i64 y.d,.slice ad y.sub.length cap] 25)):=KeptO.of_below hbW.size hbo hbA
 have hbx:=EBox.new W y (.slice ad y.sub.length cap) 25
 have hpB:=Prv.new hDW hbo hob (.cells #[.int .u8 y.k,.string y.ra,.string y.nm,.int .i64 y.d,.slice ad y.sub.length cap] 25)
 have hK0:NKey w0 D Bo Bd L0 ds vds pre (W.alloc (.cells #[.int .u8 y.k,.string y.ra,.string y.nm,.int .i64 y.d,.slice ad y.sub.length cap] 25)):=NKey.frame ⟨hrow,hcd,hpd,hda⟩ hbW.size hbA
 obtain ⟨adv,capv,rfl⟩:=hda.1.len
 have HSt:Hid (L0 ++ (pre ++ [y]).flatMap (xNeed ds)=L0 ++ pre.flatMap (xNeed ds) ++ xNeed ds y):=Lib.hid (by simp [List.flatMap_append])
 unfold Ex.val
 obtain ⟨W1,hW1⟩:∃ W1,W.alloc (.cells #[.int .u8 y.k,.string y.ra,.string y.nm,.int .i64 y.d,.slice ad y.sub.length cap] 25)=W1:=⟨_,rfl⟩
 have hlW:W.heap.size < W1.heap.size:=by rw [← hW1];simp
 rw [hW1] at hbA hk0 hbx hpB hK0
 go_enter Tryz.func67,Tryz.ntmps67
 go_upto_region 1 with fail
 obtain ⟨c0,c1,c2,c3,c4⟩:=hbx
 have HK0:=Lib.hid hK0
 obtain ⟨⟨v,hbv,hown⟩,hcd1,hpd1,hda1⟩:=hK0
 have hlBd:=hpd1.2.1
 have hlBo:=hbv.lt
 have hcv:=hbv.cell
 have hb01:=hbW.trans hk0.below
 obtain ⟨LL,hLL⟩:∃ LL,L0 ++ pre.flatMap (xNeed ds)=LL:=⟨_,rfl⟩
 rw [hLL] at hown HSt
 have HLL:=Lib.hid hLL
 clear hrow hcd hpd hda hbo hob hW1 hLL
 by_cases h2:y.k=2
 ·have t2:((y.k:Int) == 2)=true:=by rw [h2];rfl
  have t3:((y.k:Int) == 3)=false:=by rw [h2];rfl
  cases ds with
  | nil =>
   have HN:Hid (NKey w0 D Bo Bd L0 [] (.slice adv ([]:List Int).length capv) (pre ++ [y]) W1):=Lib.hid (by
    have h:=HK0.out
    unfold NKey at h ⊢
    rw [HLL.out] at h
    rw [HSt.out,show xNeed [] y=[] from rfl,List.append_nil]
    exact h)
   clear h2 hda1 HK0 HSt
   go_wp2_with fail
   go_end0
   exact ⟨rfl,HN.out,hk0⟩
  | cons d0 dr =>
   have HX:Hid (xNeed (d0 :: dr) y=[(y.nm,y.d)]):=Lib.hid (by unfold xNeed;rw [if_neg (by simp),if_pos h2])
   have tl:decide ((0:Int) < (dr.length:Int)+1)=true:=by rw [decide_eq_true_eq];omega
   have hlb:LL.length+1≤4000000000000:=by
    have h:=hbd
    rw [HSt.out,HX.out,List.length_append] at h
    exact h
   clear h2
   go_wp2_with (at_builtin;refine wpList_append_at _ rfl _ _ 63 rfl w0.heap.size 81 i0 (.agg #[.string ⟨#[]⟩,.int .i64 0]) 2 24 ul_nds hi hz0 hz1 hz2 rfl (by decide) _ _ _ rfl (hown.alloc _) ⟨W1.heap.size,0,none⟩ 1 1 [.string y.nm,.int .i64 y.d] rfl rfl (cell_two_at _ _ _ _) (nd_oneCells (y.nm,y.d)) ?d1 ?d2 ?d3 ?_)
   case d1 => unfold maxLen;omega
   case d2 => omega
   case d3 => have:=hb01.size;simp;omega
   intro v' w' hown' hgrow hloc
   obtain ⟨g',cap',rfl⟩:=ownsRow_succ hown'
   obtain ⟨hb1,hb2,hr2,hk2⟩:=RowAt.step (D:=D) hbv (by decide) hown hb01.size hBo hBD hown' hgrow hloc
   have HN:Hid (NKey w0 D Bo Bd L0 (d0 :: dr) (.slice adv (d0 :: dr).length capv) (pre ++ [y]) (w'.setCell ⟨Bo,0,none⟩ (.slice (some ⟨g',0,none⟩) (LL.length+1) cap'))):=Lib.hid (by
    refine ⟨⟨_,hb2,?_⟩,hpd1.cell hk2 hcd1,hpd1.kept hk2,hda1.kept hk2⟩
    rw [HSt.out,HX.out,List.length_append,List.flatMap_append]
    exact hr2)
   have HKK:=Lib.hid (hk0.trans hk2)
   have hc5:=hb1.cell
   have hf5:=hb1.frozen
   have e0:=hpB.cell hk2 c0
   have hlB2:=(hpB.kept hk2).2.1
   clear hb2 hr2 hk2 hda1 HK0 HSt HX hown hgrow hown' hloc
   go_wp2_with fail
   go_end0
   exact ⟨rfl,HN.out,HKK.out⟩
 ·have t2:((y.k:Int) == 2)=false:=by simp;omega
  by_cases h3:y.k=3
  ·have t3:((y.k:Int) == 3)=true:=by rw [h3];rfl
   have HX:Hid (xNeed ds y=ds.map fun d => (y.nm,d)):=Lib.hid (by
    unfold xNeed
    split
    ·next h => rw [h];rfl
    ·first | rfl | (rw [if_pos h3]) | (rw [if_neg h2,if_pos h3]))
   have hlb:LL.length+ds.length≤4000000000000:=by
    have h:=hbd
    rw [HSt.out,HX.out,List.length_append,List.length_map] at h
    exact h
   have HP:=Lib.hid (And.intro hpB (And.intro hpd1 hda1))
   have HC:=Lib.hid (And.intro c0 (And.intro c2 hcd1))
   have hR0:Hid (NRow w0.heap.size Bo (LL ++ (ds.take 0).map fun d => (y.nm,d)) W1):=Lib.hid (by
    rw [List.take_zero,List.map_nil,List.append_nil];exact ⟨v,hbv,hown⟩)
   clear h2 h3 hown hbv hcv hda1
   go_wp2_with fail
   go_loopw [27] (fun i wr => ∃ k:Nat,k≤ds.length∧i = .int .i64 (k:Int)∧Hid (NRow w0.heap.size Bo (LL ++ (ds.take k).map fun d => (y.nm,d)) wr)∧KeptO w0.heap.size D Bo W1 wr) (fun i _ => ds.length - (intOf i).toNat)
   case atStart => exact ⟨0,Nat.zero_le _,rfl,hR0,KeptO.refl _⟩
   case round =>
    clear hR0 c0 c1 c2 c3 c4 hcd1 hlBo hlBd hlW
    obtain ⟨k,hk,rfl,HRr,hkr⟩:=hrel
    by_cases hlt:k < ds.length
    ·obtain ⟨d,hdk⟩:∃ d,ds[k]? = some d:=⟨_,List.getElem?_eq_getElem hlt⟩
     obtain ⟨ad',cap',he,_,hrd⟩:=(HP.out.2.2.kept hkr).1
     obtain ⟨rfl,_,rfl⟩:=Value.slice.inj he
     obtain ⟨b,off,rfl,hcd⟩:=hrd k d hdk
     have q2:=HP.out.1.cell hkr HC.out.2.1
     have hlB:=(HP.out.1.kept hkr).2.1
     have hbl:b < wr.heap.size:=World.block_lt_of_cell? wr _ hcd
     obtain ⟨v,hbv,hown⟩:=HRr.out
     obtain ⟨LK,hLK⟩:∃ LK,(LL ++ (ds.take k).map fun d => (y.nm,d))=LK:=⟨_,rfl⟩
     have HLK:Hid ((LL ++ (ds.take (k+1)).map fun d => (y.nm,d))=LK ++ [(y.nm,d)]):=Lib.hid (by rw [take_snoc_get hdk,← hLK];simp)
     have HLl:Hid (LK.length=LL.length+k):=Lib.hid (by rw [← hLK];simp;omega)
     rw [hLK] at hown
     have hcv:=hbv.cell
     have hbz:=(hb01.trans hkr.below).size
     have hk1:(0:Int)≤(k:Int):=by omega
     have hk2:(k:Int) < (ds.length:Int):=by omega
     have hlBo:=hbv.lt
     clear hLK hrd hdk he
     go_wp2_with (at_builtin;refine wpList_append_at _ rfl _ _ 63 rfl w0.heap.size 81 i0 (.agg #[.string ⟨#[]⟩,.int .i64 0]) 2 24 ul_nds hi hz0 hz1 hz2 rfl (by decide) _ _ _ rfl (hown.alloc _) ⟨wr.heap.size,0,none⟩ 1 1 [.string y.nm,.int .i64 d] rfl rfl (cell_two_at _ _ _ _) (nd_oneCells (y.nm,d)) ?d1 ?d2 ?d3 ?_)
     case d1 => have:=HLl.out;unfold maxLen;omega
     case d2 => have:=HLl.out;omega
     case d3 => first | omega | (simp;omega)
     intro v' w' hown' hgrow hloc
     obtain ⟨g',cap',rfl⟩:=ownsRow_succ hown'
     obtain ⟨hb1,hb2,hr2,hk3⟩:=RowAt.step (D:=D) hbv (by decide) hown hbz hBo hBD hown' hgrow hloc
     have HN:Hid (NRow w0.heap.size Bo (LL ++ (ds.take (k+1)).map fun d => (y.nm,d)) (w'.setCell ⟨Bo,0,none⟩ (.slice (some ⟨g',0,none⟩) (LK.length+1) cap'))):=Lib.hid (by
      refine ⟨_,hb2,?_⟩
      rw [HLK.out,List.length_append,List.flatMap_append]
      exact hr2)
     have hk5:=hkr.trans hk3
     have hc5:=hb1.cell
     have hf5:=hb1.frozen
     clear hb2 hr2 hk3 hown hgrow hown' hloc hkr hcd q2
     go_wp2_with fail
     go_roundw
     case rel => exact ⟨k+1,by omega,by go_num,HN,hk5⟩
     case measure => simp [intOf];omega
    ·obtain rfl:k=ds.length:=by omega
     have HN:Hid (NKey w0 D Bo Bd L0 ds (.slice adv ds.length capv) (pre ++ [y]) wr):=Lib.hid (by
      refine ⟨?_,HP.out.2.1.cell hkr HC.out.2.2,HP.out.2.1.kept hkr,HP.out.2.2.kept hkr⟩
      have h:=HRr.out
      rw [List.take_length] at h
      rw [HSt.out,HX.out]
      exact h)
     have HKK:=Lib.hid (hk0.trans hkr)
     go_wp2
     go_end0
     exact ⟨rfl,HN.out,HKK.out⟩
  ·have t3:((y.k:Int) == 3)=false:=by simp;omega
   have HN:Hid (NKey w0 D Bo Bd L0 ds (.slice adv ds.length capv) (pre ++ [y]) W1):=Lib.hid (by
    have h:=HK0.out
    have hx:xNeed ds y=[]:=by
     unfold xNeed
     split
     ·rfl
     ·first | rfl | (rw [if_neg h2,if_neg h3]) | (rw [if_neg h3])
    unfold NKey at h ⊢
    rw [HLL.out] at h
    rw [HSt.out,hx,List.append_nil]
    exact h)
   clear h2 h3 hda1 HK0 HSt
   go_wp2_with fail
   go_end0
   exact ⟨rfl,HN.out,hk0⟩
end Go.Proofs.YtcnpaciljmekcaaGreatDoor
