/- A part. -/
import Derived.Test.YtcnpaciljmekcaaGreatDoorN04
namespace Go.Proofs.YtcnpaciljmekcaaGreatDoor
open Go.RowKit
open Go.Sort (HoldsK grow alloc_eq_grow grow_grow drew_grow SWO)
def cxCf (x y:ChP):Int:=chCmp x.1 x.2.1 x.2.2 y.1 y.2.1 y.2.2
theorem cxCf_lt:ltOf cxCf=chxLt:=by funext x y;exact chCmp_lt _ _ _ _ _ _
set_option maxHeartbeats 400000 in
set_option maxRecDepth 100000 in
theorem cxcmp_any (x y:ChP) (w:World) :
  Calls Tryz.prog 134 #[.agg #[.string x.1,.string x.2.1,.int .i64 x.2.2,.bool false],.agg #[.string y.1,.string y.2.1,.int .i64 y.2.2,.bool false]] w fun e w' => e = .returned (.int .i64 (cxCf x y))∧∃ q os',w'=grow (w.drewN q) os':=by
 obtain ⟨p1,n1,d1⟩:=x
 obtain ⟨p2,n2,d2⟩:=y
 unfold cxCf chCmp
 go_enter Tryz.func134,Tryz.ntmps134
 go_wp2
 go_region_held3 (fun w' => w'.cell? ⟨w.heap.size,0,none⟩=some (.string p1)∧w'.cell? ⟨w.heap.size,1,none⟩=some (.string n1)∧w'.cell? ⟨w.heap.size,2,none⟩=some (.int .i64 d1)∧w'.cell? ⟨w.heap.size+1,0,none⟩=some (.string p2)∧w'.cell? ⟨w.heap.size+1,1,none⟩=some (.string n2)∧w'.cell? ⟨w.heap.size+1,2,none⟩=some (.int .i64 d2)) (go_keep)
  (first | (go_at_call 131;refine (cmpS_any _ _ _).mono ?_;rintro e w' ⟨rfl,rfl⟩) | (go_at_call 101;refine (cmpI_any _ _ _).mono ?_;rintro e w' ⟨rfl,rfl⟩) | (go_at_call 130;refine (or3_any (cmpS p1 p2) (cmpS n1 n2) (cmpI d1 d2) _ _ ?_ ?_ ?_).mono ?_;(go_simp);(go_simp);(go_simp);rintro e w' ⟨rfl,rfl⟩))
 all_goals
  go_wp2
  go_ret
  exact ⟨rfl,1,_,by rw [alloc_eq_grow,alloc_eq_grow,alloc_eq_grow,grow_grow,grow_grow];rfl⟩
theorem cxcmp_enter:∀ args w,(callFunc 134 args).run Tryz.prog w = .ok (.enter 134 args) w:=enters_of Tryz.func134 (by kernel_rfl) rfl
set_option maxRecDepth 100000 in
theorem sortC_any (base:Nat) (L:List ChP) (v:Value) (W:World) (hown:W.ownsRow base 85 4 v L.length (L.flatMap cxCells)) (hlen:L.length≤4000000000000) :
  Calls Tryz.prog 132 #[v,.func (.func 134) #[] #[]] W fun e W' => e = .returned (.tuple #[]) ∧
   W'.ownsRow base 85 4 v L.length ((L.mergeSort fun x y => !chxLt y x).flatMap cxCells)∧W.grownBy W' v.ownBlock:=by
 rcases hown.2 with ⟨rfl,h0⟩ | ⟨g,cap,cur,rfl,hbg,hh,hn,hc,hs,ht⟩
 ·have hL:L=[]:=List.eq_nil_of_length_eq_zero h0
  subst hL
  have h:=AnyF.slices_SortFunc_none Tryz.laysChoice none 0 (.func (.func 134) #[] #[]) W
  refine Calls.mono (by exact h) ?_
  rintro e W' ⟨rfl,rfl⟩
  exact ⟨rfl,by simpa using hown,World.grownBy.refl _ _⟩
 ·have hblk:g < W.heap.size:=(Array.getElem?_eq_some_iff.1 hh).1
  have h:=AnyQ.slices_SortFunc_total (α:=ChP) Tryz.laysChoice 4 Tryz.isAgg85 Tryz.sizeOf85 cxCells cxCells_len cx_oneCells cxCf (by rw [cxCf_lt];exact swo_of_sto chx_sto) 134 #[] g 0 cap L.toArray W cxcmp_enter
   (fun m os dk _ x y => cxcmp_any x y _) (holdsK_own cxCells_len hown) hblk (by simp;omega) (by rw [cxCf_lt];exact fun x y h1 h2 => chx_sto.conn x y h1 h2)
  refine Calls.mono (by exact h) ?_
  rintro e W' ⟨rfl,q,os,rfl⟩
  rw [cxCf_lt]
  obtain ⟨h1,h2⟩:=sorted_row (T:=L.mergeSort fun x y => !chxLt y x) cxCells_len hown (List.length_mergeSort _) q os
  exact ⟨rfl,h1,h2⟩
def cxOrder:Value:=.agg #[.func (.func 134) #[] #[]]
set_option maxHeartbeats 1000000 in
set_option maxRecDepth 100000 in
theorem uniqC_any (base:Nat) (L:List ChP) (v:Value) (W:World) (hown:W.ownsRow base 85 4 v L.length (L.flatMap cxCells)) (hlen:L.length≤4000000000000) (hbase:base≤W.heap.size) :
  Calls Tryz.prog 73 #[v,cxOrder] W fun e W' => ∃ v',e = .returned v'∧W'.ownsRow base 85 4 v' (uniq chxLt L).length ((uniq chxLt L).flatMap cxCells)∧Below base W W':=by
 have hb0:=below_a1 W (.cells #[.func (.func 134) #[] #[]] 126)
 have hown1:=ownsRow_below' hown hb0
 have hS:=sortC_any base L v _ hown1 hlen
 have Hb0:=Lib.hid hb0
 have Hl:=Lib.hid hlen
 obtain ⟨ad,n,cap,hv⟩:∃ ad n cap,v = .slice ad n cap:=by
  rcases hown.2 with ⟨rfl,h⟩ | ⟨g,cap,cur,rfl,_⟩ <;> exact ⟨_,_,_,rfl⟩
 have HO:=Lib.hid hown1
 subst hv
 clear hown hown1 hb0 hlen
 unfold cxOrder
 go_enter Tryz.func73,Tryz.ntmps73
 go_wp2_with (go_at_call 132;refine hS.mono ?_;rintro e w1 ⟨rfl,h1,h2⟩)
 have hml:(L.mergeSort fun x y => !chxLt y x).length=L.length:=List.length_mergeSort _
 rw [← hml] at h1
 have hC:=compactC_any base _ _ w1 h1 (by rw [hml];exact Hl.out)
 have hb1:=(Hb0.out.mono hbase).grown h2 (by simp;omega) (fun k e => (HO.out.lt k e).1)
 have hlt1:=fun k e => (h1.lt k e).1
 clear h1 h2
 go_wp2_with (go_at_call 133;refine hC.mono ?_;rintro e w2 ⟨v2,rfl,h3,h4⟩)
 go_ret
 exact ⟨_,rfl,h3,hb1.grown h4 (Nat.le_trans hbase hb1.size) hlt1⟩
set_option maxRecDepth 100000 in
theorem cxOrder_any (W:World):Calls Tryz.prog 74 #[] W fun e W' => e = .returned cxOrder∧Below W.heap.size W W':=by
 go_enter Tryz.func74,Tryz.ntmps74
 go_wp2
 refine bodyPost_ret (v:=.agg #[.func (.func 134) #[] #[]]) (by simp [results,Tryz.results74,go_sem]) rfl ?_
 exact ⟨rfl,below_a1 _ _⟩
end Go.Proofs.YtcnpaciljmekcaaGreatDoor

namespace Go.Proofs.YtcnpaciljmekcaaGreatDoor
open Go.RowKit
theorem Con.found_lenM (c:Con) (day:Int) (M:Nat) (hM:1≤M) (hB:c.bulk≤M) {pre:List Ev} (hp:pre <+: c.evs [day]) :
  (evNs pre).length≤M * M∧(evCs pre).length≤M * M∧(evDs pre).length≤M * M:=by
 obtain ⟨r,hr⟩:=hp
 have hm:∀ e ∈ pre,evMost M e:=fun e he => Con.evs_most M hM c [day] hB (by simpa using hM) e (by rw [← hr];simp [he])
 have hw:evWs pre≤M:=by
  have h1:=Con.evs_w c [day]
  rw [← hr,evWs_append] at h1
  omega
 have h1:=flat_most evNeeds M (fun _ => evNeeds_len) pre hm
 have h2:=flat_most evChs M (fun _ => evChs_len) pre hm
 have h3:=flat_most evDays M (fun _ => evDays_len) pre hm
 have h4:=Nat.mul_le_mul_right M hw
 exact ⟨Nat.le_trans h1 h4,Nat.le_trans h2 h4,Nat.le_trans h3 h4⟩
set_option maxRecDepth 100000 in
theorem fewC_any (ad:Option Addr) (n cap:Nat) (e:Int) (w:World):Calls Tryz.prog 72 #[.slice ad n cap,.int .i64 e] w fun r w' => r = .returned (.tuple #[fewV e (.slice ad n cap) n,.int .i64 (fewErr e n)])∧w=w':=by
 by_cases he:e=0
 ·by_cases hn:n≤1000
  ·have HF:=Lib.hid (fewErr_ok he hn)
   subst he
   have h1:decide ((1000:Int) < (n:Int))=false:=by rw [decide_eq_false_iff_not];omega
   go_enter Tryz.func72,Tryz.ntmps72
   go_wp2
   go_ret2
   rw [fewV_ok HF.out,HF.out]
   exact ⟨rfl,rfl⟩
  ·have HF:=Lib.hid (fewErr_many he hn)
   subst he
   have h1:decide ((1000:Int) < (n:Int))=true:=by rw [decide_eq_true_eq];omega
   go_enter Tryz.func72,Tryz.ntmps72
   go_wp2
   go_ret2
   rw [fewV_err (by rw [HF.out];decide),HF.out]
   exact ⟨rfl,rfl⟩
 ·have HF:=Lib.hid (fewErr_err (n:=n) he)
  have He:=Lib.hid he
  go_enter Tryz.func72,Tryz.ntmps72
  go_wp2
  go_ret2
  rw [fewV_err (by rw [HF.out];exact He.out),HF.out]
  exact ⟨rfl,rfl⟩
theorem dead_vis (w0:World) (D Bo:Nat) (c:Con) (day:Int) (hB:c.bulk≤1100000) (hBo:w0.heap.size≤Bo) (hBD:Bo < D) :
  VisOk w0 D Bo (c.evs [day]) (fun evs W => CRow w0.heap.size Bo (evCs evs) W∧w0.heap.size≤W.heap.size) 94 71 96 #[] #[.pointer (some ⟨Bo,0,none⟩)] #[] where
 frame:=fun pre W1 W2 h hb => ⟨h.1.frame hb,Nat.le_trans h.2 hb.size⟩
 own:=fun pre W h => h.1.own
 box:=fun pre W h => h.1.box
 ee:=enters_of Tryz.func94 (by kernel_rfl) rfl
 ec:=enters_of Tryz.func71 (by kernel_rfl) rfl
 ep:=enters_of Tryz.func96 (by kernel_rfl) rfl
 expr:=fun pre x s ds v W h hbW hDW hs hxb hdl hdv hp => by
  have e1:evCs (pre ++ [.expr x ds])=evCs pre:=by rw [evCs_append];simp [evCs,evChs]
  rw [e1]
  exact (silent1_any x s v W W (hs.frame hbW)).mono fun e W' ⟨he,hw⟩ => ⟨he,⟨h.1.frame hw,Nat.le_trans h.2 hw.size⟩,KeptO.of_below hbW.size h.1.box hw⟩
 choice:=fun pre p n ds v W h hbW hDW hdl hdv hp => by
  have hlen:=(Con.found_lenM c day 1100000 (by omega) hB hp).2.1
  have e1:evCs (pre ++ [.choice p n ds])=evCs pre ++ ds.map fun d => (p,n,d):=by rw [evCs_append];simp [evCs,evChs]
  rw [e1] at hlen ⊢
  exact (dead_any w0 D Bo (evCs pre) p n ds v W hBo hBD hlen h.1 hbW hdv).mono fun e W' ⟨he,h1,h2⟩ => ⟨he,⟨h1,Nat.le_trans h.2 h2.below.size⟩,h2⟩
 pay:=fun pre ds v W h hbW hDW hdl hdv hp => by
  have e1:evCs (pre ++ [.pay ds])=evCs pre:=by rw [evCs_append];simp [evCs,evChs]
  rw [e1]
  exact (silent3_any v W).mono fun e W' ⟨he,hw⟩ => ⟨he,hw ▸ h,hw ▸ KeptO.refl W⟩
noncomputable def dErr (c:Con) (day:Int):Int:=fewErr (visErr c day) (uniq chxLt (evCs (visEvs c day))).length
noncomputable def dSet (c:Con) (day:Int):List ChP:=if dErr c day=0 then uniq chxLt (evCs (visEvs c day)) else []
set_option maxHeartbeats 4000000 in
set_option maxRecDepth 100000 in
theorem deadlines_any (c:Con) (es dd ss:Value) (day:Int) (W:World) (hB:c.bulk≤1100000) (hr:RdN W c es dd ss) (hS:LookS W) (hP:LookP W) :
  Calls Tryz.prog 27 #[c.val es dd ss,.int .i64 day] W fun e W' => ∃ v,e = .returned (.tuple #[v,.int .i64 (dErr c day)]) ∧
   W'.ownsRow W.heap.size 85 4 v (dSet c day).length ((dSet c day).flatMap cxCells)∧Below W.heap.size W W':=by
 obtain ⟨ad,cap,rfl⟩:=hr.2.2.1.len
 obtain ⟨ad1,cap1,rfl⟩:=hr.1.len
 obtain ⟨ad2,cap2,rfl⟩:=hr.2.1.len
 have hV:=dead_vis W (W.heap.size+1+1) (W.heap.size+1) c day hB (by omega) (by omega)
 have HVis:=Lib.hid fun (W2:World) => visit_any W (W.heap.size+1+1) (W.heap.size+1) c _ _ _ day _ _ _ _ _ _ _ hV W2 (by omega) hr hS hP
 unfold Con.val at HVis ⊢
 clear hr hS hP hV
 go_enter Tryz.func27,Tryz.ntmps27
 go_wp2_with fail
 refine (silent_any _).mono ?_
 rintro e w1 ⟨rfl,hb1⟩
 have hz1:=hb1.size
 simp only [World.size_alloc] at hz1
 have hl0:W.heap.size < w1.heap.size:=by omega
 have hb2:=below_a2 W (.cells #[.int .u8 c.k,.string c.fr,.string c.rc,.string c.nm,.int .u8 c.ex.k,.string c.ex.ra,.string c.ex.nm,.int .i64 c.ex.d,.slice ad1 c.ex.sub.length cap1,.int .i64 c.d,.slice ad2 c.ds.length cap2,.slice ad c.sub.length cap] 29) (.cells #[.slice none 0 0] 31)
 obtain ⟨c0,c1,c2,c3,c4,c5,c6,c7,c8,c9,c10,c11⟩:=((CBox.new W c (.slice ad1 c.ex.sub.length cap1) (.slice ad2 c.ds.length cap2) (.slice ad c.sub.length cap) 29).low (below_a1 _ (.cells #[.slice none 0 0] 31))).low hb1
 have hrow0:CRow W.heap.size (W.heap.size+1) [] ((W.alloc (.cells #[.int .u8 c.k,.string c.fr,.string c.rc,.string c.nm,.int .u8 c.ex.k,.string c.ex.ra,.string c.ex.nm,.int .i64 c.ex.d,.slice ad1 c.ex.sub.length cap1,.int .i64 c.d,.slice ad2 c.ds.length cap2,.slice ad c.sub.length cap] 29)).alloc (.cells #[.slice none 0 0] 31)) :=
  ⟨.slice none 0 0,by have:=Boxed.new (W.alloc (.cells #[.int .u8 c.k,.string c.fr,.string c.rc,.string c.nm,.int .u8 c.ex.k,.string c.ex.ra,.string c.ex.nm,.int .i64 c.ex.d,.slice ad1 c.ex.sub.length cap1,.int .i64 c.d,.slice ad2 c.ds.length cap2,.slice ad c.sub.length cap] 29)) 31 (.slice none 0 0);rwa [World.size_alloc] at this,World.ownsRow_nil _ _ _ _⟩
 have hb3:=below_a1 w1 (.cells #[.func (.func 94) #[] #[],.func (.func 71) #[] #[.pointer (some ⟨W.heap.size+1,0,none⟩)],.func (.func 96) #[] #[]] 94)
 have hrow3:=(hrow0.frame hb1).frame hb3
 have hbA:=(hb2.trans (hb1.mono (by simp;omega))).trans (hb3.mono (by omega))
 have HBA:=Lib.hid hbA
 have HV:=Lib.hid (HVis.out _ hbA (by rw [World.size_alloc];omega) ⟨hrow3,by rw [World.size_alloc];omega⟩)
 clear hb1 hb2 hb3 hrow0 hrow3 hbA hz1 HVis
 go_wp2_with fail
 refine HV.out.mono ?_
 rintro e w3 ⟨rfl,hJ,hk⟩
 obtain ⟨⟨v,hbv,hown⟩,hz3⟩:=hJ
 have hlen:(evCs (visEvs c day)).length≤4000000000000:=Nat.le_trans (Con.found_lenM c day 1100000 (by omega) hB (visEvs_prefix c day)).2.1 (by omega)
 have hcv:=hbv.cell
 have hbF:Below W.heap.size W w3:=HBA.out.trans hk.below
 have HC:=Lib.hid fun (w4:World) (hb:Below w3.drew.heap.size w3.drew w4) => (hb.cell (p:=⟨W.heap.size+1,0,none⟩) hbv.lt).trans hcv
 have HO:=Lib.hid fun (w4:World) (hb:Below w3.drew.heap.size w3.drew w4) => (ownsRow_below' (hown.drew) hb)
 have HZ:=Lib.hid fun (w4:World) (hb:Below w3.drew.heap.size w3.drew w4) => Nat.le_trans hz3 hb.size
 have HB:=Lib.hid fun (w4:World) (hb:Below w3.drew.heap.size w3.drew w4) => hbF.drew.trans (hb.mono hz3)
 have HL:=Lib.hid hlen
 obtain ⟨LN,hLN⟩:∃ LN,evCs (visEvs c day)=LN:=⟨_,rfl⟩
 obtain ⟨ve,hve⟩:∃ ve,visErr c day=ve:=⟨_,rfl⟩
 have HE:Hid (dErr c day=fewErr ve (uniq chxLt LN).length∧dSet c day=if fewErr ve (uniq chxLt LN).length=0 then uniq chxLt LN else []):=Lib.hid (by
  unfold dSet
  have:dErr c day=fewErr ve (uniq chxLt LN).length:=by unfold dErr;rw [hLN,hve]
  rw [this,hLN]
  exact ⟨rfl,rfl⟩)
 rw [hLN] at HL HO
 rw [hve]
 clear hbv hown hk hz3 hlen hbF hLN hve HV HBA
 go_wp2_with fail
 go_region_with (first
  | (go_at_call 74;refine (cxOrder_any _).mono ?_;rintro e w4 ⟨rfl,hb4⟩;have hc4:=HC.out w4 hb4;have ho4:=HO.out w4 hb4)
  | (go_at_call 73;refine (uniqC_any W.heap.size LN _ _ ho4 HL.out (HZ.out _ hb4)).mono ?_;rintro e w5 ⟨v5,rfl,h5,hb5⟩;obtain ⟨adU,capU,rfl⟩:=ownsRow_shape h5)
  | (go_at_call 72;refine (fewC_any _ _ _ _ _).mono ?_;rintro e w6 ⟨rfl,rfl⟩))
 all_goals
  go_wp2
  go_ret2
  rw [HE.out.1,HE.out.2]
  refine ⟨_,rfl,?_,(HB.out _ hb4).trans hb5⟩
  by_cases hf:fewErr ve (uniq chxLt LN).length=0
  ·rw [if_pos hf,fewV_ok hf];exact h5
  ·rw [if_neg hf,fewV_err hf];exact World.ownsRow_nil _ _ _ _
end Go.Proofs.YtcnpaciljmekcaaGreatDoor

namespace Go.Proofs.YtcnpaciljmekcaaGreatDoor
open Go.RowKit
theorem fX_sort:fX.sort=1:=by
 rw [fX,Ex.sort]
 have h:leafOk 2 bMt bX 5 0:=⟨rfl,.inr (.inl ⟨rfl,rfl,by decide,by decide⟩)⟩
 simp [sortOf,shapeOf,leafSort,Ex.sorts,h]
theorem fY_sort:fY.sort=1:=by
 rw [fY,Ex.sort]
 have h:leafOk 2 bMt bY 9 0:=⟨rfl,.inr (.inl ⟨rfl,rfl,by decide,by decide⟩)⟩
 simp [sortOf,shapeOf,leafSort,Ex.sorts,h]
theorem xAdd_sort:xAdd.sort=1:=by
 rw [xAdd,Ex.sort]
 simp [sortOf,shapeOf,partSort,Ex.sorts,fX_sort,fY_sort,bMt,ByteArray.size]
theorem xAdd_isA:xAdd.isA 1=true:=by
 have h1 : ¬ (500 < xAdd.size∨60 < xAdd.depth):=by decide
 have h2:xAdd.err=0:=by rw [Ex.err,if_neg h1,xAdd_sort,if_neg (by decide)]
 simp [Ex.isA,h2,xAdd_sort]
theorem payC_ok:nodeOk payC=true:=by
 have e:nodeOk payC=(decide (payC.sub.length=0) && (isNm (bl payC.fr) && (isNm (bl payC.rc) && (!decide (payC.fr=payC.rc) && (isNm (bl payC.nm) && (xAdd.isA 1 && (decide (payC.d=0) && decide (payC.ds.length=0)))))))):=by
  unfold nodeOk;rw [if_neg (by decide),if_pos (by decide)];rfl
 rw [e,xAdd_isA];decide
theorem atC_ok:nodeOk atC=true:=by unfold nodeOk;rw [if_neg (by decide),if_neg (by decide),if_neg (by decide),if_neg (by decide),if_neg (by decide),if_pos (by decide)];decide
theorem zeroC_ok:nodeOk zeroC=true:=by unfold nodeOk;rw [if_pos (by decide)];decide
theorem callC_ok:nodeOk callC=true:=by unfold nodeOk;rw [if_neg (by decide),if_neg (by decide),if_neg (by decide),if_neg (by decide),if_neg (by decide),if_neg (by decide),if_neg (by decide),if_pos (by decide)];decide
theorem atC_err:atC.err=0:=by
 have h1 : ¬ (500 < atC.size∨60 < atC.depth):=by decide
 have h2:atC.formed=true:=by
  have h3:payC.formed=true:=by rw [payC,Con.formed,← payC,payC_ok];rfl
  rw [atC,Con.formed,← atC,atC_ok,Con.formeds,h3];rfl
 rw [Con.err,if_neg h1,if_pos h2]
theorem callC_err:callC.err=0:=by
 have h1 : ¬ (500 < callC.size∨60 < callC.depth):=by decide
 have h2:callC.formed=true:=by
  have h3:zeroC.formed=true:=by rw [zeroC,Con.formed,← zeroC,zeroC_ok];rfl
  rw [callC,Con.formed,← callC,callC_ok,Con.formeds,h3];rfl
 rw [Con.err,if_neg h1,if_pos h2]
theorem atC_vis:visErr atC 2=0:=by unfold visErr;rw [if_pos atC_err,if_pos (by decide)]
theorem callC_vis:visErr callC 2=0:=by unfold visErr;rw [if_pos callC_err,if_pos (by decide)]
theorem atC_evs:visEvs atC 2=[.pay [5],.expr xAdd [5]]:=by
 unfold visEvs;rw [if_pos atC_vis];rfl
theorem callC_evs:visEvs callC 2=[.choice bAnn bc [3,7]]:=by
 unfold visEvs;rw [if_pos callC_vis];rfl
theorem uniq_fix {α:Type} [DecidableEq α] {lt:α→α→Bool} (h:STO lt) {l:List α} (hl:Srt lt l):uniq lt l=l:=srt_ext h (uniq_srt h l) hl fun z => uniq_mem lt l z
theorem atC_ns:evNs (visEvs atC 2)=[(bX,5),(bY,9)]:=by rw [atC_evs];rfl
theorem atC_ds:evDs (visEvs atC 2)=[5]:=by rw [atC_evs];rfl
theorem callC_cs:evCs (visEvs callC 2)=[(bAnn,bc,3),(bAnn,bc,7)]:=by rw [callC_evs];rfl
theorem atC_uniq:uniq ndLt [(bX,5),(bY,9)]=[(bX,5),(bY,9)]:=uniq_fix nd_sto (by unfold Srt;simp;decide)
theorem atC_nErr:nErr atC 2=0:=by unfold nErr;rw [atC_vis,atC_ns,atC_uniq];rfl
theorem atC_nSet:nSet atC 2=[(bX,5),(bY,9)]:=by unfold nSet;rw [if_pos atC_nErr,atC_ns,atC_uniq]
theorem atC_ySet:ySet atC 2=[5]:=by unfold ySet;rw [if_pos atC_vis,atC_ds];exact uniq_fix day_sto (by unfold Srt;simp)
theorem callC_uniq:uniq chxLt [(bAnn,bc,(3:Int)),(bAnn,bc,7)]=[(bAnn,bc,3),(bAnn,bc,7)]:=uniq_fix chx_sto (by unfold Srt;simp;decide)
theorem callC_dErr:dErr callC 2=0:=by unfold dErr;rw [callC_vis,callC_cs,callC_uniq];rfl
theorem callC_dSet:dSet callC 2=[(bAnn,bc,3),(bAnn,bc,7)]:=by unfold dSet;rw [if_pos callC_dErr,callC_cs,callC_uniq]
theorem atC_caus:causErr atC 2=34:=by unfold causErr;rw [if_pos atC_vis,atC_evs];rfl
theorem callC_caus:causErr callC 2=0:=by unfold causErr;rw [if_pos callC_vis,callC_evs];rfl
end Go.Proofs.YtcnpaciljmekcaaGreatDoor

namespace Go.Proofs.YtcnpaciljmekcaaGreatDoor
open Go.RowKit
set_option maxRecDepth 100000 in
theorem fix_any (n:ByteArray) (d:Int) (w:World):Calls Tryz.prog 41 #[.string n,.int .i64 d] w fun e w' => e = .returned (.agg #[.int .u8 2,.string ⟨#[]⟩,.string n,.int .i64 d,.slice none 0 0])∧Below w.heap.size w w':=by
 go_enter Tryz.func41,Tryz.ntmps41
 go_wp2
 refine bodyPost_ret (v:=.agg #[.int .u8 2,.string ⟨#[]⟩,.string n,.int .i64 d,.slice none 0 0]) (by simp [results,Tryz.results41,go_sem]) rfl ?_
 exact ⟨rfl,below_a1 _ _⟩
set_option maxRecDepth 100000 in
theorem pay_any (k:Int) (r n:ByteArray) (d:Int) (ad:Option Addr) (m cap:Nat) (w:World):Calls Tryz.prog 40 #[.agg #[.int .u8 k,.string r,.string n,.int .i64 d,.slice ad m cap]] w fun e w' =>
  e = .returned (.agg #[.int .u8 2,.string ⟨#[65,110,110]⟩,.string ⟨#[66,111,98]⟩,.string ⟨#[85,83,68]⟩,.int .u8 k,.string r,.string n,.int .i64 d,.slice ad m cap,.int .i64 0,.slice none 0 0,.slice none 0 0])∧Below w.heap.size w w':=by
 go_enter Tryz.func40,Tryz.ntmps40
 go_wp2
 refine bodyPost_ret (v:=.agg #[.int .u8 2,.string ⟨#[65,110,110]⟩,.string ⟨#[66,111,98]⟩,.string ⟨#[85,83,68]⟩,.int .u8 k,.string r,.string n,.int .i64 d,.slice ad m cap,.int .i64 0,.slice none 0 0,.slice none 0 0]) (by simp [results,Tryz.results40,go_sem]) rfl ?_
 exact ⟨rfl,below_a2 _ _ _⟩
end Go.Proofs.YtcnpaciljmekcaaGreatDoor

namespace Go.Proofs.YtcnpaciljmekcaaGreatDoor
open Go.RowKit
set_option maxHeartbeats 4000000 in
set_option maxRecDepth 100000 in
theorem sameNeeds_any (a b:List NdP) (va vb:Value) (W:World) (ha:RdNd W a va) (hb:RdNd W b vb) (hla:a.length≤4000000000000) (hlb:b.length≤4000000000000) :
  Calls Tryz.prog 42 #[va,vb] W fun e W' => e = .returned (.bool (decide (a=b)))∧Below W.heap.size W W':=by
 obtain ⟨ad,cap,rfl,hra⟩:=ha
 obtain ⟨bd,bcap,rfl,hrb⟩:=hb
 obtain ⟨n,hn⟩:∃ n,a.length=n:=⟨_,rfl⟩
 obtain ⟨m,hm⟩:∃ m,b.length=m:=⟨_,rfl⟩
 have Hn:=Lib.hid hn
 have Hm:=Lib.hid hm
 have HA:=Lib.hid hra
 have HB:=Lib.hid hrb
 rw [hn] at hla ⊢
 rw [hm] at hlb ⊢
 clear hra hrb hn hm
 by_cases hnm:n=m
 ·subst hnm
  obtain ⟨r,hr⟩:∃ r,decide (a=b)=r:=⟨_,rfl⟩
  have HR:=Lib.hid hr
  rw [hr]
  clear hr
  go_enter Tryz.func42,Tryz.ntmps42
  go_wp2
  go_loopw [5] (fun i wr => ∃ k:Nat,k≤n∧i = .int .i64 (k:Int)∧Hid (∀ j,j < k→a[j]? = b[j]?)∧∃ q,wr=W.drewN q) (fun i _ => n - (intOf i).toNat)
  case atStart => exact ⟨0,Nat.zero_le _,rfl,Lib.hid fun j hj => absurd hj (Nat.not_lt_zero _),0,rfl⟩
  case round =>
   obtain ⟨k,hk,rfl,Hc,q,rfl⟩:=hrel
   by_cases hlt:k < n
   ·obtain ⟨x,hx⟩:∃ x,a[k]? = some x:=⟨_,List.getElem?_eq_getElem (by rw [Hn.out];exact hlt)⟩
    obtain ⟨y,hy⟩:∃ y,b[k]? = some y:=⟨_,List.getElem?_eq_getElem (by rw [Hm.out];exact hlt)⟩
    obtain ⟨xn,xd⟩:=x
    obtain ⟨yn,yd⟩:=y
    obtain ⟨ba,oa,rfl,x0,x1⟩:=HA.out k _ hx
    obtain ⟨bb,ob,rfl,y0,y1⟩:=HB.out k _ hy
    have HX:=Lib.hid hx
    have HY:=Lib.hid hy
    have Hxy:=Lib.hid (toList_beq xn yn)
    have hl0:(k:Int) < (n:Int):=by omega
    clear hx hy
    go_wp2_with fail
    cases t1:(xn.toList == yn.toList) with
    | false =>
     have HF:Hid (false=r):=Lib.hid (by
      rw [← HR.out,eq_comm,decide_eq_false_iff_not]
      rintro rfl
      rw [Hxy.out,decide_eq_false_iff_not] at t1
      have h:=HX.out.symm.trans HY.out
      exact t1 (Prod.mk.inj (Option.some.inj h)).1)
     go_quiet (fail)
     go_wp2
     go_ret
     exact ⟨ret_bool' HF.out,below_drewN (below_drewN (Below.refl _ _) _) _⟩
    | true =>
     by_cases t2:xd=yd
     ·have HE:Hid (a[k]? = b[k]?):=Lib.hid (by rw [HX.out,HY.out];rw [Hxy.out,decide_eq_true_eq] at t1;rw [t1,t2])
      go_quiet (fail)
      go_wp2
      go_roundw
      case rel => exact ⟨k+1,by omega,by go_num,Lib.hid (same_step Hc.out HE.out),_,rfl⟩
      case measure => simp [intOf];omega
     ·have HF:Hid (false=r):=Lib.hid (by
       rw [← HR.out,eq_comm,decide_eq_false_iff_not]
       rintro rfl
       have h:=HX.out.symm.trans HY.out
       exact t2 (Prod.mk.inj (Option.some.inj h)).2)
      go_quiet (fail)
      go_wp2
      go_ret
      exact ⟨ret_bool' HF.out,below_drewN (below_drewN (Below.refl _ _) _) _⟩
   ·have HF:Hid (true=r):=Lib.hid (by
     rw [← HR.out,eq_comm,decide_eq_true_eq]
     apply List.ext_getElem?
     intro j
     rcases Nat.lt_or_ge j k with h | h
     ·exact Hc.out j h
     ·rw [List.getElem?_eq_none (by rw [Hn.out];omega),List.getElem?_eq_none (by rw [Hm.out];omega)])
    go_wp2
    go_ret
    exact ⟨ret_bool' HF.out,below_drewN (Below.refl _ _) _⟩
 ·have HF:Hid (false=decide (a=b)):=Lib.hid (by
   rw [eq_comm,decide_eq_false_iff_not]
   rintro rfl
   exact hnm (Hn.out.symm.trans Hm.out))
  go_enter Tryz.func42,Tryz.ntmps42
  go_wp2
  go_ret
  exact ⟨ret_bool' HF.out,Below.refl _ _⟩
end Go.Proofs.YtcnpaciljmekcaaGreatDoor

namespace Go.Proofs.YtcnpaciljmekcaaGreatDoor
open Go.RowKit
set_option maxHeartbeats 4000000 in
set_option maxRecDepth 100000 in
theorem sameChoices_any (a b:List ChP) (va vb:Value) (W:World) (ha:RdCx W a va) (hb:RdCx W b vb) (hla:a.length≤4000000000000) (hlb:b.length≤4000000000000) :
  Calls Tryz.prog 44 #[va,vb] W fun e W' => e = .returned (.bool (decide (a=b)))∧Below W.heap.size W W':=by
 obtain ⟨ad,cap,rfl,hra⟩:=ha
 obtain ⟨bd,bcap,rfl,hrb⟩:=hb
 obtain ⟨n,hn⟩:∃ n,a.length=n:=⟨_,rfl⟩
 obtain ⟨m,hm⟩:∃ m,b.length=m:=⟨_,rfl⟩
 have Hn:=Lib.hid hn
 have Hm:=Lib.hid hm
 have HA:=Lib.hid hra
 have HB:=Lib.hid hrb
 rw [hn] at hla ⊢
 rw [hm] at hlb ⊢
 clear hra hrb hn hm
 by_cases hnm:n=m
 ·subst hnm
  obtain ⟨r,hr⟩:∃ r,decide (a=b)=r:=⟨_,rfl⟩
  have HR:=Lib.hid hr
  rw [hr]
  clear hr
  go_enter Tryz.func44,Tryz.ntmps44
  go_wp2
  go_loopw [5] (fun i wr => ∃ k:Nat,k≤n∧i = .int .i64 (k:Int)∧Hid (∀ j,j < k→a[j]? = b[j]?)∧∃ q,wr=W.drewN q) (fun i _ => n - (intOf i).toNat)
  case atStart => exact ⟨0,Nat.zero_le _,rfl,Lib.hid fun j hj => absurd hj (Nat.not_lt_zero _),0,rfl⟩
  case round =>
   obtain ⟨k,hk,rfl,Hc,q,rfl⟩:=hrel
   by_cases hlt:k < n
   ·obtain ⟨x,hx⟩:∃ x,a[k]? = some x:=⟨_,List.getElem?_eq_getElem (by rw [Hn.out];exact hlt)⟩
    obtain ⟨y,hy⟩:∃ y,b[k]? = some y:=⟨_,List.getElem?_eq_getElem (by rw [Hm.out];exact hlt)⟩
    obtain ⟨xp,xn,xd⟩:=x
    obtain ⟨yp,yn,yd⟩:=y
    obtain ⟨ba,oa,rfl,x0,x1,x2,x3⟩:=HA.out k _ hx
    obtain ⟨bb,ob,rfl,y0,y1,y2,y3⟩:=HB.out k _ hy
    have HX:=Lib.hid hx
    have HY:=Lib.hid hy
    have hl0:(k:Int) < (n:Int):=by omega
    clear hx hy
    go_wp2_with fail
    have HT0:=Lib.hid (toList_beq xp yp)
    cases t0:(xp.toList == yp.toList) with
    | false =>
     have HF:Hid (false=r):=Lib.hid (by
      rw [← HR.out,eq_comm,decide_eq_false_iff_not]
      rintro rfl
      rw [HT0.out,decide_eq_false_iff_not] at t0
      have e:=Option.some.inj (HX.out.symm.trans HY.out)
      exact t0 ((Prod.mk.inj e).1))
     go_quiet (fail)
     go_wp2
     go_ret
     exact ⟨ret_bool' HF.out,below_drewN (below_drewN (Below.refl _ _) _) _⟩
    | true =>
     have HT1:=Lib.hid (toList_beq xn yn)
     cases t1:(xn.toList == yn.toList) with
     | false =>
      have HF:Hid (false=r):=Lib.hid (by
       rw [← HR.out,eq_comm,decide_eq_false_iff_not]
       rintro rfl
       rw [HT1.out,decide_eq_false_iff_not] at t1
       have e:=Option.some.inj (HX.out.symm.trans HY.out)
       exact t1 ((Prod.mk.inj (Prod.mk.inj e).2).1))
      go_quiet (fail)
      go_wp2
      go_ret
      exact ⟨ret_bool' HF.out,below_drewN (below_drewN (Below.refl _ _) _) _⟩
     | true =>
      by_cases t2:xd=yd
      ·have HE:Hid (a[k]? = b[k]?):=Lib.hid (by rw [HX.out,HY.out];rw [HT0.out,decide_eq_true_eq] at t0;rw [HT1.out,decide_eq_true_eq] at t1;rw [t0,t1,t2])
       go_quiet (fail)
       go_wp2
       go_roundw
       case rel => exact ⟨k+1,by omega,by go_num,Lib.hid (same_step Hc.out HE.out),_,rfl⟩
       case measure => simp [intOf];omega
      ·have HF:Hid (false=r):=Lib.hid (by
        rw [← HR.out,eq_comm,decide_eq_false_iff_not]
        rintro rfl
        skip
        have e:=Option.some.inj (HX.out.symm.trans HY.out)
        exact t2 ((Prod.mk.inj (Prod.mk.inj e).2).2))
       go_quiet (fail)
       go_wp2
       go_ret
       exact ⟨ret_bool' HF.out,below_drewN (below_drewN (Below.refl _ _) _) _⟩
   ·have HF:Hid (true=r):=Lib.hid (by
     rw [← HR.out,eq_comm,decide_eq_true_eq]
     apply List.ext_getElem?
     intro j
     rcases Nat.lt_or_ge j k with h | h
     ·exact Hc.out j h
     ·rw [List.getElem?_eq_none (by rw [Hn.out];omega),List.getElem?_eq_none (by rw [Hm.out];omega)])
    go_wp2
    go_ret
    exact ⟨ret_bool' HF.out,below_drewN (Below.refl _ _) _⟩
 ·have HF:Hid (false=decide (a=b)):=Lib.hid (by
   rw [eq_comm,decide_eq_false_iff_not]
   rintro rfl
   exact hnm (Hn.out.symm.trans Hm.out))
  go_enter Tryz.func44,Tryz.ntmps44
  go_wp2
  go_ret
  exact ⟨ret_bool' HF.out,Below.refl _ _⟩
end Go.Proofs.YtcnpaciljmekcaaGreatDoor

namespace Go.Proofs.YtcnpaciljmekcaaGreatDoor
open Go.RowKit
set_option maxHeartbeats 4000000 in
set_option maxRecDepth 100000 in
theorem sameDays_any (a b:List Int) (va vb:Value) (W:World) (ha:RdDy W a va) (hb:RdDy W b vb) (hla:a.length≤4000000000000) (hlb:b.length≤4000000000000) :
  Calls Tryz.prog 43 #[va,vb] W fun e W' => e = .returned (.bool (decide (a=b)))∧Below W.heap.size W W':=by
 obtain ⟨ad,cap,rfl,hra⟩:=ha
 obtain ⟨bd,bcap,rfl,hrb⟩:=hb
 obtain ⟨n,hn⟩:∃ n,a.length=n:=⟨_,rfl⟩
 obtain ⟨m,hm⟩:∃ m,b.length=m:=⟨_,rfl⟩
 have Hn:=Lib.hid hn
 have Hm:=Lib.hid hm
 have HA:=Lib.hid hra
 have HB:=Lib.hid hrb
 rw [hn] at hla ⊢
 rw [hm] at hlb ⊢
 clear hra hrb hn hm
 by_cases hnm:n=m
 ·subst hnm
  obtain ⟨r,hr⟩:∃ r,decide (a=b)=r:=⟨_,rfl⟩
  have HR:=Lib.hid hr
  rw [hr]
  clear hr
  go_enter Tryz.func43,Tryz.ntmps43
  go_wp2
  go_loopw [5] (fun i wr => ∃ k:Nat,k≤n∧i = .int .i64 (k:Int)∧Hid (∀ j,j < k→a[j]? = b[j]?)∧∃ q,wr=W.drewN q) (fun i _ => n - (intOf i).toNat)
  case atStart => exact ⟨0,Nat.zero_le _,rfl,Lib.hid fun j hj => absurd hj (Nat.not_lt_zero _),0,rfl⟩
  case round =>
   obtain ⟨k,hk,rfl,Hc,q,rfl⟩:=hrel
   by_cases hlt:k < n
   ·obtain ⟨x,hx⟩:∃ x,a[k]? = some x:=⟨_,List.getElem?_eq_getElem (by rw [Hn.out];exact hlt)⟩
    obtain ⟨y,hy⟩:∃ y,b[k]? = some y:=⟨_,List.getElem?_eq_getElem (by rw [Hm.out];exact hlt)⟩
    have ⟨xd,hxd⟩:∃ xd,x=xd:=⟨_,rfl⟩
    have ⟨yd,hyd⟩:∃ yd,y=yd:=⟨_,rfl⟩
    rw [hxd] at hx
    rw [hyd] at hy
    clear hxd hyd
    obtain ⟨ba,oa,rfl,x0⟩:=HA.out k _ hx
    obtain ⟨bb,ob,rfl,y0⟩:=HB.out k _ hy
    have HX:=Lib.hid hx
    have HY:=Lib.hid hy
    have hl0:(k:Int) < (n:Int):=by omega
    clear hx hy
    go_wp2_with fail
    by_cases t0:xd=yd
    ·have HE:Hid (a[k]? = b[k]?):=Lib.hid (by rw [HX.out,HY.out];rw [t0])
     go_quiet (fail)
     go_wp2
     go_roundw
     case rel => exact ⟨k+1,by omega,by go_num,Lib.hid (same_step Hc.out HE.out),_,rfl⟩
     case measure => simp [intOf];omega
    ·have HF:Hid (false=r):=Lib.hid (by
      rw [← HR.out,eq_comm,decide_eq_false_iff_not]
      rintro rfl
      skip
      have e:=Option.some.inj (HX.out.symm.trans HY.out)
      exact t0 (e))
     go_quiet (fail)
     go_wp2
     go_ret
     exact ⟨ret_bool' HF.out,below_drewN (below_drewN (Below.refl _ _) _) _⟩
   ·have HF:Hid (true=r):=Lib.hid (by
     rw [← HR.out,eq_comm,decide_eq_true_eq]
     apply List.ext_getElem?
     intro j
     rcases Nat.lt_or_ge j k with h | h
     ·exact Hc.out j h
     ·rw [List.getElem?_eq_none (by rw [Hn.out];omega),List.getElem?_eq_none (by rw [Hm.out];omega)])
    go_wp2
    go_ret
    exact ⟨ret_bool' HF.out,below_drewN (Below.refl _ _) _⟩
 ·have HF:Hid (false=decide (a=b)):=Lib.hid (by
   rw [eq_comm,decide_eq_false_iff_not]
   rintro rfl
   exact hnm (Hn.out.symm.trans Hm.out))
  go_enter Tryz.func43,Tryz.ntmps43
  go_wp2
  go_ret
  exact ⟨ret_bool' HF.out,Below.refl _ _⟩
end Go.Proofs.YtcnpaciljmekcaaGreatDoor

namespace Go.Proofs.YtcnpaciljmekcaaGreatDoor
open Go.RowKit
def oE:Obj:=.cells #[.int .u8 2,.string ⟨#[]⟩,.string ⟨#[88]⟩,.int .i64 5,.slice none 0 0,.int .u8 2,.string ⟨#[]⟩,.string ⟨#[89]⟩,.int .i64 9,.slice none 0 0] 25
def oPay (B:Nat):Obj:=.cells #[.int .u8 2,.string ⟨#[65,110,110]⟩,.string ⟨#[66,111,98]⟩,.string ⟨#[85,83,68]⟩,.int .u8 4,.string ⟨#[]⟩,.string ⟨#[]⟩,.int .i64 0,.slice (some ⟨B,0,none⟩) 2 2,.int .i64 0,.slice none 0 0,.slice none 0 0] 29
def oAt (B:Nat):Obj:=.cells #[.int .u8 6,.string ⟨#[]⟩,.string ⟨#[]⟩,.string ⟨#[]⟩,.int .u8 0,.string ⟨#[]⟩,.string ⟨#[]⟩,.int .i64 0,.slice none 0 0,.int .i64 5,.slice none 0 0,.slice (some ⟨B,0,none⟩) 1 1] 29
def oDays:Obj:=.cells #[.int .i64 1,.int .i64 3,.int .i64 7] 3
def oZero:Obj:=.cells #[.int .u8 1,.string ⟨#[]⟩,.string ⟨#[]⟩,.string ⟨#[]⟩,.int .u8 0,.string ⟨#[]⟩,.string ⟨#[]⟩,.int .i64 0,.slice none 0 0,.int .i64 0,.slice none 0 0,.slice none 0 0] 29
def oCall (B C:Nat):Obj:=.cells #[.int .u8 8,.string ⟨#[65,110,110]⟩,.string ⟨#[]⟩,.string ⟨#[99]⟩,.int .u8 0,.string ⟨#[]⟩,.string ⟨#[]⟩,.int .i64 0,.slice none 0 0,.int .i64 0,.slice (some ⟨B,0,none⟩) 3 3,.slice (some ⟨C,0,none⟩) 1 1] 29
def aliveW (w2 w3:World):World:=((((w3.alloc (oPay w2.heap.size)).alloc (oAt w3.heap.size)).alloc oDays).alloc oZero).alloc (oCall (w3.heap.size+1+1) (w3.heap.size+1+1+1))
theorem below_next {w W:World} (o:Obj) (h:Below w.heap.size w W):Below w.heap.size w (W.alloc o):=h.trans ((below_a1 W o).mono h.size)
theorem alive_setup (w2 w3:World) (hb:Below (w2.alloc oE).heap.size (w2.alloc oE) w3) :
  RdN (aliveW w2 w3) atC (.slice none 0 0) (.slice none 0 0) (.slice (some ⟨w3.heap.size,0,none⟩) 1 1) ∧
  RdN (aliveW w2 w3) callC (.slice none 0 0) (.slice (some ⟨w3.heap.size+1+1,0,none⟩) 3 3) (.slice (some ⟨w3.heap.size+1+1+1,0,none⟩) 1 1) ∧
  CBox (aliveW w2 w3) (w3.heap.size+1) atC (.slice none 0 0) (.slice none 0 0) (.slice (some ⟨w3.heap.size,0,none⟩) 1 1) ∧
  CBox (aliveW w2 w3) (w3.heap.size+1+1+1+1) callC (.slice none 0 0) (.slice (some ⟨w3.heap.size+1+1,0,none⟩) 3 3) (.slice (some ⟨w3.heap.size+1+1+1,0,none⟩) 1 1) ∧
  Below w3.heap.size w3 (aliveW w2 w3):=by
 have hE:RdE (w2.alloc oE) [fX,fY] (.slice (some ⟨w2.heap.size,0,none⟩) 2 2) :=
  rdE_two (s1:=.slice none 0 0) (s2:=.slice none 0 0) (by decide) (by decide) (fun i u h => cell_new w2 _ _ h) (rdE_nil _) (rdE_nil _)
 have h0:RdN (w3.alloc (oPay w2.heap.size)) payC (.slice (some ⟨w2.heap.size,0,none⟩) 2 2) (.slice none 0 0) (.slice none 0 0) :=
  ⟨(hE.frame hb).frame (below_a1 _ _),rdI_nil _,rdC_nil _,by decide,by decide⟩
 have h1:RdC (w3.alloc (oPay w2.heap.size)) [payC] (.slice (some ⟨w3.heap.size,0,none⟩) 1 1):=rdC_one (fun i u h => cell_new w3 _ _ h) h0
 have b1:=below_a1 (w3.alloc (oPay w2.heap.size)) (oAt w3.heap.size)
 have hA1:RdN ((w3.alloc (oPay w2.heap.size)).alloc (oAt w3.heap.size)) atC (.slice none 0 0) (.slice none 0 0) (.slice (some ⟨w3.heap.size,0,none⟩) 1 1) :=
  ⟨rdE_nil _,rdI_nil _,h1.frame b1,by decide,by decide⟩
 have bx1:CBox ((w3.alloc (oPay w2.heap.size)).alloc (oAt w3.heap.size)) (w3.heap.size+1) atC (.slice none 0 0) (.slice none 0 0) (.slice (some ⟨w3.heap.size,0,none⟩) 1 1):=by
  have:=CBox.new (w3.alloc (oPay w2.heap.size)) atC (.slice none 0 0) (.slice none 0 0) (.slice (some ⟨w3.heap.size,0,none⟩) 1 1) 29
  rw [World.size_alloc] at this
  exact this
 have b2:=below_a1 ((w3.alloc (oPay w2.heap.size)).alloc (oAt w3.heap.size)) oDays
 have hD:RdI (((w3.alloc (oPay w2.heap.size)).alloc (oAt w3.heap.size)).alloc oDays) [1,3,7] (.slice (some ⟨w3.heap.size+1+1,0,none⟩) 3 3):=by
  refine ⟨_,_,rfl,⟨Nat.le_refl _,fun h => by cases h⟩,fun j d h => ⟨_,0,rfl,?_⟩⟩
  have h2:[Value.int .i64 1,.int .i64 3,.int .i64 7][j]? = some (.int .i64 d):=by
   match j,h with
   | 0,h => cases h;rfl
   | 1,h => cases h;rfl
   | 2,h => cases h;rfl
  have:=cell_new ((w3.alloc (oPay w2.heap.size)).alloc (oAt w3.heap.size)) _ 3 h2
  rw [World.size_alloc,World.size_alloc] at this
  rw [Nat.zero_add]
  exact this
 have b3:=below_a1 (((w3.alloc (oPay w2.heap.size)).alloc (oAt w3.heap.size)).alloc oDays) oZero
 have hZ:RdC ((((w3.alloc (oPay w2.heap.size)).alloc (oAt w3.heap.size)).alloc oDays).alloc oZero) [zeroC] (.slice (some ⟨w3.heap.size+1+1+1,0,none⟩) 1 1):=by
  refine rdC_one (es:=.slice none 0 0) (dd:=.slice none 0 0) (ss:=.slice none 0 0) (fun i u h => ?_) ⟨rdE_nil _,rdI_nil _,rdC_nil _,by decide,by decide⟩
  have:=cell_new (((w3.alloc (oPay w2.heap.size)).alloc (oAt w3.heap.size)).alloc oDays) _ 29 h
  rw [World.size_alloc,World.size_alloc,World.size_alloc] at this
  exact this
 have b4:=below_a1 ((((w3.alloc (oPay w2.heap.size)).alloc (oAt w3.heap.size)).alloc oDays).alloc oZero) (oCall (w3.heap.size+1+1) (w3.heap.size+1+1+1))
 refine ⟨((hA1.frame b2).frame b3).frame b4,⟨rdE_nil _,(hD.frame b3).frame b4,hZ.frame b4,by decide,by decide⟩,((bx1.low b2).low b3).low b4,?_,?_⟩
 ·have:=CBox.new ((((w3.alloc (oPay w2.heap.size)).alloc (oAt w3.heap.size)).alloc oDays).alloc oZero) callC (.slice none 0 0) (.slice (some ⟨w3.heap.size+1+1,0,none⟩) 3 3) (.slice (some ⟨w3.heap.size+1+1+1,0,none⟩) 1 1) 29
  rw [World.size_alloc,World.size_alloc,World.size_alloc,World.size_alloc] at this
  exact this
 ·exact below_next _ (below_next _ (below_next _ (below_next _ (below_a1 _ _))))
theorem atC_cells {W:World} {X B:Nat} (h:CBox W X atC (.slice none 0 0) (.slice none 0 0) (.slice (some ⟨B,0,none⟩) 1 1)) :
  W.cell? ⟨X,0,none⟩=some (.int .u8 6)∧W.cell? ⟨X,1,none⟩=some (.string ⟨#[]⟩)∧W.cell? ⟨X,2,none⟩=some (.string ⟨#[]⟩)∧W.cell? ⟨X,3,none⟩=some (.string ⟨#[]⟩)∧W.cell? ⟨X,4,none⟩=some (.int .u8 0)∧W.cell? ⟨X,5,none⟩=some (.string ⟨#[]⟩)∧W.cell? ⟨X,6,none⟩=some (.string ⟨#[]⟩)∧W.cell? ⟨X,7,none⟩=some (.int .i64 0)∧W.cell? ⟨X,8,none⟩=some (.slice none 0 0)∧W.cell? ⟨X,9,none⟩=some (.int .i64 5)∧W.cell? ⟨X,10,none⟩=some (.slice none 0 0)∧W.cell? ⟨X,11,none⟩=some (.slice (some ⟨B,0,none⟩) 1 1):=h
theorem callC_cells {W:World} {X B C:Nat} (h:CBox W X callC (.slice none 0 0) (.slice (some ⟨B,0,none⟩) 3 3) (.slice (some ⟨C,0,none⟩) 1 1)) :
  W.cell? ⟨X,0,none⟩=some (.int .u8 8)∧W.cell? ⟨X,1,none⟩=some (.string ⟨#[65,110,110]⟩)∧W.cell? ⟨X,2,none⟩=some (.string ⟨#[]⟩)∧W.cell? ⟨X,3,none⟩=some (.string ⟨#[99]⟩)∧W.cell? ⟨X,4,none⟩=some (.int .u8 0)∧W.cell? ⟨X,5,none⟩=some (.string ⟨#[]⟩)∧W.cell? ⟨X,6,none⟩=some (.string ⟨#[]⟩)∧W.cell? ⟨X,7,none⟩=some (.int .i64 0)∧W.cell? ⟨X,8,none⟩=some (.slice none 0 0)∧W.cell? ⟨X,9,none⟩=some (.int .i64 0)∧W.cell? ⟨X,10,none⟩=some (.slice (some ⟨B,0,none⟩) 3 3)∧W.cell? ⟨X,11,none⟩=some (.slice (some ⟨C,0,none⟩) 1 1):=h
theorem atC_needs (B:Nat) (W:World) (hr:RdN W atC (.slice none 0 0) (.slice none 0 0) (.slice (some ⟨B,0,none⟩) 1 1)) (hS:LookS W) (hP:LookP W) :
  Calls Tryz.prog 26 #[.agg #[.int .u8 6,.string ⟨#[]⟩,.string ⟨#[]⟩,.string ⟨#[]⟩,.int .u8 0,.string ⟨#[]⟩,.string ⟨#[]⟩,.int .i64 0,.slice none 0 0,.int .i64 5,.slice none 0 0,.slice (some ⟨B,0,none⟩) 1 1],.int .i64 2] W fun e W' => ∃ ad cap,e = .returned (.tuple #[.slice ad 2 cap,.int .i64 0])∧RdNd W' [(bX,5),(bY,9)] (.slice ad 2 cap)∧Below W.heap.size W W':=by
 have h:=needs_any atC _ _ _ 2 W (by decide) hr hS hP
 rw [atC_nErr,atC_nSet] at h
 refine Calls.mono (by exact h) ?_
 rintro e W' ⟨v,rfl,ho,hb⟩
 obtain ⟨ad,cap,rfl⟩:=ownsRow_shape ho
 exact ⟨ad,cap,rfl,RdNd.own ho,hb⟩
theorem atC_days (B:Nat) (W:World) (hr:RdN W atC (.slice none 0 0) (.slice none 0 0) (.slice (some ⟨B,0,none⟩) 1 1)) (hS:LookS W) (hP:LookP W) :
  Calls Tryz.prog 21 #[.agg #[.int .u8 6,.string ⟨#[]⟩,.string ⟨#[]⟩,.string ⟨#[]⟩,.int .u8 0,.string ⟨#[]⟩,.string ⟨#[]⟩,.int .i64 0,.slice none 0 0,.int .i64 5,.slice none 0 0,.slice (some ⟨B,0,none⟩) 1 1],.int .i64 2] W fun e W' => ∃ ad cap,e = .returned (.tuple #[.slice ad 1 cap,.int .i64 0])∧RdDy W' [5] (.slice ad 1 cap)∧Below W.heap.size W W':=by
 have h:=causalDays_any atC _ _ _ 2 W (by decide) hr hS hP
 rw [atC_vis,atC_ySet] at h
 refine Calls.mono (by exact h) ?_
 rintro e W' ⟨v,rfl,ho,hb⟩
 obtain ⟨ad,cap,rfl⟩:=ownsRow_shape ho
 exact ⟨ad,cap,rfl,RdDy.own ho,hb⟩
theorem callC_dead (B C:Nat) (W:World) (hr:RdN W callC (.slice none 0 0) (.slice (some ⟨B,0,none⟩) 3 3) (.slice (some ⟨C,0,none⟩) 1 1)) (hS:LookS W) (hP:LookP W) :
  Calls Tryz.prog 27 #[.agg #[.int .u8 8,.string ⟨#[65,110,110]⟩,.string ⟨#[]⟩,.string ⟨#[99]⟩,.int .u8 0,.string ⟨#[]⟩,.string ⟨#[]⟩,.int .i64 0,.slice none 0 0,.int .i64 0,.slice (some ⟨B,0,none⟩) 3 3,.slice (some ⟨C,0,none⟩) 1 1],.int .i64 2] W fun e W' => ∃ ad cap,e = .returned (.tuple #[.slice ad 2 cap,.int .i64 0])∧RdCx W' [(bAnn,bc,3),(bAnn,bc,7)] (.slice ad 2 cap)∧Below W.heap.size W W':=by
 have h:=deadlines_any callC _ _ _ 2 W (by decide) hr hS hP
 rw [callC_dErr,callC_dSet] at h
 refine Calls.mono (by exact h) ?_
 rintro e W' ⟨v,rfl,ho,hb⟩
 obtain ⟨ad,cap,rfl⟩:=ownsRow_shape ho
 exact ⟨ad,cap,rfl,RdCx.own ho,hb⟩
theorem atC_causal (B:Nat) (W:World) (hr:RdN W atC (.slice none 0 0) (.slice none 0 0) (.slice (some ⟨B,0,none⟩) 1 1)) (hS:LookS W) (hP:LookP W) :
  Calls Tryz.prog 23 #[.agg #[.int .u8 6,.string ⟨#[]⟩,.string ⟨#[]⟩,.string ⟨#[]⟩,.int .u8 0,.string ⟨#[]⟩,.string ⟨#[]⟩,.int .i64 0,.slice none 0 0,.int .i64 5,.slice none 0 0,.slice (some ⟨B,0,none⟩) 1 1],.int .i64 2] W fun e W' => e = .returned (.int .i64 34)∧Below W.heap.size W W':=by
 have h:=causal_any atC _ _ _ 2 W (by decide) hr hS hP
 rw [atC_caus] at h
 exact Calls.mono (by exact h) fun _ _ h => h
theorem callC_causal (B C:Nat) (W:World) (hr:RdN W callC (.slice none 0 0) (.slice (some ⟨B,0,none⟩) 3 3) (.slice (some ⟨C,0,none⟩) 1 1)) (hS:LookS W) (hP:LookP W) :
  Calls Tryz.prog 23 #[.agg #[.int .u8 8,.string ⟨#[65,110,110]⟩,.string ⟨#[]⟩,.string ⟨#[99]⟩,.int .u8 0,.string ⟨#[]⟩,.string ⟨#[]⟩,.int .i64 0,.slice none 0 0,.int .i64 0,.slice (some ⟨B,0,none⟩) 3 3,.slice (some ⟨C,0,none⟩) 1 1],.int .i64 2] W fun e W' => e = .returned (.int .i64 0)∧Below W.heap.size W W':=by
 have h:=causal_any callC _ _ _ 2 W (by decide) hr hS hP
 rw [callC_caus] at h
 exact Calls.mono (by exact h) fun _ _ h => h
end Go.Proofs.YtcnpaciljmekcaaGreatDoor

namespace Go.Proofs.YtcnpaciljmekcaaGreatDoor
open Go.RowKit
theorem sameNeeds_true (a:List NdP) (va vb:Value) (W:World) (ha:RdNd W a va) (hb:RdNd W a vb) (hl:a.length≤4000000000000):Calls Tryz.prog 42 #[va,vb] W fun e W' => e = .returned (.bool true)∧Below W.heap.size W W':=by
 have h:=sameNeeds_any a a va vb W ha hb hl hl
 rwa [show decide (a=a)=true from decide_eq_true rfl] at h
theorem sameDays_true (a:List Int) (va vb:Value) (W:World) (ha:RdDy W a va) (hb:RdDy W a vb) (hl:a.length≤4000000000000):Calls Tryz.prog 43 #[va,vb] W fun e W' => e = .returned (.bool true)∧Below W.heap.size W W':=by
 have h:=sameDays_any a a va vb W ha hb hl hl
 rwa [show decide (a=a)=true from decide_eq_true rfl] at h
theorem sameChoices_true (a:List ChP) (va vb:Value) (W:World) (ha:RdCx W a va) (hb:RdCx W a vb) (hl:a.length≤4000000000000):Calls Tryz.prog 44 #[va,vb] W fun e W' => e = .returned (.bool true)∧Below W.heap.size W W':=by
 have h:=sameChoices_any a a va vb W ha hb hl hl
 rwa [show decide (a=a)=true from decide_eq_true rfl] at h
theorem rdNd_new (w:World):RdNd (w.alloc (.cells #[.string ⟨#[88]⟩,.int .i64 5,.string ⟨#[89]⟩,.int .i64 9] 81)) [(bX,5),(bY,9)] (.slice (some ⟨w.heap.size,0,none⟩) 2 2):=by
 refine ⟨_,_,rfl,fun k x h => ⟨_,0,rfl,?_⟩⟩
 match k,h with
 | 0,h => cases h;exact ⟨cell_new w [.string ⟨#[88]⟩,.int .i64 5,.string ⟨#[89]⟩,.int .i64 9] _ rfl,cell_new w [.string ⟨#[88]⟩,.int .i64 5,.string ⟨#[89]⟩,.int .i64 9] _ rfl⟩
 | 1,h => cases h;exact ⟨cell_new w [.string ⟨#[88]⟩,.int .i64 5,.string ⟨#[89]⟩,.int .i64 9] _ rfl,cell_new w [.string ⟨#[88]⟩,.int .i64 5,.string ⟨#[89]⟩,.int .i64 9] _ rfl⟩
theorem rdDy_new (w:World):RdDy (w.alloc (.cells #[.int .i64 5] 3)) [5] (.slice (some ⟨w.heap.size,0,none⟩) 1 1):=by
 refine ⟨_,_,rfl,fun k x h => ⟨_,0,rfl,?_⟩⟩
 match k,h with
 | 0,h => cases h;exact cell_new w [.int .i64 5] _ rfl
theorem rdCx_new (w:World):RdCx (w.alloc (.cells #[.string ⟨#[65,110,110]⟩,.string ⟨#[99]⟩,.int .i64 3,.bool false,.string ⟨#[65,110,110]⟩,.string ⟨#[99]⟩,.int .i64 7,.bool false] 85)) [(bAnn,bc,3),(bAnn,bc,7)] (.slice (some ⟨w.heap.size,0,none⟩) 2 2):=by
 refine ⟨_,_,rfl,fun k x h => ⟨_,0,rfl,?_⟩⟩
 have hc:=@cell_new w [.string ⟨#[65,110,110]⟩,.string ⟨#[99]⟩,.int .i64 3,.bool false,.string ⟨#[65,110,110]⟩,.string ⟨#[99]⟩,.int .i64 7,.bool false] 85
 match k,h with
 | 0,h => cases h;exact ⟨hc rfl,hc rfl,hc rfl,hc rfl⟩
 | 1,h => cases h;exact ⟨hc rfl,hc rfl,hc rfl,hc rfl⟩
set_option maxHeartbeats 8000000 in
set_option maxRecDepth 100000 in
theorem alive_any (w:World) (hS:LookS w) (hP:LookP w):Calls Tryz.prog 17 #[] w fun e w' => e = .returned (.bool true)∧Below w.heap.size w w':=by
 go_enter Tryz.func17,Tryz.ntmps17
 go_wp2_with fail
 refine (fix_any _ _ _).mono ?_
 rintro e w1 ⟨rfl,hb1⟩
 go_wp2_with fail
 refine (fix_any _ _ _).mono ?_
 rintro e w2 ⟨rfl,hb2⟩
 go_wp2_with fail
 refine (pay_any _ _ _ _ _ _ _ _).mono ?_
 rintro e w3 ⟨rfl,hb3⟩
 have hz:=hb3.size
 rw [World.size_alloc] at hz
 obtain ⟨hA1,hA2,hX1,hX2,hbA⟩:=alive_setup w2 w3 hb3
 have hw2:Below w.heap.size w w2:=hb1.trans (hb2.mono hb1.size)
 have hw3:Below w.heap.size w w3:=(hw2.trans ((below_a1 w2 oE).mono hw2.size)).trans (hb3.mono (Nat.le_trans hw2.size (below_a1 w2 oE).size))
 have hwA:=hw3.trans (hbA.mono hw3.size)
 have HA:Hid (AOk (aliveW w2 w3) w3.heap.size):=Lib.hid ⟨hA1,hA2,hX1,hX2,hS.frame hwA,hP.frame hwA⟩
 clear hA1 hA2 hX1 hX2 hbA hw2 hw3 hb1 hb2 hb3 hS hP
 go_wp2_with fail
 have hlA:w3.heap.size+1+1+1+1+1=(aliveW w2 w3).heap.size:=by unfold aliveW;simp
 change Calls _ _ _ (aliveW w2 w3) _
 generalize aliveW w2 w3=A at HA hwA hlA ⊢
 refine (atC_needs _ A HA.out.r1 HA.out.s HA.out.p).mono ?_
 rintro e w5 ⟨ad1,cap1,rfl,hn5,hb5⟩
 have H5:=Lib.hid (HA.out.low hb5)
 have hw5:=hwA.trans (hb5.mono hwA.size)
 obtain ⟨a0,a1,a2,a3,a4,a5,a6,a7,a8,a9,a10,a11⟩:=atC_cells H5.out.b1
 go_wp2_with fail
 refine (atC_days _ w5 H5.out.r1 H5.out.s H5.out.p).mono ?_
 rintro e w6 ⟨ad2,cap2,rfl,hn6,hb6⟩
 have H6:=Lib.hid (H5.out.low hb6)
 have hw6:=hw5.trans (hb6.mono hw5.size)
 clear a0 a1 a2 a3 a4 a5 a6 a7 a8 a9 a10 a11
 obtain ⟨a0,a1,a2,a3,a4,a5,a6,a7,a8,a9,a10,a11⟩:=callC_cells H6.out.b2
 go_wp2_with fail
 refine (callC_dead _ _ w6 H6.out.r2 H6.out.s H6.out.p).mono ?_
 rintro e w7 ⟨ad3,cap3,rfl,hn7,hb7⟩
 have H7:=Lib.hid (H6.out.low hb7)
 have hw7:=hw6.trans (hb7.mono hw6.size)
 clear a0 a1 a2 a3 a4 a5 a6 a7 a8 a9 a10 a11
 obtain ⟨a0,a1,a2,a3,a4,a5,a6,a7,a8,a9,a10,a11⟩:=atC_cells H7.out.b1
 go_wp2_with fail
 refine (atC_causal _ w7 H7.out.r1 H7.out.s H7.out.p).mono ?_
 rintro e w8 ⟨rfl,hb8⟩
 have H8:=Lib.hid (H7.out.low hb8)
 have hw8:=hw7.trans (hb8.mono hw7.size)
 clear a0 a1 a2 a3 a4 a5 a6 a7 a8 a9 a10 a11
 go_wp2_with fail
 have hn8:=((hn5.low hb6).low hb7).low hb8
 have hb9:=below_a1 w8 (.cells #[.string ⟨#[88]⟩,.int .i64 5,.string ⟨#[89]⟩,.int .i64 9] 81)
 refine (sameNeeds_true _ _ _ _ (hn8.low hb9) (rdNd_new w8) (by decide)).mono ?_
 rintro e w9 ⟨rfl,hbq⟩
 have hb89:=hb9.trans (hbq.mono hb9.size)
 have hw9:=hw8.trans (hb89.mono hw8.size)
 have H9:=Lib.hid (H8.out.low hb89)
 have hd9:=((hn6.low hb7).low hb8).low hb89
 have hc9:=(hn7.low hb8).low hb89
 clear hn5 hn6 hn7 hn8 hb9 hbq
 go_wp2_with fail
 have hb10:=below_a1 w9 (.cells #[.int .i64 5] 3)
 refine (sameDays_true _ _ _ _ (hd9.low hb10) (rdDy_new w9) (by decide)).mono ?_
 rintro e w10 ⟨rfl,hbq⟩
 have hb910:=hb10.trans (hbq.mono hb10.size)
 have hw10:=hw9.trans (hb910.mono hw9.size)
 have H10:=Lib.hid (H9.out.low hb910)
 have hc10:=hc9.low hb910
 clear hd9 hc9 hb10 hbq
 obtain ⟨a0,a1,a2,a3,a4,a5,a6,a7,a8,a9,a10,a11⟩:=callC_cells H10.out.b2
 go_wp2_with fail
 refine (callC_causal _ _ w10 H10.out.r2 H10.out.s H10.out.p).mono ?_
 rintro e w11 ⟨rfl,hb11⟩
 have hw11:=hw10.trans (hb11.mono hw10.size)
 have hc11:=hc10.low hb11
 clear a0 a1 a2 a3 a4 a5 a6 a7 a8 a9 a10 a11 hc10
 go_wp2_with fail
 have hb12:=below_a1 w11 (.cells #[.string ⟨#[65,110,110]⟩,.string ⟨#[99]⟩,.int .i64 3,.bool false,.string ⟨#[65,110,110]⟩,.string ⟨#[99]⟩,.int .i64 7,.bool false] 85)
 refine (sameChoices_true _ _ _ _ (hc11.low hb12) (rdCx_new w11) (by decide)).mono ?_
 rintro e w12 ⟨rfl,hbq⟩
 have hw12:=hw11.trans ((hb12.trans (hbq.mono hb12.size)).mono hw11.size)
 clear hc11 hb12 hbq
 go_wp2_with fail
 go_ret
 exact ⟨ret_bool' rfl,hw12⟩
end Go.Proofs.YtcnpaciljmekcaaGreatDoor

namespace Go.Proofs.YtcnpaciljmekcaaGreatDoor
open Go.RowKit
theorem andR_err {α β:Type} {a:Int × α} {z:β} {f:α→Int × β} (h:a.1 ≠ 0):andR a z f=(a.1,z):=if_pos h
theorem andR_go {α β:Type} {a:Int × α} {z:β} {f:α→Int × β} (h:a.1=0):andR a z f=f a.2:=if_neg fun k => k h
theorem flows_late (a:Con) (F:List Fx) (C:List Ch) (day fin:Int) (h:fin≤day):a.flows F C day fin=(0,[]):=by
 cases a;rw [Con.flows.eq_def];simp only;rw [if_pos h]
theorem befR_ok {c:Con} (h:c.err=0) (day fin:Int) (F:List Fx) (C:List Ch):befR c day fin F C=if envErr F C ≠ 0 then (envErr F C,[]) else if day < 0∨99999 < day∨fin < 0∨100000 < fin then (2,[]) else andR (c.flows F C day fin) [] fun l => (0,srtFl l):=if_neg fun k => k h
end Go.Proofs.YtcnpaciljmekcaaGreatDoor

namespace Go.Proofs.YtcnpaciljmekcaaGreatDoor
open Go.RowKit
theorem befR_len (c:Con) (day fin:Int) (F:List Fx) (C:List Ch):(befR c day fin F C).2.length≤c.bulk:=by
 unfold befR
 repeat' split
 all_goals first
  | exact Nat.zero_le _
  | skip
 unfold andR
 split
 ·exact Nat.zero_le _
 ·show (srtFl _).length≤_
  rw [srtFl_len]
  exact flows_len F C c.bulk c (Nat.le_refl _) day fin
end Go.Proofs.YtcnpaciljmekcaaGreatDoor

namespace Go.Proofs.YtcnpaciljmekcaaGreatDoor
open Go.RowKit
theorem err_formed {c:Con} (h:c.err=0) : ¬ (500 < c.size∨60 < c.depth)∧c.formed=true:=by
 have hs : ¬ (500 < c.size∨60 < c.depth):=by
  intro h1;unfold Con.err at h;rw [if_pos h1] at h;cases h
 refine ⟨hs,?_⟩
 unfold Con.err at h;rw [if_neg hs] at h;split at h
 ·assumption
 ·cases h
theorem paidS_d {d:Int} {fr rc cy am:ByteArray}:∀ f ∈ paidS d fr rc cy am,f.d=d:=by
 intro f hf
 unfold paidS at hf
 split at hf
 ·cases hf
 ·split at hf
  ·rw [List.mem_singleton] at hf;subst hf;rfl
  ·rw [List.mem_singleton] at hf;subst hf;rfl
theorem mulAll_d (k:ByteArray) {P:Int→Prop}:∀ l:List Fl,(∀ f ∈ l,P f.d)→∀ f ∈ (mulAll k l).2,P f.d
 | [],_ => by intro f hf;cases hf
 | g :: l,h => by
  unfold mulAll
  refine andR_all (P:=fun f => P f.d) fun _ => andR_all (P:=fun f => P f.d) fun _ => ?_
  intro f hf
  rcases List.mem_append.1 hf with hf | hf
  ·rw [paidS_d f hf];exact h g (List.mem_cons_self ..)
  ·exact mulAll_d k l (fun f hf => h f (List.mem_cons_of_mem _ hf)) f hf
theorem isDays_pw {l:List Int} (h:isDays l=true):l.Pairwise (· < ·):=by
 unfold isDays at h
 simp only [Bool.and_eq_true,decide_eq_true_eq] at h
 exact h.2.2.2
end Go.Proofs.YtcnpaciljmekcaaGreatDoor
