/- A part. -/
import Derived.Test.YtcnpaciljmekcaaGreatDoorN02
namespace Go.Proofs.YtcnpaciljmekcaaGreatDoor
open Go.RowKit
theorem zv_nd:∀ w,(zeroValue 81).run Tryz.prog w = .ok (.agg #[.string ⟨#[]⟩,.int .i64 0]) w:=fun w => by go_simp
theorem rowN_keep {L:List NdP} {k:Nat} {x y z:NdP} (h1:1≤k) (hx:L[k - 1]? = some x) (hy:L[k]? = some y) (hne:y ≠ x) {kk:Nat} (hk:(cmpct (L.take k)).length=kk) (hz:L[kk]? = some z) :
  (((cRow L k).flatMap ndCells).set (kk * 2) (.string y.1)).set (kk * 2+1) (.int .i64 y.2)=(cRow L (k+1)).flatMap ndCells∧(cmpct (L.take (k+1))).length=kk+1:=by
 subst hk
 obtain ⟨e1,e2⟩:=cRow_keep h1 hx hy hne hz
 refine ⟨?_,by rw [cmpct_new' h1 hx hy hne];simp⟩
 rw [e1,e2]
 have s1:=set_flat (enc:=ndCells) (m:=2) nd_len (cmpct (L.take k)) (L.drop ((cmpct (L.take k)).length+1)) z (y.1,z.2) _ 0 (.string y.1) rfl (by decide) rfl
 have s2:=set_flat (enc:=ndCells) (m:=2) nd_len (cmpct (L.take k)) (L.drop ((cmpct (L.take k)).length+1)) (y.1,z.2) y _ 1 (.int .i64 y.2) rfl (by decide) rfl
 simp only [Nat.add_zero] at s1
 rw [s1,s2]
set_option maxHeartbeats 4000000 in
set_option maxRecDepth 100000 in
theorem compactN_any (base:Nat) (L:List NdP) (v:Value) (W:World) (hown:W.ownsRow base 81 2 v L.length (L.flatMap ndCells)) (hlen:L.length≤4000000000000) :
  Calls Tryz.prog 128 #[v] W fun e W' => ∃ v',e = .returned v'∧W'.ownsRow base 81 2 v' (cmpct L).length ((cmpct L).flatMap ndCells)∧W.grownBy W' v.ownBlock:=by
 by_cases hs:L.length < 2
 ·have hc:cmpct L=L:=by
   match L,hs with
   | [],_ => rfl
   | [a],_ => rfl
  rw [hc]
  have HO:=Lib.hid hown
  obtain ⟨n,hn⟩:∃ n,L.length=n:=⟨_,rfl⟩
  obtain ⟨ad,cap,rfl⟩:∃ ad cap,v = .slice ad n cap:=by
   rcases hown.2 with ⟨rfl,h⟩ | ⟨g,cap,cur,rfl,_⟩
   ·exact ⟨none,0,by rw [← hn,h]⟩
   ·exact ⟨_,cap,by rw [hn]⟩
  rw [hn] at hs hlen
  clear hown hc
  go_enter Tryz.func128,Tryz.ntmps128
  go_wp2
  go_ret
  exact ⟨_,rfl,HO.out,World.grownBy.refl _ _⟩
 ·obtain ⟨n,hn⟩:∃ n,L.length=n:=⟨_,rfl⟩
  have Hn:=Lib.hid hn
  obtain ⟨g,cap,rfl,hcap⟩:∃ g cap,v = .slice (some ⟨g,0,none⟩) n cap∧n≤cap∧cap≤maxLen:=by
   rcases hown.2 with ⟨rfl,h⟩ | ⟨g,cap,cur,rfl,_,_,h1,h2,_⟩
   ·omega
   ·exact ⟨g,cap,by rw [hn],by omega,h2⟩
  rw [hn] at hs hlen hown
  have hR0:=RSt.start hown
  clear hown hn
  obtain ⟨hcap,hcm⟩:=hcap
  go_enter Tryz.func128,Tryz.ntmps128
  go_wp2
  go_loopw [3] (fun i wr => ∃ k:Nat,1≤k∧k≤n∧i = .int .i64 k∧Hid (cmpct (L.take k)=L.take k)∧RSt W wr 81 2 g base n cap (L.flatMap ndCells)) (fun i _ => n - (intOf i).toNat)
  case atStart => exact ⟨1,Nat.le_refl _,by omega,rfl,Lib.hid (cmpct_one L),hR0⟩
  case round =>
   clear hR0
   obtain ⟨k,hk1,hk,rfl,Hc,hR⟩:=hrel
   by_cases hlt:k < n
   ·obtain ⟨x,hx⟩:∃ x,L[k - 1]? = some x:=⟨_,List.getElem?_eq_getElem (by rw [Hn.out];omega)⟩
    obtain ⟨y,hy⟩:∃ y,L[k]? = some y:=⟨_,List.getElem?_eq_getElem (by rw [Hn.out];omega)⟩
    obtain ⟨xn,xd⟩:=x
    obtain ⟨yn,yd⟩:=y
    have x0:wr.cell? ⟨g,(k - 1) * 2,none⟩=some (.string xn):=hR.at (flat_at nd_len hx 0 _ rfl)
    have x1:wr.cell? ⟨g,(k - 1) * 2+1,none⟩=some (.int .i64 xd):=hR.at (flat_at nd_len hx 1 _ rfl)
    have y0:wr.cell? ⟨g,k * 2,none⟩=some (.string yn):=hR.at (flat_at nd_len hy 0 _ rfl)
    have y1:wr.cell? ⟨g,k * 2+1,none⟩=some (.int .i64 yd):=hR.at (flat_at nd_len hy 1 _ rfl)
    have e1:IntKind.i64.wrap ((k:Int) - 1)=((k - 1:Nat):Int):=by rw [IntWalk.i64_in _ (by omega)];omega
    have hl1:((k - 1:Nat):Int) < (n:Int):=by omega
    have hl0:(k:Int) < (n:Int):=by omega
    have HX:=Lib.hid hx
    have HY:=Lib.hid hy
    clear hx hy
    go_wp2_with fail
    have Hyx:=Lib.hid (toList_beq yn xn)
    cases h1:(yn.toList == xn.toList) with
    | false =>
     have Hne:Hid ((yn,yd) ≠ (xn,xd)):=Lib.hid (by rw [Hyx.out,decide_eq_false_iff_not] at h1;exact fun e => h1 (Prod.mk.inj e).1)
     go_quiet (fail)
     go_wp2
     go_roundw
     case rel => exact ⟨k+1,by omega,by omega,by go_num,Lib.hid (cmpct_full hk1 HX.out HY.out Hne.out Hc.out),hR.drewN _⟩
     case measure => simp [intOf];omega
    | true =>
     by_cases h2:yd=xd
     ·go_quiet (fail)
      have HE:Hid ((yn,yd)=(xn,xd)):=Lib.hid (by rw [Hyx.out,decide_eq_true_eq] at h1;rw [h1,h2])
      have HY2:Hid (L[k]? = some (xn,xd)):=Lib.hid (by rw [← HE.out];exact HY.out)
      have hR1:=hR.drewN nq
      generalize wr.drewN nq=w1 at hR1 ⊢
      clear x0 x1 y0 y1 hR h1 h2 e1 hl1
      go_wp2
      go_loopw [3,5] (fun s3 s5 wz => ∃ k2 kk:Nat,1≤k2∧k+k2≤n∧kk < k+k2∧s3 = .int .i64 kk∧s5 = .int .i64 k2∧Hid ((cmpct (L.take (k+k2))).length=kk)∧RSt W wz 81 2 g base n cap ((cRow L (k+k2)).flatMap ndCells)) (fun _ s5 _ => n - (intOf s5).toNat)
      case atStart =>
       have hh:=cRow_half hk1 HX.out HY2.out Hc.out
       exact ⟨1,k,Nat.le_refl _,by omega,by omega,rfl,rfl,Lib.hid hh.2,by rw [hh.1];exact hR1⟩
      case round =>
       clear hR1 hlt hl0
       obtain ⟨k2,kk,hk2,hkn,hkk,rfl,rfl,Hkk,hR⟩:=hrel
       by_cases hlt:k+k2 < n
       ·obtain ⟨x,hx⟩:∃ x,L[k+k2 - 1]? = some x:=⟨_,List.getElem?_eq_getElem (by rw [Hn.out];omega)⟩
        obtain ⟨y,hy⟩:∃ y,L[k+k2]? = some y:=⟨_,List.getElem?_eq_getElem (by rw [Hn.out];omega)⟩
        obtain ⟨z,hz⟩:∃ z,L[kk]? = some z:=⟨_,List.getElem?_eq_getElem (by rw [Hn.out];omega)⟩
        obtain ⟨un,ud⟩:=x
        obtain ⟨vn,vd⟩:=y
        obtain ⟨on,od⟩:=z
        have hcx:=(cRow_high (L:=L) (m:=k+k2) (j:=k+k2 - 1) (by rw [Hkk.out];omega)).trans hx
        have hcy:=(cRow_high (L:=L) (m:=k+k2) (j:=k+k2) (by rw [Hkk.out];omega)).trans hy
        have hcz:=(cRow_high (L:=L) (m:=k+k2) (j:=kk) (by rw [Hkk.out];omega)).trans hz
        have x0:wr.cell? ⟨g,k * 2+(k2 - 1) * 2,none⟩=some (.string un):=by rw [show k * 2+(k2 - 1) * 2=(k+k2 - 1) * 2 by omega];exact hR.at (flat_at nd_len hcx 0 _ rfl)
        have x1:wr.cell? ⟨g,k * 2+(k2 - 1) * 2+1,none⟩=some (.int .i64 ud):=by rw [show k * 2+(k2 - 1) * 2=(k+k2 - 1) * 2 by omega];exact hR.at (flat_at nd_len hcx 1 _ rfl)
        have y0:wr.cell? ⟨g,k * 2+k2 * 2,none⟩=some (.string vn):=by rw [show k * 2+k2 * 2=(k+k2) * 2 by omega];exact hR.at (flat_at nd_len hcy 0 _ rfl)
        have y1:wr.cell? ⟨g,k * 2+k2 * 2+1,none⟩=some (.int .i64 vd):=by rw [show k * 2+k2 * 2=(k+k2) * 2 by omega];exact hR.at (flat_at nd_len hcy 1 _ rfl)
        have z0:wr.cell? ⟨g,kk * 2,none⟩=some (.string on):=hR.at (flat_at nd_len hcz 0 _ rfl)
        have z1:wr.cell? ⟨g,kk * 2+1,none⟩=some (.int .i64 od):=hR.at (flat_at nd_len hcz 1 _ rfl)
        have f0:=hR.ice (kk * 2)
        have f1:=hR.ice (kk * 2+1)
        have HX2:=Lib.hid hx
        have HZ2:=Lib.hid hz
        have HY3:=Lib.hid hy
        clear hx hy hz hcx hcy hcz
        have e1:IntKind.i64.wrap ((k2:Int) - 1)=((k2 - 1:Nat):Int):=by rw [IntWalk.i64_in _ (by omega)];omega
        have hl1:((k2 - 1:Nat):Int) < ((n - k:Nat):Int):=by omega
        have hl0:(k2:Int) < ((n - k:Nat):Int):=by omega
        have Huv:=Lib.hid (toList_beq vn un)
        go_wp2_with fail
        cases h1:(vn.toList == un.toList) with
        | false =>
         have Hne:Hid ((vn,vd) ≠ (un,ud)):=Lib.hid (by rw [Huv.out,decide_eq_false_iff_not] at h1;exact fun e => h1 (Prod.mk.inj e).1)
         have hst:=rowN_keep (by omega) HX2.out HY3.out Hne.out Hkk.out HZ2.out
         have hR2:=Lib.hid fun q:Nat => ((hR.drewN q).set (kk * 2) (.string vn)).set (kk * 2+1) (.int .i64 vd)
         have HS:=Lib.hid hst
         clear hst hR
         go_quiet (fail)
         go_wp2
         go_roundw
         case rel =>
          refine ⟨k2+1,kk+1,by omega,by omega,by omega,by go_num,by go_num,Lib.hid HS.out.2,?_⟩
          have:=hR2.out nq
          rwa [HS.out.1] at this
         case measure => simp [intOf];omega
        | true =>
         by_cases h2:vd=ud
         ·have HE:Hid ((vn,vd)=(un,ud)):=Lib.hid (by rw [Huv.out,decide_eq_true_eq] at h1;rw [h1,h2])
          have HY4:Hid (L[k+k2]? = some (un,ud)):=Lib.hid (by rw [← HE.out];exact HY3.out)
          have HS:=Lib.hid (And.intro (cRow_skip (by omega) HX2.out HY4.out) (cmpct_same' (by omega) HX2.out HY4.out))
          have hR2:=Lib.hid fun q:Nat => hR.drewN q
          clear hR
          go_quiet (fail)
          go_wp2
          go_roundw
          case rel => exact ⟨k2+1,kk,by omega,by omega,by omega,rfl,by go_num,Lib.hid (by rw [← Nat.add_assoc,HS.out.2];exact Hkk.out),by rw [← Nat.add_assoc,HS.out.1];exact hR2.out nq⟩
          case measure => simp [intOf];omega
         ·have Hne:Hid ((vn,vd) ≠ (un,ud)):=Lib.hid (fun e => h2 (Prod.mk.inj e).2)
          have hst:=rowN_keep (by omega) HX2.out HY3.out Hne.out Hkk.out HZ2.out
          have hR2:=Lib.hid fun q:Nat => ((hR.drewN q).set (kk * 2) (.string vn)).set (kk * 2+1) (.int .i64 vd)
          have HS:=Lib.hid hst
          clear hst hR
          go_quiet (fail)
          go_wp2
          go_roundw
          case rel =>
           refine ⟨k2+1,kk+1,by omega,by omega,by omega,by go_num,by go_num,Lib.hid HS.out.2,?_⟩
           have:=hR2.out nq
           rwa [HS.out.1] at this
          case measure => simp [intOf];omega
       ·have hend:k+k2=n:=by omega
        obtain ⟨vs,hcl⟩:=run_clear_own hR ul_nds _ zv_nd rfl (by intro u hu;simp [Value.cells] at hu;rcases hu with rfl | rfl <;> rfl) kk (cap - kk) (by omega) 0
        obtain ⟨os',hR3,hos⟩:=hR.sets vs (kk * 2) (kk * 2) (Nat.le_refl _)
        have hfin:=ownsRow_cut hR3.own kk (by omega)
        rw [hos] at hfin
        have hkl:(cmpct L).length=kk:=by have:=Hkk.out;rwa [hend,← Hn.out,List.take_length] at this
        have hrow:=cRow_end (enc:=ndCells) (m:=2) nd_len L
        rw [Hn.out,← hend,hkl] at hrow
        rw [hrow] at hfin
        have HF:=Lib.hid (And.intro hfin hR3.gr)
        have Hkl:=Lib.hid hkl
        clear hfin hrow hos hR3 hR hkl
        go_wp2
        go_ret
        refine ⟨_,rfl,?_,HF.out.2⟩
        rw [Hkl.out]
        exact HF.out.1
     ·have Hne:Hid ((yn,yd) ≠ (xn,xd)):=Lib.hid (fun e => h2 (Prod.mk.inj e).2)
      go_quiet (fail)
      go_wp2
      go_roundw
      case rel => exact ⟨k+1,by omega,by omega,by go_num,Lib.hid (cmpct_full hk1 HX.out HY.out Hne.out Hc.out),hR.drewN _⟩
      case measure => simp [intOf];omega
   ·have hkn:k=n:=by omega
    subst hkn
    have hf:Hid (cmpct L=L):=Lib.hid (by have:=Hc.out;rwa [← Hn.out,List.take_length] at this)
    have HR:=Lib.hid hR
    clear hR
    go_wp2
    go_ret
    refine ⟨_,rfl,?_,HR.out.gr⟩
    rw [hf.out,Hn.out]
    exact HR.out.own
end Go.Proofs.YtcnpaciljmekcaaGreatDoor

namespace Go.Proofs.YtcnpaciljmekcaaGreatDoor
open Go.RowKit
open Go.Sort (HoldsK grow alloc_eq_grow grow_grow drew_grow SWO)
def ndCf (x y:NdP):Int:=fxCmp x.1 x.2 y.1 y.2
theorem ndCf_lt:ltOf ndCf=ndLt:=by funext x y;exact fxCmp_lt _ _ _ _
set_option maxHeartbeats 400000 in
set_option maxRecDepth 100000 in
theorem ndcmp_any (x y:NdP) (w:World) :
  Calls Tryz.prog 129 #[.agg #[.string x.1,.int .i64 x.2],.agg #[.string y.1,.int .i64 y.2]] w fun e w' => e = .returned (.int .i64 (ndCf x y))∧∃ q os',w'=grow (w.drewN q) os':=by
 obtain ⟨n1,d1⟩:=x
 obtain ⟨n2,d2⟩:=y
 unfold ndCf fxCmp
 go_enter Tryz.func129,Tryz.ntmps129
 go_wp2
 go_region_held3 (fun w' => w'.cell? ⟨w.heap.size,0,none⟩=some (.string n1)∧w'.cell? ⟨w.heap.size,1,none⟩=some (.int .i64 d1)∧w'.cell? ⟨w.heap.size+1,0,none⟩=some (.string n2)∧w'.cell? ⟨w.heap.size+1,1,none⟩=some (.int .i64 d2)) (go_keep)
  (first | (go_at_call 131;refine (cmpS_any _ _ _).mono ?_;rintro e w' ⟨rfl,rfl⟩) | (go_at_call 101;refine (cmpI_any _ _ _).mono ?_;rintro e w' ⟨rfl,rfl⟩) | (go_at_call 130;refine (or2_any (cmpS n1 n2) (cmpI d1 d2) _ _ ?_ ?_).mono ?_;(go_simp);(go_simp);rintro e w' ⟨rfl,rfl⟩))
 all_goals
  go_wp2
  go_ret
  exact ⟨rfl,1,_,by rw [alloc_eq_grow,alloc_eq_grow,alloc_eq_grow,grow_grow,grow_grow];rfl⟩
theorem ndcmp_enter:∀ args w,(callFunc 129 args).run Tryz.prog w = .ok (.enter 129 args) w:=enters_of Tryz.func129 (by kernel_rfl) rfl
set_option maxRecDepth 100000 in
theorem sortN_any (base:Nat) (L:List NdP) (v:Value) (W:World) (hown:W.ownsRow base 81 2 v L.length (L.flatMap ndCells)) (hlen:L.length≤4000000000000) :
  Calls Tryz.prog 127 #[v,.func (.func 129) #[] #[]] W fun e W' => e = .returned (.tuple #[]) ∧
   W'.ownsRow base 81 2 v L.length ((L.mergeSort fun x y => !ndLt y x).flatMap ndCells)∧W.grownBy W' v.ownBlock:=by
 rcases hown.2 with ⟨rfl,h0⟩ | ⟨g,cap,cur,rfl,hbg,hh,hn,hc,hs,ht⟩
 ·have hL:L=[]:=List.eq_nil_of_length_eq_zero h0
  subst hL
  have h:=AnyF.slices_SortFunc_none Tryz.laysNeed none 0 (.func (.func 129) #[] #[]) W
  refine Calls.mono (by exact h) ?_
  rintro e W' ⟨rfl,rfl⟩
  exact ⟨rfl,by simpa using hown,World.grownBy.refl _ _⟩
 ·have hblk:g < W.heap.size:=(Array.getElem?_eq_some_iff.1 hh).1
  have h:=AnyQ.slices_SortFunc_total (α:=NdP) Tryz.laysNeed 2 Tryz.isAgg81 Tryz.sizeOf81 ndCells nd_len nd_oneCells ndCf (by rw [ndCf_lt];exact swo_of_sto nd_sto) 129 #[] g 0 cap L.toArray W ndcmp_enter
   (fun m os dk _ x y => ndcmp_any x y _) (holdsK_own nd_len hown) hblk (by simp;omega) (by rw [ndCf_lt];exact fun x y h1 h2 => nd_sto.conn x y h1 h2)
  refine Calls.mono (by exact h) ?_
  rintro e W' ⟨rfl,q,os,rfl⟩
  rw [ndCf_lt]
  obtain ⟨h1,h2⟩:=sorted_row (T:=L.mergeSort fun x y => !ndLt y x) nd_len hown (List.length_mergeSort _) q os
  exact ⟨rfl,h1,h2⟩
def ndOrder:Value:=.agg #[.func (.func 129) #[] #[]]
set_option maxHeartbeats 1000000 in
set_option maxRecDepth 100000 in
theorem uniqN_any (base:Nat) (L:List NdP) (v:Value) (W:World) (hown:W.ownsRow base 81 2 v L.length (L.flatMap ndCells)) (hlen:L.length≤4000000000000) (hbase:base≤W.heap.size) :
  Calls Tryz.prog 69 #[v,ndOrder] W fun e W' => ∃ v',e = .returned v'∧W'.ownsRow base 81 2 v' (uniq ndLt L).length ((uniq ndLt L).flatMap ndCells)∧Below base W W':=by
 have hb0:=below_a1 W (.cells #[.func (.func 129) #[] #[]] 120)
 have hown1:=ownsRow_below' hown hb0
 have hS:=sortN_any base L v _ hown1 hlen
 have Hb0:=Lib.hid hb0
 have Hl:=Lib.hid hlen
 obtain ⟨ad,n,cap,hv⟩:∃ ad n cap,v = .slice ad n cap:=by
  rcases hown.2 with ⟨rfl,h⟩ | ⟨g,cap,cur,rfl,_⟩ <;> exact ⟨_,_,_,rfl⟩
 have HO:=Lib.hid hown1
 subst hv
 clear hown hown1 hb0 hlen
 unfold ndOrder
 go_enter Tryz.func69,Tryz.ntmps69
 go_wp2_with (go_at_call 127;refine hS.mono ?_;rintro e w1 ⟨rfl,h1,h2⟩)
 have hml:(L.mergeSort fun x y => !ndLt y x).length=L.length:=List.length_mergeSort _
 rw [← hml] at h1
 have hC:=compactN_any base _ _ w1 h1 (by rw [hml];exact Hl.out)
 have hb1:=(Hb0.out.mono hbase).grown h2 (by simp;omega) (fun k e => (HO.out.lt k e).1)
 have hlt1:=fun k e => (h1.lt k e).1
 clear h1 h2
 go_wp2_with (go_at_call 128;refine hC.mono ?_;rintro e w2 ⟨v2,rfl,h3,h4⟩)
 go_ret
 exact ⟨_,rfl,h3,hb1.grown h4 (Nat.le_trans hbase hb1.size) hlt1⟩
set_option maxRecDepth 100000 in
theorem ndOrder_any (W:World):Calls Tryz.prog 70 #[] W fun e W' => e = .returned ndOrder∧Below W.heap.size W W':=by
 go_enter Tryz.func70,Tryz.ntmps70
 go_wp2
 refine bodyPost_ret (v:=.agg #[.func (.func 129) #[] #[]]) (by simp [results,Tryz.results70,go_sem]) rfl ?_
 exact ⟨rfl,below_a1 _ _⟩
end Go.Proofs.YtcnpaciljmekcaaGreatDoor

namespace Go.Proofs.YtcnpaciljmekcaaGreatDoor
open Go.RowKit
set_option maxHeartbeats 2000000 in
set_option maxRecDepth 100000 in
theorem needx_any (w0:World) (D Bo:Nat) (L0:List NdP) (x:Ex) (s:Value) (ds:List Int) (v:Value) (W:World) (hBo:w0.heap.size≤Bo) (hBD:Bo < D) (hB:x.bulk≤2000000) (hdl:ds.length≤2000000) (hbd:(L0 ++ x.nodes.flatMap (xNeed ds)).length≤4000000000000)
  (hR:NRow w0.heap.size Bo L0 W) (hbW:Below w0.heap.size w0 W) (hDW:D≤W.heap.size) (hs:RdE w0 x.sub s) (hdv:DaysAt w0.heap.size D Bo W ds v) :
  Calls Tryz.prog 66 #[x.val s,v,.pointer (some ⟨Bo,0,none⟩)] W fun e W' => e = .returned (.tuple #[])∧NRow w0.heap.size Bo (L0 ++ x.nodes.flatMap (xNeed ds)) W'∧KeptO w0.heap.size D Bo W W':=by
 obtain ⟨ad,cap,rfl⟩:=hs.len
 obtain ⟨adv,capv,rfl⟩:=hdv.1.len
 have hbo:=hR.box
 have hb1:=below_a1 W (.cells #[.int .u8 x.k,.string x.ra,.string x.nm,.int .i64 x.d,.slice ad x.sub.length cap] 25)
 have hb2:=below_a2 W (.cells #[.int .u8 x.k,.string x.ra,.string x.nm,.int .i64 x.d,.slice ad x.sub.length cap] 25) (.cells #[.slice adv ds.length capv] 26)
 have hR1:=hR.frame hb1
 have hR2:=hR.frame hb2
 have hk2:KeptO w0.heap.size D Bo W ((W.alloc (.cells #[.int .u8 x.k,.string x.ra,.string x.nm,.int .i64 x.d,.slice ad x.sub.length cap] 25)).alloc (.cells #[.slice adv ds.length capv] 26)):=KeptO.of_below hbW.size hbo hb2
 have hpd:=Prv.new (D:=D) (W:=W.alloc (.cells #[.int .u8 x.k,.string x.ra,.string x.nm,.int .i64 x.d,.slice ad x.sub.length cap] 25)) (by rw [World.size_alloc];omega) hR1.box hR1.own (.cells #[.slice adv ds.length capv] 26)
 rw [World.size_alloc] at hpd
 have hcd:((W.alloc (.cells #[.int .u8 x.k,.string x.ra,.string x.nm,.int .i64 x.d,.slice ad x.sub.length cap] 25)).alloc (.cells #[.slice adv ds.length capv] 26)).cell? ⟨W.heap.size+1,0,none⟩=some (.slice adv ds.length capv):=by go_simp
 have hK0:NKey w0 D Bo (W.heap.size+1) L0 ds (.slice adv ds.length capv) [] ((W.alloc (.cells #[.int .u8 x.k,.string x.ra,.string x.nm,.int .i64 x.d,.slice ad x.sub.length cap] 25)).alloc (.cells #[.slice adv ds.length capv] 26)):=by
  refine ⟨?_,hcd,hpd,hdv.kept hk2⟩
  rw [List.flatMap_nil,List.append_nil];exact hR2
 have hL:LeafOk w0 D Bo x.nodes (fun pre W' => NKey w0 D Bo (W.heap.size+1) L0 ds (.slice adv ds.length capv) pre W'∧w0.heap.size≤W'.heap.size) 67 #[.pointer (some ⟨W.heap.size+1,0,none⟩),.pointer (some ⟨Bo,0,none⟩)] :=
  { frame:=fun pre W1 W2 h hb => ⟨h.1.frame h.2 hb,Nat.le_trans h.2 hb.size⟩
    own:=fun pre W1 h => h.1.1.own
    box:=fun pre W1 h => h.1.1.box
    ef:=enters_of Tryz.func67 (by kernel_rfl) rfl
    call:=fun pre y sy W1 h hbw hD hsy hp => by
     have hlen:(L0 ++ (pre ++ [y]).flatMap (xNeed ds)).length≤4000000000000:=by
      obtain ⟨r,hr⟩:=hp
      refine Nat.le_trans ?_ hbd
      have e:x.nodes.flatMap (xNeed ds)=(pre ++ [y]).flatMap (xNeed ds) ++ r.flatMap (xNeed ds):=by rw [← hr,List.flatMap_append]
      rw [e]
      simp only [List.length_append]
      omega
     exact (needf_any w0 D Bo (W.heap.size+1) L0 ds _ pre y sy W1 hBo hBD hdl hlen h.1 hbw hD hsy).mono fun e W2 ⟨he,h2,h3⟩ => ⟨he,⟨h2,Nat.le_trans h.2 h3.below.size⟩,h3⟩ }
 have hLv:=leaves_any w0 D Bo x.nodes _ 67 _ hL x.bulk x (.slice ad x.sub.length cap) [] _ (Nat.le_refl _) hB hs (hbW.trans hk2.below) (Nat.le_trans hDW hb2.size) ⟨hK0,Nat.le_trans hbW.size hb2.size⟩ (by simp)
 have HLv:=Lib.hid hLv
 have HK:=Lib.hid hk2
 unfold Ex.val at HLv ⊢
 clear hLv hL hK0 hcd hpd hk2 hR2 hR1 hR hdv hs
 go_enter Tryz.func66,Tryz.ntmps66
 go_wp2_with fail
 refine HLv.out.mono ?_
 rintro e W3 ⟨rfl,⟨⟨h3,_⟩,_⟩,hk3⟩
 have HF:Hid (NRow w0.heap.size Bo (L0 ++ x.nodes.flatMap (xNeed ds)) W3∧KeptO w0.heap.size D Bo W W3):=Lib.hid ⟨by simpa using h3,HK.out.trans hk3⟩
 clear h3 hk3 HLv
 go_wp2_with fail
 go_end0
 exact ⟨rfl,HF.out.1,HF.out.2⟩
theorem needs_vis (w0:World) (D Bo:Nat) (c:Con) (day:Int) (hB:c.bulk≤2000000) (hBo:w0.heap.size≤Bo) (hBD:Bo < D) :
  VisOk w0 D Bo (c.evs [day]) (fun evs W => NRow w0.heap.size Bo (evNs evs) W∧w0.heap.size≤W.heap.size) 66 95 96 #[.pointer (some ⟨Bo,0,none⟩)] #[] #[] where
 frame:=fun pre W1 W2 h hb => ⟨h.1.frame hb,Nat.le_trans h.2 hb.size⟩
 own:=fun pre W h => h.1.own
 box:=fun pre W h => h.1.box
 ee:=enters_of Tryz.func66 (by kernel_rfl) rfl
 ec:=enters_of Tryz.func95 (by kernel_rfl) rfl
 ep:=enters_of Tryz.func96 (by kernel_rfl) rfl
 expr:=fun pre x s ds v W h hbW hDW hs hxb hdl hdv hp => by
  have hlen:=(Con.found_len c day hB hp).1
  have e1:evNs (pre ++ [.expr x ds])=evNs pre ++ x.nodes.flatMap (xNeed ds):=by rw [evNs_append];simp [evNs,evNeeds]
  rw [e1] at hlen ⊢
  exact (needx_any w0 D Bo (evNs pre) x s ds v W hBo hBD hxb hdl hlen h.1 hbW hDW hs hdv).mono fun e W' ⟨he,h1,h2⟩ => ⟨he,⟨h1,Nat.le_trans h.2 h2.below.size⟩,h2⟩
 choice:=fun pre p n ds v W h hbW hDW hdl hdv hp => by
  have e1:evNs (pre ++ [.choice p n ds])=evNs pre:=by rw [evNs_append];simp [evNs,evNeeds]
  rw [e1]
  exact (silent2_any p n v W).mono fun e W' ⟨he,hw⟩ => ⟨he,hw ▸ h,hw ▸ KeptO.refl W⟩
 pay:=fun pre ds v W h hbW hDW hdl hdv hp => by
  have e1:evNs (pre ++ [.pay ds])=evNs pre:=by rw [evNs_append];simp [evNs,evNeeds]
  rw [e1]
  exact (silent3_any v W).mono fun e W' ⟨he,hw⟩ => ⟨he,hw ▸ h,hw ▸ KeptO.refl W⟩
end Go.Proofs.YtcnpaciljmekcaaGreatDoor

namespace Go.Proofs.YtcnpaciljmekcaaGreatDoor
open Go.RowKit Go.Shelf
theorem Con.evss_take {l:List Con} {k:Nat} {x:Con} (h:l[k]? = some x) (ds:List Int):∃ r,Con.evss l ds=Con.evss (l.take k) ds ++ (x.evs ds ++ r):=by
 refine ⟨Con.evss (l.drop (k+1)) ds,?_⟩
 rw [← List.append_assoc,← Con.evss_snoc h,← Con.evss_append,List.take_append_drop]
theorem ext_sameE {P:Program} {f:FuncId} {args:Array Value} {v:Value} {w:World} (h:∀ W,Ext w W→Calls P f args W fun e w' => e = .returned v∧W=w') (W:World) (hW:Ext w W) :
  Calls P f args W fun e w'' => e = .returned v∧Ext w w'' :=
 (h W hW).mono fun _ _ ⟨he,hb⟩ => ⟨he,hb ▸ hW⟩
def Con.rising (c:Con):Prop:=∀ x ∈ c.nodes,x.ds.Pairwise (· < ·)
theorem Con.rising_sub {c y:Con} (h:c.rising) {k:Nat} (hy:c.sub[k]? = some y):y.rising:=fun x hx => by
 obtain ⟨r,hr⟩:=Con.nodess_take hy
 exact h x (by rw [Con.nodes_eq,hr];simp [hx])
def SwRel (w0:World) (D Bo:Nat) (J:List Ev→World→Prop) (pre:List Ev) (c:Con) (ds:List Int) (d0:Int) (W:World) (es dd ss:Value) (v7:Value) (wc:World):Prop :=
 J (pre ++ headEv c ds d0) wc∧KeptO w0.heap.size D Bo W wc∧DaysAt w0.heap.size D Bo wc (innerD c ds d0) v7∧CBox wc W.heap.size c es dd ss∧Prv D Bo wc W.heap.size
set_option maxHeartbeats 4000000 in
set_option maxRecDepth 100000 in
theorem vwalk_any (w0:World) (D Bo Bv Bw:Nat) (full:List Ev) (J:List Ev→World→Prop) (fe fc fp:Nat) (ce cc cp:Array Value) (hV:VisOk w0 D Bo full J fe fc fp ce cc cp) :
  ∀ (N:Nat) (c:Con) (es dd ss:Value) (ds:List Int) (v:Value) (pre:List Ev) (W:World),c.bulk≤N→c.bulk≤2000000→c.rising→ds.length≤2000000→RdN w0 c es dd ss→Below w0.heap.size w0 W→D≤W.heap.size→J pre W →
   DaysAt w0.heap.size D Bo W ds v→pre ++ c.evs ds <+: full→Prv D Bo W Bv→Prv D Bo W Bw →
   W.cell? ⟨Bv,0,none⟩=some (.func (.func fe) #[] ce)→W.cell? ⟨Bv,1,none⟩=some (.func (.func fc) #[] cc)→W.cell? ⟨Bv,2,none⟩=some (.func (.func fp) #[] cp) →
   W.cell? ⟨Bw,0,none⟩=some (.func (.func 97) #[] #[.pointer (some ⟨Bv,0,none⟩),.pointer (some ⟨Bw,0,none⟩)]) →
   Calls Tryz.prog 97 #[c.val es dd ss,v,.pointer (some ⟨Bv,0,none⟩),.pointer (some ⟨Bw,0,none⟩)] W fun e W' => e = .returned (.tuple #[])∧J (pre ++ c.evs ds) W'∧KeptO w0.heap.size D Bo W W':=by
 intro N
 induction N with
 | zero =>
  intro c es dd ss ds v pre W h0
  rw [Con.bulk_eq] at h0
  omega
 | succ N ih =>
  intro c es dd ss ds v pre W hN hB hri hdl hr hbW hDW hJ hdv hpf hpv hpw v0 v1 v2 v3
  obtain ⟨ad,cap,rfl⟩:=hr.2.2.1.len
  obtain ⟨ad1,cap1,rfl⟩:=hr.1.len
  obtain ⟨ad2,cap2,rfl⟩:=hr.2.1.len
  have hbo:=hV.box _ _ hJ
  have hob:=hV.own _ _ hJ
  cases ds with
  | nil =>
   obtain ⟨advs,capv,rfl⟩:=hdv.1.len
   have hK:KeptO w0.heap.size D Bo W (W.alloc (.cells #[.int .u8 c.k,.string c.fr,.string c.rc,.string c.nm,.int .u8 c.ex.k,.string c.ex.ra,.string c.ex.nm,.int .i64 c.ex.d,.slice ad1 c.ex.sub.length cap1,.int .i64 c.d,.slice ad2 c.ds.length cap2,.slice ad c.sub.length cap] 29)):=KeptO.of_below hbW.size hbo (below_a1 _ _)
   have hJ2:=hV.frame _ _ _ hJ (below_a1 W (.cells #[.int .u8 c.k,.string c.fr,.string c.rc,.string c.nm,.int .u8 c.ex.k,.string c.ex.ra,.string c.ex.nm,.int .i64 c.ex.d,.slice ad1 c.ex.sub.length cap1,.int .i64 c.d,.slice ad2 c.ds.length cap2,.slice ad c.sub.length cap] 29))
   rw [Con.evs_nil,List.append_nil]
   unfold Con.val
   clear hpf hdv hob hri hr hJ v0 v1 v2 v3
   go_enter Tryz.func97,Tryz.ntmps97
   go_wp2_with fail
   refine bodyPost_ret (results_none rfl _ _ _) rfl ?_
   exact ⟨rfl,hJ2,hK⟩
  | cons d0 dr =>
   obtain ⟨advs,capv,rfl⟩:=hdv.1.len
   have tl:((dr.length:Int)+1 == 0)=false:=by simp;omega
   have HBX:=CBox.new W c (.slice ad1 c.ex.sub.length cap1) (.slice ad2 c.ds.length cap2) (.slice ad c.sub.length cap) 29
   have hbA:=below_a1 W (.cells #[.int .u8 c.k,.string c.fr,.string c.rc,.string c.nm,.int .u8 c.ex.k,.string c.ex.ra,.string c.ex.nm,.int .i64 c.ex.d,.slice ad1 c.ex.sub.length cap1,.int .i64 c.d,.slice ad2 c.ds.length cap2,.slice ad c.sub.length cap] 29)
   have hK0:KeptO w0.heap.size D Bo W (W.alloc (.cells #[.int .u8 c.k,.string c.fr,.string c.rc,.string c.nm,.int .u8 c.ex.k,.string c.ex.ra,.string c.ex.nm,.int .i64 c.ex.d,.slice ad1 c.ex.sub.length cap1,.int .i64 c.d,.slice ad2 c.ds.length cap2,.slice ad c.sub.length cap] 29)):=KeptO.of_below hbW.size hbo hbA
   have hPB:=Prv.new hDW hbo hob (.cells #[.int .u8 c.k,.string c.fr,.string c.rc,.string c.nm,.int .u8 c.ex.k,.string c.ex.ra,.string c.ex.nm,.int .i64 c.ex.d,.slice ad1 c.ex.sub.length cap1,.int .i64 c.d,.slice ad2 c.ds.length cap2,.slice ad c.sub.length cap] 29)
   have hJ0:=hV.frame _ _ _ hJ hbA
   have hdsr:=hri c (by rw [Con.nodes_eq];exact List.mem_cons_self ..)
   have hbq:=c.bulk_eq
   have hcdl:c.ds.length≤2000000:=by omega
   have hxb:c.ex.bulk≤2000000:=by omega
   have hll:(laterD c.ds d0).length≤2000000:=Nat.le_trans (laterD_len c.ds d0) hcdl
   obtain ⟨b0,o0,hb00,hc00⟩:∃ b0 o0,advs=some ⟨b0,o0,none⟩∧W.cell? ⟨b0,o0,none⟩=some (.int .i64 d0):=by
    obtain ⟨ad',cap',he,_,h2⟩:=hdv.1
    obtain ⟨rfl,_,rfl⟩:=Value.slice.inj he
    exact h2 0 d0 rfl
   have hb0l:b0 < W.heap.size:=World.block_lt_of_cell? W _ hc00
   have HFr:=Lib.hid (fun W' (hW':Ext (W.alloc (.cells #[.int .u8 c.k,.string c.fr,.string c.rc,.string c.nm,.int .u8 c.ex.k,.string c.ex.ra,.string c.ex.nm,.int .i64 c.ex.d,.slice ad1 c.ex.sub.length cap1,.int .i64 c.d,.slice ad2 c.ds.length cap2,.slice ad c.sub.length cap] 29)) W') => from_any c.ds d0 ad2 cap2 W' hcdl hdsr (hr.2.1.frame ((hbW.trans hK0.below).trans (Below.mono hW' (by have:=hbW.size;simp;omega)))))
   clear hbq
   subst hb00
   unfold Con.val
   go_enter Tryz.func97,Tryz.ntmps97
   go_upto_region 2 with fail
   refine wp_region_ext (fun W' => W'.cell? ⟨W.heap.size,10,none⟩=some (.slice ad2 c.ds.length cap2)∧W'.cell? ⟨b0,o0,none⟩=some (.int .i64 d0)) (fun W' hW' => ⟨hW'.cell (by go_simp),hW'.cell (by go_simp)⟩) (by kernel_rfl) (by kernel_rfl) ?_
   intro HCW
   repeat (first | go_big_quiet_skip | (go_big_quiet_want;apply Exists.intro;refine ⟨fun W hW => ?_,?_⟩;(focus (obtain ⟨q0,q1⟩:=HCW W hW;go_simp;first | done | rfl | with_reducible exact ext_sameE HFr.out W hW));(simp only [Act.put,List.setIfInBounds_toArray,List.set_cons_zero,List.set_cons_succ]);go_big_quiet_on))
   refine wpQuiet_nil ?_
   intro W1 hW1
   have hW1:=hW1.below
   have hJ1:=hV.frame _ _ _ hJ0 hW1
   have hbo0:=hV.box _ _ hJ0
   have hK1:=hK0.trans (KeptO.of_below (by have:=hbW.size;simp;omega) hbo0 hW1)
   have hdv1:=hdv.kept hK1
   have hpv1:=hpv.kept hK1
   have hpw1:=hpw.kept hK1
   have hPB1:=hPB.low hbo0 hW1
   have hBX1:=HBX.low hW1
   have hlt1:DaysAt w0.heap.size D Bo W1 (laterD c.ds d0) (laterV c.ds d0 ad2 cap2):=⟨laterV_rd hdsr (hr.2.1.frame (hbW.trans hK1.below)),fun hne0 b hb => by
    have h2:c.ds.length ≠ 0→b < w0.heap.size:=fun hne => by
     obtain ⟨ad',cap',he,_,h3⟩:=hr.2.1
     obtain ⟨rfl,_,rfl⟩:=Value.slice.inj he
     obtain ⟨x,hx⟩:∃ x,c.ds[0]? = some x:=⟨_,List.getElem?_eq_getElem (by omega)⟩
     obtain ⟨b',o',rfl,hc⟩:=h3 0 x hx
     have h4:=laterV_own hb
     cases h4
     exact World.block_lt_of_cell? w0 _ hc
    refine .inl (h2 fun h0 => hne0 ?_)
    rw [List.eq_nil_of_length_eq_zero h0];rfl⟩
   obtain ⟨c0,c1,c2,c3,c4,c5,c6,c7,c8,c9,c10,c11⟩:=hBX1
   have hlB:W.heap.size < W1.heap.size:=World.block_lt_of_cell? W1 _ c0
   clear HCW HFr hW1 hb0l
   go_upto_block 0 with fail
   have HPF:Hid (pre ++ headEv c (d0 :: dr) d0 <+: full):=Lib.hid (by
    obtain ⟨r,hr⟩:=hpf
    rw [Con.evs_cons] at hr
    exact ⟨Con.evss c.sub (innerD c (d0 :: dr) d0) ++ r,by rw [← hr];simp [List.append_assoc]⟩)
   have HBX1:Hid (CBox W1 W.heap.size c (.slice ad1 c.ex.sub.length cap1) (.slice ad2 c.ds.length cap2) (.slice ad c.sub.length cap)):=Lib.hid ⟨c0,c1,c2,c3,c4,c5,c6,c7,c8,c9,c10,c11⟩
   have HEx:=Lib.hid hV.expr
   have HCh:=Lib.hid hV.choice
   have HPy:=Lib.hid hV.pay
   have hee:=hV.ee
   have hec:=hV.ec
   have hep:=hV.ep
   unfold Ex.val at HEx
   have HVC:Hid (∀ W2,KeptO w0.heap.size D Bo W W2→W2.cell? ⟨Bv,0,none⟩=some (.func (.func fe) #[] ce)∧W2.cell? ⟨Bv,1,none⟩=some (.func (.func fc) #[] cc)∧W2.cell? ⟨Bv,2,none⟩=some (.func (.func fp) #[] cp) ∧
     W2.cell? ⟨Bw,0,none⟩=some (.func (.func 97) #[] #[.pointer (some ⟨Bv,0,none⟩),.pointer (some ⟨Bw,0,none⟩)])∧Bv < W2.heap.size∧Bw < W2.heap.size∧Below w0.heap.size w0 W2∧D≤W2.heap.size):=Lib.hid fun W2 k =>
    ⟨hpv.cell k v0,hpv.cell k v1,hpv.cell k v2,hpw.cell k v3,(hpv.kept k).2.1,(hpw.kept k).2.1,hbW.trans k.below,Nat.le_trans hDW k.below.size⟩
   obtain ⟨u0,u1,u2,u3,hlv,hlw,hbw1,hD1⟩:=HVC.out W1 hK1
   clear v0 v1 v2 v3 HBX hJ hdv hJ0 hK0 hPB hc00
   go_cut [7] from 22 to 91 (fun v7 wc => SwRel w0 D Bo J pre c (d0 :: dr) d0 W (.slice ad1 c.ex.sub.length cap1) (.slice ad2 c.ds.length cap2) (.slice ad c.sub.length cap) v7 wc)
   case first =>
    clear ih
    have hkk:c.k=2∨c.k=4∨c.k=5∨c.k=6∨c.k=7∨c.k=8∨c.k=9∨c.k=10∨(c.k ≠ 2∧c.k ≠ 4∧c.k ≠ 5∧c.k ≠ 6∧c.k ≠ 7∧c.k ≠ 8∧c.k ≠ 9∧c.k ≠ 10):=by omega
    rcases hkk with hk | hk | hk | hk | hk | hk | hk | hk | hk
    ·have HH:Hid (headEv c (d0 :: dr) d0=[.pay (d0 :: dr),.expr c.ex (d0 :: dr)]∧innerD c (d0 :: dr) d0=d0 :: dr):=Lib.hid ⟨by unfold headEv;rw [if_pos (by omega)],by unfold innerD;rw [if_neg (by omega),if_neg (by omega)]⟩
     have t2:((c.k:Int) == 2)=true:=by rw [hk];rfl
     have t4:((c.k:Int) == 4)=false:=by rw [hk];rfl
     have t5:((c.k:Int) == 5)=false:=by rw [hk];rfl
     have t6:((c.k:Int) == 6)=false:=by rw [hk];rfl
     have t7:((c.k:Int) == 7)=false:=by rw [hk];rfl
     have t8:((c.k:Int) == 8)=false:=by rw [hk];rfl
     have t9:((c.k:Int) == 9)=false:=by rw [hk];rfl
     have t10:((c.k:Int) == 10)=false:=by rw [hk];rfl
     have hpf2:=HPF.out
     rw [HH.out.1] at hpf2
     clear hk
     have hpf3:pre ++ [Ev.pay (d0 :: dr)] <+: full:=by
      obtain ⟨r,hr⟩:=hpf2
      exact ⟨Ev.expr c.ex (d0 :: dr) :: r,by rw [← hr];simp⟩
     go_wp2_with fail
     refine (HPy.out pre _ _ W1 hJ1 hbw1 hD1 hdl hdv1 hpf3).mono ?_
     rintro e W2 ⟨rfl,hJ2,hk2⟩
     obtain ⟨x0,x1,x2,x3,hlv2,hlw2,hbw2,hD2⟩:=HVC.out W2 (hK1.trans hk2)
     obtain ⟨e0,e1,e2,e3,e4,e5,e6,e7,e8,e9,e10,e11⟩:=HBX1.out.keptO hPB1 hk2
     have hlB2:W.heap.size < W2.heap.size:=World.block_lt_of_cell? W2 _ e0
     clear c0 c1 c2 c3 c4 c5 c6 c7 c8 c9 c10 c11 u0 u1 u2 u3
     go_wp2_with fail
     refine (HEx.out (pre ++ [Ev.pay (d0 :: dr)]) c.ex _ _ _ W2 hJ2 hbw2 hD2 hr.1 hxb hdl (hdv1.kept hk2) (by simpa using hpf2)).mono ?_
     rintro e W3 ⟨rfl,hJ3,hk3⟩
     have hJ3:J (pre ++ [Ev.pay (d0 :: dr),Ev.expr c.ex (d0 :: dr)]) W3:=by simpa using hJ3
     have hk3:=hk2.trans hk3
     clear e0 e1 e2 e3 e4 e5 e6 e7 e8 e9 e10 e11 x0 x1 x2 x3 hk2 hJ2
     go_wp2_with fail
     go_meet
     exact ⟨by rw [HH.out.1];exact hJ3,hK1.trans hk3,by rw [HH.out.2];exact hdv1.kept hk3,HBX1.out.keptO hPB1 hk3,hPB1.kept hk3⟩
    ·have HH:Hid (headEv c (d0 :: dr) d0=[.expr c.ex (d0 :: dr)]∧innerD c (d0 :: dr) d0=d0 :: dr):=Lib.hid ⟨by unfold headEv;rw [if_neg (by omega),if_pos (by omega)],by unfold innerD;rw [if_neg (by omega),if_neg (by omega)]⟩
     have t2:((c.k:Int) == 2)=false:=by rw [hk];rfl
     have t4:((c.k:Int) == 4)=true:=by rw [hk];rfl
     have t5:((c.k:Int) == 5)=false:=by rw [hk];rfl
     have t6:((c.k:Int) == 6)=false:=by rw [hk];rfl
     have t7:((c.k:Int) == 7)=false:=by rw [hk];rfl
     have t8:((c.k:Int) == 8)=false:=by rw [hk];rfl
     have t9:((c.k:Int) == 9)=false:=by rw [hk];rfl
     have t10:((c.k:Int) == 10)=false:=by rw [hk];rfl
     have hpf2:=HPF.out
     rw [HH.out.1] at hpf2
     clear hk
     go_wp2_with fail
     refine (HEx.out pre c.ex _ _ _ W1 hJ1 hbw1 hD1 hr.1 hxb hdl hdv1 hpf2).mono ?_
     rintro e W2 ⟨rfl,hJ2,hk2⟩
     go_wp2_with fail
     go_meet
     exact ⟨by rw [HH.out.1];exact hJ2,hK1.trans hk2,by rw [HH.out.2];exact hdv1.kept hk2,HBX1.out.keptO hPB1 hk2,hPB1.kept hk2⟩
    ·have HH:Hid (headEv c (d0 :: dr) d0=[.expr c.ex (d0 :: dr)]∧innerD c (d0 :: dr) d0=d0 :: dr):=Lib.hid ⟨by unfold headEv;rw [if_neg (by omega),if_pos (by omega)],by unfold innerD;rw [if_neg (by omega),if_neg (by omega)]⟩
     have t2:((c.k:Int) == 2)=false:=by rw [hk];rfl
     have t4:((c.k:Int) == 4)=false:=by rw [hk];rfl
     have t5:((c.k:Int) == 5)=true:=by rw [hk];rfl
     have t6:((c.k:Int) == 6)=false:=by rw [hk];rfl
     have t7:((c.k:Int) == 7)=false:=by rw [hk];rfl
     have t8:((c.k:Int) == 8)=false:=by rw [hk];rfl
     have t9:((c.k:Int) == 9)=false:=by rw [hk];rfl
     have t10:((c.k:Int) == 10)=false:=by rw [hk];rfl
     have hpf2:=HPF.out
     rw [HH.out.1] at hpf2
     clear hk
     go_wp2_with fail
     refine (HEx.out pre c.ex _ _ _ W1 hJ1 hbw1 hD1 hr.1 hxb hdl hdv1 hpf2).mono ?_
     rintro e W2 ⟨rfl,hJ2,hk2⟩
     go_wp2_with fail
     go_meet
     exact ⟨by rw [HH.out.1];exact hJ2,hK1.trans hk2,by rw [HH.out.2];exact hdv1.kept hk2,HBX1.out.keptO hPB1 hk2,hPB1.kept hk2⟩
    ·have HH:Hid (headEv c (d0 :: dr) d0=[]∧innerD c (d0 :: dr) d0=(if d0≤c.d then [c.d] else [])):=Lib.hid ⟨by unfold headEv;rw [if_neg (by omega),if_neg (by omega),if_neg (by omega),if_neg (by omega),if_neg (by omega)],by unfold innerD;rw [if_pos hk]⟩
     have t2:((c.k:Int) == 2)=false:=by rw [hk];rfl
     have t4:((c.k:Int) == 4)=false:=by rw [hk];rfl
     have t5:((c.k:Int) == 5)=false:=by rw [hk];rfl
     have t6:((c.k:Int) == 6)=true:=by rw [hk];rfl
     have t7:((c.k:Int) == 7)=false:=by rw [hk];rfl
     have t8:((c.k:Int) == 8)=false:=by rw [hk];rfl
     have t9:((c.k:Int) == 9)=false:=by rw [hk];rfl
     have t10:((c.k:Int) == 10)=false:=by rw [hk];rfl
     have hpf2:=HPF.out
     rw [HH.out.1] at hpf2
     clear hk
     have hc01:W1.cell? ⟨b0,o0,none⟩=some (.int .i64 d0):=by
      obtain ⟨ad',cap',he,_,h2⟩:=hdv1.1
      obtain ⟨rfl,_,rfl⟩:=Value.slice.inj he
      obtain ⟨b',o',e',h3⟩:=h2 0 d0 rfl
      cases e'
      exact h3
     have hb01:b0 < W1.heap.size:=World.block_lt_of_cell? W1 _ hc01
     go_upto_region 13 with fail
     refine wp_region_ext (fun W' => W'.cell? ⟨W.heap.size,9,none⟩=some (.int .i64 c.d)∧W'.cell? ⟨b0,o0,none⟩=some (.int .i64 d0)) (fun W' hW' => ⟨hW'.cell (by go_simp),hW'.cell (by go_simp)⟩) (by kernel_rfl) (by kernel_rfl) ?_
     intro HCW
     repeat (first | go_big_quiet_skip | (go_big_quiet_want;apply Exists.intro;refine ⟨fun W hW => ?_,?_⟩;(focus (obtain ⟨q0,q1⟩:=HCW W hW;go_simp;first | done | rfl));(simp only [Act.put,List.setIfInBounds_toArray,List.set_cons_zero,List.set_cons_succ]);go_big_quiet_on))
     refine wpQuiet_nil ?_
     intro W2 hW2
     have hW2:=hW2.below
     have hbo1:=hV.box _ _ hJ1
     have hJ2:=hV.frame _ _ _ hJ1 hW2
     have hk2:KeptO w0.heap.size D Bo W1 W2:=KeptO.of_below hbw1.size hbo1 hW2
     have hbo2:=hV.box _ _ hJ2
     have hob2:=hV.own _ _ hJ2
     have hD2:D≤W2.heap.size:=Nat.le_trans hD1 hW2.size
     have hz2:=(hbw1.trans hk2.below).size
     have e9:W2.cell? ⟨W.heap.size,9,none⟩=some (.int .i64 c.d):=hPB1.cell hk2 c9
     have hlB2:W.heap.size < W2.heap.size:=World.block_lt_of_cell? W2 _ e9
     have hPN:=Prv.new hD2 hbo2 hob2 (.cells #[.int .i64 c.d] 3)
     have hk3:KeptO w0.heap.size D Bo W2 (W2.alloc (.cells #[.int .i64 c.d] 3)):=KeptO.of_below hz2 hbo2 (below_a1 _ _)
     have hJ3:=hV.frame _ _ _ hJ2 (below_a1 W2 (.cells #[.int .i64 c.d] 3))
     have hk23:=hk2.trans hk3
     have hcN:(W2.alloc (.cells #[.int .i64 c.d] 3)).cell? ⟨W2.heap.size,0,none⟩=some (.int .i64 c.d):=by go_simp
     have hdN:DaysAt w0.heap.size D Bo (W2.alloc (.cells #[.int .i64 c.d] 3)) [c.d] (.slice (some ⟨W2.heap.size,0,none⟩) 1 1) :=
      ⟨⟨_,_,rfl,⟨Nat.le_refl _,fun h => by cases h⟩,fun j x hj => by
       cases j with
       | zero => cases hj;exact ⟨_,_,rfl,hcN⟩
       | succ j => simp at hj⟩,fun _ b hb => by cases hb;exact .inr hPN⟩
     have hd0:DaysAt w0.heap.size D Bo W2 [] (.slice none 0 0):=⟨⟨none,0,rfl,⟨Nat.le_refl _,fun _ => rfl⟩,fun j x hj => by simp at hj⟩,fun _ b hb => by cases hb⟩
     have HY:Hid (SwRel w0 D Bo J pre c (d0 :: dr) d0 W (.slice ad1 c.ex.sub.length cap1) (.slice ad2 c.ds.length cap2) (.slice ad c.sub.length cap) (.slice (some ⟨W2.heap.size,0,none⟩) 1 1) (W2.alloc (.cells #[.int .i64 c.d] 3))∨¬ d0≤c.d):=Lib.hid (by
      by_cases hd:d0≤c.d
      ·exact .inl ⟨by rw [HH.out.1,List.append_nil];exact hJ3,hK1.trans hk23,by rw [HH.out.2,if_pos hd];exact hdN,HBX1.out.keptO hPB1 hk23,hPB1.kept hk23⟩
      ·exact .inr hd)
     have HN:Hid (¬ d0≤c.d→SwRel w0 D Bo J pre c (d0 :: dr) d0 W (.slice ad1 c.ex.sub.length cap1) (.slice ad2 c.ds.length cap2) (.slice ad c.sub.length cap) (.slice none 0 0) W2):=Lib.hid fun hd =>
      ⟨by rw [HH.out.1,List.append_nil];exact hJ2,hK1.trans hk2,by rw [HH.out.2,if_neg hd];exact hd0,HBX1.out.keptO hPB1 hk2,hPB1.kept hk2⟩
     clear hJ2 hJ3 hk2 hk3 hk23 hdN hd0 hPN hcN hW2 c0 c1 c2 c3 c4 c5 c6 c7 c8 c9 c10 c11 u0 u1 u2 u3 HCW
     by_cases hd:d0≤c.d
     ·have hY:=HY.out.resolve_right (fun h => h hd)
      have HY2:=Lib.hid hY
      clear HY HN hY
      go_wp2_with fail
      go_meet
      exact HY2.out
     ·have HN2:=Lib.hid (HN.out hd)
      have td:decide (d0≤c.d)=false:=by rw [decide_eq_false_iff_not];exact hd
      clear HY HN
      go_wp2_with fail
      go_meet
      exact HN2.out
    ·have HH:Hid (headEv c (d0 :: dr) d0=[.choice c.fr c.nm (d0 :: dr)]∧innerD c (d0 :: dr) d0=d0 :: dr):=Lib.hid ⟨by unfold headEv;rw [if_neg (by omega),if_neg (by omega),if_pos (by omega)],by unfold innerD;rw [if_neg (by omega),if_neg (by omega)]⟩
     have t2:((c.k:Int) == 2)=false:=by rw [hk];rfl
     have t4:((c.k:Int) == 4)=false:=by rw [hk];rfl
     have t5:((c.k:Int) == 5)=false:=by rw [hk];rfl
     have t6:((c.k:Int) == 6)=false:=by rw [hk];rfl
     have t7:((c.k:Int) == 7)=true:=by rw [hk];rfl
     have t8:((c.k:Int) == 8)=false:=by rw [hk];rfl
     have t9:((c.k:Int) == 9)=false:=by rw [hk];rfl
     have t10:((c.k:Int) == 10)=false:=by rw [hk];rfl
     have hpf2:=HPF.out
     rw [HH.out.1] at hpf2
     clear hk
     go_wp2_with fail
     refine (HCh.out pre c.fr c.nm _ _ W1 hJ1 hbw1 hD1 hdl hdv1 hpf2).mono ?_
     rintro e W2 ⟨rfl,hJ2,hk2⟩
     go_wp2_with fail
     go_meet
     exact ⟨by rw [HH.out.1];exact hJ2,hK1.trans hk2,by rw [HH.out.2];exact hdv1.kept hk2,HBX1.out.keptO hPB1 hk2,hPB1.kept hk2⟩
    ·have HH:Hid (headEv c (d0 :: dr) d0=[.choice c.fr c.nm (laterD c.ds d0)]∧innerD c (d0 :: dr) d0=(laterD c.ds d0)):=Lib.hid ⟨by unfold headEv;rw [if_neg (by omega),if_neg (by omega),if_neg (by omega),if_pos (by omega)],by unfold innerD;rw [if_neg (by omega),if_pos (by omega)]⟩
     have t2:((c.k:Int) == 2)=false:=by rw [hk];rfl
     have t4:((c.k:Int) == 4)=false:=by rw [hk];rfl
     have t5:((c.k:Int) == 5)=false:=by rw [hk];rfl
     have t6:((c.k:Int) == 6)=false:=by rw [hk];rfl
     have t7:((c.k:Int) == 7)=false:=by rw [hk];rfl
     have t8:((c.k:Int) == 8)=true:=by rw [hk];rfl
     have t9:((c.k:Int) == 9)=false:=by rw [hk];rfl
     have t10:((c.k:Int) == 10)=false:=by rw [hk];rfl
     have hpf2:=HPF.out
     rw [HH.out.1] at hpf2
     clear hk
     go_wp2_with fail
     refine (HCh.out pre c.fr c.nm _ _ W1 hJ1 hbw1 hD1 hll hlt1 hpf2).mono ?_
     rintro e W2 ⟨rfl,hJ2,hk2⟩
     go_wp2_with fail
     go_meet
     exact ⟨by rw [HH.out.1];exact hJ2,hK1.trans hk2,by rw [HH.out.2];exact hlt1.kept hk2,HBX1.out.keptO hPB1 hk2,hPB1.kept hk2⟩
    ·have HH:Hid (headEv c (d0 :: dr) d0=[.expr c.ex (laterD c.ds d0)]∧innerD c (d0 :: dr) d0=d0 :: dr):=Lib.hid ⟨by unfold headEv;rw [if_neg (by omega),if_neg (by omega),if_neg (by omega),if_neg (by omega),if_pos (by omega)],by unfold innerD;rw [if_neg (by omega),if_neg (by omega)]⟩
     have t2:((c.k:Int) == 2)=false:=by rw [hk];rfl
     have t4:((c.k:Int) == 4)=false:=by rw [hk];rfl
     have t5:((c.k:Int) == 5)=false:=by rw [hk];rfl
     have t6:((c.k:Int) == 6)=false:=by rw [hk];rfl
     have t7:((c.k:Int) == 7)=false:=by rw [hk];rfl
     have t8:((c.k:Int) == 8)=false:=by rw [hk];rfl
     have t9:((c.k:Int) == 9)=true:=by rw [hk];rfl
     have t10:((c.k:Int) == 10)=false:=by rw [hk];rfl
     have hpf2:=HPF.out
     rw [HH.out.1] at hpf2
     clear hk
     go_wp2_with fail
     refine (HEx.out pre c.ex _ _ _ W1 hJ1 hbw1 hD1 hr.1 hxb hll hlt1 hpf2).mono ?_
     rintro e W2 ⟨rfl,hJ2,hk2⟩
     go_wp2_with fail
     go_meet
     exact ⟨by rw [HH.out.1];exact hJ2,hK1.trans hk2,by rw [HH.out.2];exact hdv1.kept hk2,HBX1.out.keptO hPB1 hk2,hPB1.kept hk2⟩
    ·have HH:Hid (headEv c (d0 :: dr) d0=[.expr c.ex (laterD c.ds d0)]∧innerD c (d0 :: dr) d0=(laterD c.ds d0)):=Lib.hid ⟨by unfold headEv;rw [if_neg (by omega),if_neg (by omega),if_neg (by omega),if_neg (by omega),if_pos (by omega)],by unfold innerD;rw [if_neg (by omega),if_pos (by omega)]⟩
     have t2:((c.k:Int) == 2)=false:=by rw [hk];rfl
     have t4:((c.k:Int) == 4)=false:=by rw [hk];rfl
     have t5:((c.k:Int) == 5)=false:=by rw [hk];rfl
     have t6:((c.k:Int) == 6)=false:=by rw [hk];rfl
     have t7:((c.k:Int) == 7)=false:=by rw [hk];rfl
     have t8:((c.k:Int) == 8)=false:=by rw [hk];rfl
     have t9:((c.k:Int) == 9)=false:=by rw [hk];rfl
     have t10:((c.k:Int) == 10)=true:=by rw [hk];rfl
     have hpf2:=HPF.out
     rw [HH.out.1] at hpf2
     clear hk
     go_wp2_with fail
     refine (HEx.out pre c.ex _ _ _ W1 hJ1 hbw1 hD1 hr.1 hxb hll hlt1 hpf2).mono ?_
     rintro e W2 ⟨rfl,hJ2,hk2⟩
     go_wp2_with fail
     go_meet
     exact ⟨by rw [HH.out.1];exact hJ2,hK1.trans hk2,by rw [HH.out.2];exact hlt1.kept hk2,HBX1.out.keptO hPB1 hk2,hPB1.kept hk2⟩
    ·have HH:Hid (headEv c (d0 :: dr) d0=[]∧innerD c (d0 :: dr) d0=d0 :: dr):=Lib.hid ⟨by unfold headEv;rw [if_neg (by omega),if_neg (by omega),if_neg (by omega),if_neg (by omega),if_neg (by omega)],by unfold innerD;rw [if_neg (by omega),if_neg (by omega)]⟩
     have t2:((c.k:Int) == 2)=false:=by simp;omega
     have t4:((c.k:Int) == 4)=false:=by simp;omega
     have t5:((c.k:Int) == 5)=false:=by simp;omega
     have t6:((c.k:Int) == 6)=false:=by simp;omega
     have t7:((c.k:Int) == 7)=false:=by simp;omega
     have t8:((c.k:Int) == 8)=false:=by simp;omega
     have t9:((c.k:Int) == 9)=false:=by simp;omega
     have t10:((c.k:Int) == 10)=false:=by simp;omega
     have hpf2:=HPF.out
     rw [HH.out.1] at hpf2
     clear hk
     go_wp2_with fail
     go_meet
     exact ⟨by rw [HH.out.1,List.append_nil];exact hJ1,hK1,by rw [HH.out.2];exact hdv1,HBX1.out,hPB1⟩
   case rest =>
    obtain ⟨hJc,hKc,hdc,hBXc,hPBc⟩:=hcut
    have hil:(innerD c (d0 :: dr) d0).length≤2000000:=innerD_len c (d0 :: dr) d0 hdl hcdl (by omega)
    have HPF2:Hid (pre ++ headEv c (d0 :: dr) d0 ++ Con.evss c.sub (innerD c (d0 :: dr) d0) <+: full):=Lib.hid (by
     rw [Con.evs_cons,← List.append_assoc] at hpf;exact hpf)
    have HFin:Hid (pre ++ headEv c (d0 :: dr) d0 ++ Con.evss c.sub (innerD c (d0 :: dr) d0)=pre ++ c.evs (d0 :: dr)):=Lib.hid (by rw [Con.evs_cons,List.append_assoc])
    have HRi:=Lib.hid (fun k y hy => Con.rising_sub hri (k:=k) (y:=y) hy)
    have HRS:=Lib.hid hr.2.2.1
    have HIH:=Lib.hid ih
    have hlen:=Con.bulks_len c.sub
    have hlt0:=c.sub_lt
    have hn:c.sub.length≤2000000:=by omega
    obtain ⟨ad7,cap7,rfl⟩:=hdc.1.len
    generalize pre ++ headEv c (d0 :: dr) d0=PH at *
    generalize innerD c (d0 :: dr) d0=IN at *
    obtain ⟨e0,e1,e2,e3,e4,e5,e6,e7,e8,e9,e10,e11⟩:=hBXc
    have hlB2:W.heap.size < wc.heap.size:=World.block_lt_of_cell? wc _ e0
    have HDV:=Lib.hid (And.intro hdc (And.intro hpv hpw))
    have HJ0:Hid (J (PH ++ Con.evss (c.sub.take 0) IN) wc):=Lib.hid (by simpa [Con.evss] using hJc)
    clear ih hri hpf HPF HBX1 HEx HCh HPy hee hec hep u0 u1 u2 u3 hJ1 hK1 hdv1 hpv1 hpw1 hPB1 hlt1 c0 c1 c2 c3 c4 c5 c6 c7 c8 c9 c10 c11 hJc hdc hbA hdsr hob hbo hcdl hxb hll hlv hlw hbw1 hD1 hlB hbo0
    go_wp2
    go_loopw [95] (fun i wr => ∃ k:Nat,k≤c.sub.length∧i = .int .i64 (k:Int)∧Hid (J (PH ++ Con.evss (c.sub.take k) IN) wr)∧KeptO w0.heap.size D Bo wc wr) (fun i _ => c.sub.length - (intOf i).toNat)
    case atStart => exact ⟨0,Nat.zero_le _,rfl,HJ0,KeptO.refl _⟩
    case round =>
     clear HJ0 e0 e1 e2 e3 e4 e5 e6 e7 e8 e9 e10 e11 hlB2
     obtain ⟨k,hk,rfl,HJr,hkr⟩:=hrel
     by_cases hlt:k < c.sub.length
     ·obtain ⟨y,hyk⟩:∃ y,c.sub[k]? = some y:=⟨_,List.getElem?_eq_getElem hlt⟩
      have hkW:=hKc.trans hkr
      obtain ⟨u0,u1,u2,u3,hlv,hlw,hbwr,hDr⟩:=HVC.out wr hkW
      obtain ⟨b,off,es',dd',ss',rfl,⟨c0,c1,c2,c3,c4,c5,c6,c7,c8,c9,c10,c11⟩,hs0⟩:=HRS.out.cells hyk
      have lift:∀ o u,w0.cell? ⟨b,o,none⟩=some u→wr.cell? ⟨b,o,none⟩=some u:=fun o u h => by
       rw [hbwr.cell (p:=⟨b,o,none⟩) (World.block_lt_of_cell? w0 _ h)];exact h
      replace c0:=lift _ _ c0
      replace c1:=lift _ _ c1
      replace c2:=lift _ _ c2
      replace c3:=lift _ _ c3
      replace c4:=lift _ _ c4
      replace c5:=lift _ _ c5
      replace c6:=lift _ _ c6
      replace c7:=lift _ _ c7
      replace c8:=lift _ _ c8
      replace c9:=lift _ _ c9
      replace c10:=lift _ _ c10
      replace c11:=lift _ _ c11
      clear lift
      obtain ⟨ad',cap',rfl⟩:=hs0.2.2.1.len
      obtain ⟨ad1',cap1',rfl⟩:=hs0.1.len
      obtain ⟨ad2',cap2',rfl⟩:=hs0.2.1.len
      have hym:=Con.mem_lt (List.mem_of_getElem? hyk)
      have hblk:b < wr.heap.size:=World.block_lt_of_cell? wr _ c0
      have hk1:(0:Int)≤(k:Int):=by omega
      have hk2:(k:Int) < (c.sub.length:Int):=by omega
      have hbor:=hV.box _ _ HJr.out
      have hzr:=hbwr.size
      have hka:KeptO w0.heap.size D Bo wr (wr.alloc (.cells #[.int .u8 y.k,.string y.fr,.string y.rc,.string y.nm,.int .u8 y.ex.k,.string y.ex.ra,.string y.ex.nm,.int .i64 y.ex.d,.slice ad1' y.ex.sub.length cap1',.int .i64 y.d,.slice ad2' y.ds.length cap2',.slice ad' y.sub.length cap'] 29)):=KeptO.of_below hzr hbor (below_a1 _ _)
      have hJa:=hV.frame _ _ _ HJr.out (below_a1 wr (.cells #[.int .u8 y.k,.string y.fr,.string y.rc,.string y.nm,.int .u8 y.ex.k,.string y.ex.ra,.string y.ex.nm,.int .i64 y.ex.d,.slice ad1' y.ex.sub.length cap1',.int .i64 y.d,.slice ad2' y.ds.length cap2',.slice ad' y.sub.length cap'] 29))
      have hkA:=hkr.trans hka
      have hkAW:=hKc.trans hkA
      obtain ⟨x0,x1,x2,x3,_,_,hbwa,hDa⟩:=HVC.out _ hkAW
      have HSn:=Lib.hid (Con.evss_snoc hyk IN)
      have hpfy:PH ++ Con.evss (c.sub.take k) IN ++ y.evs IN <+: full:=by
       obtain ⟨r,hr⟩:=Con.evss_take hyk IN
       obtain ⟨r2,hr2⟩:=HPF2.out
       exact ⟨r ++ r2,by rw [← hr2,hr];simp [List.append_assoc]⟩
      have HC:=Lib.hid (HIH.out y _ _ _ IN _ (PH ++ Con.evss (c.sub.take k) IN) _ (by omega) (by omega) (HRi.out k y hyk) hil hs0 hbwa hDa hJa (HDV.out.1.kept hkA) hpfy (HDV.out.2.1.kept hkAW) (HDV.out.2.2.kept hkAW) x0 x1 x2 x3)
      unfold Con.val at HC
      have HKA:=Lib.hid hkA
      clear hyk hym hs0 hpfy hJa hka hkA hkAW hkW hbwa hDa x0 x1 x2 x3
      go_wp2_with fail
      refine HC.out.mono ?_
      rintro e W4 ⟨rfl,hJ4,hk4⟩
      have HJ4:Hid (J (PH ++ Con.evss (c.sub.take (k+1)) IN) W4):=Lib.hid (by rw [HSn.out,← List.append_assoc];exact hJ4)
      have hk5:=HKA.out.trans hk4
      clear hJ4 hk4 HC c0 c1 c2 c3 c4 c5 c6 c7 c8 c9 c10 c11 u0 u1 u2 u3
      go_wp2
      go_roundw
      case rel =>
       exact ⟨k+1,by omega,by go_num,HJ4,hk5⟩
      case measure => simp [intOf];omega
     ·obtain rfl:k=c.sub.length:=by omega
      have HF:Hid (J (pre ++ c.evs (d0 :: dr)) wr∧KeptO w0.heap.size D Bo W wr):=Lib.hid ⟨by
       have h:=HJr.out
       rw [List.take_length,HFin.out] at h
       exact h,hKc.trans hkr⟩
      go_wp2
      go_end0
      exact ⟨rfl,HF.out.1,HF.out.2⟩
end Go.Proofs.YtcnpaciljmekcaaGreatDoor

namespace Go.Proofs.YtcnpaciljmekcaaGreatDoor
open Go.RowKit
theorem nodeOk_rising {c:Con} (h:nodeOk c=true):c.ds.Pairwise (· < ·):=by
 have key:isDays c.ds=true∨c.ds.length=0:=by
  unfold nodeOk at h
  simp only [] at h
  repeat' split at h
  all_goals simp only [Bool.and_eq_true,decide_eq_true_eq,Bool.false_eq_true] at h
  all_goals simp [h]
 rcases key with h | h
 ·unfold isDays at h
  simp only [Bool.and_eq_true,decide_eq_true_eq] at h
  exact h.2.2.2
 ·rw [List.eq_nil_of_length_eq_zero h];exact List.Pairwise.nil
theorem Con.err_rising {c:Con} (h:c.err=0):c.rising:=fun x hx => by
 unfold Con.err at h
 split at h
 ·omega
 ·split at h
  ·next hf =>
   rw [Con.formed_nodes,List.all_eq_true] at hf
   exact nodeOk_rising (hf x hx)
  ·omega
noncomputable def visErr (c:Con) (day:Int):Int:=if c.err=0 then (if isDay day=true then 0 else 2) else c.err
noncomputable def visEvs (c:Con) (day:Int):List Ev:=if visErr c day=0 then c.evs [day] else []
set_option maxHeartbeats 4000000 in
set_option maxRecDepth 100000 in
theorem visit_any (w0:World) (D Bo:Nat) (c:Con) (es dd ss:Value) (day:Int) (J:List Ev→World→Prop) (fe fc fp:Nat) (ce cc cp:Array Value) (hV:VisOk w0 D Bo (c.evs [day]) J fe fc fp ce cc cp)
  (W:World) (hB:c.bulk≤2000000) (hr:RdN w0 c es dd ss) (hS:LookS w0) (hP:LookP w0) (hbW:Below w0.heap.size w0 W) (hDW:D≤W.heap.size) (hJ:J [] W) :
  Calls Tryz.prog 50 #[c.val es dd ss,.int .i64 day,.agg #[.func (.func fe) #[] ce,.func (.func fc) #[] cc,.func (.func fp) #[] cp]] W fun e W' =>
   e = .returned (.int .i64 (visErr c day))∧J (visEvs c day) W'∧KeptO w0.heap.size D Bo W W':=by
 obtain ⟨ad,cap,rfl⟩:=hr.2.2.1.len
 obtain ⟨ad1,cap1,rfl⟩:=hr.1.len
 obtain ⟨ad2,cap2,rfl⟩:=hr.2.1.len
 have hbo:=hV.box _ _ hJ
 have hob:=hV.own _ _ hJ
 have hb2:=below_a2 W (.cells #[.int .u8 c.k,.string c.fr,.string c.rc,.string c.nm,.int .u8 c.ex.k,.string c.ex.ra,.string c.ex.nm,.int .i64 c.ex.d,.slice ad1 c.ex.sub.length cap1,.int .i64 c.d,.slice ad2 c.ds.length cap2,.slice ad c.sub.length cap] 29) (.cells #[.func (.func fe) #[] ce,.func (.func fc) #[] cc,.func (.func fp) #[] cp] 94)
 have hw2:=hbW.trans (hb2.mono hbW.size)
 have HCk:=Lib.hid (cchk_any c _ _ _ _ hB (hr.frame hw2) (hS.frame hw2) (hP.frame hw2))
 have HBX:=(CBox.new W c (.slice ad1 c.ex.sub.length cap1) (.slice ad2 c.ds.length cap2) (.slice ad c.sub.length cap) 29).low (below_a1 _ (.cells #[.func (.func fe) #[] ce,.func (.func fc) #[] cc,.func (.func fp) #[] cp] 94))
 have HRi:=Lib.hid (@Con.err_rising c)
 have HR:=Lib.hid hr
 unfold Con.val at HCk ⊢
 go_enter Tryz.func50,Tryz.ntmps50
 go_wp2_with fail
 refine HCk.out.mono ?_
 rintro e W1 ⟨rfl,hb1⟩
 have hz1:=hb1.size
 simp only [World.size_alloc] at hz1
 have hbA:Below W.heap.size W W1:=hb2.trans (hb1.mono (by simp;omega))
 have hJ1:=hV.frame _ _ _ hJ hbA
 have hk1:KeptO w0.heap.size D Bo W W1:=KeptO.of_below hbW.size hbo hbA
 have hbw1:=hbW.trans hk1.below
 obtain ⟨c0,c1,c2,c3,c4,c5,c6,c7,c8,c9,c10,c11⟩:=HBX.low hb1
 have hpv1:Prv D Bo W1 (W.heap.size+1):=by
  have h1:=Prv.new (D:=D) (W:=W.alloc (.cells #[.int .u8 c.k,.string c.fr,.string c.rc,.string c.nm,.int .u8 c.ex.k,.string c.ex.ra,.string c.ex.nm,.int .i64 c.ex.d,.slice ad1 c.ex.sub.length cap1,.int .i64 c.d,.slice ad2 c.ds.length cap2,.slice ad c.sub.length cap] 29)) (by rw [World.size_alloc];omega) (by rw [World.size_alloc];omega) (fun b hb => hV.own _ _ (hV.frame _ _ _ hJ (below_a1 _ _)) b hb) (.cells #[.func (.func fe) #[] ce,.func (.func fc) #[] cc,.func (.func fp) #[] cp] 94)
  rw [World.size_alloc] at h1
  exact h1.low (hV.box _ _ (hV.frame _ _ _ hJ hb2)) hb1
 have v0:W1.cell? ⟨W.heap.size+1,0,none⟩=some (.func (.func fe) #[] ce):=by rw [hb1.cell (p:=⟨W.heap.size+1,0,none⟩) (by simp)];go_simp
 have v1:W1.cell? ⟨W.heap.size+1,1,none⟩=some (.func (.func fc) #[] cc):=by rw [hb1.cell (p:=⟨W.heap.size+1,1,none⟩) (by simp)];go_simp
 have v2:W1.cell? ⟨W.heap.size+1,2,none⟩=some (.func (.func fp) #[] cp):=by rw [hb1.cell (p:=⟨W.heap.size+1,2,none⟩) (by simp)];go_simp
 clear HCk hb1 hb2 hw2 HBX
 by_cases hE:c.err=0
 ·by_cases hd:isDay day=true
  ·have HF:Hid (visErr c day=0∧visEvs c day=c.evs [day]):=Lib.hid (by
    have h:visErr c day=0:=by unfold visErr;rw [if_pos hE,if_pos hd]
    exact ⟨h,by unfold visEvs;rw [if_pos h]⟩)
   have hri:=HRi.out hE
   have hd1:0≤day:=by have h:=hd;unfold isDay at h;simp at h;exact h.1
   have hd2:day≤99999:=by have h:=hd;unfold isDay at h;simp at h;exact h.2
   have t1:decide (day < 0)=false:=by rw [decide_eq_false_iff_not];omega
   have t2:decide ((99999:Int) < day)=false:=by rw [decide_eq_false_iff_not];omega
   have hbo1:=hV.box _ _ hJ1
   have hob1:=hV.own _ _ hJ1
   have hD1:D≤W1.heap.size:=by omega
   have ha1:=below_a1 W1 (.cells #[.func (.func 97) #[] #[.pointer (some ⟨W.heap.size+1,0,none⟩),.pointer (some ⟨W1.heap.size,0,none⟩)]] 155)
   have ha2:=below_a1 (W1.alloc (.cells #[.func (.func 97) #[] #[.pointer (some ⟨W.heap.size+1,0,none⟩),.pointer (some ⟨W1.heap.size,0,none⟩)]] 155)) (.cells #[.int .i64 day] 3)
   have ha3:=below_a2 W1 (.cells #[.func (.func 97) #[] #[.pointer (some ⟨W.heap.size+1,0,none⟩),.pointer (some ⟨W1.heap.size,0,none⟩)]] 155) (.cells #[.int .i64 day] 3)
   have hJ2:=hV.frame _ _ _ hJ1 ha1
   have hJ3:=hV.frame _ _ _ hJ1 ha3
   have hk3:KeptO w0.heap.size D Bo W1 ((W1.alloc (.cells #[.func (.func 97) #[] #[.pointer (some ⟨W.heap.size+1,0,none⟩),.pointer (some ⟨W1.heap.size,0,none⟩)]] 155)).alloc (.cells #[.int .i64 day] 3)):=KeptO.of_below hbw1.size hbo1 ha3
   have hpw2:=(Prv.new hD1 hbo1 hob1 (.cells #[.func (.func 97) #[] #[.pointer (some ⟨W.heap.size+1,0,none⟩),.pointer (some ⟨W1.heap.size,0,none⟩)]] 155)).low (hV.box _ _ hJ2) ha2
   have hpd:=Prv.new (D:=D) (W:=W1.alloc (.cells #[.func (.func 97) #[] #[.pointer (some ⟨W.heap.size+1,0,none⟩),.pointer (some ⟨W1.heap.size,0,none⟩)]] 155)) (by rw [World.size_alloc];omega) (hV.box _ _ hJ2) (hV.own _ _ hJ2) (.cells #[.int .i64 day] 3)
   rw [World.size_alloc] at hpd
   have hdv:DaysAt w0.heap.size D Bo ((W1.alloc (.cells #[.func (.func 97) #[] #[.pointer (some ⟨W.heap.size+1,0,none⟩),.pointer (some ⟨W1.heap.size,0,none⟩)]] 155)).alloc (.cells #[.int .i64 day] 3)) [day] (.slice (some ⟨W1.heap.size+1,0,none⟩) 1 1) :=
    ⟨⟨_,_,rfl,⟨Nat.le_refl _,fun h => by cases h⟩,fun j x hj => by
     cases j with
     | zero => cases hj;exact ⟨_,_,rfl,by go_simp⟩
     | succ j => simp at hj⟩,fun _ b hb => by cases hb;exact .inr hpd⟩
   have HW:=Lib.hid (vwalk_any w0 D Bo (W.heap.size+1) W1.heap.size (c.evs [day]) J fe fc fp ce cc cp hV c.bulk c _ _ _ [day] _ [] _ (Nat.le_refl _) hB hri (by simp) HR.out (hbw1.trans hk3.below) (Nat.le_trans hD1 ha3.size) hJ3 hdv (by simp) (hpv1.kept hk3) hpw2
    (hpv1.cell hk3 v0) (hpv1.cell hk3 v1) (hpv1.cell hk3 v2) (by go_simp))
   unfold Con.val at HW
   have HK3:=Lib.hid (hk1.trans hk3)
   have hlB:W.heap.size < W1.heap.size:=by omega
   rw [hE]
   clear hri hd hJ1 hJ2 hJ3 hk3 hpw2 hpd hdv ha1 ha2 ha3 hpv1 v0 v1 v2 hE hob1 HR HRi
   go_wp2_with fail
   refine HW.out.mono ?_
   rintro e W3 ⟨rfl,hJ4,hk4⟩
   have HJ4:Hid (J (c.evs [day]) W3):=Lib.hid (by simpa using hJ4)
   have HK4:=Lib.hid (HK3.out.trans hk4)
   clear hJ4 hk4 HW c0 c1 c2 c3 c4 c5 c6 c7 c8 c9 c10 c11
   go_wp2_with fail
   go_ret
   exact ⟨by rw [HF.out.1];rfl,by rw [HF.out.2];exact HJ4.out,HK4.out⟩
  ·have HF:Hid (visErr c day=2∧visEvs c day=[]):=Lib.hid (by
    have h:visErr c day=2:=by unfold visErr;rw [if_pos hE,if_neg hd]
    exact ⟨h,by unfold visEvs;rw [h];rfl⟩)
   have HD:=Lib.hid hd
   rw [hE]
   clear hd v0 v1 v2 hE
   by_cases hd1:day < 0
   ·go_wp2_with fail
    go_ret
    exact ⟨by rw [HF.out.1];rfl,by rw [HF.out.2];exact hJ1,hk1⟩
   ·have hd2:(99999:Int) < day:=by
     have h:=HD.out
     unfold isDay at h
     simp at h
     omega
    have t1:decide (day < 0)=false:=by rw [decide_eq_false_iff_not];exact hd1
    go_wp2_with fail
    go_ret
    exact ⟨by rw [HF.out.1];rfl,by rw [HF.out.2];exact hJ1,hk1⟩
 ·have HF:Hid (visErr c day=c.err∧visEvs c day=[]):=Lib.hid (by
   have h:visErr c day=c.err:=by unfold visErr;rw [if_neg hE]
   exact ⟨h,by unfold visEvs;rw [h,if_neg hE]⟩)
  have t1:(c.err != 0)=true:=by simpa using hE
  clear v0 v1 v2
  generalize c.err=E at *
  go_wp2_with fail
  go_ret
  exact ⟨by rw [HF.out.1];rfl,by rw [HF.out.2];exact hJ1,hk1⟩
end Go.Proofs.YtcnpaciljmekcaaGreatDoor

namespace Go.Proofs.YtcnpaciljmekcaaGreatDoor
open Go.RowKit
def fewErr (e:Int) (n:Nat):Int:=if e=0 then (if 1000 < n then 4 else 0) else e
theorem fewErr_ok {e:Int} {n:Nat} (h:e=0) (hn:n≤1000):fewErr e n=0:=by unfold fewErr;rw [if_pos h,if_neg (by omega)]
theorem fewErr_many {e:Int} {n:Nat} (h:e=0) (hn : ¬ n≤1000):fewErr e n=4:=by unfold fewErr;rw [if_pos h,if_pos (by omega)]
theorem fewErr_err {e:Int} {n:Nat} (h:e ≠ 0):fewErr e n=e:=by unfold fewErr;rw [if_neg h]
def fewV (e:Int) (v:Value) (n:Nat):Value:=if fewErr e n=0 then v else .slice none 0 0
theorem fewV_ok {e:Int} {v:Value} {n:Nat} (h:fewErr e n=0):fewV e v n=v:=if_pos h
theorem fewV_err {e:Int} {v:Value} {n:Nat} (h:fewErr e n ≠ 0):fewV e v n = .slice none 0 0:=if_neg h
set_option maxRecDepth 100000 in
theorem fewN_any (ad:Option Addr) (n cap:Nat) (e:Int) (w:World):Calls Tryz.prog 68 #[.slice ad n cap,.int .i64 e] w fun r w' => r = .returned (.tuple #[fewV e (.slice ad n cap) n,.int .i64 (fewErr e n)])∧w=w':=by
 by_cases he:e=0
 ·by_cases hn:n≤1000
  ·have HF:=Lib.hid (fewErr_ok he hn)
   subst he
   have h1:decide ((1000:Int) < (n:Int))=false:=by rw [decide_eq_false_iff_not];omega
   go_enter Tryz.func68,Tryz.ntmps68
   go_wp2
   go_ret2
   rw [fewV_ok HF.out,HF.out]
   exact ⟨rfl,rfl⟩
  ·have HF:=Lib.hid (fewErr_many he hn)
   subst he
   have h1:decide ((1000:Int) < (n:Int))=true:=by rw [decide_eq_true_eq];omega
   go_enter Tryz.func68,Tryz.ntmps68
   go_wp2
   go_ret2
   rw [fewV_err (by rw [HF.out];decide),HF.out]
   exact ⟨rfl,rfl⟩
 ·have HF:=Lib.hid (fewErr_err (n:=n) he)
  have He:=Lib.hid he
  go_enter Tryz.func68,Tryz.ntmps68
  go_wp2
  go_ret2
  rw [fewV_err (by rw [HF.out];exact He.out),HF.out]
  exact ⟨rfl,rfl⟩
end Go.Proofs.YtcnpaciljmekcaaGreatDoor
