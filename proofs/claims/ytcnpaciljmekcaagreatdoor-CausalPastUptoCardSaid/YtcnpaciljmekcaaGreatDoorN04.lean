/- A part. -/
import Derived.Test.YtcnpaciljmekcaaGreatDoorN03
namespace Go.Proofs.YtcnpaciljmekcaaGreatDoor
open Go.RowKit
noncomputable def nErr (c:Con) (day:Int):Int:=fewErr (visErr c day) (uniq ndLt (evNs (visEvs c day))).length
noncomputable def nSet (c:Con) (day:Int):List NdP:=if nErr c day=0 then uniq ndLt (evNs (visEvs c day)) else []
theorem visEvs_prefix (c:Con) (day:Int):visEvs c day <+: c.evs [day]:=by
 unfold visEvs
 split
 ·exact List.prefix_refl _
 ·exact List.nil_prefix
theorem ownsRow_shape {w:World} {base:Nat} {e:TypeId} {size:Nat} {v:Value} {n:Nat} {xs:List Value} (h:w.ownsRow base e size v n xs):∃ ad cap,v = .slice ad n cap:=by
 rcases h.2 with ⟨rfl,rfl⟩ | ⟨g,cap,_,rfl,_⟩ <;> exact ⟨_,_,rfl⟩
set_option maxHeartbeats 4000000 in
set_option maxRecDepth 100000 in
theorem needs_any (c:Con) (es dd ss:Value) (day:Int) (W:World) (hB:c.bulk≤2000000) (hr:RdN W c es dd ss) (hS:LookS W) (hP:LookP W) :
  Calls Tryz.prog 26 #[c.val es dd ss,.int .i64 day] W fun e W' => ∃ v,e = .returned (.tuple #[v,.int .i64 (nErr c day)]) ∧
   W'.ownsRow W.heap.size 81 2 v (nSet c day).length ((nSet c day).flatMap ndCells)∧Below W.heap.size W W':=by
 obtain ⟨ad,cap,rfl⟩:=hr.2.2.1.len
 obtain ⟨ad1,cap1,rfl⟩:=hr.1.len
 obtain ⟨ad2,cap2,rfl⟩:=hr.2.1.len
 have hV:=needs_vis W (W.heap.size+1+1) (W.heap.size+1) c day hB (by omega) (by omega)
 have HVis:=Lib.hid fun (W2:World) => visit_any W (W.heap.size+1+1) (W.heap.size+1) c _ _ _ day _ _ _ _ _ _ _ hV W2 hB hr hS hP
 unfold Con.val at HVis ⊢
 clear hr hS hP hV
 go_enter Tryz.func26,Tryz.ntmps26
 go_wp2_with fail
 refine (silent_any _).mono ?_
 rintro e w1 ⟨rfl,hb1⟩
 have hz1:=hb1.size
 simp only [World.size_alloc] at hz1
 have hl0:W.heap.size < w1.heap.size:=by omega
 have hb2:=below_a2 W (.cells #[.int .u8 c.k,.string c.fr,.string c.rc,.string c.nm,.int .u8 c.ex.k,.string c.ex.ra,.string c.ex.nm,.int .i64 c.ex.d,.slice ad1 c.ex.sub.length cap1,.int .i64 c.d,.slice ad2 c.ds.length cap2,.slice ad c.sub.length cap] 29) (.cells #[.slice none 0 0] 63)
 obtain ⟨c0,c1,c2,c3,c4,c5,c6,c7,c8,c9,c10,c11⟩:=((CBox.new W c (.slice ad1 c.ex.sub.length cap1) (.slice ad2 c.ds.length cap2) (.slice ad c.sub.length cap) 29).low (below_a1 _ (.cells #[.slice none 0 0] 63))).low hb1
 have hrow0:NRow W.heap.size (W.heap.size+1) [] ((W.alloc (.cells #[.int .u8 c.k,.string c.fr,.string c.rc,.string c.nm,.int .u8 c.ex.k,.string c.ex.ra,.string c.ex.nm,.int .i64 c.ex.d,.slice ad1 c.ex.sub.length cap1,.int .i64 c.d,.slice ad2 c.ds.length cap2,.slice ad c.sub.length cap] 29)).alloc (.cells #[.slice none 0 0] 63)) :=
  ⟨.slice none 0 0,by have:=Boxed.new (W.alloc (.cells #[.int .u8 c.k,.string c.fr,.string c.rc,.string c.nm,.int .u8 c.ex.k,.string c.ex.ra,.string c.ex.nm,.int .i64 c.ex.d,.slice ad1 c.ex.sub.length cap1,.int .i64 c.d,.slice ad2 c.ds.length cap2,.slice ad c.sub.length cap] 29)) 63 (.slice none 0 0);rwa [World.size_alloc] at this,World.ownsRow_nil _ _ _ _⟩
 have hb3:=below_a1 w1 (.cells #[.func (.func 66) #[] #[.pointer (some ⟨W.heap.size+1,0,none⟩)],.func (.func 95) #[] #[],.func (.func 96) #[] #[]] 94)
 have hrow3:=(hrow0.frame hb1).frame hb3
 have hbA:=(hb2.trans (hb1.mono (by simp;omega))).trans (hb3.mono (by omega))
 have HBA:=Lib.hid hbA
 have HV:=Lib.hid (HVis.out _ hbA (by rw [World.size_alloc];omega) ⟨hrow3,by rw [World.size_alloc];omega⟩)
 clear hb1 hb2 hb3 hrow0 hrow3 hbA hz1 HVis
 go_wp2_with fail
 refine HV.out.mono ?_
 rintro e w3 ⟨rfl,hJ,hk⟩
 obtain ⟨⟨v,hbv,hown⟩,hz3⟩:=hJ
 have hlen:=(Con.found_len c day hB (visEvs_prefix c day)).1
 have hcv:=hbv.cell
 have hbF:Below W.heap.size W w3:=HBA.out.trans hk.below
 have HC:=Lib.hid fun (w4:World) (hb:Below w3.drew.heap.size w3.drew w4) => (hb.cell (p:=⟨W.heap.size+1,0,none⟩) hbv.lt).trans hcv
 have HO:=Lib.hid fun (w4:World) (hb:Below w3.drew.heap.size w3.drew w4) => (ownsRow_below' (hown.drew) hb)
 have HZ:=Lib.hid fun (w4:World) (hb:Below w3.drew.heap.size w3.drew w4) => Nat.le_trans hz3 hb.size
 have HB:=Lib.hid fun (w4:World) (hb:Below w3.drew.heap.size w3.drew w4) => hbF.drew.trans (hb.mono hz3)
 have HL:=Lib.hid hlen
 obtain ⟨LN,hLN⟩:∃ LN,evNs (visEvs c day)=LN:=⟨_,rfl⟩
 obtain ⟨ve,hve⟩:∃ ve,visErr c day=ve:=⟨_,rfl⟩
 have HE:Hid (nErr c day=fewErr ve (uniq ndLt LN).length∧nSet c day=if fewErr ve (uniq ndLt LN).length=0 then uniq ndLt LN else []):=Lib.hid (by
  unfold nSet
  have:nErr c day=fewErr ve (uniq ndLt LN).length:=by unfold nErr;rw [hLN,hve]
  rw [this,hLN]
  exact ⟨rfl,rfl⟩)
 rw [hLN] at HL HO
 rw [hve]
 clear hbv hown hk hz3 hlen hbF hLN hve HV HBA
 go_wp2_with fail
 go_region_with (first
  | (go_at_call 70;refine (ndOrder_any _).mono ?_;rintro e w4 ⟨rfl,hb4⟩;have hc4:=HC.out w4 hb4;have ho4:=HO.out w4 hb4)
  | (go_at_call 69;refine (uniqN_any W.heap.size LN _ _ ho4 HL.out (HZ.out _ hb4)).mono ?_;rintro e w5 ⟨v5,rfl,h5,hb5⟩;obtain ⟨adU,capU,rfl⟩:=ownsRow_shape h5)
  | (go_at_call 68;refine (fewN_any _ _ _ _ _).mono ?_;rintro e w6 ⟨rfl,rfl⟩))
 all_goals
  go_wp2
  go_ret2
  rw [HE.out.1,HE.out.2]
  refine ⟨_,rfl,?_,(HB.out _ hb4).trans hb5⟩
  by_cases hf:fewErr ve (uniq ndLt LN).length=0
  ·rw [if_pos hf,fewV_ok hf];exact h5
  ·rw [if_neg hf,fewV_err hf];exact World.ownsRow_nil _ _ _ _
end Go.Proofs.YtcnpaciljmekcaaGreatDoor

namespace Go.Proofs.YtcnpaciljmekcaaGreatDoor
open Go.RowKit
set_option maxHeartbeats 2000000 in
set_option maxRecDepth 100000 in
theorem latex_any (w0:World) (D Bo:Nat) (b0:Bool) (x:Ex) (s:Value) (ds:List Int) (v:Value) (W:World) (hBo:w0.heap.size≤Bo) (hBD:Bo < D) (hB:x.bulk≤2000000)
  (hR:Boxed W Bo 4 (.bool b0)) (hbW:Below w0.heap.size w0 W) (hDW:D≤W.heap.size) (hs:RdE w0 x.sub s) (hdv:DaysAt w0.heap.size D Bo W ds v) :
  Calls Tryz.prog 58 #[x.val s,v,.pointer (some ⟨Bo,0,none⟩)] W fun e W' => e = .returned (.tuple #[])∧Boxed W' Bo 4 (.bool (b0 || x.nodes.any (xLate ds)))∧KeptO w0.heap.size D Bo W W':=by
 obtain ⟨ad,cap,rfl⟩:=hs.len
 obtain ⟨adv,capv,rfl⟩:=hdv.1.len
 have hbo:=hR.lt
 have hb1:=below_a1 W (.cells #[.int .u8 x.k,.string x.ra,.string x.nm,.int .i64 x.d,.slice ad x.sub.length cap] 25)
 have hb2:=below_a2 W (.cells #[.int .u8 x.k,.string x.ra,.string x.nm,.int .i64 x.d,.slice ad x.sub.length cap] 25) (.cells #[.slice adv ds.length capv] 26)
 have hR1:=Boxed.low hR hb1
 have hR2:=Boxed.low hR hb2
 have hk2:KeptO w0.heap.size D Bo W ((W.alloc (.cells #[.int .u8 x.k,.string x.ra,.string x.nm,.int .i64 x.d,.slice ad x.sub.length cap] 25)).alloc (.cells #[.slice adv ds.length capv] 26)):=KeptO.of_below hbW.size hbo hb2
 have hpd:=Prv.new (D:=D) (W:=W.alloc (.cells #[.int .u8 x.k,.string x.ra,.string x.nm,.int .i64 x.d,.slice ad x.sub.length cap] 25)) (by rw [World.size_alloc];omega) hR1.lt (fun b hb => absurd hb (notOwn_bool hR1 b)) (.cells #[.slice adv ds.length capv] 26)
 rw [World.size_alloc] at hpd
 have hcd:((W.alloc (.cells #[.int .u8 x.k,.string x.ra,.string x.nm,.int .i64 x.d,.slice ad x.sub.length cap] 25)).alloc (.cells #[.slice adv ds.length capv] 26)).cell? ⟨W.heap.size+1,0,none⟩=some (.slice adv ds.length capv):=by go_simp
 have hK0:LKey w0 D Bo (W.heap.size+1) b0 ds (.slice adv ds.length capv) [] ((W.alloc (.cells #[.int .u8 x.k,.string x.ra,.string x.nm,.int .i64 x.d,.slice ad x.sub.length cap] 25)).alloc (.cells #[.slice adv ds.length capv] 26)):=by
  refine ⟨?_,hcd,hpd,hdv.kept hk2⟩
  rw [List.any_nil,Bool.or_false];exact hR2
 have hL:LeafOk w0 D Bo x.nodes (fun pre W' => LKey w0 D Bo (W.heap.size+1) b0 ds (.slice adv ds.length capv) pre W'∧w0.heap.size≤W'.heap.size) 60 #[.pointer (some ⟨Bo,0,none⟩),.pointer (some ⟨W.heap.size+1,0,none⟩)] :=
  { frame:=fun pre W1 W2 h hb => ⟨h.1.frame h.2 hb,Nat.le_trans h.2 hb.size⟩
    own:=fun pre W1 h b hb => absurd hb (notOwn_bool h.1.1 b)
    box:=fun pre W1 h => h.1.1.lt
    ef:=enters_of Tryz.func60 (by kernel_rfl) rfl
    call:=fun pre y sy W1 h hbw hD hsy hp => by
     exact (latef_any w0 D Bo (W.heap.size+1) b0 ds _ pre y sy W1 hBo hBD h.1 hbw hsy).mono fun e W2 ⟨he,h2,h3⟩ => ⟨he,⟨h2,Nat.le_trans h.2 h3.below.size⟩,h3⟩ }
 have hLv:=leaves_any w0 D Bo x.nodes _ 60 _ hL x.bulk x (.slice ad x.sub.length cap) [] _ (Nat.le_refl _) hB hs (hbW.trans hk2.below) (Nat.le_trans hDW hb2.size) ⟨hK0,Nat.le_trans hbW.size hb2.size⟩ (by simp)
 have HLv:=Lib.hid hLv
 have HK:=Lib.hid hk2
 unfold Ex.val at HLv ⊢
 clear hLv hL hK0 hcd hpd hk2 hR2 hR1 hR hdv hs
 go_enter Tryz.func58,Tryz.ntmps58
 go_wp2_with fail
 refine HLv.out.mono ?_
 rintro e W3 ⟨rfl,⟨⟨h3,_⟩,_⟩,hk3⟩
 have HF:Hid (Boxed W3 Bo 4 (.bool (b0 || x.nodes.any (xLate ds)))∧KeptO w0.heap.size D Bo W W3):=Lib.hid ⟨by simpa using h3,HK.out.trans hk3⟩
 clear h3 hk3 HLv
 go_wp2_with fail
 go_end0
 exact ⟨rfl,HF.out.1,HF.out.2⟩
theorem late_vis (w0:World) (D Bo:Nat) (c:Con) (day:Int) (hBo:w0.heap.size≤Bo) (hBD:Bo < D) :
  VisOk w0 D Bo (c.evs [day]) (fun evs W => Boxed W Bo 4 (.bool (evLt evs))∧w0.heap.size≤W.heap.size) 58 95 96 #[.pointer (some ⟨Bo,0,none⟩)] #[] #[] where
 frame:=fun pre W1 W2 h hb => ⟨Boxed.low h.1 hb,Nat.le_trans h.2 hb.size⟩
 own:=fun pre W h b hb => absurd hb (notOwn_bool h.1 b)
 box:=fun pre W h => h.1.lt
 ee:=enters_of Tryz.func58 (by kernel_rfl) rfl
 ec:=enters_of Tryz.func95 (by kernel_rfl) rfl
 ep:=enters_of Tryz.func96 (by kernel_rfl) rfl
 expr:=fun pre x s ds v W h hbW hDW hs hxb hdl hdv hp => by
  have e1:evLt (pre ++ [.expr x ds])=(evLt pre || x.nodes.any (xLate ds)):=by rw [evLt_append];simp [evLt,evLate]
  rw [e1]
  exact (latex_any w0 D Bo (evLt pre) x s ds v W hBo hBD hxb h.1 hbW hDW hs hdv).mono fun e W' ⟨he,h1,h2⟩ => ⟨he,⟨h1,Nat.le_trans h.2 h2.below.size⟩,h2⟩
 choice:=fun pre p n ds v W h hbW hDW hdl hdv hp => by
  have e1:evLt (pre ++ [.choice p n ds])=evLt pre:=by rw [evLt_append];simp [evLt,evLate]
  rw [e1]
  exact (silent2_any p n v W).mono fun e W' ⟨he,hw⟩ => ⟨he,hw ▸ h,hw ▸ KeptO.refl W⟩
 pay:=fun pre ds v W h hbW hDW hdl hdv hp => by
  have e1:evLt (pre ++ [.pay ds])=evLt pre:=by rw [evLt_append];simp [evLt,evLate]
  rw [e1]
  exact (silent3_any v W).mono fun e W' ⟨he,hw⟩ => ⟨he,hw ▸ h,hw ▸ KeptO.refl W⟩
noncomputable def causErr (c:Con) (day:Int):Int:=if visErr c day=0 then (if evLt (visEvs c day)=true then 34 else 0) else visErr c day
set_option maxHeartbeats 4000000 in
set_option maxRecDepth 100000 in
theorem causal_any (c:Con) (es dd ss:Value) (day:Int) (W:World) (hB:c.bulk≤2000000) (hr:RdN W c es dd ss) (hS:LookS W) (hP:LookP W) :
  Calls Tryz.prog 23 #[c.val es dd ss,.int .i64 day] W fun e W' => e = .returned (.int .i64 (causErr c day))∧Below W.heap.size W W':=by
 obtain ⟨ad,cap,rfl⟩:=hr.2.2.1.len
 obtain ⟨ad1,cap1,rfl⟩:=hr.1.len
 obtain ⟨ad2,cap2,rfl⟩:=hr.2.1.len
 have hV:=late_vis W (W.heap.size+1+1) (W.heap.size+1) c day (by omega) (by omega)
 have HVis:=Lib.hid fun (W2:World) => visit_any W (W.heap.size+1+1) (W.heap.size+1) c _ _ _ day _ _ _ _ _ _ _ hV W2 hB hr hS hP
 unfold Con.val at HVis ⊢
 clear hr hS hP hV
 go_enter Tryz.func23,Tryz.ntmps23
 go_wp2_with fail
 refine (silent_any _).mono ?_
 rintro e w1 ⟨rfl,hb1⟩
 have hz1:=hb1.size
 simp only [World.size_alloc] at hz1
 have hl0:W.heap.size < w1.heap.size:=by omega
 have hb2:=below_a2 W (.cells #[.int .u8 c.k,.string c.fr,.string c.rc,.string c.nm,.int .u8 c.ex.k,.string c.ex.ra,.string c.ex.nm,.int .i64 c.ex.d,.slice ad1 c.ex.sub.length cap1,.int .i64 c.d,.slice ad2 c.ds.length cap2,.slice ad c.sub.length cap] 29) (.cells #[.bool false] 4)
 obtain ⟨c0,c1,c2,c3,c4,c5,c6,c7,c8,c9,c10,c11⟩:=((CBox.new W c (.slice ad1 c.ex.sub.length cap1) (.slice ad2 c.ds.length cap2) (.slice ad c.sub.length cap) 29).low (below_a1 _ (.cells #[.bool false] 4))).low hb1
 have hrow0:Boxed ((W.alloc (.cells #[.int .u8 c.k,.string c.fr,.string c.rc,.string c.nm,.int .u8 c.ex.k,.string c.ex.ra,.string c.ex.nm,.int .i64 c.ex.d,.slice ad1 c.ex.sub.length cap1,.int .i64 c.d,.slice ad2 c.ds.length cap2,.slice ad c.sub.length cap] 29)).alloc (.cells #[.bool false] 4)) (W.heap.size+1) 4 (.bool (evLt [])):=by
  have:=Boxed.new (W.alloc (.cells #[.int .u8 c.k,.string c.fr,.string c.rc,.string c.nm,.int .u8 c.ex.k,.string c.ex.ra,.string c.ex.nm,.int .i64 c.ex.d,.slice ad1 c.ex.sub.length cap1,.int .i64 c.d,.slice ad2 c.ds.length cap2,.slice ad c.sub.length cap] 29)) 4 (.bool false)
  rwa [World.size_alloc] at this
 have hb3:=below_a1 w1 (.cells #[.func (.func 58) #[] #[.pointer (some ⟨W.heap.size+1,0,none⟩)],.func (.func 95) #[] #[],.func (.func 96) #[] #[]] 94)
 have hrow3:=Boxed.low (Boxed.low hrow0 hb1) hb3
 have hbA:=(hb2.trans (hb1.mono (by simp;omega))).trans (hb3.mono (by omega))
 have HBA:=Lib.hid hbA
 have HV:=Lib.hid (HVis.out _ hbA (by rw [World.size_alloc];omega) ⟨hrow3,by rw [World.size_alloc];omega⟩)
 clear hb1 hb2 hb3 hrow0 hrow3 hbA hz1 HVis
 go_wp2_with fail
 refine HV.out.mono ?_
 rintro e w3 ⟨rfl,hJ,hk⟩
 obtain ⟨hbv,_⟩:=hJ
 have hcv:=hbv.cell
 have HBF:=Lib.hid (HBA.out.trans hk.below)
 obtain ⟨ve,hve⟩:∃ ve,visErr c day=ve:=⟨_,rfl⟩
 obtain ⟨lt,hlt⟩:∃ lt,evLt (visEvs c day)=lt:=⟨_,rfl⟩
 have HE:Hid (causErr c day=if ve=0 then (if lt=true then 34 else 0) else ve):=Lib.hid (by unfold causErr;rw [hve,hlt])
 rw [hlt] at hcv
 rw [hve]
 clear hbv hk HV HBA hve hlt
 by_cases hE:ve=0
 ·subst hE
  cases lt with
  | true =>
   go_wp2
   go_ret
   exact ⟨ret_int' HE.out.symm,HBF.out⟩
  | false =>
   go_wp2
   go_ret
   exact ⟨ret_int' HE.out.symm,HBF.out⟩
 ·have HN:Hid (causErr c day=ve):=Lib.hid (by rw [HE.out,if_neg hE])
  clear HE
  go_wp2
  go_ret
  exact ⟨ret_int' HN.out.symm,HBF.out⟩
end Go.Proofs.YtcnpaciljmekcaaGreatDoor

namespace Go.Proofs.YtcnpaciljmekcaaGreatDoor
open Go.RowKit
theorem ul_dys:Tryz.prog.underlying 26=some (.slice 3):=by kernel_rfl
theorem info_dy:(Tryz.prog.info? 3).map (fun i => (i.zero,i.size,i.bytes))=some (some (.int .i64 0),1,8):=by kernel_rfl
theorem dy_flat (L:List Int):L.flatMap dyCells=L.map (Value.int .i64):=by
 induction L with
 | nil => rfl
 | cons x l ih => rw [List.flatMap_cons,List.map_cons,ih];rfl
theorem same_step {α:Type} {a b:List α} {k:Nat} (h:∀ j,j < k→a[j]? = b[j]?) (hk:a[k]? = b[k]?):∀ j,j < k+1→a[j]? = b[j]?:=by
 intro j hj
 rcases Nat.lt_or_ge j k with h1 | h1
 ·exact h j h1
 ·have:j=k:=by omega
  rw [this];exact hk
end Go.Proofs.YtcnpaciljmekcaaGreatDoor

namespace Go.Proofs.YtcnpaciljmekcaaGreatDoor
open Go.RowKit
abbrev DRow (base Bo:Nat) (L:List Int) (W:World):Prop:=RowAt dyCells 26 3 1 base Bo L W
theorem RowAt.step0 {t e:TypeId} {size base D Bo:Nat} {W w1:World} {v v':Value} {k m:Nat} {xs ys:List Value} (hv:Boxed W Bo t v) (hte:t ≠ e) (hrow:W.ownsRow base e size v k xs) (hbase:base≤W.heap.size) (hB:base≤Bo) (hD:Bo < D)
  (hown':w1.ownsRow base e size v' m ys) (hgrow:W.grownBy w1 v.ownBlock) (hloc:v'.ownBlock=v.ownBlock∨∃ g,v'.ownBlock=some g∧W.heap.size≤g) :
  Boxed w1 Bo t v∧Boxed (w1.setCell ⟨Bo,0,none⟩ v') Bo t v'∧(w1.setCell ⟨Bo,0,none⟩ v').ownsRow base e size v' m ys∧KeptO base D Bo W (w1.setCell ⟨Bo,0,none⟩ v'):=by
 have hv1:Boxed w1 Bo t v:=hv.kept hgrow (hv.not_row hte hrow)
 have h2:=hv1.set v'
 refine ⟨hv1,h2,hown'.kept (grownBy_setCell' w1 Bo v') (.inr (hv1.not_row hte hown').symm),?_,fun b hb hl ho => ?_⟩
 ·exact ((Below.refl base W).grown hgrow hbase fun j ej => (hrow.lt j ej).1).setCell (p:=⟨Bo,0,none⟩) hB v'
 ·have hne:some b ≠ v.ownBlock:=fun e => ho ⟨v,hv.cell,e.symm⟩
  refine ⟨?_,?_⟩
  ·rw [Below.heap_setCell _ _ _ _ (show b ≠ Bo by omega),hgrow.block b hl hne]
  ·rintro ⟨u,hu,hub⟩
   rw [h2.cell] at hu
   cases hu
   rcases hloc with e | ⟨g,e,hg⟩
   ·exact hne (by rw [← e,hub])
   ·rw [e] at hub
    cases hub
    omega
set_option maxHeartbeats 4000000 in
set_option maxRecDepth 100000 in
theorem dayf_any (w0:World) (D Bo:Nat) (L0:List Int) (ds:List Int) (v:Value) (W:World) (hne:ds ≠ []) (hBo:w0.heap.size≤Bo) (hBD:Bo < D) (hbd:(L0 ++ ds).length≤4000000000000)
  (hR:DRow w0.heap.size Bo L0 W) (hbW:Below w0.heap.size w0 W) (hdv:DaysAt w0.heap.size D Bo W ds v) :
  Calls Tryz.prog 49 #[v,.pointer (some ⟨Bo,0,none⟩)] W fun e W' => e = .returned (.tuple #[])∧DRow w0.heap.size Bo (L0 ++ ds) W'∧KeptO w0.heap.size D Bo W W':=by
 obtain ⟨i0,hi,hz0,hz1,hz2⟩:=info_parts info_dy
 obtain ⟨ad,capv,rfl,hcap,hrd⟩:=hdv.1
 have hlb:L0.length+ds.length≤4000000000000:=by rwa [List.length_append] at hbd
 obtain ⟨b,off,rfl,_⟩:=hrd 0 _ (List.head?_eq_getElem? ▸ List.head?_eq_some_head hne)
 obtain ⟨u,hbv,hown⟩:=hR
 have hcv:=hbv.cell
 have hfz:=hbv.frozen
 have hnews:∀ j u,(ds.flatMap dyCells)[j]? = some u→W.cell? ((⟨b,off,none⟩:Addr).add j)=some u:=by
  intro j u hj
  rw [dy_flat,List.getElem?_map] at hj
  cases hd:ds[j]? with
  | none => rw [hd] at hj;cases hj
  | some d =>
   rw [hd] at hj
   cases hj
   obtain ⟨b2,off2,e,hc⟩:=hrd j d hd
   cases e
   have ea:(⟨b,off,none⟩:Addr).add j=⟨b,off+j,none⟩:=by unfold Addr.add;split <;> simp_all
   rw [ea];exact hc
 have hbz:=hbW.size
 have hnl:(ds.flatMap dyCells).length=ds.length * 1:=by rw [dy_flat,List.length_map,Nat.mul_one]
 have h1c:∀ u ∈ ds.flatMap dyCells,u.oneCell'=true:=by intro u hu;rw [dy_flat,List.mem_map] at hu;obtain ⟨d,_,rfl⟩:=hu;rfl
 clear hrd hdv
 go_enter Tryz.func49,Tryz.ntmps49
 go_wp2_with (at_builtin;refine wpList_append_at _ rfl _ _ 26 rfl w0.heap.size 3 i0 (.int .i64 0) 1 8 ul_dys hi hz0 hz1 hz2 rfl (by decide) _ _ _ rfl hown ⟨b,off,none⟩ ds.length capv (ds.flatMap dyCells) rfl hnl hnews h1c ?d1 ?d2 ?d3 ?_)
 case d1 => unfold maxLen;omega
 case d2 => omega
 case d3 => omega
 intro v' w' hown' hgrow hloc
 obtain ⟨hb1,hb2,hr2,hk3⟩:=RowAt.step0 (D:=D) hbv (by decide) hown hbz hBo hBD hown' hgrow hloc
 have HN:Hid (DRow w0.heap.size Bo (L0 ++ ds) (w'.setCell ⟨Bo,0,none⟩ v')∧KeptO w0.heap.size D Bo W (w'.setCell ⟨Bo,0,none⟩ v')):=Lib.hid (by
  refine ⟨⟨_,hb2,?_⟩,hk3⟩
  rw [List.length_append,List.flatMap_append]
  exact hr2)
 have hc5:=hb1.cell
 have hf5:=hb1.frozen
 obtain ⟨a1,a2,rfl⟩:∃ a1 a2,v' = .slice a1 (L0.length+ds.length) a2:=by
  rcases hown'.2 with ⟨rfl,h⟩ | ⟨g,cap,_,rfl,_⟩
  ·exact ⟨none,0,by rw [h]⟩
  ·exact ⟨_,_,rfl⟩
 clear hb2 hr2 hk3 hown hgrow hown' hloc
 go_wp2_with fail
 go_end0
 exact ⟨rfl,HN.out.1,HN.out.2⟩
end Go.Proofs.YtcnpaciljmekcaaGreatDoor

namespace Go.Proofs.YtcnpaciljmekcaaGreatDoor
open Go.RowKit
theorem dyCells_zv:∀ w,(zeroValue 3).run Tryz.prog w = .ok (.int .i64 0) w:=fun w => by go_simp
theorem dyCells_keep {L:List Int} {k:Nat} {x y z:Int} (h1:1≤k) (hx:L[k - 1]? = some x) (hy:L[k]? = some y) (hne:y ≠ x) {kk:Nat} (hk:(cmpct (L.take k)).length=kk) (hz:L[kk]? = some z) :
  (((cRow L k).flatMap dyCells).set (kk) (.int .i64 y))=(cRow L (k+1)).flatMap dyCells∧(cmpct (L.take (k+1))).length=kk+1:=by
 subst hk
 obtain ⟨e1,e2⟩:=cRow_keep h1 hx hy hne hz
 refine ⟨?_,by rw [cmpct_new' h1 hx hy hne];simp⟩
 rw [e1,e2]
 have s0:=set_flat (enc:=dyCells) (m:=1) dyCells_len (cmpct (L.take k)) (L.drop ((cmpct (L.take k)).length+1)) z y _ 0 (.int .i64 y) rfl (by decide) rfl
 simp only [Nat.add_zero,Nat.mul_one] at s0
 rw [s0]
set_option maxHeartbeats 8000000 in
set_option maxRecDepth 100000 in
theorem compactI_any (base:Nat) (L:List Int) (v:Value) (W:World) (hown:W.ownsRow base 3 1 v L.length (L.flatMap dyCells)) (hlen:L.length≤4000000000000) :
  Calls Tryz.prog 100 #[v] W fun e W' => ∃ v',e = .returned v'∧W'.ownsRow base 3 1 v' (cmpct L).length ((cmpct L).flatMap dyCells)∧W.grownBy W' v.ownBlock:=by
 by_cases hs:L.length < 2
 ·have hc:cmpct L=L:=by
   match L,hs with
   | [],_ => rfl
   | [a],_ => rfl
  rw [hc]
  have HO:=Lib.hid hown
  obtain ⟨n,hn⟩:∃ n,L.length=n:=⟨_,rfl⟩
  obtain ⟨ad,cap,rfl⟩:∃ ad cap,v = .slice ad n cap:=by
   rcases hown.2 with ⟨rfl,h⟩ | ⟨g,cap,cur,rfl,_⟩
   ·exact ⟨none,0,by rw [← hn,h]⟩
   ·exact ⟨_,cap,by rw [hn]⟩
  rw [hn] at hs hlen
  clear hown hc
  go_enter Tryz.func100,Tryz.ntmps100
  go_wp2
  go_ret
  exact ⟨_,rfl,HO.out,World.grownBy.refl _ _⟩
 ·obtain ⟨n,hn⟩:∃ n,L.length=n:=⟨_,rfl⟩
  have Hn:=Lib.hid hn
  obtain ⟨g,cap,rfl,hcap⟩:∃ g cap,v = .slice (some ⟨g,0,none⟩) n cap∧n≤cap∧cap≤maxLen:=by
   rcases hown.2 with ⟨rfl,h⟩ | ⟨g,cap,cur,rfl,_,_,h1,h2,_⟩
   ·omega
   ·exact ⟨g,cap,by rw [hn],by omega,h2⟩
  rw [hn] at hs hlen hown
  have hR0:=RSt.start hown
  clear hown hn
  obtain ⟨hcap,hcm⟩:=hcap
  go_enter Tryz.func100,Tryz.ntmps100
  go_wp2
  go_loopw [3] (fun i wr => ∃ k:Nat,1≤k∧k≤n∧i = .int .i64 k∧Hid (cmpct (L.take k)=L.take k)∧RSt W wr 3 1 g base n cap (L.flatMap dyCells)) (fun i _ => n - (intOf i).toNat)
  case atStart => exact ⟨1,Nat.le_refl _,by omega,rfl,Lib.hid (cmpct_one L),hR0⟩
  case round =>
   clear hR0
   obtain ⟨k,hk1,hk,rfl,Hc,hR⟩:=hrel
   by_cases hlt:k < n
   ·obtain ⟨x,hx⟩:∃ x,L[k - 1]? = some x:=⟨_,List.getElem?_eq_getElem (by rw [Hn.out];omega)⟩
    obtain ⟨y,hy⟩:∃ y,L[k]? = some y:=⟨_,List.getElem?_eq_getElem (by rw [Hn.out];omega)⟩
    have ⟨xd,hxd⟩:∃ xd,x=xd:=⟨_,rfl⟩
    have ⟨yd,hyd⟩:∃ yd,y=yd:=⟨_,rfl⟩
    rw [hxd] at hx
    rw [hyd] at hy
    clear hxd hyd
    have x0:wr.cell? ⟨g,k - 1,none⟩=some (.int .i64 xd):=by
     have h:=hR.at (flat_at dyCells_len hx 0 _ rfl)
     simpa only [Nat.add_zero,Nat.mul_one] using h
    have y0:wr.cell? ⟨g,k,none⟩=some (.int .i64 yd):=by
     have h:=hR.at (flat_at dyCells_len hy 0 _ rfl)
     simpa only [Nat.add_zero,Nat.mul_one] using h
    have e1:IntKind.i64.wrap ((k:Int) - 1)=((k - 1:Nat):Int):=by rw [IntWalk.i64_in _ (by omega)];omega
    have hl1:((k - 1:Nat):Int) < (n:Int):=by omega
    have hl0:(k:Int) < (n:Int):=by omega
    have HX:=Lib.hid hx
    have HY:=Lib.hid hy
    clear hx hy
    go_wp2_with fail
    by_cases t0:yd=xd
    ·go_quiet (fail)
     have HE:Hid (yd=xd):=Lib.hid (by rw [t0])
     have HY2:Hid (L[k]? = some xd):=Lib.hid (by rw [← HE.out];exact HY.out)
     have hR1:=hR.drewN nq
     generalize wr.drewN nq=w1 at hR1 ⊢
     clear x0 y0 hR t0 e1 hl1
     go_wp2
     go_loopw [3,5] (fun s3 s5 wz => ∃ k2 kk:Nat,1≤k2∧k+k2≤n∧kk < k+k2∧s3 = .int .i64 kk∧s5 = .int .i64 k2∧Hid ((cmpct (L.take (k+k2))).length=kk)∧RSt W wz 3 1 g base n cap ((cRow L (k+k2)).flatMap dyCells)) (fun _ s5 _ => n - (intOf s5).toNat)
     case atStart =>
      have hh:=cRow_half hk1 HX.out HY2.out Hc.out
      exact ⟨1,k,Nat.le_refl _,by omega,by omega,rfl,rfl,Lib.hid hh.2,by rw [hh.1];exact hR1⟩
     case round =>
      clear hR1 hlt hl0
      obtain ⟨k2,kk,hk2,hkn,hkk,rfl,rfl,Hkk,hR⟩:=hrel
      by_cases hlt:k+k2 < n
      ·obtain ⟨x,hx⟩:∃ x,L[k+k2 - 1]? = some x:=⟨_,List.getElem?_eq_getElem (by rw [Hn.out];omega)⟩
       obtain ⟨y,hy⟩:∃ y,L[k+k2]? = some y:=⟨_,List.getElem?_eq_getElem (by rw [Hn.out];omega)⟩
       obtain ⟨z,hz⟩:∃ z,L[kk]? = some z:=⟨_,List.getElem?_eq_getElem (by rw [Hn.out];omega)⟩
       have ⟨ud,hxd⟩:∃ xd,x=xd:=⟨_,rfl⟩
       have ⟨vd,hyd⟩:∃ yd,y=yd:=⟨_,rfl⟩
       have ⟨od,hzd⟩:∃ yd,z=yd:=⟨_,rfl⟩
       rw [hxd] at hx
       rw [hyd] at hy
       rw [hzd] at hz
       clear hxd hyd hzd
       have hcx:=(cRow_high (L:=L) (m:=k+k2) (j:=k+k2 - 1) (by rw [Hkk.out];omega)).trans hx
       have hcy:=(cRow_high (L:=L) (m:=k+k2) (j:=k+k2) (by rw [Hkk.out];omega)).trans hy
       have hcz:=(cRow_high (L:=L) (m:=k+k2) (j:=kk) (by rw [Hkk.out];omega)).trans hz
       have x0:wr.cell? ⟨g,k+(k2 - 1),none⟩=some (.int .i64 ud):=by
        rw [show k+(k2 - 1)=k+k2 - 1 by omega]
        have h:=hR.at (flat_at dyCells_len hcx 0 _ rfl)
        simpa only [Nat.add_zero,Nat.mul_one] using h
       have y0:wr.cell? ⟨g,k+k2,none⟩=some (.int .i64 vd):=by
        have h:=hR.at (flat_at dyCells_len hcy 0 _ rfl)
        simpa only [Nat.add_zero,Nat.mul_one] using h
       have z0:wr.cell? ⟨g,kk,none⟩=some (.int .i64 od):=by
        have h:=hR.at (flat_at dyCells_len hcz 0 _ rfl)
        simpa only [Nat.add_zero,Nat.mul_one] using h
       have f0:=hR.ice (kk)
       have HX2:=Lib.hid hx
       have HZ2:=Lib.hid hz
       have HY3:=Lib.hid hy
       clear hx hy hz hcx hcy hcz
       have e1:IntKind.i64.wrap ((k2:Int) - 1)=((k2 - 1:Nat):Int):=by rw [IntWalk.i64_in _ (by omega)];omega
       have hl1:((k2 - 1:Nat):Int) < ((n - k:Nat):Int):=by omega
       have hl0:(k2:Int) < ((n - k:Nat):Int):=by omega
       go_wp2_with fail
       by_cases t0:vd=ud
       ·have HE:Hid (vd=ud):=Lib.hid (by rw [t0])
        have HY4:Hid (L[k+k2]? = some ud):=Lib.hid (by rw [← HE.out];exact HY3.out)
        have HS:=Lib.hid (And.intro (cRow_skip (by omega) HX2.out HY4.out) (cmpct_same' (by omega) HX2.out HY4.out))
        have hR2:=Lib.hid fun q:Nat => hR.drewN q
        clear hR
        go_quiet (fail)
        go_wp2
        go_roundw
        case rel => exact ⟨k2+1,kk,by omega,by omega,by omega,rfl,by go_num,Lib.hid (by rw [← Nat.add_assoc,HS.out.2];exact Hkk.out),by rw [← Nat.add_assoc,HS.out.1];exact hR2.out nq⟩
        case measure => simp [intOf];omega
       ·have Hne:Hid (vd ≠ ud):=Lib.hid (fun e => t0 (e))
        have hst:=dyCells_keep (by omega) HX2.out HY3.out Hne.out Hkk.out HZ2.out
        have hR2:=Lib.hid fun q:Nat => (hR.drewN q).set (kk) (.int .i64 vd)
        have HS:=Lib.hid hst
        clear hst hR
        go_quiet (fail)
        go_wp2
        go_roundw
        case rel =>
         refine ⟨k2+1,kk+1,by omega,by omega,by omega,by go_num,by go_num,Lib.hid HS.out.2,?_⟩
         have:=hR2.out nq
         rwa [HS.out.1] at this
        case measure => simp [intOf];omega
      ·have hend:k+k2=n:=by omega
       obtain ⟨vs,hcl⟩:=run_clear_own hR ul_dys _ dyCells_zv rfl (by intro u hu;simp [Value.cells] at hu;rcases hu with rfl;rfl) kk (cap - kk) (by omega) 0
       obtain ⟨os',hR3,hos⟩:=hR.sets vs (kk * 1) (kk * 1) (Nat.le_refl _)
       have hfin:=ownsRow_cut hR3.own kk (by omega)
       rw [hos] at hfin
       have hkl:(cmpct L).length=kk:=by have:=Hkk.out;rwa [hend,← Hn.out,List.take_length] at this
       have hrow:=cRow_end (enc:=dyCells) (m:=1) dyCells_len L
       rw [Hn.out,← hend,hkl] at hrow
       rw [hrow] at hfin
       have HF:=Lib.hid (And.intro hfin hR3.gr)
       have Hkl:=Lib.hid hkl
       clear hfin hrow hos hR3 hR hkl
       simp only [Nat.mul_one] at hcl HF
       go_wp2
       go_ret
       refine ⟨_,rfl,?_,HF.out.2⟩
       rw [Hkl.out]
       exact HF.out.1
    ·have Hne:Hid (yd ≠ xd):=Lib.hid (fun e => t0 (e))
     go_quiet (fail)
     go_wp2
     go_roundw
     case rel => exact ⟨k+1,by omega,by omega,by go_num,Lib.hid (cmpct_full hk1 HX.out HY.out Hne.out Hc.out),hR.drewN _⟩
     case measure => simp [intOf];omega
   ·have hkn:k=n:=by omega
    subst hkn
    have hf:Hid (cmpct L=L):=Lib.hid (by have:=Hc.out;rwa [← Hn.out,List.take_length] at this)
    have HR:=Lib.hid hR
    clear hR
    go_wp2
    go_ret
    refine ⟨_,rfl,?_,HR.out.gr⟩
    rw [hf.out,Hn.out]
    exact HR.out.own
end Go.Proofs.YtcnpaciljmekcaaGreatDoor

namespace Go.Proofs.YtcnpaciljmekcaaGreatDoor
open Go.RowKit
open Go.Sort (Holds grow SWO)
theorem cmpI_lt:ltOf cmpI=dayLt:=by
 funext x y
 unfold ltOf cmpI dayLt
 by_cases h1:x < y
 ·simp [h1]
 ·by_cases h2:y < x <;> simp [h1,h2]
theorem cmpI_enter:∀ args w,(callFunc 101 args).run Tryz.prog w = .ok (.enter 101 args) w:=enters_of Tryz.func101 (by kernel_rfl) rfl
set_option maxRecDepth 100000 in
theorem sortI_any (base:Nat) (L:List Int) (v:Value) (W:World) (hown:W.ownsRow base 3 1 v L.length (L.flatMap dyCells)) (hlen:L.length≤4000000000000) :
  Calls Tryz.prog 99 #[v,.func (.func 101) #[] #[]] W fun e W' => e = .returned (.tuple #[]) ∧
   W'.ownsRow base 3 1 v L.length ((L.mergeSort fun x y => !dayLt y x).flatMap dyCells)∧W.grownBy W' v.ownBlock:=by
 rcases hown.2 with ⟨rfl,h0⟩ | ⟨g,cap,cur,rfl,hbg,hh,hn,hc,hs,ht⟩
 ·have hL:L=[]:=List.eq_nil_of_length_eq_zero h0
  subst hL
  have h:=AnyF.slices_SortFunc_none (P:=Tryz.prog) (ρ:=Tryz.laysInt_ren) { Tryz.laysInt with } none 0 (.func (.func 101) #[] #[]) W
  refine Calls.mono (by exact h) ?_
  rintro e W' ⟨rfl,rfl⟩
  exact ⟨rfl,by simpa using hown,World.grownBy.refl _ _⟩
 ·have hblk:g < W.heap.size:=(Array.getElem?_eq_some_iff.1 hh).1
  rw [dy_flat,Nat.mul_one] at ht
  have h:=Any.slices_SortFunc_total (α:=Int) Tryz.laysInt (Value.int .i64) (fun _ => rfl) cmpI (by rw [cmpI_lt];exact swo_of_sto day_sto) 101 #[] g 0 cap L.toArray W cmpI_enter
   (fun m os dk _ x y => (cmpI_any x y _).mono fun e w' ⟨he,hw⟩ => ⟨he,0,#[],by rw [← hw];simp [grow];rfl⟩) (holds_of_blockI hh ht) hblk (by simp;omega) (by rw [cmpI_lt];exact fun x y h1 h2 => day_sto.conn x y h1 h2)
  refine Calls.mono (by exact h) ?_
  rintro e W' ⟨rfl,q,os,rfl⟩
  rw [cmpI_lt]
  have h1:=ownsRow_sortedI (n:=q) (os:=os) (ss:=L) (ts:=L.mergeSort fun x y => !dayLt y x) (List.length_mergeSort _) hbg hh hn hc hs
  rw [dy_flat]
  exact ⟨rfl,h1,grownBy_sortedI _⟩
def dyOrder:Value:=.agg #[.func (.func 101) #[] #[]]
set_option maxHeartbeats 1000000 in
set_option maxRecDepth 100000 in
theorem uniqI_any (base:Nat) (L:List Int) (v:Value) (W:World) (hown:W.ownsRow base 3 1 v L.length (L.flatMap dyCells)) (hlen:L.length≤4000000000000) (hbase:base≤W.heap.size) :
  Calls Tryz.prog 51 #[v,dyOrder] W fun e W' => ∃ v',e = .returned v'∧W'.ownsRow base 3 1 v' (uniq dayLt L).length ((uniq dayLt L).flatMap dyCells)∧Below base W W':=by
 have hb0:=below_a1 W (.cells #[.func (.func 101) #[] #[]] 100)
 have hown1:=ownsRow_below' hown hb0
 have hS:=sortI_any base L v _ hown1 hlen
 have Hb0:=Lib.hid hb0
 have Hl:=Lib.hid hlen
 obtain ⟨ad,n,cap,hv⟩:∃ ad n cap,v = .slice ad n cap:=by
  rcases hown.2 with ⟨rfl,h⟩ | ⟨g,cap,cur,rfl,_⟩ <;> exact ⟨_,_,_,rfl⟩
 have HO:=Lib.hid hown1
 subst hv
 clear hown hown1 hb0 hlen
 unfold dyOrder
 go_enter Tryz.func51,Tryz.ntmps51
 go_wp2_with (go_at_call 99;refine hS.mono ?_;rintro e w1 ⟨rfl,h1,h2⟩)
 have hml:(L.mergeSort fun x y => !dayLt y x).length=L.length:=List.length_mergeSort _
 rw [← hml] at h1
 have hC:=compactI_any base _ _ w1 h1 (by rw [hml];exact Hl.out)
 have hb1:=(Hb0.out.mono hbase).grown h2 (by simp;omega) (fun k e => (HO.out.lt k e).1)
 have hlt1:=fun k e => (h1.lt k e).1
 clear h1 h2
 go_wp2_with (go_at_call 100;refine hC.mono ?_;rintro e w2 ⟨v2,rfl,h3,h4⟩)
 go_ret
 exact ⟨_,rfl,h3,hb1.grown h4 (Nat.le_trans hbase hb1.size) hlt1⟩
set_option maxRecDepth 100000 in
theorem dyOrder_any (W:World):Calls Tryz.prog 52 #[] W fun e W' => e = .returned dyOrder∧Below W.heap.size W W':=by
 go_enter Tryz.func52,Tryz.ntmps52
 go_wp2
 refine bodyPost_ret (v:=.agg #[.func (.func 101) #[] #[]]) (by simp [results,Tryz.results52,go_sem]) rfl ?_
 exact ⟨rfl,below_a1 _ _⟩
end Go.Proofs.YtcnpaciljmekcaaGreatDoor

namespace Go.Proofs.YtcnpaciljmekcaaGreatDoor
open Go.RowKit
theorem headEv_pay (c:Con) (d0:Int) (r:List Int) (l:List Int) (h:Ev.pay l ∈ headEv c (d0 :: r) d0):l ≠ []:=by
 unfold headEv at h
 repeat' split at h
 all_goals simp at h
 rw [h];simp
mutual
theorem Con.evs_pay:∀ (c:Con) (ds:List Int) (l:List Int),Ev.pay l ∈ c.evs ds→l ≠ []
 | .mk k f t n x d dd s,[],l,he => by rw [Con.evs_nil] at he;cases he
 | .mk k f t n x d dd s,d0 :: r,l,he => by
  rw [Con.evs_cons] at he
  rcases List.mem_append.1 he with he | he
  ·exact headEv_pay _ _ _ _ he
  ·exact Con.evss_pay s _ l he
theorem Con.evss_pay:∀ (s:List Con) (ds:List Int) (l:List Int),Ev.pay l ∈ Con.evss s ds→l ≠ []
 | [],_,_,he => by rw [Con.evss] at he;cases he
 | c :: s,ds,l,he => by
  rw [Con.evss] at he
  rcases List.mem_append.1 he with he | he
  ·exact Con.evs_pay c ds l he
  ·exact Con.evss_pay s ds l he
end
theorem days_vis (w0:World) (D Bo:Nat) (c:Con) (day:Int) (hB:c.bulk≤2000000) (hBo:w0.heap.size≤Bo) (hBD:Bo < D) :
  VisOk w0 D Bo (c.evs [day]) (fun evs W => DRow w0.heap.size Bo (evDs evs) W∧w0.heap.size≤W.heap.size) 94 95 49 #[] #[] #[.pointer (some ⟨Bo,0,none⟩)] where
 frame:=fun pre W1 W2 h hb => ⟨h.1.frame hb,Nat.le_trans h.2 hb.size⟩
 own:=fun pre W h => h.1.own
 box:=fun pre W h => h.1.box
 ee:=enters_of Tryz.func94 (by kernel_rfl) rfl
 ec:=enters_of Tryz.func95 (by kernel_rfl) rfl
 ep:=enters_of Tryz.func49 (by kernel_rfl) rfl
 expr:=fun pre x s ds v W h hbW hDW hs hxb hdl hdv hp => by
  have e1:evDs (pre ++ [.expr x ds])=evDs pre:=by rw [evDs_append];simp [evDs,evDays]
  rw [e1]
  exact (silent1_any x s v W W (hs.frame hbW)).mono fun e W' ⟨he,hw⟩ => ⟨he,⟨h.1.frame hw,Nat.le_trans h.2 hw.size⟩,KeptO.of_below hbW.size h.1.box hw⟩
 choice:=fun pre p n ds v W h hbW hDW hdl hdv hp => by
  have e1:evDs (pre ++ [.choice p n ds])=evDs pre:=by rw [evDs_append];simp [evDs,evDays]
  rw [e1]
  exact (silent2_any p n v W).mono fun e W' ⟨he,hw⟩ => ⟨he,hw ▸ h,hw ▸ KeptO.refl W⟩
 pay:=fun pre ds v W h hbW hDW hdl hdv hp => by
  have hlen:=(Con.found_len c day hB hp).2.2
  have hne:ds ≠ []:=Con.evs_pay c [day] ds (by obtain ⟨r,hr⟩:=hp;rw [← hr];simp)
  have e1:evDs (pre ++ [.pay ds])=evDs pre ++ ds:=by rw [evDs_append];simp [evDs,evDays]
  rw [e1] at hlen ⊢
  exact (dayf_any w0 D Bo (evDs pre) ds v W hne hBo hBD hlen h.1 hbW hdv).mono fun e W' ⟨he,h1,h2⟩ => ⟨he,⟨h1,Nat.le_trans h.2 h2.below.size⟩,h2⟩
noncomputable def ySet (c:Con) (day:Int):List Int:=if visErr c day=0 then uniq dayLt (evDs (visEvs c day)) else []
set_option maxHeartbeats 4000000 in
set_option maxRecDepth 100000 in
theorem causalDays_any (c:Con) (es dd ss:Value) (day:Int) (W:World) (hB:c.bulk≤2000000) (hr:RdN W c es dd ss) (hS:LookS W) (hP:LookP W) :
  Calls Tryz.prog 21 #[c.val es dd ss,.int .i64 day] W fun e W' => ∃ v,e = .returned (.tuple #[v,.int .i64 (visErr c day)]) ∧
   W'.ownsRow W.heap.size 3 1 v (ySet c day).length ((ySet c day).flatMap dyCells)∧Below W.heap.size W W':=by
 obtain ⟨ad,cap,rfl⟩:=hr.2.2.1.len
 obtain ⟨ad1,cap1,rfl⟩:=hr.1.len
 obtain ⟨ad2,cap2,rfl⟩:=hr.2.1.len
 have hV:=days_vis W (W.heap.size+1+1) (W.heap.size+1) c day hB (by omega) (by omega)
 have HVis:=Lib.hid fun (W2:World) => visit_any W (W.heap.size+1+1) (W.heap.size+1) c _ _ _ day _ _ _ _ _ _ _ hV W2 hB hr hS hP
 unfold Con.val at HVis ⊢
 clear hr hS hP hV
 go_enter Tryz.func21,Tryz.ntmps21
 go_wp2_with fail
 refine (silent_any _).mono ?_
 rintro e w1 ⟨rfl,hb1⟩
 have hz1:=hb1.size
 simp only [World.size_alloc] at hz1
 have hl0:W.heap.size < w1.heap.size:=by omega
 have hb2:=below_a2 W (.cells #[.int .u8 c.k,.string c.fr,.string c.rc,.string c.nm,.int .u8 c.ex.k,.string c.ex.ra,.string c.ex.nm,.int .i64 c.ex.d,.slice ad1 c.ex.sub.length cap1,.int .i64 c.d,.slice ad2 c.ds.length cap2,.slice ad c.sub.length cap] 29) (.cells #[.slice none 0 0] 26)
 obtain ⟨c0,c1,c2,c3,c4,c5,c6,c7,c8,c9,c10,c11⟩:=((CBox.new W c (.slice ad1 c.ex.sub.length cap1) (.slice ad2 c.ds.length cap2) (.slice ad c.sub.length cap) 29).low (below_a1 _ (.cells #[.slice none 0 0] 26))).low hb1
 have hrow0:DRow W.heap.size (W.heap.size+1) [] ((W.alloc (.cells #[.int .u8 c.k,.string c.fr,.string c.rc,.string c.nm,.int .u8 c.ex.k,.string c.ex.ra,.string c.ex.nm,.int .i64 c.ex.d,.slice ad1 c.ex.sub.length cap1,.int .i64 c.d,.slice ad2 c.ds.length cap2,.slice ad c.sub.length cap] 29)).alloc (.cells #[.slice none 0 0] 26)) :=
  ⟨.slice none 0 0,by have:=Boxed.new (W.alloc (.cells #[.int .u8 c.k,.string c.fr,.string c.rc,.string c.nm,.int .u8 c.ex.k,.string c.ex.ra,.string c.ex.nm,.int .i64 c.ex.d,.slice ad1 c.ex.sub.length cap1,.int .i64 c.d,.slice ad2 c.ds.length cap2,.slice ad c.sub.length cap] 29)) 26 (.slice none 0 0);rwa [World.size_alloc] at this,World.ownsRow_nil _ _ _ _⟩
 have hb3:=below_a1 w1 (.cells #[.func (.func 94) #[] #[],.func (.func 95) #[] #[],.func (.func 49) #[] #[.pointer (some ⟨W.heap.size+1,0,none⟩)]] 94)
 have hrow3:=(hrow0.frame hb1).frame hb3
 have hbA:=(hb2.trans (hb1.mono (by simp;omega))).trans (hb3.mono (by omega))
 have HBA:=Lib.hid hbA
 have HV:=Lib.hid (HVis.out _ hbA (by rw [World.size_alloc];omega) ⟨hrow3,by rw [World.size_alloc];omega⟩)
 clear hb1 hb2 hb3 hrow0 hrow3 hbA hz1 HVis
 go_wp2_with fail
 refine HV.out.mono ?_
 rintro e w3 ⟨rfl,hJ,hk⟩
 obtain ⟨⟨v,hbv,hown⟩,hz3⟩:=hJ
 have hlen:=(Con.found_len c day hB (visEvs_prefix c day)).2.2
 have hcv:=hbv.cell
 have hbF:Below W.heap.size W w3:=HBA.out.trans hk.below
 by_cases hE:visErr c day=0
 ·have HC:=Lib.hid fun (w4:World) (hb:Below w3.drew.heap.size w3.drew w4) => (hb.cell (p:=⟨W.heap.size+1,0,none⟩) hbv.lt).trans hcv
  have HO:=Lib.hid fun (w4:World) (hb:Below w3.drew.heap.size w3.drew w4) => (ownsRow_below' (hown.drew) hb)
  have HZ:=Lib.hid fun (w4:World) (hb:Below w3.drew.heap.size w3.drew w4) => Nat.le_trans hz3 hb.size
  have HB:=Lib.hid fun (w4:World) (hb:Below w3.drew.heap.size w3.drew w4) => hbF.drew.trans (hb.mono hz3)
  have HL:=Lib.hid hlen
  obtain ⟨LN,hLN⟩:∃ LN,evDs (visEvs c day)=LN:=⟨_,rfl⟩
  have HS:Hid (visErr c day=0∧ySet c day=uniq dayLt LN):=Lib.hid (by
   unfold ySet
   rw [if_pos hE,hLN]
   exact ⟨hE,rfl⟩)
  rw [hLN] at HL HO
  rw [hE]
  clear hbv hown hk hz3 hlen hbF hLN HV HBA hE
  go_wp2_with fail
  go_region_with (first
   | (go_at_call 52;refine (dyOrder_any _).mono ?_;rintro e w4 ⟨rfl,hb4⟩;have hc4:=HC.out w4 hb4;have ho4:=HO.out w4 hb4)
   | (go_at_call 51;refine (uniqI_any W.heap.size LN _ _ ho4 HL.out (HZ.out _ hb4)).mono ?_;rintro e w5 ⟨v5,rfl,h5,hb5⟩;obtain ⟨adU,capU,rfl⟩:=ownsRow_shape h5))
  all_goals
   go_wp2
   go_ret2
   rw [HS.out.1,HS.out.2]
   exact ⟨_,rfl,h5,(HB.out _ hb4).trans hb5⟩
 ·have HS:Hid (ySet c day=[]):=Lib.hid (if_neg hE)
  have HBF:=Lib.hid hbF
  obtain ⟨ve,hve⟩:∃ ve,visErr c day=ve:=⟨_,rfl⟩
  have Hve:=Lib.hid hve
  rw [hve] at hE ⊢
  clear hbv hown hk hz3 hlen hbF HV HBA hve
  go_wp2
  go_ret2
  rw [HS.out,Hve.out]
  exact ⟨_,rfl,World.ownsRow_nil _ _ _ _,HBF.out⟩
end Go.Proofs.YtcnpaciljmekcaaGreatDoor

namespace Go.Proofs.YtcnpaciljmekcaaGreatDoor
open Go.RowKit
theorem ul_chs:Tryz.prog.underlying 31=some (.slice 85):=by kernel_rfl
theorem info_ch:(Tryz.prog.info? 85).map (fun i => (i.zero,i.size,i.bytes))=some (some (.agg #[.string ⟨#[]⟩,.string ⟨#[]⟩,.int .i64 0,.bool false]),4,48):=by kernel_rfl
theorem cx_oneCells (x:ChP):∀ u ∈ cxCells x,u.oneCell'=true:=by intro u hu;simp [cxCells] at hu;rcases hu with rfl | rfl | rfl | rfl <;> rfl
theorem cell_four_at (w:World) (u v s z:Value) (t:TypeId):∀ j x,[u,v,s,z][j]? = some x→(w.alloc (.cells #[u,v,s,z] t)).cell? ((⟨w.heap.size,0,none⟩:Addr).add j)=some x:=by
 intro j x hj
 match j,hj with
 | 0,h => cases h;simp [Addr.add]
 | 1,h => cases h;simp [Addr.add]
 | 2,h => cases h;simp [Addr.add]
 | 3,h => cases h;simp [Addr.add]
abbrev CRow (base Bo:Nat) (L:List ChP) (W:World):Prop:=RowAt cxCells 31 85 4 base Bo L W
set_option maxHeartbeats 4000000 in
set_option maxRecDepth 100000 in
theorem dead_any (w0:World) (D Bo:Nat) (L0:List ChP) (p n:ByteArray) (ds:List Int) (v:Value) (W:World) (hBo:w0.heap.size≤Bo) (hBD:Bo < D) (hbd:(L0 ++ ds.map fun d => (p,n,d)).length≤1210000000000)
  (hR:CRow w0.heap.size Bo L0 W) (hbW:Below w0.heap.size w0 W) (hdv:DaysAt w0.heap.size D Bo W ds v) :
  Calls Tryz.prog 71 #[.string p,.string n,v,.pointer (some ⟨Bo,0,none⟩)] W fun e W' => e = .returned (.tuple #[])∧CRow w0.heap.size Bo (L0 ++ ds.map fun d => (p,n,d)) W'∧KeptO w0.heap.size D Bo W W':=by
 obtain ⟨i0,hi,hz0,hz1,hz2⟩:=info_parts info_ch
 obtain ⟨adv,capv,rfl⟩:=hdv.1.len
 have hlb:L0.length+ds.length≤1210000000000:=by rwa [List.length_append,List.length_map] at hbd
 have HP:=Lib.hid hdv
 have hR0:Hid (CRow w0.heap.size Bo (L0 ++ (ds.take 0).map fun d => (p,n,d)) W):=Lib.hid (by
  rw [List.take_zero,List.map_nil,List.append_nil];exact hR)
 clear hR hdv
 go_enter Tryz.func71,Tryz.ntmps71
 go_wp2_with fail
 go_loopw [11] (fun i wr => ∃ k:Nat,k≤ds.length∧i = .int .i64 (k:Int)∧Hid (CRow w0.heap.size Bo (L0 ++ (ds.take k).map fun d => (p,n,d)) wr)∧KeptO w0.heap.size D Bo W wr) (fun i _ => ds.length - (intOf i).toNat)
 case atStart => exact ⟨0,Nat.zero_le _,rfl,hR0,KeptO.refl _⟩
 case round =>
  clear hR0
  obtain ⟨k,hk,rfl,HRr,hkr⟩:=hrel
  by_cases hlt:k < ds.length
  ·obtain ⟨d,hdk⟩:∃ d,ds[k]? = some d:=⟨_,List.getElem?_eq_getElem hlt⟩
   obtain ⟨ad',cap',he,_,hrd⟩:=(HP.out.kept hkr).1
   obtain ⟨rfl,_,rfl⟩:=Value.slice.inj he
   obtain ⟨b,off,rfl,hcd⟩:=hrd k d hdk
   have hbl:b < wr.heap.size:=World.block_lt_of_cell? wr _ hcd
   obtain ⟨v,hbv,hown⟩:=HRr.out
   obtain ⟨LK,hLK⟩:∃ LK,(L0 ++ (ds.take k).map fun d => (p,n,d))=LK:=⟨_,rfl⟩
   have HLK:Hid ((L0 ++ (ds.take (k+1)).map fun d => (p,n,d))=LK ++ [(p,n,d)]):=Lib.hid (by rw [take_snoc_get hdk,← hLK];simp)
   have HLl:Hid (LK.length=L0.length+k):=Lib.hid (by rw [← hLK];simp;omega)
   rw [hLK] at hown
   have hcv:=hbv.cell
   have hbz:=(hbW.trans hkr.below).size
   have hk1:(0:Int)≤(k:Int):=by omega
   have hk2:(k:Int) < (ds.length:Int):=by omega
   have hlBo:=hbv.lt
   clear hLK hrd hdk he
   go_wp2_with (at_builtin;refine wpList_append_at _ rfl _ _ 31 rfl w0.heap.size 85 i0 (.agg #[.string ⟨#[]⟩,.string ⟨#[]⟩,.int .i64 0,.bool false]) 4 48 ul_chs hi hz0 hz1 hz2 rfl (by decide) _ _ _ rfl (hown.alloc _) ⟨wr.heap.size,0,none⟩ 1 1 [.string p,.string n,.int .i64 d,.bool false] rfl rfl (cell_four_at _ _ _ _ _ _) (cx_oneCells (p,n,d)) ?d1 ?d2 ?d3 ?_)
   case d1 => have:=HLl.out;unfold maxLen;omega
   case d2 => have:=HLl.out;omega
   case d3 => first | omega | (simp;omega)
   intro v' w' hown' hgrow hloc
   obtain ⟨g',cap',rfl⟩:=ownsRow_succ hown'
   obtain ⟨hb1,hb2,hr2,hk3⟩:=RowAt.step (D:=D) hbv (by decide) hown hbz hBo hBD hown' hgrow hloc
   have HN:Hid (CRow w0.heap.size Bo (L0 ++ (ds.take (k+1)).map fun d => (p,n,d)) (w'.setCell ⟨Bo,0,none⟩ (.slice (some ⟨g',0,none⟩) (LK.length+1) cap'))):=Lib.hid (by
    refine ⟨_,hb2,?_⟩
    rw [HLK.out,List.length_append,List.flatMap_append]
    exact hr2)
   have hk5:=hkr.trans hk3
   have hc5:=hb1.cell
   have hf5:=hb1.frozen
   clear hb2 hr2 hk3 hown hgrow hown' hloc hkr hcd
   go_wp2_with fail
   go_roundw
   case rel => exact ⟨k+1,by omega,by go_num,HN,hk5⟩
   case measure => simp [intOf];omega
  ·obtain rfl:k=ds.length:=by omega
   have HN:Hid (CRow w0.heap.size Bo (L0 ++ ds.map fun d => (p,n,d)) wr):=Lib.hid (by
    have h:=HRr.out
    rwa [List.take_length] at h)
   have HKK:=Lib.hid hkr
   go_wp2
   go_end0
   exact ⟨rfl,HN.out,HKK.out⟩
end Go.Proofs.YtcnpaciljmekcaaGreatDoor

namespace Go.Proofs.YtcnpaciljmekcaaGreatDoor
open Go.RowKit
theorem cxCells_zv:∀ w,(zeroValue 85).run Tryz.prog w = .ok (.agg #[.string ⟨#[]⟩,.string ⟨#[]⟩,.int .i64 0,.bool false]) w:=fun w => by go_simp
theorem cxCells_keep {L:List ChP} {k:Nat} {x y z:ChP} (h1:1≤k) (hx:L[k - 1]? = some x) (hy:L[k]? = some y) (hne:y ≠ x) {kk:Nat} (hk:(cmpct (L.take k)).length=kk) (hz:L[kk]? = some z) :
  ((((((cRow L k).flatMap cxCells).set (kk * 4) (.string y.1)).set (kk * 4+1) (.string y.2.1)).set (kk * 4+2) (.int .i64 y.2.2)).set (kk * 4+3) (.bool false))=(cRow L (k+1)).flatMap cxCells∧(cmpct (L.take (k+1))).length=kk+1:=by
 subst hk
 obtain ⟨e1,e2⟩:=cRow_keep h1 hx hy hne hz
 refine ⟨?_,by rw [cmpct_new' h1 hx hy hne];simp⟩
 rw [e1,e2]
 have s0:=set_flat (enc:=cxCells) (m:=4) cxCells_len (cmpct (L.take k)) (L.drop ((cmpct (L.take k)).length+1)) z (y.1,z.2.1,z.2.2) _ 0 (.string y.1) rfl (by decide) rfl
 have s1:=set_flat (enc:=cxCells) (m:=4) cxCells_len (cmpct (L.take k)) (L.drop ((cmpct (L.take k)).length+1)) (y.1,z.2.1,z.2.2) (y.1,y.2.1,z.2.2) _ 1 (.string y.2.1) rfl (by decide) rfl
 have s2:=set_flat (enc:=cxCells) (m:=4) cxCells_len (cmpct (L.take k)) (L.drop ((cmpct (L.take k)).length+1)) (y.1,y.2.1,z.2.2) y _ 2 (.int .i64 y.2.2) rfl (by decide) rfl
 have s3:=set_flat (enc:=cxCells) (m:=4) cxCells_len (cmpct (L.take k)) (L.drop ((cmpct (L.take k)).length+1)) y y _ 3 (.bool false) rfl (by decide) rfl
 simp only [Nat.add_zero] at s0
 rw [s0,s1,s2,s3]
set_option maxHeartbeats 8000000 in
set_option maxRecDepth 100000 in
theorem compactC_any (base:Nat) (L:List ChP) (v:Value) (W:World) (hown:W.ownsRow base 85 4 v L.length (L.flatMap cxCells)) (hlen:L.length≤4000000000000) :
  Calls Tryz.prog 133 #[v] W fun e W' => ∃ v',e = .returned v'∧W'.ownsRow base 85 4 v' (cmpct L).length ((cmpct L).flatMap cxCells)∧W.grownBy W' v.ownBlock:=by
 by_cases hs:L.length < 2
 ·have hc:cmpct L=L:=by
   match L,hs with
   | [],_ => rfl
   | [a],_ => rfl
  rw [hc]
  have HO:=Lib.hid hown
  obtain ⟨n,hn⟩:∃ n,L.length=n:=⟨_,rfl⟩
  obtain ⟨ad,cap,rfl⟩:∃ ad cap,v = .slice ad n cap:=by
   rcases hown.2 with ⟨rfl,h⟩ | ⟨g,cap,cur,rfl,_⟩
   ·exact ⟨none,0,by rw [← hn,h]⟩
   ·exact ⟨_,cap,by rw [hn]⟩
  rw [hn] at hs hlen
  clear hown hc
  go_enter Tryz.func133,Tryz.ntmps133
  go_wp2
  go_ret
  exact ⟨_,rfl,HO.out,World.grownBy.refl _ _⟩
 ·obtain ⟨n,hn⟩:∃ n,L.length=n:=⟨_,rfl⟩
  have Hn:=Lib.hid hn
  obtain ⟨g,cap,rfl,hcap⟩:∃ g cap,v = .slice (some ⟨g,0,none⟩) n cap∧n≤cap∧cap≤maxLen:=by
   rcases hown.2 with ⟨rfl,h⟩ | ⟨g,cap,cur,rfl,_,_,h1,h2,_⟩
   ·omega
   ·exact ⟨g,cap,by rw [hn],by omega,h2⟩
  rw [hn] at hs hlen hown
  have hR0:=RSt.start hown
  clear hown hn
  obtain ⟨hcap,hcm⟩:=hcap
  go_enter Tryz.func133,Tryz.ntmps133
  go_wp2
  go_loopw [3] (fun i wr => ∃ k:Nat,1≤k∧k≤n∧i = .int .i64 k∧Hid (cmpct (L.take k)=L.take k)∧RSt W wr 85 4 g base n cap (L.flatMap cxCells)) (fun i _ => n - (intOf i).toNat)
  case atStart => exact ⟨1,Nat.le_refl _,by omega,rfl,Lib.hid (cmpct_one L),hR0⟩
  case round =>
   clear hR0
   obtain ⟨k,hk1,hk,rfl,Hc,hR⟩:=hrel
   by_cases hlt:k < n
   ·obtain ⟨x,hx⟩:∃ x,L[k - 1]? = some x:=⟨_,List.getElem?_eq_getElem (by rw [Hn.out];omega)⟩
    obtain ⟨y,hy⟩:∃ y,L[k]? = some y:=⟨_,List.getElem?_eq_getElem (by rw [Hn.out];omega)⟩
    obtain ⟨xp,xn,xd⟩:=x
    obtain ⟨yp,yn,yd⟩:=y
    have x0:wr.cell? ⟨g,(k - 1) * 4,none⟩=some (.string xp):=by
     have h:=hR.at (flat_at cxCells_len hx 0 _ rfl)
     simpa only [Nat.add_zero] using h
    have x1:wr.cell? ⟨g,(k - 1) * 4+1,none⟩=some (.string xn):=by
     have h:=hR.at (flat_at cxCells_len hx 1 _ rfl)
     simpa only [Nat.add_zero] using h
    have x2:wr.cell? ⟨g,(k - 1) * 4+2,none⟩=some (.int .i64 xd):=by
     have h:=hR.at (flat_at cxCells_len hx 2 _ rfl)
     simpa only [Nat.add_zero] using h
    have x3:wr.cell? ⟨g,(k - 1) * 4+3,none⟩=some (.bool false):=by
     have h:=hR.at (flat_at cxCells_len hx 3 _ rfl)
     simpa only [Nat.add_zero] using h
    have y0:wr.cell? ⟨g,k * 4,none⟩=some (.string yp):=by
     have h:=hR.at (flat_at cxCells_len hy 0 _ rfl)
     simpa only [Nat.add_zero] using h
    have y1:wr.cell? ⟨g,k * 4+1,none⟩=some (.string yn):=by
     have h:=hR.at (flat_at cxCells_len hy 1 _ rfl)
     simpa only [Nat.add_zero] using h
    have y2:wr.cell? ⟨g,k * 4+2,none⟩=some (.int .i64 yd):=by
     have h:=hR.at (flat_at cxCells_len hy 2 _ rfl)
     simpa only [Nat.add_zero] using h
    have y3:wr.cell? ⟨g,k * 4+3,none⟩=some (.bool false):=by
     have h:=hR.at (flat_at cxCells_len hy 3 _ rfl)
     simpa only [Nat.add_zero] using h
    have e1:IntKind.i64.wrap ((k:Int) - 1)=((k - 1:Nat):Int):=by rw [IntWalk.i64_in _ (by omega)];omega
    have hl1:((k - 1:Nat):Int) < (n:Int):=by omega
    have hl0:(k:Int) < (n:Int):=by omega
    have HX:=Lib.hid hx
    have HY:=Lib.hid hy
    clear hx hy
    go_wp2_with fail
    have HT0:=Lib.hid (toList_beq yp xp)
    cases t0:(yp.toList == xp.toList) with
    | false =>
     have Hne:Hid ((yp,yn,yd) ≠ (xp,xn,xd)):=Lib.hid (by rw [HT0.out,decide_eq_false_iff_not] at t0;exact fun e => t0 ((Prod.mk.inj e).1))
     go_quiet (fail)
     go_wp2
     go_roundw
     case rel => exact ⟨k+1,by omega,by omega,by go_num,Lib.hid (cmpct_full hk1 HX.out HY.out Hne.out Hc.out),hR.drewN _⟩
     case measure => simp [intOf];omega
    | true =>
     have HT1:=Lib.hid (toList_beq yn xn)
     cases t1:(yn.toList == xn.toList) with
     | false =>
      have Hne:Hid ((yp,yn,yd) ≠ (xp,xn,xd)):=Lib.hid (by rw [HT1.out,decide_eq_false_iff_not] at t1;exact fun e => t1 ((Prod.mk.inj (Prod.mk.inj e).2).1))
      go_quiet (fail)
      go_wp2
      go_roundw
      case rel => exact ⟨k+1,by omega,by omega,by go_num,Lib.hid (cmpct_full hk1 HX.out HY.out Hne.out Hc.out),hR.drewN _⟩
      case measure => simp [intOf];omega
     | true =>
      by_cases t2:yd=xd
      ·go_quiet (fail)
       have HE:Hid ((yp,yn,yd)=(xp,xn,xd)):=Lib.hid (by rw [HT0.out,decide_eq_true_eq] at t0;rw [HT1.out,decide_eq_true_eq] at t1;rw [t0,t1,t2])
       have HY2:Hid (L[k]? = some (xp,xn,xd)):=Lib.hid (by rw [← HE.out];exact HY.out)
       have hR1:=hR.drewN nq
       generalize wr.drewN nq=w1 at hR1 ⊢
       clear x0 x1 x2 x3 y0 y1 y2 y3 hR t0 t1 t2 e1 hl1
       go_wp2
       go_loopw [3,5] (fun s3 s5 wz => ∃ k2 kk:Nat,1≤k2∧k+k2≤n∧kk < k+k2∧s3 = .int .i64 kk∧s5 = .int .i64 k2∧Hid ((cmpct (L.take (k+k2))).length=kk)∧RSt W wz 85 4 g base n cap ((cRow L (k+k2)).flatMap cxCells)) (fun _ s5 _ => n - (intOf s5).toNat)
       case atStart =>
        have hh:=cRow_half hk1 HX.out HY2.out Hc.out
        exact ⟨1,k,Nat.le_refl _,by omega,by omega,rfl,rfl,Lib.hid hh.2,by rw [hh.1];exact hR1⟩
       case round =>
        clear hR1 hlt hl0
        obtain ⟨k2,kk,hk2,hkn,hkk,rfl,rfl,Hkk,hR⟩:=hrel
        by_cases hlt:k+k2 < n
        ·obtain ⟨x,hx⟩:∃ x,L[k+k2 - 1]? = some x:=⟨_,List.getElem?_eq_getElem (by rw [Hn.out];omega)⟩
         obtain ⟨y,hy⟩:∃ y,L[k+k2]? = some y:=⟨_,List.getElem?_eq_getElem (by rw [Hn.out];omega)⟩
         obtain ⟨z,hz⟩:∃ z,L[kk]? = some z:=⟨_,List.getElem?_eq_getElem (by rw [Hn.out];omega)⟩
         obtain ⟨up,un,ud⟩:=x
         obtain ⟨vp,vn,vd⟩:=y
         obtain ⟨op,on,od⟩:=z
         have hcx:=(cRow_high (L:=L) (m:=k+k2) (j:=k+k2 - 1) (by rw [Hkk.out];omega)).trans hx
         have hcy:=(cRow_high (L:=L) (m:=k+k2) (j:=k+k2) (by rw [Hkk.out];omega)).trans hy
         have hcz:=(cRow_high (L:=L) (m:=k+k2) (j:=kk) (by rw [Hkk.out];omega)).trans hz
         have x0:wr.cell? ⟨g,k * 4+(k2 - 1) * 4,none⟩=some (.string up):=by
          rw [show k * 4+(k2 - 1) * 4=(k+k2 - 1) * 4 by omega]
          have h:=hR.at (flat_at cxCells_len hcx 0 _ rfl)
          simpa only [Nat.add_zero] using h
         have x1:wr.cell? ⟨g,k * 4+(k2 - 1) * 4+1,none⟩=some (.string un):=by
          rw [show k * 4+(k2 - 1) * 4=(k+k2 - 1) * 4 by omega]
          have h:=hR.at (flat_at cxCells_len hcx 1 _ rfl)
          simpa only [Nat.add_zero] using h
         have x2:wr.cell? ⟨g,k * 4+(k2 - 1) * 4+2,none⟩=some (.int .i64 ud):=by
          rw [show k * 4+(k2 - 1) * 4=(k+k2 - 1) * 4 by omega]
          have h:=hR.at (flat_at cxCells_len hcx 2 _ rfl)
          simpa only [Nat.add_zero] using h
         have x3:wr.cell? ⟨g,k * 4+(k2 - 1) * 4+3,none⟩=some (.bool false):=by
          rw [show k * 4+(k2 - 1) * 4=(k+k2 - 1) * 4 by omega]
          have h:=hR.at (flat_at cxCells_len hcx 3 _ rfl)
          simpa only [Nat.add_zero] using h
         have y0:wr.cell? ⟨g,k * 4+k2 * 4,none⟩=some (.string vp):=by
          rw [show k * 4+k2 * 4=(k+k2) * 4 by omega]
          have h:=hR.at (flat_at cxCells_len hcy 0 _ rfl)
          simpa only [Nat.add_zero] using h
         have y1:wr.cell? ⟨g,k * 4+k2 * 4+1,none⟩=some (.string vn):=by
          rw [show k * 4+k2 * 4=(k+k2) * 4 by omega]
          have h:=hR.at (flat_at cxCells_len hcy 1 _ rfl)
          simpa only [Nat.add_zero] using h
         have y2:wr.cell? ⟨g,k * 4+k2 * 4+2,none⟩=some (.int .i64 vd):=by
          rw [show k * 4+k2 * 4=(k+k2) * 4 by omega]
          have h:=hR.at (flat_at cxCells_len hcy 2 _ rfl)
          simpa only [Nat.add_zero] using h
         have y3:wr.cell? ⟨g,k * 4+k2 * 4+3,none⟩=some (.bool false):=by
          rw [show k * 4+k2 * 4=(k+k2) * 4 by omega]
          have h:=hR.at (flat_at cxCells_len hcy 3 _ rfl)
          simpa only [Nat.add_zero] using h
         have z0:wr.cell? ⟨g,kk * 4,none⟩=some (.string op):=by
          have h:=hR.at (flat_at cxCells_len hcz 0 _ rfl)
          simpa only [Nat.add_zero] using h
         have z1:wr.cell? ⟨g,kk * 4+1,none⟩=some (.string on):=by
          have h:=hR.at (flat_at cxCells_len hcz 1 _ rfl)
          simpa only [Nat.add_zero] using h
         have z2:wr.cell? ⟨g,kk * 4+2,none⟩=some (.int .i64 od):=by
          have h:=hR.at (flat_at cxCells_len hcz 2 _ rfl)
          simpa only [Nat.add_zero] using h
         have z3:wr.cell? ⟨g,kk * 4+3,none⟩=some (.bool false):=by
          have h:=hR.at (flat_at cxCells_len hcz 3 _ rfl)
          simpa only [Nat.add_zero] using h
         have f0:=hR.ice (kk * 4)
         have f1:=hR.ice (kk * 4+1)
         have f2:=hR.ice (kk * 4+2)
         have f3:=hR.ice (kk * 4+3)
         have HX2:=Lib.hid hx
         have HZ2:=Lib.hid hz
         have HY3:=Lib.hid hy
         clear hx hy hz hcx hcy hcz
         have e1:IntKind.i64.wrap ((k2:Int) - 1)=((k2 - 1:Nat):Int):=by rw [IntWalk.i64_in _ (by omega)];omega
         have hl1:((k2 - 1:Nat):Int) < ((n - k:Nat):Int):=by omega
         have hl0:(k2:Int) < ((n - k:Nat):Int):=by omega
         go_wp2_with fail
         have HT0:=Lib.hid (toList_beq vp up)
         cases t0:(vp.toList == up.toList) with
         | false =>
          have Hne:Hid ((vp,vn,vd) ≠ (up,un,ud)):=Lib.hid (by rw [HT0.out,decide_eq_false_iff_not] at t0;exact fun e => t0 ((Prod.mk.inj e).1))
          have hst:=cxCells_keep (by omega) HX2.out HY3.out Hne.out Hkk.out HZ2.out
          have hR2:=Lib.hid fun q:Nat => ((((hR.drewN q).set (kk * 4) (.string vp)).set (kk * 4+1) (.string vn)).set (kk * 4+2) (.int .i64 vd)).set (kk * 4+3) (.bool false)
          have HS:=Lib.hid hst
          clear hst hR
          go_quiet (fail)
          go_wp2
          go_roundw
          case rel =>
           refine ⟨k2+1,kk+1,by omega,by omega,by omega,by go_num,by go_num,Lib.hid HS.out.2,?_⟩
           have:=hR2.out nq
           rwa [HS.out.1] at this
          case measure => simp [intOf];omega
         | true =>
          have HT1:=Lib.hid (toList_beq vn un)
          cases t1:(vn.toList == un.toList) with
          | false =>
           have Hne:Hid ((vp,vn,vd) ≠ (up,un,ud)):=Lib.hid (by rw [HT1.out,decide_eq_false_iff_not] at t1;exact fun e => t1 ((Prod.mk.inj (Prod.mk.inj e).2).1))
           have hst:=cxCells_keep (by omega) HX2.out HY3.out Hne.out Hkk.out HZ2.out
           have hR2:=Lib.hid fun q:Nat => ((((hR.drewN q).set (kk * 4) (.string vp)).set (kk * 4+1) (.string vn)).set (kk * 4+2) (.int .i64 vd)).set (kk * 4+3) (.bool false)
           have HS:=Lib.hid hst
           clear hst hR
           go_quiet (fail)
           go_wp2
           go_roundw
           case rel =>
            refine ⟨k2+1,kk+1,by omega,by omega,by omega,by go_num,by go_num,Lib.hid HS.out.2,?_⟩
            have:=hR2.out nq
            rwa [HS.out.1] at this
           case measure => simp [intOf];omega
          | true =>
           by_cases t2:vd=ud
           ·have HE:Hid ((vp,vn,vd)=(up,un,ud)):=Lib.hid (by rw [HT0.out,decide_eq_true_eq] at t0;rw [HT1.out,decide_eq_true_eq] at t1;rw [t0,t1,t2])
            have HY4:Hid (L[k+k2]? = some (up,un,ud)):=Lib.hid (by rw [← HE.out];exact HY3.out)
            have HS:=Lib.hid (And.intro (cRow_skip (by omega) HX2.out HY4.out) (cmpct_same' (by omega) HX2.out HY4.out))
            have hR2:=Lib.hid fun q:Nat => hR.drewN q
            clear hR
            go_quiet (fail)
            go_wp2
            go_roundw
            case rel => exact ⟨k2+1,kk,by omega,by omega,by omega,rfl,by go_num,Lib.hid (by rw [← Nat.add_assoc,HS.out.2];exact Hkk.out),by rw [← Nat.add_assoc,HS.out.1];exact hR2.out nq⟩
            case measure => simp [intOf];omega
           ·have Hne:Hid ((vp,vn,vd) ≠ (up,un,ud)):=Lib.hid (fun e => t2 ((Prod.mk.inj (Prod.mk.inj e).2).2))
            have hst:=cxCells_keep (by omega) HX2.out HY3.out Hne.out Hkk.out HZ2.out
            have hR2:=Lib.hid fun q:Nat => ((((hR.drewN q).set (kk * 4) (.string vp)).set (kk * 4+1) (.string vn)).set (kk * 4+2) (.int .i64 vd)).set (kk * 4+3) (.bool false)
            have HS:=Lib.hid hst
            clear hst hR
            go_quiet (fail)
            go_wp2
            go_roundw
            case rel =>
             refine ⟨k2+1,kk+1,by omega,by omega,by omega,by go_num,by go_num,Lib.hid HS.out.2,?_⟩
             have:=hR2.out nq
             rwa [HS.out.1] at this
            case measure => simp [intOf];omega
        ·have hend:k+k2=n:=by omega
         obtain ⟨vs,hcl⟩:=run_clear_own hR ul_chs _ cxCells_zv rfl (by intro u hu;simp [Value.cells] at hu;rcases hu with rfl | rfl | rfl | rfl <;> rfl) kk (cap - kk) (by omega) 0
         obtain ⟨os',hR3,hos⟩:=hR.sets vs (kk * 4) (kk * 4) (Nat.le_refl _)
         have hfin:=ownsRow_cut hR3.own kk (by omega)
         rw [hos] at hfin
         have hkl:(cmpct L).length=kk:=by have:=Hkk.out;rwa [hend,← Hn.out,List.take_length] at this
         have hrow:=cRow_end (enc:=cxCells) (m:=4) cxCells_len L
         rw [Hn.out,← hend,hkl] at hrow
         rw [hrow] at hfin
         have HF:=Lib.hid (And.intro hfin hR3.gr)
         have Hkl:=Lib.hid hkl
         clear hfin hrow hos hR3 hR hkl
         go_wp2
         go_ret
         refine ⟨_,rfl,?_,HF.out.2⟩
         rw [Hkl.out]
         exact HF.out.1
      ·have Hne:Hid ((yp,yn,yd) ≠ (xp,xn,xd)):=Lib.hid (fun e => t2 ((Prod.mk.inj (Prod.mk.inj e).2).2))
       go_quiet (fail)
       go_wp2
       go_roundw
       case rel => exact ⟨k+1,by omega,by omega,by go_num,Lib.hid (cmpct_full hk1 HX.out HY.out Hne.out Hc.out),hR.drewN _⟩
       case measure => simp [intOf];omega
   ·have hkn:k=n:=by omega
    subst hkn
    have hf:Hid (cmpct L=L):=Lib.hid (by have:=Hc.out;rwa [← Hn.out,List.take_length] at this)
    have HR:=Lib.hid hR
    clear hR
    go_wp2
    go_ret
    refine ⟨_,rfl,?_,HR.out.gr⟩
    rw [hf.out,Hn.out]
    exact HR.out.own
end Go.Proofs.YtcnpaciljmekcaaGreatDoor
