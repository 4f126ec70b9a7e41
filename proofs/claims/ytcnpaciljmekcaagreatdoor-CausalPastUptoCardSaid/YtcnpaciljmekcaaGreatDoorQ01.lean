/- A part. -/
import Derived.Test.YtcnpaciljmekcaaGreatDoorN08
import Derived.Test.YtcnpaciljmekcaaGreatDoorCards
import Derived.Test.YtcnpaciljmekcaaGreatDoorTie
namespace Go.Proofs.YtcnpaciljmekcaaGreatDoor
open Go.RowKit
set_option maxHeartbeats 4000000 in
set_option maxRecDepth 100000 in
theorem past15_any (c:Con) (es dd ss:Value) (day last:Int) (E:EvD) (w:World) (hA:BfH c es dd ss E w) :
  Calls Tryz.prog 5 #[c.val es dd ss,.int .i64 day,.int .i64 last,E.val] w fun e w' => e = .returned (.bool true)∧Below w.heap.size w w':=by
 obtain ⟨p1,pn1,rfl⟩:=hA.rd.1.len
 obtain ⟨p2,pn2,rfl⟩:=hA.rd.2.1.len
 obtain ⟨p3,pn3,rfl⟩:=hA.rd.2.2.1.len
 obtain ⟨W0,hW0,hb0,hz0,bx⟩:=bx2_world w c (.slice p1 c.ex.sub.length pn1) (.slice p2 c.ds.length pn2) (.slice p3 c.sub.length pn3) E
 have hba:c.bulk≤1100000:=hA.bulk
 have HAl:Hid (∀ W,Below w.heap.size w W→Calls Tryz.prog 17 #[] W fun e w' => e = .returned (.bool true)∧Below W.heap.size W w'):=Lib.hid fun W hb => alive_any W (hA.frame hb).ls (hA.frame hb).lp
 have HG:=Lib.hid fun W (hb:Below w.heap.size w W) => cgreat_any c _ _ _ W (by omega) (hA.frame hb).rd
 have HE:Hid (∀ W,Below w.heap.size w W→Calls Tryz.prog 19 #[E.val] W (BoolPost W)):=Lib.hid fun W hb => (great_any E.F E.C E.af E.ac E.cf E.cc W hA.e.nf hA.e.nc (hA.frame hb).e.f (hA.frame hb).e.c hA.fs hA.cs).mono fun e w' h => .mk _ h.1 h.2
 have HH:=Lib.hid fun W (hb:Below w.heap.size w W) => heavy_any c _ _ _ E W (by omega) (hA.frame hb).rd (hA.frame hb).e
 have HK:=Lib.hid fun W (hb:Below w.heap.size w W) => known_any E.F E.C last E.af E.ac E.cf E.cc W hA.e.nf hA.e.nc (hA.frame hb).e.f (hA.frame hb).e.c hA.fs hA.cs
 have HC:=Lib.hid fun W (hb:Below w.heap.size w W) => causal_any c _ _ _ day W (by omega) (hA.frame hb).rd (hA.frame hb).ls (hA.frame hb).lp
 have HB:=Lib.hid fun W (hb:Below w.heap.size w W) => before_any c _ _ _ day (last+1) E W (hA.frame hb)
 have hlF:=knownF_len E.F E.C last
 have hlC:=knownC_len E.F E.C last
 have HB2:Hid (∀ W,Below w.heap.size w W→∀ a1 n1 a2 n2,Rd Fx.cells 3 W a1 (knownF E.F E.C last)→Rd Ch.cells 4 W a2 (knownC E.F E.C last)→Calls Tryz.prog 24 #[c.val (.slice p1 c.ex.sub.length pn1) (.slice p2 c.ds.length pn2) (.slice p3 c.sub.length pn3),.int .i64 day,.int .i64 (last+1),.agg #[.slice a1 (knownF E.F E.C last).length n1,.slice a2 (knownC E.F E.C last).length n2]] W (BfP W (befR c day (last+1) (knownF E.F E.C last) (knownC E.F E.C last)))):=Lib.hid fun W hb a1 n1 a2 n2 h1 h2 =>
  before_any c _ _ _ day (last+1) ⟨knownF E.F E.C last,knownC E.F E.C last,a1,a2,n1,n2⟩ W ⟨hba,(hA.frame hb).rd,(hA.frame hb).ls,(hA.frame hb).lp,(hA.frame hb).lo,⟨h1,h2,Nat.le_trans hlF hA.e.nf,Nat.le_trans hlC hA.e.nc⟩,fun f hf => hA.fs f (knownF_mem hf),fun f hf => hA.cs f (knownC_mem hf)⟩
 have HL:Hid (knownErr E.F E.C last=0→causErr c day=0→(0≤last∧last≤99999)∧befR c day (last+1) (knownF E.F E.C last) (knownC E.F E.C last)=befR c day (last+1) E.F E.C):=Lib.hid fun h1 h2 => past_fin h1 h2
 have HY:Hid ((befR c day (last+1) E.F E.C).2.length≤1100000):=Lib.hid (Nat.le_trans (befR_len _ _ _ _ _) hba)
 generalize befR c day (last+1) E.F E.C=R at HB HL HY
 generalize befR c day (last+1) (knownF E.F E.C last) (knownC E.F E.C last)=R2 at HB2 HL
 generalize knownErr E.F E.C last=ke at HK HL
 generalize knownF E.F E.C last=KF at HK HB2
 generalize knownC E.F E.C last=KC at HK HB2
 generalize causErr c day=ce at HC HL
 clear hA hlF hlC
 unfold Con.val EvD.val at *
 have HX:=Lib.hid bx
 have Hb0:=Lib.hid hb0
 clear bx hb0
 go_enter Tryz.func5,Tryz.ntmps5
 go_upto_region 1 with (fail)
 clear hW0
 go_wp2_with (first | (go_at_call 17;refine (HAl.out _ Hb0.out).mono ?_;rintro e w1 ⟨rfl,hb1⟩;have hbA:=Hb0.out.trans (hb1.mono Hb0.out.size);have hB1:=HX.out.below hb1;obtain ⟨k0,k1,k2,k3,k4,k5,k6,k7,k8,k9,k10,k11,v0,v1⟩:=hB1.all) | (go_at_call 18;refine (HG.out _ hbA).mono ?_;rintro e w2 ⟨⟨b1,rfl⟩,hb2⟩;have hbB:=hbA.trans (hb2.mono hbA.size);have hB2:=hB1.below hb2;clear k0 k1 k2 k3 k4 k5 k6 k7 k8 k9 k10 k11 v0 v1;obtain ⟨k0,k1,k2,k3,k4,k5,k6,k7,k8,k9,k10,k11,v0,v1⟩:=hB2.all;cases b1) | (go_at_call 19;refine (HE.out _ hbB).mono ?_;rintro e w3 ⟨⟨b2,rfl⟩,hb3⟩;have hbC:=hbB.trans (hb3.mono hbB.size);have hB3:=hB2.below hb3;clear k0 k1 k2 k3 k4 k5 k6 k7 k8 k9 k10 k11 v0 v1;obtain ⟨k0,k1,k2,k3,k4,k5,k6,k7,k8,k9,k10,k11,v0,v1⟩:=hB3.all;cases b2) | (go_at_call 20;refine (HH.out _ hbC).mono ?_;rintro e w4 ⟨⟨b3,rfl⟩,hb4⟩;have hbD:=hbC.trans (hb4.mono hbC.size);have hB4:=hB3.below hb4;clear k0 k1 k2 k3 k4 k5 k6 k7 k8 k9 k10 k11 v0 v1;obtain ⟨k0,k1,k2,k3,k4,k5,k6,k7,k8,k9,k10,k11,v0,v1⟩:=hB4.all;cases b3))
 all_goals try (go_ret;first | exact ⟨rfl,hbD⟩ | exact ⟨rfl,hbC⟩ | exact ⟨rfl,hbB⟩)
 clear HAl HG HE HH hB1 hB2 hB3 hb1 hb2 hb3 hb4 hbA hbB hbC HX Hb0
 refine (HK.out _ hbD).mono ?_
 rintro e w5 ⟨a1,n1,a2,n2,rfl,ho1,ho2,hb5⟩
 have hbE:=hbD.trans (hb5.mono hbD.size)
 have hz5:=hb5.size
 have hB5:=hB4.below hb5
 obtain ⟨W6,hW6,hb6,bx6⟩:∃ W,w5.alloc (.cells #[.slice a1 KF.length n1,.slice a2 KC.length n2] 33)=W∧Below w5.heap.size w5 W∧BoxN W w5.heap.size 33 [.slice a1 KF.length n1,.slice a2 KC.length n2]:=⟨_,rfl,below_a1 _ _,BoxN.new w5 _ _⟩
 have hbF:=hbE.trans (hb6.mono hbE.size)
 have hB6:=hB5.below hb6
 have R1:=Lib.hid ((rd_fx ho1).below hb6)
 have R3:=Lib.hid ((rd_ch ho2).below hb6)
 clear k0 k1 k2 k3 k4 k5 k6 k7 k8 k9 k10 k11 v0 v1 ho1 ho2 hB4 HK
 obtain ⟨k0,k1,k2,k3,k4,k5,k6,k7,k8,k9,k10,k11,v0,v1⟩:=hB6.all
 by_cases hk:ke=0
 case neg =>
  have t1:(ke != 0)=true:=by rw [bne_iff_ne];exact hk
  go_wp2
  go_ret
  exact ⟨rfl,hbF⟩
 subst hk
 go_wp2_with fail
 clear hW6
 refine (HC.out _ hbF).mono ?_
 rintro e w7 ⟨rfl,hb7⟩
 have hbG:=hbF.trans (hb7.mono hbF.size)
 have hB7:=hB6.below hb7
 have bx7:=bx6.below hb7 bx6.lt
 by_cases hc:ce=0
 case neg =>
  have t1:(ce != 0)=true:=by rw [bne_iff_ne];exact hc
  go_wp2
  go_ret
  exact ⟨rfl,hbG⟩
 subst hc
 obtain ⟨⟨hl0,hl1⟩,rfl⟩:=HL.out (by simp) (by simp)
 have hw:IntKind.i64.wrap (last+1)=last+1:=IntWalk.i64_in _ (by omega)
 clear k0 k1 k2 k3 k4 k5 k6 k7 k8 k9 k10 k11 v0 v1 HL HC hB6
 obtain ⟨k0,k1,k2,k3,k4,k5,k6,k7,k8,k9,k10,k11,v0,v1⟩:=hB7.all
 go_wp2_with fail
 refine (HB.out _ hbG).mono ?_
 rintro e w8 ⟨ad8,cp8,rfl,hb8,l8,n8,r8⟩
 have hbH:=hbG.trans (hb8.mono hbG.size)
 have hB8:=hB7.below hb8
 have bx8:=bx7.below hb8 bx7.lt
 have u0:w8.cell? ⟨w5.heap.size,0,none⟩=some (.slice a1 KF.length n1):=bx8.cell (j:=0) rfl
 have u1:w8.cell? ⟨w5.heap.size,1,none⟩=some (.slice a2 KC.length n2):=bx8.cell (j:=1) rfl
 clear k0 k1 k2 k3 k4 k5 k6 k7 k8 k9 k10 k11 v0 v1 hB7
 obtain ⟨k0,k1,k2,k3,k4,k5,k6,k7,k8,k9,k10,k11,v0,v1⟩:=hB8.all
 go_wp2_with fail
 refine (HB2.out _ hbH _ _ _ _ ((R1.out.below hb7).below hb8) ((R3.out.below hb7).below hb8)).mono ?_
 rintro e w9 ⟨ad9,cp9,rfl,hb9,l9,n9,r9⟩
 have HbI:=Lib.hid (hbH.trans (hb9.mono hbH.size))
 have r8':=r8.below hb9
 obtain ⟨ef,L⟩:=R2
 have hq:(ef == ef)=true:=beq_self_eq_true ef
 have HS:=Lib.hid (sameFl_any L ad8 ad9 cp8 cp9 w9 HY.out r8' r9)
 clear k0 k1 k2 k3 k4 k5 k6 k7 k8 k9 k10 k11 v0 v1 u0 u1 hB8 HB HB2 R1 R3 r8 r8' r9 hb9 hb8 hb7 hb6 hb5 bx6 bx7 bx8 hbD hbE hbF hbG hbH hB5 HY hw l8 l9 n8 n9
 go_wp2_with fail
 refine HS.out.mono ?_
 rintro e w10 ⟨rfl,hb10⟩
 have HbJ:=Lib.hid (HbI.out.trans (hb10.mono HbI.out.size))
 clear hb10
 go_wp2
 go_ret
 exact ⟨rfl,HbJ.out⟩
end Go.Proofs.YtcnpaciljmekcaaGreatDoor

namespace Go.Proofs.YtcnpaciljmekcaaGreatDoor
open Go.ChangeShapes Go.WideShapes Go.ChangeAt Go.RowKit Go.Joins Go.Deep
set_option maxRecDepth 100000 in
theorem contractPs15 (H:Type) (enc:TypeId × Value→H) (W:World) (base:Nat) (args:Array Value) (ds gs:List (DataW H)) (before:List MemPlace)
  (hval:∀ (j:Nat) t v,Tryz.f5.params[j]? = some t→args[j]? = some v→Value.okWide Tryz.prog W .any base t v)
  (hW:DataW.Whole enc Tryz.prog Tryz.f5.params.toList Rows.causalPastSpec.vars false W args.toList ds gs before) (hk:Rows.uptoSmall H (ds ++ gs)=true)
  (hL:laidMetH Tryz.prog Rows.causalPastUptoRow.laid W) :
  Calls Tryz.prog 5 args W fun e W' => ∃ v,e = .returned v∧Rows.causalPastSpec.post enc Tryz.prog Tryz.f5 false true false false W args v W':=by
 have hW':=hW
 obtain ⟨p,q,hA0,hV,rfl,hfz,hnd⟩:=hW
 have hA:DataW.TrodAll enc Tryz.prog W 0 (fun _ => true) true Tryz.f5.params.toList args.toList ds p:=hA0
 rw [Tryz.params5] at hA hval
 obtain ⟨v0,vs0,d0,ds0,p0,q0,hargs,rfl,rfl,h0,r0⟩:=trodAll_cons hA
 obtain ⟨v1,vs1,d1,ds1,p1,q1,rfl,rfl,rfl,h1,r1⟩:=trodAll_cons r0
 obtain ⟨v2,vs2,d2,ds2,p2,q2,rfl,rfl,rfl,h2,r2⟩:=trodAll_cons r1
 obtain ⟨v3,vs3,d3,ds3,p3,q3,rfl,rfl,rfl,h3,r3⟩:=trodAll_cons r2
 obtain ⟨rfl,rfl,rfl⟩:=trodAll_nil r3
 obtain rfl:args=#[v0,v1,v2,v3]:=by cases args;simp_all
 obtain ⟨rfl,rfl⟩:=trodVars_none hV
 have k0:=h0
 have l0:∀ x ∈ p0,x.block < W.heap.size:=by obtain ⟨m,hm⟩:=k0;exact DataW.trod_lt m _ _ _ hm
 have k1:=h1
 have l1:∀ x ∈ p1,x.block < W.heap.size:=by obtain ⟨m,hm⟩:=k1;exact DataW.trod_lt m _ _ _ hm
 have k2:=h2
 have l2:∀ x ∈ p2,x.block < W.heap.size:=by obtain ⟨m,hm⟩:=k2;exact DataW.trod_lt m _ _ _ hm
 have k3:=h3
 have l3:∀ x ∈ p3,x.block < W.heap.size:=by obtain ⟨m,hm⟩:=k3;exact DataW.trod_lt m _ _ _ hm
 have hb:Rows.uptoBulkAll [d0,d1,d2,d3]≤1048576:=by
  have h:Rows.uptoBulkAll ([d0,d1,d2,d3] ++ [])≤1048576:=of_decide_eq_true hk
  rw [List.append_nil] at h
  exact h
 have hsum:Rows.uptoBulk d0+Rows.uptoBulk d1+Rows.uptoBulk d2+Rows.uptoBulk d3≤1048576:=by
  simp only [Rows.uptoBulkAll] at hb
  omega
 obtain ⟨c0,es0,dd0,ss0,rfl,hr0,hc0⟩:=open_con (hval 0 _ v0 rfl rfl) h0
 obtain ⟨n1,rfl,rfl,rfl,w1⟩:=open_int Tryz.underlying3 (hval 1 3 v1 rfl rfl) h1
 obtain ⟨n2,rfl,rfl,rfl,w2⟩:=open_int Tryz.underlying3 (hval 2 3 v2 rfl rfl) h2
 obtain ⟨E,rfl,hE,hEf,hEc,hFf,hCf⟩:=open_envE (hval 3 _ v3 rfl rfl) h3 (by omega)
 obtain ⟨hS,hP,hO⟩:=laid_look3 hL
 clear hA0
 refine (past15_any c0 _ _ _ n1 n2 E W ⟨by omega,hr0,hS,hP,hO,hE,hEf,hEc⟩).mono fun e W' ⟨he,bel⟩ => ?_
 subst he
 exact ⟨_,rfl,_,_,_,[],_,[],hW',trodAll_mk1 (shut_bool Tryz.underlying4 _),
  trodAll_cons_mk (Below.trod laidOut10 (by kernel_rfl) (of_decide_eq_true (by kernel_rfl)) k0 bel l0) (trodAll_cons_mk (Below.trod laidOut10 (by kernel_rfl) (of_decide_eq_true (by kernel_rfl)) k1 bel l1) (trodAll_cons_mk (Below.trod laidOut10 (by kernel_rfl) (of_decide_eq_true (by kernel_rfl)) k2 bel l2) (trodAll_cons_mk (Below.trod laidOut10 (by kernel_rfl) (of_decide_eq_true (by kernel_rfl)) k3 bel l3) (trodAll_mk0)))),
  rfl,bel.frame _,fun h => by cases h⟩
def argPs15:Array Value:=#[.agg #[.int .u8 0,.string ⟨#[]⟩,.string ⟨#[]⟩,.string ⟨#[]⟩,.int .u8 0,.string ⟨#[]⟩,.string ⟨#[]⟩,.int .i64 0,.slice none 0 0,.int .i64 0,.slice none 0 0,.slice none 0 0],.int .i64 0,.int .i64 0,.agg #[.slice none 0 0,.slice none 0 0]]
theorem metPs15 (os:Os):laidMetH Tryz.prog Rows.causalPastUptoRow.laid ((World.doorLaid Tryz.prog 176 os).forCall (fun _ _ => 0) ⟨#[],argPs15,[]⟩).memory :=
 laidMetH_of_parts3 (fuel:=8) (laidMet_of_run' 8 (by kernel_rfl) (by kernel_rfl)) (by kernel_rfl) (by kernel_rfl)
theorem readsPs15 (os:Os) {H:Type} (enc:TypeId × Value→H):∃ places,DataW.whole enc Tryz.prog ((World.doorLaid Tryz.prog 176 os).forCall (fun _ _ => 0) ⟨#[],argPs15,[]⟩).memory Tryz.f5.params.toList Rows.causalPastSpec.vars false argPs15.toList 8 =
  some ([.agg [.lit (.int .u8 0),.lit (.string []),.lit (.string []),.lit (.string []),.agg [.lit (.int .u8 0),.lit (.string []),.lit (.string []),.lit (.int .i64 0),.nil],.lit (.int .i64 0),.nil,.nil],.lit (.int .i64 0),.lit (.int .i64 0),.agg [.nil,.nil]],[],places) :=
 ⟨[],by kernel_rfl⟩
set_option maxRecDepth 100000 in
theorem liftedPs15 (os:Os) (started:os.Started) (H:Type) (enc:TypeId × Value→H) (F:Stop.Interp) :
  ReturnsInHanded {} Tryz.checked os 5 .any ((Rows.OpenSpec.upto Rows.causalPastSpec).preRow enc Tryz.prog Tryz.f5 Rows.causalPastUptoRow.domain false Rows.causalPastUptoRow.laid) (((Rows.OpenSpec.upto Rows.causalPastSpec).at F).post enc Tryz.prog Tryz.f5 false true false false):=by
 obtain ⟨places,hx⟩:=readsPs15 os enc
 refine returnsInHanded_of_row (C:=Tryz.checked) (s:=Rows.OpenSpec.upto Rows.causalPastSpec) own10 started (by kernel_rfl) Tryz.func5
  (witness_row_atRef (enc:=enc) (C:=Tryz.checked) false (World.doorLaid Tryz.prog 176 os) argPs15 rfl (by kernel_rfl) (by kernel_rfl) (by kernel_rfl)
   (OpenSpec.preRow_of_cond 8 hx (by kernel_rfl) (fun k hk => by cases hk;kernel_rfl) (by kernel_rfl) (metPs15 os))) ?_
 intro W base args ds gs before hval hW _ hcond _ hL _ _
 exact contractPs15 H enc W base args ds gs before hval hW (hcond _ rfl) hL
theorem causalPast_upto:Rows.CausalPastUptoSaid :=
 OpenClaim.holds_of_cond 5 Tryz.f5 rfl rfl rfl rfl rfl rfl rfl ⟨rfl,rfl,rfl,rfl,rfl⟩ rfl rfl rfl rfl rfl (by kernel_rfl) Tryz.func5 (by kernel_rfl)
  (of_decide_eq_true (by kernel_rfl)) (by unfold Func.isWrapper;first | (rw [if_pos (by decide +kernel)];kernel_rfl) | (rw [if_neg (by decide +kernel)];exact ⟨rfl,rfl⟩))
  (fun os started H enc _ F => by rw [OpenClaim.pre_eq_preRow];exact liftedPs15 os started H enc F)
theorem plainPs15 (f : FuncId) (fn : Func) (hf : Tryz.pinned.checked.prog.funcNamed "novation/novationlaw15.CausalPast" = some f) (hfn : Tryz.pinned.checked.prog.funcs[f]? = some fn) :
  true=Tryz.pinned.checked.prog.looks []∧∀ (j:Nat) t,fn.params[j]? = some t→Tryz.pinned.checked.prog.wantsStandIn t=false:=by
 obtain rfl : f = 5 := Option.some.inj ((show Tryz.prog.funcNamed "novation/novationlaw15.CausalPast" = some 5 by kernel_rfl).symm.trans hf) |>.symm
 obtain rfl:fn=Tryz.f5:=(Option.some.inj (Tryz.func5.symm.trans hfn)).symm
 refine ⟨by kernel_rfl,fun j t ht => ?_⟩
 rw [Tryz.params5] at ht
 have hm:t ∈ [29,3,33]:=by simpa using Array.mem_of_getElem? ht
 have hall:([29,3,33].all fun u => !Tryz.prog.wantsStandIn u)=true:=by kernel_rfl
 exact (show Tryz.prog.wantsStandIn t=false by simpa using List.all_eq_true.1 hall t hm)
theorem causalPast_card:Rows.CausalPastUptoCardSaid :=
 Claim7.holds_tied_plain_at .later [] _ _ _ _ causalPast_upto (fun _ h => by cases h) (by kernel_rfl) (fun _ h => by cases h) causalPastUpto_row_tie rfl ⟨rfl,rfl⟩ (by kernel_rfl) rfl plainPs15 (by kernel_rfl)
#print axioms causalPast_card
end Go.Proofs.YtcnpaciljmekcaaGreatDoor
