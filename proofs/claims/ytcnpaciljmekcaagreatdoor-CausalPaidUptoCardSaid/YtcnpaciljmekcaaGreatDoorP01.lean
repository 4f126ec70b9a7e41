/- A part. -/
import Derived.Test.YtcnpaciljmekcaaGreatDoorN06
import Derived.Test.YtcnpaciljmekcaaGreatDoorCards
import Derived.Test.YtcnpaciljmekcaaGreatDoorTie
namespace Go.Proofs.YtcnpaciljmekcaaGreatDoor
open Go.RowKit
set_option maxHeartbeats 4000000 in
set_option maxRecDepth 100000 in
theorem paid15_any (c:Con) (es dd ss:Value) (day:Int) (E:EvD) (w:World) (hA:BfH c es dd ss E w) :
  Calls Tryz.prog 4 #[c.val es dd ss,.int .i64 day,E.val] w fun e w' => e = .returned (.bool true)∧Below w.heap.size w w':=by
 obtain ⟨p1,pn1,rfl⟩:=hA.rd.1.len
 obtain ⟨p2,pn2,rfl⟩:=hA.rd.2.1.len
 obtain ⟨p3,pn3,rfl⟩:=hA.rd.2.2.1.len
 obtain ⟨W0,hW0,hb0,hz0,bx⟩:=bx2_world w c (.slice p1 c.ex.sub.length pn1) (.slice p2 c.ds.length pn2) (.slice p3 c.sub.length pn3) E
 have hba:c.bulk≤1100000:=hA.bulk
 have HAl:Hid (∀ W,Below w.heap.size w W→Calls Tryz.prog 17 #[] W fun e w' => e = .returned (.bool true)∧Below W.heap.size W w'):=Lib.hid fun W hb => alive_any W (hA.frame hb).ls (hA.frame hb).lp
 have HG:=Lib.hid fun W (hb:Below w.heap.size w W) => cgreat_any c _ _ _ W (by omega) (hA.frame hb).rd
 have HE:Hid (∀ W,Below w.heap.size w W→Calls Tryz.prog 19 #[E.val] W (BoolPost W)):=Lib.hid fun W hb => (great_any E.F E.C E.af E.ac E.cf E.cc W hA.e.nf hA.e.nc (hA.frame hb).e.f (hA.frame hb).e.c hA.fs hA.cs).mono fun e w' h => .mk _ h.1 h.2
 have HH:=Lib.hid fun W (hb:Below w.heap.size w W) => heavy_any c _ _ _ E W (by omega) (hA.frame hb).rd (hA.frame hb).e
 have HD:=Lib.hid fun W (hb:Below w.heap.size w W) => causalDays_any c _ _ _ day W (by omega) (hA.frame hb).rd (hA.frame hb).ls (hA.frame hb).lp
 have HF:=Lib.hid fun W (hb:Below w.heap.size w W) => mflows_any c _ _ _ day E W (hA.frame hb)
 have HL:Hid ((befR c day 100000 E.F E.C).1=0→visErr c day=0∧∀ f ∈ (befR c day 100000 E.F E.C).2,f.d ∈ ySet c day):=Lib.hid fun h => paid_fin h
 have HY:Hid ((befR c day 100000 E.F E.C).2.length≤1100000):=Lib.hid (Nat.le_trans (befR_len _ _ _ _ _) hba)
 generalize befR c day 100000 E.F E.C=R at HF HL HY
 generalize visErr c day=er at HD HL
 have hly:(ySet c day).length≤4000000000000:=by
  unfold ySet uniq
  split
  ·exact Nat.le_trans (cmpct_len _) (by rw [List.length_mergeSort];exact (Con.found_len c day (by omega) (visEvs_prefix c day)).2.2)
  ·exact Nat.zero_le _
 generalize ySet c day=Y at HD HL hly
 clear hA
 unfold Con.val EvD.val at *
 have HX:=Lib.hid bx
 have Hb0:=Lib.hid hb0
 clear bx hb0
 go_enter Tryz.func4,Tryz.ntmps4
 go_upto_region 1 with (fail)
 clear hW0
 go_wp2_with (first | (go_at_call 17;refine (HAl.out _ Hb0.out).mono ?_;rintro e w1 ⟨rfl,hb1⟩;have hbA:=Hb0.out.trans (hb1.mono Hb0.out.size);have hB1:=HX.out.below hb1;obtain ⟨k0,k1,k2,k3,k4,k5,k6,k7,k8,k9,k10,k11,v0,v1⟩:=hB1.all) | (go_at_call 18;refine (HG.out _ hbA).mono ?_;rintro e w2 ⟨⟨b1,rfl⟩,hb2⟩;have hbB:=hbA.trans (hb2.mono hbA.size);have hB2:=hB1.below hb2;clear k0 k1 k2 k3 k4 k5 k6 k7 k8 k9 k10 k11 v0 v1;obtain ⟨k0,k1,k2,k3,k4,k5,k6,k7,k8,k9,k10,k11,v0,v1⟩:=hB2.all;cases b1) | (go_at_call 19;refine (HE.out _ hbB).mono ?_;rintro e w3 ⟨⟨b2,rfl⟩,hb3⟩;have hbC:=hbB.trans (hb3.mono hbB.size);have hB3:=hB2.below hb3;clear k0 k1 k2 k3 k4 k5 k6 k7 k8 k9 k10 k11 v0 v1;obtain ⟨k0,k1,k2,k3,k4,k5,k6,k7,k8,k9,k10,k11,v0,v1⟩:=hB3.all;cases b2) | (go_at_call 20;refine (HH.out _ hbC).mono ?_;rintro e w4 ⟨⟨b3,rfl⟩,hb4⟩;have hbD:=hbC.trans (hb4.mono hbC.size);have hB4:=hB3.below hb4;clear k0 k1 k2 k3 k4 k5 k6 k7 k8 k9 k10 k11 v0 v1;obtain ⟨k0,k1,k2,k3,k4,k5,k6,k7,k8,k9,k10,k11,v0,v1⟩:=hB4.all;cases b3))
 all_goals try (go_ret;first | exact ⟨rfl,hbD⟩ | exact ⟨rfl,hbC⟩ | exact ⟨rfl,hbB⟩)
 clear HAl HG HE HH hB1 hB2 hB3 hb1 hb2 hb3 hb4 hbA hbB hbC HX Hb0
 refine (HD.out _ hbD).mono ?_
 rintro e w5 ⟨v,rfl,hown,hb5⟩
 obtain ⟨ay,cy,rfl,hy⟩:=RdDy.own hown
 have hbE:=hbD.trans (hb5.mono hbD.size)
 have hB5:=hB4.below hb5
 clear k0 k1 k2 k3 k4 k5 k6 k7 k8 k9 k10 k11 v0 v1 hown HD hB4 hbD
 obtain ⟨k0,k1,k2,k3,k4,k5,k6,k7,k8,k9,k10,k11,v0,v1⟩:=hB5.all
 go_wp2_with fail
 refine (HF.out _ hbE).mono ?_
 rintro e w6 ⟨ad6,cp6,rfl,hb6,l6,n6,r6⟩
 have HbF:=Lib.hid (hbE.trans (hb6.mono hbE.size))
 have RL:=Lib.hid r6
 have RY:Hid (∀ k x,Y[k]? = some x→∃ b off,ay=some ⟨b,off,none⟩∧w6.cell? ⟨b,off+k,none⟩=some (.int .i64 x)):=Lib.hid fun k x hk => by
  obtain ⟨b,off,e,h⟩:=hy k x hk
  exact ⟨b,off,e,by rw [hb6.cell (p:=⟨b,off+k,none⟩) (World.block_lt_of_cell? w5 _ h)];exact h⟩
 clear k0 k1 k2 k3 k4 k5 k6 k7 k8 k9 k10 k11 v0 v1 hy r6 hb5 hb6 hbE hB5 HF l6 n6
 obtain ⟨ef,L⟩:=R
 have hll:L.length≤1100000:=HY.out
 clear HY
 by_cases hf:ef=0
 case neg =>
  have t1:(ef != 0)=true:=by rw [bne_iff_ne];exact hf
  go_wp2
  go_ret
  exact ⟨rfl,HbF.out⟩
 subst hf
 obtain ⟨rfl,hin⟩:=HL.out rfl
 have HIn:Hid (∀ f ∈ L,f.d ∈ Y):=Lib.hid hin
 obtain ⟨n,hn⟩:∃ n,L.length=n:=⟨_,rfl⟩
 obtain ⟨m,hm⟩:∃ m,Y.length=m:=⟨_,rfl⟩
 have HN:=Lib.hid hn
 have HM:=Lib.hid hm
 simp only [hn,hm] at hll hly ⊢
 clear hin HL hn hm
 go_wp2_with fail
 go_loopw [12,13,14] (fun i _ _ wr => ∃ k:Nat,k≤n∧i = .int .i64 (k:Int)∧∃ q,wr=w6.drewN q) (fun i _ _ _ => n - (intOf i).toNat)
 case atStart => exact ⟨0,Nat.zero_le _,rfl,0,rfl⟩
 case round =>
  obtain ⟨k,hk,rfl,q0,rfl⟩:=hrel
  by_cases hkn:k < n
  ·obtain ⟨x,hx⟩:∃ x,L[k]? = some x:=⟨_,List.getElem?_eq_getElem (by rw [HN.out];exact hkn)⟩
   obtain ⟨ba,oa,rfl,x0,x1,x2,x3,x4⟩:=RL.out.fl hx
   have HX:Hid (x.d ∈ Y):=Lib.hid (HIn.out _ (List.mem_of_getElem? hx))
   have hkn0:(k:Int) < (n:Int):=by omega
   clear hx x1 x2 x3 x4
   go_upto_block 2 with fail
   go_cut [13,14] from 54 to 72 (fun s _ wc => s = .bool true∧∃ q,wc=w6.drewN q)
   case first =>
    go_wp2_with fail
    go_loopw [13,14] (fun s i wr => ∃ k2:Nat,k2≤m∧i = .int .i64 (k2:Int)∧s = .bool (eqB (x.d ∈ Y.take k2))∧∃ q,wr=w6.drewN q) (fun _ i _ => m - (intOf i).toNat)
    case atStart => exact ⟨0,Nat.zero_le _,rfl,by rw [List.take_zero,eqB_false (p:=_ ∈ ([]:List Int)) (List.not_mem_nil)],_,rfl⟩
    case round =>
     obtain ⟨k2,hk2,rfl,rfl,q,rfl⟩:=hrel
     by_cases hkm:k2 < m
     ·obtain ⟨y,hy⟩:∃ y,Y[k2]? = some y:=⟨_,List.getElem?_eq_getElem (by rw [HM.out];exact hkm)⟩
      obtain ⟨bo,oo,rfl,y0⟩:=RY.out k2 _ hy
      have hkm0:(k2:Int) < (m:Int):=by omega
      have HS:Hid ((eqB (x.d ∈ Y.take (k2+1)))=((eqB (x.d ∈ Y.take k2)) || decide (y=x.d))):=Lib.hid (by rw [mem_step hy])
      have hq:(y == x.d)=decide (y=x.d):=rfl
      clear hy
      generalize (eqB (x.d ∈ Y.take k2))=s0 at HS ⊢
      generalize decide (y=x.d)=s2 at HS hq
      cases s0
      all_goals
       go_wp2_with fail
       go_quiet (fail)
       go_wp2
       go_roundw
       case rel => exact ⟨k2+1,by omega,by go_num,by rw [HS.out];rfl,_,rfl⟩
       case measure => simp [intOf];omega
     ·obtain rfl:k2=m:=by omega
      have HF:Hid (eqB (x.d ∈ Y.take k2)=true):=Lib.hid (by rw [List.take_of_length_le (by rw [HM.out];exact Nat.le_refl _)];exact eqB_true HX.out)
      rw [HF.out]
      go_wp2
      go_meet
      exact ⟨rfl,_,rfl⟩
   case rest =>
    obtain ⟨rfl,q1,rfl⟩:=hcut
    go_wp2
    go_roundw
    case rel => exact ⟨k+1,by omega,by go_num,_,rfl⟩
    case measure => simp [intOf];omega
  ·go_wp2
   go_ret
   exact ⟨rfl,below_drewN HbF.out _⟩
end Go.Proofs.YtcnpaciljmekcaaGreatDoor

namespace Go.Proofs.YtcnpaciljmekcaaGreatDoor
open Go.ChangeShapes Go.WideShapes Go.ChangeAt Go.RowKit Go.Joins Go.Deep
set_option maxRecDepth 100000 in
theorem contractPd15 (H:Type) (enc:TypeId × Value→H) (W:World) (base:Nat) (args:Array Value) (ds gs:List (DataW H)) (before:List MemPlace)
  (hval:∀ (j:Nat) t v,Tryz.f4.params[j]? = some t→args[j]? = some v→Value.okWide Tryz.prog W .any base t v)
  (hW:DataW.Whole enc Tryz.prog Tryz.f4.params.toList Rows.causalPaidSpec.vars false W args.toList ds gs before) (hk:Rows.uptoSmall H (ds ++ gs)=true)
  (hL:laidMetH Tryz.prog Rows.causalPaidUptoRow.laid W) :
  Calls Tryz.prog 4 args W fun e W' => ∃ v,e = .returned v∧Rows.causalPaidSpec.post enc Tryz.prog Tryz.f4 false true false false W args v W':=by
 have hW':=hW
 obtain ⟨p,q,hA0,hV,rfl,hfz,hnd⟩:=hW
 have hA:DataW.TrodAll enc Tryz.prog W 0 (fun _ => true) true Tryz.f4.params.toList args.toList ds p:=hA0
 rw [Tryz.params4] at hA hval
 obtain ⟨v0,vs0,d0,ds0,p0,q0,hargs,rfl,rfl,h0,r0⟩:=trodAll_cons hA
 obtain ⟨v1,vs1,d1,ds1,p1,q1,rfl,rfl,rfl,h1,r1⟩:=trodAll_cons r0
 obtain ⟨v2,vs2,d2,ds2,p2,q2,rfl,rfl,rfl,h2,r2⟩:=trodAll_cons r1
 obtain ⟨rfl,rfl,rfl⟩:=trodAll_nil r2
 obtain rfl:args=#[v0,v1,v2]:=by cases args;simp_all
 obtain ⟨rfl,rfl⟩:=trodVars_none hV
 have k0:=h0
 have l0:∀ x ∈ p0,x.block < W.heap.size:=by obtain ⟨m,hm⟩:=k0;exact DataW.trod_lt m _ _ _ hm
 have k1:=h1
 have l1:∀ x ∈ p1,x.block < W.heap.size:=by obtain ⟨m,hm⟩:=k1;exact DataW.trod_lt m _ _ _ hm
 have k2:=h2
 have l2:∀ x ∈ p2,x.block < W.heap.size:=by obtain ⟨m,hm⟩:=k2;exact DataW.trod_lt m _ _ _ hm
 have hb:Rows.uptoBulkAll [d0,d1,d2]≤1048576:=by
  have h:Rows.uptoBulkAll ([d0,d1,d2] ++ [])≤1048576:=of_decide_eq_true hk
  rw [List.append_nil] at h
  exact h
 have hsum:Rows.uptoBulk d0+Rows.uptoBulk d1+Rows.uptoBulk d2≤1048576:=by
  simp only [Rows.uptoBulkAll] at hb
  omega
 obtain ⟨c0,es0,dd0,ss0,rfl,hr0,hc0⟩:=open_con (hval 0 _ v0 rfl rfl) h0
 obtain ⟨n1,rfl,rfl,rfl,w1⟩:=open_int Tryz.underlying3 (hval 1 3 v1 rfl rfl) h1
 obtain ⟨E,rfl,hE,hEf,hEc,hFf,hCf⟩:=open_envE (hval 2 _ v2 rfl rfl) h2 (by omega)
 obtain ⟨hS,hP,hO⟩:=laid_look3 hL
 clear hA0
 refine (paid15_any c0 _ _ _ n1 E W ⟨by omega,hr0,hS,hP,hO,hE,hEf,hEc⟩).mono fun e W' ⟨he,bel⟩ => ?_
 subst he
 exact ⟨_,rfl,_,_,_,[],_,[],hW',trodAll_mk1 (shut_bool Tryz.underlying4 _),
  trodAll_cons_mk (Below.trod laidOut10 (by kernel_rfl) (of_decide_eq_true (by kernel_rfl)) k0 bel l0) (trodAll_cons_mk (Below.trod laidOut10 (by kernel_rfl) (of_decide_eq_true (by kernel_rfl)) k1 bel l1) (trodAll_cons_mk (Below.trod laidOut10 (by kernel_rfl) (of_decide_eq_true (by kernel_rfl)) k2 bel l2) (trodAll_mk0))),
  rfl,bel.frame _,fun h => by cases h⟩
def argPd15:Array Value:=#[.agg #[.int .u8 0,.string ⟨#[]⟩,.string ⟨#[]⟩,.string ⟨#[]⟩,.int .u8 0,.string ⟨#[]⟩,.string ⟨#[]⟩,.int .i64 0,.slice none 0 0,.int .i64 0,.slice none 0 0,.slice none 0 0],.int .i64 0,.agg #[.slice none 0 0,.slice none 0 0]]
theorem metPd15 (os:Os):laidMetH Tryz.prog Rows.causalPaidUptoRow.laid ((World.doorLaid Tryz.prog 176 os).forCall (fun _ _ => 0) ⟨#[],argPd15,[]⟩).memory :=
 laidMetH_of_parts3 (fuel:=8) (laidMet_of_run' 8 (by kernel_rfl) (by kernel_rfl)) (by kernel_rfl) (by kernel_rfl)
theorem readsPd15 (os:Os) {H:Type} (enc:TypeId × Value→H):∃ places,DataW.whole enc Tryz.prog ((World.doorLaid Tryz.prog 176 os).forCall (fun _ _ => 0) ⟨#[],argPd15,[]⟩).memory Tryz.f4.params.toList Rows.causalPaidSpec.vars false argPd15.toList 8 =
  some ([.agg [.lit (.int .u8 0),.lit (.string []),.lit (.string []),.lit (.string []),.agg [.lit (.int .u8 0),.lit (.string []),.lit (.string []),.lit (.int .i64 0),.nil],.lit (.int .i64 0),.nil,.nil],.lit (.int .i64 0),.agg [.nil,.nil]],[],places) :=
 ⟨[],by kernel_rfl⟩
set_option maxRecDepth 100000 in
theorem liftedPd15 (os:Os) (started:os.Started) (H:Type) (enc:TypeId × Value→H) (F:Stop.Interp) :
  ReturnsInHanded {} Tryz.checked os 4 .any ((Rows.OpenSpec.upto Rows.causalPaidSpec).preRow enc Tryz.prog Tryz.f4 Rows.causalPaidUptoRow.domain false Rows.causalPaidUptoRow.laid) (((Rows.OpenSpec.upto Rows.causalPaidSpec).at F).post enc Tryz.prog Tryz.f4 false true false false):=by
 obtain ⟨places,hx⟩:=readsPd15 os enc
 refine returnsInHanded_of_row (C:=Tryz.checked) (s:=Rows.OpenSpec.upto Rows.causalPaidSpec) own10 started (by kernel_rfl) Tryz.func4
  (witness_row_atRef (enc:=enc) (C:=Tryz.checked) false (World.doorLaid Tryz.prog 176 os) argPd15 rfl (by kernel_rfl) (by kernel_rfl) (by kernel_rfl)
   (OpenSpec.preRow_of_cond 8 hx (by kernel_rfl) (fun k hk => by cases hk;kernel_rfl) (by kernel_rfl) (metPd15 os))) ?_
 intro W base args ds gs before hval hW _ hcond _ hL _ _
 exact contractPd15 H enc W base args ds gs before hval hW (hcond _ rfl) hL
theorem causalPaid_upto:Rows.CausalPaidUptoSaid :=
 OpenClaim.holds_of_cond 4 Tryz.f4 rfl rfl rfl rfl rfl rfl rfl ⟨rfl,rfl,rfl,rfl,rfl⟩ rfl rfl rfl rfl rfl (by kernel_rfl) Tryz.func4 (by kernel_rfl)
  (of_decide_eq_true (by kernel_rfl)) (by unfold Func.isWrapper;first | (rw [if_pos (by decide +kernel)];kernel_rfl) | (rw [if_neg (by decide +kernel)];exact ⟨rfl,rfl⟩))
  (fun os started H enc _ F => by rw [OpenClaim.pre_eq_preRow];exact liftedPd15 os started H enc F)
theorem plainPd15 (f : FuncId) (fn : Func) (hf : Tryz.pinned.checked.prog.funcNamed "novation/novationlaw15.CausalPaid" = some f) (hfn : Tryz.pinned.checked.prog.funcs[f]? = some fn) :
  true=Tryz.pinned.checked.prog.looks []∧∀ (j:Nat) t,fn.params[j]? = some t→Tryz.pinned.checked.prog.wantsStandIn t=false:=by
 obtain rfl : f = 4 := Option.some.inj ((show Tryz.prog.funcNamed "novation/novationlaw15.CausalPaid" = some 4 by kernel_rfl).symm.trans hf) |>.symm
 obtain rfl:fn=Tryz.f4:=(Option.some.inj (Tryz.func4.symm.trans hfn)).symm
 refine ⟨by kernel_rfl,fun j t ht => ?_⟩
 rw [Tryz.params4] at ht
 have hm:t ∈ [29,3,33]:=by simpa using Array.mem_of_getElem? ht
 have hall:([29,3,33].all fun u => !Tryz.prog.wantsStandIn u)=true:=by kernel_rfl
 exact (show Tryz.prog.wantsStandIn t=false by simpa using List.all_eq_true.1 hall t hm)
theorem causalPaid_card:Rows.CausalPaidUptoCardSaid :=
 Claim7.holds_tied_plain_at .later [] _ _ _ _ causalPaid_upto (fun _ h => by cases h) (by kernel_rfl) (fun _ h => by cases h) causalPaidUpto_row_tie rfl ⟨rfl,rfl⟩ (by kernel_rfl) rfl plainPd15 (by kernel_rfl)
#print axioms causalPaid_card
end Go.Proofs.YtcnpaciljmekcaaGreatDoor
