/- A part. -/
import Derived.Test.YthdeijdimfjceaaGreatDoorC02
import Derived.Test.YthdeijdimfjceaaGreatDoorCards
import Derived.Test.YthdeijdimfjceaaGreatDoorTie
namespace Go.Proofs.YthdeijdimfjceaaGreatDoor
open Go.ChangeShapes Go.WideShapes Go.ChangeAt Go.RowKit Go.Joins Go.Deep
set_option maxRecDepth 100000 in
theorem contractAd32 (H:Type) (enc:TypeId × Value→H) (W:World) (base:Nat) (args:Array Value) (ds gs:List (DataW H)) (before:List MemPlace)
  (hval:∀ (j:Nat) t v,Tryz.f5.params[j]? = some t→args[j]? = some v→Value.okWide Tryz.prog W .any base t v)
  (hW:DataW.Whole enc Tryz.prog Tryz.f5.params.toList Rows.scenarioAddsSpec.vars false W args.toList ds gs before) (hk:Rows.uptoSmall H (ds ++ gs)=true)
  (hL:laidMetH Tryz.prog Rows.scenarioAddsUptoRow.laid W) :
  Calls Tryz.prog 5 args W fun e W' => ∃ v,e = .returned v∧Rows.scenarioAddsSpec.post enc Tryz.prog Tryz.f5 false true false false W args v W':=by
 have hW':=hW
 obtain ⟨p,q,hA0,hV,rfl,hfz,hnd⟩:=hW
 have hA:DataW.TrodAll enc Tryz.prog W 0 (fun _ => true) true Tryz.f5.params.toList args.toList ds p:=hA0
 rw [Tryz.params5] at hA hval
 obtain ⟨v0,vs0,d0,ds0,p0,q0,hargs,rfl,rfl,h0,r0⟩:=trodAll_cons hA
 obtain ⟨v1,vs1,d1,ds1,p1,q1,rfl,rfl,rfl,h1,r1⟩:=trodAll_cons r0
 obtain ⟨v2,vs2,d2,ds2,p2,q2,rfl,rfl,rfl,h2,r2⟩:=trodAll_cons r1
 obtain ⟨v3,vs3,d3,ds3,p3,q3,rfl,rfl,rfl,h3,r3⟩:=trodAll_cons r2
 obtain ⟨v4,vs4,d4,ds4,p4,q4,rfl,rfl,rfl,h4,r4⟩:=trodAll_cons r3
 obtain ⟨v5,vs5,d5,ds5,p5,q5,rfl,rfl,rfl,h5,r5⟩:=trodAll_cons r4
 obtain ⟨v6,vs6,d6,ds6,p6,q6,rfl,rfl,rfl,h6,r6⟩:=trodAll_cons r5
 obtain ⟨rfl,rfl,rfl⟩:=trodAll_nil r6
 obtain rfl:args=#[v0,v1,v2,v3,v4,v5,v6]:=by cases args;simp_all
 obtain ⟨rfl,rfl⟩:=trodVars_none hV
 have k0:=h0
 have l0:∀ x ∈ p0,x.block < W.heap.size:=by obtain ⟨m,hm⟩:=k0;exact DataW.trod_lt m _ _ _ hm
 have k1:=h1
 have l1:∀ x ∈ p1,x.block < W.heap.size:=by obtain ⟨m,hm⟩:=k1;exact DataW.trod_lt m _ _ _ hm
 have k2:=h2
 have l2:∀ x ∈ p2,x.block < W.heap.size:=by obtain ⟨m,hm⟩:=k2;exact DataW.trod_lt m _ _ _ hm
 have k3:=h3
 have l3:∀ x ∈ p3,x.block < W.heap.size:=by obtain ⟨m,hm⟩:=k3;exact DataW.trod_lt m _ _ _ hm
 have k4:=h4
 have l4:∀ x ∈ p4,x.block < W.heap.size:=by obtain ⟨m,hm⟩:=k4;exact DataW.trod_lt m _ _ _ hm
 have k5:=h5
 have l5:∀ x ∈ p5,x.block < W.heap.size:=by obtain ⟨m,hm⟩:=k5;exact DataW.trod_lt m _ _ _ hm
 have k6:=h6
 have l6:∀ x ∈ p6,x.block < W.heap.size:=by obtain ⟨m,hm⟩:=k6;exact DataW.trod_lt m _ _ _ hm
 have hb:Rows.uptoBulkAll [d0,d1,d2,d3,d4,d5,d6]≤1048576:=by
  have h:Rows.uptoBulkAll ([d0,d1,d2,d3,d4,d5,d6] ++ [])≤1048576:=of_decide_eq_true hk
  rw [List.append_nil] at h
  exact h
 have hsum:Rows.uptoBulk d0+Rows.uptoBulk d1+Rows.uptoBulk d2+Rows.uptoBulk d3+Rows.uptoBulk d4+Rows.uptoBulk d5+Rows.uptoBulk d6≤1048576:=by
  simp only [Rows.uptoBulkAll] at hb
  omega
 obtain ⟨xs0,al0,cl0,rfl,hl0,hr0,hs0⟩:=open_scns (hval 0 _ v0 rfl rfl) h0 (by omega)
 obtain ⟨c1,es1,dd1,ss1,rfl,hr1,hc1⟩:=open_con (hval 1 _ v1 rfl rfl) h1
 obtain ⟨c2,es2,dd2,ss2,rfl,hr2,hc2⟩:=open_con (hval 2 _ v2 rfl rfl) h2
 obtain ⟨s3,rfl,rfl,rfl,_⟩:=Go.ChangeMaps.open_string Tryz.underlying9 (hval 3 9 v3 rfl rfl) h3
 have z3:=bulk_text (H:=H) s3
 obtain ⟨s4,rfl,rfl,rfl,_⟩:=Go.ChangeMaps.open_string Tryz.underlying9 (hval 4 9 v4 rfl rfl) h4
 have z4:=bulk_text (H:=H) s4
 obtain ⟨n5,rfl,rfl,rfl,w5⟩:=open_int Tryz.underlying3 (hval 5 3 v5 rfl rfl) h5
 obtain ⟨E,rfl,hE,hEf,hEc,hES⟩:=open_envS (hval 6 _ v6 rfl rfl) h6 (by omega)
 obtain ⟨hS,hP,hO⟩:=laid_look3 hL
 clear hA0
 refine (adds32_any xs0 c1 c2 _ _ _ _ _ _ s3 s4 n5 E al0 cl0 W hl0 hr0 hs0 ⟨by omega,hr1,hS,hP,hO,hE,hEf,hEc⟩ ⟨by omega,hr2,hS,hP,hO,hE,hEf,hEc⟩ hES (by omega) (by omega) (by omega)).mono fun e W' ⟨he,bel⟩ => ?_
 subst he
 exact ⟨_,rfl,_,_,_,[],_,[],hW',trodAll_mk1 (shut_bool Tryz.underlying4 _),
  trodAll_cons_mk (Below.trod laidOut10 (by kernel_rfl) (of_decide_eq_true (by kernel_rfl)) k0 bel l0) (trodAll_cons_mk (Below.trod laidOut10 (by kernel_rfl) (of_decide_eq_true (by kernel_rfl)) k1 bel l1) (trodAll_cons_mk (Below.trod laidOut10 (by kernel_rfl) (of_decide_eq_true (by kernel_rfl)) k2 bel l2) (trodAll_cons_mk (Below.trod laidOut10 (by kernel_rfl) (of_decide_eq_true (by kernel_rfl)) k3 bel l3) (trodAll_cons_mk (Below.trod laidOut10 (by kernel_rfl) (of_decide_eq_true (by kernel_rfl)) k4 bel l4) (trodAll_cons_mk (Below.trod laidOut10 (by kernel_rfl) (of_decide_eq_true (by kernel_rfl)) k5 bel l5) (trodAll_cons_mk (Below.trod laidOut10 (by kernel_rfl) (of_decide_eq_true (by kernel_rfl)) k6 bel l6) (trodAll_mk0))))))),
  rfl,bel.frame _,fun h => by cases h⟩
def argAd32:Array Value:=#[.slice none 0 0,.agg #[.int .u8 0,.string ⟨#[]⟩,.string ⟨#[]⟩,.string ⟨#[]⟩,.int .u8 0,.string ⟨#[]⟩,.string ⟨#[]⟩,.int .i64 0,.slice none 0 0,.int .i64 0,.slice none 0 0,.slice none 0 0],.agg #[.int .u8 0,.string ⟨#[]⟩,.string ⟨#[]⟩,.string ⟨#[]⟩,.int .u8 0,.string ⟨#[]⟩,.string ⟨#[]⟩,.int .i64 0,.slice none 0 0,.int .i64 0,.slice none 0 0,.slice none 0 0],.string ⟨#[]⟩,.string ⟨#[]⟩,.int .i64 0,.agg #[.slice none 0 0,.slice none 0 0]]
theorem metAd32 (os:Os):laidMetH Tryz.prog Rows.scenarioAddsUptoRow.laid ((World.doorLaid Tryz.prog 176 os).forCall (fun _ _ => 0) ⟨#[],argAd32,[]⟩).memory :=
 laidMetH_of_parts3 (fuel:=8) (laidMet_of_run' 8 (by kernel_rfl) (by kernel_rfl)) (by kernel_rfl) (by kernel_rfl)
theorem readsAd32 (os:Os) {H:Type} (enc:TypeId × Value→H):∃ places,DataW.whole enc Tryz.prog ((World.doorLaid Tryz.prog 176 os).forCall (fun _ _ => 0) ⟨#[],argAd32,[]⟩).memory Tryz.f5.params.toList Rows.scenarioAddsSpec.vars false argAd32.toList 8 =
  some ([.nil,.agg [.lit (.int .u8 0),.lit (.string []),.lit (.string []),.lit (.string []),.agg [.lit (.int .u8 0),.lit (.string []),.lit (.string []),.lit (.int .i64 0),.nil],.lit (.int .i64 0),.nil,.nil],.agg [.lit (.int .u8 0),.lit (.string []),.lit (.string []),.lit (.string []),.agg [.lit (.int .u8 0),.lit (.string []),.lit (.string []),.lit (.int .i64 0),.nil],.lit (.int .i64 0),.nil,.nil],.lit (.string []),.lit (.string []),.lit (.int .i64 0),.agg [.nil,.nil]],[],places) :=
 ⟨[],by kernel_rfl⟩
set_option maxRecDepth 100000 in
theorem liftedAd32 (os:Os) (started:os.Started) (H:Type) (enc:TypeId × Value→H) (F:Stop.Interp) :
  ReturnsInHanded {} Tryz.checked os 5 .any ((Rows.OpenSpec.upto Rows.scenarioAddsSpec).preRow enc Tryz.prog Tryz.f5 Rows.scenarioAddsUptoRow.domain false Rows.scenarioAddsUptoRow.laid) (((Rows.OpenSpec.upto Rows.scenarioAddsSpec).at F).post enc Tryz.prog Tryz.f5 false true false false):=by
 obtain ⟨places,hx⟩:=readsAd32 os enc
 refine returnsInHanded_of_row (C:=Tryz.checked) (s:=Rows.OpenSpec.upto Rows.scenarioAddsSpec) own10 started (by kernel_rfl) Tryz.func5
  (witness_row_atRef (enc:=enc) (C:=Tryz.checked) false (World.doorLaid Tryz.prog 176 os) argAd32 rfl (by kernel_rfl) (by kernel_rfl) (by kernel_rfl)
   (OpenSpec.preRow_of_cond 8 hx (by kernel_rfl) (fun k hk => by cases hk;kernel_rfl) (by kernel_rfl) (metAd32 os))) ?_
 intro W base args ds gs before hval hW _ hcond _ hL _ _
 exact contractAd32 H enc W base args ds gs before hval hW (hcond _ rfl) hL
theorem scenarioAdds_upto:Rows.ScenarioAddsUptoSaid :=
 OpenClaim.holds_of_cond 5 Tryz.f5 rfl rfl rfl rfl rfl rfl rfl ⟨rfl,rfl,rfl,rfl,rfl⟩ rfl rfl rfl rfl rfl (by kernel_rfl) Tryz.func5 (by kernel_rfl)
  (of_decide_eq_true (by kernel_rfl)) (by unfold Func.isWrapper;first | (rw [if_pos (by decide +kernel)];kernel_rfl) | (rw [if_neg (by decide +kernel)];exact ⟨rfl,rfl⟩))
  (fun os started H enc _ F => by rw [OpenClaim.pre_eq_preRow];exact liftedAd32 os started H enc F)
theorem plainAd32 (f : FuncId) (fn : Func) (hf : Tryz.pinned.checked.prog.funcNamed "novation/novationlaw32.ScenarioAdds" = some f) (hfn : Tryz.pinned.checked.prog.funcs[f]? = some fn) :
  true=Tryz.pinned.checked.prog.looks []∧∀ (j:Nat) t,fn.params[j]? = some t→Tryz.pinned.checked.prog.wantsStandIn t=false:=by
 obtain rfl : f = 5 := Option.some.inj ((show Tryz.prog.funcNamed "novation/novationlaw32.ScenarioAdds" = some 5 by kernel_rfl).symm.trans hf) |>.symm
 obtain rfl:fn=Tryz.f5:=(Option.some.inj (Tryz.func5.symm.trans hfn)).symm
 refine ⟨by kernel_rfl,fun j t ht => ?_⟩
 rw [Tryz.params5] at ht
 have hm:t ∈ [56,51,9,3,32]:=by simpa using Array.mem_of_getElem? ht
 have hall:([56,51,9,3,32].all fun u => !Tryz.prog.wantsStandIn u)=true:=by kernel_rfl
 exact (show Tryz.prog.wantsStandIn t=false by simpa using List.all_eq_true.1 hall t hm)
theorem scenarioAdds_card:Rows.ScenarioAddsUptoCardSaid :=
 Claim7.holds_tied_plain_at .later [] _ _ _ _ scenarioAdds_upto (fun _ h => by cases h) (by kernel_rfl) (fun _ h => by cases h) scenarioAddsUpto_row_tie rfl ⟨rfl,rfl⟩ (by kernel_rfl) rfl plainAd32 (by kernel_rfl)
#print axioms scenarioAdds_card
end Go.Proofs.YthdeijdimfjceaaGreatDoor
