/-
  CausalFinds: causal.Needs, Deadlines, Days and Causal answer what the reference answers, and leave the contract as it was, for every contract and day that together hold at most 1048576 values and letters; the tables contract.parts and observable.shapes as the program's text lays them.
-/
import Derived.Test.YtkonookacfmfgaaGreatDoorC42
import Derived.Test.YtkonookacfmfgaaGreatDoorF01
import Derived.Test.YtkonookacfmfgaaGreatDoorCards
import Derived.Test.YtkonookacfmfgaaGreatDoorTie
import Derived.WalkKit
import Derived.ProofKit
import Derived.OpenShut
import Derived.Deep.DeepHandedRow
import Derived.Deep.DeepWitnessRowRef
import Derived.LaidMore
namespace Go.Proofs.YtkonookacfmfgaaGreatDoor
open Go.ChangeShapes Go.WideShapes Go.ChangeAt Go.RowKit Go.Joins Go.Deep
theorem own15 : ownKnob Tryz.prog.godebug = none := by kernel_rfl
theorem laidOut15 : laidOutB Tryz.prog = true := by kernel_rfl
set_option maxRecDepth 100000 in
theorem open_con {H : Type} {enc : TypeId × Value → H} {W : World} {base : Nat} {sp : Nat → Bool} {held : Bool} {v : Value} {d : DataW H} {p : List MemPlace}
  (hv : Value.okWide Tryz.prog W .any base 29 v) (h : DataW.Trod enc Tryz.prog W 0 sp held 29 v d p) :
  ∃ (c : Con) (es dd ss : Value), v = c.val es dd ss ∧ RdN W c es dd ss ∧ c.bulk ≤ Rows.uptoBulk d := by
 obtain ⟨n, h⟩ := h
 obtain ⟨cs, rfl⟩ : ∃ cs, v = .agg cs := by
  unfold Value.okWide at hv
  cases v with
  | agg cs => exact ⟨cs, rfl⟩
  | _ => simp [Tryz.underlying29] at hv
 have hl : (Value.agg cs).cells.toList.length = 12 := by
  obtain ⟨_, _, _, _, hl, _⟩ := DataW.trod_struct Tryz.underlying29 h
  rw [hl]; exact cells_con
 obtain ⟨c, es, dd, ss, hc, hr, hb⟩ := dec_con n _ _ hl h
 refine ⟨c, es, dd, ss, ?_, hr, hb⟩
 have : cs = (c.cells es dd ss).toArray := by
  cases cs
  simp [Value.cells] at hc
  rw [hc]
 rw [this]
 rfl
set_option maxRecDepth 100000 in
theorem contractO (H : Type) (enc : TypeId × Value → H) (W : World) (base : Nat) (args : Array Value) (ds gs : List (DataW H)) (before : List MemPlace)
  (hval : ∀ (j : Nat) t v, Tryz.f3.params[j]? = some t → args[j]? = some v → Value.okWide Tryz.prog W .any base t v)
  (hW : DataW.Whole enc Tryz.prog Tryz.f3.params.toList Rows.causalFindsSpec.vars false W args.toList ds gs before) (hk : Rows.uptoSmall H (ds ++ gs) = true)
  (hL : laidMetH Tryz.prog Rows.causalFindsUptoRow.laid W) :
  Calls Tryz.prog 3 args W fun e W' => ∃ v, e = .returned v ∧ Rows.causalFindsSpec.post enc Tryz.prog Tryz.f3 false true false false W args v W' := by
 have hW' := hW
 obtain ⟨p, q, hA0, hV, rfl, hfz, hnd⟩ := hW
 have hA : DataW.TrodAll enc Tryz.prog W 0 (fun _ => true) true Tryz.f3.params.toList args.toList ds p := hA0
 rw [Tryz.params3] at hA hval
 obtain ⟨v0, vs0, d0, ds0, p0, q0, hargs, rfl, rfl, h0, r0⟩ := trodAll_cons hA
 obtain ⟨v1, vs1, d1, ds1, p1, q1, rfl, rfl, rfl, h1, r1⟩ := trodAll_cons r0
 obtain ⟨rfl, rfl, rfl⟩ := trodAll_nil r1
 obtain rfl : args = #[v0, v1] := by cases args; simp_all
 obtain ⟨rfl, rfl⟩ := trodVars_none hV
 have l0 : ∀ x ∈ p0, x.block < W.heap.size := by obtain ⟨m, hm⟩ := h0; exact DataW.trod_lt m _ _ _ hm
 have hb : Rows.uptoBulkAll [d0, d1] ≤ 1048576 := by
  have h : Rows.uptoBulkAll ([d0, d1] ++ []) ≤ 1048576 := of_decide_eq_true hk
  rw [List.append_nil] at h
  exact h
 have b0 : Rows.uptoBulk d0 ≤ 1048576 := Nat.le_trans (bulk_part (by simp)) hb
 obtain ⟨c, es, dd, ss, rfl, hr, hc⟩ := open_con (hval 0 _ v0 rfl rfl) h0
 obtain ⟨day, rfl, rfl, rfl, w1⟩ := open_int Tryz.underlying3 (hval 1 3 v1 rfl rfl) h1
 obtain ⟨hS, hP⟩ := laid_look hL
 clear hA0
 refine (finds_any c es dd ss day W (by omega) hr hS hP).mono fun e W' ⟨he, bel⟩ => ?_
 subst he
 exact ⟨_, rfl, _, _, _, [], _, [], hW', trodAll_mk1 (shut_bool Tryz.underlying4 _),
  trodAll_cons_mk (Below.trod laidOut15 (by kernel_rfl) (of_decide_eq_true (by kernel_rfl)) h0 bel l0) (trodAll_cons_mk (shut_int Tryz.underlying3 w1) trodAll_mk0),
  rfl, bel.frame _, fun h => by cases h⟩
def argO : Array Value := #[.agg #[.int .u8 0, .string ⟨#[]⟩, .string ⟨#[]⟩, .string ⟨#[]⟩, .int .u8 0, .string ⟨#[]⟩, .string ⟨#[]⟩, .int .i64 0, .slice none 0 0, .int .i64 0, .slice none 0 0, .slice none 0 0], .int .i64 0]
theorem metO (os : Os) : laidMetH Tryz.prog Rows.causalFindsUptoRow.laid ((World.doorLaid Tryz.prog 146 os).forCall (fun _ _ => 0) ⟨#[], argO, []⟩).memory :=
 laidMetH_of_parts3 (fuel := 8) (laidMet_of_run' 8 (by kernel_rfl) (by kernel_rfl)) (by kernel_rfl) (by kernel_rfl)
theorem readsO (os : Os) {H : Type} (enc : TypeId × Value → H) : ∃ places, DataW.whole enc Tryz.prog ((World.doorLaid Tryz.prog 146 os).forCall (fun _ _ => 0) ⟨#[], argO, []⟩).memory Tryz.f3.params.toList Rows.causalFindsSpec.vars false argO.toList 8 =
  some ([.agg [.lit (.int .u8 0), .lit (.string []), .lit (.string []), .lit (.string []), .agg [.lit (.int .u8 0), .lit (.string []), .lit (.string []), .lit (.int .i64 0), .nil], .lit (.int .i64 0), .nil, .nil], .lit (.int .i64 0)], [], places) :=
 ⟨[], by kernel_rfl⟩
set_option maxRecDepth 100000 in
theorem liftedO (os : Os) (started : os.Started) (H : Type) (enc : TypeId × Value → H) (F : Stop.Interp) :
  ReturnsInHanded {} Tryz.checked os 3 .any ((Rows.OpenSpec.upto Rows.causalFindsSpec).preRow enc Tryz.prog Tryz.f3 Rows.causalFindsUptoRow.domain false Rows.causalFindsUptoRow.laid) (((Rows.OpenSpec.upto Rows.causalFindsSpec).at F).post enc Tryz.prog Tryz.f3 false true false false) := by
 obtain ⟨places, hx⟩ := readsO os enc
 refine returnsInHanded_of_row (C := Tryz.checked) (s := Rows.OpenSpec.upto Rows.causalFindsSpec) own15 started (by kernel_rfl) Tryz.func3
  (witness_row_atRef (enc := enc) (C := Tryz.checked) false (World.doorLaid Tryz.prog 146 os) argO rfl (by kernel_rfl) (by kernel_rfl) (by kernel_rfl)
   (OpenSpec.preRow_of_cond 8 hx (by kernel_rfl) (fun k hk => by cases hk; kernel_rfl) (by kernel_rfl) (metO os))) ?_
 intro W base args ds gs before hval hW _ hcond _ hL _ _
 exact contractO H enc W base args ds gs before hval hW (hcond _ rfl) hL
theorem causalFinds_upto : Rows.CausalFindsUptoSaid :=
 OpenClaim.holds_of_cond 3 Tryz.f3 rfl rfl rfl rfl rfl rfl rfl ⟨rfl, rfl, rfl, rfl, rfl⟩ rfl rfl rfl rfl rfl (by kernel_rfl) Tryz.func3 (by kernel_rfl)
  (of_decide_eq_true (by kernel_rfl)) (by unfold Func.isWrapper; first | (rw [if_pos (by decide +kernel)]; kernel_rfl) | (rw [if_neg (by decide +kernel)]; exact ⟨rfl, rfl⟩))
  (fun os started H enc _ F => by rw [OpenClaim.pre_eq_preRow]; exact liftedO os started H enc F)
theorem plainO (f : FuncId) (fn : Func) (hf : Tryz.pinned.checked.prog.funcNamed "novation/novationlaw15.CausalFinds" = some f) (hfn : Tryz.pinned.checked.prog.funcs[f]? = some fn) :
  false = Tryz.pinned.checked.prog.looks [] ∧ ∀ (j : Nat) t, fn.params[j]? = some t → Tryz.pinned.checked.prog.wantsStandIn t = false := by
 obtain rfl : f = 3 := Option.some.inj ((show Tryz.prog.funcNamed "novation/novationlaw15.CausalFinds" = some 3 by kernel_rfl).symm.trans hf) |>.symm
 obtain rfl : fn = Tryz.f3 := (Option.some.inj (Tryz.func3.symm.trans hfn)).symm
 refine ⟨by kernel_rfl, fun j t ht => ?_⟩
 rw [Tryz.params3] at ht
 have hm : t ∈ [29, 3] := by simpa using Array.mem_of_getElem? ht
 have hall : ([29, 3].all fun u => !Tryz.prog.wantsStandIn u) = true := by kernel_rfl
 exact (show Tryz.prog.wantsStandIn t = false by simpa using List.all_eq_true.1 hall t hm)
theorem causalFinds_card : Rows.CausalFindsUptoCardSaid :=
 Claim7.holds_tied_plain_at .later [] _ _ _ _ causalFinds_upto (fun _ h => by cases h) (by kernel_rfl) (fun _ h => by cases h) causalFindsUpto_row_tie rfl ⟨rfl, rfl⟩ (by kernel_rfl) rfl plainO (by kernel_rfl)
#print axioms causalFinds_card
end Go.Proofs.YtkonookacfmfgaaGreatDoor
