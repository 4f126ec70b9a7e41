/-
  CausalKnows: causal.Known and causal.Only answer as the reference does, for every knowledge, day, needs and choices that together hold at most 1048576 values and letters; the arguments read afterwards as before.
-/
import Derived.Test.YtofbngpckllkoaaPart09
import Derived.Test.YtofbngpckllkoaaPart15
import Derived.WalkKit
import Derived.ProofKit
import Derived.OpenShut
import Derived.JoinedCond
import Derived.ChangeOld
namespace Go.Proofs.Ytofbngpckllkoaa
open Go.ChangeShapes Go.WideShapes Go.ChangeAt Go.RowKit Go.Joins Go.Deep

theorem own15 : ownKnob Try.prog.godebug = none := by kernel_rfl
theorem laidOut15 : laidOutB Try.prog = true := by kernel_rfl
theorem env_open : ∃ f0 f1 : Field, Try.prog.underlying 25 = some (.struct #[f0, f1]) ∧ oneCellFields Try.prog #[f0, f1] = true ∧ f0.type = 22 ∧ f1.type = 23 :=
  ⟨_, _, Try.underlying25, by kernel_rfl, rfl, rfl⟩
theorem env_cells : Try.prog.cellsOf 25 = 2 := by kernel_rfl
theorem fx_cells : Try.prog.cellsOf 39 = 3 := by kernel_rfl
theorem ch_cells : Try.prog.cellsOf 41 = 4 := by kernel_rfl
theorem nd_cells : Try.prog.cellsOf 53 = 2 := by kernel_rfl

set_option maxRecDepth 100000 in
theorem contract15 (H : Type) (enc : TypeId × Value → H) (W : World) (base : Nat) (args : Array Value) (ds gs : List (DataW H)) (before : List MemPlace)
    (hval : ∀ (j : Nat) t v, Try.f3.params[j]? = some t → args[j]? = some v → Value.okWide Try.prog W .any base t v)
    (hW : DataW.Whole enc Try.prog Try.f3.params.toList Rows.causalKnowsSpec.vars false W args.toList ds gs before) (hk : Rows.uptoSmall H (ds ++ gs) = true) :
    Calls Try.prog 3 args W fun e W' => ∃ v, e = .returned v ∧ Rows.causalKnowsSpec.post enc Try.prog Try.f3 false true false false W args v W' := by
  have hW' := hW
  obtain ⟨p, q, hA0, hV, rfl, hfz, hnd⟩ := hW
  have hA : DataW.TrodAll enc Try.prog W 0 (fun _ => true) true Try.f3.params.toList args.toList ds p := hA0
  rw [Try.params3] at hA hval
  obtain ⟨v0, vs0, d0, ds0, p0, q0, hargs, rfl, rfl, h0, r0⟩ := trodAll_cons hA
  obtain ⟨v1, vs1, d1, ds1, p1, q1, rfl, rfl, rfl, h1, r1⟩ := trodAll_cons r0
  obtain ⟨v2, vs2, d2, ds2, p2, q2, rfl, rfl, rfl, h2, r2⟩ := trodAll_cons r1
  obtain ⟨v3, vs3, d3, ds3, p3, q3, rfl, rfl, rfl, h3, r3⟩ := trodAll_cons r2
  obtain ⟨rfl, rfl, rfl⟩ := trodAll_nil r3
  obtain rfl : args = #[v0, v1, v2, v3] := by cases args; simp_all
  obtain ⟨rfl, rfl⟩ := trodVars_none hV
  have k0 := h0
  have k2 := h2
  have k3 := h3
  have l0 : ∀ x ∈ p0, x.block < W.heap.size := by obtain ⟨m, hm⟩ := k0; exact DataW.trod_lt m _ _ _ hm
  have l2 : ∀ x ∈ p2, x.block < W.heap.size := by obtain ⟨m, hm⟩ := k2; exact DataW.trod_lt m _ _ _ hm
  have l3 : ∀ x ∈ p3, x.block < W.heap.size := by obtain ⟨m, hm⟩ := k3; exact DataW.trod_lt m _ _ _ hm
  have hb : Rows.uptoBulkAll [d0, d1, d2, d3] ≤ 1048576 := by
    have h : Rows.uptoBulkAll ([d0, d1, d2, d3] ++ []) ≤ 1048576 := of_decide_eq_true hk
    rw [List.append_nil] at h
    exact h
  have b0 : Rows.uptoBulk d0 ≤ 1048576 := Nat.le_trans (bulk_part (by simp)) hb
  have b2 : Rows.uptoBulk d2 ≤ 1048576 := Nat.le_trans (bulk_part (by simp)) hb
  have b3 : Rows.uptoBulk d3 ≤ 1048576 := Nat.le_trans (bulk_part (by simp)) hb
  have hv0 : Value.okWide Try.prog W .any base 25 v0 := hval 0 _ _ rfl rfl
  obtain ⟨f0, f1, e0, e1, e2, e3⟩ := env_open
  obtain ⟨va, vb, ya, yb, n, rfl, rfl, rfl, ta, tb⟩ := open_agg2 e0 e1 env_cells hv0 h0
  rw [e2] at ta
  rw [e3] at tb
  have ba : Rows.uptoBulk ya.1 ≤ 1048576 := Nat.le_trans (bulk_agg (by simp)) b0
  have bb : Rows.uptoBulk yb.1 ≤ 1048576 := Nat.le_trans (bulk_agg (by simp)) b0
  obtain ⟨day, rfl, rfl, rfl, w1⟩ := open_int Try.underlying3 (hval 1 3 v1 rfl rfl) h1
  obtain ⟨an, len2, cap2, rfl⟩ := okWide_slice Try.underlying26 (hval 2 26 v2 rfl rfl)
  obtain ⟨ak, len3, cap3, rfl⟩ := okWide_slice Try.underlying23 (hval 3 23 v3 rfl rfl)
  obtain ⟨n2, h2⟩ := h2
  obtain ⟨n3, h3⟩ := h3
  obtain ⟨af, cf, fs, rfl, haf, sf, lf, gf⟩ := open_list Fx.cells 3 (fun _ => rfl) (by decide) (fun f d => f.fits ∧ (Rows.uptoBulk d ≤ 1048576 → f.small)) Try.underlying22 fx_cells (fun _ _ _ hl h => dec_fx hl h) ta
  obtain ⟨ac, cc, cs, rfl, hac, sc, lc, gc⟩ := open_list Ch.cells 4 (fun _ => rfl) (by decide) (fun f d => f.fits ∧ (Rows.uptoBulk d ≤ 1048576 → f.small)) Try.underlying23 ch_cells (fun _ _ _ hl h => dec_ch hl h) tb
  obtain ⟨an', cn', ns, hn2, _, sn, ln, gn⟩ := open_list Nd.cells 2 (fun _ => rfl) (by decide) (fun f d => (Rows.uptoBulk d ≤ 1048576 → f.small)) Try.underlying26 nd_cells (fun _ _ _ hl h => dec_nd hl h) h2
  obtain ⟨ak', ck', ks, hk2, _, sk, lk, gk⟩ := open_list Ch.cells 4 (fun _ => rfl) (by decide) (fun f d => f.fits ∧ (Rows.uptoBulk d ≤ 1048576 → f.small)) Try.underlying23 ch_cells (fun _ _ _ hl h => dec_ch hl h) h3
  change ns.length ≤ Rows.uptoBulk d2 at ln
  change ks.length ≤ Rows.uptoBulk d3 at lk
  change ∀ x ∈ ns, ∃ d, _ ∧ Rows.uptoBulk d ≤ Rows.uptoBulk d2 at gn
  change ∀ x ∈ ks, ∃ d, _ ∧ Rows.uptoBulk d ≤ Rows.uptoBulk d3 at gk
  obtain ⟨rfl, rfl, rfl⟩ := Value.slice.inj hn2
  obtain ⟨rfl, rfl, rfl⟩ := Value.slice.inj hk2
  have Rf := Rd.of_sl (enc := Fx.cells) (m := 3) (fun _ => rfl) (by decide) sf
  have Rc := Rd.of_sl (enc := Ch.cells) (m := 4) (fun _ => rfl) (by decide) sc
  have Rn := Rd.of_sl (enc := Nd.cells) (m := 2) (fun _ => rfl) (by decide) sn
  have Rk := Rd.of_sl (enc := Ch.cells) (m := 4) (fun _ => rfl) (by decide) sk
  clear hA0
  refine (law15_any fs cs ns ks day af ac an ak cf cc cap2 cap3 W (by omega) (by omega) (by omega) (by omega) Rf Rc Rn Rk sf sc haf hac
    (fun f hf => by obtain ⟨d, ⟨_, h⟩, hd⟩ := gf f hf; exact h (by omega)) (fun f hf => by obtain ⟨d, ⟨_, h⟩, hd⟩ := gc f hf; exact h (by omega)) (fun f hf => by obtain ⟨d, h, hd⟩ := gn f hf; exact h (by omega))
    (fun f hf => by obtain ⟨d, ⟨hh, h⟩, hd⟩ := gk f hf; exact ⟨h (by omega), hh⟩) (fun f hf => by obtain ⟨d, ⟨hh, _⟩, hd⟩ := gf f hf; exact hh) (fun f hf => by obtain ⟨d, ⟨hh, _⟩, hd⟩ := gc f hf; exact hh)).mono fun e W' ⟨he, bel⟩ => ?_
  subst he
  exact ⟨_, rfl, _, _, _, [], _, [], hW', trodAll_mk1 (shut_bool Try.underlying4 _),
    trodAll_cons_mk (Below.trod laidOut15 (by kernel_rfl) (of_decide_eq_true (by kernel_rfl)) k0 bel l0) (trodAll_cons_mk (shut_int Try.underlying3 w1) (trodAll_cons_mk (Below.trod laidOut15 (by kernel_rfl) (of_decide_eq_true (by kernel_rfl)) k2 bel l2) (trodAll_cons_mk (Below.trod laidOut15 (by kernel_rfl) (of_decide_eq_true (by kernel_rfl)) k3 bel l3) trodAll_mk0))),
    rfl, bel.frame _, fun h => by cases h⟩

set_option maxRecDepth 100000 in
theorem lifted15 (os : Os) (started : os.Started) (H : Type) (enc : TypeId × Value → H) (F : Stop.Interp) :
    ReturnsInHanded {} Try.checked os 3 .any ((Rows.OpenSpec.upto Rows.causalKnowsSpec).pre6 enc Try.prog Try.f3 Rows.causalKnowsUptoRow.domain false) (((Rows.OpenSpec.upto Rows.causalKnowsSpec).at F).post enc Try.prog Try.f3 false true false false) := by
  refine returnsInHanded_of_cond (C := Try.checked) (s := Rows.OpenSpec.upto Rows.causalKnowsSpec) (k := Rows.uptoSmall) rfl own15 started (by kernel_rfl) Try.func3
    (OpenSpec.witness (enc := enc) (C := Try.checked) (s := Rows.OpenSpec.upto Rows.causalKnowsSpec) (k := Rows.uptoSmall) rfl false ⟨#[], #[.agg #[.slice none 0 0, .slice none 0 0], .int .i64 0, .slice none 0 0, .slice none 0 0], []⟩ 8 (by kernel_rfl) (by kernel_rfl) (by kernel_rfl)
      (x := ([.agg [.nil, .nil], .lit (.int .i64 0), .nil, .nil], [], [])) (by kernel_rfl) rfl (by kernel_rfl)) ?_
  intro W base args ds gs before hval hW _ hk _
  exact contract15 H enc W base args ds gs before hval hW hk

theorem causalKnows_upto : Rows.CausalKnowsUptoSaid :=
  OpenClaim.holds_of_cond 3 Try.f3 rfl rfl rfl rfl rfl rfl rfl ⟨rfl, rfl, rfl, rfl, rfl⟩ rfl rfl rfl rfl rfl (by kernel_rfl) Try.func3 (by kernel_rfl)
    (of_decide_eq_true (by kernel_rfl)) (by unfold Func.isWrapper; first | (rw [if_pos (by decide +kernel)]; kernel_rfl) | (rw [if_neg (by decide +kernel)]; exact ⟨rfl, rfl⟩))
    (fun os started H enc _ F => lifted15 os started H enc F)
#print axioms causalKnows_upto
end Go.Proofs.Ytofbngpckllkoaa
