/-
  ScenarioTells: Check, Apply and Inverse answer as the reference does, for every scenario and knowledge that together hold at most 1048576 values and letters; the arguments read afterwards as before.
-/
import Derived.Test.YtofbngpckllkoacGreatPart06
import Derived.Test.YtofbngpckllkoacGreatPart22
import Derived.WalkKit
import Derived.ProofKit
import Derived.OpenShut
import Derived.JoinedCond
import Derived.ChangeOld
namespace Go.Proofs.YtofbngpckllkoacGreat
open Go.ChangeShapes Go.WideShapes Go.ChangeAt Go.RowKit Go.Joins Go.Deep

theorem own32 : ownKnob Tryz.prog.godebug = none := by kernel_rfl
theorem laidOut32 : laidOutB Tryz.prog = true := by kernel_rfl
theorem env_open : ∃ f0 f1 : Field, Tryz.prog.underlying 28 = some (.struct #[f0, f1]) ∧ oneCellFields Tryz.prog #[f0, f1] = true ∧ f0.type = 25 ∧ f1.type = 26 :=
  ⟨_, _, Tryz.underlying28, by kernel_rfl, rfl, rfl⟩
theorem scn_open : ∃ f0 : Field, Tryz.prog.underlying 24 = some (.struct #[f0]) ∧ oneCellFields Tryz.prog #[f0] = true ∧ f0.type = 22 :=
  ⟨_, Tryz.underlying24, by kernel_rfl, rfl⟩
theorem env_cells : Tryz.prog.cellsOf 28 = 2 := by kernel_rfl
theorem scn_cells : Tryz.prog.cellsOf 24 = 1 := by kernel_rfl
theorem fx_cells : Tryz.prog.cellsOf 46 = 3 := by kernel_rfl
theorem ch_cells : Tryz.prog.cellsOf 48 = 4 := by kernel_rfl
theorem sh_cells : Tryz.prog.cellsOf 50 = 4 := by kernel_rfl

section
variable {H : Type} {enc : TypeId × Value → H} {P : Program} {w : World} {base : Nat} {sp : Nat → Bool} {held : Bool}
theorem open_agg1 {r : Reach} {b0 : Nat} {t : TypeId} {f0 : Field} {v : Value} {d : DataW H} {p : List MemPlace} (hs : P.underlying t = some (.struct #[f0])) (hone : oneCellFields P #[f0] = true) (hC : P.cellsOf t = 1)
    (hv : Value.okWide P w r b0 t v) (h : DataW.Trod enc P w base sp held t v d p) :
    ∃ (v0 : Value) (y0 : DataW H × List MemPlace) (n : Nat), v = .agg #[v0] ∧ d = .agg [y0.1] ∧ DataW.trod enc P w base sp held n f0.type [v0] = some y0 := by
  obtain ⟨cs, rfl, hsz⟩ := okWide_struct hs hv
  obtain ⟨c0, rfl⟩ : ∃ c, cs = #[c] := by
    obtain ⟨l⟩ := cs
    match l, hsz.trans hC with
    | [c], _ => exact ⟨c, rfl⟩
  obtain ⟨fuel, hf⟩ := h
  obtain ⟨xs, n', _, hz, _, hxl, hf⟩ := DataW.trod_struct hs hf
  obtain ⟨y0, rfl⟩ : ∃ y, xs = [y] := by
    match xs, hxl with
    | [y], _ => exact ⟨y, rfl⟩
  have h0 := hf 0 f0 rfl
  obtain ⟨o0, k0⟩ := hone_of hone 0 f0 rfl
  exact ⟨c0, y0, n', rfl, by simpa using congrArg Prod.fst hz, by simpa [Value.cells, o0, k0] using h0⟩
end
section
variable {H : Type} {enc : TypeId × Value → H} {w : World} {sp : Nat → Bool} {held : Bool}
theorem dec_sh {n : Nat} {cs : List Value} {z : DataW H × List MemPlace} (hl : cs.length = 4) (h : DataW.trod enc Tryz.prog w 0 sp held n 50 cs = some z) :
    ∃ f : Sh, cs = f.cells ∧ (Rows.uptoBulk z.1 ≤ 1048576 → f.small) := by
  obtain ⟨c0, c1, c2, c3, rfl⟩ := arr4 hl
  obtain ⟨xs, n', _, hz, _, hxl, hf⟩ := DataW.trod_struct Tryz.underlying50 h
  obtain ⟨y0, y1, y2, y3, rfl⟩ := arr4 hxl
  have h0 := hf 0 _ rfl
  have h1 := hf 1 _ rfl
  have h2 := hf 2 _ rfl
  have h3 := hf 3 _ rfl
  simp [cells_string, cells_int, cells_rat] at h0 h1 h2 h3
  obtain ⟨s, hs, rfl, _⟩ := DataW.trod_string Tryz.underlying9 h0
  obtain ⟨d, hd, rfl, hw⟩ := DataW.trod_int Tryz.underlying3 h1
  obtain ⟨v, hv, rfl, _⟩ := DataW.trod_string Tryz.underlying44 h2
  obtain ⟨u, hu, rfl, _⟩ := DataW.trod_string Tryz.underlying44 h3
  simp at hs hd hv hu
  subst hs hd hv hu
  refine ⟨⟨s, d, v, u⟩, rfl, fun hb => ?_⟩
  rw [hz] at hb
  have hb' : Rows.uptoBulk (DataW.agg (H := H) [.lit (.string s.data.toList), .lit (.int .i64 d), .lit (.string v.data.toList), .lit (.string u.data.toList)]) ≤ 1048576 := hb
  have b : ∀ t : ByteArray, .lit (.string t.data.toList) ∈ [DataW.lit (H := H) (.string s.data.toList), .lit (.int .i64 d), .lit (.string v.data.toList), .lit (.string u.data.toList)] → t.size ≤ 1100000 := fun t ht => by
    have h1 := bulk_agg (H := H) ht
    have h2 := bulk_text (H := H) t
    omega
  exact ⟨b s (by simp), b v (by simp), b u (by simp)⟩
end

set_option maxRecDepth 100000 in
theorem contract32 (H : Type) (enc : TypeId × Value → H) (W : World) (base : Nat) (args : Array Value) (ds gs : List (DataW H)) (before : List MemPlace)
    (hval : ∀ (j : Nat) t v, Tryz.f3.params[j]? = some t → args[j]? = some v → Value.okWide Tryz.prog W .any base t v)
    (hW : DataW.Whole enc Tryz.prog Tryz.f3.params.toList Rows.scenarioTellsSpec.vars false W args.toList ds gs before) (hk : Rows.uptoSmall H (ds ++ gs) = true) :
    Calls Tryz.prog 3 args W fun e W' => ∃ v, e = .returned v ∧ Rows.scenarioTellsSpec.post enc Tryz.prog Tryz.f3 false true false false W args v W' := by
  have hW' := hW
  obtain ⟨p, q, hA0, hV, rfl, hfz, hnd⟩ := hW
  have hA : DataW.TrodAll enc Tryz.prog W 0 (fun _ => true) true Tryz.f3.params.toList args.toList ds p := hA0
  rw [Tryz.params3] at hA hval
  obtain ⟨v0, vs0, d0, ds0, p0, q0, hargs, rfl, rfl, h0, r0⟩ := trodAll_cons hA
  obtain ⟨v1, vs1, d1, ds1, p1, q1, rfl, rfl, rfl, h1, r1⟩ := trodAll_cons r0
  obtain ⟨rfl, rfl, rfl⟩ := trodAll_nil r1
  obtain rfl : args = #[v0, v1] := by cases args; simp_all
  obtain ⟨rfl, rfl⟩ := trodVars_none hV
  have k0 := h0
  have k1 := h1
  have l0 : ∀ x ∈ p0, x.block < W.heap.size := by obtain ⟨m, hm⟩ := k0; exact DataW.trod_lt m _ _ _ hm
  have l1 : ∀ x ∈ p1, x.block < W.heap.size := by obtain ⟨m, hm⟩ := k1; exact DataW.trod_lt m _ _ _ hm
  have hb : Rows.uptoBulkAll [d0, d1] ≤ 1048576 := by
    have h : Rows.uptoBulkAll ([d0, d1] ++ []) ≤ 1048576 := of_decide_eq_true hk
    rw [List.append_nil] at h
    exact h
  have b0 : Rows.uptoBulk d0 ≤ 1048576 := Nat.le_trans (bulk_part (by simp)) hb
  have b1 : Rows.uptoBulk d1 ≤ 1048576 := Nat.le_trans (bulk_part (by simp)) hb
  have hv0 : Value.okWide Tryz.prog W .any base 24 v0 := hval 0 _ _ rfl rfl
  have hv1 : Value.okWide Tryz.prog W .any base 28 v1 := hval 1 _ _ rfl rfl
  obtain ⟨s0, z0, z1, z2⟩ := scn_open
  obtain ⟨vs, ys, ns, rfl, rfl, ts⟩ := open_agg1 z0 z1 scn_cells hv0 h0
  rw [z2] at ts
  obtain ⟨f0, f1, e0, e1, e2, e3⟩ := env_open
  obtain ⟨va, vb, ya, yb, n, rfl, rfl, rfl, ta, tb⟩ := open_agg2 e0 e1 env_cells hv1 h1
  rw [e2] at ta
  rw [e3] at tb
  have bs : Rows.uptoBulk ys.1 ≤ 1048576 := Nat.le_trans (bulk_agg (by simp)) b0
  have ba : Rows.uptoBulk ya.1 ≤ 1048576 := Nat.le_trans (bulk_agg (by simp)) b1
  have bb : Rows.uptoBulk yb.1 ≤ 1048576 := Nat.le_trans (bulk_agg (by simp)) b1
  obtain ⟨ad, cd, l, rfl, had, sd, ld, gd⟩ := open_list Sh.cells 4 (fun _ => rfl) (by decide) (fun f d => (Rows.uptoBulk d ≤ 1048576 → f.small)) Tryz.underlying22 sh_cells (fun _ _ _ hl h => dec_sh hl h) ts
  obtain ⟨af, cf, fs, rfl, haf, sf, lf, gf⟩ := open_list Fx.cells 3 (fun _ => rfl) (by decide) (fun f d => f.fits ∧ (Rows.uptoBulk d ≤ 1048576 → f.small)) Tryz.underlying25 fx_cells (fun _ _ _ hl h => dec_fx hl h) ta
  obtain ⟨ac, cc, cs, rfl, hac, sc, lc, gc⟩ := open_list Ch.cells 4 (fun _ => rfl) (by decide) (fun f d => f.fits ∧ (Rows.uptoBulk d ≤ 1048576 → f.small)) Tryz.underlying26 ch_cells (fun _ _ _ hl h => dec_ch hl h) tb
  have Rd0 := Rd.of_sl (enc := Sh.cells) (m := 4) (fun _ => rfl) (by decide) sd
  have Rf := Rd.of_sl (enc := Fx.cells) (m := 3) (fun _ => rfl) (by decide) sf
  have Rc := Rd.of_sl (enc := Ch.cells) (m := 4) (fun _ => rfl) (by decide) sc
  clear hA0
  refine (law32_any l fs cs ad af ac cd cf cc W (by omega) (by omega) (by omega) Rd0 Rf Rc sd sf sc had haf hac
    (fun f hf => by obtain ⟨d, h, hd⟩ := gd f hf; exact h (by omega)) (fun f hf => by obtain ⟨d, ⟨_, h⟩, hd⟩ := gf f hf; exact h (by omega)) (fun f hf => by obtain ⟨d, ⟨_, h⟩, hd⟩ := gc f hf; exact h (by omega))).mono fun e W' ⟨he, bel⟩ => ?_
  subst he
  exact ⟨_, rfl, _, _, _, [], _, [], hW', trodAll_mk1 (shut_bool Tryz.underlying4 _),
    trodAll_cons_mk (Below.trod laidOut32 (by kernel_rfl) (of_decide_eq_true (by kernel_rfl)) k0 bel l0) (trodAll_cons_mk (Below.trod laidOut32 (by kernel_rfl) (of_decide_eq_true (by kernel_rfl)) k1 bel l1) trodAll_mk0),
    rfl, bel.frame _, fun h => by cases h⟩

set_option maxRecDepth 100000 in
theorem lifted32 (os : Os) (started : os.Started) (H : Type) (enc : TypeId × Value → H) (F : Stop.Interp) :
    ReturnsInHanded {} Tryz.checked os 3 .any ((Rows.OpenSpec.upto Rows.scenarioTellsSpec).pre6 enc Tryz.prog Tryz.f3 Rows.scenarioTellsUptoRow.domain false) (((Rows.OpenSpec.upto Rows.scenarioTellsSpec).at F).post enc Tryz.prog Tryz.f3 false true false false) := by
  refine returnsInHanded_of_cond (C := Tryz.checked) (s := Rows.OpenSpec.upto Rows.scenarioTellsSpec) (k := Rows.uptoSmall) rfl own32 started (by kernel_rfl) Tryz.func3
    (OpenSpec.witness (enc := enc) (C := Tryz.checked) (s := Rows.OpenSpec.upto Rows.scenarioTellsSpec) (k := Rows.uptoSmall) rfl false ⟨#[], #[.agg #[.slice none 0 0], .agg #[.slice none 0 0, .slice none 0 0]], []⟩ 8 (by kernel_rfl) (by kernel_rfl) (by kernel_rfl)
      (x := ([.agg [.nil], .agg [.nil, .nil]], [], [])) (by kernel_rfl) rfl (by kernel_rfl)) ?_
  intro W base args ds gs before hval hW _ hk _
  exact contract32 H enc W base args ds gs before hval hW hk

theorem scenarioTells_upto : Rows.ScenarioTellsUptoSaid :=
  OpenClaim.holds_of_cond 3 Tryz.f3 rfl rfl rfl rfl rfl rfl rfl ⟨rfl, rfl, rfl, rfl, rfl⟩ rfl rfl rfl rfl rfl (by kernel_rfl) Tryz.func3 (by kernel_rfl)
    (of_decide_eq_true (by kernel_rfl)) (by unfold Func.isWrapper; first | (rw [if_pos (by decide +kernel)]; kernel_rfl) | (rw [if_neg (by decide +kernel)]; exact ⟨rfl, rfl⟩))
    (fun os started H enc _ F => lifted32 os started H enc F)
#print axioms scenarioTells_upto
end Go.Proofs.YtofbngpckllkoacGreat
