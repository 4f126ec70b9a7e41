/-
  observable.CheckEnv. novationref08.CheckEnv.  Printed by tools/genrefenv.py.
-/
import Derived.Test.YtofbngpckllkoacGreatPart06
import Derived.Test.YtofbngpckllkoacGreatPart13
namespace Go.Proofs.YtofbngpckllkoacGreat
open Go.RowKit

/-- The error of what is known. -/
def envErr (fs : List Fx) (cs : List Ch) : Int :=
  if 1000 < fs.length ∨ 1000 < cs.length then 4
  else if (fs.any fxBad || (cs.any chBad || (!incB Fx.lt fs || !incB Ch.lt cs))) = true then 8 else 0

set_option maxHeartbeats 1000000 in
set_option maxRecDepth 100000 in
theorem checkEnv_any (fs : List Fx) (cs : List Ch) (af ac : Option Addr) (cf cc : Nat) (w : World) (hn : fs.length ≤ 1100000) (hm : cs.length ≤ 1100000)
    (hf : Rd Fx.cells 3 w af fs) (hc : Rd Ch.cells 4 w ac cs) (hfs : ∀ f ∈ fs, f.small) (hcs : ∀ c ∈ cs, c.small) :
    Calls Tryz.prog 15 #[.agg #[.slice af fs.length cf, .slice ac cs.length cc]] w fun e w' => e = .returned (.int .i64 (envErr fs cs)) ∧ Below w.heap.size w w' := by
  have HF := Lib.hid (fun W (h : Below w.heap.size w W) => containsFx_any fs af cf W hn (hf.below h) hfs)
  have HC := Lib.hid (fun W (h : Below w.heap.size w W) => containsCh_any cs ac cc W hm (hc.below h) hcs)
  have HOF := Lib.hid (fun W (h : Below w.heap.size w W) => orderedFx_any fs af cf W hn (hf.below h))
  have HOC := Lib.hid (fun W (h : Below w.heap.size w W) => orderedCh_any cs ac cc W hm (hc.below h))
  obtain ⟨E, hE⟩ : ∃ E, envErr fs cs = E := ⟨_, rfl⟩
  rw [hE]
  unfold envErr at hE
  have HE := Lib.hid hE
  clear hf hc hfs hcs hE
  have hb0 := fun o => below_a1 w o
  by_cases h1 : 1000 < fs.length
  · have d1 : decide ((1000 : Int) < (fs.length : Int)) = true := by rw [decide_eq_true_eq]; omega
    rw [if_pos (.inl h1)] at HE
    clear h1
    go_enter Tryz.func15, Tryz.ntmps15
    go_wp2
    go_ret
    exact ⟨ret_int' HE.out, hb0 _⟩
  · have d1 : decide ((1000 : Int) < (fs.length : Int)) = false := by rw [decide_eq_false_iff_not]; omega
    by_cases h2 : 1000 < cs.length
    · have d2 : decide ((1000 : Int) < (cs.length : Int)) = true := by rw [decide_eq_true_eq]; omega
      rw [if_pos (.inr h2)] at HE
      clear h2 h1
      go_enter Tryz.func15, Tryz.ntmps15
      go_wp2
      go_ret
      exact ⟨ret_int' HE.out, hb0 _⟩
    · have d2 : decide ((1000 : Int) < (cs.length : Int)) = false := by rw [decide_eq_false_iff_not]; omega
      rw [if_neg (by omega)] at HE
      clear h2 h1
      generalize fs.any fxBad = A at HF HE
      generalize cs.any chBad = B at HC HE
      generalize incB Fx.lt fs = C at HOF HE
      generalize incB Ch.lt cs = D at HOC HE
      cases A with
      | true =>
        simp only [Bool.true_or, if_true] at HE
        go_enter Tryz.func15, Tryz.ntmps15
        go_wp2_with fail
        refine (HF.out _ (hb0 _)).mono ?_
        rintro e w1 ⟨rfl, hb1⟩
        have hw1 : Below w.heap.size w w1 := (hb0 _).trans (hb1.mono (by simp))
        have k0 : w1.cell? ⟨w.heap.size, 0, none⟩ = some (.slice af fs.length cf) := by rw [hb1.cell (by simp)]; go_simp
        have k1 : w1.cell? ⟨w.heap.size, 1, none⟩ = some (.slice ac cs.length cc) := by rw [hb1.cell (by simp)]; go_simp
        have hs1 : w.heap.size < w1.heap.size := by have := hb1.size; simp at this; omega
        clear hb1
        go_wp2
        go_ret
        exact ⟨ret_int' HE.out, hw1⟩
      | false =>
        cases B with
        | true =>
          simp only [Bool.true_or, Bool.false_or, if_true] at HE
          go_enter Tryz.func15, Tryz.ntmps15
          go_wp2_with fail
          refine (HF.out _ (hb0 _)).mono ?_
          rintro e w1 ⟨rfl, hb1⟩
          have hw1 : Below w.heap.size w w1 := (hb0 _).trans (hb1.mono (by simp))
          have k0 : w1.cell? ⟨w.heap.size, 0, none⟩ = some (.slice af fs.length cf) := by rw [hb1.cell (by simp)]; go_simp
          have k1 : w1.cell? ⟨w.heap.size, 1, none⟩ = some (.slice ac cs.length cc) := by rw [hb1.cell (by simp)]; go_simp
          have hs1 : w.heap.size < w1.heap.size := by have := hb1.size; simp at this; omega
          clear hb1
          go_wp2_with fail
          refine (HC.out _ hw1).mono ?_
          rintro e w2 ⟨rfl, hb2⟩
          have hw2 : Below w.heap.size w w2 := hw1.trans (hb2.mono hw1.size)
          have k0' : w2.cell? ⟨w.heap.size, 0, none⟩ = some (.slice af fs.length cf) := by rw [hb2.cell hs1]; exact k0
          have k1' : w2.cell? ⟨w.heap.size, 1, none⟩ = some (.slice ac cs.length cc) := by rw [hb2.cell hs1]; exact k1
          have hs2 : w.heap.size < w2.heap.size := by have := hb2.size; omega
          clear hb2 k0 k1
          have k0 := k0'
          have k1 := k1'
          clear k0' k1'
          go_wp2
          go_ret
          exact ⟨ret_int' HE.out, hw2⟩
        | false =>
          cases C with
          | false =>
            simp only [Bool.true_or, Bool.false_or, Bool.not_false, if_true] at HE
            go_enter Tryz.func15, Tryz.ntmps15
            go_wp2_with fail
            refine (HF.out _ (hb0 _)).mono ?_
            rintro e w1 ⟨rfl, hb1⟩
            have hw1 : Below w.heap.size w w1 := (hb0 _).trans (hb1.mono (by simp))
            have k0 : w1.cell? ⟨w.heap.size, 0, none⟩ = some (.slice af fs.length cf) := by rw [hb1.cell (by simp)]; go_simp
            have k1 : w1.cell? ⟨w.heap.size, 1, none⟩ = some (.slice ac cs.length cc) := by rw [hb1.cell (by simp)]; go_simp
            have hs1 : w.heap.size < w1.heap.size := by have := hb1.size; simp at this; omega
            clear hb1
            go_wp2_with fail
            refine (HC.out _ hw1).mono ?_
            rintro e w2 ⟨rfl, hb2⟩
            have hw2 : Below w.heap.size w w2 := hw1.trans (hb2.mono hw1.size)
            have k0' : w2.cell? ⟨w.heap.size, 0, none⟩ = some (.slice af fs.length cf) := by rw [hb2.cell hs1]; exact k0
            have k1' : w2.cell? ⟨w.heap.size, 1, none⟩ = some (.slice ac cs.length cc) := by rw [hb2.cell hs1]; exact k1
            have hs2 : w.heap.size < w2.heap.size := by have := hb2.size; omega
            clear hb2 k0 k1
            have k0 := k0'
            have k1 := k1'
            clear k0' k1'
            go_wp2_with fail
            refine (HOF.out _ hw2).mono ?_
            rintro e w3 ⟨rfl, hb3⟩
            have hw3 : Below w.heap.size w w3 := hw2.trans (hb3.mono hw2.size)
            have k0' : w3.cell? ⟨w.heap.size, 0, none⟩ = some (.slice af fs.length cf) := by rw [hb3.cell hs2]; exact k0
            have k1' : w3.cell? ⟨w.heap.size, 1, none⟩ = some (.slice ac cs.length cc) := by rw [hb3.cell hs2]; exact k1
            have hs3 : w.heap.size < w3.heap.size := by have := hb3.size; omega
            clear hb3 k0 k1
            have k0 := k0'
            have k1 := k1'
            clear k0' k1'
            go_wp2
            go_ret
            exact ⟨ret_int' HE.out, hw3⟩
          | true =>
            cases D with
            | false =>
              simp only [Bool.false_or, Bool.not_false, Bool.not_true, if_true] at HE
              go_enter Tryz.func15, Tryz.ntmps15
              go_wp2_with fail
              refine (HF.out _ (hb0 _)).mono ?_
              rintro e w1 ⟨rfl, hb1⟩
              have hw1 : Below w.heap.size w w1 := (hb0 _).trans (hb1.mono (by simp))
              have k0 : w1.cell? ⟨w.heap.size, 0, none⟩ = some (.slice af fs.length cf) := by rw [hb1.cell (by simp)]; go_simp
              have k1 : w1.cell? ⟨w.heap.size, 1, none⟩ = some (.slice ac cs.length cc) := by rw [hb1.cell (by simp)]; go_simp
              have hs1 : w.heap.size < w1.heap.size := by have := hb1.size; simp at this; omega
              clear hb1
              go_wp2_with fail
              refine (HC.out _ hw1).mono ?_
              rintro e w2 ⟨rfl, hb2⟩
              have hw2 : Below w.heap.size w w2 := hw1.trans (hb2.mono hw1.size)
              have k0' : w2.cell? ⟨w.heap.size, 0, none⟩ = some (.slice af fs.length cf) := by rw [hb2.cell hs1]; exact k0
              have k1' : w2.cell? ⟨w.heap.size, 1, none⟩ = some (.slice ac cs.length cc) := by rw [hb2.cell hs1]; exact k1
              have hs2 : w.heap.size < w2.heap.size := by have := hb2.size; omega
              clear hb2 k0 k1
              have k0 := k0'
              have k1 := k1'
              clear k0' k1'
              go_wp2_with fail
              refine (HOF.out _ hw2).mono ?_
              rintro e w3 ⟨rfl, hb3⟩
              have hw3 : Below w.heap.size w w3 := hw2.trans (hb3.mono hw2.size)
              have k0' : w3.cell? ⟨w.heap.size, 0, none⟩ = some (.slice af fs.length cf) := by rw [hb3.cell hs2]; exact k0
              have k1' : w3.cell? ⟨w.heap.size, 1, none⟩ = some (.slice ac cs.length cc) := by rw [hb3.cell hs2]; exact k1
              have hs3 : w.heap.size < w3.heap.size := by have := hb3.size; omega
              clear hb3 k0 k1
              have k0 := k0'
              have k1 := k1'
              clear k0' k1'
              go_wp2_with fail
              refine (HOC.out _ hw3).mono ?_
              rintro e w4 ⟨rfl, hb4⟩
              have hw4 : Below w.heap.size w w4 := hw3.trans (hb4.mono hw3.size)
              have k0' : w4.cell? ⟨w.heap.size, 0, none⟩ = some (.slice af fs.length cf) := by rw [hb4.cell hs3]; exact k0
              have k1' : w4.cell? ⟨w.heap.size, 1, none⟩ = some (.slice ac cs.length cc) := by rw [hb4.cell hs3]; exact k1
              have hs4 : w.heap.size < w4.heap.size := by have := hb4.size; omega
              clear hb4 k0 k1
              have k0 := k0'
              have k1 := k1'
              clear k0' k1'
              go_wp2
              go_ret
              exact ⟨ret_int' HE.out, hw4⟩
            | true =>
              simp only [Bool.false_or, Bool.not_true, Bool.false_eq_true, if_false] at HE
              go_enter Tryz.func15, Tryz.ntmps15
              go_wp2_with fail
              refine (HF.out _ (hb0 _)).mono ?_
              rintro e w1 ⟨rfl, hb1⟩
              have hw1 : Below w.heap.size w w1 := (hb0 _).trans (hb1.mono (by simp))
              have k0 : w1.cell? ⟨w.heap.size, 0, none⟩ = some (.slice af fs.length cf) := by rw [hb1.cell (by simp)]; go_simp
              have k1 : w1.cell? ⟨w.heap.size, 1, none⟩ = some (.slice ac cs.length cc) := by rw [hb1.cell (by simp)]; go_simp
              have hs1 : w.heap.size < w1.heap.size := by have := hb1.size; simp at this; omega
              clear hb1
              go_wp2_with fail
              refine (HC.out _ hw1).mono ?_
              rintro e w2 ⟨rfl, hb2⟩
              have hw2 : Below w.heap.size w w2 := hw1.trans (hb2.mono hw1.size)
              have k0' : w2.cell? ⟨w.heap.size, 0, none⟩ = some (.slice af fs.length cf) := by rw [hb2.cell hs1]; exact k0
              have k1' : w2.cell? ⟨w.heap.size, 1, none⟩ = some (.slice ac cs.length cc) := by rw [hb2.cell hs1]; exact k1
              have hs2 : w.heap.size < w2.heap.size := by have := hb2.size; omega
              clear hb2 k0 k1
              have k0 := k0'
              have k1 := k1'
              clear k0' k1'
              go_wp2_with fail
              refine (HOF.out _ hw2).mono ?_
              rintro e w3 ⟨rfl, hb3⟩
              have hw3 : Below w.heap.size w w3 := hw2.trans (hb3.mono hw2.size)
              have k0' : w3.cell? ⟨w.heap.size, 0, none⟩ = some (.slice af fs.length cf) := by rw [hb3.cell hs2]; exact k0
              have k1' : w3.cell? ⟨w.heap.size, 1, none⟩ = some (.slice ac cs.length cc) := by rw [hb3.cell hs2]; exact k1
              have hs3 : w.heap.size < w3.heap.size := by have := hb3.size; omega
              clear hb3 k0 k1
              have k0 := k0'
              have k1 := k1'
              clear k0' k1'
              go_wp2_with fail
              refine (HOC.out _ hw3).mono ?_
              rintro e w4 ⟨rfl, hb4⟩
              have hw4 : Below w.heap.size w w4 := hw3.trans (hb4.mono hw3.size)
              have k0' : w4.cell? ⟨w.heap.size, 0, none⟩ = some (.slice af fs.length cf) := by rw [hb4.cell hs3]; exact k0
              have k1' : w4.cell? ⟨w.heap.size, 1, none⟩ = some (.slice ac cs.length cc) := by rw [hb4.cell hs3]; exact k1
              have hs4 : w.heap.size < w4.heap.size := by have := hb4.size; omega
              clear hb4 k0 k1
              have k0 := k0'
              have k1 := k1'
              clear k0' k1'
              go_wp2
              go_ret
              exact ⟨ret_int' HE.out, hw4⟩
end Go.Proofs.YtofbngpckllkoacGreat

namespace Go.Proofs.YtofbngpckllkoacGreat
open Go.RowKit

theorem envErr_bad {fs : List Fx} {cs : List Ch} (h1 : ¬ 1000 < fs.length) (h2 : ¬ 1000 < cs.length) (h : fs.any fxBad = true ∨ cs.any chBad = true ∨ incB Fx.lt fs = false ∨ incB Ch.lt cs = false) : envErr fs cs = 8 := by
  rw [envErr, if_neg (by omega), if_pos]
  rcases h with h | h | h | h <;> simp [h]
theorem envErr_ok {fs : List Fx} {cs : List Ch} (h1 : ¬ 1000 < fs.length) (h2 : ¬ 1000 < cs.length) (h3 : ∀ f ∈ fs, fxBad f = false) (h4 : ∀ c ∈ cs, chBad c = false) (h5 : incB Fx.lt fs = true) (h6 : incB Ch.lt cs = true) : envErr fs cs = 0 := by
  have a1 : fs.any fxBad = false := by rw [List.any_eq_false]; simpa using h3
  have a2 : cs.any chBad = false := by rw [List.any_eq_false]; simpa using h4
  rw [envErr, if_neg (by omega), if_neg]
  simp [a1, a2, h5, h6]
theorem quiet_flip {P : Program} {f : FuncId} {args : Array Value} {v : Value} (h : ∀ W, Calls P f args W fun e w' => e = .returned v ∧ W = w') (W : World) (n : Nat) : Calls P f args (W.drewN n) fun e w' => e = .returned v ∧ ∃ m, w' = W.drewN m :=
  (h _).mono fun _ _ ⟨he, hw⟩ => ⟨he, n, hw.symm⟩
theorem any_of_get {α : Type} {p : α → Bool} {l : List α} {k : Nat} {x : α} (h : l[k]? = some x) (hp : p x = true) : l.any p = true := List.any_eq_true.2 ⟨x, List.mem_of_getElem? h, hp⟩
theorem incB_zero {α : Type} {lt : α → α → Bool} {l : List α} : incB lt (l.take (0 + 1)) = true := incB_le_one (by rw [List.length_take]; omega)

set_option maxHeartbeats 8000000 in
set_option maxRecDepth 100000 in
theorem refEnv_loop (fs : List Fx) (cs : List Ch) (af ac : Option Addr) (cf cc : Nat) (w : World) (hn : ¬ 1000 < fs.length) (hm : ¬ 1000 < cs.length)
    (hf : Rd Fx.cells 3 w af fs) (hc : Rd Ch.cells 4 w ac cs) (hfs : ∀ f ∈ fs, f.small) (hcs : ∀ c ∈ cs, c.small) :
    Calls Tryz.prog 20 #[.agg #[.slice af fs.length cf, .slice ac cs.length cc]] w fun e w' => e = .returned (.int .i64 (envErr fs cs)) ∧ Below w.heap.size w w' := by
  have HDF := Lib.hid hf
  have HDC := Lib.hid hc
  have HSF := Lib.hid hfs
  have HSC := Lib.hid hcs
  have HL1 := Lib.hid hn
  have HL2 := Lib.hid hm
  have hn' : (fs.length : Int) ≤ 1000 := by omega
  have hm' : (cs.length : Int) ≤ 1000 := by omega
  have d1 : decide ((1000 : Int) < (fs.length : Int)) = false := by rw [decide_eq_false_iff_not]; omega
  have d2 : decide ((1000 : Int) < (cs.length : Int)) = false := by rw [decide_eq_false_iff_not]; omega
  have hb0 := fun o => below_a1 w o
  clear hf hc hfs hcs hn hm
  go_enter Tryz.func20, Tryz.ntmps20
  go_upto_block 0 with fail
  go_cut [3, 4] from 17 to 59 (fun _ _ wc => Hid ((∀ y ∈ fs, fxBad y = false) ∧ incB Fx.lt fs = true) ∧ Below w.heap.size w wc ∧ w.heap.size < wc.heap.size ∧ wc.cell? ⟨w.heap.size, 0, none⟩ = some (.slice af fs.length cf) ∧ wc.cell? ⟨w.heap.size, 1, none⟩ = some (.slice ac cs.length cc))
  case first =>
    go_wp2_with fail
    go_loopw [3] (fun i wr => ∃ k : Nat, k ≤ fs.length ∧ i = .int .i64 k ∧ Hid ((∀ y ∈ fs.take k, fxBad y = false) ∧ incB Fx.lt (fs.take k) = true) ∧ Below w.heap.size w wr ∧ w.heap.size < wr.heap.size ∧ wr.cell? ⟨w.heap.size, 0, none⟩ = some (.slice af fs.length cf) ∧ wr.cell? ⟨w.heap.size, 1, none⟩ = some (.slice ac cs.length cc)) (fun i _ => fs.length - (intOf i).toNat)
    case atStart => exact ⟨0, Nat.zero_le _, rfl, Lib.hid ⟨by simp, by simp [incB]⟩, hb0 _, by simp, by go_simp, by go_simp⟩
    case round =>
      obtain ⟨k, hk, rfl, Hall, hbel, hsz, kb0, kb1⟩ := hrel
      by_cases hlt : k < fs.length
      · obtain ⟨f, hf⟩ : ∃ f, fs[k]? = some f := ⟨_, List.getElem?_eq_getElem hlt⟩
        have hfm : f ∈ fs := List.mem_of_getElem? hf
        have HRf := ((HDF.out.below hbel).fx hf)
        have HN := Lib.hid (fun W => rname_any f.nm W (by have := (HSF.out f hfm).1; omega))
        have HK0 := Lib.hid (fun W => refrat_any f.vl W (HSF.out f hfm).2)
        have HDy := Lib.hid (fun W => rday_any f.d W)
        have HF := Lib.hid hf
        clear hf hfm
        obtain ⟨b, off, rfl, hc1, hc2, hc3⟩ := HRf
        have hbl : b < wr.heap.size := World.block_lt_of_cell? wr _ hc1
        have HBad : Hid (fxBad f = !(isNm (bl f.nm) && (isDay f.d && decide (ratErr f.vl = 0)))) := rfl
        generalize isNm (bl f.nm) = a at HN HBad
        generalize isDay f.d = d at HDy HBad
        generalize ratErr f.vl = E at HK0 HBad
        unfold RatPost at HK0
        cases a with
        | false =>
          have HR : Hid (envErr fs cs = 8) := envErr_bad HL1.out HL2.out (.inl (any_of_get HF.out (by rw [HBad.out]; simp)))
          go_wp2
          refine wp_region_ext (fun W' => W'.cell? ⟨w.heap.size, 0, none⟩ = some (.slice (some ⟨b, off, none⟩) fs.length cf) ∧ W'.cell? ⟨wr.heap.size, 0, none⟩ = some (.string f.nm) ∧ W'.cell? ⟨wr.heap.size, 1, none⟩ = some (.int .i64 f.d) ∧ W'.cell? ⟨wr.heap.size, 2, none⟩ = some (.string f.vl)) (fun W' hW' => ⟨hW'.cell (by go_simp), hW'.cell (by go_simp), hW'.cell (by go_simp), hW'.cell (by go_simp)⟩) (by kernel_rfl) (by kernel_rfl) ?_
          intro HCW
          repeat (first | go_big_quiet_skip | (go_big_quiet_want; apply Exists.intro; refine ⟨fun W hW => ?_, ?_⟩; (focus (obtain ⟨q0, q1, q2, q3⟩ := HCW W hW; go_simp; first | done | rfl | with_reducible exact ext_same HN.out W hW)); (simp only [Act.put, List.setIfInBounds_toArray, List.set_cons_zero, List.set_cons_succ]); go_big_quiet_on))
          refine wpQuiet_nil ?_
          intro W hW
          obtain ⟨q0, q1, q2, q3⟩ := HCW W hW
          have hW := hW.below
          have hz := hW.size
          simp at hz
          go_wp2
          go_ret
          exact ⟨ret_int' HR.out.symm, (hbel.alloc (by omega) _).trans (hW.mono (by simp; omega))⟩
        | true =>
          cases d with
          | false =>
            have HR : Hid (envErr fs cs = 8) := envErr_bad HL1.out HL2.out (.inl (any_of_get HF.out (by rw [HBad.out]; simp)))
            go_wp2
            refine wp_region_ext (fun W' => W'.cell? ⟨w.heap.size, 0, none⟩ = some (.slice (some ⟨b, off, none⟩) fs.length cf) ∧ W'.cell? ⟨wr.heap.size, 0, none⟩ = some (.string f.nm) ∧ W'.cell? ⟨wr.heap.size, 1, none⟩ = some (.int .i64 f.d) ∧ W'.cell? ⟨wr.heap.size, 2, none⟩ = some (.string f.vl)) (fun W' hW' => ⟨hW'.cell (by go_simp), hW'.cell (by go_simp), hW'.cell (by go_simp), hW'.cell (by go_simp)⟩) (by kernel_rfl) (by kernel_rfl) ?_
            intro HCW
            repeat (first | go_big_quiet_skip | (go_big_quiet_want; apply Exists.intro; refine ⟨fun W hW => ?_, ?_⟩; (focus (obtain ⟨q0, q1, q2, q3⟩ := HCW W hW; go_simp; first | done | rfl | with_reducible exact ext_same HN.out W hW | with_reducible exact ext_same HDy.out W hW)); (simp only [Act.put, List.setIfInBounds_toArray, List.set_cons_zero, List.set_cons_succ]); go_big_quiet_on))
            refine wpQuiet_nil ?_
            intro W hW
            obtain ⟨q0, q1, q2, q3⟩ := HCW W hW
            have hW := hW.below
            have hz := hW.size
            simp at hz
            go_wp2
            go_ret
            exact ⟨ret_int' HR.out.symm, (hbel.alloc (by omega) _).trans (hW.mono (by simp; omega))⟩
          | true =>
            by_cases hE : E = 0
            · subst hE
              have HOk : Hid (fxBad f = false) := by show _ = _; rw [HBad.out]; rfl
              rcases Nat.eq_zero_or_pos k with hk0 | hk0
              · have t0 : decide ((0 : Int) < (k : Int)) = false := by rw [decide_eq_false_iff_not]; omega
                have t0b : decide (0 < k) = false := by rw [decide_eq_false_iff_not]; omega
                have t0c : ¬ 0 < k := by omega
                have Hall2 : Hid ((∀ y ∈ fs.take (k + 1), fxBad y = false) ∧ incB Fx.lt (fs.take (k + 1)) = true) := ⟨all_take_succ HF.out HOk.out Hall.out.1, by rw [hk0]; exact incB_zero⟩
                clear hk0
                go_wp2
                refine wp_region_ext (fun W' => W'.cell? ⟨w.heap.size, 0, none⟩ = some (.slice (some ⟨b, off, none⟩) fs.length cf) ∧ W'.cell? ⟨wr.heap.size, 0, none⟩ = some (.string f.nm) ∧ W'.cell? ⟨wr.heap.size, 1, none⟩ = some (.int .i64 f.d) ∧ W'.cell? ⟨wr.heap.size, 2, none⟩ = some (.string f.vl)) (fun W' hW' => ⟨hW'.cell (by go_simp), hW'.cell (by go_simp), hW'.cell (by go_simp), hW'.cell (by go_simp)⟩) (by kernel_rfl) (by kernel_rfl) ?_
                intro HCW
                repeat (first | go_big_quiet_skip | (go_big_quiet_want; apply Exists.intro; refine ⟨fun W hW => ?_, ?_⟩; (focus (obtain ⟨q0, q1, q2, q3⟩ := HCW W hW; go_simp; first | done | rfl | with_reducible exact ext_same HN.out W hW | with_reducible exact ext_same HDy.out W hW | with_reducible exact ext_calls HK0.out W hW)); (simp only [Act.put, List.setIfInBounds_toArray, List.set_cons_zero, List.set_cons_succ]); go_big_quiet_on))
                refine wpQuiet_nil ?_
                intro W hW
                obtain ⟨q0, q1, q2, q3⟩ := HCW W hW
                have hW := hW.below
                have hz := hW.size
                simp at hz
                all_goals
                  go_wp2
                  go_roundw
                  case rel => exact ⟨k + 1, by omega, by go_num, Hall2, (hbel.alloc (by omega) _).trans (hW.mono (by simp; omega)), by first | omega | (simp; omega), by first | assumption | (rw [hW.cell (by simp; omega)]; go_simp), by first | assumption | (rw [hW.cell (by simp; omega)]; go_simp)⟩
                  case measure => simp [intOf]; omega
              · obtain ⟨k, rfl⟩ : ∃ k', k = k' + 1 := ⟨k - 1, by omega⟩
                obtain ⟨g, hg⟩ : ∃ g, fs[k]? = some g := ⟨_, List.getElem?_eq_getElem (by omega)⟩
                have HRg := ((HDF.out.below hbel).fx hg)
                have HI := Lib.hid (incB_snoc (lt := Fx.lt) hg HF.out)
                clear hg
                obtain ⟨b', off', he, hd1, hd2, hd3⟩ := HRg
                obtain ⟨rfl, rfl⟩ : b = b' ∧ off = off' := by simpa using he
                clear he hk0
                have ek : ((k + 1 : Nat) : Int) = (k : Int) + 1 := by omega
                rw [ek]
                clear ek
                have t0 : decide ((0 : Int) < (k : Int) + 1) = true := by rw [decide_eq_true_eq]; omega
                have e1 : (k : Int) + 1 - 1 = (k : Int) := by omega
                have e2 : IntKind.i64.wrap ((k : Int) + 1 - 1) = (k : Int) := by rw [IntWalk.i64_in _ (by omega)]; omega
                have e3 : IntKind.i64.wrap (k : Int) = (k : Int) := IntWalk.i64_in _ (by omega)
                have e4 : ((k : Int) + 1).toNat = k + 1 := by omega
                have hk2 : (0 : Int) ≤ (k : Int) + 1 := by omega
                have hk3 : (k : Int) + 1 < (fs.length : Int) := by omega
                have hk4 : (0 : Int) ≤ (k : Int) := by omega
                have hk5 : (k : Int) < (fs.length : Int) := by omega
                have HB : Hid (∀ W, Calls Tryz.prog 47 #[.agg #[.string g.nm, .int .i64 g.d, .string g.vl], .agg #[.string f.nm, .int .i64 f.d, .string f.vl]] W fun e w' => e = .returned (.bool (Fx.lt g f)) ∧ Below W.heap.size W w') := fun W => fixBefore_any _ _ _ _ _ _ _
                cases hp : Fx.lt g f with
                | true =>
                  have Hall2 : Hid ((∀ y ∈ fs.take (k + 1 + 1), fxBad y = false) ∧ incB Fx.lt (fs.take (k + 1 + 1)) = true) := ⟨all_take_succ HF.out HOk.out Hall.out.1, by rw [HI.out, Hall.out.2, hp]; rfl⟩
                  rw [hp] at HB
                  clear hp
                  go_wp2
                  refine wp_region_ext (fun W' => W'.cell? ⟨w.heap.size, 0, none⟩ = some (.slice (some ⟨b, off, none⟩) fs.length cf) ∧ W'.cell? ⟨wr.heap.size, 0, none⟩ = some (.string f.nm) ∧ W'.cell? ⟨wr.heap.size, 1, none⟩ = some (.int .i64 f.d) ∧ W'.cell? ⟨wr.heap.size, 2, none⟩ = some (.string f.vl) ∧ W'.cell? ⟨b, off + k * 3, none⟩ = some (.string g.nm) ∧ W'.cell? ⟨b, off + k * 3 + 1, none⟩ = some (.int .i64 g.d) ∧ W'.cell? ⟨b, off + k * 3 + 2, none⟩ = some (.string g.vl)) (fun W' hW' => ⟨hW'.cell (by go_simp), hW'.cell (by go_simp), hW'.cell (by go_simp), hW'.cell (by go_simp), hW'.cell (by go_simp), hW'.cell (by go_simp), hW'.cell (by go_simp)⟩) (by kernel_rfl) (by kernel_rfl) ?_
                  intro HCW
                  repeat (first | go_big_quiet_skip | (go_big_quiet_want; apply Exists.intro; refine ⟨fun W hW => ?_, ?_⟩; (focus (obtain ⟨q0, q1, q2, q3, q4, q5, q6⟩ := HCW W hW; go_simp; first | done | rfl | with_reducible exact ext_same HN.out W hW | with_reducible exact ext_same HDy.out W hW | with_reducible exact ext_calls HK0.out W hW | with_reducible exact ext_calls HB.out W hW)); (simp only [Act.put, List.setIfInBounds_toArray, List.set_cons_zero, List.set_cons_succ]); go_big_quiet_on))
                  refine wpQuiet_nil ?_
                  intro W hW
                  obtain ⟨q0, q1, q2, q3, q4, q5, q6⟩ := HCW W hW
                  have hW := hW.below
                  have hz := hW.size
                  simp at hz
                  go_wp2
                  go_roundw
                  case rel => exact ⟨k + 1 + 1, by omega, by go_num, Hall2, (hbel.alloc (by omega) _).trans (hW.mono (by simp; omega)), by first | omega | (simp; omega), by first | assumption | (rw [hW.cell (by simp; omega)]; go_simp), by first | assumption | (rw [hW.cell (by simp; omega)]; go_simp)⟩
                  case measure => simp [intOf]; omega
                | false =>
                  have HR : Hid (envErr fs cs = 8) := envErr_bad HL1.out HL2.out (.inr (.inr (.inl (incB_false_of_take (k := k + 1 + 1) (by rw [HI.out, hp]; simp)))))
                  rw [hp] at HB
                  clear hp
                  go_wp2
                  refine wp_region_ext (fun W' => W'.cell? ⟨w.heap.size, 0, none⟩ = some (.slice (some ⟨b, off, none⟩) fs.length cf) ∧ W'.cell? ⟨wr.heap.size, 0, none⟩ = some (.string f.nm) ∧ W'.cell? ⟨wr.heap.size, 1, none⟩ = some (.int .i64 f.d) ∧ W'.cell? ⟨wr.heap.size, 2, none⟩ = some (.string f.vl) ∧ W'.cell? ⟨b, off + k * 3, none⟩ = some (.string g.nm) ∧ W'.cell? ⟨b, off + k * 3 + 1, none⟩ = some (.int .i64 g.d) ∧ W'.cell? ⟨b, off + k * 3 + 2, none⟩ = some (.string g.vl)) (fun W' hW' => ⟨hW'.cell (by go_simp), hW'.cell (by go_simp), hW'.cell (by go_simp), hW'.cell (by go_simp), hW'.cell (by go_simp), hW'.cell (by go_simp), hW'.cell (by go_simp)⟩) (by kernel_rfl) (by kernel_rfl) ?_
                  intro HCW
                  repeat (first | go_big_quiet_skip | (go_big_quiet_want; apply Exists.intro; refine ⟨fun W hW => ?_, ?_⟩; (focus (obtain ⟨q0, q1, q2, q3, q4, q5, q6⟩ := HCW W hW; go_simp; first | done | rfl | with_reducible exact ext_same HN.out W hW | with_reducible exact ext_same HDy.out W hW | with_reducible exact ext_calls HK0.out W hW | with_reducible exact ext_calls HB.out W hW)); (simp only [Act.put, List.setIfInBounds_toArray, List.set_cons_zero, List.set_cons_succ]); go_big_quiet_on))
                  refine wpQuiet_nil ?_
                  intro W hW
                  obtain ⟨q0, q1, q2, q3, q4, q5, q6⟩ := HCW W hW
                  have hW := hW.below
                  have hz := hW.size
                  simp at hz
                  go_wp2
                  go_ret
                  exact ⟨ret_int' HR.out.symm, (hbel.alloc (by omega) _).trans (hW.mono (by simp; omega))⟩
            · have HR : Hid (envErr fs cs = 8) := envErr_bad HL1.out HL2.out (.inl (any_of_get HF.out (by rw [HBad.out]; simp [hE])))
              have t1 : (E != 0) = true := by rw [bne_iff_ne]; exact hE
              have t2 : (E == 0) = false := by rw [beq_eq_false_iff_ne]; exact hE
              clear hE
              go_wp2
              refine wp_region_ext (fun W' => W'.cell? ⟨w.heap.size, 0, none⟩ = some (.slice (some ⟨b, off, none⟩) fs.length cf) ∧ W'.cell? ⟨wr.heap.size, 0, none⟩ = some (.string f.nm) ∧ W'.cell? ⟨wr.heap.size, 1, none⟩ = some (.int .i64 f.d) ∧ W'.cell? ⟨wr.heap.size, 2, none⟩ = some (.string f.vl)) (fun W' hW' => ⟨hW'.cell (by go_simp), hW'.cell (by go_simp), hW'.cell (by go_simp), hW'.cell (by go_simp)⟩) (by kernel_rfl) (by kernel_rfl) ?_
              intro HCW
              repeat (first | go_big_quiet_skip | (go_big_quiet_want; apply Exists.intro; refine ⟨fun W hW => ?_, ?_⟩; (focus (obtain ⟨q0, q1, q2, q3⟩ := HCW W hW; go_simp; first | done | rfl | with_reducible exact ext_same HN.out W hW | with_reducible exact ext_same HDy.out W hW | with_reducible exact ext_calls HK0.out W hW)); (simp only [Act.put, List.setIfInBounds_toArray, List.set_cons_zero, List.set_cons_succ]); go_big_quiet_on))
              refine wpQuiet_nil ?_
              intro W hW
              obtain ⟨q0, q1, q2, q3⟩ := HCW W hW
              have hW := hW.below
              have hz := hW.size
              simp at hz
              all_goals
                go_wp2
                go_ret
                exact ⟨ret_int' HR.out.symm, (hbel.alloc (by omega) _).trans (hW.mono (by simp; omega))⟩
      · obtain rfl : k = fs.length := by omega
        have HAFx : Hid ((∀ y ∈ fs, fxBad y = false) ∧ incB Fx.lt fs = true) := by have h := Hall.out; rw [List.take_length] at h; exact h
        clear Hall hlt hk
        go_wp2
        go_meet
        exact ⟨HAFx, hbel, hsz, kb0, kb1⟩
  case rest =>
    obtain ⟨HAFx, hbel, hsz, kb0, kb1⟩ := hcut
    go_wp2
    go_loopw [5] (fun i wr => ∃ k : Nat, k ≤ cs.length ∧ i = .int .i64 k ∧ Hid ((∀ y ∈ cs.take k, chBad y = false) ∧ incB Ch.lt (cs.take k) = true) ∧ Below w.heap.size w wr ∧ w.heap.size < wr.heap.size ∧ wr.cell? ⟨w.heap.size, 0, none⟩ = some (.slice af fs.length cf) ∧ wr.cell? ⟨w.heap.size, 1, none⟩ = some (.slice ac cs.length cc)) (fun i _ => cs.length - (intOf i).toNat)
    case atStart => exact ⟨0, Nat.zero_le _, rfl, Lib.hid ⟨by simp, by simp [incB]⟩, hbel, hsz, kb0, kb1⟩
    case round =>
      clear hbel hsz kb0 kb1
      obtain ⟨k, hk, rfl, Hall, hbel, hsz, kb0, kb1⟩ := hrel
      by_cases hlt : k < cs.length
      · obtain ⟨f, hf⟩ : ∃ f, cs[k]? = some f := ⟨_, List.getElem?_eq_getElem hlt⟩
        have hfm : f ∈ cs := List.mem_of_getElem? hf
        have HRf := ((HDC.out.below hbel).ch hf)
        have HP := Lib.hid (fun W => rname_any f.pt W (by have := (HSC.out f hfm).1; omega))
        have HN := Lib.hid (fun W => rname_any f.nm W (by have := (HSC.out f hfm).2; omega))
        have HDy := Lib.hid (fun W => rday_any f.d W)
        have HF := Lib.hid hf
        clear hf hfm
        obtain ⟨b, off, rfl, hc1, hc2, hc3, hc4⟩ := HRf
        have hbl : b < wr.heap.size := World.block_lt_of_cell? wr _ hc1
        have HBad : Hid (chBad f = !(isNm (bl f.pt) && (isNm (bl f.nm) && isDay f.d))) := rfl
        generalize isNm (bl f.pt) = a0 at HP HBad
        generalize isNm (bl f.nm) = a at HN HBad
        generalize isDay f.d = d at HDy HBad
        cases a0 with
        | false =>
          have HR : Hid (envErr fs cs = 8) := envErr_bad HL1.out HL2.out (.inr (.inl (any_of_get HF.out (by rw [HBad.out]; simp))))
          go_wp2
          refine wp_region_ext (fun W' => W'.cell? ⟨w.heap.size, 1, none⟩ = some (.slice (some ⟨b, off, none⟩) cs.length cc) ∧ W'.cell? ⟨wr.heap.size, 0, none⟩ = some (.string f.pt) ∧ W'.cell? ⟨wr.heap.size, 1, none⟩ = some (.string f.nm) ∧ W'.cell? ⟨wr.heap.size, 2, none⟩ = some (.int .i64 f.d) ∧ W'.cell? ⟨wr.heap.size, 3, none⟩ = some (.bool f.first)) (fun W' hW' => ⟨hW'.cell (by go_simp), hW'.cell (by go_simp), hW'.cell (by go_simp), hW'.cell (by go_simp), hW'.cell (by go_simp)⟩) (by kernel_rfl) (by kernel_rfl) ?_
          intro HCW
          repeat (first | go_big_quiet_skip | (go_big_quiet_want; apply Exists.intro; refine ⟨fun W hW => ?_, ?_⟩; (focus (obtain ⟨q0, q1, q2, q3, q4⟩ := HCW W hW; go_simp; first | done | rfl | with_reducible exact ext_same HP.out W hW)); (simp only [Act.put, List.setIfInBounds_toArray, List.set_cons_zero, List.set_cons_succ]); go_big_quiet_on))
          refine wpQuiet_nil ?_
          intro W hW
          obtain ⟨q0, q1, q2, q3, q4⟩ := HCW W hW
          have hW := hW.below
          have hz := hW.size
          simp at hz
          go_wp2
          go_ret
          exact ⟨ret_int' HR.out.symm, (hbel.alloc (by omega) _).trans (hW.mono (by simp; omega))⟩
        | true =>
          cases a with
          | false =>
            have HR : Hid (envErr fs cs = 8) := envErr_bad HL1.out HL2.out (.inr (.inl (any_of_get HF.out (by rw [HBad.out]; simp))))
            go_wp2
            refine wp_region_ext (fun W' => W'.cell? ⟨w.heap.size, 1, none⟩ = some (.slice (some ⟨b, off, none⟩) cs.length cc) ∧ W'.cell? ⟨wr.heap.size, 0, none⟩ = some (.string f.pt) ∧ W'.cell? ⟨wr.heap.size, 1, none⟩ = some (.string f.nm) ∧ W'.cell? ⟨wr.heap.size, 2, none⟩ = some (.int .i64 f.d) ∧ W'.cell? ⟨wr.heap.size, 3, none⟩ = some (.bool f.first)) (fun W' hW' => ⟨hW'.cell (by go_simp), hW'.cell (by go_simp), hW'.cell (by go_simp), hW'.cell (by go_simp), hW'.cell (by go_simp)⟩) (by kernel_rfl) (by kernel_rfl) ?_
            intro HCW
            repeat (first | go_big_quiet_skip | (go_big_quiet_want; apply Exists.intro; refine ⟨fun W hW => ?_, ?_⟩; (focus (obtain ⟨q0, q1, q2, q3, q4⟩ := HCW W hW; go_simp; first | done | rfl | with_reducible exact ext_same HP.out W hW | with_reducible exact ext_same HN.out W hW)); (simp only [Act.put, List.setIfInBounds_toArray, List.set_cons_zero, List.set_cons_succ]); go_big_quiet_on))
            refine wpQuiet_nil ?_
            intro W hW
            obtain ⟨q0, q1, q2, q3, q4⟩ := HCW W hW
            have hW := hW.below
            have hz := hW.size
            simp at hz
            go_wp2
            go_ret
            exact ⟨ret_int' HR.out.symm, (hbel.alloc (by omega) _).trans (hW.mono (by simp; omega))⟩
          | true =>
            cases d with
            | true =>
              have HOk : Hid (chBad f = false) := by show _ = _; rw [HBad.out]; rfl
              rcases Nat.eq_zero_or_pos k with hk0 | hk0
              · have t0 : decide ((0 : Int) < (k : Int)) = false := by rw [decide_eq_false_iff_not]; omega
                have t0b : decide (0 < k) = false := by rw [decide_eq_false_iff_not]; omega
                have t0c : ¬ 0 < k := by omega
                have Hall2 : Hid ((∀ y ∈ cs.take (k + 1), chBad y = false) ∧ incB Ch.lt (cs.take (k + 1)) = true) := ⟨all_take_succ HF.out HOk.out Hall.out.1, by rw [hk0]; exact incB_zero⟩
                clear hk0
                go_wp2
                refine wp_region_ext (fun W' => W'.cell? ⟨w.heap.size, 1, none⟩ = some (.slice (some ⟨b, off, none⟩) cs.length cc) ∧ W'.cell? ⟨wr.heap.size, 0, none⟩ = some (.string f.pt) ∧ W'.cell? ⟨wr.heap.size, 1, none⟩ = some (.string f.nm) ∧ W'.cell? ⟨wr.heap.size, 2, none⟩ = some (.int .i64 f.d) ∧ W'.cell? ⟨wr.heap.size, 3, none⟩ = some (.bool f.first)) (fun W' hW' => ⟨hW'.cell (by go_simp), hW'.cell (by go_simp), hW'.cell (by go_simp), hW'.cell (by go_simp), hW'.cell (by go_simp)⟩) (by kernel_rfl) (by kernel_rfl) ?_
                intro HCW
                repeat (first | go_big_quiet_skip | (go_big_quiet_want; apply Exists.intro; refine ⟨fun W hW => ?_, ?_⟩; (focus (obtain ⟨q0, q1, q2, q3, q4⟩ := HCW W hW; go_simp; first | done | rfl | with_reducible exact ext_same HP.out W hW | with_reducible exact ext_same HN.out W hW | with_reducible exact ext_same HDy.out W hW)); (simp only [Act.put, List.setIfInBounds_toArray, List.set_cons_zero, List.set_cons_succ]); go_big_quiet_on))
                refine wpQuiet_nil ?_
                intro W hW
                obtain ⟨q0, q1, q2, q3, q4⟩ := HCW W hW
                have hW := hW.below
                have hz := hW.size
                simp at hz
                all_goals
                  go_wp2
                  go_roundw
                  case rel => exact ⟨k + 1, by omega, by go_num, Hall2, (hbel.alloc (by omega) _).trans (hW.mono (by simp; omega)), by first | omega | (simp; omega), by first | assumption | (rw [hW.cell (by simp; omega)]; go_simp), by first | assumption | (rw [hW.cell (by simp; omega)]; go_simp)⟩
                  case measure => simp [intOf]; omega
              · obtain ⟨k, rfl⟩ : ∃ k', k = k' + 1 := ⟨k - 1, by omega⟩
                obtain ⟨g, hg⟩ : ∃ g, cs[k]? = some g := ⟨_, List.getElem?_eq_getElem (by omega)⟩
                have HRg := ((HDC.out.below hbel).ch hg)
                have HI := Lib.hid (incB_snoc (lt := Ch.lt) hg HF.out)
                clear hg
                obtain ⟨b', off', he, hd1, hd2, hd3, hd4⟩ := HRg
                obtain ⟨rfl, rfl⟩ : b = b' ∧ off = off' := by simpa using he
                clear he hk0
                have ek : ((k + 1 : Nat) : Int) = (k : Int) + 1 := by omega
                rw [ek]
                clear ek
                have t0 : decide ((0 : Int) < (k : Int) + 1) = true := by rw [decide_eq_true_eq]; omega
                have e1 : (k : Int) + 1 - 1 = (k : Int) := by omega
                have e2 : IntKind.i64.wrap ((k : Int) + 1 - 1) = (k : Int) := by rw [IntWalk.i64_in _ (by omega)]; omega
                have e3 : IntKind.i64.wrap (k : Int) = (k : Int) := IntWalk.i64_in _ (by omega)
                have e4 : ((k : Int) + 1).toNat = k + 1 := by omega
                have hk2 : (0 : Int) ≤ (k : Int) + 1 := by omega
                have hk3 : (k : Int) + 1 < (cs.length : Int) := by omega
                have hk4 : (0 : Int) ≤ (k : Int) := by omega
                have hk5 : (k : Int) < (cs.length : Int) := by omega
                have HB : Hid (∀ W, Calls Tryz.prog 48 #[.agg #[.string g.pt, .string g.nm, .int .i64 g.d, .bool g.first], .agg #[.string f.pt, .string f.nm, .int .i64 f.d, .bool f.first]] W fun e w' => e = .returned (.bool (Ch.lt g f)) ∧ Below W.heap.size W w') := fun W => pickBefore_any _ _ _ _ _ _ _ _ _
                cases hp : Ch.lt g f with
                | true =>
                  have Hall2 : Hid ((∀ y ∈ cs.take (k + 1 + 1), chBad y = false) ∧ incB Ch.lt (cs.take (k + 1 + 1)) = true) := ⟨all_take_succ HF.out HOk.out Hall.out.1, by rw [HI.out, Hall.out.2, hp]; rfl⟩
                  rw [hp] at HB
                  clear hp
                  go_wp2
                  refine wp_region_ext (fun W' => W'.cell? ⟨w.heap.size, 1, none⟩ = some (.slice (some ⟨b, off, none⟩) cs.length cc) ∧ W'.cell? ⟨wr.heap.size, 0, none⟩ = some (.string f.pt) ∧ W'.cell? ⟨wr.heap.size, 1, none⟩ = some (.string f.nm) ∧ W'.cell? ⟨wr.heap.size, 2, none⟩ = some (.int .i64 f.d) ∧ W'.cell? ⟨wr.heap.size, 3, none⟩ = some (.bool f.first) ∧ W'.cell? ⟨b, off + k * 4, none⟩ = some (.string g.pt) ∧ W'.cell? ⟨b, off + k * 4 + 1, none⟩ = some (.string g.nm) ∧ W'.cell? ⟨b, off + k * 4 + 2, none⟩ = some (.int .i64 g.d) ∧ W'.cell? ⟨b, off + k * 4 + 3, none⟩ = some (.bool g.first)) (fun W' hW' => ⟨hW'.cell (by go_simp), hW'.cell (by go_simp), hW'.cell (by go_simp), hW'.cell (by go_simp), hW'.cell (by go_simp), hW'.cell (by go_simp), hW'.cell (by go_simp), hW'.cell (by go_simp), hW'.cell (by go_simp)⟩) (by kernel_rfl) (by kernel_rfl) ?_
                  intro HCW
                  repeat (first | go_big_quiet_skip | (go_big_quiet_want; apply Exists.intro; refine ⟨fun W hW => ?_, ?_⟩; (focus (obtain ⟨q0, q1, q2, q3, q4, q5, q6, q7, q8⟩ := HCW W hW; go_simp; first | done | rfl | with_reducible exact ext_same HP.out W hW | with_reducible exact ext_same HN.out W hW | with_reducible exact ext_same HDy.out W hW | with_reducible exact ext_calls HB.out W hW)); (simp only [Act.put, List.setIfInBounds_toArray, List.set_cons_zero, List.set_cons_succ]); go_big_quiet_on))
                  refine wpQuiet_nil ?_
                  intro W hW
                  obtain ⟨q0, q1, q2, q3, q4, q5, q6, q7, q8⟩ := HCW W hW
                  have hW := hW.below
                  have hz := hW.size
                  simp at hz
                  go_wp2
                  go_roundw
                  case rel => exact ⟨k + 1 + 1, by omega, by go_num, Hall2, (hbel.alloc (by omega) _).trans (hW.mono (by simp; omega)), by first | omega | (simp; omega), by first | assumption | (rw [hW.cell (by simp; omega)]; go_simp), by first | assumption | (rw [hW.cell (by simp; omega)]; go_simp)⟩
                  case measure => simp [intOf]; omega
                | false =>
                  have HR : Hid (envErr fs cs = 8) := envErr_bad HL1.out HL2.out (.inr (.inr (.inr (incB_false_of_take (k := k + 1 + 1) (by rw [HI.out, hp]; simp)))))
                  rw [hp] at HB
                  clear hp
                  go_wp2
                  refine wp_region_ext (fun W' => W'.cell? ⟨w.heap.size, 1, none⟩ = some (.slice (some ⟨b, off, none⟩) cs.length cc) ∧ W'.cell? ⟨wr.heap.size, 0, none⟩ = some (.string f.pt) ∧ W'.cell? ⟨wr.heap.size, 1, none⟩ = some (.string f.nm) ∧ W'.cell? ⟨wr.heap.size, 2, none⟩ = some (.int .i64 f.d) ∧ W'.cell? ⟨wr.heap.size, 3, none⟩ = some (.bool f.first) ∧ W'.cell? ⟨b, off + k * 4, none⟩ = some (.string g.pt) ∧ W'.cell? ⟨b, off + k * 4 + 1, none⟩ = some (.string g.nm) ∧ W'.cell? ⟨b, off + k * 4 + 2, none⟩ = some (.int .i64 g.d) ∧ W'.cell? ⟨b, off + k * 4 + 3, none⟩ = some (.bool g.first)) (fun W' hW' => ⟨hW'.cell (by go_simp), hW'.cell (by go_simp), hW'.cell (by go_simp), hW'.cell (by go_simp), hW'.cell (by go_simp), hW'.cell (by go_simp), hW'.cell (by go_simp), hW'.cell (by go_simp), hW'.cell (by go_simp)⟩) (by kernel_rfl) (by kernel_rfl) ?_
                  intro HCW
                  repeat (first | go_big_quiet_skip | (go_big_quiet_want; apply Exists.intro; refine ⟨fun W hW => ?_, ?_⟩; (focus (obtain ⟨q0, q1, q2, q3, q4, q5, q6, q7, q8⟩ := HCW W hW; go_simp; first | done | rfl | with_reducible exact ext_same HP.out W hW | with_reducible exact ext_same HN.out W hW | with_reducible exact ext_same HDy.out W hW | with_reducible exact ext_calls HB.out W hW)); (simp only [Act.put, List.setIfInBounds_toArray, List.set_cons_zero, List.set_cons_succ]); go_big_quiet_on))
                  refine wpQuiet_nil ?_
                  intro W hW
                  obtain ⟨q0, q1, q2, q3, q4, q5, q6, q7, q8⟩ := HCW W hW
                  have hW := hW.below
                  have hz := hW.size
                  simp at hz
                  go_wp2
                  go_ret
                  exact ⟨ret_int' HR.out.symm, (hbel.alloc (by omega) _).trans (hW.mono (by simp; omega))⟩
            | false =>
              have HR : Hid (envErr fs cs = 8) := envErr_bad HL1.out HL2.out (.inr (.inl (any_of_get HF.out (by rw [HBad.out]; simp))))
              go_wp2
              refine wp_region_ext (fun W' => W'.cell? ⟨w.heap.size, 1, none⟩ = some (.slice (some ⟨b, off, none⟩) cs.length cc) ∧ W'.cell? ⟨wr.heap.size, 0, none⟩ = some (.string f.pt) ∧ W'.cell? ⟨wr.heap.size, 1, none⟩ = some (.string f.nm) ∧ W'.cell? ⟨wr.heap.size, 2, none⟩ = some (.int .i64 f.d) ∧ W'.cell? ⟨wr.heap.size, 3, none⟩ = some (.bool f.first)) (fun W' hW' => ⟨hW'.cell (by go_simp), hW'.cell (by go_simp), hW'.cell (by go_simp), hW'.cell (by go_simp), hW'.cell (by go_simp)⟩) (by kernel_rfl) (by kernel_rfl) ?_
              intro HCW
              repeat (first | go_big_quiet_skip | (go_big_quiet_want; apply Exists.intro; refine ⟨fun W hW => ?_, ?_⟩; (focus (obtain ⟨q0, q1, q2, q3, q4⟩ := HCW W hW; go_simp; first | done | rfl | with_reducible exact ext_same HP.out W hW | with_reducible exact ext_same HN.out W hW | with_reducible exact ext_same HDy.out W hW)); (simp only [Act.put, List.setIfInBounds_toArray, List.set_cons_zero, List.set_cons_succ]); go_big_quiet_on))
              refine wpQuiet_nil ?_
              intro W hW
              obtain ⟨q0, q1, q2, q3, q4⟩ := HCW W hW
              have hW := hW.below
              have hz := hW.size
              simp at hz
              go_wp2
              go_ret
              exact ⟨ret_int' HR.out.symm, (hbel.alloc (by omega) _).trans (hW.mono (by simp; omega))⟩
      · obtain rfl : k = cs.length := by omega
        have HACh : Hid ((∀ y ∈ cs, chBad y = false) ∧ incB Ch.lt cs = true) := by have h := Hall.out; rw [List.take_length] at h; exact h
        clear Hall hlt hk
        have HR : Hid (envErr fs cs = 0) := envErr_ok HL1.out HL2.out HAFx.out.1 HACh.out.1 HAFx.out.2 HACh.out.2
        go_wp2
        go_ret
        exact ⟨ret_int' HR.out.symm, hbel⟩

set_option maxHeartbeats 1000000 in
set_option maxRecDepth 100000 in
theorem refEnv_any (fs : List Fx) (cs : List Ch) (af ac : Option Addr) (cf cc : Nat) (w : World) (hn : fs.length ≤ 1100000) (hm : cs.length ≤ 1100000)
    (hf : Rd Fx.cells 3 w af fs) (hc : Rd Ch.cells 4 w ac cs) (hfs : ∀ f ∈ fs, f.small) (hcs : ∀ c ∈ cs, c.small) :
    Calls Tryz.prog 20 #[.agg #[.slice af fs.length cf, .slice ac cs.length cc]] w fun e w' => e = .returned (.int .i64 (envErr fs cs)) ∧ Below w.heap.size w w' := by
  by_cases h1 : 1000 < fs.length
  · have d1 : decide ((1000 : Int) < (fs.length : Int)) = true := by rw [decide_eq_true_eq]; omega
    have HR : Hid (envErr fs cs = 4) := by show _ = _; rw [envErr, if_pos (.inl h1)]
    clear h1 hf hc hfs hcs
    go_enter Tryz.func20, Tryz.ntmps20
    go_wp2
    go_ret
    exact ⟨ret_int' HR.out.symm, below_a1 _ _⟩
  · by_cases h2 : 1000 < cs.length
    · have d1 : decide ((1000 : Int) < (fs.length : Int)) = false := by rw [decide_eq_false_iff_not]; omega
      have d2 : decide ((1000 : Int) < (cs.length : Int)) = true := by rw [decide_eq_true_eq]; omega
      have HR : Hid (envErr fs cs = 4) := by show _ = _; rw [envErr, if_pos (.inr h2)]
      clear h1 h2 hf hc hfs hcs
      go_enter Tryz.func20, Tryz.ntmps20
      go_wp2
      go_ret
      exact ⟨ret_int' HR.out.symm, below_a1 _ _⟩
    · exact refEnv_loop fs cs af ac cf cc w h1 h2 hf hc hfs hcs
end Go.Proofs.YtofbngpckllkoacGreat
