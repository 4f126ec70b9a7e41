/-
  novationref08.CheckEnv.  Printed by tools/genrefenv.py. append onto a slice of the call's own, as a step of a region that draws its order. novationref15.Known.  Printed by tools/genrefknown.py.
-/
import Derived.Test.YtofbngpckllkoaaPart07
import Derived.Test.YtofbngpckllkoaaPart10
import Derived.Test.YtofbngpckllkoaaPart12
import Derived.Test.YtofbngpckllkoaaPart01
import Derived.Laws.AppendOwn
import Derived.Maps.AppendAt
import Derived.Deep.RegionLaw
import Derived.Test.YtofbngpckllkoaaPart08
import Derived.Deep.CutBlock
namespace Go.Proofs.Ytofbngpckllkoaa
open Go.RowKit

theorem envErr_bad {fs : List Fx} {cs : List Ch} (h1 : ¬ 1000 < fs.length) (h2 : ¬ 1000 < cs.length) (h : fs.any fxBad = true ∨ cs.any chBad = true ∨ incB Fx.lt fs = false ∨ incB Ch.lt cs = false) : envErr fs cs = 8 := by
  rw [envErr, if_neg (by omega), if_pos]
  rcases h with h | h | h | h <;> simp [h]
theorem envErr_ok {fs : List Fx} {cs : List Ch} (h1 : ¬ 1000 < fs.length) (h2 : ¬ 1000 < cs.length) (h3 : ∀ f ∈ fs, fxBad f = false) (h4 : ∀ c ∈ cs, chBad c = false) (h5 : incB Fx.lt fs = true) (h6 : incB Ch.lt cs = true) : envErr fs cs = 0 := by
  have a1 : fs.any fxBad = false := by rw [List.any_eq_false]; simpa using h3
  have a2 : cs.any chBad = false := by rw [List.any_eq_false]; simpa using h4
  rw [envErr, if_neg (by omega), if_neg]
  simp [a1, a2, h5, h6]
theorem quiet_flip {P : Program} {f : FuncId} {args : Array Value} {v : Value} (h : ∀ W, Calls P f args W fun e w' => e = .returned v ∧ W = w') (W : World) (n : Nat) : Calls P f args (W.drewN n) fun e w' => e = .returned v ∧ ∃ m, w' = W.drewN m :=
  (h _).mono fun _ _ ⟨he, hw⟩ => ⟨he, n, hw.symm⟩
theorem any_of_get {α : Type} {p : α → Bool} {l : List α} {k : Nat} {x : α} (h : l[k]? = some x) (hp : p x = true) : l.any p = true := List.any_eq_true.2 ⟨x, List.mem_of_getElem? h, hp⟩
theorem incB_zero {α : Type} {lt : α → α → Bool} {l : List α} : incB lt (l.take (0 + 1)) = true := incB_le_one (by rw [List.length_take]; omega)

set_option maxHeartbeats 8000000 in
set_option maxRecDepth 100000 in
theorem refEnv_loop (fs : List Fx) (cs : List Ch) (af ac : Option Addr) (cf cc : Nat) (w : World) (hn : ¬ 1000 < fs.length) (hm : ¬ 1000 < cs.length)
    (hf : Rd Fx.cells 3 w af fs) (hc : Rd Ch.cells 4 w ac cs) (hfs : ∀ f ∈ fs, f.small) (hcs : ∀ c ∈ cs, c.small) :
    Calls Try.prog 16 #[.agg #[.slice af fs.length cf, .slice ac cs.length cc]] w fun e w' => e = .returned (.int .i64 (envErr fs cs)) ∧ Below w.heap.size w w' := by
  have HDF := Lib.hid hf
  have HDC := Lib.hid hc
  have HSF := Lib.hid hfs
  have HSC := Lib.hid hcs
  have HL1 := Lib.hid hn
  have HL2 := Lib.hid hm
  have hn' : (fs.length : Int) ≤ 1000 := by omega
  have hm' : (cs.length : Int) ≤ 1000 := by omega
  have d1 : decide ((1000 : Int) < (fs.length : Int)) = false := by rw [decide_eq_false_iff_not]; omega
  have d2 : decide ((1000 : Int) < (cs.length : Int)) = false := by rw [decide_eq_false_iff_not]; omega
  have hb0 := fun o => below_a1 w o
  clear hf hc hfs hcs hn hm
  go_enter Try.func16, Try.ntmps16
  go_upto_block 0 with fail
  go_cut [3, 4] from 17 to 59 (fun _ _ wc => Hid ((∀ y ∈ fs, fxBad y = false) ∧ incB Fx.lt fs = true) ∧ Below w.heap.size w wc ∧ w.heap.size < wc.heap.size ∧ wc.cell? ⟨w.heap.size, 0, none⟩ = some (.slice af fs.length cf) ∧ wc.cell? ⟨w.heap.size, 1, none⟩ = some (.slice ac cs.length cc))
  case first =>
    go_wp2_with fail
    go_loopw [3] (fun i wr => ∃ k : Nat, k ≤ fs.length ∧ i = .int .i64 k ∧ Hid ((∀ y ∈ fs.take k, fxBad y = false) ∧ incB Fx.lt (fs.take k) = true) ∧ Below w.heap.size w wr ∧ w.heap.size < wr.heap.size ∧ wr.cell? ⟨w.heap.size, 0, none⟩ = some (.slice af fs.length cf) ∧ wr.cell? ⟨w.heap.size, 1, none⟩ = some (.slice ac cs.length cc)) (fun i _ => fs.length - (intOf i).toNat)
    case atStart => exact ⟨0, Nat.zero_le _, rfl, Lib.hid ⟨by simp, by simp [incB]⟩, hb0 _, by simp, by go_simp, by go_simp⟩
    case round =>
      obtain ⟨k, hk, rfl, Hall, hbel, hsz, kb0, kb1⟩ := hrel
      by_cases hlt : k < fs.length
      · obtain ⟨f, hf⟩ : ∃ f, fs[k]? = some f := ⟨_, List.getElem?_eq_getElem hlt⟩
        have hfm : f ∈ fs := List.mem_of_getElem? hf
        have HRf := ((HDF.out.below hbel).fx hf)
        have HN := Lib.hid (fun W => rname_any f.nm W (by have := (HSF.out f hfm).1; omega))
        have HK0 := Lib.hid (fun W => refrat_any f.vl W (HSF.out f hfm).2)
        have HDy := Lib.hid (fun W => rday_any f.d W)
        have HF := Lib.hid hf
        clear hf hfm
        obtain ⟨b, off, rfl, hc1, hc2, hc3⟩ := HRf
        have hbl : b < wr.heap.size := World.block_lt_of_cell? wr _ hc1
        have HBad : Hid (fxBad f = !(isNm (bl f.nm) && (isDay f.d && decide (ratErr f.vl = 0)))) := rfl
        generalize isNm (bl f.nm) = a at HN HBad
        generalize isDay f.d = d at HDy HBad
        generalize ratErr f.vl = E at HK0 HBad
        unfold RatPost at HK0
        cases a with
        | false =>
          have HR : Hid (envErr fs cs = 8) := envErr_bad HL1.out HL2.out (.inl (any_of_get HF.out (by rw [HBad.out]; simp)))
          go_wp2
          refine wp_region_ext (fun W' => W'.cell? ⟨w.heap.size, 0, none⟩ = some (.slice (some ⟨b, off, none⟩) fs.length cf) ∧ W'.cell? ⟨wr.heap.size, 0, none⟩ = some (.string f.nm) ∧ W'.cell? ⟨wr.heap.size, 1, none⟩ = some (.int .i64 f.d) ∧ W'.cell? ⟨wr.heap.size, 2, none⟩ = some (.string f.vl)) (fun W' hW' => ⟨hW'.cell (by go_simp), hW'.cell (by go_simp), hW'.cell (by go_simp), hW'.cell (by go_simp)⟩) (by kernel_rfl) (by kernel_rfl) ?_
          intro HCW
          repeat (first | go_big_quiet_skip | (go_big_quiet_want; apply Exists.intro; refine ⟨fun W hW => ?_, ?_⟩; (focus (obtain ⟨q0, q1, q2, q3⟩ := HCW W hW; go_simp; first | done | rfl | with_reducible exact ext_same HN.out W hW)); (simp only [Act.put, List.setIfInBounds_toArray, List.set_cons_zero, List.set_cons_succ]); go_big_quiet_on))
          refine wpQuiet_nil ?_
          intro W hW
          obtain ⟨q0, q1, q2, q3⟩ := HCW W hW
          have hW := hW.below
          have hz := hW.size
          simp at hz
          go_wp2
          go_ret
          exact ⟨ret_int' HR.out.symm, (hbel.alloc (by omega) _).trans (hW.mono (by simp; omega))⟩
        | true =>
          cases d with
          | false =>
            have HR : Hid (envErr fs cs = 8) := envErr_bad HL1.out HL2.out (.inl (any_of_get HF.out (by rw [HBad.out]; simp)))
            go_wp2
            refine wp_region_ext (fun W' => W'.cell? ⟨w.heap.size, 0, none⟩ = some (.slice (some ⟨b, off, none⟩) fs.length cf) ∧ W'.cell? ⟨wr.heap.size, 0, none⟩ = some (.string f.nm) ∧ W'.cell? ⟨wr.heap.size, 1, none⟩ = some (.int .i64 f.d) ∧ W'.cell? ⟨wr.heap.size, 2, none⟩ = some (.string f.vl)) (fun W' hW' => ⟨hW'.cell (by go_simp), hW'.cell (by go_simp), hW'.cell (by go_simp), hW'.cell (by go_simp)⟩) (by kernel_rfl) (by kernel_rfl) ?_
            intro HCW
            repeat (first | go_big_quiet_skip | (go_big_quiet_want; apply Exists.intro; refine ⟨fun W hW => ?_, ?_⟩; (focus (obtain ⟨q0, q1, q2, q3⟩ := HCW W hW; go_simp; first | done | rfl | with_reducible exact ext_same HN.out W hW | with_reducible exact ext_same HDy.out W hW)); (simp only [Act.put, List.setIfInBounds_toArray, List.set_cons_zero, List.set_cons_succ]); go_big_quiet_on))
            refine wpQuiet_nil ?_
            intro W hW
            obtain ⟨q0, q1, q2, q3⟩ := HCW W hW
            have hW := hW.below
            have hz := hW.size
            simp at hz
            go_wp2
            go_ret
            exact ⟨ret_int' HR.out.symm, (hbel.alloc (by omega) _).trans (hW.mono (by simp; omega))⟩
          | true =>
            by_cases hE : E = 0
            · subst hE
              have HOk : Hid (fxBad f = false) := by show _ = _; rw [HBad.out]; rfl
              rcases Nat.eq_zero_or_pos k with hk0 | hk0
              · have t0 : decide ((0 : Int) < (k : Int)) = false := by rw [decide_eq_false_iff_not]; omega
                have t0b : decide (0 < k) = false := by rw [decide_eq_false_iff_not]; omega
                have t0c : ¬ 0 < k := by omega
                have Hall2 : Hid ((∀ y ∈ fs.take (k + 1), fxBad y = false) ∧ incB Fx.lt (fs.take (k + 1)) = true) := ⟨all_take_succ HF.out HOk.out Hall.out.1, by rw [hk0]; exact incB_zero⟩
                clear hk0
                go_wp2
                refine wp_region_ext (fun W' => W'.cell? ⟨w.heap.size, 0, none⟩ = some (.slice (some ⟨b, off, none⟩) fs.length cf) ∧ W'.cell? ⟨wr.heap.size, 0, none⟩ = some (.string f.nm) ∧ W'.cell? ⟨wr.heap.size, 1, none⟩ = some (.int .i64 f.d) ∧ W'.cell? ⟨wr.heap.size, 2, none⟩ = some (.string f.vl)) (fun W' hW' => ⟨hW'.cell (by go_simp), hW'.cell (by go_simp), hW'.cell (by go_simp), hW'.cell (by go_simp)⟩) (by kernel_rfl) (by kernel_rfl) ?_
                intro HCW
                repeat (first | go_big_quiet_skip | (go_big_quiet_want; apply Exists.intro; refine ⟨fun W hW => ?_, ?_⟩; (focus (obtain ⟨q0, q1, q2, q3⟩ := HCW W hW; go_simp; first | done | rfl | with_reducible exact ext_same HN.out W hW | with_reducible exact ext_same HDy.out W hW | with_reducible exact ext_calls HK0.out W hW)); (simp only [Act.put, List.setIfInBounds_toArray, List.set_cons_zero, List.set_cons_succ]); go_big_quiet_on))
                refine wpQuiet_nil ?_
                intro W hW
                obtain ⟨q0, q1, q2, q3⟩ := HCW W hW
                have hW := hW.below
                have hz := hW.size
                simp at hz
                all_goals
                  go_wp2
                  go_roundw
                  case rel => exact ⟨k + 1, by omega, by go_num, Hall2, (hbel.alloc (by omega) _).trans (hW.mono (by simp; omega)), by first | omega | (simp; omega), by first | assumption | (rw [hW.cell (by simp; omega)]; go_simp), by first | assumption | (rw [hW.cell (by simp; omega)]; go_simp)⟩
                  case measure => simp [intOf]; omega
              · obtain ⟨k, rfl⟩ : ∃ k', k = k' + 1 := ⟨k - 1, by omega⟩
                obtain ⟨g, hg⟩ : ∃ g, fs[k]? = some g := ⟨_, List.getElem?_eq_getElem (by omega)⟩
                have HRg := ((HDF.out.below hbel).fx hg)
                have HI := Lib.hid (incB_snoc (lt := Fx.lt) hg HF.out)
                clear hg
                obtain ⟨b', off', he, hd1, hd2, hd3⟩ := HRg
                obtain ⟨rfl, rfl⟩ : b = b' ∧ off = off' := by simpa using he
                clear he hk0
                have ek : ((k + 1 : Nat) : Int) = (k : Int) + 1 := by omega
                rw [ek]
                clear ek
                have t0 : decide ((0 : Int) < (k : Int) + 1) = true := by rw [decide_eq_true_eq]; omega
                have e1 : (k : Int) + 1 - 1 = (k : Int) := by omega
                have e2 : IntKind.i64.wrap ((k : Int) + 1 - 1) = (k : Int) := by rw [IntWalk.i64_in _ (by omega)]; omega
                have e3 : IntKind.i64.wrap (k : Int) = (k : Int) := IntWalk.i64_in _ (by omega)
                have e4 : ((k : Int) + 1).toNat = k + 1 := by omega
                have hk2 : (0 : Int) ≤ (k : Int) + 1 := by omega
                have hk3 : (k : Int) + 1 < (fs.length : Int) := by omega
                have hk4 : (0 : Int) ≤ (k : Int) := by omega
                have hk5 : (k : Int) < (fs.length : Int) := by omega
                have HB : Hid (∀ W, Calls Try.prog 33 #[.agg #[.string g.nm, .int .i64 g.d, .string g.vl], .agg #[.string f.nm, .int .i64 f.d, .string f.vl]] W fun e w' => e = .returned (.bool (Fx.lt g f)) ∧ Below W.heap.size W w') := fun W => fixBefore_any _ _ _ _ _ _ _
                cases hp : Fx.lt g f with
                | true =>
                  have Hall2 : Hid ((∀ y ∈ fs.take (k + 1 + 1), fxBad y = false) ∧ incB Fx.lt (fs.take (k + 1 + 1)) = true) := ⟨all_take_succ HF.out HOk.out Hall.out.1, by rw [HI.out, Hall.out.2, hp]; rfl⟩
                  rw [hp] at HB
                  clear hp
                  go_wp2
                  refine wp_region_ext (fun W' => W'.cell? ⟨w.heap.size, 0, none⟩ = some (.slice (some ⟨b, off, none⟩) fs.length cf) ∧ W'.cell? ⟨wr.heap.size, 0, none⟩ = some (.string f.nm) ∧ W'.cell? ⟨wr.heap.size, 1, none⟩ = some (.int .i64 f.d) ∧ W'.cell? ⟨wr.heap.size, 2, none⟩ = some (.string f.vl) ∧ W'.cell? ⟨b, off + k * 3, none⟩ = some (.string g.nm) ∧ W'.cell? ⟨b, off + k * 3 + 1, none⟩ = some (.int .i64 g.d) ∧ W'.cell? ⟨b, off + k * 3 + 2, none⟩ = some (.string g.vl)) (fun W' hW' => ⟨hW'.cell (by go_simp), hW'.cell (by go_simp), hW'.cell (by go_simp), hW'.cell (by go_simp), hW'.cell (by go_simp), hW'.cell (by go_simp), hW'.cell (by go_simp)⟩) (by kernel_rfl) (by kernel_rfl) ?_
                  intro HCW
                  repeat (first | go_big_quiet_skip | (go_big_quiet_want; apply Exists.intro; refine ⟨fun W hW => ?_, ?_⟩; (focus (obtain ⟨q0, q1, q2, q3, q4, q5, q6⟩ := HCW W hW; go_simp; first | done | rfl | with_reducible exact ext_same HN.out W hW | with_reducible exact ext_same HDy.out W hW | with_reducible exact ext_calls HK0.out W hW | with_reducible exact ext_calls HB.out W hW)); (simp only [Act.put, List.setIfInBounds_toArray, List.set_cons_zero, List.set_cons_succ]); go_big_quiet_on))
                  refine wpQuiet_nil ?_
                  intro W hW
                  obtain ⟨q0, q1, q2, q3, q4, q5, q6⟩ := HCW W hW
                  have hW := hW.below
                  have hz := hW.size
                  simp at hz
                  go_wp2
                  go_roundw
                  case rel => exact ⟨k + 1 + 1, by omega, by go_num, Hall2, (hbel.alloc (by omega) _).trans (hW.mono (by simp; omega)), by first | omega | (simp; omega), by first | assumption | (rw [hW.cell (by simp; omega)]; go_simp), by first | assumption | (rw [hW.cell (by simp; omega)]; go_simp)⟩
                  case measure => simp [intOf]; omega
                | false =>
                  have HR : Hid (envErr fs cs = 8) := envErr_bad HL1.out HL2.out (.inr (.inr (.inl (incB_false_of_take (k := k + 1 + 1) (by rw [HI.out, hp]; simp)))))
                  rw [hp] at HB
                  clear hp
                  go_wp2
                  refine wp_region_ext (fun W' => W'.cell? ⟨w.heap.size, 0, none⟩ = some (.slice (some ⟨b, off, none⟩) fs.length cf) ∧ W'.cell? ⟨wr.heap.size, 0, none⟩ = some (.string f.nm) ∧ W'.cell? ⟨wr.heap.size, 1, none⟩ = some (.int .i64 f.d) ∧ W'.cell? ⟨wr.heap.size, 2, none⟩ = some (.string f.vl) ∧ W'.cell? ⟨b, off + k * 3, none⟩ = some (.string g.nm) ∧ W'.cell? ⟨b, off + k * 3 + 1, none⟩ = some (.int .i64 g.d) ∧ W'.cell? ⟨b, off + k * 3 + 2, none⟩ = some (.string g.vl)) (fun W' hW' => ⟨hW'.cell (by go_simp), hW'.cell (by go_simp), hW'.cell (by go_simp), hW'.cell (by go_simp), hW'.cell (by go_simp), hW'.cell (by go_simp), hW'.cell (by go_simp)⟩) (by kernel_rfl) (by kernel_rfl) ?_
                  intro HCW
                  repeat (first | go_big_quiet_skip | (go_big_quiet_want; apply Exists.intro; refine ⟨fun W hW => ?_, ?_⟩; (focus (obtain ⟨q0, q1, q2, q3, q4, q5, q6⟩ := HCW W hW; go_simp; first | done | rfl | with_reducible exact ext_same HN.out W hW | with_reducible exact ext_same HDy.out W hW | with_reducible exact ext_calls HK0.out W hW | with_reducible exact ext_calls HB.out W hW)); (simp only [Act.put, List.setIfInBounds_toArray, List.set_cons_zero, List.set_cons_succ]); go_big_quiet_on))
                  refine wpQuiet_nil ?_
                  intro W hW
                  obtain ⟨q0, q1, q2, q3, q4, q5, q6⟩ := HCW W hW
                  have hW := hW.below
                  have hz := hW.size
                  simp at hz
                  go_wp2
                  go_ret
                  exact ⟨ret_int' HR.out.symm, (hbel.alloc (by omega) _).trans (hW.mono (by simp; omega))⟩
            · have HR : Hid (envErr fs cs = 8) := envErr_bad HL1.out HL2.out (.inl (any_of_get HF.out (by rw [HBad.out]; simp [hE])))
              have t1 : (E != 0) = true := by rw [bne_iff_ne]; exact hE
              have t2 : (E == 0) = false := by rw [beq_eq_false_iff_ne]; exact hE
              clear hE
              go_wp2
              refine wp_region_ext (fun W' => W'.cell? ⟨w.heap.size, 0, none⟩ = some (.slice (some ⟨b, off, none⟩) fs.length cf) ∧ W'.cell? ⟨wr.heap.size, 0, none⟩ = some (.string f.nm) ∧ W'.cell? ⟨wr.heap.size, 1, none⟩ = some (.int .i64 f.d) ∧ W'.cell? ⟨wr.heap.size, 2, none⟩ = some (.string f.vl)) (fun W' hW' => ⟨hW'.cell (by go_simp), hW'.cell (by go_simp), hW'.cell (by go_simp), hW'.cell (by go_simp)⟩) (by kernel_rfl) (by kernel_rfl) ?_
              intro HCW
              repeat (first | go_big_quiet_skip | (go_big_quiet_want; apply Exists.intro; refine ⟨fun W hW => ?_, ?_⟩; (focus (obtain ⟨q0, q1, q2, q3⟩ := HCW W hW; go_simp; first | done | rfl | with_reducible exact ext_same HN.out W hW | with_reducible exact ext_same HDy.out W hW | with_reducible exact ext_calls HK0.out W hW)); (simp only [Act.put, List.setIfInBounds_toArray, List.set_cons_zero, List.set_cons_succ]); go_big_quiet_on))
              refine wpQuiet_nil ?_
              intro W hW
              obtain ⟨q0, q1, q2, q3⟩ := HCW W hW
              have hW := hW.below
              have hz := hW.size
              simp at hz
              all_goals
                go_wp2
                go_ret
                exact ⟨ret_int' HR.out.symm, (hbel.alloc (by omega) _).trans (hW.mono (by simp; omega))⟩
      · obtain rfl : k = fs.length := by omega
        have HAFx : Hid ((∀ y ∈ fs, fxBad y = false) ∧ incB Fx.lt fs = true) := by have h := Hall.out; rw [List.take_length] at h; exact h
        clear Hall hlt hk
        go_wp2
        go_meet
        exact ⟨HAFx, hbel, hsz, kb0, kb1⟩
  case rest =>
    obtain ⟨HAFx, hbel, hsz, kb0, kb1⟩ := hcut
    go_wp2
    go_loopw [5] (fun i wr => ∃ k : Nat, k ≤ cs.length ∧ i = .int .i64 k ∧ Hid ((∀ y ∈ cs.take k, chBad y = false) ∧ incB Ch.lt (cs.take k) = true) ∧ Below w.heap.size w wr ∧ w.heap.size < wr.heap.size ∧ wr.cell? ⟨w.heap.size, 0, none⟩ = some (.slice af fs.length cf) ∧ wr.cell? ⟨w.heap.size, 1, none⟩ = some (.slice ac cs.length cc)) (fun i _ => cs.length - (intOf i).toNat)
    case atStart => exact ⟨0, Nat.zero_le _, rfl, Lib.hid ⟨by simp, by simp [incB]⟩, hbel, hsz, kb0, kb1⟩
    case round =>
      clear hbel hsz kb0 kb1
      obtain ⟨k, hk, rfl, Hall, hbel, hsz, kb0, kb1⟩ := hrel
      by_cases hlt : k < cs.length
      · obtain ⟨f, hf⟩ : ∃ f, cs[k]? = some f := ⟨_, List.getElem?_eq_getElem hlt⟩
        have hfm : f ∈ cs := List.mem_of_getElem? hf
        have HRf := ((HDC.out.below hbel).ch hf)
        have HP := Lib.hid (fun W => rname_any f.pt W (by have := (HSC.out f hfm).1; omega))
        have HN := Lib.hid (fun W => rname_any f.nm W (by have := (HSC.out f hfm).2; omega))
        have HDy := Lib.hid (fun W => rday_any f.d W)
        have HF := Lib.hid hf
        clear hf hfm
        obtain ⟨b, off, rfl, hc1, hc2, hc3, hc4⟩ := HRf
        have hbl : b < wr.heap.size := World.block_lt_of_cell? wr _ hc1
        have HBad : Hid (chBad f = !(isNm (bl f.pt) && (isNm (bl f.nm) && isDay f.d))) := rfl
        generalize isNm (bl f.pt) = a0 at HP HBad
        generalize isNm (bl f.nm) = a at HN HBad
        generalize isDay f.d = d at HDy HBad
        cases a0 with
        | false =>
          have HR : Hid (envErr fs cs = 8) := envErr_bad HL1.out HL2.out (.inr (.inl (any_of_get HF.out (by rw [HBad.out]; simp))))
          go_wp2
          refine wp_region_ext (fun W' => W'.cell? ⟨w.heap.size, 1, none⟩ = some (.slice (some ⟨b, off, none⟩) cs.length cc) ∧ W'.cell? ⟨wr.heap.size, 0, none⟩ = some (.string f.pt) ∧ W'.cell? ⟨wr.heap.size, 1, none⟩ = some (.string f.nm) ∧ W'.cell? ⟨wr.heap.size, 2, none⟩ = some (.int .i64 f.d) ∧ W'.cell? ⟨wr.heap.size, 3, none⟩ = some (.bool f.first)) (fun W' hW' => ⟨hW'.cell (by go_simp), hW'.cell (by go_simp), hW'.cell (by go_simp), hW'.cell (by go_simp), hW'.cell (by go_simp)⟩) (by kernel_rfl) (by kernel_rfl) ?_
          intro HCW
          repeat (first | go_big_quiet_skip | (go_big_quiet_want; apply Exists.intro; refine ⟨fun W hW => ?_, ?_⟩; (focus (obtain ⟨q0, q1, q2, q3, q4⟩ := HCW W hW; go_simp; first | done | rfl | with_reducible exact ext_same HP.out W hW)); (simp only [Act.put, List.setIfInBounds_toArray, List.set_cons_zero, List.set_cons_succ]); go_big_quiet_on))
          refine wpQuiet_nil ?_
          intro W hW
          obtain ⟨q0, q1, q2, q3, q4⟩ := HCW W hW
          have hW := hW.below
          have hz := hW.size
          simp at hz
          go_wp2
          go_ret
          exact ⟨ret_int' HR.out.symm, (hbel.alloc (by omega) _).trans (hW.mono (by simp; omega))⟩
        | true =>
          cases a with
          | false =>
            have HR : Hid (envErr fs cs = 8) := envErr_bad HL1.out HL2.out (.inr (.inl (any_of_get HF.out (by rw [HBad.out]; simp))))
            go_wp2
            refine wp_region_ext (fun W' => W'.cell? ⟨w.heap.size, 1, none⟩ = some (.slice (some ⟨b, off, none⟩) cs.length cc) ∧ W'.cell? ⟨wr.heap.size, 0, none⟩ = some (.string f.pt) ∧ W'.cell? ⟨wr.heap.size, 1, none⟩ = some (.string f.nm) ∧ W'.cell? ⟨wr.heap.size, 2, none⟩ = some (.int .i64 f.d) ∧ W'.cell? ⟨wr.heap.size, 3, none⟩ = some (.bool f.first)) (fun W' hW' => ⟨hW'.cell (by go_simp), hW'.cell (by go_simp), hW'.cell (by go_simp), hW'.cell (by go_simp), hW'.cell (by go_simp)⟩) (by kernel_rfl) (by kernel_rfl) ?_
            intro HCW
            repeat (first | go_big_quiet_skip | (go_big_quiet_want; apply Exists.intro; refine ⟨fun W hW => ?_, ?_⟩; (focus (obtain ⟨q0, q1, q2, q3, q4⟩ := HCW W hW; go_simp; first | done | rfl | with_reducible exact ext_same HP.out W hW | with_reducible exact ext_same HN.out W hW)); (simp only [Act.put, List.setIfInBounds_toArray, List.set_cons_zero, List.set_cons_succ]); go_big_quiet_on))
            refine wpQuiet_nil ?_
            intro W hW
            obtain ⟨q0, q1, q2, q3, q4⟩ := HCW W hW
            have hW := hW.below
            have hz := hW.size
            simp at hz
            go_wp2
            go_ret
            exact ⟨ret_int' HR.out.symm, (hbel.alloc (by omega) _).trans (hW.mono (by simp; omega))⟩
          | true =>
            cases d with
            | true =>
              have HOk : Hid (chBad f = false) := by show _ = _; rw [HBad.out]; rfl
              rcases Nat.eq_zero_or_pos k with hk0 | hk0
              · have t0 : decide ((0 : Int) < (k : Int)) = false := by rw [decide_eq_false_iff_not]; omega
                have t0b : decide (0 < k) = false := by rw [decide_eq_false_iff_not]; omega
                have t0c : ¬ 0 < k := by omega
                have Hall2 : Hid ((∀ y ∈ cs.take (k + 1), chBad y = false) ∧ incB Ch.lt (cs.take (k + 1)) = true) := ⟨all_take_succ HF.out HOk.out Hall.out.1, by rw [hk0]; exact incB_zero⟩
                clear hk0
                go_wp2
                refine wp_region_ext (fun W' => W'.cell? ⟨w.heap.size, 1, none⟩ = some (.slice (some ⟨b, off, none⟩) cs.length cc) ∧ W'.cell? ⟨wr.heap.size, 0, none⟩ = some (.string f.pt) ∧ W'.cell? ⟨wr.heap.size, 1, none⟩ = some (.string f.nm) ∧ W'.cell? ⟨wr.heap.size, 2, none⟩ = some (.int .i64 f.d) ∧ W'.cell? ⟨wr.heap.size, 3, none⟩ = some (.bool f.first)) (fun W' hW' => ⟨hW'.cell (by go_simp), hW'.cell (by go_simp), hW'.cell (by go_simp), hW'.cell (by go_simp), hW'.cell (by go_simp)⟩) (by kernel_rfl) (by kernel_rfl) ?_
                intro HCW
                repeat (first | go_big_quiet_skip | (go_big_quiet_want; apply Exists.intro; refine ⟨fun W hW => ?_, ?_⟩; (focus (obtain ⟨q0, q1, q2, q3, q4⟩ := HCW W hW; go_simp; first | done | rfl | with_reducible exact ext_same HP.out W hW | with_reducible exact ext_same HN.out W hW | with_reducible exact ext_same HDy.out W hW)); (simp only [Act.put, List.setIfInBounds_toArray, List.set_cons_zero, List.set_cons_succ]); go_big_quiet_on))
                refine wpQuiet_nil ?_
                intro W hW
                obtain ⟨q0, q1, q2, q3, q4⟩ := HCW W hW
                have hW := hW.below
                have hz := hW.size
                simp at hz
                all_goals
                  go_wp2
                  go_roundw
                  case rel => exact ⟨k + 1, by omega, by go_num, Hall2, (hbel.alloc (by omega) _).trans (hW.mono (by simp; omega)), by first | omega | (simp; omega), by first | assumption | (rw [hW.cell (by simp; omega)]; go_simp), by first | assumption | (rw [hW.cell (by simp; omega)]; go_simp)⟩
                  case measure => simp [intOf]; omega
              · obtain ⟨k, rfl⟩ : ∃ k', k = k' + 1 := ⟨k - 1, by omega⟩
                obtain ⟨g, hg⟩ : ∃ g, cs[k]? = some g := ⟨_, List.getElem?_eq_getElem (by omega)⟩
                have HRg := ((HDC.out.below hbel).ch hg)
                have HI := Lib.hid (incB_snoc (lt := Ch.lt) hg HF.out)
                clear hg
                obtain ⟨b', off', he, hd1, hd2, hd3, hd4⟩ := HRg
                obtain ⟨rfl, rfl⟩ : b = b' ∧ off = off' := by simpa using he
                clear he hk0
                have ek : ((k + 1 : Nat) : Int) = (k : Int) + 1 := by omega
                rw [ek]
                clear ek
                have t0 : decide ((0 : Int) < (k : Int) + 1) = true := by rw [decide_eq_true_eq]; omega
                have e1 : (k : Int) + 1 - 1 = (k : Int) := by omega
                have e2 : IntKind.i64.wrap ((k : Int) + 1 - 1) = (k : Int) := by rw [IntWalk.i64_in _ (by omega)]; omega
                have e3 : IntKind.i64.wrap (k : Int) = (k : Int) := IntWalk.i64_in _ (by omega)
                have e4 : ((k : Int) + 1).toNat = k + 1 := by omega
                have hk2 : (0 : Int) ≤ (k : Int) + 1 := by omega
                have hk3 : (k : Int) + 1 < (cs.length : Int) := by omega
                have hk4 : (0 : Int) ≤ (k : Int) := by omega
                have hk5 : (k : Int) < (cs.length : Int) := by omega
                have HB : Hid (∀ W, Calls Try.prog 34 #[.agg #[.string g.pt, .string g.nm, .int .i64 g.d, .bool g.first], .agg #[.string f.pt, .string f.nm, .int .i64 f.d, .bool f.first]] W fun e w' => e = .returned (.bool (Ch.lt g f)) ∧ Below W.heap.size W w') := fun W => pickBefore_any _ _ _ _ _ _ _ _ _
                cases hp : Ch.lt g f with
                | true =>
                  have Hall2 : Hid ((∀ y ∈ cs.take (k + 1 + 1), chBad y = false) ∧ incB Ch.lt (cs.take (k + 1 + 1)) = true) := ⟨all_take_succ HF.out HOk.out Hall.out.1, by rw [HI.out, Hall.out.2, hp]; rfl⟩
                  rw [hp] at HB
                  clear hp
                  go_wp2
                  refine wp_region_ext (fun W' => W'.cell? ⟨w.heap.size, 1, none⟩ = some (.slice (some ⟨b, off, none⟩) cs.length cc) ∧ W'.cell? ⟨wr.heap.size, 0, none⟩ = some (.string f.pt) ∧ W'.cell? ⟨wr.heap.size, 1, none⟩ = some (.string f.nm) ∧ W'.cell? ⟨wr.heap.size, 2, none⟩ = some (.int .i64 f.d) ∧ W'.cell? ⟨wr.heap.size, 3, none⟩ = some (.bool f.first) ∧ W'.cell? ⟨b, off + k * 4, none⟩ = some (.string g.pt) ∧ W'.cell? ⟨b, off + k * 4 + 1, none⟩ = some (.string g.nm) ∧ W'.cell? ⟨b, off + k * 4 + 2, none⟩ = some (.int .i64 g.d) ∧ W'.cell? ⟨b, off + k * 4 + 3, none⟩ = some (.bool g.first)) (fun W' hW' => ⟨hW'.cell (by go_simp), hW'.cell (by go_simp), hW'.cell (by go_simp), hW'.cell (by go_simp), hW'.cell (by go_simp), hW'.cell (by go_simp), hW'.cell (by go_simp), hW'.cell (by go_simp), hW'.cell (by go_simp)⟩) (by kernel_rfl) (by kernel_rfl) ?_
                  intro HCW
                  repeat (first | go_big_quiet_skip | (go_big_quiet_want; apply Exists.intro; refine ⟨fun W hW => ?_, ?_⟩; (focus (obtain ⟨q0, q1, q2, q3, q4, q5, q6, q7, q8⟩ := HCW W hW; go_simp; first | done | rfl | with_reducible exact ext_same HP.out W hW | with_reducible exact ext_same HN.out W hW | with_reducible exact ext_same HDy.out W hW | with_reducible exact ext_calls HB.out W hW)); (simp only [Act.put, List.setIfInBounds_toArray, List.set_cons_zero, List.set_cons_succ]); go_big_quiet_on))
                  refine wpQuiet_nil ?_
                  intro W hW
                  obtain ⟨q0, q1, q2, q3, q4, q5, q6, q7, q8⟩ := HCW W hW
                  have hW := hW.below
                  have hz := hW.size
                  simp at hz
                  go_wp2
                  go_roundw
                  case rel => exact ⟨k + 1 + 1, by omega, by go_num, Hall2, (hbel.alloc (by omega) _).trans (hW.mono (by simp; omega)), by first | omega | (simp; omega), by first | assumption | (rw [hW.cell (by simp; omega)]; go_simp), by first | assumption | (rw [hW.cell (by simp; omega)]; go_simp)⟩
                  case measure => simp [intOf]; omega
                | false =>
                  have HR : Hid (envErr fs cs = 8) := envErr_bad HL1.out HL2.out (.inr (.inr (.inr (incB_false_of_take (k := k + 1 + 1) (by rw [HI.out, hp]; simp)))))
                  rw [hp] at HB
                  clear hp
                  go_wp2
                  refine wp_region_ext (fun W' => W'.cell? ⟨w.heap.size, 1, none⟩ = some (.slice (some ⟨b, off, none⟩) cs.length cc) ∧ W'.cell? ⟨wr.heap.size, 0, none⟩ = some (.string f.pt) ∧ W'.cell? ⟨wr.heap.size, 1, none⟩ = some (.string f.nm) ∧ W'.cell? ⟨wr.heap.size, 2, none⟩ = some (.int .i64 f.d) ∧ W'.cell? ⟨wr.heap.size, 3, none⟩ = some (.bool f.first) ∧ W'.cell? ⟨b, off + k * 4, none⟩ = some (.string g.pt) ∧ W'.cell? ⟨b, off + k * 4 + 1, none⟩ = some (.string g.nm) ∧ W'.cell? ⟨b, off + k * 4 + 2, none⟩ = some (.int .i64 g.d) ∧ W'.cell? ⟨b, off + k * 4 + 3, none⟩ = some (.bool g.first)) (fun W' hW' => ⟨hW'.cell (by go_simp), hW'.cell (by go_simp), hW'.cell (by go_simp), hW'.cell (by go_simp), hW'.cell (by go_simp), hW'.cell (by go_simp), hW'.cell (by go_simp), hW'.cell (by go_simp), hW'.cell (by go_simp)⟩) (by kernel_rfl) (by kernel_rfl) ?_
                  intro HCW
                  repeat (first | go_big_quiet_skip | (go_big_quiet_want; apply Exists.intro; refine ⟨fun W hW => ?_, ?_⟩; (focus (obtain ⟨q0, q1, q2, q3, q4, q5, q6, q7, q8⟩ := HCW W hW; go_simp; first | done | rfl | with_reducible exact ext_same HP.out W hW | with_reducible exact ext_same HN.out W hW | with_reducible exact ext_same HDy.out W hW | with_reducible exact ext_calls HB.out W hW)); (simp only [Act.put, List.setIfInBounds_toArray, List.set_cons_zero, List.set_cons_succ]); go_big_quiet_on))
                  refine wpQuiet_nil ?_
                  intro W hW
                  obtain ⟨q0, q1, q2, q3, q4, q5, q6, q7, q8⟩ := HCW W hW
                  have hW := hW.below
                  have hz := hW.size
                  simp at hz
                  go_wp2
                  go_ret
                  exact ⟨ret_int' HR.out.symm, (hbel.alloc (by omega) _).trans (hW.mono (by simp; omega))⟩
            | false =>
              have HR : Hid (envErr fs cs = 8) := envErr_bad HL1.out HL2.out (.inr (.inl (any_of_get HF.out (by rw [HBad.out]; simp))))
              go_wp2
              refine wp_region_ext (fun W' => W'.cell? ⟨w.heap.size, 1, none⟩ = some (.slice (some ⟨b, off, none⟩) cs.length cc) ∧ W'.cell? ⟨wr.heap.size, 0, none⟩ = some (.string f.pt) ∧ W'.cell? ⟨wr.heap.size, 1, none⟩ = some (.string f.nm) ∧ W'.cell? ⟨wr.heap.size, 2, none⟩ = some (.int .i64 f.d) ∧ W'.cell? ⟨wr.heap.size, 3, none⟩ = some (.bool f.first)) (fun W' hW' => ⟨hW'.cell (by go_simp), hW'.cell (by go_simp), hW'.cell (by go_simp), hW'.cell (by go_simp), hW'.cell (by go_simp)⟩) (by kernel_rfl) (by kernel_rfl) ?_
              intro HCW
              repeat (first | go_big_quiet_skip | (go_big_quiet_want; apply Exists.intro; refine ⟨fun W hW => ?_, ?_⟩; (focus (obtain ⟨q0, q1, q2, q3, q4⟩ := HCW W hW; go_simp; first | done | rfl | with_reducible exact ext_same HP.out W hW | with_reducible exact ext_same HN.out W hW | with_reducible exact ext_same HDy.out W hW)); (simp only [Act.put, List.setIfInBounds_toArray, List.set_cons_zero, List.set_cons_succ]); go_big_quiet_on))
              refine wpQuiet_nil ?_
              intro W hW
              obtain ⟨q0, q1, q2, q3, q4⟩ := HCW W hW
              have hW := hW.below
              have hz := hW.size
              simp at hz
              go_wp2
              go_ret
              exact ⟨ret_int' HR.out.symm, (hbel.alloc (by omega) _).trans (hW.mono (by simp; omega))⟩
      · obtain rfl : k = cs.length := by omega
        have HACh : Hid ((∀ y ∈ cs, chBad y = false) ∧ incB Ch.lt cs = true) := by have h := Hall.out; rw [List.take_length] at h; exact h
        clear Hall hlt hk
        have HR : Hid (envErr fs cs = 0) := envErr_ok HL1.out HL2.out HAFx.out.1 HACh.out.1 HAFx.out.2 HACh.out.2
        go_wp2
        go_ret
        exact ⟨ret_int' HR.out.symm, hbel⟩

set_option maxHeartbeats 1000000 in
set_option maxRecDepth 100000 in
theorem refEnv_any (fs : List Fx) (cs : List Ch) (af ac : Option Addr) (cf cc : Nat) (w : World) (hn : fs.length ≤ 1100000) (hm : cs.length ≤ 1100000)
    (hf : Rd Fx.cells 3 w af fs) (hc : Rd Ch.cells 4 w ac cs) (hfs : ∀ f ∈ fs, f.small) (hcs : ∀ c ∈ cs, c.small) :
    Calls Try.prog 16 #[.agg #[.slice af fs.length cf, .slice ac cs.length cc]] w fun e w' => e = .returned (.int .i64 (envErr fs cs)) ∧ Below w.heap.size w w' := by
  by_cases h1 : 1000 < fs.length
  · have d1 : decide ((1000 : Int) < (fs.length : Int)) = true := by rw [decide_eq_true_eq]; omega
    have HR : Hid (envErr fs cs = 4) := by show _ = _; rw [envErr, if_pos (.inl h1)]
    clear h1 hf hc hfs hcs
    go_enter Try.func16, Try.ntmps16
    go_wp2
    go_ret
    exact ⟨ret_int' HR.out.symm, below_a1 _ _⟩
  · by_cases h2 : 1000 < cs.length
    · have d1 : decide ((1000 : Int) < (fs.length : Int)) = false := by rw [decide_eq_false_iff_not]; omega
      have d2 : decide ((1000 : Int) < (cs.length : Int)) = true := by rw [decide_eq_true_eq]; omega
      have HR : Hid (envErr fs cs = 4) := by show _ = _; rw [envErr, if_pos (.inr h2)]
      clear h1 h2 hf hc hfs hcs
      go_enter Try.func16, Try.ntmps16
      go_wp2
      go_ret
      exact ⟨ret_int' HR.out.symm, below_a1 _ _⟩
    · exact refEnv_loop fs cs af ac cf cc w h1 h2 hf hc hfs hcs
end Go.Proofs.Ytofbngpckllkoaa

namespace Go.Proofs.Ytofbngpckllkoaa
open Go.RowKit

theorem step_append_own {P : Program} {w : World} {ops : Array Oper} {o : Oper} {a : Act} {K : Act → World → Prop} {Q : Exit → Act → World → Prop} {E : Prop} (hgd : o.guard = none) (s x : Operand) (t : TypeId)
    (ho : o.op = .call { callee := .builtin .append, args := #[s, x], argTypes := #[t, t] }) (base : Nat) (e : TypeId) (i : TypeInfo) (z : Value) (size bytes : Nat) (ht : P.underlying t = some (.slice e)) (hi : P.info? e = some i) (hz : i.zero = some z)
    (hsize : i.size = size) (hby : i.bytes = bytes) (hzs : z.cells.size = size) (hsz : 0 < size) (v : Value) (n : Nat) (xs : List Value) (hs : a.eval s = v) (hown : w.ownsRow base e size v n xs)
    (ad : Addr) (m c : Nat) (news : List Value) (hx : a.eval x = .slice (some ad) m c) (hl : news.length = m * size) (hnews : ∀ j u, news[j]? = some u → w.cell? (ad.add j) = some u) (h1 : ∀ u ∈ news, u.oneCell' = true)
    (h63 : n + m ≤ maxLen) (hbytes : (n + m) * bytes ≤ 140737488355328) (hbase : base ≤ w.heap.size)
    (h : ∀ v' w', w'.ownsRow base e size v' (n + m) (xs ++ news) → w.grownBy w' v.ownBlock → K (a.put o.dst v') w') :
    if Region.wanted o (yielded ops a.tmps) = true then Oper.wp P o a w K Q else E := by
  have hw : Region.wanted o (yielded ops a.tmps) = true := by simp [Region.wanted, hgd]
  rw [if_pos hw]
  exact wp_append_own w s x t ho base e i z size bytes ht hi hz hsize hby hzs hsz v n xs hs hown ad m c news hx hl hnews h1 h63 hbytes hbase fun v' w' h2 h3 _ => h v' w' h2 h3
theorem ownsRow_drew {w : World} {base : Nat} {e : TypeId} {size : Nat} {v : Value} {n : Nat} {xs : List Value} (h : w.ownsRow base e size v n xs) : w.drew.ownsRow base e size v n xs := ownsRow_kept h fun _ _ _ => rfl
end Go.Proofs.Ytofbngpckllkoaa

namespace Go.Proofs.Ytofbngpckllkoaa
open Go.RowKit

theorem Boxed2.grown {wr w2 : World} {B B0 : Nat} {t : TypeId} {u v : Value} {o : Obj} {row : Option Nat} (h : Boxed2 wr B t u v) (hg : ((wr.alloc o).drew).grownBy w2 row) (hr : ∀ k, row = some k → B0 ≤ k) (hB : B < B0) : Boxed2 w2 B t u v := by
  refine h.of_block ((hg.block B ?_ ?_).trans (Below.heap_alloc _ _ _ h.lt))
  · show B < (wr.alloc o).heap.size
    have := h.lt
    simp; omega
  · intro e
    have := hr B e.symm
    omega
theorem ownsRow_grown {wr w2 : World} {base B1 : Nat} {e : TypeId} {size : Nat} {v : Value} {n : Nat} {xs : List Value} {o : Obj} {row : Option Nat} (h : wr.ownsRow base e size v n xs) (hg : ((wr.alloc o).drew).grownBy w2 row) (hr : ∀ k, row = some k → B1 ≤ k)
    (hb : ∀ k, v.ownBlock = some k → k < B1) : w2.ownsRow base e size v n xs := by
  refine ownsRow_kept h fun k hk hl => (hg.block k ?_ ?_).trans (Below.heap_alloc _ _ _ hl)
  · show k < (wr.alloc o).heap.size
    simp; omega
  · intro e
    have h1 := hr k e.symm
    have h2 := hb k hk
    omega

set_option maxHeartbeats 4000000 in
set_option maxRecDepth 100000 in
theorem rknown_ok (fs : List Fx) (cs : List Ch) (day : Int) (af ac : Option Addr) (cf cc : Nat) (w : World) (hn : fs.length ≤ 1100000) (hm : cs.length ≤ 1100000)
    (hf : Rd Fx.cells 3 w af fs) (hc : Rd Ch.cells 4 w ac cs) (hfs : ∀ f ∈ fs, f.small) (hcs : ∀ c ∈ cs, c.small) (he : envErr fs cs = 0) (hd : isDay day = true) :
    Calls Try.prog 7 #[.agg #[.slice af fs.length cf, .slice ac cs.length cc], .int .i64 day] w (EnvPost w (knownErr fs cs day) (knownF fs cs day) (knownC fs cs day)) := by
  have HE := Lib.hid (fun W (h : Below w.heap.size w W) => refEnv_any fs cs af ac cf cc W hn hm (hf.below h) (hc.below h) hfs hcs)
  have HDy := Lib.hid (fun W => rday_any day W)
  have R1 : knownErr fs cs day = 0 := by rw [knownErr, if_pos he, hd]; rfl
  rw [knownF, knownC, R1, if_pos rfl, if_pos rfl]
  rw [he] at HE
  rw [hd] at HDy
  obtain ⟨gs, hgs⟩ : ∃ gs, gs = fs.filter (fun f => decide (f.d ≤ day)) := ⟨_, rfl⟩
  obtain ⟨ds, hds⟩ : ∃ ds, ds = cs.filter (fun f => decide (f.d ≤ day)) := ⟨_, rfl⟩
  rw [← hgs, ← hds]
  have HG := Lib.hid hgs
  have HD := Lib.hid hds
  have Rfs := Lib.hid hf
  have Rcs := Lib.hid hc
  obtain ⟨i0, ji0, jz0, js0, jb0⟩ := info_parts info_fixing
  obtain ⟨i1, ji1, jz1, js1, jb1⟩ := info_parts info_choice
  clear hgs hds hf hc hfs hcs he hd R1
  go_enter Try.func7, Try.ntmps7
  have bx := fun (o1 o2 : Obj) => Boxed2.new ((w.alloc o1).alloc o2) (.slice none 0 0) (.slice none 0 0) 25
  have bx1 := fun (o1 o2 : Obj) => (Boxed2.new (w.alloc o1) (.slice none 0 0) (.slice none 0 0) 25).alloc o2
  have bx0 := fun (o1 o2 : Obj) => ((Boxed2.new w (.slice af fs.length cf) (.slice ac cs.length cc) 25).alloc o1).alloc o2
  have HBX := Lib.hid (And.intro bx (And.intro bx1 bx0))
  clear bx bx1 bx0
  go_wp2_with fail
  refine (HE.out _ (below_a3 _ _ _ _)).mono ?_
  rintro e w1 ⟨rfl, hb1⟩
  have hs1 := hb1.size
  simp at hs1
  have bO := (HBX.out.1 _ _).below hb1
  have bR := (HBX.out.2.1 _ _).below hb1
  have bE := (HBX.out.2.2 _ _).below hb1
  simp at bO bR
  have hbel : Below w.heap.size w w1 := (below_a3 _ _ _ _).trans (hb1.mono (by simp; omega))
  clear hb1 HBX
  have hs1 := hs1
  have k0 := bE.cell0
  have k1 := bE.cell1
  go_upto_block 0 with (go_at_call 17; refine (HDy.out _).mono ?_; rintro e w' ⟨rfl, rfl⟩)
  clear k0 k1
  obtain ⟨B0, hB0⟩ : ∃ B0, B0 = w1.heap.size := ⟨_, rfl⟩
  have hBz : w.heap.size + 1 + 1 < B0 := by omega
  have hBs : B0 ≤ w1.heap.size := by omega
  clear hB0 hs1
  go_cut [8] from 23 to 47 (fun _ wc => ∃ (adF : Option Addr) (capF : Nat), wc.ownsRow B0 39 3 (.slice adF gs.length capF) gs.length (gs.flatMap Fx.cells) ∧ Below w.heap.size w wc ∧ B0 ≤ wc.heap.size ∧ Boxed2 wc w.heap.size 25 (.slice af fs.length cf) (.slice ac cs.length cc) ∧ Boxed2 wc (w.heap.size + 1) 25 (.slice none 0 0) (.slice none 0 0) ∧ Boxed2 wc (w.heap.size + 1 + 1) 25 (.slice adF gs.length capF) (.slice none 0 0))
  case first =>
    go_wp2_with fail
    go_loopw [8] (fun i wr => ∃ (k M : Nat) (adb : Option Addr) (capb : Nat), k ≤ fs.length ∧ i = .int .i64 k ∧ M ≤ k ∧ Hid (M = ((fs.take k).filter (fun f => decide (f.d ≤ day))).length) ∧ wr.ownsRow B0 39 3 (.slice adb M capb) M (((fs.take k).filter (fun f => decide (f.d ≤ day))).flatMap Fx.cells) ∧ Below w.heap.size w wr ∧ B0 ≤ wr.heap.size ∧ Boxed2 wr w.heap.size 25 (.slice af fs.length cf) (.slice ac cs.length cc) ∧ Boxed2 wr (w.heap.size + 1) 25 (.slice none 0 0) (.slice none 0 0) ∧ Boxed2 wr (w.heap.size + 1 + 1) 25 (.slice adb M capb) (.slice none 0 0)) (fun i _ => fs.length - (intOf i).toNat)
    case atStart => exact ⟨0, 0, none, 0, Nat.zero_le _, rfl, Nat.le_refl _, rfl, World.ownsRow_nil _ _ _ _, hbel, hBs, bE, bR, bO⟩
    case round =>
      obtain ⟨k, M, adb, capb, hk, rfl, hMk, HM, hown, hbel, hBs, bE, bR, bO⟩ := hrel
      have k0 := bE.cell0
      have k1 := bE.cell1
      have r0 := bO.cell0
      have r1 := bO.cell1
      have hq2 : w.heap.size + 1 + 1 < wr.heap.size := bO.lt
      have hq0 : w.heap.size < wr.heap.size := bE.lt
      by_cases hlt : k < fs.length
      · obtain ⟨f, hf⟩ : ∃ f, fs[k]? = some f := ⟨_, List.getElem?_eq_getElem hlt⟩
        have HRf := ((Rfs.out.below hbel).fx hf)
        have HF := Lib.hid hf
        clear hf
        obtain ⟨b, off, rfl, hc1, hc2, hc3⟩ := HRf
        have hk1 : (0 : Int) ≤ (k : Int) := by omega
        have hk2 : (k : Int) < (fs.length : Int) := by omega
        by_cases hp : f.d ≤ day
        · have HX := Lib.hid (filter_take_true (p := (fun f => decide (f.d ≤ day))) HF.out (by simpa using hp))
          have t1 : decide (f.d ≤ day) = true := by simpa using hp
          clear hp
          have HO := Lib.hid hown.lt
          go_wp2
          go_region_law (refine step_append_own rfl (.tmp 39) (.tmp 45) 22 rfl B0 39 i0 _ 3 40 ul_fixings ji0 jz0 js0 jb0 rfl (by decide) (.slice adb M capb) M (((fs.take k).filter (fun f => decide (f.d ≤ day))).flatMap Fx.cells) rfl (ownsRow_drew (hown.alloc _)) ⟨wr.heap.size, 0, none⟩ 1 1 [.string f.nm, .int .i64 f.d, .string f.vl] rfl rfl (cell_three_new _ _ _ _ _) (fx_oneCell f) ?_ ?_ ?_ ?_; (unfold maxLen; omega); (omega); (show _ ≤ (wr.alloc _).heap.size; simp; omega); intro v2 w2 hown2 hgrow2; have bO2 := bO.grown hgrow2 (fun k hk => (HO.out k hk).1) (by omega); have rr0 := bO2.cell0; have rr1 := bO2.cell1; have zz0 := bO2.frozen 0; have zz1 := bO2.frozen 1; obtain ⟨ad3, cap3, rfl, _⟩ := Sl.of_owns hown2)
          all_goals
            have bE2 := bE.grown hgrow2 (fun k hk => (HO.out k hk).1) (by omega)
            have bR2 := bR.grown hgrow2 (fun k hk => (HO.out k hk).1) (by omega)
            have hbel2 : Below w.heap.size w w2 := ((hbel.alloc (by omega) _).drew).grown hgrow2 (by show _ ≤ (wr.alloc _).heap.size; simp; omega) (fun k hk => by have := (HO.out k hk).1; omega)
            have hs2 : B0 ≤ w2.heap.size := Nat.le_trans (by show _ ≤ (wr.alloc _).heap.size; simp; omega) hgrow2.size
            have HM2 : Hid (M + 1 = ((fs.take (k + 1)).filter (fun f => decide (f.d ≤ day))).length) := by show _ = _; rw [HX.out, List.length_append, ← HM.out]; rfl
            have hown3 : w2.ownsRow B0 39 3 (.slice ad3 (M + 1) cap3) (M + 1) (((fs.take (k + 1)).filter (fun f => decide (f.d ≤ day))).flatMap Fx.cells) := by
              rw [HX.out, List.flatMap_append]; simpa [Fx.cells] using hown2
            clear hown2 hgrow2 hown hbel bE bR bO
            go_wp2
            go_roundw
            case rel => exact ⟨k + 1, M + 1, ad3, cap3, by omega, by go_num, by omega, HM2, ownsRow_setCell_below hown3 (a := ⟨w.heap.size + 1 + 1, 0, none⟩) (by show _ < B0; omega) _, hbel2.setCell (p := ⟨w.heap.size + 1 + 1, 0, none⟩) (by show _ ≤ _ + 1 + 1; omega) _, by simpa using hs2, bE2.of_block (Below.heap_setCell _ _ _ _ (by show w.heap.size ≠ w.heap.size + 1 + 1; omega)), bR2.of_block (Below.heap_setCell _ _ _ _ (by show w.heap.size + 1 ≠ w.heap.size + 1 + 1; omega)), bO2.set0 _⟩
            case measure => simp [intOf]; omega
        · have HX := Lib.hid (filter_take_false (p := (fun f => decide (f.d ≤ day))) HF.out (by simpa using hp))
          have t1 : decide (f.d ≤ day) = false := by simpa using hp
          have HM2 : Hid (M = ((fs.take (k + 1)).filter (fun f => decide (f.d ≤ day))).length) := by show _ = _; rw [HX.out]; exact HM.out
          rw [← HX.out] at hown
          clear hp
          go_wp2
          go_roundw
          case rel => exact ⟨k + 1, M, adb, capb, by omega, by go_num, by omega, HM2, hown, hbel, hBs, bE, bR, bO⟩
          case measure => simp [intOf]; omega
      · obtain rfl : k = fs.length := by omega
        rw [List.take_length, ← HG.out] at hown HM
        obtain rfl := HM.out
        clear hlt hk HM
        go_wp2
        go_meet
        exact ⟨adb, capb, hown, hbel, hBs, bE, bR, bO⟩
  case rest =>
    obtain ⟨adF, capF, hoF, hbel, hBs0, bE, bR, bO⟩ := hcut
    obtain ⟨B1, hB1⟩ : ∃ B1, B1 = wc.heap.size := ⟨_, rfl⟩
    have hBz1 : w.heap.size + 1 + 1 < B1 := by omega
    have hBs : B1 ≤ wc.heap.size := by omega
    have HFb : Hid (∀ k, (Value.slice adF gs.length capF).ownBlock = some k → k < B1) := fun k hk => by rw [hB1]; exact (hoF.lt k hk).2
    clear hB1 hBs0
    go_wp2
    go_loopw [9] (fun i wr => ∃ (k M : Nat) (adb : Option Addr) (capb : Nat), k ≤ cs.length ∧ i = .int .i64 k ∧ M ≤ k ∧ Hid (M = ((cs.take k).filter (fun f => decide (f.d ≤ day))).length) ∧ wr.ownsRow B1 41 4 (.slice adb M capb) M (((cs.take k).filter (fun f => decide (f.d ≤ day))).flatMap Ch.cells) ∧ Below w.heap.size w wr ∧ B1 ≤ wr.heap.size ∧ Boxed2 wr w.heap.size 25 (.slice af fs.length cf) (.slice ac cs.length cc) ∧ Boxed2 wr (w.heap.size + 1) 25 (.slice none 0 0) (.slice none 0 0) ∧ Boxed2 wr (w.heap.size + 1 + 1) 25 (.slice adF gs.length capF) (.slice adb M capb) ∧ wr.ownsRow B0 39 3 (.slice adF gs.length capF) gs.length (gs.flatMap Fx.cells)) (fun i _ => cs.length - (intOf i).toNat)
    case atStart => exact ⟨0, 0, none, 0, Nat.zero_le _, rfl, Nat.le_refl _, rfl, World.ownsRow_nil _ _ _ _, hbel, hBs, bE, bR, bO, hoF⟩
    case round =>
      clear hbel hBs bE bR bO hoF
      obtain ⟨k, M, adb, capb, hk, rfl, hMk, HM, hown, hbel, hBs, bE, bR, bO, hoF⟩ := hrel
      have k0 := bE.cell0
      have k1 := bE.cell1
      have r0 := bO.cell0
      have r1 := bO.cell1
      have hq2 : w.heap.size + 1 + 1 < wr.heap.size := bO.lt
      have hq0 : w.heap.size < wr.heap.size := bE.lt
      by_cases hlt : k < cs.length
      · obtain ⟨f, hf⟩ : ∃ f, cs[k]? = some f := ⟨_, List.getElem?_eq_getElem hlt⟩
        have HRf := ((Rcs.out.below hbel).ch hf)
        have HF := Lib.hid hf
        clear hf
        obtain ⟨b, off, rfl, hc1, hc2, hc3, hc4⟩ := HRf
        have hk1 : (0 : Int) ≤ (k : Int) := by omega
        have hk2 : (k : Int) < (cs.length : Int) := by omega
        by_cases hp : f.d ≤ day
        · have HX := Lib.hid (filter_take_true (p := (fun f => decide (f.d ≤ day))) HF.out (by simpa using hp))
          have t1 : decide (f.d ≤ day) = true := by simpa using hp
          clear hp
          have HO := Lib.hid hown.lt
          go_wp2
          go_region_law (refine step_append_own rfl (.tmp 64) (.tmp 70) 23 rfl B1 41 i1 _ 4 48 ul_choices ji1 jz1 js1 jb1 rfl (by decide) (.slice adb M capb) M (((cs.take k).filter (fun f => decide (f.d ≤ day))).flatMap Ch.cells) rfl (ownsRow_drew (hown.alloc _)) ⟨wr.heap.size, 0, none⟩ 1 1 [.string f.pt, .string f.nm, .int .i64 f.d, .bool f.first] rfl rfl (cell_four_new _ _ _ _ _ _) (ch_oneCell f) ?_ ?_ ?_ ?_; (unfold maxLen; omega); (omega); (show _ ≤ (wr.alloc _).heap.size; simp; omega); intro v2 w2 hown2 hgrow2; have bO2 := bO.grown hgrow2 (fun k hk => (HO.out k hk).1) (by omega); have rr0 := bO2.cell0; have rr1 := bO2.cell1; have zz0 := bO2.frozen 0; have zz1 := bO2.frozen 1; obtain ⟨ad3, cap3, rfl, _⟩ := Sl.of_owns hown2)
          all_goals
            have bE2 := bE.grown hgrow2 (fun k hk => (HO.out k hk).1) (by omega)
            have bR2 := bR.grown hgrow2 (fun k hk => (HO.out k hk).1) (by omega)
            have hbel2 : Below w.heap.size w w2 := ((hbel.alloc (by omega) _).drew).grown hgrow2 (by show _ ≤ (wr.alloc _).heap.size; simp; omega) (fun k hk => by have := (HO.out k hk).1; omega)
            have hs2 : B1 ≤ w2.heap.size := Nat.le_trans (by show _ ≤ (wr.alloc _).heap.size; simp; omega) hgrow2.size
            have hoF2 := ownsRow_grown hoF hgrow2 (fun k hk => (HO.out k hk).1) HFb.out
            have HM2 : Hid (M + 1 = ((cs.take (k + 1)).filter (fun f => decide (f.d ≤ day))).length) := by show _ = _; rw [HX.out, List.length_append, ← HM.out]; rfl
            have hown3 : w2.ownsRow B1 41 4 (.slice ad3 (M + 1) cap3) (M + 1) (((cs.take (k + 1)).filter (fun f => decide (f.d ≤ day))).flatMap Ch.cells) := by
              rw [HX.out, List.flatMap_append]; simpa [Ch.cells] using hown2
            clear hown2 hgrow2 hown hbel bE bR bO hoF
            go_wp2
            go_roundw
            case rel => exact ⟨k + 1, M + 1, ad3, cap3, by omega, by go_num, by omega, HM2, ownsRow_setCell_below hown3 (a := ⟨w.heap.size + 1 + 1, 1, none⟩) (by show _ < B1; omega) _, hbel2.setCell (p := ⟨w.heap.size + 1 + 1, 1, none⟩) (by show _ ≤ _ + 1 + 1; omega) _, by simpa using hs2, bE2.of_block (Below.heap_setCell _ _ _ _ (by show w.heap.size ≠ w.heap.size + 1 + 1; omega)), bR2.of_block (Below.heap_setCell _ _ _ _ (by show w.heap.size + 1 ≠ w.heap.size + 1 + 1; omega)), bO2.set1 _, ownsRow_setCell_below hoF2 (a := ⟨w.heap.size + 1 + 1, 1, none⟩) (by show _ < B0; omega) _⟩
            case measure => simp [intOf]; omega
        · have HX := Lib.hid (filter_take_false (p := (fun f => decide (f.d ≤ day))) HF.out (by simpa using hp))
          have t1 : decide (f.d ≤ day) = false := by simpa using hp
          have HM2 : Hid (M = ((cs.take (k + 1)).filter (fun f => decide (f.d ≤ day))).length) := by show _ = _; rw [HX.out]; exact HM.out
          rw [← HX.out] at hown
          clear hp
          go_wp2
          go_roundw
          case rel => exact ⟨k + 1, M, adb, capb, by omega, by go_num, by omega, HM2, hown, hbel, hBs, bE, bR, bO, hoF⟩
          case measure => simp [intOf]; omega
      · obtain rfl : k = cs.length := by omega
        rw [List.take_length, ← HD.out] at hown HM
        obtain rfl := HM.out
        clear hlt hk HM
        have r0 := bO.cell0
        have r1 := bO.cell1
        have q0 := bR.cell0
        have q1 := bR.cell1
        have z0 := bR.frozen 0
        have z1 := bR.frozen 1
        go_wp2
        have HS := Lib.hid (bR.store (.slice adF gs.length capF) (.slice adb ds.length capb))
        have HW := Lib.hid (known_fin (gs := gs) (ds := ds) (N := w.heap.size + 1) hbel hoF hown (by omega) (by omega) (by omega))
        obtain ⟨W3, hW3⟩ : ∃ W3, W3 = (wr.setCell ⟨w.heap.size + 1, 0, none⟩ (.slice adF gs.length capF)).setCell ⟨w.heap.size + 1, 1, none⟩ (.slice adb ds.length capb) := ⟨_, rfl⟩
        rw [← hW3]
        rw [← hW3] at HS HW
        refine bodyPost_ret (v := .tuple #[.agg #[.slice adF gs.length capF, .slice adb ds.length capb], .int .i64 0]) (by simp [results, Try.results7, go_sem, HS.out.cell0, HS.out.cell1]) rfl HW.out

set_option maxHeartbeats 1000000 in
set_option maxRecDepth 100000 in
theorem rknown_err (fs : List Fx) (cs : List Ch) (day : Int) (af ac : Option Addr) (cf cc : Nat) (w : World) (hn : fs.length ≤ 1100000) (hm : cs.length ≤ 1100000)
    (hf : Rd Fx.cells 3 w af fs) (hc : Rd Ch.cells 4 w ac cs) (hfs : ∀ f ∈ fs, f.small) (hcs : ∀ c ∈ cs, c.small) (he : envErr fs cs ≠ 0) :
    Calls Try.prog 7 #[.agg #[.slice af fs.length cf, .slice ac cs.length cc], .int .i64 day] w (EnvPost w (knownErr fs cs day) (knownF fs cs day) (knownC fs cs day)) := by
  have HE := Lib.hid (fun W (h : Below w.heap.size w W) => refEnv_any fs cs af ac cf cc W hn hm (hf.below h) (hc.below h) hfs hcs)
  have R1 : knownErr fs cs day = envErr fs cs := by rw [knownErr, if_neg he]
  rw [knownF, knownC, R1, if_neg he, if_neg he]
  generalize envErr fs cs = E at HE he ⊢
  have t1 : (E != 0) = true := by rw [bne_iff_ne]; exact he
  have t2 : (E == 0) = false := by rw [beq_eq_false_iff_ne]; exact he
  clear hf hc hfs hcs he R1
  go_enter Try.func7, Try.ntmps7
  have bx := fun (o1 o2 : Obj) => Boxed2.new ((w.alloc o1).alloc o2) (.slice none 0 0) (.slice none 0 0) 25
  have bx1 := fun (o1 o2 : Obj) => (Boxed2.new (w.alloc o1) (.slice none 0 0) (.slice none 0 0) 25).alloc o2
  have bx0 := fun (o1 o2 : Obj) => ((Boxed2.new w (.slice af fs.length cf) (.slice ac cs.length cc) 25).alloc o1).alloc o2
  have HBX := Lib.hid (And.intro bx (And.intro bx1 bx0))
  clear bx bx1 bx0
  go_wp2_with fail
  refine (HE.out _ (below_a3 _ _ _ _)).mono ?_
  rintro e w1 ⟨rfl, hb1⟩
  have hs1 := hb1.size
  simp at hs1
  have bO := (HBX.out.1 _ _).below hb1
  have bR := (HBX.out.2.1 _ _).below hb1
  have bE := (HBX.out.2.2 _ _).below hb1
  simp at bO bR
  have hbel : Below w.heap.size w w1 := (below_a3 _ _ _ _).trans (hb1.mono (by simp; omega))
  clear hb1 HBX
  have r0 := bO.cell0
  have r1 := bO.cell1
  have q0 := bR.cell0
  have q1 := bR.cell1
  have z0 := bR.frozen 0
  have z1 := bR.frozen 1
  have HS := Lib.hid (bR.store (.slice none 0 0) (.slice none 0 0))
  have HW := Lib.hid (below_store hbel (B := w.heap.size + 1) (by omega) (.slice none 0 0) (.slice none 0 0))
  clear bO bR bE hbel
  go_wp2
  obtain ⟨W3, hW3⟩ : ∃ W3, W3 = (w1.setCell ⟨w.heap.size + 1, 0, none⟩ (.slice none 0 0)).setCell ⟨w.heap.size + 1, 1, none⟩ (.slice none 0 0) := ⟨_, rfl⟩
  rw [← hW3]
  rw [← hW3] at HS HW
  refine bodyPost_ret (v := .tuple #[.agg #[.slice none 0 0, .slice none 0 0], .int .i64 E]) (by simp [results, Try.results7, go_sem, HS.out.cell0, HS.out.cell1]) rfl (envPost_none HW.out)

set_option maxHeartbeats 1000000 in
set_option maxRecDepth 100000 in
theorem rknown_day (fs : List Fx) (cs : List Ch) (day : Int) (af ac : Option Addr) (cf cc : Nat) (w : World) (hn : fs.length ≤ 1100000) (hm : cs.length ≤ 1100000)
    (hf : Rd Fx.cells 3 w af fs) (hc : Rd Ch.cells 4 w ac cs) (hfs : ∀ f ∈ fs, f.small) (hcs : ∀ c ∈ cs, c.small) (he : envErr fs cs = 0) (hd : isDay day = false) :
    Calls Try.prog 7 #[.agg #[.slice af fs.length cf, .slice ac cs.length cc], .int .i64 day] w (EnvPost w (knownErr fs cs day) (knownF fs cs day) (knownC fs cs day)) := by
  have HE := Lib.hid (fun W (h : Below w.heap.size w W) => refEnv_any fs cs af ac cf cc W hn hm (hf.below h) (hc.below h) hfs hcs)
  have HDy := Lib.hid (fun W => rday_any day W)
  have R1 : knownErr fs cs day = 2 := by rw [knownErr, if_pos he, hd]; rfl
  rw [knownF, knownC, R1, if_neg (by decide), if_neg (by decide)]
  rw [he] at HE
  rw [hd] at HDy
  clear hf hc hfs hcs he R1 hd
  go_enter Try.func7, Try.ntmps7
  have bx := fun (o1 o2 : Obj) => Boxed2.new ((w.alloc o1).alloc o2) (.slice none 0 0) (.slice none 0 0) 25
  have bx1 := fun (o1 o2 : Obj) => (Boxed2.new (w.alloc o1) (.slice none 0 0) (.slice none 0 0) 25).alloc o2
  have bx0 := fun (o1 o2 : Obj) => ((Boxed2.new w (.slice af fs.length cf) (.slice ac cs.length cc) 25).alloc o1).alloc o2
  have HBX := Lib.hid (And.intro bx (And.intro bx1 bx0))
  clear bx bx1 bx0
  go_wp2_with fail
  refine (HE.out _ (below_a3 _ _ _ _)).mono ?_
  rintro e w1 ⟨rfl, hb1⟩
  have hs1 := hb1.size
  simp at hs1
  have bO := (HBX.out.1 _ _).below hb1
  have bR := (HBX.out.2.1 _ _).below hb1
  have bE := (HBX.out.2.2 _ _).below hb1
  simp at bO bR
  have hbel : Below w.heap.size w w1 := (below_a3 _ _ _ _).trans (hb1.mono (by simp; omega))
  clear hb1 HBX
  have r0 := bO.cell0
  have r1 := bO.cell1
  have q0 := bR.cell0
  have q1 := bR.cell1
  have z0 := bR.frozen 0
  have z1 := bR.frozen 1
  have HS := Lib.hid (bR.store (.slice none 0 0) (.slice none 0 0))
  have HW := Lib.hid (below_store hbel (B := w.heap.size + 1) (by omega) (.slice none 0 0) (.slice none 0 0))
  clear bO bR bE hbel
  go_wp2_with (go_at_call 17; refine (HDy.out _).mono ?_; rintro e w2 ⟨rfl, rfl⟩)
  obtain ⟨W3, hW3⟩ : ∃ W3, W3 = (w1.setCell ⟨w.heap.size + 1, 0, none⟩ (.slice none 0 0)).setCell ⟨w.heap.size + 1, 1, none⟩ (.slice none 0 0) := ⟨_, rfl⟩
  rw [← hW3]
  rw [← hW3] at HS HW
  refine bodyPost_ret (v := .tuple #[.agg #[.slice none 0 0, .slice none 0 0], .int .i64 2]) (by simp [results, Try.results7, go_sem, HS.out.cell0, HS.out.cell1]) rfl (envPost_none HW.out)

theorem rknown_any (fs : List Fx) (cs : List Ch) (day : Int) (af ac : Option Addr) (cf cc : Nat) (w : World) (hn : fs.length ≤ 1100000) (hm : cs.length ≤ 1100000)
    (hf : Rd Fx.cells 3 w af fs) (hc : Rd Ch.cells 4 w ac cs) (hfs : ∀ f ∈ fs, f.small) (hcs : ∀ c ∈ cs, c.small) :
    Calls Try.prog 7 #[.agg #[.slice af fs.length cf, .slice ac cs.length cc], .int .i64 day] w (EnvPost w (knownErr fs cs day) (knownF fs cs day) (knownC fs cs day)) := by
  by_cases he : envErr fs cs = 0
  · cases hd : isDay day with
    | true => exact rknown_ok fs cs day af ac cf cc w hn hm hf hc hfs hcs he hd
    | false => exact rknown_day fs cs day af ac cf cc w hn hm hf hc hfs hcs he hd
  · exact rknown_err fs cs day af ac cf cc w hn hm hf hc hfs hcs he
end Go.Proofs.Ytofbngpckllkoaa
