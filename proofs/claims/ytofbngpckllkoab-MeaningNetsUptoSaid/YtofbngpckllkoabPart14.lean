/-
  novationref10.CheckFlows.  Printed by tools/genrefchkfl.py. novationref02.Make where the denominator is positive; fraction.  Printed by tools/genrefratops.py.
-/
import Derived.Test.YtofbngpckllkoabPart08
import Derived.Test.YtofbngpckllkoabPart13
import Derived.Test.YtofbngpckllkoabPart02
import Derived.Test.YtofbngpckllkoabPart11
import Derived.Test.YtofbngpckllkoabPart09
namespace Go.Proofs.Ytofbngpckllkoab
open Go.RowKit

set_option maxHeartbeats 8000000 in
set_option maxRecDepth 100000 in
theorem rchkFl_loop (l : List Fl) (ad : Option Addr) (cap : Nat) (w : World) (h5 : ¬ 5000 < l.length) (hr : Rd Fl.cells 5 w ad l) (hs : ∀ f ∈ l, f.small) :
    Calls Try.prog 8 #[.slice ad l.length cap] w fun e w' => e = .returned (.int .i64 (flowsErr l)) ∧ Below w.heap.size w w' := by
  have HR := Lib.hid hr
  have HS := Lib.hid hs
  clear hr hs
  have t1 : decide ((5000 : Int) < (l.length : Int)) = false := by rw [decide_eq_false_iff_not]; omega
  have H5 := Lib.hid h5
  have hl5 : l.length ≤ 5000 := by omega
  clear h5
  go_enter Try.func8, Try.ntmps8
  go_wp2_with fail
  go_loopw [3] (fun i wr => ∃ (k : Nat), k ≤ l.length ∧ i = .int .i64 k ∧ Hid (okP (l.take k)) ∧ Below w.heap.size w wr) (fun i _ => l.length - (intOf i).toNat)
  case atStart => exact ⟨0, Nat.zero_le _, rfl, Lib.hid (by simpa using okP_nil), Below.refl _ _⟩
  case round =>
    obtain ⟨k, hk, rfl, HI, hbel⟩ := hrel
    by_cases hlt : k < l.length
    · obtain ⟨f, hf⟩ : ∃ f, l[k]? = some f := ⟨_, List.getElem?_eq_getElem hlt⟩
      obtain ⟨b, off, rfl, c0, c1, c2, c3, c4⟩ := (HR.out.below hbel).fl hf
      obtain ⟨s1, s2, s3, s4⟩ := HS.out f (List.mem_of_getElem? hf)
      have HF := Lib.hid hf
      clear hf
      have hsz := hbel.size
      have hblk : b < wr.heap.size := World.block_lt_of_cell? wr _ c0
      have HN1 := Lib.hid (fun W => rname_any f.fr W (by omega))
      have HN2 := Lib.hid (fun W => rname_any f.rc W (by omega))
      have HN3 := Lib.hid (fun W => rname_any f.cy W (by omega))
      have HC := Lib.hid (fun W => refrat_any f.am W s4)
      have HD := Lib.hid (fun W => rday_any f.d W)
      unfold RatPost at HC
      have HBad : Hid (¬ (flGood f ∧ lastD l k ≤ f.d) → flowsErr l = 8) := fun h => flowsErr_bad H5.out (okP_bad HF.out (by
        by_cases hg : flGood f
        · right; rcases Int.lt_or_le f.d (lastD l k) with h2 | h2
          · exact h2
          · exact absurd ⟨hg, h2⟩ h
        · exact .inl hg))
      have HGood : Hid (flGood f → lastD l k ≤ f.d → okP (l.take (k + 1))) := fun h1 h2 => okP_step HI.out HF.out h1 h2
      have HBL := Lib.hid hbel
      obtain ⟨a1, h1⟩ : ∃ a, a = isNm (bl f.fr) := ⟨_, rfl⟩
      obtain ⟨a2, h2⟩ : ∃ a, a = isNm (bl f.rc) := ⟨_, rfl⟩
      obtain ⟨a3, h3⟩ : ∃ a, a = isNm (bl f.cy) := ⟨_, rfl⟩
      obtain ⟨er, h4⟩ : ∃ a, a = ratErr f.am := ⟨_, rfl⟩
      obtain ⟨dy, h6⟩ : ∃ a, a = isDay f.d := ⟨_, rfl⟩
      have HDd : Hid (dy = true → 0 ≤ f.d) := fun h => (isDay_iff.1 (h6.symm.trans h)).1
      rw [← h1] at HN1
      rw [← h2] at HN2
      rw [← h3] at HN3
      rw [← h4] at HC
      rw [← h6] at HD
      have HG : Hid (flGood f ↔ (a1 = true ∧ a2 = true ∧ a3 = true ∧ f.fr ≠ f.rc ∧ er = 0 ∧ bl f.am ≠ [48] ∧ isNeg (bl f.am) = false ∧ dy = true)) := by show _ ↔ _; rw [h1, h2, h3, h4, h6]; exact Iff.rfl
      have HAp : Hid (er = 0 → 0 < f.am.size) := by rw [h4]; exact am_pos
      clear h1 h2 h3 h4 h6 hbel
      generalize f.fr = fr at *
      generalize f.rc = rc at *
      generalize f.cy = cy at *
      generalize f.am = am at *
      generalize f.d = d at *
      cases dy with
      | false =>
        have hk1 : (0 : Int) ≤ (k : Int) := by omega
        have hk2 : (k : Int) < (l.length : Int) := by omega
        have HE := Lib.hid (HBad.out (fun h => by have := (HG.out.1 h.1).2.2.2.2.2.2.2; cases this))
        clear HBad HGood
        go_wp2
        refine wp_region_ext (fun W' => W'.cell? ⟨wr.heap.size, 0, none⟩ = some (.int .i64 d) ∧ W'.cell? ⟨wr.heap.size, 1, none⟩ = some (.string fr) ∧ W'.cell? ⟨wr.heap.size, 2, none⟩ = some (.string rc) ∧ W'.cell? ⟨wr.heap.size, 3, none⟩ = some (.string cy) ∧ W'.cell? ⟨wr.heap.size, 4, none⟩ = some (.string am)) (fun W' hW' => ⟨hW'.cell (by go_simp), hW'.cell (by go_simp), hW'.cell (by go_simp), hW'.cell (by go_simp), hW'.cell (by go_simp)⟩) (by kernel_rfl) (by kernel_rfl) ?_
        intro HCW
        repeat (first | go_big_quiet_skip | (go_big_quiet_want; apply Exists.intro; refine ⟨fun W hW => ?_, ?_⟩; (focus (obtain ⟨q0, q1, q2, q3, q4⟩ := HCW W hW; go_simp; first | done | rfl | with_reducible exact ext_same HD.out W hW | with_reducible exact ext_same HN1.out W hW | with_reducible exact ext_same HN2.out W hW | with_reducible exact ext_same HN3.out W hW | with_reducible exact ext_calls HC.out W hW)); (simp only [Act.put, List.setIfInBounds_toArray, List.set_cons_zero, List.set_cons_succ]); go_big_quiet_on))
        refine wpQuiet_nil ?_
        intro W hW
        obtain ⟨q0, q1, q2, q3, q4⟩ := HCW W hW
        have hW := hW.below
        have hz := hW.size
        simp at hz
        go_wp2
        go_ret
        exact ⟨ret_int' HE.out.symm, (HBL.out.alloc (by have := HBL.out.size; omega) _).trans (hW.mono (by simp; have := HBL.out.size; omega))⟩
      | true =>
        rcases Nat.eq_zero_or_pos k with hk0 | hk0
        · have t0 : decide ((0 : Int) < (k : Int)) = false := by rw [decide_eq_false_iff_not]; omega
          have t0b : decide (0 < k) = false := by rw [decide_eq_false_iff_not]; omega
          have t0c : ¬ 0 < k := by omega
          have HOrd : Hid (lastD l k ≤ d) := by show _ ≤ _; rw [hk0]; exact HDd.out rfl
          have hk1 : (0 : Int) ≤ (k : Int) := by omega
          have hk2 : (k : Int) < (l.length : Int) := by omega
          clear hk0
          cases a1 with
          | false =>
            have HE := Lib.hid (HBad.out (fun h => by have := (HG.out.1 h.1).1; cases this))
            clear HBad HGood
            go_wp2
            refine wp_region_ext (fun W' => W'.cell? ⟨wr.heap.size, 0, none⟩ = some (.int .i64 d) ∧ W'.cell? ⟨wr.heap.size, 1, none⟩ = some (.string fr) ∧ W'.cell? ⟨wr.heap.size, 2, none⟩ = some (.string rc) ∧ W'.cell? ⟨wr.heap.size, 3, none⟩ = some (.string cy) ∧ W'.cell? ⟨wr.heap.size, 4, none⟩ = some (.string am)) (fun W' hW' => ⟨hW'.cell (by go_simp), hW'.cell (by go_simp), hW'.cell (by go_simp), hW'.cell (by go_simp), hW'.cell (by go_simp)⟩) (by kernel_rfl) (by kernel_rfl) ?_
            intro HCW
            repeat (first | go_big_quiet_skip | (go_big_quiet_want; apply Exists.intro; refine ⟨fun W hW => ?_, ?_⟩; (focus (obtain ⟨q0, q1, q2, q3, q4⟩ := HCW W hW; go_simp; first | done | rfl | with_reducible exact ext_same HD.out W hW | with_reducible exact ext_same HN1.out W hW | with_reducible exact ext_same HN2.out W hW | with_reducible exact ext_same HN3.out W hW | with_reducible exact ext_calls HC.out W hW)); (simp only [Act.put, List.setIfInBounds_toArray, List.set_cons_zero, List.set_cons_succ]); go_big_quiet_on))
            refine wpQuiet_nil ?_
            intro W hW
            obtain ⟨q0, q1, q2, q3, q4⟩ := HCW W hW
            have hW := hW.below
            have hz := hW.size
            simp at hz
            go_wp2
            go_ret
            exact ⟨ret_int' HE.out.symm, (HBL.out.alloc (by have := HBL.out.size; omega) _).trans (hW.mono (by simp; have := HBL.out.size; omega))⟩
          | true =>
            cases a2 with
            | false =>
              have HE := Lib.hid (HBad.out (fun h => by have := (HG.out.1 h.1).2.1; cases this))
              clear HBad HGood
              go_wp2
              refine wp_region_ext (fun W' => W'.cell? ⟨wr.heap.size, 0, none⟩ = some (.int .i64 d) ∧ W'.cell? ⟨wr.heap.size, 1, none⟩ = some (.string fr) ∧ W'.cell? ⟨wr.heap.size, 2, none⟩ = some (.string rc) ∧ W'.cell? ⟨wr.heap.size, 3, none⟩ = some (.string cy) ∧ W'.cell? ⟨wr.heap.size, 4, none⟩ = some (.string am)) (fun W' hW' => ⟨hW'.cell (by go_simp), hW'.cell (by go_simp), hW'.cell (by go_simp), hW'.cell (by go_simp), hW'.cell (by go_simp)⟩) (by kernel_rfl) (by kernel_rfl) ?_
              intro HCW
              repeat (first | go_big_quiet_skip | (go_big_quiet_want; apply Exists.intro; refine ⟨fun W hW => ?_, ?_⟩; (focus (obtain ⟨q0, q1, q2, q3, q4⟩ := HCW W hW; go_simp; first | done | rfl | with_reducible exact ext_same HD.out W hW | with_reducible exact ext_same HN1.out W hW | with_reducible exact ext_same HN2.out W hW | with_reducible exact ext_same HN3.out W hW | with_reducible exact ext_calls HC.out W hW)); (simp only [Act.put, List.setIfInBounds_toArray, List.set_cons_zero, List.set_cons_succ]); go_big_quiet_on))
              refine wpQuiet_nil ?_
              intro W hW
              obtain ⟨q0, q1, q2, q3, q4⟩ := HCW W hW
              have hW := hW.below
              have hz := hW.size
              simp at hz
              go_wp2
              go_ret
              exact ⟨ret_int' HE.out.symm, (HBL.out.alloc (by have := HBL.out.size; omega) _).trans (hW.mono (by simp; have := HBL.out.size; omega))⟩
            | true =>
              by_cases hft : fr = rc
              · have u1 : (fr.toList == rc.toList) = true := by rw [hft]; simp
                have Hft := Lib.hid hft
                clear hft
                have HE := Lib.hid (HBad.out (fun h => (HG.out.1 h.1).2.2.2.1 Hft.out))
                clear HBad HGood
                go_wp2
                refine wp_region_ext (fun W' => W'.cell? ⟨wr.heap.size, 0, none⟩ = some (.int .i64 d) ∧ W'.cell? ⟨wr.heap.size, 1, none⟩ = some (.string fr) ∧ W'.cell? ⟨wr.heap.size, 2, none⟩ = some (.string rc) ∧ W'.cell? ⟨wr.heap.size, 3, none⟩ = some (.string cy) ∧ W'.cell? ⟨wr.heap.size, 4, none⟩ = some (.string am)) (fun W' hW' => ⟨hW'.cell (by go_simp), hW'.cell (by go_simp), hW'.cell (by go_simp), hW'.cell (by go_simp), hW'.cell (by go_simp)⟩) (by kernel_rfl) (by kernel_rfl) ?_
                intro HCW
                repeat (first | go_big_quiet_skip | (go_big_quiet_want; apply Exists.intro; refine ⟨fun W hW => ?_, ?_⟩; (focus (obtain ⟨q0, q1, q2, q3, q4⟩ := HCW W hW; go_simp; first | done | rfl | with_reducible exact ext_same HD.out W hW | with_reducible exact ext_same HN1.out W hW | with_reducible exact ext_same HN2.out W hW | with_reducible exact ext_same HN3.out W hW | with_reducible exact ext_calls HC.out W hW)); (simp only [Act.put, List.setIfInBounds_toArray, List.set_cons_zero, List.set_cons_succ]); go_big_quiet_on))
                refine wpQuiet_nil ?_
                intro W hW
                obtain ⟨q0, q1, q2, q3, q4⟩ := HCW W hW
                have hW := hW.below
                have hz := hW.size
                simp at hz
                go_wp2
                go_ret
                exact ⟨ret_int' HE.out.symm, (HBL.out.alloc (by have := HBL.out.size; omega) _).trans (hW.mono (by simp; have := HBL.out.size; omega))⟩
              · have u1 : (fr.toList == rc.toList) = false := by rw [toList_beq, decide_eq_false hft]
                have Hft := Lib.hid hft
                clear hft
                cases a3 with
                | false =>
                  have HE := Lib.hid (HBad.out (fun h => by have := (HG.out.1 h.1).2.2.1; cases this))
                  clear HBad HGood
                  go_wp2
                  refine wp_region_ext (fun W' => W'.cell? ⟨wr.heap.size, 0, none⟩ = some (.int .i64 d) ∧ W'.cell? ⟨wr.heap.size, 1, none⟩ = some (.string fr) ∧ W'.cell? ⟨wr.heap.size, 2, none⟩ = some (.string rc) ∧ W'.cell? ⟨wr.heap.size, 3, none⟩ = some (.string cy) ∧ W'.cell? ⟨wr.heap.size, 4, none⟩ = some (.string am)) (fun W' hW' => ⟨hW'.cell (by go_simp), hW'.cell (by go_simp), hW'.cell (by go_simp), hW'.cell (by go_simp), hW'.cell (by go_simp)⟩) (by kernel_rfl) (by kernel_rfl) ?_
                  intro HCW
                  repeat (first | go_big_quiet_skip | (go_big_quiet_want; apply Exists.intro; refine ⟨fun W hW => ?_, ?_⟩; (focus (obtain ⟨q0, q1, q2, q3, q4⟩ := HCW W hW; go_simp; first | done | rfl | with_reducible exact ext_same HD.out W hW | with_reducible exact ext_same HN1.out W hW | with_reducible exact ext_same HN2.out W hW | with_reducible exact ext_same HN3.out W hW | with_reducible exact ext_calls HC.out W hW)); (simp only [Act.put, List.setIfInBounds_toArray, List.set_cons_zero, List.set_cons_succ]); go_big_quiet_on))
                  refine wpQuiet_nil ?_
                  intro W hW
                  obtain ⟨q0, q1, q2, q3, q4⟩ := HCW W hW
                  have hW := hW.below
                  have hz := hW.size
                  simp at hz
                  go_wp2
                  go_ret
                  exact ⟨ret_int' HE.out.symm, (HBL.out.alloc (by have := HBL.out.size; omega) _).trans (hW.mono (by simp; have := HBL.out.size; omega))⟩
                | true =>
                  by_cases her : er = 0
                  · subst her
                    have hpos := HAp.out rfl
                    have hbc := bl_cons am hpos
                    obtain ⟨ch, hch⟩ : ∃ c, am[0] = c := ⟨_, rfl⟩
                    rw [hch] at hbc
                    by_cases hz : bl am = [48]
                    · have ez : (am.toList == [48]) = true := by rw [Lib.toList_data]; show (bl am == [48]) = true; rw [hz]; rfl
                      have Hz := Lib.hid hz
                      clear hz hbc
                      have HE := Lib.hid (HBad.out (fun h => (HG.out.1 h.1).2.2.2.2.2.1 Hz.out))
                      clear HBad HGood
                      go_wp2
                      refine wp_region_ext (fun W' => W'.cell? ⟨wr.heap.size, 0, none⟩ = some (.int .i64 d) ∧ W'.cell? ⟨wr.heap.size, 1, none⟩ = some (.string fr) ∧ W'.cell? ⟨wr.heap.size, 2, none⟩ = some (.string rc) ∧ W'.cell? ⟨wr.heap.size, 3, none⟩ = some (.string cy) ∧ W'.cell? ⟨wr.heap.size, 4, none⟩ = some (.string am)) (fun W' hW' => ⟨hW'.cell (by go_simp), hW'.cell (by go_simp), hW'.cell (by go_simp), hW'.cell (by go_simp), hW'.cell (by go_simp)⟩) (by kernel_rfl) (by kernel_rfl) ?_
                      intro HCW
                      repeat (first | go_big_quiet_skip | (go_big_quiet_want; apply Exists.intro; refine ⟨fun W hW => ?_, ?_⟩; (focus (obtain ⟨q0, q1, q2, q3, q4⟩ := HCW W hW; go_simp; first | done | rfl | with_reducible exact ext_same HD.out W hW | with_reducible exact ext_same HN1.out W hW | with_reducible exact ext_same HN2.out W hW | with_reducible exact ext_same HN3.out W hW | with_reducible exact ext_calls HC.out W hW)); (simp only [Act.put, List.setIfInBounds_toArray, List.set_cons_zero, List.set_cons_succ]); go_big_quiet_on))
                      refine wpQuiet_nil ?_
                      intro W hW
                      obtain ⟨q0, q1, q2, q3, q4⟩ := HCW W hW
                      have hW := hW.below
                      have hz := hW.size
                      simp at hz
                      go_wp2
                      go_ret
                      exact ⟨ret_int' HE.out.symm, (HBL.out.alloc (by have := HBL.out.size; omega) _).trans (hW.mono (by simp; have := HBL.out.size; omega))⟩
                    · have ez : (am.toList == [48]) = false := ne_lit hz
                      by_cases hm : ch = 45
                      · have em : ((ch.toNat : Int) == 45) = true := by rw [hm]; rfl
                        have Hm : Hid (isNeg (bl am) = true) := by show _ = _; rw [hbc, hm]; rfl
                        clear hz hbc hm
                        have HE := Lib.hid (HBad.out (fun h => by have := (HG.out.1 h.1).2.2.2.2.2.2.1; rw [Hm.out] at this; cases this))
                        clear HBad HGood
                        go_wp2
                        refine wp_region_ext (fun W' => W'.cell? ⟨wr.heap.size, 0, none⟩ = some (.int .i64 d) ∧ W'.cell? ⟨wr.heap.size, 1, none⟩ = some (.string fr) ∧ W'.cell? ⟨wr.heap.size, 2, none⟩ = some (.string rc) ∧ W'.cell? ⟨wr.heap.size, 3, none⟩ = some (.string cy) ∧ W'.cell? ⟨wr.heap.size, 4, none⟩ = some (.string am)) (fun W' hW' => ⟨hW'.cell (by go_simp), hW'.cell (by go_simp), hW'.cell (by go_simp), hW'.cell (by go_simp), hW'.cell (by go_simp)⟩) (by kernel_rfl) (by kernel_rfl) ?_
                        intro HCW
                        repeat (first | go_big_quiet_skip | (go_big_quiet_want; apply Exists.intro; refine ⟨fun W hW => ?_, ?_⟩; (focus (obtain ⟨q0, q1, q2, q3, q4⟩ := HCW W hW; go_simp; first | done | rfl | with_reducible exact ext_same HD.out W hW | with_reducible exact ext_same HN1.out W hW | with_reducible exact ext_same HN2.out W hW | with_reducible exact ext_same HN3.out W hW | with_reducible exact ext_calls HC.out W hW)); (simp only [Act.put, List.setIfInBounds_toArray, List.set_cons_zero, List.set_cons_succ]); go_big_quiet_on))
                        refine wpQuiet_nil ?_
                        intro W hW
                        obtain ⟨q0, q1, q2, q3, q4⟩ := HCW W hW
                        have hW := hW.below
                        have hz := hW.size
                        simp at hz
                        go_wp2
                        go_ret
                        exact ⟨ret_int' HE.out.symm, (HBL.out.alloc (by have := HBL.out.size; omega) _).trans (hW.mono (by simp; have := HBL.out.size; omega))⟩
                      · have em : ((ch.toNat : Int) == 45) = false := by rw [beq_eq_false_iff_ne]; intro e; apply hm; apply UInt8.toNat_inj.1; show ch.toNat = 45; omega
                        have HGd := Lib.hid (HGood.out (HG.out.2 ⟨rfl, rfl, rfl, Hft.out, rfl, hz, by rw [hbc]; simp [isNeg, hm], rfl⟩) HOrd.out)
                        clear HBad HGood HG HAp hz hbc hm
                        go_wp2
                        refine wp_region_ext (fun W' => W'.cell? ⟨wr.heap.size, 0, none⟩ = some (.int .i64 d) ∧ W'.cell? ⟨wr.heap.size, 1, none⟩ = some (.string fr) ∧ W'.cell? ⟨wr.heap.size, 2, none⟩ = some (.string rc) ∧ W'.cell? ⟨wr.heap.size, 3, none⟩ = some (.string cy) ∧ W'.cell? ⟨wr.heap.size, 4, none⟩ = some (.string am)) (fun W' hW' => ⟨hW'.cell (by go_simp), hW'.cell (by go_simp), hW'.cell (by go_simp), hW'.cell (by go_simp), hW'.cell (by go_simp)⟩) (by kernel_rfl) (by kernel_rfl) ?_
                        intro HCW
                        repeat (first | go_big_quiet_skip | (go_big_quiet_want; apply Exists.intro; refine ⟨fun W hW => ?_, ?_⟩; (focus (obtain ⟨q0, q1, q2, q3, q4⟩ := HCW W hW; go_simp; first | done | rfl | with_reducible exact ext_same HD.out W hW | with_reducible exact ext_same HN1.out W hW | with_reducible exact ext_same HN2.out W hW | with_reducible exact ext_same HN3.out W hW | with_reducible exact ext_calls HC.out W hW)); (simp only [Act.put, List.setIfInBounds_toArray, List.set_cons_zero, List.set_cons_succ]); go_big_quiet_on))
                        refine wpQuiet_nil ?_
                        intro W hW
                        obtain ⟨q0, q1, q2, q3, q4⟩ := HCW W hW
                        have hW := hW.below
                        have hz := hW.size
                        simp at hz
                        go_wp2
                        go_roundw
                        case rel => exact ⟨k + 1, by omega, by go_num, HGd, (HBL.out.alloc (by have := HBL.out.size; omega) _).trans (hW.mono (by simp; have := HBL.out.size; omega))⟩
                        case measure => simp [intOf]; omega
                  · have u4 : (er != 0) = true := by rw [bne_iff_ne]; exact her
                    have Her := Lib.hid her
                    clear her
                    have HE := Lib.hid (HBad.out (fun h => Her.out (HG.out.1 h.1).2.2.2.2.1))
                    clear HBad HGood
                    go_wp2
                    refine wp_region_ext (fun W' => W'.cell? ⟨wr.heap.size, 0, none⟩ = some (.int .i64 d) ∧ W'.cell? ⟨wr.heap.size, 1, none⟩ = some (.string fr) ∧ W'.cell? ⟨wr.heap.size, 2, none⟩ = some (.string rc) ∧ W'.cell? ⟨wr.heap.size, 3, none⟩ = some (.string cy) ∧ W'.cell? ⟨wr.heap.size, 4, none⟩ = some (.string am)) (fun W' hW' => ⟨hW'.cell (by go_simp), hW'.cell (by go_simp), hW'.cell (by go_simp), hW'.cell (by go_simp), hW'.cell (by go_simp)⟩) (by kernel_rfl) (by kernel_rfl) ?_
                    intro HCW
                    repeat (first | go_big_quiet_skip | (go_big_quiet_want; apply Exists.intro; refine ⟨fun W hW => ?_, ?_⟩; (focus (obtain ⟨q0, q1, q2, q3, q4⟩ := HCW W hW; go_simp; first | done | rfl | with_reducible exact ext_same HD.out W hW | with_reducible exact ext_same HN1.out W hW | with_reducible exact ext_same HN2.out W hW | with_reducible exact ext_same HN3.out W hW | with_reducible exact ext_calls HC.out W hW)); (simp only [Act.put, List.setIfInBounds_toArray, List.set_cons_zero, List.set_cons_succ]); go_big_quiet_on))
                    refine wpQuiet_nil ?_
                    intro W hW
                    obtain ⟨q0, q1, q2, q3, q4⟩ := HCW W hW
                    have hW := hW.below
                    have hz := hW.size
                    simp at hz
                    go_wp2
                    go_ret
                    exact ⟨ret_int' HE.out.symm, (HBL.out.alloc (by have := HBL.out.size; omega) _).trans (hW.mono (by simp; have := HBL.out.size; omega))⟩
        · obtain ⟨k, rfl⟩ : ∃ k', k = k' + 1 := ⟨k - 1, by omega⟩
          obtain ⟨g, hg⟩ : ∃ g, l[k]? = some g := ⟨_, List.getElem?_eq_getElem (by omega)⟩
          obtain ⟨b', off', he, d0, _⟩ := (HR.out.below HBL.out).fl hg
          obtain ⟨rfl, rfl⟩ : b = b' ∧ off = off' := by simpa using he
          have HLd : Hid (lastD l (k + 1) = g.d) := lastD_succ hg
          generalize g.d = gd at *
          clear he hk0 hg
          have ek : ((k + 1 : Nat) : Int) = (k : Int) + 1 := by omega
          rw [ek]
          clear ek
          have t0 : decide ((0 : Int) < (k : Int) + 1) = true := by rw [decide_eq_true_eq]; omega
          have e1 : (k : Int) + 1 - 1 = (k : Int) := by omega
          have e2 : IntKind.i64.wrap ((k : Int) + 1 - 1) = (k : Int) := by rw [IntWalk.i64_in _ (by omega)]; omega
          have e3 : IntKind.i64.wrap (k : Int) = (k : Int) := IntWalk.i64_in _ (by omega)
          have e4 : ((k : Int) + 1).toNat = k + 1 := by omega
          have hk2 : (0 : Int) ≤ (k : Int) + 1 := by omega
          have hk3 : (k : Int) + 1 < (l.length : Int) := by omega
          have hk4 : (0 : Int) ≤ (k : Int) := by omega
          have hk5 : (k : Int) < (l.length : Int) := by omega
          by_cases hlt2 : d < gd
          · have u2 : decide (d < gd) = true := by simpa using hlt2
            have Hlt := Lib.hid hlt2
            clear hlt2
            have HE := Lib.hid (HBad.out (fun h => by have h1 := h.2; rw [HLd.out] at h1; have := Hlt.out; omega))
            clear HBad HGood
            go_wp2
            refine wp_region_ext (fun W' => W'.cell? ⟨wr.heap.size, 0, none⟩ = some (.int .i64 d) ∧ W'.cell? ⟨wr.heap.size, 1, none⟩ = some (.string fr) ∧ W'.cell? ⟨wr.heap.size, 2, none⟩ = some (.string rc) ∧ W'.cell? ⟨wr.heap.size, 3, none⟩ = some (.string cy) ∧ W'.cell? ⟨wr.heap.size, 4, none⟩ = some (.string am) ∧ W'.cell? ⟨b, off + k * 5, none⟩ = some (.int .i64 gd)) (fun W' hW' => ⟨hW'.cell (by go_simp), hW'.cell (by go_simp), hW'.cell (by go_simp), hW'.cell (by go_simp), hW'.cell (by go_simp), hW'.cell (by go_simp)⟩) (by kernel_rfl) (by kernel_rfl) ?_
            intro HCW
            repeat (first | go_big_quiet_skip | (go_big_quiet_want; apply Exists.intro; refine ⟨fun W hW => ?_, ?_⟩; (focus (obtain ⟨q0, q1, q2, q3, q4, q5⟩ := HCW W hW; go_simp; first | done | rfl | with_reducible exact ext_same HD.out W hW | with_reducible exact ext_same HN1.out W hW | with_reducible exact ext_same HN2.out W hW | with_reducible exact ext_same HN3.out W hW | with_reducible exact ext_calls HC.out W hW)); (simp only [Act.put, List.setIfInBounds_toArray, List.set_cons_zero, List.set_cons_succ]); go_big_quiet_on))
            refine wpQuiet_nil ?_
            intro W hW
            obtain ⟨q0, q1, q2, q3, q4, q5⟩ := HCW W hW
            have hW := hW.below
            have hz := hW.size
            simp at hz
            go_wp2
            go_ret
            exact ⟨ret_int' HE.out.symm, (HBL.out.alloc (by have := HBL.out.size; omega) _).trans (hW.mono (by simp; have := HBL.out.size; omega))⟩
          · have u2 : decide (d < gd) = false := by simpa using hlt2
            have HOrd : Hid (lastD l (k + 1) ≤ d) := by show _ ≤ _; rw [HLd.out]; omega
            clear hlt2
            cases a1 with
            | false =>
              have HE := Lib.hid (HBad.out (fun h => by have := (HG.out.1 h.1).1; cases this))
              clear HBad HGood
              go_wp2
              refine wp_region_ext (fun W' => W'.cell? ⟨wr.heap.size, 0, none⟩ = some (.int .i64 d) ∧ W'.cell? ⟨wr.heap.size, 1, none⟩ = some (.string fr) ∧ W'.cell? ⟨wr.heap.size, 2, none⟩ = some (.string rc) ∧ W'.cell? ⟨wr.heap.size, 3, none⟩ = some (.string cy) ∧ W'.cell? ⟨wr.heap.size, 4, none⟩ = some (.string am) ∧ W'.cell? ⟨b, off + k * 5, none⟩ = some (.int .i64 gd)) (fun W' hW' => ⟨hW'.cell (by go_simp), hW'.cell (by go_simp), hW'.cell (by go_simp), hW'.cell (by go_simp), hW'.cell (by go_simp), hW'.cell (by go_simp)⟩) (by kernel_rfl) (by kernel_rfl) ?_
              intro HCW
              repeat (first | go_big_quiet_skip | (go_big_quiet_want; apply Exists.intro; refine ⟨fun W hW => ?_, ?_⟩; (focus (obtain ⟨q0, q1, q2, q3, q4, q5⟩ := HCW W hW; go_simp; first | done | rfl | with_reducible exact ext_same HD.out W hW | with_reducible exact ext_same HN1.out W hW | with_reducible exact ext_same HN2.out W hW | with_reducible exact ext_same HN3.out W hW | with_reducible exact ext_calls HC.out W hW)); (simp only [Act.put, List.setIfInBounds_toArray, List.set_cons_zero, List.set_cons_succ]); go_big_quiet_on))
              refine wpQuiet_nil ?_
              intro W hW
              obtain ⟨q0, q1, q2, q3, q4, q5⟩ := HCW W hW
              have hW := hW.below
              have hz := hW.size
              simp at hz
              go_wp2
              go_ret
              exact ⟨ret_int' HE.out.symm, (HBL.out.alloc (by have := HBL.out.size; omega) _).trans (hW.mono (by simp; have := HBL.out.size; omega))⟩
            | true =>
              cases a2 with
              | false =>
                have HE := Lib.hid (HBad.out (fun h => by have := (HG.out.1 h.1).2.1; cases this))
                clear HBad HGood
                go_wp2
                refine wp_region_ext (fun W' => W'.cell? ⟨wr.heap.size, 0, none⟩ = some (.int .i64 d) ∧ W'.cell? ⟨wr.heap.size, 1, none⟩ = some (.string fr) ∧ W'.cell? ⟨wr.heap.size, 2, none⟩ = some (.string rc) ∧ W'.cell? ⟨wr.heap.size, 3, none⟩ = some (.string cy) ∧ W'.cell? ⟨wr.heap.size, 4, none⟩ = some (.string am) ∧ W'.cell? ⟨b, off + k * 5, none⟩ = some (.int .i64 gd)) (fun W' hW' => ⟨hW'.cell (by go_simp), hW'.cell (by go_simp), hW'.cell (by go_simp), hW'.cell (by go_simp), hW'.cell (by go_simp), hW'.cell (by go_simp)⟩) (by kernel_rfl) (by kernel_rfl) ?_
                intro HCW
                repeat (first | go_big_quiet_skip | (go_big_quiet_want; apply Exists.intro; refine ⟨fun W hW => ?_, ?_⟩; (focus (obtain ⟨q0, q1, q2, q3, q4, q5⟩ := HCW W hW; go_simp; first | done | rfl | with_reducible exact ext_same HD.out W hW | with_reducible exact ext_same HN1.out W hW | with_reducible exact ext_same HN2.out W hW | with_reducible exact ext_same HN3.out W hW | with_reducible exact ext_calls HC.out W hW)); (simp only [Act.put, List.setIfInBounds_toArray, List.set_cons_zero, List.set_cons_succ]); go_big_quiet_on))
                refine wpQuiet_nil ?_
                intro W hW
                obtain ⟨q0, q1, q2, q3, q4, q5⟩ := HCW W hW
                have hW := hW.below
                have hz := hW.size
                simp at hz
                go_wp2
                go_ret
                exact ⟨ret_int' HE.out.symm, (HBL.out.alloc (by have := HBL.out.size; omega) _).trans (hW.mono (by simp; have := HBL.out.size; omega))⟩
              | true =>
                by_cases hft : fr = rc
                · have u1 : (fr.toList == rc.toList) = true := by rw [hft]; simp
                  have Hft := Lib.hid hft
                  clear hft
                  have HE := Lib.hid (HBad.out (fun h => (HG.out.1 h.1).2.2.2.1 Hft.out))
                  clear HBad HGood
                  go_wp2
                  refine wp_region_ext (fun W' => W'.cell? ⟨wr.heap.size, 0, none⟩ = some (.int .i64 d) ∧ W'.cell? ⟨wr.heap.size, 1, none⟩ = some (.string fr) ∧ W'.cell? ⟨wr.heap.size, 2, none⟩ = some (.string rc) ∧ W'.cell? ⟨wr.heap.size, 3, none⟩ = some (.string cy) ∧ W'.cell? ⟨wr.heap.size, 4, none⟩ = some (.string am) ∧ W'.cell? ⟨b, off + k * 5, none⟩ = some (.int .i64 gd)) (fun W' hW' => ⟨hW'.cell (by go_simp), hW'.cell (by go_simp), hW'.cell (by go_simp), hW'.cell (by go_simp), hW'.cell (by go_simp), hW'.cell (by go_simp)⟩) (by kernel_rfl) (by kernel_rfl) ?_
                  intro HCW
                  repeat (first | go_big_quiet_skip | (go_big_quiet_want; apply Exists.intro; refine ⟨fun W hW => ?_, ?_⟩; (focus (obtain ⟨q0, q1, q2, q3, q4, q5⟩ := HCW W hW; go_simp; first | done | rfl | with_reducible exact ext_same HD.out W hW | with_reducible exact ext_same HN1.out W hW | with_reducible exact ext_same HN2.out W hW | with_reducible exact ext_same HN3.out W hW | with_reducible exact ext_calls HC.out W hW)); (simp only [Act.put, List.setIfInBounds_toArray, List.set_cons_zero, List.set_cons_succ]); go_big_quiet_on))
                  refine wpQuiet_nil ?_
                  intro W hW
                  obtain ⟨q0, q1, q2, q3, q4, q5⟩ := HCW W hW
                  have hW := hW.below
                  have hz := hW.size
                  simp at hz
                  go_wp2
                  go_ret
                  exact ⟨ret_int' HE.out.symm, (HBL.out.alloc (by have := HBL.out.size; omega) _).trans (hW.mono (by simp; have := HBL.out.size; omega))⟩
                · have u1 : (fr.toList == rc.toList) = false := by rw [toList_beq, decide_eq_false hft]
                  have Hft := Lib.hid hft
                  clear hft
                  cases a3 with
                  | false =>
                    have HE := Lib.hid (HBad.out (fun h => by have := (HG.out.1 h.1).2.2.1; cases this))
                    clear HBad HGood
                    go_wp2
                    refine wp_region_ext (fun W' => W'.cell? ⟨wr.heap.size, 0, none⟩ = some (.int .i64 d) ∧ W'.cell? ⟨wr.heap.size, 1, none⟩ = some (.string fr) ∧ W'.cell? ⟨wr.heap.size, 2, none⟩ = some (.string rc) ∧ W'.cell? ⟨wr.heap.size, 3, none⟩ = some (.string cy) ∧ W'.cell? ⟨wr.heap.size, 4, none⟩ = some (.string am) ∧ W'.cell? ⟨b, off + k * 5, none⟩ = some (.int .i64 gd)) (fun W' hW' => ⟨hW'.cell (by go_simp), hW'.cell (by go_simp), hW'.cell (by go_simp), hW'.cell (by go_simp), hW'.cell (by go_simp), hW'.cell (by go_simp)⟩) (by kernel_rfl) (by kernel_rfl) ?_
                    intro HCW
                    repeat (first | go_big_quiet_skip | (go_big_quiet_want; apply Exists.intro; refine ⟨fun W hW => ?_, ?_⟩; (focus (obtain ⟨q0, q1, q2, q3, q4, q5⟩ := HCW W hW; go_simp; first | done | rfl | with_reducible exact ext_same HD.out W hW | with_reducible exact ext_same HN1.out W hW | with_reducible exact ext_same HN2.out W hW | with_reducible exact ext_same HN3.out W hW | with_reducible exact ext_calls HC.out W hW)); (simp only [Act.put, List.setIfInBounds_toArray, List.set_cons_zero, List.set_cons_succ]); go_big_quiet_on))
                    refine wpQuiet_nil ?_
                    intro W hW
                    obtain ⟨q0, q1, q2, q3, q4, q5⟩ := HCW W hW
                    have hW := hW.below
                    have hz := hW.size
                    simp at hz
                    go_wp2
                    go_ret
                    exact ⟨ret_int' HE.out.symm, (HBL.out.alloc (by have := HBL.out.size; omega) _).trans (hW.mono (by simp; have := HBL.out.size; omega))⟩
                  | true =>
                    by_cases her : er = 0
                    · subst her
                      have hpos := HAp.out rfl
                      have hbc := bl_cons am hpos
                      obtain ⟨ch, hch⟩ : ∃ c, am[0] = c := ⟨_, rfl⟩
                      rw [hch] at hbc
                      by_cases hz : bl am = [48]
                      · have ez : (am.toList == [48]) = true := by rw [Lib.toList_data]; show (bl am == [48]) = true; rw [hz]; rfl
                        have Hz := Lib.hid hz
                        clear hz hbc
                        have HE := Lib.hid (HBad.out (fun h => (HG.out.1 h.1).2.2.2.2.2.1 Hz.out))
                        clear HBad HGood
                        go_wp2
                        refine wp_region_ext (fun W' => W'.cell? ⟨wr.heap.size, 0, none⟩ = some (.int .i64 d) ∧ W'.cell? ⟨wr.heap.size, 1, none⟩ = some (.string fr) ∧ W'.cell? ⟨wr.heap.size, 2, none⟩ = some (.string rc) ∧ W'.cell? ⟨wr.heap.size, 3, none⟩ = some (.string cy) ∧ W'.cell? ⟨wr.heap.size, 4, none⟩ = some (.string am) ∧ W'.cell? ⟨b, off + k * 5, none⟩ = some (.int .i64 gd)) (fun W' hW' => ⟨hW'.cell (by go_simp), hW'.cell (by go_simp), hW'.cell (by go_simp), hW'.cell (by go_simp), hW'.cell (by go_simp), hW'.cell (by go_simp)⟩) (by kernel_rfl) (by kernel_rfl) ?_
                        intro HCW
                        repeat (first | go_big_quiet_skip | (go_big_quiet_want; apply Exists.intro; refine ⟨fun W hW => ?_, ?_⟩; (focus (obtain ⟨q0, q1, q2, q3, q4, q5⟩ := HCW W hW; go_simp; first | done | rfl | with_reducible exact ext_same HD.out W hW | with_reducible exact ext_same HN1.out W hW | with_reducible exact ext_same HN2.out W hW | with_reducible exact ext_same HN3.out W hW | with_reducible exact ext_calls HC.out W hW)); (simp only [Act.put, List.setIfInBounds_toArray, List.set_cons_zero, List.set_cons_succ]); go_big_quiet_on))
                        refine wpQuiet_nil ?_
                        intro W hW
                        obtain ⟨q0, q1, q2, q3, q4, q5⟩ := HCW W hW
                        have hW := hW.below
                        have hz := hW.size
                        simp at hz
                        go_wp2
                        go_ret
                        exact ⟨ret_int' HE.out.symm, (HBL.out.alloc (by have := HBL.out.size; omega) _).trans (hW.mono (by simp; have := HBL.out.size; omega))⟩
                      · have ez : (am.toList == [48]) = false := ne_lit hz
                        by_cases hm : ch = 45
                        · have em : ((ch.toNat : Int) == 45) = true := by rw [hm]; rfl
                          have Hm : Hid (isNeg (bl am) = true) := by show _ = _; rw [hbc, hm]; rfl
                          clear hz hbc hm
                          have HE := Lib.hid (HBad.out (fun h => by have := (HG.out.1 h.1).2.2.2.2.2.2.1; rw [Hm.out] at this; cases this))
                          clear HBad HGood
                          go_wp2
                          refine wp_region_ext (fun W' => W'.cell? ⟨wr.heap.size, 0, none⟩ = some (.int .i64 d) ∧ W'.cell? ⟨wr.heap.size, 1, none⟩ = some (.string fr) ∧ W'.cell? ⟨wr.heap.size, 2, none⟩ = some (.string rc) ∧ W'.cell? ⟨wr.heap.size, 3, none⟩ = some (.string cy) ∧ W'.cell? ⟨wr.heap.size, 4, none⟩ = some (.string am) ∧ W'.cell? ⟨b, off + k * 5, none⟩ = some (.int .i64 gd)) (fun W' hW' => ⟨hW'.cell (by go_simp), hW'.cell (by go_simp), hW'.cell (by go_simp), hW'.cell (by go_simp), hW'.cell (by go_simp), hW'.cell (by go_simp)⟩) (by kernel_rfl) (by kernel_rfl) ?_
                          intro HCW
                          repeat (first | go_big_quiet_skip | (go_big_quiet_want; apply Exists.intro; refine ⟨fun W hW => ?_, ?_⟩; (focus (obtain ⟨q0, q1, q2, q3, q4, q5⟩ := HCW W hW; go_simp; first | done | rfl | with_reducible exact ext_same HD.out W hW | with_reducible exact ext_same HN1.out W hW | with_reducible exact ext_same HN2.out W hW | with_reducible exact ext_same HN3.out W hW | with_reducible exact ext_calls HC.out W hW)); (simp only [Act.put, List.setIfInBounds_toArray, List.set_cons_zero, List.set_cons_succ]); go_big_quiet_on))
                          refine wpQuiet_nil ?_
                          intro W hW
                          obtain ⟨q0, q1, q2, q3, q4, q5⟩ := HCW W hW
                          have hW := hW.below
                          have hz := hW.size
                          simp at hz
                          go_wp2
                          go_ret
                          exact ⟨ret_int' HE.out.symm, (HBL.out.alloc (by have := HBL.out.size; omega) _).trans (hW.mono (by simp; have := HBL.out.size; omega))⟩
                        · have em : ((ch.toNat : Int) == 45) = false := by rw [beq_eq_false_iff_ne]; intro e; apply hm; apply UInt8.toNat_inj.1; show ch.toNat = 45; omega
                          have HGd := Lib.hid (HGood.out (HG.out.2 ⟨rfl, rfl, rfl, Hft.out, rfl, hz, by rw [hbc]; simp [isNeg, hm], rfl⟩) HOrd.out)
                          clear HBad HGood HG HAp hz hbc hm
                          go_wp2
                          refine wp_region_ext (fun W' => W'.cell? ⟨wr.heap.size, 0, none⟩ = some (.int .i64 d) ∧ W'.cell? ⟨wr.heap.size, 1, none⟩ = some (.string fr) ∧ W'.cell? ⟨wr.heap.size, 2, none⟩ = some (.string rc) ∧ W'.cell? ⟨wr.heap.size, 3, none⟩ = some (.string cy) ∧ W'.cell? ⟨wr.heap.size, 4, none⟩ = some (.string am) ∧ W'.cell? ⟨b, off + k * 5, none⟩ = some (.int .i64 gd)) (fun W' hW' => ⟨hW'.cell (by go_simp), hW'.cell (by go_simp), hW'.cell (by go_simp), hW'.cell (by go_simp), hW'.cell (by go_simp), hW'.cell (by go_simp)⟩) (by kernel_rfl) (by kernel_rfl) ?_
                          intro HCW
                          repeat (first | go_big_quiet_skip | (go_big_quiet_want; apply Exists.intro; refine ⟨fun W hW => ?_, ?_⟩; (focus (obtain ⟨q0, q1, q2, q3, q4, q5⟩ := HCW W hW; go_simp; first | done | rfl | with_reducible exact ext_same HD.out W hW | with_reducible exact ext_same HN1.out W hW | with_reducible exact ext_same HN2.out W hW | with_reducible exact ext_same HN3.out W hW | with_reducible exact ext_calls HC.out W hW)); (simp only [Act.put, List.setIfInBounds_toArray, List.set_cons_zero, List.set_cons_succ]); go_big_quiet_on))
                          refine wpQuiet_nil ?_
                          intro W hW
                          obtain ⟨q0, q1, q2, q3, q4, q5⟩ := HCW W hW
                          have hW := hW.below
                          have hz := hW.size
                          simp at hz
                          go_wp2
                          go_roundw
                          case rel => exact ⟨k + 1 + 1, by omega, by go_num, HGd, (HBL.out.alloc (by have := HBL.out.size; omega) _).trans (hW.mono (by simp; have := HBL.out.size; omega))⟩
                          case measure => simp [intOf]; omega
                    · have u4 : (er != 0) = true := by rw [bne_iff_ne]; exact her
                      have Her := Lib.hid her
                      clear her
                      have HE := Lib.hid (HBad.out (fun h => Her.out (HG.out.1 h.1).2.2.2.2.1))
                      clear HBad HGood
                      go_wp2
                      refine wp_region_ext (fun W' => W'.cell? ⟨wr.heap.size, 0, none⟩ = some (.int .i64 d) ∧ W'.cell? ⟨wr.heap.size, 1, none⟩ = some (.string fr) ∧ W'.cell? ⟨wr.heap.size, 2, none⟩ = some (.string rc) ∧ W'.cell? ⟨wr.heap.size, 3, none⟩ = some (.string cy) ∧ W'.cell? ⟨wr.heap.size, 4, none⟩ = some (.string am) ∧ W'.cell? ⟨b, off + k * 5, none⟩ = some (.int .i64 gd)) (fun W' hW' => ⟨hW'.cell (by go_simp), hW'.cell (by go_simp), hW'.cell (by go_simp), hW'.cell (by go_simp), hW'.cell (by go_simp), hW'.cell (by go_simp)⟩) (by kernel_rfl) (by kernel_rfl) ?_
                      intro HCW
                      repeat (first | go_big_quiet_skip | (go_big_quiet_want; apply Exists.intro; refine ⟨fun W hW => ?_, ?_⟩; (focus (obtain ⟨q0, q1, q2, q3, q4, q5⟩ := HCW W hW; go_simp; first | done | rfl | with_reducible exact ext_same HD.out W hW | with_reducible exact ext_same HN1.out W hW | with_reducible exact ext_same HN2.out W hW | with_reducible exact ext_same HN3.out W hW | with_reducible exact ext_calls HC.out W hW)); (simp only [Act.put, List.setIfInBounds_toArray, List.set_cons_zero, List.set_cons_succ]); go_big_quiet_on))
                      refine wpQuiet_nil ?_
                      intro W hW
                      obtain ⟨q0, q1, q2, q3, q4, q5⟩ := HCW W hW
                      have hW := hW.below
                      have hz := hW.size
                      simp at hz
                      go_wp2
                      go_ret
                      exact ⟨ret_int' HE.out.symm, (HBL.out.alloc (by have := HBL.out.size; omega) _).trans (hW.mono (by simp; have := HBL.out.size; omega))⟩
    · obtain rfl : k = l.length := by omega
      have HE : Hid (flowsErr l = 0) := flowsErr_ok H5.out (by have := HI.out; rw [List.take_of_length_le (Nat.le_refl _)] at this; exact this)
      go_wp2
      go_ret
      exact ⟨ret_int' HE.out.symm, hbel⟩

set_option maxRecDepth 100000 in
theorem rchkFl_any (l : List Fl) (ad : Option Addr) (cap : Nat) (w : World) (hr : Rd Fl.cells 5 w ad l) (hs : ∀ f ∈ l, f.small) (hn : l.length ≤ 1100000) :
    Calls Try.prog 8 #[.slice ad l.length cap] w fun e w' => e = .returned (.int .i64 (flowsErr l)) ∧ Below w.heap.size w w' := by
  by_cases h5 : 5000 < l.length
  · have HE : Hid (flowsErr l = 4) := by show _ = _; rw [flowsErr, if_pos h5]
    have t1 : decide ((5000 : Int) < (l.length : Int)) = true := by rw [decide_eq_true_eq]; omega
    clear h5 hr hs
    go_enter Try.func8, Try.ntmps8
    go_wp2
    go_ret
    exact ⟨ret_int' HE.out.symm, Below.refl _ _⟩
  · exact rchkFl_loop l ad cap w h5 hr hs
end Go.Proofs.Ytofbngpckllkoab

namespace Go.Proofs.Ytofbngpckllkoab
open Go.RowKit

set_option maxHeartbeats 2000000 in
set_option maxRecDepth 100000 in
theorem rmake_pos_one (a b : ByteArray) (w : World) (ha : a.size ≤ 1100000) (hb : b.size ≤ 1100000) (h0 : intErr (bl a) = 0) (h : intErr (bl b) = 0) (hd0 : dval (body (bl b)) ≠ 0) (hn : isNeg (bl b) = false) (h1 : dval (body (bl b)) / Nat.gcd (dval (body (bl a))) (dval (body (bl b))) = 1) :
    Calls Try.prog 52 #[.string a, .string b] w (MakeOk w (ratTxt (!(isNeg (bl a) == false)) (dval (body (bl a))) (dval (body (bl b))))) := by
  have HBo := both_any a b w ha hb
  rw [pairErr_zero h0 h] at HBo
  have HBo := Lib.hid HBo
  have HG := Lib.hid (fun W => rgcd_ok a b W ha hb h0 h)
  have HA := Lib.hid (dval_body_lt h0)
  have HB := Lib.hid (dval_body_lt h)
  have hcb := (intErr_zero h).1
  have hp := canonI_pos hcb
  have hne : bl b ≠ [48] := fun e => hd0 ((canon_zero hcb).1 e)
  have tz := ne_lit hne
  have hbc := bl_cons b hp
  obtain ⟨c, hc⟩ : ∃ c, b[0] = c := ⟨_, rfl⟩
  rw [hc] at hbc
  have t4 : ((c.toNat : Int) == 45) = false := by
    rw [hbc] at hn
    simp [isNeg] at hn
    rw [beq_eq_false_iff_ne]; intro e; apply hn; apply UInt8.toNat_inj.1; show c.toNat = 45; omega
  have HN : Hid (∀ W (g : ByteArray), bl g = istr false (Nat.gcd (dval (body (bl a))) (dval (body (bl b)))) → Calls Try.prog 69 #[.string a, .string g] W (DivOk W (sgnv (!(isNeg (bl a) == false)) (dval (body (bl a)) / Nat.gcd (dval (body (bl a))) (dval (body (bl b))))))) := by
    intro W g hg
    have hg0 : Nat.gcd (dval (body (bl a))) (dval (body (bl b))) ≠ 0 := fun e => hd0 (Nat.eq_zero_of_gcd_eq_zero_right e)
    have hglt := gcd_lt (dval_body_lt h0) (dval_body_lt h)
    have hs := istr_size hg hglt
    have := rdivmod_ok a g W ha (by omega) h0 (by rw [hg]; exact intErr_small hglt) (by rw [hg, dval_istr]; exact hg0) (by rw [hg, dval_istr]; exact Nat.gcd_dvd_left _ _)
    rw [hg, dval_istr, isNeg_istr, decide_eq_true hg0, Bool.and_true] at this
    exact this
  have HDn : Hid (∀ W (g : ByteArray), bl g = istr false (Nat.gcd (dval (body (bl a))) (dval (body (bl b)))) → Calls Try.prog 69 #[.string b, .string g] W (DivOk W (sgnv false (dval (body (bl b)) / Nat.gcd (dval (body (bl a))) (dval (body (bl b))))))) := by
    intro W g hg
    have hg0 : Nat.gcd (dval (body (bl a))) (dval (body (bl b))) ≠ 0 := fun e => hd0 (Nat.eq_zero_of_gcd_eq_zero_right e)
    have hglt := gcd_lt (dval_body_lt h0) (dval_body_lt h)
    have hs := istr_size hg hglt
    have := rdivmod_ok b g W hb (by omega) h (by rw [hg]; exact intErr_small hglt) (by rw [hg, dval_istr]; exact hg0) (by rw [hg, dval_istr]; exact Nat.gcd_dvd_right _ _)
    rw [hg, dval_istr, isNeg_istr, decide_eq_true hg0, Bool.and_true, hn] at this
    exact this
  have Hlt : Hid (Nat.gcd (dval (body (bl a))) (dval (body (bl b))) < ten 1000) := gcd_lt (dval_body_lt h0) (dval_body_lt h)
  have HL : ratTxt (!(isNeg (bl a) == false)) (dval (body (bl a))) (dval (body (bl b))) = istr (!(isNeg (bl a) == false)) (dval (body (bl a)) / Nat.gcd (dval (body (bl a))) (dval (body (bl b)))) := by rw [ratTxt, if_pos h1]
  rw [HL]
  clear HL
  clear ha hb h0 h hd0 hcb hne hbc hn
  generalize dval (body (bl a)) = N at *
  generalize dval (body (bl b)) = D at *
  generalize isNeg (bl a) = na at *
  generalize Nat.gcd N D = G at *
  obtain ⟨q, hq⟩ : ∃ q, q = N / G := ⟨_, rfl⟩
  obtain ⟨r, hr⟩ : ∃ r, r = D / G := ⟨_, rfl⟩
  have hqlt : q < ten 1000 := by rw [hq]; exact Nat.lt_of_le_of_lt (Nat.div_le_self _ _) HA.out
  have hrlt : r < ten 1000 := by rw [hr]; exact Nat.lt_of_le_of_lt (Nat.div_le_self _ _) HB.out
  rw [← hq] at HN ⊢
  rw [← hr] at HDn h1
  have Hq : Hid (∀ sg, zStr (sgnv sg q) = istr sg q) := fun sg => by rw [← wStr_sgnv]; exact (wErr_zero hqlt sg).2
  have Hr : Hid (∀ sg, zStr (sgnv sg r) = istr sg r) := fun sg => by rw [← wStr_sgnv]; exact (wErr_zero hrlt sg).2
  have H1 := Lib.hid h1
  generalize hsg : (!(na == false)) = sg at HN ⊢
  have Hql := Lib.hid hqlt
  have Hrl := Lib.hid hrlt
  clear hq hr hqlt hrlt HA HB h1 hsg
  go_enter Try.func52, Try.ntmps52
  go_wp2_with fail
  refine HBo.out.mono ?_
  rintro e w0 ⟨rfl, hb0⟩
  go_wp2_with fail
  refine (HG.out _).mono ?_
  rintro e w1 ⟨g, rfl, hg, hb1⟩
  have hg2 := Lib.hid hg
  have hgs : g.size ≤ 1002 := istr_size hg Hlt.out
  clear hg HG HBo
  go_wp2_with fail
  refine (HN.out _ _ hg2.out).mono ?_
  rintro e w2 ⟨x, x2, rfl, hx, hx2, hb2⟩
  have Hx := Lib.hid (hx.trans (Hq.out sg))
  have hbb := hb0.trans ((hb1.trans (hb2.mono hb1.size)).mono hb0.size)
  clear hx hx2 hb0 hb1 hb2
  go_wp2_with fail
  refine (HDn.out _ _ hg2.out).mono ?_
  rintro e w3 ⟨y, y2, rfl, hy, hy2, hb3⟩
  have hyy := hy.trans (Hr.out false)
  have hbz := hbb.trans (hb3.mono hbb.size)
  have Hy := Lib.hid hyy
  have ey : y = ⟨#[49]⟩ := eq_lit (by rw [hyy, H1.out]; decide)
  subst ey
  clear hy hy2 hyy hbb hb3 HN HDn
  go_wp2
  go_ret2
  exact ⟨x, rfl, Hx.out, hbz⟩

set_option maxHeartbeats 2000000 in
set_option maxRecDepth 100000 in
theorem rmake_pos_frac (a b : ByteArray) (w : World) (ha : a.size ≤ 1100000) (hb : b.size ≤ 1100000) (h0 : intErr (bl a) = 0) (h : intErr (bl b) = 0) (hd0 : dval (body (bl b)) ≠ 0) (hn : isNeg (bl b) = false) (h1 : dval (body (bl b)) / Nat.gcd (dval (body (bl a))) (dval (body (bl b))) ≠ 1) :
    Calls Try.prog 52 #[.string a, .string b] w (MakeOk w (ratTxt (!(isNeg (bl a) == false)) (dval (body (bl a))) (dval (body (bl b))))) := by
  have HBo := both_any a b w ha hb
  rw [pairErr_zero h0 h] at HBo
  have HBo := Lib.hid HBo
  have HG := Lib.hid (fun W => rgcd_ok a b W ha hb h0 h)
  have HA := Lib.hid (dval_body_lt h0)
  have HB := Lib.hid (dval_body_lt h)
  have hcb := (intErr_zero h).1
  have hp := canonI_pos hcb
  have hne : bl b ≠ [48] := fun e => hd0 ((canon_zero hcb).1 e)
  have tz := ne_lit hne
  have hbc := bl_cons b hp
  obtain ⟨c, hc⟩ : ∃ c, b[0] = c := ⟨_, rfl⟩
  rw [hc] at hbc
  have t4 : ((c.toNat : Int) == 45) = false := by
    rw [hbc] at hn
    simp [isNeg] at hn
    rw [beq_eq_false_iff_ne]; intro e; apply hn; apply UInt8.toNat_inj.1; show c.toNat = 45; omega
  have HN : Hid (∀ W (g : ByteArray), bl g = istr false (Nat.gcd (dval (body (bl a))) (dval (body (bl b)))) → Calls Try.prog 69 #[.string a, .string g] W (DivOk W (sgnv (!(isNeg (bl a) == false)) (dval (body (bl a)) / Nat.gcd (dval (body (bl a))) (dval (body (bl b))))))) := by
    intro W g hg
    have hg0 : Nat.gcd (dval (body (bl a))) (dval (body (bl b))) ≠ 0 := fun e => hd0 (Nat.eq_zero_of_gcd_eq_zero_right e)
    have hglt := gcd_lt (dval_body_lt h0) (dval_body_lt h)
    have hs := istr_size hg hglt
    have := rdivmod_ok a g W ha (by omega) h0 (by rw [hg]; exact intErr_small hglt) (by rw [hg, dval_istr]; exact hg0) (by rw [hg, dval_istr]; exact Nat.gcd_dvd_left _ _)
    rw [hg, dval_istr, isNeg_istr, decide_eq_true hg0, Bool.and_true] at this
    exact this
  have HDn : Hid (∀ W (g : ByteArray), bl g = istr false (Nat.gcd (dval (body (bl a))) (dval (body (bl b)))) → Calls Try.prog 69 #[.string b, .string g] W (DivOk W (sgnv false (dval (body (bl b)) / Nat.gcd (dval (body (bl a))) (dval (body (bl b))))))) := by
    intro W g hg
    have hg0 : Nat.gcd (dval (body (bl a))) (dval (body (bl b))) ≠ 0 := fun e => hd0 (Nat.eq_zero_of_gcd_eq_zero_right e)
    have hglt := gcd_lt (dval_body_lt h0) (dval_body_lt h)
    have hs := istr_size hg hglt
    have := rdivmod_ok b g W hb (by omega) h (by rw [hg]; exact intErr_small hglt) (by rw [hg, dval_istr]; exact hg0) (by rw [hg, dval_istr]; exact Nat.gcd_dvd_right _ _)
    rw [hg, dval_istr, isNeg_istr, decide_eq_true hg0, Bool.and_true, hn] at this
    exact this
  have Hlt : Hid (Nat.gcd (dval (body (bl a))) (dval (body (bl b))) < ten 1000) := gcd_lt (dval_body_lt h0) (dval_body_lt h)
  have HL : ratTxt (!(isNeg (bl a) == false)) (dval (body (bl a))) (dval (body (bl b))) = istr (!(isNeg (bl a) == false)) (dval (body (bl a)) / Nat.gcd (dval (body (bl a))) (dval (body (bl b)))) ++ [47] ++ istr false (dval (body (bl b)) / Nat.gcd (dval (body (bl a))) (dval (body (bl b)))) := by rw [ratTxt, if_neg h1]
  rw [HL]
  clear HL
  clear ha hb h0 h hd0 hcb hne hbc hn
  generalize dval (body (bl a)) = N at *
  generalize dval (body (bl b)) = D at *
  generalize isNeg (bl a) = na at *
  generalize Nat.gcd N D = G at *
  obtain ⟨q, hq⟩ : ∃ q, q = N / G := ⟨_, rfl⟩
  obtain ⟨r, hr⟩ : ∃ r, r = D / G := ⟨_, rfl⟩
  have hqlt : q < ten 1000 := by rw [hq]; exact Nat.lt_of_le_of_lt (Nat.div_le_self _ _) HA.out
  have hrlt : r < ten 1000 := by rw [hr]; exact Nat.lt_of_le_of_lt (Nat.div_le_self _ _) HB.out
  rw [← hq] at HN ⊢
  rw [← hr] at HDn h1 ⊢
  have Hq : Hid (∀ sg, zStr (sgnv sg q) = istr sg q) := fun sg => by rw [← wStr_sgnv]; exact (wErr_zero hqlt sg).2
  have Hr : Hid (∀ sg, zStr (sgnv sg r) = istr sg r) := fun sg => by rw [← wStr_sgnv]; exact (wErr_zero hrlt sg).2
  have H1 := Lib.hid h1
  generalize hsg : (!(na == false)) = sg at HN ⊢
  have Hql := Lib.hid hqlt
  have Hrl := Lib.hid hrlt
  clear hq hr hqlt hrlt HA HB h1 hsg
  go_enter Try.func52, Try.ntmps52
  go_wp2_with fail
  refine HBo.out.mono ?_
  rintro e w0 ⟨rfl, hb0⟩
  go_wp2_with fail
  refine (HG.out _).mono ?_
  rintro e w1 ⟨g, rfl, hg, hb1⟩
  have hg2 := Lib.hid hg
  have hgs : g.size ≤ 1002 := istr_size hg Hlt.out
  clear hg HG HBo
  go_wp2_with fail
  refine (HN.out _ _ hg2.out).mono ?_
  rintro e w2 ⟨x, x2, rfl, hx, hx2, hb2⟩
  have Hx := Lib.hid (hx.trans (Hq.out sg))
  have hbb := hb0.trans ((hb1.trans (hb2.mono hb1.size)).mono hb0.size)
  clear hx hx2 hb0 hb1 hb2
  go_wp2_with fail
  refine (HDn.out _ _ hg2.out).mono ?_
  rintro e w3 ⟨y, y2, rfl, hy, hy2, hb3⟩
  have hyy := hy.trans (Hr.out false)
  have hbz := hbb.trans (hb3.mono hbb.size)
  have Hy := Lib.hid hyy
  have ey : (y.toList == [49]) = false := ne_lit (fun e => H1.out ((istr_one r).1 (by rw [← hyy]; exact e)))
  have hxs : x.size ≤ 1002 := istr_size Hx.out Hql.out
  have hys : y.size ≤ 1002 := istr_size hyy Hrl.out
  clear hy hy2 hyy hbb hb3 HN HDn
  go_wp2
  go_ret2
  exact ⟨_, rfl, by rw [bl_append, bl_append, Hx.out, Hy.out]; rfl, hbz⟩

theorem rmake_ok (a b : ByteArray) (w : World) (ha : a.size ≤ 1100000) (hb : b.size ≤ 1100000) (h0 : intErr (bl a) = 0) (h : intErr (bl b) = 0) (hd0 : dval (body (bl b)) ≠ 0) (hn : isNeg (bl b) = false) :
    Calls Try.prog 52 #[.string a, .string b] w (MakeOk w (ratTxt (!(isNeg (bl a) == isNeg (bl b))) (dval (body (bl a))) (dval (body (bl b))))) := by
  rw [hn]
  by_cases h1 : dval (body (bl b)) / Nat.gcd (dval (body (bl a))) (dval (body (bl b))) = 1
  · exact rmake_pos_one a b w ha hb h0 h hd0 hn h1
  · exact rmake_pos_frac a b w ha hb h0 h hd0 hn h1
end Go.Proofs.Ytofbngpckllkoab
