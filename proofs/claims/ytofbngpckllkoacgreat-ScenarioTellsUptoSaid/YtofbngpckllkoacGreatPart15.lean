/-
  Valid scenarios; novationref32.Valid.  Printed by tools/genscn.py. What a scenario answers: plain. novationref02.Make where the denominator is positive; fraction.  Printed by tools/genrefratops.py. novationref02.Make where the denominator is negative.  Printed by tools/genrefratmd.py.
-/
import Derived.Test.YtofbngpckllkoacGreatPart12
import Derived.Test.YtofbngpckllkoacGreatPart01
import Derived.Test.YtofbngpckllkoacGreatPart13
import Derived.Test.YtofbngpckllkoacGreatPart06
import Derived.Test.YtofbngpckllkoacGreatPart14
import Derived.Test.YtofbngpckllkoacGreatPart11
import Derived.Test.YtofbngpckllkoacGreatPart09
namespace Go.Proofs.YtofbngpckllkoacGreat
open Go.RowKit

def shGood (f : Sh) : Prop := isNm (bl f.nm) = true ∧ isDay f.fr = true ∧ ratErr f.ra = 0 ∧ bl f.ra ≠ [48] ∧ ratErr f.ex = 0
noncomputable def shBad (f : Sh) : Bool := !(eqB (shGood f))
def shLt (a b : Sh) : Bool := Op.bytesLess a.nm.toList b.nm.toList
/-- A scenario is valid. -/
noncomputable def scnB (l : List Sh) : Bool := decide (l.length ≤ 100) && (!(l.any shBad) && incB shLt l)
theorem shBad_of {f : Sh} (h : ¬ shGood f) : shBad f = true := by rw [shBad, eqB_false h]; rfl
theorem shBad_ok {f : Sh} (h : shGood f) : shBad f = false := by rw [shBad, eqB_true h]; rfl
theorem scnB_bad {l : List Sh} {k : Nat} {f : Sh} (hf : l[k]? = some f) (h : ¬ shGood f) : scnB l = false := by
  have e : l.any shBad = true := List.any_eq_true.2 ⟨f, List.mem_of_getElem? hf, shBad_of h⟩
  rw [scnB, e]; simp
theorem scnB_ord {l : List Sh} {k : Nat} {g f : Sh} (hg : l[k]? = some g) (hf : l[k + 1]? = some f) (h : shLt g f = false) : scnB l = false := by
  have e : incB shLt l = false := incB_false_of_take (k := k + 1 + 1) (by rw [incB_snoc hg hf, h]; simp)
  rw [scnB, e]; simp
theorem scnB_long {l : List Sh} (h : 100 < l.length) : scnB l = false := by
  rw [scnB, decide_eq_false (by omega)]; rfl
theorem scnB_ok {l : List Sh} (h : ¬ 100 < l.length) (h1 : ∀ y ∈ l, shBad y = false) (h2 : incB shLt l = true) : scnB l = true := by
  have e : l.any shBad = false := by rw [List.any_eq_false]; intro y hy; rw [h1 y hy]; simp
  rw [scnB, decide_eq_true (by omega), e, h2]; rfl

set_option maxHeartbeats 8000000 in
set_option maxRecDepth 100000 in
theorem valid_any (l : List Sh) (ad : Option Addr) (cap : Nat) (w : World) (_hn : l.length ≤ 1100000) (hr : Rd Sh.cells 4 w ad l) (hs : ∀ f ∈ l, f.small) :
    Calls Tryz.prog 14 #[.agg #[.slice ad l.length cap]] w fun e w' => e = .returned (.bool (scnB l)) ∧ Below w.heap.size w w' := by
  have HR := Lib.hid hr
  have HS := Lib.hid hs
  clear hr hs
  have hb0 := below_a1 w (.cells #[.slice ad l.length cap] 24)
  by_cases h1 : 100 < l.length
  · have HE := Lib.hid (scnB_long h1)
    have t1 : decide ((100 : Int) < (l.length : Int)) = true := by rw [decide_eq_true_eq]; omega
    clear h1
    rw [HE.out]
    go_enter Tryz.func14, Tryz.ntmps14
    go_wp2
    go_ret
    exact ⟨rfl, hb0⟩
  · have t1 : decide ((100 : Int) < (l.length : Int)) = false := by rw [decide_eq_false_iff_not]; omega
    have HL := Lib.hid h1
    have hl5 : l.length ≤ 100 := by omega
    clear h1
    go_enter Tryz.func14, Tryz.ntmps14
    go_wp2_with fail
    go_loopw [3] (fun i wr => ∃ k : Nat, k ≤ l.length ∧ i = .int .i64 k ∧ Hid ((∀ y ∈ l.take k, shBad y = false) ∧ incB shLt (l.take k) = true) ∧ Below w.heap.size w wr ∧ wr.cell? ⟨w.heap.size, 0, none⟩ = some (.slice ad l.length cap)) (fun i _ => l.length - (intOf i).toNat)
    case atStart => exact ⟨0, Nat.zero_le _, rfl, Lib.hid ⟨by simp, rfl⟩, hb0, by go_simp⟩
    case round =>
      clear hb0
      obtain ⟨k, hk, rfl, HI, hbel, q0⟩ := hrel
      by_cases hlt : k < l.length
      · obtain ⟨f, hf⟩ : ∃ f, l[k]? = some f := ⟨_, List.getElem?_eq_getElem hlt⟩
        obtain ⟨b, off, rfl, c0, c1, c2, c3⟩ := (HR.out.below hbel).sh hf
        obtain ⟨s1, s2, s3⟩ := HS.out f (List.mem_of_getElem? hf)
        have HF := Lib.hid hf
        clear hf
        have hsz := hbel.size
        have hblk : b < wr.heap.size := World.block_lt_of_cell? wr _ c0
        have hbx : w.heap.size < wr.heap.size := World.block_lt_of_cell? wr _ q0
        have HBL := Lib.hid hbel
        have HN := Lib.hid (fun W => rname_any f.nm W (by omega))
        have HD := Lib.hid (fun W => rday_any f.fr W)
        have HC : Hid (∀ W (s : ByteArray), s.size ≤ 1100000 → Calls Tryz.prog 32 #[.string s] W fun e w' => e = .returned (.int .i64 (ratErr s)) ∧ Below W.heap.size W w') := fun W s h => refrat_any s W h
        have HBad : Hid (¬ shGood f → scnB l = false) := fun h => scnB_bad HF.out h
        obtain ⟨a1, h1⟩ : ∃ a, a = isNm (bl f.nm) := ⟨_, rfl⟩
        obtain ⟨dy, h2⟩ : ∃ a, a = isDay f.fr := ⟨_, rfl⟩
        rw [← h1] at HN
        rw [← h2] at HD
        have HG : Hid (shGood f ↔ (a1 = true ∧ dy = true ∧ ratErr f.ra = 0 ∧ bl f.ra ≠ [48] ∧ ratErr f.ex = 0)) := by show _ ↔ _; rw [h1, h2]; exact Iff.rfl
        have HDy : Hid (dy = true ↔ 0 ≤ f.fr ∧ f.fr ≤ 99999) := by show _ ↔ _; rw [h2]; simp [isDay]
        have HOkk : Hid (shGood f → ∀ y ∈ l.take (k + 1), shBad y = false) := fun h => all_take_succ HF.out (shBad_ok h) HI.out.1
        clear h1 h2 hbel
        rcases Nat.eq_zero_or_pos k with hk0 | hk0
        · have t0 : decide ((0 : Int) < (k : Int)) = false := by rw [decide_eq_false_iff_not]; omega
          have t0b : decide (0 < k) = false := by rw [decide_eq_false_iff_not]; omega
          have t0c : ¬ 0 < k := by omega
          have HOrd : Hid (incB shLt (l.take (k + 1)) = true) := by show _ = _; rw [hk0]; exact incB_le_one (by rw [List.length_take]; omega)
          have hk1 : (0 : Int) ≤ (k : Int) := by omega
          have hk2 : (k : Int) < (l.length : Int) := by omega
          clear hk0 HI HF
          generalize f.nm = nm at *
          generalize f.fr = fr at *
          generalize f.ra = ra at *
          generalize f.ex = ex2 at *
          go_upto_region 7 with fail
          obtain ⟨W0, hW0⟩ : ∃ W0, W0 = wr.alloc (.cells #[.string nm, .int .i64 fr, .string ra, .string ex2] 50) := ⟨_, rfl⟩
          have hz : W0.cell? ⟨w.heap.size, 0, none⟩ = some (.slice (some ⟨b, off, none⟩) l.length cap) ∧ W0.cell? ⟨wr.heap.size, 0, none⟩ = some (.string nm) ∧ W0.cell? ⟨wr.heap.size, 1, none⟩ = some (.int .i64 fr) ∧ W0.cell? ⟨wr.heap.size, 2, none⟩ = some (.string ra) ∧ W0.cell? ⟨wr.heap.size, 3, none⟩ = some (.string ex2) := by rw [hW0]; refine ⟨?_, ?_, ?_, ?_, ?_⟩ <;> go_simp
          have HB0 : Hid (Below w.heap.size w W0) := by rw [hW0]; exact HBL.out.alloc HBL.out.size _
          rw [← hW0]
          clear hW0
          have HZ : Hid (∀ W, Ext W0 W → W.cell? ⟨w.heap.size, 0, none⟩ = some (.slice (some ⟨b, off, none⟩) l.length cap) ∧ W.cell? ⟨wr.heap.size, 0, none⟩ = some (.string nm) ∧ W.cell? ⟨wr.heap.size, 1, none⟩ = some (.int .i64 fr) ∧ W.cell? ⟨wr.heap.size, 2, none⟩ = some (.string ra) ∧ W.cell? ⟨wr.heap.size, 3, none⟩ = some (.string ex2)) := fun W hx => ⟨Ext.cell hx hz.1, Ext.cell hx hz.2.1, Ext.cell hx hz.2.2.1, Ext.cell hx hz.2.2.2.1, Ext.cell hx hz.2.2.2.2⟩
          obtain ⟨y0, y1, y2, y3, y4⟩ := hz
          clear q0 c0 c1 c2 c3
          cases a1 with
          | false =>
            have HE := Lib.hid (HBad.out (fun h => by have := (HG.out.1 h).1; cases this))
            clear HBad HG HDy HOkk
            go_wp2_with (first | (go_at_call 30; refine (HN.out _).mono ?_; rintro e w' ⟨rfl, rfl⟩) | (go_at_call 31; refine (HD.out _).mono ?_; rintro e w' ⟨rfl, rfl⟩) | (go_at_call 32; refine (HC.out _ _ ?_).mono ?_; (assumption); rintro e w6 ⟨rfl, hb6⟩; first | (have hx6 : Ext W0 w6 := Below.trans hx5 (hb6.mono (Below.size hx5)); clear hb6; obtain ⟨x0, x1, x2, x3, x4⟩ := HZ.out _ hx6) | (have hx5 : Ext W0 w6 := hb6; clear hb6; obtain ⟨x0, x1, x2, x3, x4⟩ := HZ.out _ hx5)))
            go_ret
            exact ⟨by rw [HE.out]; rfl, HB0.out⟩
          | true =>
            cases dy with
            | false =>
              have HE := Lib.hid (HBad.out (fun h => by have := (HG.out.1 h).2.1; cases this))
              clear HBad HG HDy HOkk
              go_wp2_with (first | (go_at_call 30; refine (HN.out _).mono ?_; rintro e w' ⟨rfl, rfl⟩) | (go_at_call 31; refine (HD.out _).mono ?_; rintro e w' ⟨rfl, rfl⟩) | (go_at_call 32; refine (HC.out _ _ ?_).mono ?_; (assumption); rintro e w6 ⟨rfl, hb6⟩; first | (have hx6 : Ext W0 w6 := Below.trans hx5 (hb6.mono (Below.size hx5)); clear hb6; obtain ⟨x0, x1, x2, x3, x4⟩ := HZ.out _ hx6) | (have hx5 : Ext W0 w6 := hb6; clear hb6; obtain ⟨x0, x1, x2, x3, x4⟩ := HZ.out _ hx5)))
              go_ret
              exact ⟨by rw [HE.out]; rfl, HB0.out⟩
            | true =>
              by_cases her : ratErr ra = 0
              · have Her := Lib.hid her
                by_cases hz : bl ra = [48]
                · have ez : (ra.toList == [48]) = true := by rw [Lib.toList_data]; show (bl ra == [48]) = true; rw [hz]; rfl
                  have Hz := Lib.hid hz
                  clear hz
                  have HE := Lib.hid (HBad.out (fun h => (HG.out.1 h).2.2.2.1 Hz.out))
                  clear HBad HG HDy HOkk
                  go_wp2_with (first | (go_at_call 30; refine (HN.out _).mono ?_; rintro e w' ⟨rfl, rfl⟩) | (go_at_call 31; refine (HD.out _).mono ?_; rintro e w' ⟨rfl, rfl⟩) | (go_at_call 32; refine (HC.out _ _ ?_).mono ?_; (assumption); rintro e w6 ⟨rfl, hb6⟩; first | (have hx6 : Ext W0 w6 := Below.trans hx5 (hb6.mono (Below.size hx5)); clear hb6; obtain ⟨x0, x1, x2, x3, x4⟩ := HZ.out _ hx6) | (have hx5 : Ext W0 w6 := hb6; clear hb6; obtain ⟨x0, x1, x2, x3, x4⟩ := HZ.out _ hx5)))
                  go_ret
                  exact ⟨by rw [HE.out]; rfl, HB0.out.trans (Below.mono hx5 HB0.out.size)⟩
                · have ez : (ra.toList == [48]) = false := ne_lit hz
                  have Hz := Lib.hid hz
                  clear hz
                  by_cases hex : ratErr ex2 = 0
                  · have Hex := Lib.hid hex
                    have HI2 : Hid ((∀ y ∈ l.take (k + 1), shBad y = false) ∧ incB shLt (l.take (k + 1)) = true) := ⟨HOkk.out (HG.out.2 ⟨rfl, rfl, Her.out, Hz.out, Hex.out⟩), HOrd.out⟩
                    clear HBad HG HDy HOkk HOrd
                    go_wp2_with (first | (go_at_call 30; refine (HN.out _).mono ?_; rintro e w' ⟨rfl, rfl⟩) | (go_at_call 31; refine (HD.out _).mono ?_; rintro e w' ⟨rfl, rfl⟩) | (go_at_call 32; refine (HC.out _ _ ?_).mono ?_; (assumption); rintro e w6 ⟨rfl, hb6⟩; first | (have hx6 : Ext W0 w6 := Below.trans hx5 (hb6.mono (Below.size hx5)); clear hb6; obtain ⟨x0, x1, x2, x3, x4⟩ := HZ.out _ hx6) | (have hx5 : Ext W0 w6 := hb6; clear hb6; obtain ⟨x0, x1, x2, x3, x4⟩ := HZ.out _ hx5)))
                    go_quiet (fail)
                    go_wp2
                    go_roundw
                    case rel => exact ⟨k + 1, by omega, by go_num, HI2, below_drewN (HB0.out.trans (Below.mono hx6 HB0.out.size)) _, x0⟩
                    case measure => simp [intOf]; omega
                  · have u4 : (ratErr ex2 != 0) = true := by rw [bne_iff_ne]; exact hex
                    have Hex := Lib.hid hex
                    clear hex
                    have HE := Lib.hid (HBad.out (fun h => Hex.out (HG.out.1 h).2.2.2.2))
                    clear HBad HG HDy HOkk
                    go_wp2_with (first | (go_at_call 30; refine (HN.out _).mono ?_; rintro e w' ⟨rfl, rfl⟩) | (go_at_call 31; refine (HD.out _).mono ?_; rintro e w' ⟨rfl, rfl⟩) | (go_at_call 32; refine (HC.out _ _ ?_).mono ?_; (assumption); rintro e w6 ⟨rfl, hb6⟩; first | (have hx6 : Ext W0 w6 := Below.trans hx5 (hb6.mono (Below.size hx5)); clear hb6; obtain ⟨x0, x1, x2, x3, x4⟩ := HZ.out _ hx6) | (have hx5 : Ext W0 w6 := hb6; clear hb6; obtain ⟨x0, x1, x2, x3, x4⟩ := HZ.out _ hx5)))
                    go_ret
                    exact ⟨by rw [HE.out]; rfl, HB0.out.trans (Below.mono hx6 HB0.out.size)⟩
              · have u4 : (ratErr ra != 0) = true := by rw [bne_iff_ne]; exact her
                have Her := Lib.hid her
                clear her
                have HE := Lib.hid (HBad.out (fun h => Her.out (HG.out.1 h).2.2.1))
                clear HBad HG HDy HOkk
                go_wp2_with (first | (go_at_call 30; refine (HN.out _).mono ?_; rintro e w' ⟨rfl, rfl⟩) | (go_at_call 31; refine (HD.out _).mono ?_; rintro e w' ⟨rfl, rfl⟩) | (go_at_call 32; refine (HC.out _ _ ?_).mono ?_; (assumption); rintro e w6 ⟨rfl, hb6⟩; first | (have hx6 : Ext W0 w6 := Below.trans hx5 (hb6.mono (Below.size hx5)); clear hb6; obtain ⟨x0, x1, x2, x3, x4⟩ := HZ.out _ hx6) | (have hx5 : Ext W0 w6 := hb6; clear hb6; obtain ⟨x0, x1, x2, x3, x4⟩ := HZ.out _ hx5)))
                go_ret
                exact ⟨by rw [HE.out]; rfl, HB0.out.trans (Below.mono hx5 HB0.out.size)⟩
        · obtain ⟨k, rfl⟩ : ∃ k', k = k' + 1 := ⟨k - 1, by omega⟩
          obtain ⟨g, hg⟩ : ∃ g, l[k]? = some g := ⟨_, List.getElem?_eq_getElem (by omega)⟩
          obtain ⟨b', off', he, e0, _⟩ := (HR.out.below HBL.out).sh hg
          obtain ⟨rfl, rfl⟩ : b = b' ∧ off = off' := by simpa using he
          have HOrd : Hid (Op.bytesLess g.nm.toList f.nm.toList = true → incB shLt (l.take (k + 1 + 1)) = true) := fun h => by rw [incB_snoc hg HF.out, HI.out.2]; exact h
          have HOrdB : Hid (Op.bytesLess g.nm.toList f.nm.toList = false → scnB l = false) := fun h => scnB_ord hg HF.out h
          generalize g.nm = gn at *
          clear he hk0 hg HI HF
          generalize f.nm = nm at *
          generalize f.fr = fr at *
          generalize f.ra = ra at *
          generalize f.ex = ex2 at *
          have ek : ((k + 1 : Nat) : Int) = (k : Int) + 1 := by omega
          rw [ek]
          clear ek
          have t0 : decide ((0 : Int) < (k : Int) + 1) = true := by rw [decide_eq_true_eq]; omega
          have e1 : (k : Int) + 1 - 1 = (k : Int) := by omega
          have e2 : IntKind.i64.wrap ((k : Int) + 1 - 1) = (k : Int) := by rw [IntWalk.i64_in _ (by omega)]; omega
          have e3 : IntKind.i64.wrap (k : Int) = (k : Int) := IntWalk.i64_in _ (by omega)
          have e4 : ((k : Int) + 1).toNat = k + 1 := by omega
          have hk2 : (0 : Int) ≤ (k : Int) + 1 := by omega
          have hk3 : (k : Int) + 1 < (l.length : Int) := by omega
          have hk4 : (0 : Int) ≤ (k : Int) := by omega
          have hk5 : (k : Int) < (l.length : Int) := by omega
          go_upto_region 7 with fail
          obtain ⟨W0, hW0⟩ : ∃ W0, W0 = wr.alloc (.cells #[.string nm, .int .i64 fr, .string ra, .string ex2] 50) := ⟨_, rfl⟩
          have hz : W0.cell? ⟨w.heap.size, 0, none⟩ = some (.slice (some ⟨b, off, none⟩) l.length cap) ∧ W0.cell? ⟨wr.heap.size, 0, none⟩ = some (.string nm) ∧ W0.cell? ⟨wr.heap.size, 1, none⟩ = some (.int .i64 fr) ∧ W0.cell? ⟨wr.heap.size, 2, none⟩ = some (.string ra) ∧ W0.cell? ⟨wr.heap.size, 3, none⟩ = some (.string ex2) ∧ W0.cell? ⟨b, off + k * 4, none⟩ = some (.string gn) := by rw [hW0]; refine ⟨?_, ?_, ?_, ?_, ?_, ?_⟩ <;> go_simp
          have HB0 : Hid (Below w.heap.size w W0) := by rw [hW0]; exact HBL.out.alloc HBL.out.size _
          rw [← hW0]
          clear hW0
          have HZ : Hid (∀ W, Ext W0 W → W.cell? ⟨w.heap.size, 0, none⟩ = some (.slice (some ⟨b, off, none⟩) l.length cap) ∧ W.cell? ⟨wr.heap.size, 0, none⟩ = some (.string nm) ∧ W.cell? ⟨wr.heap.size, 1, none⟩ = some (.int .i64 fr) ∧ W.cell? ⟨wr.heap.size, 2, none⟩ = some (.string ra) ∧ W.cell? ⟨wr.heap.size, 3, none⟩ = some (.string ex2) ∧ W.cell? ⟨b, off + k * 4, none⟩ = some (.string gn)) := fun W hx => ⟨Ext.cell hx hz.1, Ext.cell hx hz.2.1, Ext.cell hx hz.2.2.1, Ext.cell hx hz.2.2.2.1, Ext.cell hx hz.2.2.2.2.1, Ext.cell hx hz.2.2.2.2.2⟩
          obtain ⟨y0, y1, y2, y3, y4, y5⟩ := hz
          clear q0 c0 c1 c2 c3 e0
          cases a1 with
          | false =>
            have HE := Lib.hid (HBad.out (fun h => by have := (HG.out.1 h).1; cases this))
            clear HBad HG HDy HOkk
            go_wp2_with (first | (go_at_call 30; refine (HN.out _).mono ?_; rintro e w' ⟨rfl, rfl⟩) | (go_at_call 31; refine (HD.out _).mono ?_; rintro e w' ⟨rfl, rfl⟩) | (go_at_call 32; refine (HC.out _ _ ?_).mono ?_; (assumption); rintro e w6 ⟨rfl, hb6⟩; first | (have hx6 : Ext W0 w6 := Below.trans hx5 (hb6.mono (Below.size hx5)); clear hb6; obtain ⟨x0, x1, x2, x3, x4, x5⟩ := HZ.out _ hx6) | (have hx5 : Ext W0 w6 := hb6; clear hb6; obtain ⟨x0, x1, x2, x3, x4, x5⟩ := HZ.out _ hx5)))
            go_ret
            exact ⟨by rw [HE.out]; rfl, HB0.out⟩
          | true =>
            cases dy with
            | false =>
              have HE := Lib.hid (HBad.out (fun h => by have := (HG.out.1 h).2.1; cases this))
              clear HBad HG HDy HOkk
              go_wp2_with (first | (go_at_call 30; refine (HN.out _).mono ?_; rintro e w' ⟨rfl, rfl⟩) | (go_at_call 31; refine (HD.out _).mono ?_; rintro e w' ⟨rfl, rfl⟩) | (go_at_call 32; refine (HC.out _ _ ?_).mono ?_; (assumption); rintro e w6 ⟨rfl, hb6⟩; first | (have hx6 : Ext W0 w6 := Below.trans hx5 (hb6.mono (Below.size hx5)); clear hb6; obtain ⟨x0, x1, x2, x3, x4, x5⟩ := HZ.out _ hx6) | (have hx5 : Ext W0 w6 := hb6; clear hb6; obtain ⟨x0, x1, x2, x3, x4, x5⟩ := HZ.out _ hx5)))
              go_ret
              exact ⟨by rw [HE.out]; rfl, HB0.out⟩
            | true =>
              by_cases her : ratErr ra = 0
              · have Her := Lib.hid her
                by_cases hz : bl ra = [48]
                · have ez : (ra.toList == [48]) = true := by rw [Lib.toList_data]; show (bl ra == [48]) = true; rw [hz]; rfl
                  have Hz := Lib.hid hz
                  clear hz
                  have HE := Lib.hid (HBad.out (fun h => (HG.out.1 h).2.2.2.1 Hz.out))
                  clear HBad HG HDy HOkk
                  go_wp2_with (first | (go_at_call 30; refine (HN.out _).mono ?_; rintro e w' ⟨rfl, rfl⟩) | (go_at_call 31; refine (HD.out _).mono ?_; rintro e w' ⟨rfl, rfl⟩) | (go_at_call 32; refine (HC.out _ _ ?_).mono ?_; (assumption); rintro e w6 ⟨rfl, hb6⟩; first | (have hx6 : Ext W0 w6 := Below.trans hx5 (hb6.mono (Below.size hx5)); clear hb6; obtain ⟨x0, x1, x2, x3, x4, x5⟩ := HZ.out _ hx6) | (have hx5 : Ext W0 w6 := hb6; clear hb6; obtain ⟨x0, x1, x2, x3, x4, x5⟩ := HZ.out _ hx5)))
                  go_ret
                  exact ⟨by rw [HE.out]; rfl, HB0.out.trans (Below.mono hx5 HB0.out.size)⟩
                · have ez : (ra.toList == [48]) = false := ne_lit hz
                  have Hz := Lib.hid hz
                  clear hz
                  by_cases hex : ratErr ex2 = 0
                  · have Hex := Lib.hid hex
                    by_cases hord : Op.bytesLess gn.toList nm.toList = true
                    · have HI2 : Hid ((∀ y ∈ l.take (k + 1 + 1), shBad y = false) ∧ incB shLt (l.take (k + 1 + 1)) = true) := ⟨HOkk.out (HG.out.2 ⟨rfl, rfl, Her.out, Hz.out, Hex.out⟩), HOrd.out hord⟩
                      have hord' : (!(Op.bytesLess gn.toList nm.toList)) = false := by rw [hord]; rfl
                      clear HBad HG HDy HOkk HOrd
                      go_wp2_with (first | (go_at_call 30; refine (HN.out _).mono ?_; rintro e w' ⟨rfl, rfl⟩) | (go_at_call 31; refine (HD.out _).mono ?_; rintro e w' ⟨rfl, rfl⟩) | (go_at_call 32; refine (HC.out _ _ ?_).mono ?_; (assumption); rintro e w6 ⟨rfl, hb6⟩; first | (have hx6 : Ext W0 w6 := Below.trans hx5 (hb6.mono (Below.size hx5)); clear hb6; obtain ⟨x0, x1, x2, x3, x4, x5⟩ := HZ.out _ hx6) | (have hx5 : Ext W0 w6 := hb6; clear hb6; obtain ⟨x0, x1, x2, x3, x4, x5⟩ := HZ.out _ hx5)))
                      go_quiet (fail)
                      go_wp2
                      go_roundw
                      case rel => exact ⟨k + 1 + 1, by omega, by go_num, HI2, below_drewN (HB0.out.trans (Below.mono hx6 HB0.out.size)) _, x0⟩
                      case measure => simp [intOf]; omega
                    · have hord1 : Op.bytesLess gn.toList nm.toList = false := by simpa using hord
                      have HE := Lib.hid (HOrdB.out hord1)
                      clear hord HBad HG HDy HOkk HOrd
                      go_wp2_with (first | (go_at_call 30; refine (HN.out _).mono ?_; rintro e w' ⟨rfl, rfl⟩) | (go_at_call 31; refine (HD.out _).mono ?_; rintro e w' ⟨rfl, rfl⟩) | (go_at_call 32; refine (HC.out _ _ ?_).mono ?_; (assumption); rintro e w6 ⟨rfl, hb6⟩; first | (have hx6 : Ext W0 w6 := Below.trans hx5 (hb6.mono (Below.size hx5)); clear hb6; obtain ⟨x0, x1, x2, x3, x4, x5⟩ := HZ.out _ hx6) | (have hx5 : Ext W0 w6 := hb6; clear hb6; obtain ⟨x0, x1, x2, x3, x4, x5⟩ := HZ.out _ hx5)))
                      go_quiet (fail)
                      go_wp2
                      go_ret
                      exact ⟨by rw [HE.out]; rfl, below_drewN (HB0.out.trans (Below.mono hx6 HB0.out.size)) _⟩
                  · have u4 : (ratErr ex2 != 0) = true := by rw [bne_iff_ne]; exact hex
                    have Hex := Lib.hid hex
                    clear hex
                    have HE := Lib.hid (HBad.out (fun h => Hex.out (HG.out.1 h).2.2.2.2))
                    clear HBad HG HDy HOkk
                    go_wp2_with (first | (go_at_call 30; refine (HN.out _).mono ?_; rintro e w' ⟨rfl, rfl⟩) | (go_at_call 31; refine (HD.out _).mono ?_; rintro e w' ⟨rfl, rfl⟩) | (go_at_call 32; refine (HC.out _ _ ?_).mono ?_; (assumption); rintro e w6 ⟨rfl, hb6⟩; first | (have hx6 : Ext W0 w6 := Below.trans hx5 (hb6.mono (Below.size hx5)); clear hb6; obtain ⟨x0, x1, x2, x3, x4, x5⟩ := HZ.out _ hx6) | (have hx5 : Ext W0 w6 := hb6; clear hb6; obtain ⟨x0, x1, x2, x3, x4, x5⟩ := HZ.out _ hx5)))
                    go_ret
                    exact ⟨by rw [HE.out]; rfl, HB0.out.trans (Below.mono hx6 HB0.out.size)⟩
              · have u4 : (ratErr ra != 0) = true := by rw [bne_iff_ne]; exact her
                have Her := Lib.hid her
                clear her
                have HE := Lib.hid (HBad.out (fun h => Her.out (HG.out.1 h).2.2.1))
                clear HBad HG HDy HOkk
                go_wp2_with (first | (go_at_call 30; refine (HN.out _).mono ?_; rintro e w' ⟨rfl, rfl⟩) | (go_at_call 31; refine (HD.out _).mono ?_; rintro e w' ⟨rfl, rfl⟩) | (go_at_call 32; refine (HC.out _ _ ?_).mono ?_; (assumption); rintro e w6 ⟨rfl, hb6⟩; first | (have hx6 : Ext W0 w6 := Below.trans hx5 (hb6.mono (Below.size hx5)); clear hb6; obtain ⟨x0, x1, x2, x3, x4, x5⟩ := HZ.out _ hx6) | (have hx5 : Ext W0 w6 := hb6; clear hb6; obtain ⟨x0, x1, x2, x3, x4, x5⟩ := HZ.out _ hx5)))
                go_ret
                exact ⟨by rw [HE.out]; rfl, HB0.out.trans (Below.mono hx5 HB0.out.size)⟩
      · obtain rfl : k = l.length := by omega
        have HE : Hid (scnB l = true) := by
          have h := HI.out
          rw [List.take_of_length_le (Nat.le_refl _)] at h
          exact scnB_ok HL.out h.1 h.2
        go_wp2
        go_ret
        exact ⟨by rw [HE.out]; rfl, hbel⟩
end Go.Proofs.YtofbngpckllkoacGreat

namespace Go.Proofs.YtofbngpckllkoacGreat
open Go.RowKit

def addE (a b : ByteArray) : Int := sumE a b (addZ a b)
def addS (a b : ByteArray) : List UInt8 := sumS a b (addZ a b)
def shM (x : Sh) (v : ByteArray) : ByteArray := mkB (mulS x.ra v)
def shE (x : Sh) (v : ByteArray) : Int := if mulE x.ra v = 0 then addE (shM x v) x.ex else mulE x.ra v
def shV (x : Sh) (v : ByteArray) : ByteArray := mkB (addS (shM x v) x.ex)
def hits (f : Fx) (x : Sh) : Bool := decide (x.nm = f.nm) && decide (x.fr ≤ f.d)
def newE (l : List Sh) (f : Fx) : Int := match l.find? (hits f) with | none => 0 | some x => shE x f.vl
def newV (l : List Sh) (f : Fx) : ByteArray := match l.find? (hits f) with | none => f.vl | some x => shV x f.vl
def newF (l : List Sh) (f : Fx) : Fx := ⟨f.nm, f.d, newV l f⟩
/-- The first error. -/
def errs : List Int → Int
  | [] => 0
  | e :: r => if e = 0 then errs r else e
theorem errs_hit : ∀ {l : List Int} {k : Nat} {e : Int}, l[k]? = some e → errs (l.take k) = 0 → e ≠ 0 → errs l = e
  | [], k, e, h, _, _ => by simp at h
  | x :: l, 0, e, h, _, he => by simp at h; subst h; rw [errs, if_neg he]
  | x :: l, k + 1, e, h, h0, he => by
    rw [List.take_succ_cons, errs] at h0
    by_cases hx : x = 0
    · rw [if_pos hx] at h0
      rw [errs, if_pos hx]
      exact errs_hit (by simpa using h) h0 he
    · rw [if_neg hx] at h0; exact absurd h0 hx
theorem errs_snoc : ∀ {l : List Int} {k : Nat} {e : Int}, l[k]? = some e → errs (l.take k) = 0 → e = 0 → errs (l.take (k + 1)) = 0
  | [], k, e, h, _, _ => by simp at h
  | x :: l, 0, e, h, _, he => by simp at h; subst h; rw [List.take_succ_cons, errs, if_pos he]; rfl
  | x :: l, k + 1, e, h, h0, he => by
    rw [List.take_succ_cons, errs] at h0
    by_cases hx : x = 0
    · rw [if_pos hx] at h0
      rw [List.take_succ_cons, errs, if_pos hx]
      exact errs_snoc (by simpa using h) h0 he
    · rw [if_neg hx] at h0; exact absurd h0 hx
theorem errs_take_map_hit {α : Type} {g : α → Int} {l : List α} {k : Nat} {f : α} (hf : l[k]? = some f) (h0 : errs ((l.take k).map g) = 0) (he : g f ≠ 0) : errs (l.map g) = g f :=
  errs_hit (k := k) (by rw [List.getElem?_map, hf]; rfl) (by rw [← List.map_take]; exact h0) he
theorem errs_take_map_snoc {α : Type} {g : α → Int} {l : List α} {k : Nat} {f : α} (hf : l[k]? = some f) (h0 : errs ((l.take k).map g) = 0) (he : g f = 0) : errs ((l.take (k + 1)).map g) = 0 := by
  rw [List.map_take]
  exact errs_snoc (by rw [List.getElem?_map, hf]; rfl) (by rw [← List.map_take]; exact h0) he

noncomputable def applyE (l : List Sh) (fs : List Fx) (cs : List Ch) : Int := if scnB l = true then (if envErr fs cs = 0 then errs (fs.map (newE l)) else envErr fs cs) else 8
noncomputable def applyF (l : List Sh) (fs : List Fx) (cs : List Ch) : List Fx := if applyE l fs cs = 0 then fs.map (newF l) else []
noncomputable def applyC (l : List Sh) (fs : List Fx) (cs : List Ch) : List Ch := if applyE l fs cs = 0 then cs else []
theorem apply_err {l : List Sh} {fs : List Fx} {cs : List Ch} {e : Int} (h : applyE l fs cs = e) (he : e ≠ 0) : applyE l fs cs = e ∧ applyF l fs cs = [] ∧ applyC l fs cs = [] := by
  have h2 : ¬ applyE l fs cs = 0 := by rw [h]; exact he
  exact ⟨h, by rw [applyF, if_neg h2], by rw [applyC, if_neg h2]⟩
theorem apply_bad {l : List Sh} {fs : List Fx} {cs : List Ch} (h : scnB l = false) : applyE l fs cs = 8 ∧ applyF l fs cs = [] ∧ applyC l fs cs = [] :=
  apply_err (by rw [applyE, if_neg (by rw [h]; simp)]) (by decide)
theorem apply_env {l : List Sh} {fs : List Fx} {cs : List Ch} (h : scnB l = true) (he : envErr fs cs ≠ 0) : applyE l fs cs = envErr fs cs ∧ applyF l fs cs = [] ∧ applyC l fs cs = [] :=
  apply_err (by rw [applyE, if_pos h, if_neg he]) he
theorem apply_num {l : List Sh} {fs : List Fx} {cs : List Ch} {k : Nat} {f : Fx} (h : scnB l = true) (he : envErr fs cs = 0) (hf : fs[k]? = some f) (h0 : errs ((fs.take k).map (newE l)) = 0) (hx : newE l f ≠ 0) :
    applyE l fs cs = newE l f ∧ applyF l fs cs = [] ∧ applyC l fs cs = [] :=
  apply_err (by rw [applyE, if_pos h, if_pos he]; exact errs_take_map_hit hf h0 hx) hx
theorem apply_ok {l : List Sh} {fs : List Fx} {cs : List Ch} (h : scnB l = true) (he : envErr fs cs = 0) (h0 : errs (fs.map (newE l)) = 0) : applyE l fs cs = 0 ∧ applyF l fs cs = fs.map (newF l) ∧ applyC l fs cs = cs := by
  have e : applyE l fs cs = 0 := by rw [applyE, if_pos h, if_pos he]; exact h0
  exact ⟨e, by rw [applyF, if_pos e], by rw [applyC, if_pos e]⟩

/-! The inverse. -/
def oneB : ByteArray := ⟨#[49]⟩
def negB : ByteArray := ⟨#[45, 49]⟩
def invM (x : Sh) : ByteArray := mkB (mulS x.ex negB)
def invE (x : Sh) : Int := if divE oneB x.ra = 0 then (if mulE x.ex negB = 0 then divE (invM x) x.ra else mulE x.ex negB) else divE oneB x.ra
def inv (x : Sh) : Sh := ⟨x.nm, x.fr, mkB (divS oneB x.ra), mkB (divS (invM x) x.ra)⟩
noncomputable def inverseE (l : List Sh) : Int := if scnB l = true then errs (l.map invE) else 8
noncomputable def inverseL (l : List Sh) : List Sh := if inverseE l = 0 then l.map inv else []
theorem inverse_err {l : List Sh} {e : Int} (h : inverseE l = e) (he : e ≠ 0) : inverseE l = e ∧ inverseL l = [] := by
  have h2 : ¬ inverseE l = 0 := by rw [h]; exact he
  exact ⟨h, by rw [inverseL, if_neg h2]⟩
theorem inverse_bad {l : List Sh} (h : scnB l = false) : inverseE l = 8 ∧ inverseL l = [] := inverse_err (by rw [inverseE, if_neg (by rw [h]; simp)]) (by decide)
theorem inverse_num {l : List Sh} {k : Nat} {x : Sh} (h : scnB l = true) (hf : l[k]? = some x) (h0 : errs ((l.take k).map invE) = 0) (hx : invE x ≠ 0) : inverseE l = invE x ∧ inverseL l = [] :=
  inverse_err (by rw [inverseE, if_pos h]; exact errs_take_map_hit hf h0 hx) hx
theorem inverse_ok {l : List Sh} (h : scnB l = true) (h0 : errs (l.map invE) = 0) : inverseE l = 0 ∧ inverseL l = l.map inv := by
  have e : inverseE l = 0 := by rw [inverseE, if_pos h]; exact h0
  exact ⟨e, by rw [inverseL, if_pos e]⟩
theorem inv_div {x : Sh} (h : divE oneB x.ra ≠ 0) : invE x = divE oneB x.ra := by rw [invE, if_neg h]
theorem inv_mul {x : Sh} (h : divE oneB x.ra = 0) (h2 : mulE x.ex negB ≠ 0) : invE x = mulE x.ex negB := by rw [invE, if_pos h, if_neg h2]
theorem inv_last {x : Sh} (h : divE oneB x.ra = 0) (h2 : mulE x.ex negB = 0) : invE x = divE (invM x) x.ra := by rw [invE, if_pos h, if_pos h2]

/-! Sizes. -/
theorem frS_len (a b : ByteArray) (z y : Int) : (frS a b z y).length ≤ 2010 := by
  unfold frS
  split
  · rename_i h
    unfold frE at h
    split at h
    · rename_i h0; exact absurd h h0
    · split at h
      · cases h
      · rename_i h2
        have h3 : zErr z = 0 := by
          rcases Int.decEq (zErr z) 0 with k | k
          · exact absurd (.inl k) h2
          · exact k
        have h4 : zErr y = 0 := by
          rcases Int.decEq (zErr y) 0 with k | k
          · exact absurd (.inr k) h2
          · exact k
        exact ratTxt_len (zErr_lt h3) (zErr_lt h4)
  · simp
theorem mulS_size (a b : ByteArray) : (mkB (mulS a b)).size ≤ 2010 := by rw [mkB_size]; exact frS_len _ _ _ _
theorem divS_size (a b : ByteArray) : (mkB (divS a b)).size ≤ 2010 := by
  rw [mkB_size, divS]
  split
  · simp
  · exact frS_len _ _ _ _
theorem addS_size (a b : ByteArray) : (mkB (addS a b)).size ≤ 2010 := by rw [mkB_size]; exact sumS_len _ _ _
/-- The contract as a value. -/
theorem RatPost2.val {w w' : World} {l : List UInt8} {er : Int} {e : Ending} (h : RatPost2 w l er e w') : e = .returned (.tuple #[.string (mkB l), .int .i64 er]) ∧ Below w.heap.size w w' := by
  obtain ⟨t, rfl, ht, hb⟩ := h
  exact ⟨by rw [mkB_bl ht], hb⟩

/-! Names are different. -/
theorem bytesLess_trans : ∀ {x y z : List UInt8}, Op.bytesLess x y = true → Op.bytesLess y z = true → Op.bytesLess x z = true
  | [], [], _, h, _ => by cases h
  | [], _ :: _, [], _, h => by cases h
  | [], _ :: _, _ :: _, _, _ => rfl
  | _ :: _, [], _, h, _ => by cases h
  | _ :: _, _ :: _, [], _, h => by cases h
  | a :: x, b :: y, c :: z, h1, h2 => by
    simp only [Op.bytesLess, Bool.or_eq_true, Bool.and_eq_true, decide_eq_true_eq, beq_iff_eq] at h1 h2 ⊢
    rcases h1 with h1 | ⟨rfl, h1⟩
    · rcases h2 with h2 | ⟨rfl, h2⟩
      · exact .inl (UInt8.lt_trans h1 h2)
      · exact .inl h1
    · rcases h2 with h2 | ⟨rfl, h2⟩
      · exact .inl h2
      · exact .inr ⟨rfl, bytesLess_trans h1 h2⟩
theorem bytesLess_irr : ∀ (x : List UInt8), Op.bytesLess x x = false
  | [] => rfl
  | a :: x => by
    simp only [Op.bytesLess, bytesLess_irr x, Bool.and_false, Bool.or_false, decide_eq_false_iff_not]
    exact UInt8.lt_irrefl a
theorem inc_pairwise {l : List Sh} (h : incB shLt l = true) : l.Pairwise (fun a b => shLt a b = true) := by
  induction l with
  | nil => exact .nil
  | cons x r ih =>
    cases r with
    | nil => exact .cons (by simp) .nil
    | cons y r =>
      rw [incB, Bool.and_eq_true] at h
      have hp := ih h.2
      refine .cons ?_ hp
      intro z hz
      rcases List.mem_cons.1 hz with rfl | hz
      · exact h.1
      · exact bytesLess_trans h.1 ((List.pairwise_cons.1 hp).1 z hz)
theorem inc_names {l : List Sh} (h : incB shLt l = true) : l.Pairwise (fun a b => a.nm ≠ b.nm) :=
  (inc_pairwise h).imp fun {a b} hab e => by
    unfold shLt at hab
    rw [e, bytesLess_irr] at hab
    cases hab
theorem scn_names {l : List Sh} (h : scnB l = true) : l.Pairwise (fun a b => a.nm ≠ b.nm) := by
  rw [scnB] at h
  simp only [Bool.and_eq_true] at h
  exact inc_names h.2.2
end Go.Proofs.YtofbngpckllkoacGreat

namespace Go.Proofs.YtofbngpckllkoacGreat
open Go.RowKit

set_option maxHeartbeats 2000000 in
set_option maxRecDepth 100000 in
theorem rmake_pos_one (a b : ByteArray) (w : World) (ha : a.size ≤ 1100000) (hb : b.size ≤ 1100000) (h0 : intErr (bl a) = 0) (h : intErr (bl b) = 0) (hd0 : dval (body (bl b)) ≠ 0) (hn : isNeg (bl b) = false) (h1 : dval (body (bl b)) / Nat.gcd (dval (body (bl a))) (dval (body (bl b))) = 1) :
    Calls Tryz.prog 81 #[.string a, .string b] w (MakeOk w (ratTxt (!(isNeg (bl a) == false)) (dval (body (bl a))) (dval (body (bl b))))) := by
  have HBo := both_any a b w ha hb
  rw [pairErr_zero h0 h] at HBo
  have HBo := Lib.hid HBo
  have HG := Lib.hid (fun W => rgcd_ok a b W ha hb h0 h)
  have HA := Lib.hid (dval_body_lt h0)
  have HB := Lib.hid (dval_body_lt h)
  have hcb := (intErr_zero h).1
  have hp := canonI_pos hcb
  have hne : bl b ≠ [48] := fun e => hd0 ((canon_zero hcb).1 e)
  have tz := ne_lit hne
  have hbc := bl_cons b hp
  obtain ⟨c, hc⟩ : ∃ c, b[0] = c := ⟨_, rfl⟩
  rw [hc] at hbc
  have t4 : ((c.toNat : Int) == 45) = false := by
    rw [hbc] at hn
    simp [isNeg] at hn
    rw [beq_eq_false_iff_ne]; intro e; apply hn; apply UInt8.toNat_inj.1; show c.toNat = 45; omega
  have HN : Hid (∀ W (g : ByteArray), bl g = istr false (Nat.gcd (dval (body (bl a))) (dval (body (bl b)))) → Calls Tryz.prog 101 #[.string a, .string g] W (DivOk W (sgnv (!(isNeg (bl a) == false)) (dval (body (bl a)) / Nat.gcd (dval (body (bl a))) (dval (body (bl b))))))) := by
    intro W g hg
    have hg0 : Nat.gcd (dval (body (bl a))) (dval (body (bl b))) ≠ 0 := fun e => hd0 (Nat.eq_zero_of_gcd_eq_zero_right e)
    have hglt := gcd_lt (dval_body_lt h0) (dval_body_lt h)
    have hs := istr_size hg hglt
    have := rdivmod_ok a g W ha (by omega) h0 (by rw [hg]; exact intErr_small hglt) (by rw [hg, dval_istr]; exact hg0) (by rw [hg, dval_istr]; exact Nat.gcd_dvd_left _ _)
    rw [hg, dval_istr, isNeg_istr, decide_eq_true hg0, Bool.and_true] at this
    exact this
  have HDn : Hid (∀ W (g : ByteArray), bl g = istr false (Nat.gcd (dval (body (bl a))) (dval (body (bl b)))) → Calls Tryz.prog 101 #[.string b, .string g] W (DivOk W (sgnv false (dval (body (bl b)) / Nat.gcd (dval (body (bl a))) (dval (body (bl b))))))) := by
    intro W g hg
    have hg0 : Nat.gcd (dval (body (bl a))) (dval (body (bl b))) ≠ 0 := fun e => hd0 (Nat.eq_zero_of_gcd_eq_zero_right e)
    have hglt := gcd_lt (dval_body_lt h0) (dval_body_lt h)
    have hs := istr_size hg hglt
    have := rdivmod_ok b g W hb (by omega) h (by rw [hg]; exact intErr_small hglt) (by rw [hg, dval_istr]; exact hg0) (by rw [hg, dval_istr]; exact Nat.gcd_dvd_right _ _)
    rw [hg, dval_istr, isNeg_istr, decide_eq_true hg0, Bool.and_true, hn] at this
    exact this
  have Hlt : Hid (Nat.gcd (dval (body (bl a))) (dval (body (bl b))) < ten 1000) := gcd_lt (dval_body_lt h0) (dval_body_lt h)
  have HL : ratTxt (!(isNeg (bl a) == false)) (dval (body (bl a))) (dval (body (bl b))) = istr (!(isNeg (bl a) == false)) (dval (body (bl a)) / Nat.gcd (dval (body (bl a))) (dval (body (bl b)))) := by rw [ratTxt, if_pos h1]
  rw [HL]
  clear HL
  clear ha hb h0 h hd0 hcb hne hbc hn
  generalize dval (body (bl a)) = N at *
  generalize dval (body (bl b)) = D at *
  generalize isNeg (bl a) = na at *
  generalize Nat.gcd N D = G at *
  obtain ⟨q, hq⟩ : ∃ q, q = N / G := ⟨_, rfl⟩
  obtain ⟨r, hr⟩ : ∃ r, r = D / G := ⟨_, rfl⟩
  have hqlt : q < ten 1000 := by rw [hq]; exact Nat.lt_of_le_of_lt (Nat.div_le_self _ _) HA.out
  have hrlt : r < ten 1000 := by rw [hr]; exact Nat.lt_of_le_of_lt (Nat.div_le_self _ _) HB.out
  rw [← hq] at HN ⊢
  rw [← hr] at HDn h1
  have Hq : Hid (∀ sg, zStr (sgnv sg q) = istr sg q) := fun sg => by rw [← wStr_sgnv]; exact (wErr_zero hqlt sg).2
  have Hr : Hid (∀ sg, zStr (sgnv sg r) = istr sg r) := fun sg => by rw [← wStr_sgnv]; exact (wErr_zero hrlt sg).2
  have H1 := Lib.hid h1
  generalize hsg : (!(na == false)) = sg at HN ⊢
  have Hql := Lib.hid hqlt
  have Hrl := Lib.hid hrlt
  clear hq hr hqlt hrlt HA HB h1 hsg
  go_enter Tryz.func81, Tryz.ntmps81
  go_wp2_with fail
  refine HBo.out.mono ?_
  rintro e w0 ⟨rfl, hb0⟩
  go_wp2_with fail
  refine (HG.out _).mono ?_
  rintro e w1 ⟨g, rfl, hg, hb1⟩
  have hg2 := Lib.hid hg
  have hgs : g.size ≤ 1002 := istr_size hg Hlt.out
  clear hg HG HBo
  go_wp2_with fail
  refine (HN.out _ _ hg2.out).mono ?_
  rintro e w2 ⟨x, x2, rfl, hx, hx2, hb2⟩
  have Hx := Lib.hid (hx.trans (Hq.out sg))
  have hbb := hb0.trans ((hb1.trans (hb2.mono hb1.size)).mono hb0.size)
  clear hx hx2 hb0 hb1 hb2
  go_wp2_with fail
  refine (HDn.out _ _ hg2.out).mono ?_
  rintro e w3 ⟨y, y2, rfl, hy, hy2, hb3⟩
  have hyy := hy.trans (Hr.out false)
  have hbz := hbb.trans (hb3.mono hbb.size)
  have Hy := Lib.hid hyy
  have ey : y = ⟨#[49]⟩ := eq_lit (by rw [hyy, H1.out]; decide)
  subst ey
  clear hy hy2 hyy hbb hb3 HN HDn
  go_wp2
  go_ret2
  exact ⟨x, rfl, Hx.out, hbz⟩

set_option maxHeartbeats 2000000 in
set_option maxRecDepth 100000 in
theorem rmake_pos_frac (a b : ByteArray) (w : World) (ha : a.size ≤ 1100000) (hb : b.size ≤ 1100000) (h0 : intErr (bl a) = 0) (h : intErr (bl b) = 0) (hd0 : dval (body (bl b)) ≠ 0) (hn : isNeg (bl b) = false) (h1 : dval (body (bl b)) / Nat.gcd (dval (body (bl a))) (dval (body (bl b))) ≠ 1) :
    Calls Tryz.prog 81 #[.string a, .string b] w (MakeOk w (ratTxt (!(isNeg (bl a) == false)) (dval (body (bl a))) (dval (body (bl b))))) := by
  have HBo := both_any a b w ha hb
  rw [pairErr_zero h0 h] at HBo
  have HBo := Lib.hid HBo
  have HG := Lib.hid (fun W => rgcd_ok a b W ha hb h0 h)
  have HA := Lib.hid (dval_body_lt h0)
  have HB := Lib.hid (dval_body_lt h)
  have hcb := (intErr_zero h).1
  have hp := canonI_pos hcb
  have hne : bl b ≠ [48] := fun e => hd0 ((canon_zero hcb).1 e)
  have tz := ne_lit hne
  have hbc := bl_cons b hp
  obtain ⟨c, hc⟩ : ∃ c, b[0] = c := ⟨_, rfl⟩
  rw [hc] at hbc
  have t4 : ((c.toNat : Int) == 45) = false := by
    rw [hbc] at hn
    simp [isNeg] at hn
    rw [beq_eq_false_iff_ne]; intro e; apply hn; apply UInt8.toNat_inj.1; show c.toNat = 45; omega
  have HN : Hid (∀ W (g : ByteArray), bl g = istr false (Nat.gcd (dval (body (bl a))) (dval (body (bl b)))) → Calls Tryz.prog 101 #[.string a, .string g] W (DivOk W (sgnv (!(isNeg (bl a) == false)) (dval (body (bl a)) / Nat.gcd (dval (body (bl a))) (dval (body (bl b))))))) := by
    intro W g hg
    have hg0 : Nat.gcd (dval (body (bl a))) (dval (body (bl b))) ≠ 0 := fun e => hd0 (Nat.eq_zero_of_gcd_eq_zero_right e)
    have hglt := gcd_lt (dval_body_lt h0) (dval_body_lt h)
    have hs := istr_size hg hglt
    have := rdivmod_ok a g W ha (by omega) h0 (by rw [hg]; exact intErr_small hglt) (by rw [hg, dval_istr]; exact hg0) (by rw [hg, dval_istr]; exact Nat.gcd_dvd_left _ _)
    rw [hg, dval_istr, isNeg_istr, decide_eq_true hg0, Bool.and_true] at this
    exact this
  have HDn : Hid (∀ W (g : ByteArray), bl g = istr false (Nat.gcd (dval (body (bl a))) (dval (body (bl b)))) → Calls Tryz.prog 101 #[.string b, .string g] W (DivOk W (sgnv false (dval (body (bl b)) / Nat.gcd (dval (body (bl a))) (dval (body (bl b))))))) := by
    intro W g hg
    have hg0 : Nat.gcd (dval (body (bl a))) (dval (body (bl b))) ≠ 0 := fun e => hd0 (Nat.eq_zero_of_gcd_eq_zero_right e)
    have hglt := gcd_lt (dval_body_lt h0) (dval_body_lt h)
    have hs := istr_size hg hglt
    have := rdivmod_ok b g W hb (by omega) h (by rw [hg]; exact intErr_small hglt) (by rw [hg, dval_istr]; exact hg0) (by rw [hg, dval_istr]; exact Nat.gcd_dvd_right _ _)
    rw [hg, dval_istr, isNeg_istr, decide_eq_true hg0, Bool.and_true, hn] at this
    exact this
  have Hlt : Hid (Nat.gcd (dval (body (bl a))) (dval (body (bl b))) < ten 1000) := gcd_lt (dval_body_lt h0) (dval_body_lt h)
  have HL : ratTxt (!(isNeg (bl a) == false)) (dval (body (bl a))) (dval (body (bl b))) = istr (!(isNeg (bl a) == false)) (dval (body (bl a)) / Nat.gcd (dval (body (bl a))) (dval (body (bl b)))) ++ [47] ++ istr false (dval (body (bl b)) / Nat.gcd (dval (body (bl a))) (dval (body (bl b)))) := by rw [ratTxt, if_neg h1]
  rw [HL]
  clear HL
  clear ha hb h0 h hd0 hcb hne hbc hn
  generalize dval (body (bl a)) = N at *
  generalize dval (body (bl b)) = D at *
  generalize isNeg (bl a) = na at *
  generalize Nat.gcd N D = G at *
  obtain ⟨q, hq⟩ : ∃ q, q = N / G := ⟨_, rfl⟩
  obtain ⟨r, hr⟩ : ∃ r, r = D / G := ⟨_, rfl⟩
  have hqlt : q < ten 1000 := by rw [hq]; exact Nat.lt_of_le_of_lt (Nat.div_le_self _ _) HA.out
  have hrlt : r < ten 1000 := by rw [hr]; exact Nat.lt_of_le_of_lt (Nat.div_le_self _ _) HB.out
  rw [← hq] at HN ⊢
  rw [← hr] at HDn h1 ⊢
  have Hq : Hid (∀ sg, zStr (sgnv sg q) = istr sg q) := fun sg => by rw [← wStr_sgnv]; exact (wErr_zero hqlt sg).2
  have Hr : Hid (∀ sg, zStr (sgnv sg r) = istr sg r) := fun sg => by rw [← wStr_sgnv]; exact (wErr_zero hrlt sg).2
  have H1 := Lib.hid h1
  generalize hsg : (!(na == false)) = sg at HN ⊢
  have Hql := Lib.hid hqlt
  have Hrl := Lib.hid hrlt
  clear hq hr hqlt hrlt HA HB h1 hsg
  go_enter Tryz.func81, Tryz.ntmps81
  go_wp2_with fail
  refine HBo.out.mono ?_
  rintro e w0 ⟨rfl, hb0⟩
  go_wp2_with fail
  refine (HG.out _).mono ?_
  rintro e w1 ⟨g, rfl, hg, hb1⟩
  have hg2 := Lib.hid hg
  have hgs : g.size ≤ 1002 := istr_size hg Hlt.out
  clear hg HG HBo
  go_wp2_with fail
  refine (HN.out _ _ hg2.out).mono ?_
  rintro e w2 ⟨x, x2, rfl, hx, hx2, hb2⟩
  have Hx := Lib.hid (hx.trans (Hq.out sg))
  have hbb := hb0.trans ((hb1.trans (hb2.mono hb1.size)).mono hb0.size)
  clear hx hx2 hb0 hb1 hb2
  go_wp2_with fail
  refine (HDn.out _ _ hg2.out).mono ?_
  rintro e w3 ⟨y, y2, rfl, hy, hy2, hb3⟩
  have hyy := hy.trans (Hr.out false)
  have hbz := hbb.trans (hb3.mono hbb.size)
  have Hy := Lib.hid hyy
  have ey : (y.toList == [49]) = false := ne_lit (fun e => H1.out ((istr_one r).1 (by rw [← hyy]; exact e)))
  have hxs : x.size ≤ 1002 := istr_size Hx.out Hql.out
  have hys : y.size ≤ 1002 := istr_size hyy Hrl.out
  clear hy hy2 hyy hbb hb3 HN HDn
  go_wp2
  go_ret2
  exact ⟨_, rfl, by rw [bl_append, bl_append, Hx.out, Hy.out]; rfl, hbz⟩

theorem rmake_ok (a b : ByteArray) (w : World) (ha : a.size ≤ 1100000) (hb : b.size ≤ 1100000) (h0 : intErr (bl a) = 0) (h : intErr (bl b) = 0) (hd0 : dval (body (bl b)) ≠ 0) (hn : isNeg (bl b) = false) :
    Calls Tryz.prog 81 #[.string a, .string b] w (MakeOk w (ratTxt (!(isNeg (bl a) == isNeg (bl b))) (dval (body (bl a))) (dval (body (bl b))))) := by
  rw [hn]
  by_cases h1 : dval (body (bl b)) / Nat.gcd (dval (body (bl a))) (dval (body (bl b))) = 1
  · exact rmake_pos_one a b w ha hb h0 h hd0 hn h1
  · exact rmake_pos_frac a b w ha hb h0 h hd0 hn h1
end Go.Proofs.YtofbngpckllkoacGreat

namespace Go.Proofs.YtofbngpckllkoacGreat
open Go.RowKit

set_option maxHeartbeats 2000000 in
set_option maxRecDepth 100000 in
theorem rmake_neg_one (a b : ByteArray) (w : World) (ha : a.size ≤ 1100000) (hb : b.size ≤ 1100000) (h0 : intErr (bl a) = 0) (h : intErr (bl b) = 0) (hd0 : dval (body (bl b)) ≠ 0) (hn : isNeg (bl b) = true) (h1 : dval (body (bl b)) / Nat.gcd (dval (body (bl a))) (dval (body (bl b))) = 1) :
    Calls Tryz.prog 81 #[.string a, .string b] w (MakeOk w (ratTxt (isNeg (bl a)  == false) (dval (body (bl a))) (dval (body (bl b))))) := by
  have HBo := both_any a b w ha hb
  rw [pairErr_zero h0 h] at HBo
  have HBo := Lib.hid HBo
  have HNa := Lib.hid (fun W => rnegi_ok a W ha h0)
  have HNb := Lib.hid (fun W => rnegi_ok b W hb h)
  rw [hn] at HNb
  have hla := dval_body_lt h0
  have hlb := dval_body_lt h
  have HA := Lib.hid hla
  have HB := Lib.hid hlb
  have hcb := (intErr_zero h).1
  have hp := canonI_pos hcb
  have hne : bl b ≠ [48] := fun e => hd0 ((canon_zero hcb).1 e)
  have tz := ne_lit hne
  have hbc := bl_cons b hp
  obtain ⟨c, hc⟩ : ∃ c, b[0] = c := ⟨_, rfl⟩
  rw [hc] at hbc
  have t4 : ((c.toNat : Int) == 45) = true := by
    rw [hbc] at hn
    simp [isNeg] at hn
    rw [hn]; rfl
  have hg0 : Nat.gcd (dval (body (bl a))) (dval (body (bl b))) ≠ 0 := fun e => hd0 (Nat.eq_zero_of_gcd_eq_zero_right e)
  have hglt : Nat.gcd (dval (body (bl a))) (dval (body (bl b))) < ten 1000 := gcd_lt hla hlb
  have hsg : (isNeg (bl a) == false) = (!isNeg (bl a)) := by cases isNeg (bl a) <;> rfl
  have hng : isNeg (bl a) = false ∨ dval (body (bl a)) ≠ 0 := by
    rcases Nat.eq_zero_or_pos (dval (body (bl a))) with k | k
    · left
      have k2 := (canon_zero (intErr_zero h0).1).2 k
      rw [k2]; rfl
    · exact .inr (by omega)
  have HL : ratTxt (isNeg (bl a) == false) (dval (body (bl a))) (dval (body (bl b))) = istr (!isNeg (bl a)) (dval (body (bl a)) / Nat.gcd (dval (body (bl a))) (dval (body (bl b)))) := by rw [hsg, ratTxt, if_pos h1]
  rw [HL]
  have HGc : Hid (∀ W (x y : ByteArray), bl x = istr (!isNeg (bl a)) (dval (body (bl a))) → bl y = istr (!true) (dval (body (bl b))) → Calls Tryz.prog 62 #[.string x, .string y] W (GcdOk W (Nat.gcd (dval (body (bl a))) (dval (body (bl b)))))) := by
    intro W x y hx hy
    have sx := istr_size hx hla
    have sy := istr_size hy hlb
    have k := rgcd_ok x y W (by omega) (by omega) (by rw [hx]; exact intErr_small hla) (by rw [hy]; exact intErr_small hlb)
    rw [hx, hy, dval_istr, dval_istr] at k
    exact k
  have HN : Hid (∀ W (x g : ByteArray), bl x = istr (!isNeg (bl a)) (dval (body (bl a))) → bl g = istr false (Nat.gcd (dval (body (bl a))) (dval (body (bl b)))) → Calls Tryz.prog 101 #[.string x, .string g] W (DivOk W (sgnv (!isNeg (bl a)) (dval (body (bl a)) / Nat.gcd (dval (body (bl a))) (dval (body (bl b))))))) := by
    intro W x g hx hg
    have hs := istr_size hg hglt
    have sx := istr_size hx hla
    have k := rdivmod_ok x g W (by omega) (by omega) (by rw [hx]; exact intErr_small hla) (by rw [hg]; exact intErr_small hglt) (by rw [hg, dval_istr]; exact hg0) (by rw [hg, dval_istr, hx, dval_istr]; exact Nat.gcd_dvd_left _ _)
    rw [hg, hx, dval_istr, dval_istr, isNeg_istr, isNeg_istr, Bool.false_and] at k
    have e : (!((!isNeg (bl a) && decide (dval (body (bl a)) ≠ 0)) == false)) = (!isNeg (bl a) && decide (dval (body (bl a)) ≠ 0)) := by cases (!isNeg (bl a) && decide (dval (body (bl a)) ≠ 0)) <;> rfl
    rw [e] at k
    by_cases hz : dval (body (bl a)) = 0
    · have e2 : ∀ sg, sgnv sg (dval (body (bl a)) / Nat.gcd (dval (body (bl a))) (dval (body (bl b)))) = 0 := fun sg => by rw [hz, Nat.zero_div]; cases sg <;> rfl
      rw [e2] at k ⊢
      exact k
    · rw [decide_eq_true hz, Bool.and_true] at k
      exact k
  have HDn : Hid (∀ W (y g : ByteArray), bl y = istr (!true) (dval (body (bl b))) → bl g = istr false (Nat.gcd (dval (body (bl a))) (dval (body (bl b)))) → Calls Tryz.prog 101 #[.string y, .string g] W (DivOk W (sgnv false (dval (body (bl b)) / Nat.gcd (dval (body (bl a))) (dval (body (bl b))))))) := by
    intro W y g hy hg
    have hs := istr_size hg hglt
    have sy := istr_size hy hlb
    have k := rdivmod_ok y g W (by omega) (by omega) (by rw [hy]; exact intErr_small hlb) (by rw [hg]; exact intErr_small hglt) (by rw [hg, dval_istr]; exact hg0) (by rw [hg, dval_istr, hy, dval_istr]; exact Nat.gcd_dvd_right _ _)
    rw [hg, hy, dval_istr, dval_istr, isNeg_istr, isNeg_istr] at k
    exact k
  have Hlt := Lib.hid hglt
  clear HL hsg hng hla hlb hglt hg0
  clear ha hb h0 h hd0 hcb hne hbc hn
  generalize dval (body (bl a)) = N at *
  generalize dval (body (bl b)) = D at *
  generalize isNeg (bl a) = na at *
  generalize Nat.gcd N D = G at *
  obtain ⟨q, hq⟩ : ∃ q, q = N / G := ⟨_, rfl⟩
  obtain ⟨r, hr⟩ : ∃ r, r = D / G := ⟨_, rfl⟩
  have hqlt : q < ten 1000 := by rw [hq]; exact Nat.lt_of_le_of_lt (Nat.div_le_self _ _) HA.out
  have hrlt : r < ten 1000 := by rw [hr]; exact Nat.lt_of_le_of_lt (Nat.div_le_self _ _) HB.out
  rw [← hq] at HN ⊢
  rw [← hr] at HDn h1
  have Hq : Hid (∀ sg, zStr (sgnv sg q) = istr sg q) := fun sg => by rw [← wStr_sgnv]; exact (wErr_zero hqlt sg).2
  have Hr : Hid (∀ sg, zStr (sgnv sg r) = istr sg r) := fun sg => by rw [← wStr_sgnv]; exact (wErr_zero hrlt sg).2
  have H1 := Lib.hid h1
  have Hql := Lib.hid hqlt
  have Hrl := Lib.hid hrlt
  clear hq hr hqlt hrlt HA HB h1
  go_enter Tryz.func81, Tryz.ntmps81
  go_wp2_with fail
  refine HBo.out.mono ?_
  rintro e w0 ⟨rfl, hb0⟩
  go_wp2_with fail
  refine (HNa.out _).mono ?_
  rintro e wa ⟨x0, rfl, hx0, hba⟩
  go_wp2_with fail
  refine (HNb.out _).mono ?_
  rintro e wb ⟨y0, rfl, hy0, hbb⟩
  have hb0b := hb0.trans ((hba.trans (hbb.mono hba.size)).mono hb0.size)
  have HG := Lib.hid (fun W => HGc.out W x0 y0 hx0 hy0)
  have HN2 := Lib.hid (fun W g hg => HN.out W x0 g hx0 hg)
  have HD2 := Lib.hid (fun W g hg => HDn.out W y0 g hy0 hg)
  clear hb0 hba hbb hx0 hy0 HGc HN HDn HNa HNb HBo
  go_wp2_with fail
  refine (HG.out _).mono ?_
  rintro e w1 ⟨g, rfl, hg, hb1⟩
  have hg2 := Lib.hid hg
  have hgs : g.size ≤ 1002 := istr_size hg Hlt.out
  clear hg HG
  go_wp2_with fail
  refine (HN2.out _ _ hg2.out).mono ?_
  rintro e w2 ⟨x, x2, rfl, hx, hx2, hb2⟩
  have Hx := Lib.hid (hx.trans (Hq.out (!na)))
  have hbb := hb0b.trans ((hb1.trans (hb2.mono hb1.size)).mono hb0b.size)
  clear hx hx2 hb0b hb1 hb2
  go_wp2_with fail
  refine (HD2.out _ _ hg2.out).mono ?_
  rintro e w3 ⟨y, y2, rfl, hy, hy2, hb3⟩
  have hyy := hy.trans (Hr.out false)
  have hbz := hbb.trans (hb3.mono hbb.size)
  have Hy := Lib.hid hyy
  have ey : y = ⟨#[49]⟩ := eq_lit (by rw [hyy, H1.out]; decide)
  subst ey
  skip
  clear hy hy2 hyy hbb hb3 HN2 HD2
  go_wp2
  go_ret2
  exact ⟨x, rfl, Hx.out, hbz⟩

set_option maxHeartbeats 2000000 in
set_option maxRecDepth 100000 in
theorem rmake_neg_frac (a b : ByteArray) (w : World) (ha : a.size ≤ 1100000) (hb : b.size ≤ 1100000) (h0 : intErr (bl a) = 0) (h : intErr (bl b) = 0) (hd0 : dval (body (bl b)) ≠ 0) (hn : isNeg (bl b) = true) (h1 : dval (body (bl b)) / Nat.gcd (dval (body (bl a))) (dval (body (bl b))) ≠ 1) :
    Calls Tryz.prog 81 #[.string a, .string b] w (MakeOk w (ratTxt (isNeg (bl a)  == false) (dval (body (bl a))) (dval (body (bl b))))) := by
  have HBo := both_any a b w ha hb
  rw [pairErr_zero h0 h] at HBo
  have HBo := Lib.hid HBo
  have HNa := Lib.hid (fun W => rnegi_ok a W ha h0)
  have HNb := Lib.hid (fun W => rnegi_ok b W hb h)
  rw [hn] at HNb
  have hla := dval_body_lt h0
  have hlb := dval_body_lt h
  have HA := Lib.hid hla
  have HB := Lib.hid hlb
  have hcb := (intErr_zero h).1
  have hp := canonI_pos hcb
  have hne : bl b ≠ [48] := fun e => hd0 ((canon_zero hcb).1 e)
  have tz := ne_lit hne
  have hbc := bl_cons b hp
  obtain ⟨c, hc⟩ : ∃ c, b[0] = c := ⟨_, rfl⟩
  rw [hc] at hbc
  have t4 : ((c.toNat : Int) == 45) = true := by
    rw [hbc] at hn
    simp [isNeg] at hn
    rw [hn]; rfl
  have hg0 : Nat.gcd (dval (body (bl a))) (dval (body (bl b))) ≠ 0 := fun e => hd0 (Nat.eq_zero_of_gcd_eq_zero_right e)
  have hglt : Nat.gcd (dval (body (bl a))) (dval (body (bl b))) < ten 1000 := gcd_lt hla hlb
  have hsg : (isNeg (bl a) == false) = (!isNeg (bl a)) := by cases isNeg (bl a) <;> rfl
  have hng : isNeg (bl a) = false ∨ dval (body (bl a)) ≠ 0 := by
    rcases Nat.eq_zero_or_pos (dval (body (bl a))) with k | k
    · left
      have k2 := (canon_zero (intErr_zero h0).1).2 k
      rw [k2]; rfl
    · exact .inr (by omega)
  have HL : ratTxt (isNeg (bl a) == false) (dval (body (bl a))) (dval (body (bl b))) = istr (!isNeg (bl a)) (dval (body (bl a)) / Nat.gcd (dval (body (bl a))) (dval (body (bl b)))) ++ [47] ++ istr false (dval (body (bl b)) / Nat.gcd (dval (body (bl a))) (dval (body (bl b)))) := by rw [hsg, ratTxt, if_neg h1]
  rw [HL]
  have HGc : Hid (∀ W (x y : ByteArray), bl x = istr (!isNeg (bl a)) (dval (body (bl a))) → bl y = istr (!true) (dval (body (bl b))) → Calls Tryz.prog 62 #[.string x, .string y] W (GcdOk W (Nat.gcd (dval (body (bl a))) (dval (body (bl b)))))) := by
    intro W x y hx hy
    have sx := istr_size hx hla
    have sy := istr_size hy hlb
    have k := rgcd_ok x y W (by omega) (by omega) (by rw [hx]; exact intErr_small hla) (by rw [hy]; exact intErr_small hlb)
    rw [hx, hy, dval_istr, dval_istr] at k
    exact k
  have HN : Hid (∀ W (x g : ByteArray), bl x = istr (!isNeg (bl a)) (dval (body (bl a))) → bl g = istr false (Nat.gcd (dval (body (bl a))) (dval (body (bl b)))) → Calls Tryz.prog 101 #[.string x, .string g] W (DivOk W (sgnv (!isNeg (bl a)) (dval (body (bl a)) / Nat.gcd (dval (body (bl a))) (dval (body (bl b))))))) := by
    intro W x g hx hg
    have hs := istr_size hg hglt
    have sx := istr_size hx hla
    have k := rdivmod_ok x g W (by omega) (by omega) (by rw [hx]; exact intErr_small hla) (by rw [hg]; exact intErr_small hglt) (by rw [hg, dval_istr]; exact hg0) (by rw [hg, dval_istr, hx, dval_istr]; exact Nat.gcd_dvd_left _ _)
    rw [hg, hx, dval_istr, dval_istr, isNeg_istr, isNeg_istr, Bool.false_and] at k
    have e : (!((!isNeg (bl a) && decide (dval (body (bl a)) ≠ 0)) == false)) = (!isNeg (bl a) && decide (dval (body (bl a)) ≠ 0)) := by cases (!isNeg (bl a) && decide (dval (body (bl a)) ≠ 0)) <;> rfl
    rw [e] at k
    by_cases hz : dval (body (bl a)) = 0
    · have e2 : ∀ sg, sgnv sg (dval (body (bl a)) / Nat.gcd (dval (body (bl a))) (dval (body (bl b)))) = 0 := fun sg => by rw [hz, Nat.zero_div]; cases sg <;> rfl
      rw [e2] at k ⊢
      exact k
    · rw [decide_eq_true hz, Bool.and_true] at k
      exact k
  have HDn : Hid (∀ W (y g : ByteArray), bl y = istr (!true) (dval (body (bl b))) → bl g = istr false (Nat.gcd (dval (body (bl a))) (dval (body (bl b)))) → Calls Tryz.prog 101 #[.string y, .string g] W (DivOk W (sgnv false (dval (body (bl b)) / Nat.gcd (dval (body (bl a))) (dval (body (bl b))))))) := by
    intro W y g hy hg
    have hs := istr_size hg hglt
    have sy := istr_size hy hlb
    have k := rdivmod_ok y g W (by omega) (by omega) (by rw [hy]; exact intErr_small hlb) (by rw [hg]; exact intErr_small hglt) (by rw [hg, dval_istr]; exact hg0) (by rw [hg, dval_istr, hy, dval_istr]; exact Nat.gcd_dvd_right _ _)
    rw [hg, hy, dval_istr, dval_istr, isNeg_istr, isNeg_istr] at k
    exact k
  have Hlt := Lib.hid hglt
  clear HL hsg hng hla hlb hglt hg0
  clear ha hb h0 h hd0 hcb hne hbc hn
  generalize dval (body (bl a)) = N at *
  generalize dval (body (bl b)) = D at *
  generalize isNeg (bl a) = na at *
  generalize Nat.gcd N D = G at *
  obtain ⟨q, hq⟩ : ∃ q, q = N / G := ⟨_, rfl⟩
  obtain ⟨r, hr⟩ : ∃ r, r = D / G := ⟨_, rfl⟩
  have hqlt : q < ten 1000 := by rw [hq]; exact Nat.lt_of_le_of_lt (Nat.div_le_self _ _) HA.out
  have hrlt : r < ten 1000 := by rw [hr]; exact Nat.lt_of_le_of_lt (Nat.div_le_self _ _) HB.out
  rw [← hq] at HN ⊢
  rw [← hr] at HDn h1 ⊢
  have Hq : Hid (∀ sg, zStr (sgnv sg q) = istr sg q) := fun sg => by rw [← wStr_sgnv]; exact (wErr_zero hqlt sg).2
  have Hr : Hid (∀ sg, zStr (sgnv sg r) = istr sg r) := fun sg => by rw [← wStr_sgnv]; exact (wErr_zero hrlt sg).2
  have H1 := Lib.hid h1
  have Hql := Lib.hid hqlt
  have Hrl := Lib.hid hrlt
  clear hq hr hqlt hrlt HA HB h1
  go_enter Tryz.func81, Tryz.ntmps81
  go_wp2_with fail
  refine HBo.out.mono ?_
  rintro e w0 ⟨rfl, hb0⟩
  go_wp2_with fail
  refine (HNa.out _).mono ?_
  rintro e wa ⟨x0, rfl, hx0, hba⟩
  go_wp2_with fail
  refine (HNb.out _).mono ?_
  rintro e wb ⟨y0, rfl, hy0, hbb⟩
  have hb0b := hb0.trans ((hba.trans (hbb.mono hba.size)).mono hb0.size)
  have HG := Lib.hid (fun W => HGc.out W x0 y0 hx0 hy0)
  have HN2 := Lib.hid (fun W g hg => HN.out W x0 g hx0 hg)
  have HD2 := Lib.hid (fun W g hg => HDn.out W y0 g hy0 hg)
  clear hb0 hba hbb hx0 hy0 HGc HN HDn HNa HNb HBo
  go_wp2_with fail
  refine (HG.out _).mono ?_
  rintro e w1 ⟨g, rfl, hg, hb1⟩
  have hg2 := Lib.hid hg
  have hgs : g.size ≤ 1002 := istr_size hg Hlt.out
  clear hg HG
  go_wp2_with fail
  refine (HN2.out _ _ hg2.out).mono ?_
  rintro e w2 ⟨x, x2, rfl, hx, hx2, hb2⟩
  have Hx := Lib.hid (hx.trans (Hq.out (!na)))
  have hbb := hb0b.trans ((hb1.trans (hb2.mono hb1.size)).mono hb0b.size)
  clear hx hx2 hb0b hb1 hb2
  go_wp2_with fail
  refine (HD2.out _ _ hg2.out).mono ?_
  rintro e w3 ⟨y, y2, rfl, hy, hy2, hb3⟩
  have hyy := hy.trans (Hr.out false)
  have hbz := hbb.trans (hb3.mono hbb.size)
  have Hy := Lib.hid hyy
  have ey : (y.toList == [49]) = false := ne_lit (fun e => H1.out ((istr_one r).1 (by rw [← hyy]; exact e)))
  have hxs : x.size ≤ 1002 := istr_size Hx.out Hql.out
  have hys : y.size ≤ 1002 := istr_size hyy Hrl.out
  clear hy hy2 hyy hbb hb3 HN2 HD2
  go_wp2
  go_ret2
  exact ⟨_, rfl, by rw [bl_append, bl_append, Hx.out, Hy.out]; rfl, hbz⟩

theorem rmake_all (a b : ByteArray) (w : World) (ha : a.size ≤ 1100000) (hb : b.size ≤ 1100000) (h0 : intErr (bl a) = 0) (h : intErr (bl b) = 0) (hd0 : dval (body (bl b)) ≠ 0) :
    Calls Tryz.prog 81 #[.string a, .string b] w (MakeOk w (ratTxt (!(isNeg (bl a) == isNeg (bl b))) (dval (body (bl a))) (dval (body (bl b))))) := by
  cases hn : isNeg (bl b)
  · have k := rmake_ok a b w ha hb h0 h hd0 hn
    rw [hn] at k
    exact k
  · have e : (!(isNeg (bl a) == true)) = (isNeg (bl a) == false) := by cases isNeg (bl a) <;> rfl
    rw [e]
    by_cases h1 : dval (body (bl b)) / Nat.gcd (dval (body (bl a))) (dval (body (bl b))) = 1
    · exact rmake_neg_one a b w ha hb h0 h hd0 hn h1
    · exact rmake_neg_frac a b w ha hb h0 h hd0 hn h1
end Go.Proofs.YtofbngpckllkoacGreat
