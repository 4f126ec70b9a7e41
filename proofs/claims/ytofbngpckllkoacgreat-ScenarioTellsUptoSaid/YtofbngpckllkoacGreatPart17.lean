/-
  integer.Of and rational.Of at 0, 1 and -1.  Printed by tools/genof.py. scenario.Check.  Printed by tools/genscn.py. rational.Mul.  Printed by tools/genratmd.py.
-/
import Derived.Test.YtofbngpckllkoacGreatPart03
import Derived.Test.YtofbngpckllkoacGreatPart15
import Derived.Test.YtofbngpckllkoacGreatPart12
namespace Go.Proofs.YtofbngpckllkoacGreat
open Go.RowKit

def OfPost (w : World) (t : ByteArray) (e : Ending) (w' : World) : Prop := e = .returned (.string t) ∧ Below w.heap.size w w'

set_option maxHeartbeats 1000000 in
set_option maxRecDepth 100000 in
theorem iof_zero (w : World) : Calls Tryz.prog 50 #[.int .i64 0] w (OfPost w ⟨#[48]⟩) := by
  obtain ⟨i0, hi, hz0, hz1, hz2⟩ := info_parts Tryz.info_u8
  go_enter Tryz.func50, Tryz.ntmps50
  go_wp2_with fail
  go_loopw [0, 3] (fun nv bv wr => nv = .int .i64 0 ∧ bv = .slice none 0 0 ∧ wr = w) (fun _ _ _ => 0)
  case atStart => exact ⟨rfl, rfl, rfl⟩
  case round =>
    obtain ⟨rfl, rfl, rfl⟩ := hrel
    have hown0 : wr.ownsRow wr.heap.size 5 1 (.slice none 0 0) 0 [] := World.ownsRow_nil _ _ _ _
    go_wp2_with (at_builtin; refine wpList_append_own _ rfl _ _ 129 rfl wr.heap.size 5 i0 (.int .u8 0) 1 1 Tryz.ul_bytes hi hz0 hz1 hz2 rfl (by decide) _ _ _ rfl (hown0.alloc _) ⟨wr.heap.size, 0, none⟩ 1 1 [_] rfl rfl (cell_one_new _ _ _) (int_oneCell _ _) ?d1 ?d2 ?d3 ?_)
    case d1 => unfold maxLen; omega
    case d2 => omega
    case d3 => simp
    intro v2 w2 hown2 hgrow2 _
    have hbel2 : Below wr.heap.size wr w2 := ((Below.refl _ _).alloc (Nat.le_refl _) _).grown hgrow2 (by simp) (fun k hk => by cases hk)
    obtain ⟨g2, cap2, rfl, hg2, _, _⟩ := own_shape hown2 (by omega)
    clear hgrow2 hown0
    have ho : w2.ownsRow wr.heap.size 5 1 (.slice (some ⟨g2, 0, none⟩) 1 cap2) 1 (nums .u8 [48]) := hown2
    have C := Lib.hid (reverse_any g2 cap2 wr.heap.size [48] w2 ho (by decide))
    clear hown2 ho
    go_wp2_with fail
    refine C.out.mono ?_
    rintro e w5 ⟨rfl, hr, hg⟩
    have hcv := run_convert_bytes_back (P := Tryz.prog) w5 129 88 5 ⟨g2, 0, none⟩ cap2 [48] Tryz.ul_bytes Tryz.ul_u8 Tryz.ul_Int
      (cells_bytes (ns := [48]) hr rfl (by decide))
    simp only [List.length_cons, List.length_nil, Nat.reduceAdd] at hcv
    have hbelz : Below wr.heap.size wr w5 := hbel2.grown hg hbel2.size (fun k hk => by cases hk; exact hg2)
    clear hr hg C
    go_wp2
    go_ret
    exact ⟨rfl, hbelz⟩

set_option maxHeartbeats 1000000 in
set_option maxRecDepth 100000 in
theorem rof_zero (w : World) : Calls Tryz.prog 25 #[.int .i64 0] w (OfPost w ⟨#[48]⟩) := by
  go_enter Tryz.func25, Tryz.ntmps25
  go_wp2_with fail
  refine (iof_zero w).mono ?_
  rintro e w1 ⟨rfl, hb⟩
  go_wp2
  go_ret
  exact ⟨rfl, hb⟩

set_option maxHeartbeats 1000000 in
set_option maxRecDepth 100000 in
theorem iof_one (w : World) : Calls Tryz.prog 50 #[.int .i64 1] w (OfPost w ⟨#[49]⟩) := by
  obtain ⟨i0, hi, hz0, hz1, hz2⟩ := info_parts Tryz.info_u8
  go_enter Tryz.func50, Tryz.ntmps50
  go_wp2_with fail
  go_loopw [0, 3] (fun nv bv wr => nv = .int .i64 1 ∧ bv = .slice none 0 0 ∧ wr = w) (fun _ _ _ => 0)
  case atStart => exact ⟨rfl, rfl, rfl⟩
  case round =>
    obtain ⟨rfl, rfl, rfl⟩ := hrel
    have hown0 : wr.ownsRow wr.heap.size 5 1 (.slice none 0 0) 0 [] := World.ownsRow_nil _ _ _ _
    go_wp2_with (at_builtin; refine wpList_append_own _ rfl _ _ 129 rfl wr.heap.size 5 i0 (.int .u8 0) 1 1 Tryz.ul_bytes hi hz0 hz1 hz2 rfl (by decide) _ _ _ rfl (hown0.alloc _) ⟨wr.heap.size, 0, none⟩ 1 1 [_] rfl rfl (cell_one_new _ _ _) (int_oneCell _ _) ?d1 ?d2 ?d3 ?_)
    case d1 => unfold maxLen; omega
    case d2 => omega
    case d3 => simp
    intro v2 w2 hown2 hgrow2 _
    have hbel2 : Below wr.heap.size wr w2 := ((Below.refl _ _).alloc (Nat.le_refl _) _).grown hgrow2 (by simp) (fun k hk => by cases hk)
    obtain ⟨g2, cap2, rfl, hg2, _, _⟩ := own_shape hown2 (by omega)
    clear hgrow2 hown0
    have ho : w2.ownsRow wr.heap.size 5 1 (.slice (some ⟨g2, 0, none⟩) 1 cap2) 1 (nums .u8 [49]) := hown2
    have C := Lib.hid (reverse_any g2 cap2 wr.heap.size [49] w2 ho (by decide))
    clear hown2 ho
    go_wp2_with fail
    refine C.out.mono ?_
    rintro e w5 ⟨rfl, hr, hg⟩
    have hcv := run_convert_bytes_back (P := Tryz.prog) w5 129 88 5 ⟨g2, 0, none⟩ cap2 [49] Tryz.ul_bytes Tryz.ul_u8 Tryz.ul_Int
      (cells_bytes (ns := [49]) hr rfl (by decide))
    simp only [List.length_cons, List.length_nil, Nat.reduceAdd] at hcv
    have hbelz : Below wr.heap.size wr w5 := hbel2.grown hg hbel2.size (fun k hk => by cases hk; exact hg2)
    clear hr hg C
    go_wp2
    go_ret
    exact ⟨rfl, hbelz⟩

set_option maxHeartbeats 1000000 in
set_option maxRecDepth 100000 in
theorem rof_one (w : World) : Calls Tryz.prog 25 #[.int .i64 1] w (OfPost w ⟨#[49]⟩) := by
  go_enter Tryz.func25, Tryz.ntmps25
  go_wp2_with fail
  refine (iof_one w).mono ?_
  rintro e w1 ⟨rfl, hb⟩
  go_wp2
  go_ret
  exact ⟨rfl, hb⟩

set_option maxHeartbeats 1000000 in
set_option maxRecDepth 100000 in
theorem iof_neg (w : World) : Calls Tryz.prog 50 #[.int .i64 (-1)] w (OfPost w ⟨#[45, 49]⟩) := by
  obtain ⟨i0, hi, hz0, hz1, hz2⟩ := info_parts Tryz.info_u8
  go_enter Tryz.func50, Tryz.ntmps50
  go_wp2_with fail
  go_loopw [0, 3] (fun nv bv wr => nv = .int .i64 (-1) ∧ bv = .slice none 0 0 ∧ wr = w) (fun _ _ _ => 0)
  case atStart => exact ⟨rfl, rfl, rfl⟩
  case round =>
    obtain ⟨rfl, rfl, rfl⟩ := hrel
    have hown0 : wr.ownsRow wr.heap.size 5 1 (.slice none 0 0) 0 [] := World.ownsRow_nil _ _ _ _
    go_wp2_with (at_builtin; refine wpList_append_own _ rfl _ _ 129 rfl wr.heap.size 5 i0 (.int .u8 0) 1 1 Tryz.ul_bytes hi hz0 hz1 hz2 rfl (by decide) _ _ _ rfl (hown0.alloc _) ⟨wr.heap.size, 0, none⟩ 1 1 [_] rfl rfl (cell_one_new _ _ _) (int_oneCell _ _) ?d1 ?d2 ?d3 ?_)
    case d1 => unfold maxLen; omega
    case d2 => omega
    case d3 => simp
    intro v2 w2 hown2 hgrow2 _
    have hbel2 : Below wr.heap.size wr w2 := ((Below.refl _ _).alloc (Nat.le_refl _) _).grown hgrow2 (by simp) (fun k hk => by cases hk)
    obtain ⟨g2, cap2, rfl, hg2, _, _⟩ := own_shape hown2 (by omega)
    clear hgrow2 hown0
    go_wp2_with (at_builtin; refine wpList_append_own _ rfl _ _ 129 rfl wr.heap.size 5 i0 (.int .u8 0) 1 1 Tryz.ul_bytes hi hz0 hz1 hz2 rfl (by decide) _ _ _ rfl (hown2.alloc _) ⟨w2.heap.size, 0, none⟩ 1 1 [_] rfl rfl (cell_one_new _ _ _) (int_oneCell _ _) ?d1 ?d2 ?d3 ?_)
    case d1 => unfold maxLen; omega
    case d2 => omega
    case d3 => simp; have := hbel2.size; omega
    intro v3 w3 hown3 hgrow3 _
    have hbel3 : Below wr.heap.size wr w3 := (hbel2.alloc hbel2.size _).grown hgrow3 (by simp; have := hbel2.size; omega) (fun k hk => (hown2.lt k hk).1)
    obtain ⟨g3, cap3, rfl, hg3, _, _⟩ := own_shape hown3 (by omega)
    clear hgrow3 hown2 hbel2
    have ho : w3.ownsRow wr.heap.size 5 1 (.slice (some ⟨g3, 0, none⟩) 2 cap3) 2 (nums .u8 [49, 45]) := hown3
    have C := Lib.hid (reverse_any g3 cap3 wr.heap.size [49, 45] w3 ho (by decide))
    clear hown3 ho
    go_wp2_with fail
    refine C.out.mono ?_
    rintro e w5 ⟨rfl, hr, hg⟩
    have hcv := run_convert_bytes_back (P := Tryz.prog) w5 129 88 5 ⟨g3, 0, none⟩ cap3 [45, 49] Tryz.ul_bytes Tryz.ul_u8 Tryz.ul_Int
      (cells_bytes (ns := [45, 49]) hr rfl (by decide))
    simp only [List.length_cons, List.length_nil, Nat.reduceAdd] at hcv
    have hbelz : Below wr.heap.size wr w5 := hbel3.grown hg hbel3.size (fun k hk => by cases hk; exact hg3)
    clear hr hg C
    go_wp2
    go_ret
    exact ⟨rfl, hbelz⟩

set_option maxHeartbeats 1000000 in
set_option maxRecDepth 100000 in
theorem rof_neg (w : World) : Calls Tryz.prog 25 #[.int .i64 (-1)] w (OfPost w ⟨#[45, 49]⟩) := by
  go_enter Tryz.func25, Tryz.ntmps25
  go_wp2_with fail
  refine (iof_neg w).mono ?_
  rintro e w1 ⟨rfl, hb⟩
  go_wp2
  go_ret
  exact ⟨rfl, hb⟩
end Go.Proofs.YtofbngpckllkoacGreat

namespace Go.Proofs.YtofbngpckllkoacGreat
open Go.RowKit

def scnE (b : Bool) : Int := if b then 0 else 8
set_option maxHeartbeats 8000000 in
set_option maxRecDepth 100000 in
theorem scnChk_any (l : List Sh) (ad : Option Addr) (cap : Nat) (w : World) (_hn : l.length ≤ 1100000) (hr : Rd Sh.cells 4 w ad l) (hs : ∀ f ∈ l, f.small) :
    Calls Tryz.prog 13 #[.agg #[.slice ad l.length cap]] w fun e w' => e = .returned (.int .i64 (scnE (scnB l))) ∧ Below w.heap.size w w' := by
  have HR := Lib.hid hr
  have HS := Lib.hid hs
  clear hr hs
  have hb0 := below_a1 w (.cells #[.slice ad l.length cap] 24)
  by_cases h1 : 100 < l.length
  · have HE := Lib.hid (scnB_long h1)
    have t1 : decide ((100 : Int) < (l.length : Int)) = true := by rw [decide_eq_true_eq]; omega
    clear h1
    rw [HE.out]
    go_enter Tryz.func13, Tryz.ntmps13
    go_wp2
    go_ret
    exact ⟨rfl, hb0⟩
  · have t1 : decide ((100 : Int) < (l.length : Int)) = false := by rw [decide_eq_false_iff_not]; omega
    have HL := Lib.hid h1
    have hl5 : l.length ≤ 100 := by omega
    clear h1
    go_enter Tryz.func13, Tryz.ntmps13
    go_wp2_with fail
    go_loopw [12] (fun i wr => ∃ k : Nat, k ≤ l.length ∧ i = .int .i64 k ∧ Hid ((∀ y ∈ l.take k, shBad y = false) ∧ incB shLt (l.take k) = true) ∧ Below w.heap.size w wr ∧ wr.cell? ⟨w.heap.size, 0, none⟩ = some (.slice ad l.length cap)) (fun i _ => l.length - (intOf i).toNat)
    case atStart => exact ⟨0, Nat.zero_le _, rfl, Lib.hid ⟨by simp, rfl⟩, hb0, by go_simp⟩
    case round =>
      clear hb0
      obtain ⟨k, hk, rfl, HI, hbel, q0⟩ := hrel
      by_cases hlt : k < l.length
      · obtain ⟨f, hf⟩ : ∃ f, l[k]? = some f := ⟨_, List.getElem?_eq_getElem hlt⟩
        obtain ⟨b, off, rfl, c0, c1, c2, c3⟩ := (HR.out.below hbel).sh hf
        obtain ⟨s1, s2, s3⟩ := HS.out f (List.mem_of_getElem? hf)
        have HF := Lib.hid hf
        clear hf
        have hsz := hbel.size
        have hblk : b < wr.heap.size := World.block_lt_of_cell? wr _ c0
        have hbx : w.heap.size < wr.heap.size := World.block_lt_of_cell? wr _ q0
        have HBL := Lib.hid hbel
        have HN := Lib.hid (fun W => name_any f.nm W (by omega))
        have HC : Hid (∀ W (s : ByteArray), s.size ≤ 1100000 → Calls Tryz.prog 29 #[.string s] W fun e w' => e = .returned (.int .i64 (ratErr s)) ∧ Below W.heap.size W w') := fun W s h => rat_any s W (by omega)
        have HO := Lib.hid (fun W => rof_zero W)
        unfold OfPost at HO
        have HBad : Hid (¬ shGood f → scnB l = false) := fun h => scnB_bad HF.out h
        obtain ⟨a1, h1⟩ : ∃ a, a = isNm (bl f.nm) := ⟨_, rfl⟩
        obtain ⟨dy, h2⟩ : ∃ a, a = isDay f.fr := ⟨_, rfl⟩
        rw [← h1] at HN
        have HG : Hid (shGood f ↔ (a1 = true ∧ dy = true ∧ ratErr f.ra = 0 ∧ bl f.ra ≠ [48] ∧ ratErr f.ex = 0)) := by show _ ↔ _; rw [h1, h2]; exact Iff.rfl
        have HDy : Hid (dy = true ↔ 0 ≤ f.fr ∧ f.fr ≤ 99999) := by show _ ↔ _; rw [h2]; simp [isDay]
        have HOkk : Hid (shGood f → ∀ y ∈ l.take (k + 1), shBad y = false) := fun h => all_take_succ HF.out (shBad_ok h) HI.out.1
        clear h1 h2 hbel
        rcases Nat.eq_zero_or_pos k with hk0 | hk0
        · have t0 : decide ((0 : Int) < (k : Int)) = false := by rw [decide_eq_false_iff_not]; omega
          have t0b : decide (0 < k) = false := by rw [decide_eq_false_iff_not]; omega
          have t0c : ¬ 0 < k := by omega
          have HOrd : Hid (incB shLt (l.take (k + 1)) = true) := by show _ = _; rw [hk0]; exact incB_le_one (by rw [List.length_take]; omega)
          have hk1 : (0 : Int) ≤ (k : Int) := by omega
          have hk2 : (k : Int) < (l.length : Int) := by omega
          clear hk0 HI HF
          generalize f.nm = nm at *
          generalize f.fr = fr at *
          generalize f.ra = ra at *
          generalize f.ex = ex2 at *
          obtain ⟨na, rfl⟩ : ∃ o, a1 = !o := ⟨!a1, by simp⟩
          obtain ⟨d1, hd1⟩ : ∃ o, decide (fr < 0) = o := ⟨_, rfl⟩
          obtain ⟨d2, hd2⟩ : ∃ o, decide (99999 < fr) = o := ⟨_, rfl⟩
          obtain ⟨g1, hg1⟩ : ∃ o, (ratErr ra != 0) = o := ⟨_, rfl⟩
          obtain ⟨z1, hz1⟩ : ∃ o, (ra.toList == [48]) = o := ⟨_, rfl⟩
          obtain ⟨g2, hg2⟩ : ∃ o, (ratErr ex2 != 0) = o := ⟨_, rfl⟩
          go_wp2
          refine wp_region_ext (fun W' => W'.cell? ⟨w.heap.size, 0, none⟩ = some (.slice (some ⟨b, off, none⟩) l.length cap) ∧ W'.cell? ⟨wr.heap.size, 0, none⟩ = some (.string nm) ∧ W'.cell? ⟨wr.heap.size, 1, none⟩ = some (.int .i64 fr) ∧ W'.cell? ⟨wr.heap.size, 2, none⟩ = some (.string ra) ∧ W'.cell? ⟨wr.heap.size, 3, none⟩ = some (.string ex2)) (fun W' hW' => ⟨hW'.cell (by go_simp), hW'.cell (by go_simp), hW'.cell (by go_simp), hW'.cell (by go_simp), hW'.cell (by go_simp)⟩) (by kernel_rfl) (by kernel_rfl) ?_
          intro HCW
          repeat (first | go_big_quiet_skip | (go_big_quiet_want; apply Exists.intro; refine ⟨fun W hW => ?_, ?_⟩; (focus (obtain ⟨p0, p1, p2, p3, p4⟩ := HCW W hW; go_simp; first | done | rfl | with_reducible exact ext_same HN.out W hW | with_reducible exact ext_calls (fun W => HC.out W _ (by assumption)) W hW | with_reducible exact ext_calls HO.out W hW)); (simp only [Act.put, List.setIfInBounds_toArray, List.set_cons_zero, List.set_cons_succ]); go_big_quiet_on))
          cases na with
          | true =>
            have HE := Lib.hid (HBad.out (fun h => by have := (HG.out.1 h).1; cases this))
            clear HBad HG HDy HOkk HOrd
            repeat (first | go_big_quiet_skip | (go_big_quiet_want; apply Exists.intro; refine ⟨fun W hW => ?_, ?_⟩; (focus (obtain ⟨p0, p1, p2, p3, p4⟩ := HCW W hW; go_simp; first | done | rfl | with_reducible exact ext_same HN.out W hW | with_reducible exact ext_calls (fun W => HC.out W _ (by assumption)) W hW | with_reducible exact ext_calls HO.out W hW)); (simp only [Act.put, List.setIfInBounds_toArray, List.set_cons_zero, List.set_cons_succ]); go_big_quiet_on))
            refine wpQuiet_nil ?_
            intro W hW
            obtain ⟨p0, p1, p2, p3, p4⟩ := HCW W hW
            have hW := hW.below
            have hz := hW.size
            simp at hz
            go_wp2
            go_ret
            exact ⟨by rw [HE.out]; rfl, (HBL.out.alloc (by have := HBL.out.size; omega) _).trans (hW.mono (by simp; have := HBL.out.size; omega))⟩
          | false =>
            repeat (first | go_big_quiet_skip | (go_big_quiet_want; apply Exists.intro; refine ⟨fun W hW => ?_, ?_⟩; (focus (obtain ⟨p0, p1, p2, p3, p4⟩ := HCW W hW; go_simp; first | done | rfl | with_reducible exact ext_same HN.out W hW | with_reducible exact ext_calls (fun W => HC.out W _ (by assumption)) W hW | with_reducible exact ext_calls HO.out W hW)); (simp only [Act.put, List.setIfInBounds_toArray, List.set_cons_zero, List.set_cons_succ]); go_big_quiet_on))
            have HOrd2 := HOrd
            cases d1 with
            | true =>
              have HE := Lib.hid (HBad.out (fun h => by have := (HDy.out.1 (HG.out.1 h).2.1).1; have := of_decide_eq_true hd1; omega))
              clear HBad HG HDy HOkk HOrd
              repeat (first | go_big_quiet_skip | (go_big_quiet_want; apply Exists.intro; refine ⟨fun W hW => ?_, ?_⟩; (focus (obtain ⟨p0, p1, p2, p3, p4⟩ := HCW W hW; go_simp; first | done | rfl | with_reducible exact ext_same HN.out W hW | with_reducible exact ext_calls (fun W => HC.out W _ (by assumption)) W hW | with_reducible exact ext_calls HO.out W hW)); (simp only [Act.put, List.setIfInBounds_toArray, List.set_cons_zero, List.set_cons_succ]); go_big_quiet_on))
              refine wpQuiet_nil ?_
              intro W hW
              obtain ⟨p0, p1, p2, p3, p4⟩ := HCW W hW
              have hW := hW.below
              have hz := hW.size
              simp at hz
              go_wp2
              go_ret
              exact ⟨by rw [HE.out]; rfl, (HBL.out.alloc (by have := HBL.out.size; omega) _).trans (hW.mono (by simp; have := HBL.out.size; omega))⟩
            | false =>
              repeat (first | go_big_quiet_skip | (go_big_quiet_want; apply Exists.intro; refine ⟨fun W hW => ?_, ?_⟩; (focus (obtain ⟨p0, p1, p2, p3, p4⟩ := HCW W hW; go_simp; first | done | rfl | with_reducible exact ext_same HN.out W hW | with_reducible exact ext_calls (fun W => HC.out W _ (by assumption)) W hW | with_reducible exact ext_calls HO.out W hW)); (simp only [Act.put, List.setIfInBounds_toArray, List.set_cons_zero, List.set_cons_succ]); go_big_quiet_on))
              cases d2 with
              | true =>
                have HE := Lib.hid (HBad.out (fun h => by have := (HDy.out.1 (HG.out.1 h).2.1).2; have := of_decide_eq_true hd2; omega))
                clear HBad HG HDy HOkk HOrd
                repeat (first | go_big_quiet_skip | (go_big_quiet_want; apply Exists.intro; refine ⟨fun W hW => ?_, ?_⟩; (focus (obtain ⟨p0, p1, p2, p3, p4⟩ := HCW W hW; go_simp; first | done | rfl | with_reducible exact ext_same HN.out W hW | with_reducible exact ext_calls (fun W => HC.out W _ (by assumption)) W hW | with_reducible exact ext_calls HO.out W hW)); (simp only [Act.put, List.setIfInBounds_toArray, List.set_cons_zero, List.set_cons_succ]); go_big_quiet_on))
                refine wpQuiet_nil ?_
                intro W hW
                obtain ⟨p0, p1, p2, p3, p4⟩ := HCW W hW
                have hW := hW.below
                have hz := hW.size
                simp at hz
                go_wp2
                go_ret
                exact ⟨by rw [HE.out]; rfl, (HBL.out.alloc (by have := HBL.out.size; omega) _).trans (hW.mono (by simp; have := HBL.out.size; omega))⟩
              | false =>
                repeat (first | go_big_quiet_skip | (go_big_quiet_want; apply Exists.intro; refine ⟨fun W hW => ?_, ?_⟩; (focus (obtain ⟨p0, p1, p2, p3, p4⟩ := HCW W hW; go_simp; first | done | rfl | with_reducible exact ext_same HN.out W hW | with_reducible exact ext_calls (fun W => HC.out W _ (by assumption)) W hW | with_reducible exact ext_calls HO.out W hW)); (simp only [Act.put, List.setIfInBounds_toArray, List.set_cons_zero, List.set_cons_succ]); go_big_quiet_on))
                cases g1 with
                | true =>
                  have HE := Lib.hid (HBad.out (fun h => by have := (HG.out.1 h).2.2.1; rw [this] at hg1; cases hg1))
                  clear HBad HG HDy HOkk HOrd
                  repeat (first | go_big_quiet_skip | (go_big_quiet_want; apply Exists.intro; refine ⟨fun W hW => ?_, ?_⟩; (focus (obtain ⟨p0, p1, p2, p3, p4⟩ := HCW W hW; go_simp; first | done | rfl | with_reducible exact ext_same HN.out W hW | with_reducible exact ext_calls (fun W => HC.out W _ (by assumption)) W hW | with_reducible exact ext_calls HO.out W hW)); (simp only [Act.put, List.setIfInBounds_toArray, List.set_cons_zero, List.set_cons_succ]); go_big_quiet_on))
                  refine wpQuiet_nil ?_
                  intro W hW
                  obtain ⟨p0, p1, p2, p3, p4⟩ := HCW W hW
                  have hW := hW.below
                  have hz := hW.size
                  simp at hz
                  go_wp2
                  go_ret
                  exact ⟨by rw [HE.out]; rfl, (HBL.out.alloc (by have := HBL.out.size; omega) _).trans (hW.mono (by simp; have := HBL.out.size; omega))⟩
                | false =>
                  repeat (first | go_big_quiet_skip | (go_big_quiet_want; apply Exists.intro; refine ⟨fun W hW => ?_, ?_⟩; (focus (obtain ⟨p0, p1, p2, p3, p4⟩ := HCW W hW; go_simp; first | done | rfl | with_reducible exact ext_same HN.out W hW | with_reducible exact ext_calls (fun W => HC.out W _ (by assumption)) W hW | with_reducible exact ext_calls HO.out W hW)); (simp only [Act.put, List.setIfInBounds_toArray, List.set_cons_zero, List.set_cons_succ]); go_big_quiet_on))
                  cases z1 with
                  | true =>
                    have HE := Lib.hid (HBad.out (fun h => (HG.out.1 h).2.2.2.1 (by rw [Lib.toList_data] at hz1; exact eq_of_beq hz1)))
                    clear HBad HG HDy HOkk HOrd
                    repeat (first | go_big_quiet_skip | (go_big_quiet_want; apply Exists.intro; refine ⟨fun W hW => ?_, ?_⟩; (focus (obtain ⟨p0, p1, p2, p3, p4⟩ := HCW W hW; go_simp; first | done | rfl | with_reducible exact ext_same HN.out W hW | with_reducible exact ext_calls (fun W => HC.out W _ (by assumption)) W hW | with_reducible exact ext_calls HO.out W hW)); (simp only [Act.put, List.setIfInBounds_toArray, List.set_cons_zero, List.set_cons_succ]); go_big_quiet_on))
                    refine wpQuiet_nil ?_
                    intro W hW
                    obtain ⟨p0, p1, p2, p3, p4⟩ := HCW W hW
                    have hW := hW.below
                    have hz := hW.size
                    simp at hz
                    go_wp2
                    go_ret
                    exact ⟨by rw [HE.out]; rfl, (HBL.out.alloc (by have := HBL.out.size; omega) _).trans (hW.mono (by simp; have := HBL.out.size; omega))⟩
                  | false =>
                    repeat (first | go_big_quiet_skip | (go_big_quiet_want; apply Exists.intro; refine ⟨fun W hW => ?_, ?_⟩; (focus (obtain ⟨p0, p1, p2, p3, p4⟩ := HCW W hW; go_simp; first | done | rfl | with_reducible exact ext_same HN.out W hW | with_reducible exact ext_calls (fun W => HC.out W _ (by assumption)) W hW | with_reducible exact ext_calls HO.out W hW)); (simp only [Act.put, List.setIfInBounds_toArray, List.set_cons_zero, List.set_cons_succ]); go_big_quiet_on))
                    cases g2 with
                    | true =>
                      have HE := Lib.hid (HBad.out (fun h => by have := (HG.out.1 h).2.2.2.2; rw [this] at hg2; cases hg2))
                      clear HBad HG HDy HOkk HOrd
                      repeat (first | go_big_quiet_skip | (go_big_quiet_want; apply Exists.intro; refine ⟨fun W hW => ?_, ?_⟩; (focus (obtain ⟨p0, p1, p2, p3, p4⟩ := HCW W hW; go_simp; first | done | rfl | with_reducible exact ext_same HN.out W hW | with_reducible exact ext_calls (fun W => HC.out W _ (by assumption)) W hW | with_reducible exact ext_calls HO.out W hW)); (simp only [Act.put, List.setIfInBounds_toArray, List.set_cons_zero, List.set_cons_succ]); go_big_quiet_on))
                      refine wpQuiet_nil ?_
                      intro W hW
                      obtain ⟨p0, p1, p2, p3, p4⟩ := HCW W hW
                      have hW := hW.below
                      have hz := hW.size
                      simp at hz
                      go_wp2
                      go_ret
                      exact ⟨by rw [HE.out]; rfl, (HBL.out.alloc (by have := HBL.out.size; omega) _).trans (hW.mono (by simp; have := HBL.out.size; omega))⟩
                    | false =>
                      have HI2 : Hid ((∀ y ∈ l.take (k + 1), shBad y = false) ∧ incB shLt (l.take (k + 1)) = true) := ⟨HOkk.out (HG.out.2 ⟨rfl, HDy.out.2 ⟨by have := of_decide_eq_false hd1; omega, by have := of_decide_eq_false hd2; omega⟩, by simpa using hg1, (fun e => by rw [Lib.toList_data, show ra.data.toList = [48] from e] at hz1; cases hz1), by simpa using hg2⟩), HOrd2.out⟩
                      clear HBad HG HDy HOkk HOrd HOrd2
                      repeat (first | go_big_quiet_skip | (go_big_quiet_want; apply Exists.intro; refine ⟨fun W hW => ?_, ?_⟩; (focus (obtain ⟨p0, p1, p2, p3, p4⟩ := HCW W hW; go_simp; first | done | rfl | with_reducible exact ext_same HN.out W hW | with_reducible exact ext_calls (fun W => HC.out W _ (by assumption)) W hW | with_reducible exact ext_calls HO.out W hW)); (simp only [Act.put, List.setIfInBounds_toArray, List.set_cons_zero, List.set_cons_succ]); go_big_quiet_on))
                      refine wpQuiet_nil ?_
                      intro W hW
                      obtain ⟨p0, p1, p2, p3, p4⟩ := HCW W hW
                      have hW := hW.below
                      have hz := hW.size
                      simp at hz
                      go_wp2
                      go_roundw
                      case rel => exact ⟨k + 1, by omega, by go_num, HI2, (HBL.out.alloc (by have := HBL.out.size; omega) _).trans (hW.mono (by simp; have := HBL.out.size; omega)), p0⟩
                      case measure => simp [intOf]; omega
        · obtain ⟨k, rfl⟩ : ∃ k', k = k' + 1 := ⟨k - 1, by omega⟩
          obtain ⟨g, hg⟩ : ∃ g, l[k]? = some g := ⟨_, List.getElem?_eq_getElem (by omega)⟩
          obtain ⟨b', off', he, e0, _⟩ := (HR.out.below HBL.out).sh hg
          obtain ⟨rfl, rfl⟩ : b = b' ∧ off = off' := by simpa using he
          have HOrd : Hid (Op.bytesLess g.nm.toList f.nm.toList = true → incB shLt (l.take (k + 1 + 1)) = true) := fun h => by rw [incB_snoc hg HF.out, HI.out.2]; exact h
          have HOrdB : Hid (Op.bytesLess g.nm.toList f.nm.toList = false → scnB l = false) := fun h => scnB_ord hg HF.out h
          generalize g.nm = gn at *
          clear he hk0 hg HI HF
          generalize f.nm = nm at *
          generalize f.fr = fr at *
          generalize f.ra = ra at *
          generalize f.ex = ex2 at *
          have ek : ((k + 1 : Nat) : Int) = (k : Int) + 1 := by omega
          rw [ek]
          clear ek
          have t0 : decide ((0 : Int) < (k : Int) + 1) = true := by rw [decide_eq_true_eq]; omega
          have e1 : (k : Int) + 1 - 1 = (k : Int) := by omega
          have e2 : IntKind.i64.wrap ((k : Int) + 1 - 1) = (k : Int) := by rw [IntWalk.i64_in _ (by omega)]; omega
          have e3 : IntKind.i64.wrap (k : Int) = (k : Int) := IntWalk.i64_in _ (by omega)
          have e4 : ((k : Int) + 1).toNat = k + 1 := by omega
          have hk2 : (0 : Int) ≤ (k : Int) + 1 := by omega
          have hk3 : (k : Int) + 1 < (l.length : Int) := by omega
          have hk4 : (0 : Int) ≤ (k : Int) := by omega
          have hk5 : (k : Int) < (l.length : Int) := by omega
          obtain ⟨na, rfl⟩ : ∃ o, a1 = !o := ⟨!a1, by simp⟩
          obtain ⟨o, ho⟩ : ∃ o, Op.bytesLess gn.toList nm.toList = !o := ⟨!(Op.bytesLess gn.toList nm.toList), by simp⟩
          obtain ⟨d1, hd1⟩ : ∃ o, decide (fr < 0) = o := ⟨_, rfl⟩
          obtain ⟨d2, hd2⟩ : ∃ o, decide (99999 < fr) = o := ⟨_, rfl⟩
          obtain ⟨g1, hg1⟩ : ∃ o, (ratErr ra != 0) = o := ⟨_, rfl⟩
          obtain ⟨z1, hz1⟩ : ∃ o, (ra.toList == [48]) = o := ⟨_, rfl⟩
          obtain ⟨g2, hg2⟩ : ∃ o, (ratErr ex2 != 0) = o := ⟨_, rfl⟩
          go_wp2
          refine wp_region_ext (fun W' => W'.cell? ⟨w.heap.size, 0, none⟩ = some (.slice (some ⟨b, off, none⟩) l.length cap) ∧ W'.cell? ⟨wr.heap.size, 0, none⟩ = some (.string nm) ∧ W'.cell? ⟨wr.heap.size, 1, none⟩ = some (.int .i64 fr) ∧ W'.cell? ⟨wr.heap.size, 2, none⟩ = some (.string ra) ∧ W'.cell? ⟨wr.heap.size, 3, none⟩ = some (.string ex2) ∧ W'.cell? ⟨b, off + k * 4, none⟩ = some (.string gn)) (fun W' hW' => ⟨hW'.cell (by go_simp), hW'.cell (by go_simp), hW'.cell (by go_simp), hW'.cell (by go_simp), hW'.cell (by go_simp), hW'.cell (by go_simp)⟩) (by kernel_rfl) (by kernel_rfl) ?_
          intro HCW
          repeat (first | go_big_quiet_skip | (go_big_quiet_want; apply Exists.intro; refine ⟨fun W hW => ?_, ?_⟩; (focus (obtain ⟨p0, p1, p2, p3, p4, p5⟩ := HCW W hW; go_simp; first | done | rfl | with_reducible exact ext_same HN.out W hW | with_reducible exact ext_calls (fun W => HC.out W _ (by assumption)) W hW | with_reducible exact ext_calls HO.out W hW)); (simp only [Act.put, List.setIfInBounds_toArray, List.set_cons_zero, List.set_cons_succ]); go_big_quiet_on))
          cases na with
          | true =>
            have HE := Lib.hid (HBad.out (fun h => by have := (HG.out.1 h).1; cases this))
            clear HBad HG HDy HOkk HOrd HOrdB
            repeat (first | go_big_quiet_skip | (go_big_quiet_want; apply Exists.intro; refine ⟨fun W hW => ?_, ?_⟩; (focus (obtain ⟨p0, p1, p2, p3, p4, p5⟩ := HCW W hW; go_simp; first | done | rfl | with_reducible exact ext_same HN.out W hW | with_reducible exact ext_calls (fun W => HC.out W _ (by assumption)) W hW | with_reducible exact ext_calls HO.out W hW)); (simp only [Act.put, List.setIfInBounds_toArray, List.set_cons_zero, List.set_cons_succ]); go_big_quiet_on))
            refine wpQuiet_nil ?_
            intro W hW
            obtain ⟨p0, p1, p2, p3, p4, p5⟩ := HCW W hW
            have hW := hW.below
            have hz := hW.size
            simp at hz
            go_wp2
            go_ret
            exact ⟨by rw [HE.out]; rfl, (HBL.out.alloc (by have := HBL.out.size; omega) _).trans (hW.mono (by simp; have := HBL.out.size; omega))⟩
          | false =>
            repeat (first | go_big_quiet_skip | (go_big_quiet_want; apply Exists.intro; refine ⟨fun W hW => ?_, ?_⟩; (focus (obtain ⟨p0, p1, p2, p3, p4, p5⟩ := HCW W hW; go_simp; first | done | rfl | with_reducible exact ext_same HN.out W hW | with_reducible exact ext_calls (fun W => HC.out W _ (by assumption)) W hW | with_reducible exact ext_calls HO.out W hW)); (simp only [Act.put, List.setIfInBounds_toArray, List.set_cons_zero, List.set_cons_succ]); go_big_quiet_on))
            cases o with
            | true =>
              have HE := Lib.hid (HOrdB.out ho)
              clear HBad HG HDy HOkk HOrd HOrdB
              repeat (first | go_big_quiet_skip | (go_big_quiet_want; apply Exists.intro; refine ⟨fun W hW => ?_, ?_⟩; (focus (obtain ⟨p0, p1, p2, p3, p4, p5⟩ := HCW W hW; go_simp; first | done | rfl | with_reducible exact ext_same HN.out W hW | with_reducible exact ext_calls (fun W => HC.out W _ (by assumption)) W hW | with_reducible exact ext_calls HO.out W hW)); (simp only [Act.put, List.setIfInBounds_toArray, List.set_cons_zero, List.set_cons_succ]); go_big_quiet_on))
              refine wpQuiet_nil ?_
              intro W hW
              obtain ⟨p0, p1, p2, p3, p4, p5⟩ := HCW W hW
              have hW := hW.below
              have hz := hW.size
              simp at hz
              go_wp2
              go_ret
              exact ⟨by rw [HE.out]; rfl, (HBL.out.alloc (by have := HBL.out.size; omega) _).trans (hW.mono (by simp; have := HBL.out.size; omega))⟩
            | false =>
              have HOrd2 := Lib.hid (HOrd.out ho)
              repeat (first | go_big_quiet_skip | (go_big_quiet_want; apply Exists.intro; refine ⟨fun W hW => ?_, ?_⟩; (focus (obtain ⟨p0, p1, p2, p3, p4, p5⟩ := HCW W hW; go_simp; first | done | rfl | with_reducible exact ext_same HN.out W hW | with_reducible exact ext_calls (fun W => HC.out W _ (by assumption)) W hW | with_reducible exact ext_calls HO.out W hW)); (simp only [Act.put, List.setIfInBounds_toArray, List.set_cons_zero, List.set_cons_succ]); go_big_quiet_on))
              cases d1 with
              | true =>
                have HE := Lib.hid (HBad.out (fun h => by have := (HDy.out.1 (HG.out.1 h).2.1).1; have := of_decide_eq_true hd1; omega))
                clear HBad HG HDy HOkk HOrd HOrdB
                repeat (first | go_big_quiet_skip | (go_big_quiet_want; apply Exists.intro; refine ⟨fun W hW => ?_, ?_⟩; (focus (obtain ⟨p0, p1, p2, p3, p4, p5⟩ := HCW W hW; go_simp; first | done | rfl | with_reducible exact ext_same HN.out W hW | with_reducible exact ext_calls (fun W => HC.out W _ (by assumption)) W hW | with_reducible exact ext_calls HO.out W hW)); (simp only [Act.put, List.setIfInBounds_toArray, List.set_cons_zero, List.set_cons_succ]); go_big_quiet_on))
                refine wpQuiet_nil ?_
                intro W hW
                obtain ⟨p0, p1, p2, p3, p4, p5⟩ := HCW W hW
                have hW := hW.below
                have hz := hW.size
                simp at hz
                go_wp2
                go_ret
                exact ⟨by rw [HE.out]; rfl, (HBL.out.alloc (by have := HBL.out.size; omega) _).trans (hW.mono (by simp; have := HBL.out.size; omega))⟩
              | false =>
                repeat (first | go_big_quiet_skip | (go_big_quiet_want; apply Exists.intro; refine ⟨fun W hW => ?_, ?_⟩; (focus (obtain ⟨p0, p1, p2, p3, p4, p5⟩ := HCW W hW; go_simp; first | done | rfl | with_reducible exact ext_same HN.out W hW | with_reducible exact ext_calls (fun W => HC.out W _ (by assumption)) W hW | with_reducible exact ext_calls HO.out W hW)); (simp only [Act.put, List.setIfInBounds_toArray, List.set_cons_zero, List.set_cons_succ]); go_big_quiet_on))
                cases d2 with
                | true =>
                  have HE := Lib.hid (HBad.out (fun h => by have := (HDy.out.1 (HG.out.1 h).2.1).2; have := of_decide_eq_true hd2; omega))
                  clear HBad HG HDy HOkk HOrd HOrdB
                  repeat (first | go_big_quiet_skip | (go_big_quiet_want; apply Exists.intro; refine ⟨fun W hW => ?_, ?_⟩; (focus (obtain ⟨p0, p1, p2, p3, p4, p5⟩ := HCW W hW; go_simp; first | done | rfl | with_reducible exact ext_same HN.out W hW | with_reducible exact ext_calls (fun W => HC.out W _ (by assumption)) W hW | with_reducible exact ext_calls HO.out W hW)); (simp only [Act.put, List.setIfInBounds_toArray, List.set_cons_zero, List.set_cons_succ]); go_big_quiet_on))
                  refine wpQuiet_nil ?_
                  intro W hW
                  obtain ⟨p0, p1, p2, p3, p4, p5⟩ := HCW W hW
                  have hW := hW.below
                  have hz := hW.size
                  simp at hz
                  go_wp2
                  go_ret
                  exact ⟨by rw [HE.out]; rfl, (HBL.out.alloc (by have := HBL.out.size; omega) _).trans (hW.mono (by simp; have := HBL.out.size; omega))⟩
                | false =>
                  repeat (first | go_big_quiet_skip | (go_big_quiet_want; apply Exists.intro; refine ⟨fun W hW => ?_, ?_⟩; (focus (obtain ⟨p0, p1, p2, p3, p4, p5⟩ := HCW W hW; go_simp; first | done | rfl | with_reducible exact ext_same HN.out W hW | with_reducible exact ext_calls (fun W => HC.out W _ (by assumption)) W hW | with_reducible exact ext_calls HO.out W hW)); (simp only [Act.put, List.setIfInBounds_toArray, List.set_cons_zero, List.set_cons_succ]); go_big_quiet_on))
                  cases g1 with
                  | true =>
                    have HE := Lib.hid (HBad.out (fun h => by have := (HG.out.1 h).2.2.1; rw [this] at hg1; cases hg1))
                    clear HBad HG HDy HOkk HOrd HOrdB
                    repeat (first | go_big_quiet_skip | (go_big_quiet_want; apply Exists.intro; refine ⟨fun W hW => ?_, ?_⟩; (focus (obtain ⟨p0, p1, p2, p3, p4, p5⟩ := HCW W hW; go_simp; first | done | rfl | with_reducible exact ext_same HN.out W hW | with_reducible exact ext_calls (fun W => HC.out W _ (by assumption)) W hW | with_reducible exact ext_calls HO.out W hW)); (simp only [Act.put, List.setIfInBounds_toArray, List.set_cons_zero, List.set_cons_succ]); go_big_quiet_on))
                    refine wpQuiet_nil ?_
                    intro W hW
                    obtain ⟨p0, p1, p2, p3, p4, p5⟩ := HCW W hW
                    have hW := hW.below
                    have hz := hW.size
                    simp at hz
                    go_wp2
                    go_ret
                    exact ⟨by rw [HE.out]; rfl, (HBL.out.alloc (by have := HBL.out.size; omega) _).trans (hW.mono (by simp; have := HBL.out.size; omega))⟩
                  | false =>
                    repeat (first | go_big_quiet_skip | (go_big_quiet_want; apply Exists.intro; refine ⟨fun W hW => ?_, ?_⟩; (focus (obtain ⟨p0, p1, p2, p3, p4, p5⟩ := HCW W hW; go_simp; first | done | rfl | with_reducible exact ext_same HN.out W hW | with_reducible exact ext_calls (fun W => HC.out W _ (by assumption)) W hW | with_reducible exact ext_calls HO.out W hW)); (simp only [Act.put, List.setIfInBounds_toArray, List.set_cons_zero, List.set_cons_succ]); go_big_quiet_on))
                    cases z1 with
                    | true =>
                      have HE := Lib.hid (HBad.out (fun h => (HG.out.1 h).2.2.2.1 (by rw [Lib.toList_data] at hz1; exact eq_of_beq hz1)))
                      clear HBad HG HDy HOkk HOrd HOrdB
                      repeat (first | go_big_quiet_skip | (go_big_quiet_want; apply Exists.intro; refine ⟨fun W hW => ?_, ?_⟩; (focus (obtain ⟨p0, p1, p2, p3, p4, p5⟩ := HCW W hW; go_simp; first | done | rfl | with_reducible exact ext_same HN.out W hW | with_reducible exact ext_calls (fun W => HC.out W _ (by assumption)) W hW | with_reducible exact ext_calls HO.out W hW)); (simp only [Act.put, List.setIfInBounds_toArray, List.set_cons_zero, List.set_cons_succ]); go_big_quiet_on))
                      refine wpQuiet_nil ?_
                      intro W hW
                      obtain ⟨p0, p1, p2, p3, p4, p5⟩ := HCW W hW
                      have hW := hW.below
                      have hz := hW.size
                      simp at hz
                      go_wp2
                      go_ret
                      exact ⟨by rw [HE.out]; rfl, (HBL.out.alloc (by have := HBL.out.size; omega) _).trans (hW.mono (by simp; have := HBL.out.size; omega))⟩
                    | false =>
                      repeat (first | go_big_quiet_skip | (go_big_quiet_want; apply Exists.intro; refine ⟨fun W hW => ?_, ?_⟩; (focus (obtain ⟨p0, p1, p2, p3, p4, p5⟩ := HCW W hW; go_simp; first | done | rfl | with_reducible exact ext_same HN.out W hW | with_reducible exact ext_calls (fun W => HC.out W _ (by assumption)) W hW | with_reducible exact ext_calls HO.out W hW)); (simp only [Act.put, List.setIfInBounds_toArray, List.set_cons_zero, List.set_cons_succ]); go_big_quiet_on))
                      cases g2 with
                      | true =>
                        have HE := Lib.hid (HBad.out (fun h => by have := (HG.out.1 h).2.2.2.2; rw [this] at hg2; cases hg2))
                        clear HBad HG HDy HOkk HOrd HOrdB
                        repeat (first | go_big_quiet_skip | (go_big_quiet_want; apply Exists.intro; refine ⟨fun W hW => ?_, ?_⟩; (focus (obtain ⟨p0, p1, p2, p3, p4, p5⟩ := HCW W hW; go_simp; first | done | rfl | with_reducible exact ext_same HN.out W hW | with_reducible exact ext_calls (fun W => HC.out W _ (by assumption)) W hW | with_reducible exact ext_calls HO.out W hW)); (simp only [Act.put, List.setIfInBounds_toArray, List.set_cons_zero, List.set_cons_succ]); go_big_quiet_on))
                        refine wpQuiet_nil ?_
                        intro W hW
                        obtain ⟨p0, p1, p2, p3, p4, p5⟩ := HCW W hW
                        have hW := hW.below
                        have hz := hW.size
                        simp at hz
                        go_wp2
                        go_ret
                        exact ⟨by rw [HE.out]; rfl, (HBL.out.alloc (by have := HBL.out.size; omega) _).trans (hW.mono (by simp; have := HBL.out.size; omega))⟩
                      | false =>
                        have HI2 : Hid ((∀ y ∈ l.take (k + 1 + 1), shBad y = false) ∧ incB shLt (l.take (k + 1 + 1)) = true) := ⟨HOkk.out (HG.out.2 ⟨rfl, HDy.out.2 ⟨by have := of_decide_eq_false hd1; omega, by have := of_decide_eq_false hd2; omega⟩, by simpa using hg1, (fun e => by rw [Lib.toList_data, show ra.data.toList = [48] from e] at hz1; cases hz1), by simpa using hg2⟩), HOrd2.out⟩
                        clear HBad HG HDy HOkk HOrd HOrd2 HOrdB
                        repeat (first | go_big_quiet_skip | (go_big_quiet_want; apply Exists.intro; refine ⟨fun W hW => ?_, ?_⟩; (focus (obtain ⟨p0, p1, p2, p3, p4, p5⟩ := HCW W hW; go_simp; first | done | rfl | with_reducible exact ext_same HN.out W hW | with_reducible exact ext_calls (fun W => HC.out W _ (by assumption)) W hW | with_reducible exact ext_calls HO.out W hW)); (simp only [Act.put, List.setIfInBounds_toArray, List.set_cons_zero, List.set_cons_succ]); go_big_quiet_on))
                        refine wpQuiet_nil ?_
                        intro W hW
                        obtain ⟨p0, p1, p2, p3, p4, p5⟩ := HCW W hW
                        have hW := hW.below
                        have hz := hW.size
                        simp at hz
                        go_wp2
                        go_roundw
                        case rel => exact ⟨k + 1 + 1, by omega, by go_num, HI2, (HBL.out.alloc (by have := HBL.out.size; omega) _).trans (hW.mono (by simp; have := HBL.out.size; omega)), p0⟩
                        case measure => simp [intOf]; omega
      · obtain rfl : k = l.length := by omega
        have HE : Hid (scnB l = true) := by
          have h := HI.out
          rw [List.take_of_length_le (Nat.le_refl _)] at h
          exact scnB_ok HL.out h.1 h.2
        go_wp2
        go_ret
        exact ⟨by rw [HE.out]; rfl, hbel⟩
end Go.Proofs.YtofbngpckllkoacGreat

namespace Go.Proofs.YtofbngpckllkoacGreat
open Go.RowKit

set_option maxHeartbeats 4000000 in
set_option maxRecDepth 100000 in
theorem ratmul_any (a b : ByteArray) (w : World) (ha : a.size ≤ 1000000) (hb : b.size ≤ 1000000) :
    Calls Tryz.prog 18 #[.string a, .string b] w (RatPost2 w (mulS a b) (mulE a b)) := by
  have HB := Lib.hid (both_ab a b w (by omega) (by omega))
  have Hs := Lib.hid (part_sizes a b ha hb)
  clear ha hb
  go_enter Tryz.func18, Tryz.ntmps18
  go_wp2_with fail
  refine HB.out.mono ?_
  rintro e w1 ⟨P, rfl, hP, hp, hb1⟩
  go_wp2_with fail
  refine (keepr_any P 44 w1).mono ?_
  rintro e w2 ⟨rfl, hm, hb2⟩
  skip
  skip
  skip
  obtain ⟨Bm, hBm⟩ : ∃ B, B = w1.heap.size := ⟨_, rfl⟩
  rw [← hBm] at hm ⊢
  obtain ⟨n0, hn0⟩ : ∃ n, n = pN a := ⟨_, rfl⟩
  obtain ⟨n1, hn1⟩ : ∃ n, n = bN1 a b := ⟨_, rfl⟩
  obtain ⟨d0, hd0⟩ : ∃ n, n = pD a := ⟨_, rfl⟩
  obtain ⟨d1, hd1⟩ : ∃ n, n = bD1 a b := ⟨_, rfl⟩
  rw [← hn0, ← hn1, ← hd0, ← hd1] at hp Hs
  have HN := Lib.hid (And.intro hn0 (And.intro hn1 (And.intro hd0 hd1)))
  clear hn0 hn1 hd0 hd1
  obtain ⟨z0, z1, z2, z3⟩ := Hs.out
  have st0 : PSt w w2.drew P Bm Bm 44 44 n0 n1 d0 d1 (bE a b) := PSt.drew ⟨hp.below hb2, hm, hm, hb1.trans (hb2.mono hb1.size), hP⟩
  have p := hp.below hb2
  obtain ⟨h0, h1, h2, h3, _⟩ := p.cells
  clear p hp hm hb1 hb2 hBm hP HB Hs
  obtain ⟨e0, he⟩ : ∃ e, e = bE a b := ⟨_, rfl⟩
  rw [← he] at st0
  have HE0 := Lib.hid he
  clear he 
  have HM : Hid (∀ W er x y, PSt w W P Bm Bm 44 44 n0 n1 d0 d1 er → x.size ≤ 1100000 → y.size ≤ 1100000 → Calls Tryz.prog 69 #[.string x, .string y, .pointer (some ⟨Bm, 0, none⟩), .pointer (some ⟨Bm + 1, 0, none⟩)] W fun e w' => ∃ t er', e = .returned (.string t) ∧ Hid (StepR (bl x) (bl y) (ival (bl x) * ival (bl y)) er (bl t) er') ∧ PSt w w' P Bm Bm 44 44 n0 n1 d0 d1 er' ∧ t.size ≤ 1100000 ∧ w'.cell? ⟨P, 0, none⟩ = some (.string n0) ∧ w'.cell? ⟨P, 1, none⟩ = some (.string n1) ∧ w'.cell? ⟨P, 2, none⟩ = some (.string d0) ∧ w'.cell? ⟨P, 3, none⟩ = some (.string d1)) := by
    intro W er x y hst hx hy
    refine (pst_mul hst x y hx hy).mono ?_
    rintro e w' ⟨t, er', rfl, hr, hst'⟩
    obtain ⟨c0, c1, c2, c3, _⟩ := hst'.p.cells
    exact ⟨t, er', rfl, hr, hst', by have := hr.out.len; rw [← bl_length]; omega, c0, c1, c2, c3⟩
  have HD : Hid (∀ W er x y, PSt w W P Bm Bm 44 44 n0 n1 d0 d1 er → x.size ≤ 1100000 → y.size ≤ 1100000 → (er = 0 → intErr (bl x) = 0 ∧ intErr (bl y) = 0 ∧ dval (body (bl y)) ≠ 0) → Calls Tryz.prog 45 #[.pointer (some ⟨P, 0, none⟩), .string x, .string y] W fun e w' => ∃ s er2, e = .returned (.tuple #[.string s, .int .i64 er2]) ∧ Hid (MadeR (bl x) (bl y) er (bl s) er2) ∧ Below w.heap.size w w' ∧ w'.cell? ⟨P, 0, none⟩ = some (.string n0) ∧ w'.cell? ⟨P, 1, none⟩ = some (.string n1) ∧ w'.cell? ⟨P, 2, none⟩ = some (.string d0) ∧ w'.cell? ⟨P, 3, none⟩ = some (.string d1)) := by
    intro W er x y hst hx hy hpre
    have hcc := fun W' (hb : Below W.heap.size W W') => (hst.p.below hb).cells
    by_cases he : er = 0
    · subst he
      obtain ⟨i1, i2, i3⟩ := hpre rfl
      refine (made_ok x y P n0 n1 d0 d1 W hst.p _ (Lib.hid fun W' => make_ok x y W' hx hy i1 i2 i3)).mono ?_
      rintro e w' ⟨s, rfl, hs, hb⟩
      obtain ⟨c0, c1, c2, c3, _⟩ := hcc _ hb
      exact ⟨s, 0, rfl, .inr ⟨rfl, rfl, hs⟩, hst.b.trans (hb.mono hst.b.size), c0, c1, c2, c3⟩
    · refine (made_err x y P n0 n1 d0 d1 er W hst.p he).mono ?_
      rintro e w' ⟨rfl, hb⟩
      obtain ⟨c0, c1, c2, c3, _⟩ := hcc _ hb
      exact ⟨_, er, rfl, .inl ⟨he, rfl, rfl⟩, hst.b.trans (hb.mono hst.b.size), c0, c1, c2, c3⟩
  have HC : Hid (∀ t1 t2 e1 e2, StepR (bl n0) (bl n1) (ival (bl n0) * ival (bl n1)) e0 t1 e1 → StepR (bl d0) (bl d1) (ival (bl d0) * ival (bl d1)) e1 t2 e2 → e2 = mulE a b ∧ (e2 = 0 → intErr t1 = 0 ∧ intErr t2 = 0 ∧ dval (body t2) ≠ 0 ∧ ratTxt (!(isNeg t1 == isNeg t2)) (dval (body t1)) (dval (body t2)) = mulS a b)) := by
    obtain ⟨q1, q2, q3, q4⟩ := HN.out
    have q5 := HE0.out
    subst q1 q2 q3 q4 q5
    exact fun _ _ _ _ r1 r2 => mul_done ⟨r1, r2⟩
  have HS : Hid (mulE a b ≠ 0 → mulS a b = []) := fun k => frS_err k
  clear HN HE0 
  go_wp2_with fail
  go_region_held3 (fun w' => w'.cell? ⟨P, 0, none⟩ = some (.string n0) ∧ w'.cell? ⟨P, 1, none⟩ = some (.string n1) ∧ w'.cell? ⟨P, 2, none⟩ = some (.string d0) ∧ w'.cell? ⟨P, 3, none⟩ = some (.string d1))
    (first | assumption | exact ⟨by assumption, by assumption, by assumption, by assumption⟩ | go_keep)
    (first | (go_at_call 69; first | (refine (HM.out _ _ _ _ st1 z2 z3).mono ?_; rintro e w5 ⟨t2, e2, rfl, r2, st2, l2, p0, p1, p2, p3⟩) | (refine (HM.out _ _ _ _ st0 z0 z1).mono ?_; rintro e w4 ⟨t1, e1, rfl, r1, st1, l1, p0, p1, p2, p3⟩)) | (go_at_call 45; refine (HD.out _ _ _ _ st2 l1 l2 (fun h => by obtain ⟨h1, h2, h3, _⟩ := (HC.out _ _ _ _ r1.out r2.out).2 h; exact ⟨h1, h2, h3⟩)).mono ?_; rintro e w8 ⟨s, e5, rfl, r5, hbz, p0, p1, p2, p3⟩))
  have HF : Hid (RatPost2 w (mulS a b) (mulE a b) (.returned (.tuple #[.string s, .int .i64 e5])) w8) := by
    have hc := HC.out _ _ _ _ r1.out r2.out
    rcases r5.out with ⟨h1, h2, rfl⟩ | ⟨h1, rfl, h2⟩
    · have hne : mulE a b ≠ 0 := by rw [← hc.1]; exact h1
      refine ⟨s, ?_, ?_, hbz⟩
      · rw [hc.1]
      · rw [HS.out hne]; exact h2
    · refine ⟨s, ?_, ?_, hbz⟩
      · rw [← hc.1, h1]
      · rw [h2]; exact (hc.2 h1).2.2.2
  clear HC HD HM HS r1 r2 r5 st0 st1 st2
  go_wp2
  go_ret2
  exact HF.out
end Go.Proofs.YtofbngpckllkoacGreat
