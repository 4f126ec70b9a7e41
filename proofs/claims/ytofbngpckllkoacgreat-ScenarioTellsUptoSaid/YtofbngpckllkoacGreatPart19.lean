/-
  novationref32.Shifted. novationref32.Apply. rational.Add.  Printed by tools/genratops.py.
-/
import Derived.Test.YtofbngpckllkoacGreatPart18
import Derived.Test.YtofbngpckllkoacGreatPart16
import Derived.Test.YtofbngpckllkoacGreatPart14
import Derived.Test.YtofbngpckllkoacGreatPart12
import Derived.Test.YtofbngpckllkoacGreatPart06
import Derived.Maps.AppendAt
namespace Go.Proofs.YtofbngpckllkoacGreat
open Go.RowKit

def ShiftedPost (w : World) (l : List Sh) (f : Fx) (e : Ending) (w' : World) : Prop := ∃ t, e = .returned (.tuple #[.string t, .int .i64 (newE l f)]) ∧ (newE l f = 0 → t = newV l f) ∧ Below w.heap.size w w'
theorem new_none {l : List Sh} {f : Fx} (h : l.find? (hits f) = none) : newE l f = 0 ∧ newV l f = f.vl := by rw [newE, newV, h]; exact ⟨rfl, rfl⟩
theorem new_some {l : List Sh} {f : Fx} {x : Sh} (h : l.find? (hits f) = some x) : newE l f = shE x f.vl ∧ newV l f = shV x f.vl := by rw [newE, newV, h]; exact ⟨rfl, rfl⟩
theorem shE_mul {x : Sh} {v : ByteArray} (h : mulE x.ra v ≠ 0) : shE x v = mulE x.ra v := by rw [shE, if_neg h]
theorem shE_add {x : Sh} {v : ByteArray} (h : mulE x.ra v = 0) : shE x v = addE (shM x v) x.ex := by rw [shE, if_pos h]

set_option maxHeartbeats 2000000 in
set_option maxRecDepth 100000 in
theorem shifted_any (l : List Sh) (ad : Option Addr) (cap : Nat) (f : Fx) (w : World) (_hn : l.length ≤ 1100000) (hr : Rd Sh.cells 4 w ad l) (hs : ∀ x ∈ l, x.ra.size ≤ 1000000 ∧ x.ex.size ≤ 1000000) (hf : f.vl.size ≤ 1000000) :
    Calls Tryz.prog 21 #[.agg #[.slice ad l.length cap], f.val] w (ShiftedPost w l f) := by
  have HR := Lib.hid hr
  have HS := Lib.hid hs
  have Hf := Lib.hid hf
  clear hr hs hf
  unfold Fx.val fxV
  have hb0 := below_a2 w (.cells #[.slice ad l.length cap] 24) (.cells #[.string f.nm, .int .i64 f.d, .string f.vl] 46)
  go_enter Tryz.func21, Tryz.ntmps21
  go_wp2_with fail
  go_loopw [6] (fun i wr => ∃ k : Nat, k ≤ l.length ∧ i = .int .i64 k ∧ Hid ((l.take k).find? (hits f) = none) ∧ Below w.heap.size w wr ∧ wr.cell? ⟨w.heap.size, 0, none⟩ = some (.slice ad l.length cap) ∧ wr.cell? ⟨w.heap.size + 1, 0, none⟩ = some (.string f.nm) ∧ wr.cell? ⟨w.heap.size + 1, 1, none⟩ = some (.int .i64 f.d) ∧ wr.cell? ⟨w.heap.size + 1, 2, none⟩ = some (.string f.vl)) (fun i _ => l.length - (intOf i).toNat)
  case atStart => exact ⟨0, Nat.zero_le _, rfl, Lib.hid rfl, hb0, by go_simp, by go_simp, by go_simp, by go_simp⟩
  case round =>
    clear hb0
    obtain ⟨k, hk, rfl, HI, hbel, q0, q1, q2, q3⟩ := hrel
    by_cases hlt : k < l.length
    · obtain ⟨x, hx⟩ : ∃ x, l[k]? = some x := ⟨_, List.getElem?_eq_getElem hlt⟩
      obtain ⟨b, off, rfl, c0, c1, c2, c3⟩ := (HR.out.below hbel).sh hx
      obtain ⟨s1, s2⟩ := HS.out x (List.mem_of_getElem? hx)
      have HX := Lib.hid hx
      clear hx
      have hsz := hbel.size
      have hblk : b < wr.heap.size := World.block_lt_of_cell? wr _ c0
      have hbx : w.heap.size + 1 < wr.heap.size := World.block_lt_of_cell? wr _ q1
      have hby : w.heap.size < wr.heap.size := by omega
      have hk1 : (0 : Int) ≤ (k : Int) := by omega
      have hk2 : (k : Int) < (l.length : Int) := by omega
      have hb1 := hbel.alloc hsz (.cells #[.string x.nm, .int .i64 x.fr, .string x.ra, .string x.ex] 50)
      by_cases hnm : x.nm = f.nm
      · have e1 : (x.nm.toList == f.nm.toList) = true := by rw [hnm]; exact beq_self_eq_true _
        have e2 : (x.nm.toList != f.nm.toList) = false := by rw [bne, e1]; rfl
        by_cases hd : f.d < x.fr
        · have u : decide (f.d < x.fr) = true := by simpa using hd
          have HI2 : Hid ((l.take (k + 1)).find? (hits f) = none) := find_take_miss HX.out HI.out (hits_early hd)
          have HB1 := Lib.hid hb1
          clear hnm hd hb1
          go_wp2
          go_roundw
          case rel => exact ⟨k + 1, by omega, by go_num, HI2, HB1.out, by first | assumption | go_simp, by first | assumption | go_simp, by first | assumption | go_simp, by first | assumption | go_simp⟩
          case measure => simp [intOf]; omega
        · have u : decide (f.d < x.fr) = false := by simpa using hd
          have hN := new_some (find_take_hit HX.out HI.out (by rw [hits, decide_eq_true hnm, decide_eq_true (show x.fr ≤ f.d by omega)]; rfl))
          have HN := Lib.hid hN
          have HM := Lib.hid (fun W => (rratmul_any x.ra f.vl W s1 Hf.out).mono fun _ _ h => h.val)
          have HA := Lib.hid (fun W => (rratadd_any (shM x f.vl) x.ex W (Nat.le_trans (mulS_size _ _) (by decide)) s2).mono fun _ _ h => h.val)
          clear hnm hd hN
          go_wp2_with fail
          refine (HM.out _).mono ?_
          rintro e w4 ⟨rfl, hb4⟩
          have p3 : w4.cell? ⟨wr.heap.size, 3, none⟩ = some (.string x.ex) := by rw [hb4.cell (by simp)]; go_simp
          have hb5 := hb1.trans (hb4.mono hb1.size)
          by_cases hm : mulE x.ra f.vl = 0
          · have HE : Hid (newE l f = addE (shM x f.vl) x.ex ∧ newV l f = shV x f.vl) := ⟨HN.out.1.trans (shE_add hm), HN.out.2⟩
            rw [hm]
            clear hb4 hb1 hm
            change Hid (∀ W, Calls _ _ #[.string (mkB (mulS x.ra f.vl)), .string x.ex] W _) at HA
            go_wp2_with fail
            refine (HA.out _).mono ?_
            rintro e w5 ⟨rfl, hb6⟩
            have hb7 := hb5.trans (hb6.mono hb5.size)
            have HF : Hid (ShiftedPost w l f (.returned (.tuple #[.string (mkB (addS (shM x f.vl) x.ex)), .int .i64 (addE (shM x f.vl) x.ex)])) w5) := ⟨_, by rw [HE.out.1], fun _ => by rw [HE.out.2]; rfl, hb7⟩
            clear hb6 hb5 hb7
            go_wp2
            go_ret2
            exact HF.out
          · have HF : Hid (ShiftedPost w l f (.returned (.tuple #[.string ⟨#[]⟩, .int .i64 (mulE x.ra f.vl)])) w4) := by
              have he : newE l f = mulE x.ra f.vl := HN.out.1.trans (shE_mul hm)
              exact ⟨_, by rw [he], fun h => absurd (he.symm.trans h) hm, hb5⟩
            have t1 : (mulE x.ra f.vl != 0) = true := by rw [bne_iff_ne]; exact hm
            clear hb4 hb1 hb5 hm
            go_wp2
            go_ret2
            exact HF.out
      · have e1 : (x.nm.toList == f.nm.toList) = false := by
          rw [beq_eq_false_iff_ne]; intro e; rw [Lib.toList_data, Lib.toList_data] at e; exact hnm (bl_inj e)
        have e2 : (x.nm.toList != f.nm.toList) = true := by rw [bne, e1]; rfl
        have HI2 : Hid ((l.take (k + 1)).find? (hits f) = none) := find_take_miss HX.out HI.out (hits_name hnm)
        have HB1 := Lib.hid hb1
        clear hnm hb1
        go_wp2
        go_roundw
        case rel => exact ⟨k + 1, by omega, by go_num, HI2, HB1.out, by first | assumption | go_simp, by first | assumption | go_simp, by first | assumption | go_simp, by first | assumption | go_simp⟩
        case measure => simp [intOf]; omega
    · obtain rfl : k = l.length := by omega
      have HF : Hid (ShiftedPost w l f (.returned (.tuple #[.string f.vl, .int .i64 0])) wr) := by
        have h := HI.out
        rw [List.take_length] at h
        obtain ⟨h1, h2⟩ := new_none h
        exact ⟨_, by rw [h1], fun _ => h2.symm, hbel⟩
      clear hbel
      go_wp2
      go_ret2
      exact HF.out
end Go.Proofs.YtofbngpckllkoacGreat

namespace Go.Proofs.YtofbngpckllkoacGreat
open Go.RowKit

/-- Knowledge and an error that can be read. -/
def EnvRd (w : World) (er : Int) (fs : List Fx) (cs : List Ch) (e : Ending) (w' : World) : Prop :=
  ∃ a1 c1 a2 c2, e = .returned (.tuple #[.agg #[.slice a1 fs.length c1, .slice a2 cs.length c2], .int .i64 er]) ∧ Rd Fx.cells 3 w' a1 fs ∧ Rd Ch.cells 4 w' a2 cs ∧ Below w.heap.size w w'
theorem Rd.nil {α : Type} (enc : α → List Value) (m : Nat) (w : World) (ad : Option Addr) : Rd enc m w ad [] := fun j x h => by simp at h
theorem envRd_none {w w' : World} {er : Int} (hb : Below w.heap.size w w') : EnvRd w er [] [] (.returned (.tuple #[.agg #[.slice none 0 0, .slice none 0 0], .int .i64 er])) w' :=
  ⟨none, 0, none, 0, rfl, Rd.nil _ _ _ _, Rd.nil _ _ _ _, hb⟩
theorem sl_low {w w' : World} {ad : Option Addr} {n cap size B : Nat} {xs : List Value} (h : Sl w (.slice ad n cap) size n xs) (hb : Below B w w') (hB : w.heap.size ≤ B) : Sl w' (.slice ad n cap) size n xs := h.below (hb.mono hB)

set_option maxHeartbeats 2000000 in
set_option maxRecDepth 100000 in
theorem rapply_bad (l : List Sh) (fs : List Fx) (cs : List Ch) (ad af ac : Option Addr) (cap cf cc : Nat) (w : World)
    (HV : Hid (∀ W, Below w.heap.size w W → Calls Tryz.prog 14 #[.agg #[.slice ad l.length cap]] W fun e w' => e = .returned (.bool (scnB l)) ∧ Below W.heap.size W w'))
    (hv : scnB l = false) :
    Calls Tryz.prog 8 #[.agg #[.slice ad l.length cap], .agg #[.slice af fs.length cf, .slice ac cs.length cc]] w (EnvRd w (applyE l fs cs) (applyF l fs cs) (applyC l fs cs)) := by
  obtain ⟨e1, e2, e3⟩ := apply_bad (fs := fs) (cs := cs) hv
  rw [hv] at HV
  rw [e1, e2, e3]
  clear e1 e2 e3 hv
  have bx := Lib.hid (fun (o1 o2 : Obj) => Boxed2.new ((w.alloc o1).alloc o2) (.slice none 0 0) (.slice none 0 0) 28)
  go_enter Tryz.func8, Tryz.ntmps8
  go_wp2_with fail
  refine (HV.out _ (below_a3 _ _ _ _)).mono ?_
  rintro e w1 ⟨rfl, hb1⟩
  have hs1 := hb1.size
  simp at hs1
  have bR := (bx.out _ _).below hb1
  simp at bR
  have hbel : Below w.heap.size w w1 := (below_a3 _ _ _ _).trans (hb1.mono (by simp; omega))
  clear hb1 bx HV
  have q0 := bR.cell0
  have q1 := bR.cell1
  have z0 := bR.frozen 0
  have z1 := bR.frozen 1
  have HS := Lib.hid (bR.store (.slice none 0 0) (.slice none 0 0))
  have HW := Lib.hid (below_store hbel (B := w.heap.size + 1 + 1) (by omega) (.slice none 0 0) (.slice none 0 0))
  clear bR hbel
  go_wp2
  obtain ⟨W3, hW3⟩ : ∃ W3, W3 = (w1.setCell ⟨w.heap.size + 1 + 1, 0, none⟩ (.slice none 0 0)).setCell ⟨w.heap.size + 1 + 1, 1, none⟩ (.slice none 0 0) := ⟨_, rfl⟩
  rw [← hW3]
  rw [← hW3] at HS HW
  refine bodyPost_ret (v := .tuple #[.agg #[.slice none 0 0, .slice none 0 0], .int .i64 8]) (by simp [results, Tryz.results8, go_sem, HS.out.cell0, HS.out.cell1]) rfl (envRd_none HW.out)

set_option maxHeartbeats 2000000 in
set_option maxRecDepth 100000 in
theorem rapply_env (l : List Sh) (fs : List Fx) (cs : List Ch) (ad af ac : Option Addr) (cap cf cc : Nat) (w : World)
    (HV : Hid (∀ W, Below w.heap.size w W → Calls Tryz.prog 14 #[.agg #[.slice ad l.length cap]] W fun e w' => e = .returned (.bool (scnB l)) ∧ Below W.heap.size W w'))
    (HC : Hid (∀ W, Below w.heap.size w W → Calls Tryz.prog 20 #[.agg #[.slice af fs.length cf, .slice ac cs.length cc]] W fun e w' => e = .returned (.int .i64 (envErr fs cs)) ∧ Below W.heap.size W w'))
    (hv : scnB l = true) (he : envErr fs cs ≠ 0) :
    Calls Tryz.prog 8 #[.agg #[.slice ad l.length cap], .agg #[.slice af fs.length cf, .slice ac cs.length cc]] w (EnvRd w (applyE l fs cs) (applyF l fs cs) (applyC l fs cs)) := by
  obtain ⟨e1, e2, e3⟩ := apply_env (fs := fs) (cs := cs) hv he
  rw [hv] at HV
  rw [e1, e2, e3]
  clear e1 e2 e3 hv
  generalize envErr fs cs = E at HC he ⊢
  have t1 : (E != 0) = true := by rw [bne_iff_ne]; exact he
  have bx := Lib.hid (fun (o1 o2 : Obj) => Boxed2.new ((w.alloc o1).alloc o2) (.slice none 0 0) (.slice none 0 0) 28)
  have bx1 := Lib.hid (fun (o1 o2 : Obj) => (Boxed2.new (w.alloc o1) (.slice af fs.length cf) (.slice ac cs.length cc) 28).alloc o2)
  clear he
  go_enter Tryz.func8, Tryz.ntmps8
  go_wp2_with fail
  refine (HV.out _ (below_a3 _ _ _ _)).mono ?_
  rintro e w1 ⟨rfl, hb1⟩
  have hs1 := hb1.size
  simp at hs1
  have bR := (bx.out _ _).below hb1
  have bE := (bx1.out _ _).below hb1
  simp at bR bE
  have hbel : Below w.heap.size w w1 := (below_a3 _ _ _ _).trans (hb1.mono (by simp; omega))
  clear hb1 bx bx1 HV
  have k0 := bE.cell0
  have k1 := bE.cell1
  go_wp2_with fail
  refine (HC.out _ hbel).mono ?_
  rintro e w2 ⟨rfl, hb2⟩
  have bR2 := bR.below hb2
  have hbel2 := hbel.trans (hb2.mono hbel.size)
  clear k0 k1 bR bE hbel hb2 HC
  have q0 := bR2.cell0
  have q1 := bR2.cell1
  have z0 := bR2.frozen 0
  have z1 := bR2.frozen 1
  have HS := Lib.hid (bR2.store (.slice none 0 0) (.slice none 0 0))
  have HW := Lib.hid (below_store hbel2 (B := w.heap.size + 1 + 1) (by omega) (.slice none 0 0) (.slice none 0 0))
  clear bR2 hbel2
  go_wp2
  obtain ⟨W3, hW3⟩ : ∃ W3, W3 = (w2.setCell ⟨w.heap.size + 1 + 1, 0, none⟩ (.slice none 0 0)).setCell ⟨w.heap.size + 1 + 1, 1, none⟩ (.slice none 0 0) := ⟨_, rfl⟩
  rw [← hW3]
  rw [← hW3] at HS HW
  refine bodyPost_ret (v := .tuple #[.agg #[.slice none 0 0, .slice none 0 0], .int .i64 E]) (by simp [results, Tryz.results8, go_sem, HS.out.cell0, HS.out.cell1]) rfl (envRd_none HW.out)

theorem newF_snoc {l : List Sh} {fs : List Fx} {k : Nat} {f : Fx} (hf : fs[k]? = some f) : ((fs.take (k + 1)).map (newF l)) = ((fs.take k).map (newF l)) ++ [newF l f] := by
  rw [take_snoc_get hf, List.map_append]; rfl

set_option maxHeartbeats 4000000 in
set_option maxRecDepth 100000 in
theorem rapply_ok (l : List Sh) (fs : List Fx) (cs : List Ch) (ad af ac : Option Addr) (cap cf cc : Nat) (w : World) (hn : fs.length ≤ 1100000) (hm : cs.length ≤ 1100000)
    (HV : Hid (∀ W, Below w.heap.size w W → Calls Tryz.prog 14 #[.agg #[.slice ad l.length cap]] W fun e w' => e = .returned (.bool (scnB l)) ∧ Below W.heap.size W w'))
    (HC : Hid (∀ W, Below w.heap.size w W → Calls Tryz.prog 20 #[.agg #[.slice af fs.length cf, .slice ac cs.length cc]] W fun e w' => e = .returned (.int .i64 (envErr fs cs)) ∧ Below W.heap.size W w'))
    (HSh : Hid (∀ W f, Below w.heap.size w W → f ∈ fs → Calls Tryz.prog 21 #[.agg #[.slice ad l.length cap], .agg #[.string f.nm, .int .i64 f.d, .string f.vl]] W (ShiftedPost W l f)))
    (hv : scnB l = true) (he : envErr fs cs = 0)
    (hf : Rd Fx.cells 3 w af fs) (sc : Sl w (.slice ac cs.length cc) 4 cs.length (cs.flatMap Ch.cells)) (hac : ac = none → cc = 0) :
    Calls Tryz.prog 8 #[.agg #[.slice ad l.length cap], .agg #[.slice af fs.length cf, .slice ac cs.length cc]] w (EnvRd w (applyE l fs cs) (applyF l fs cs) (applyC l fs cs)) := by
  have HNum : Hid (∀ (k : Nat) (f : Fx), fs[k]? = some f → errs ((fs.take k).map (newE l)) = 0 → newE l f ≠ 0 → applyE l fs cs = newE l f ∧ applyF l fs cs = [] ∧ applyC l fs cs = []) := fun k f h h0 hx => apply_num hv he h h0 hx
  have HOk : Hid (errs (fs.map (newE l)) = 0 → applyE l fs cs = 0 ∧ applyF l fs cs = fs.map (newF l) ∧ applyC l fs cs = cs) := fun h => apply_ok hv he h
  rw [hv] at HV
  rw [he] at HC
  clear hv he
  have Rfs := Lib.hid hf
  have Scs := Lib.hid sc
  have Hac := Lib.hid hac
  obtain ⟨i0, ji0, jz0, js0, jb0⟩ := info_parts info_fixing
  obtain ⟨i1, ji1, jz1, js1, jb1⟩ := info_parts info_choice
  clear hf sc hac
  have bx := Lib.hid (fun (o1 o2 : Obj) => Boxed2.new ((w.alloc o1).alloc o2) (.slice none 0 0) (.slice none 0 0) 28)
  have bx1 := Lib.hid (fun (o1 o2 : Obj) => (Boxed2.new (w.alloc o1) (.slice af fs.length cf) (.slice ac cs.length cc) 28).alloc o2)
  have bx0 := Lib.hid (fun (o1 o2 : Obj) => ((BoxN.new w [.slice ad l.length cap] 24).alloc o1).alloc o2)
  go_enter Tryz.func8, Tryz.ntmps8
  go_wp2_with fail
  refine (HV.out _ (below_a3 _ _ _ _)).mono ?_
  rintro e w1 ⟨rfl, hb1⟩
  have hs1 := hb1.size
  simp at hs1
  have bR := (bx.out _ _).below hb1
  have bE := (bx1.out _ _).below hb1
  have bS := (bx0.out _ _).below hb1 (by simp; omega)
  simp at bR bE
  have hbel : Below w.heap.size w w1 := (below_a3 _ _ _ _).trans (hb1.mono (by simp; omega))
  clear hb1 bx bx1 bx0 HV
  have k0 := bE.cell0
  have k1 := bE.cell1
  go_wp2_with fail
  refine (HC.out _ hbel).mono ?_
  rintro e w2 ⟨rfl, hb2⟩
  have hs2 := hb2.size
  have bR2 := bR.below hb2
  have bE2 := bE.below hb2
  have bS2 := bS.below hb2 (by omega)
  have hbel2 := hbel.trans (hb2.mono hbel.size)
  clear k0 k1 bR bE bS hbel hb2 HC
  have k0 := bE2.cell0
  have k1 := bE2.cell1
  have hq2 : w.heap.size + 1 < w2.heap.size := by omega
  go_wp2_with (at_builtin; refine wpList_append_empty rfl _ _ 26 rfl 48 i1 _ 4 48 ul_choices ji1 jz1 js1 jb1 (by decide) _ ac cs.length cc (cs.flatMap Ch.cells) rfl rfl ((Scs.out.below hbel2).below (below_a1 _ _)) Hac.out (by omega) (by omega) ?_)
  intro ad3 cap3 w3 hsl3 hg3 hb3
  have hbA := (below_a1 w2 (.cells #[] 48)).trans (hb3.mono (by simp))
  have bR3 := bR2.below hbA
  have bE3 := bE2.below hbA
  have bS3 := bS2.below hbA (by omega)
  have hbel3 := hbel2.trans (hbA.mono hbel2.size)
  have hs3 := hbA.size
  have Hg3 : Hid (cs.length = 0 ∨ ∃ g, ad3 = some ⟨g, 0, none⟩ ∧ w.heap.size + 1 + 1 < g) := by
    rcases hg3 with h | ⟨g, e, hh⟩
    · exact .inl (by rw [h]; rfl)
    · exact .inr ⟨g, e, by (have h3 : w2.heap.size + 1 ≤ g := by simpa using hh); omega⟩
  clear k0 k1 bR2 bE2 bS2 hbel2 hbA hb3 hg3
  have bO := Boxed2.new w3 (.slice none 0 0) (.slice ad3 cs.length cap3) 28
  have hb4 := below_a1 w3 (.cells #[.slice none 0 0, .slice ad3 cs.length cap3] 28)
  have HSl := Lib.hid hsl3
  have HbR := Lib.hid bR3
  have HbE := Lib.hid bE3
  have HbS := Lib.hid bS3
  have Hbel := Lib.hid hbel3
  clear hsl3 bR3 bE3 bS3 hbel3
  go_wp2_with fail
  go_loopw [8] (fun i wr => ∃ (k : Nat) (adb : Option Addr) (capb : Nat), k ≤ fs.length ∧ i = .int .i64 k ∧ Hid (errs ((fs.take k).map (newE l)) = 0) ∧ wr.ownsRow (w3.heap.size + 1) 46 3 (.slice adb k capb) k (((fs.take k).map (newF l)).flatMap Fx.cells) ∧ Below w3.heap.size w3 wr ∧ Boxed2 wr w3.heap.size 28 (.slice adb k capb) (.slice ad3 cs.length cap3)) (fun i _ => fs.length - (intOf i).toNat)
  case atStart => exact ⟨0, none, 0, Nat.zero_le _, rfl, Lib.hid rfl, World.ownsRow_nil _ _ _ _, hb4, bO⟩
  case round =>
    clear hb4 bO
    obtain ⟨k, adb, capb, hk, rfl, HI, hown, hbr, bO⟩ := hrel
    have bE := HbE.out.low hbr (by omega)
    have bS := HbS.out.below hbr (by omega)
    have bR := HbR.out.low hbr (by omega)
    have k0 := bE.cell0
    have k1 := bE.cell1
    have u0 : wr.cell? ⟨w.heap.size, 0, none⟩ = some (.slice ad l.length cap) := bS.cell rfl
    have hzr := hbr.size
    have hO := bO.lt
    have hbel := Hbel.out.trans (hbr.mono (by omega))
    have hq0 : w.heap.size < wr.heap.size := by omega
    have hq1 : w.heap.size + 1 < wr.heap.size := by omega
    by_cases hlt : k < fs.length
    · obtain ⟨f, hf⟩ : ∃ f, fs[k]? = some f := ⟨_, List.getElem?_eq_getElem hlt⟩
      have HRf := ((Rfs.out.below hbel).fx hf)
      have hfm := List.mem_of_getElem? hf
      have HF := Lib.hid hf
      obtain ⟨b, off, rfl, hc1, hc2, hc3⟩ := HRf
      have hblk : b < wr.heap.size := World.block_lt_of_cell? wr _ hc1
      have hk1 : (0 : Int) ≤ (k : Int) := by omega
      have hk2 : (k : Int) < (fs.length : Int) := by omega
      have HCl := Lib.hid (HSh.out _ f (hbel.alloc (by omega) (.cells #[.string f.nm, .int .i64 f.d, .string f.vl] 46)) hfm)
      have bT := Lib.hid (BoxN.new wr [.string f.nm, .int .i64 f.d, .string f.vl] 46)
      clear hf hfm bE bS
      go_wp2_with fail
      refine HCl.out.mono ?_
      rintro e w5 ⟨t, rfl, ht, hb5⟩
      have hs5 := hb5.size
      simp at hs5
      have bT5 := bT.out.below hb5 (by simp)
      have hb6 : Below wr.heap.size wr w5 := (below_a1 _ _).trans (hb5.mono (by simp))
      clear hb5 bT HCl k0 k1 u0 hc1 hc2 hc3
      have bO5 := bO.low hb6 hO
      have hbr5 : Below w3.heap.size w3 w5 := hbr.trans (hb6.mono (by omega))
      by_cases hx : newE l f = 0
      · have HI2 : Hid (errs ((fs.take (k + 1)).map (newE l)) = 0) := errs_take_map_snoc HF.out HI.out hx
        have hown5 := ownsRow_below' hown hb6
        obtain rfl := ht hx
        have HSn : Hid (((fs.take (k + 1)).map (newF l)) = ((fs.take k).map (newF l)) ++ [newF l f]) := newF_snoc HF.out
        have p0 : w5.cell? ⟨wr.heap.size, 0, none⟩ = some (.string f.nm) := bT5.cell rfl
        have p1 : w5.cell? ⟨wr.heap.size, 1, none⟩ = some (.int .i64 f.d) := bT5.cell rfl
        have r0 := bO5.cell0
        have r1 := bO5.cell1
        have hO5 := bO5.lt
        have HO := Lib.hid hown5.lt
        rw [hx]
        clear hx hown bO hb6 hbr bT5 bR hbel
        go_wp2_with (at_builtin; refine wpList_append_own _ rfl _ _ 25 rfl (w3.heap.size + 1) 46 i0 (.agg #[.string ⟨#[]⟩, .int .i64 0, .string ⟨#[]⟩]) 3 40 ul_fixings ji0 jz0 js0 jb0 rfl (by decide) _ _ _ rfl (hown5.alloc _) ⟨w5.heap.size, 0, none⟩ 1 1 [.string f.nm, .int .i64 f.d, .string (newV l f)] rfl rfl (cell_three_new _ _ _ _ _) (fx_oneCell (newF l f)) ?d1 ?d2 ?d3 ?_)
        case d1 => unfold maxLen; omega
        case d2 => omega
        case d3 => simp; omega
        intro v2 w6 hown6 hgrow6 _
        have bO6 : Boxed2 w6 w3.heap.size 28 (.slice adb k capb) (.slice ad3 cs.length cap3) := (bO5.alloc _).of_block (hgrow6.block _ (by simp; omega) (fun e => by have := (HO.out _ e.symm).1; omega))
        have hbr6 : Below w3.heap.size w3 w6 := (hbr5.alloc (by omega) _).grown hgrow6 (by simp; omega) (fun k hk => by have := (HO.out k hk).1; omega)
        obtain ⟨ad7, cap7, rfl, _⟩ := Sl.of_owns hown6
        have hown7 : w6.ownsRow (w3.heap.size + 1) 46 3 (.slice ad7 (k + 1) cap7) (k + 1) (((fs.take (k + 1)).map (newF l)).flatMap Fx.cells) := by
          rw [HSn.out, List.flatMap_append]; simpa [Fx.cells, newF] using hown6
        have rr0 := bO6.cell0
        have rr1 := bO6.cell1
        have zz0 := bO6.frozen 0
        clear hgrow6 hown6 hown5 bO5 hbr5 r0 r1
        go_wp2
        go_roundw
        case rel => exact ⟨k + 1, ad7, cap7, by omega, by go_num, HI2, ownsRow_setCell_below hown7 (a := ⟨w3.heap.size, 0, none⟩) (by show w3.heap.size < w3.heap.size + 1; omega) _, hbr6.setCell (p := ⟨w3.heap.size, 0, none⟩) (Nat.le_refl _) _, bO6.set0 _⟩
        case measure => simp [intOf]; omega
      · obtain ⟨e1, e2, e3⟩ := HNum.out k f HF.out HI.out hx
        have t1 : (newE l f != 0) = true := by rw [bne_iff_ne]; exact hx
        have bR5 := bR.low hb6 (by omega)
        have hbel5 := hbel.trans (hb6.mono (by omega))
        clear ht bR hb6 bO bO5 hbr hbr5 hown bT5
        have q0 := bR5.cell0
        have q1 := bR5.cell1
        have z0 := bR5.frozen 0
        have z1 := bR5.frozen 1
        have HS := Lib.hid (bR5.store (.slice none 0 0) (.slice none 0 0))
        have HW : Hid (EnvRd w (applyE l fs cs) (applyF l fs cs) (applyC l fs cs) (.returned (.tuple #[.agg #[.slice none 0 0, .slice none 0 0], .int .i64 (newE l f)])) ((w5.setCell ⟨w.heap.size + 1 + 1, 0, none⟩ (.slice none 0 0)).setCell ⟨w.heap.size + 1 + 1, 1, none⟩ (.slice none 0 0))) := by show EnvRd _ _ _ _ _ _; rw [e1, e2, e3]; exact envRd_none (below_store hbel5 (B := w.heap.size + 1 + 1) (by omega) (.slice none 0 0) (.slice none 0 0))
        clear bR5 hbel5 e1 e2 e3 hx
        go_wp2
        obtain ⟨W3, hW3⟩ : ∃ W3, W3 = (w5.setCell ⟨w.heap.size + 1 + 1, 0, none⟩ (.slice none 0 0)).setCell ⟨w.heap.size + 1 + 1, 1, none⟩ (.slice none 0 0) := ⟨_, rfl⟩
        rw [← hW3]
        rw [← hW3] at HS HW
        refine bodyPost_ret (v := .tuple #[.agg #[.slice none 0 0, .slice none 0 0], .int .i64 (newE l f)]) (by simp [results, Tryz.results8, go_sem, HS.out.cell0, HS.out.cell1]) rfl HW.out
    · obtain rfl : k = fs.length := by omega
      have hI := HI.out
      rw [List.take_length] at hI hown
      obtain ⟨e1, e2, e3⟩ := HOk.out hI
      have q0 := bR.cell0
      have q1 := bR.cell1
      have z0 := bR.frozen 0
      have z1 := bR.frozen 1
      have r0 := bO.cell0
      have r1 := bO.cell1
      have HS := Lib.hid (bR.store (.slice adb fs.length capb) (.slice ad3 cs.length cap3))
      have HW : Hid (EnvRd w (applyE l fs cs) (applyF l fs cs) (applyC l fs cs) (.returned (.tuple #[.agg #[.slice adb fs.length capb, .slice ad3 cs.length cap3], .int .i64 0])) ((wr.setCell ⟨w.heap.size + 1 + 1, 0, none⟩ (.slice adb fs.length capb)).setCell ⟨w.heap.size + 1 + 1, 1, none⟩ (.slice ad3 cs.length cap3))) := by
        show EnvRd _ _ _ _ _ _
        rw [e1, e2, e3]
        refine ⟨adb, capb, ad3, cap3, by rw [List.length_map], ?_, ?_, below_store hbel (by omega) _ _⟩
        · exact rd_fx (ownsRow_setCell_below (ownsRow_setCell_below hown (a := ⟨w.heap.size + 1 + 1, 0, none⟩) (by show w.heap.size + 1 + 1 < w3.heap.size + 1; omega) (.slice adb fs.length capb)) (a := ⟨w.heap.size + 1 + 1, 1, none⟩) (by show w.heap.size + 1 + 1 < w3.heap.size + 1; omega) (.slice ad3 cs.length cap3))
        · exact Rd.of_sl (enc := Ch.cells) (m := 4) (fun _ => rfl) (by decide) ((HSl.out.below hbr).stored Hg3.out _ _)
      clear e1 e2 e3 hI hown hbel bO bR bE bS
      go_wp2
      obtain ⟨W3, hW3⟩ : ∃ W3, W3 = (wr.setCell ⟨w.heap.size + 1 + 1, 0, none⟩ (.slice adb fs.length capb)).setCell ⟨w.heap.size + 1 + 1, 1, none⟩ (.slice ad3 cs.length cap3) := ⟨_, rfl⟩
      rw [← hW3]
      rw [← hW3] at HS HW
      refine bodyPost_ret (v := .tuple #[.agg #[.slice adb fs.length capb, .slice ad3 cs.length cap3], .int .i64 0]) (by simp [results, Tryz.results8, go_sem, HS.out.cell0, HS.out.cell1]) rfl HW.out

theorem rapply_any (l : List Sh) (fs : List Fx) (cs : List Ch) (ad af ac : Option Addr) (cap cf cc : Nat) (w : World) (hl : l.length ≤ 1100000) (hn : fs.length ≤ 1100000) (hm : cs.length ≤ 1100000)
    (hr : Rd Sh.cells 4 w ad l) (hs : ∀ x ∈ l, x.small ∧ x.ra.size ≤ 1000000 ∧ x.ex.size ≤ 1000000)
    (hf : Rd Fx.cells 3 w af fs) (hc : Rd Ch.cells 4 w ac cs) (hfs : ∀ f ∈ fs, f.small ∧ f.vl.size ≤ 1000000) (hcs : ∀ c ∈ cs, c.small) (sc : Sl w (.slice ac cs.length cc) 4 cs.length (cs.flatMap Ch.cells)) (hac : ac = none → cc = 0) :
    Calls Tryz.prog 8 #[.agg #[.slice ad l.length cap], .agg #[.slice af fs.length cf, .slice ac cs.length cc]] w (EnvRd w (applyE l fs cs) (applyF l fs cs) (applyC l fs cs)) := by
  have HV := Lib.hid (fun W (h : Below w.heap.size w W) => valid_any l ad cap W hl (hr.below h) (fun x hx => (hs x hx).1))
  have HC := Lib.hid (fun W (h : Below w.heap.size w W) => refEnv_any fs cs af ac cf cc W hn hm (hf.below h) (hc.below h) (fun x hx => (hfs x hx).1) hcs)
  have HSh := Lib.hid (fun W f (h : Below w.heap.size w W) (hx : f ∈ fs) => shifted_any l ad cap f W hl (hr.below h) (fun x hx => (hs x hx).2) (hfs f hx).2)
  cases hv : scnB l with
  | false => exact rapply_bad l fs cs ad af ac cap cf cc w HV hv
  | true =>
    by_cases he : envErr fs cs = 0
    · exact rapply_ok l fs cs ad af ac cap cf cc w hn hm HV HC HSh hv he hf sc hac
    · exact rapply_env l fs cs ad af ac cap cf cc w HV HC hv he
end Go.Proofs.YtofbngpckllkoacGreat

namespace Go.Proofs.YtofbngpckllkoacGreat
open Go.RowKit

set_option maxHeartbeats 4000000 in
set_option maxRecDepth 100000 in
theorem ratadd_any (a b : ByteArray) (w : World) (ha : a.size ≤ 1000000) (hb : b.size ≤ 1000000) :
    Calls Tryz.prog 19 #[.string a, .string b] w (RatPost2 w (sumS a b ((ival (bl (pN a)) * ival (bl (pD b))) + (ival (bl (pN b)) * ival (bl (pD a))))) (sumE a b ((ival (bl (pN a)) * ival (bl (pD b))) + (ival (bl (pN b)) * ival (bl (pD a)))))) := by
  have HB := Lib.hid (both_ab a b w (by omega) (by omega))
  have Hs := Lib.hid (part_sizes a b ha hb)
  clear ha hb
  go_enter Tryz.func19, Tryz.ntmps19
  go_wp2_with fail
  refine HB.out.mono ?_
  rintro e w1 ⟨P, rfl, hP, hp, hb1⟩
  go_wp2_with fail
  refine (keepr_any P 44 w1).mono ?_
  rintro e w2 ⟨rfl, hm, hb2⟩
  go_wp2_with fail
  refine (keepr_any P 46 w2).mono ?_
  rintro e w3 ⟨rfl, hk, hb3⟩
  obtain ⟨Bm, hBm⟩ : ∃ B, B = w1.heap.size := ⟨_, rfl⟩
  obtain ⟨Ba, hBa⟩ : ∃ B, B = w2.heap.size := ⟨_, rfl⟩
  rw [← hBm] at hm ⊢
  rw [← hBa] at hk ⊢
  obtain ⟨n0, hn0⟩ : ∃ n, n = pN a := ⟨_, rfl⟩
  obtain ⟨n1, hn1⟩ : ∃ n, n = bN1 a b := ⟨_, rfl⟩
  obtain ⟨d0, hd0⟩ : ∃ n, n = pD a := ⟨_, rfl⟩
  obtain ⟨d1, hd1⟩ : ∃ n, n = bD1 a b := ⟨_, rfl⟩
  rw [← hn0, ← hn1, ← hd0, ← hd1] at hp Hs
  have HN := Lib.hid (And.intro hn0 (And.intro hn1 (And.intro hd0 hd1)))
  clear hn0 hn1 hd0 hd1
  obtain ⟨z0, z1, z2, z3⟩ := Hs.out
  have st0 : PSt w w3.drew P Bm Ba 44 46 n0 n1 d0 d1 (bE a b) := PSt.drew ⟨(hp.below hb2).below hb3, hm.below hb3, hk, (hb1.trans (hb2.mono hb1.size)).trans (hb3.mono (Nat.le_trans hb1.size hb2.size)), hP⟩
  have p := (hp.below hb2).below hb3
  obtain ⟨h0, h1, h2, h3, _⟩ := p.cells
  clear p hp hm hk hb1 hb2 hb3 hBm hBa hP HB Hs
  obtain ⟨e0, he0⟩ : ∃ e, e = bE a b := ⟨_, rfl⟩
  rw [← he0] at st0
  have HE0 := Lib.hid he0
  clear he0
  have HM : Hid (∀ W er x y, PSt w W P Bm Ba 44 46 n0 n1 d0 d1 er → x.size ≤ 1100000 → y.size ≤ 1100000 → Calls Tryz.prog 69 #[.string x, .string y, .pointer (some ⟨Bm, 0, none⟩), .pointer (some ⟨Bm + 1, 0, none⟩)] W fun e w' => ∃ t er', e = .returned (.string t) ∧ Hid (StepR (bl x) (bl y) (ival (bl x) * ival (bl y)) er (bl t) er') ∧ PSt w w' P Bm Ba 44 46 n0 n1 d0 d1 er' ∧ t.size ≤ 1100000 ∧ w'.cell? ⟨P, 0, none⟩ = some (.string n0) ∧ w'.cell? ⟨P, 1, none⟩ = some (.string n1) ∧ w'.cell? ⟨P, 2, none⟩ = some (.string d0) ∧ w'.cell? ⟨P, 3, none⟩ = some (.string d1)) := by
    intro W er x y hst hx hy
    refine (pst_mul hst x y hx hy).mono ?_
    rintro e w' ⟨t, er', rfl, hr, hst'⟩
    obtain ⟨c0, c1, c2, c3, _⟩ := hst'.p.cells
    exact ⟨t, er', rfl, hr, hst', by have := hr.out.len; rw [← bl_length]; omega, c0, c1, c2, c3⟩
  have HO : Hid (∀ W er x y, PSt w W P Bm Ba 44 46 n0 n1 d0 d1 er → x.size ≤ 1100000 → y.size ≤ 1100000 → Calls Tryz.prog 69 #[.string x, .string y, .pointer (some ⟨Ba, 0, none⟩), .pointer (some ⟨Ba + 1, 0, none⟩)] W fun e w' => ∃ t er', e = .returned (.string t) ∧ Hid (StepR (bl x) (bl y) (ival (bl x) + ival (bl y)) er (bl t) er') ∧ PSt w w' P Bm Ba 44 46 n0 n1 d0 d1 er' ∧ t.size ≤ 1100000 ∧ w'.cell? ⟨P, 0, none⟩ = some (.string n0) ∧ w'.cell? ⟨P, 1, none⟩ = some (.string n1) ∧ w'.cell? ⟨P, 2, none⟩ = some (.string d0) ∧ w'.cell? ⟨P, 3, none⟩ = some (.string d1)) := by
    intro W er x y hst hx hy
    refine (pst_add hst x y hx hy).mono ?_
    rintro e w' ⟨t, er', rfl, hr, hst'⟩
    obtain ⟨c0, c1, c2, c3, _⟩ := hst'.p.cells
    exact ⟨t, er', rfl, hr, hst', by have := hr.out.len; rw [← bl_length]; omega, c0, c1, c2, c3⟩
  have HD : Hid (∀ W er x y, PSt w W P Bm Ba 44 46 n0 n1 d0 d1 er → x.size ≤ 1100000 → y.size ≤ 1100000 → (er = 0 → intErr (bl x) = 0 ∧ intErr (bl y) = 0 ∧ dval (body (bl y)) ≠ 0) → Calls Tryz.prog 45 #[.pointer (some ⟨P, 0, none⟩), .string x, .string y] W fun e w' => ∃ s er2, e = .returned (.tuple #[.string s, .int .i64 er2]) ∧ Hid (MadeR (bl x) (bl y) er (bl s) er2) ∧ Below w.heap.size w w' ∧ w'.cell? ⟨P, 0, none⟩ = some (.string n0) ∧ w'.cell? ⟨P, 1, none⟩ = some (.string n1) ∧ w'.cell? ⟨P, 2, none⟩ = some (.string d0) ∧ w'.cell? ⟨P, 3, none⟩ = some (.string d1)) := by
    intro W er x y hst hx hy hpre
    have hcc := fun W' (hb : Below W.heap.size W W') => (hst.p.below hb).cells
    by_cases he : er = 0
    · subst he
      obtain ⟨i1, i2, i3⟩ := hpre rfl
      refine (made_ok x y P n0 n1 d0 d1 W hst.p _ (Lib.hid fun W' => make_ok x y W' hx hy i1 i2 i3)).mono ?_
      rintro e w' ⟨s, rfl, hs, hb⟩
      obtain ⟨c0, c1, c2, c3, _⟩ := hcc _ hb
      exact ⟨s, 0, rfl, .inr ⟨rfl, rfl, hs⟩, hst.b.trans (hb.mono hst.b.size), c0, c1, c2, c3⟩
    · refine (made_err x y P n0 n1 d0 d1 er W hst.p he).mono ?_
      rintro e w' ⟨rfl, hb⟩
      obtain ⟨c0, c1, c2, c3, _⟩ := hcc _ hb
      exact ⟨_, er, rfl, .inl ⟨he, rfl, rfl⟩, hst.b.trans (hb.mono hst.b.size), c0, c1, c2, c3⟩
  have HC : Hid (∀ t1 t2 t3 t4 e1 e2 e3 e4, StepR (bl n0) (bl d1) (ival (bl n0) * ival (bl d1)) e0 t1 e1 → StepR (bl n1) (bl d0) (ival (bl n1) * ival (bl d0)) e1 t2 e2 → StepR t1 t2 (ival t1 + ival t2) e2 t3 e3 → StepR (bl d0) (bl d1) (ival (bl d0) * ival (bl d1)) e3 t4 e4 → Chain a b (fun x y => x + y) t1 t2 t3 t4 e1 e2 e3 e4) := by
    obtain ⟨q1, q2, q3, q4⟩ := HN.out
    have q5 := HE0.out
    subst q1 q2 q3 q4 q5
    exact fun _ _ _ _ _ _ _ _ r1 r2 r3 r4 => ⟨r1, r2, r3, r4⟩
  clear HN HE0
  go_wp2_with fail
  go_region_held3 (fun w' => w'.cell? ⟨P, 0, none⟩ = some (.string n0) ∧ w'.cell? ⟨P, 1, none⟩ = some (.string n1) ∧ w'.cell? ⟨P, 2, none⟩ = some (.string d0) ∧ w'.cell? ⟨P, 3, none⟩ = some (.string d1))
    (first | assumption | exact ⟨by assumption, by assumption, by assumption, by assumption⟩ | go_keep)
    (first | (go_at_call 69; first | (refine (HM.out _ _ _ _ st3 z2 z3).mono ?_; rintro e w7 ⟨t4, e4, rfl, r4, st4, l4, p0, p1, p2, p3⟩) | (refine (HO.out _ _ _ _ st2 l1 l2).mono ?_; rintro e w6 ⟨t3, e3, rfl, r3, st3, l3, p0, p1, p2, p3⟩) | (refine (HM.out _ _ _ _ st1 z1 z2).mono ?_; rintro e w5 ⟨t2, e2, rfl, r2, st2, l2, p0, p1, p2, p3⟩) | (refine (HM.out _ _ _ _ st0 z0 z3).mono ?_; rintro e w4 ⟨t1, e1, rfl, r1, st1, l1, p0, p1, p2, p3⟩)) | (go_at_call 45; refine (HD.out _ _ _ _ st4 l3 l4 (fun h => by obtain ⟨h1, h2, h3, _⟩ := ((HC.out _ _ _ _ _ _ _ _ r1.out r2.out r3.out r4.out).done).2 h; exact ⟨h1, h2, h3⟩)).mono ?_; rintro e w8 ⟨s, e5, rfl, r5, hbz, p0, p1, p2, p3⟩))
  have HF : Hid (RatPost2 w (sumS a b ((ival (bl (pN a)) * ival (bl (pD b))) + (ival (bl (pN b)) * ival (bl (pD a))))) (sumE a b ((ival (bl (pN a)) * ival (bl (pD b))) + (ival (bl (pN b)) * ival (bl (pD a))))) (.returned (.tuple #[.string s, .int .i64 e5])) w8) := by
    have hc := (HC.out _ _ _ _ _ _ _ _ r1.out r2.out r3.out r4.out).done
    rcases r5.out with ⟨h1, h2, rfl⟩ | ⟨h1, rfl, h2⟩
    · have hne : sumE a b ((ival (bl (pN a)) * ival (bl (pD b))) + (ival (bl (pN b)) * ival (bl (pD a)))) ≠ 0 := by rw [← hc.1]; exact h1
      refine ⟨s, ?_, ?_, hbz⟩
      · rw [hc.1]
      · rw [sumS, if_neg hne]; exact h2
    · refine ⟨s, ?_, ?_, hbz⟩
      · rw [← hc.1, h1]
      · rw [h2]; exact (hc.2 h1).2.2.2.2
  clear HC HD HO HM r1 r2 r3 r4 r5 st0 st1 st2 st3 st4
  go_wp2
  go_ret2
  exact HF.out
end Go.Proofs.YtofbngpckllkoacGreat
