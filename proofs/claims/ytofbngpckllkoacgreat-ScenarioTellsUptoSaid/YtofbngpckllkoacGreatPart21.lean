/-
  novationref08.TwinEnv.  Printed by tools/gentwin.py. novationref08.GreatEnv.  Printed by tools/gengreat.py. The law ScenarioTells: what follows on the copies. The state within the region that makes the copies.
-/
import Derived.Test.YtofbngpckllkoacGreatPart12
import Derived.Test.YtofbngpckllkoacGreatPart06
import Derived.Test.YtofbngpckllkoacGreatPart02
import Derived.Deep.CutBlock
import Derived.Test.YtofbngpckllkoacGreatPart18
import Derived.Test.YtofbngpckllkoacGreatPart20
import Derived.Test.YtofbngpckllkoacGreatPart16
import Derived.Test.YtofbngpckllkoacGreatPart07
namespace Go.Proofs.YtofbngpckllkoacGreat
open Go.RowKit

theorem Ext.stepg {w0 w w2 : World} {m N : Nat} {ad : Option Addr} (hb : Below w.heap.size w w2) (hg : m = 0 ∨ ∃ g, ad = some ⟨g, 0, none⟩ ∧ w.heap.size ≤ g) (hz : N < w0.heap.size) (h : Ext w0 w) :
    Ext w0 w2 ∧ (m = 0 ∨ ∃ g, ad = some ⟨g, 0, none⟩ ∧ N < g) :=
  ⟨Below.trans h (hb.mono (Below.size h)), hg.imp id fun ⟨g, e, hh⟩ => ⟨g, e, by have := Below.size h; omega⟩⟩
def TwinPost (w : World) (fs : List Fx) (cs : List Ch) (e : Ending) (w' : World) : Prop :=
  ∃ a1 c1 a2 c2, e = .returned (.agg #[.slice a1 fs.length c1, .slice a2 cs.length c2]) ∧ Sl w' (.slice a1 fs.length c1) 3 fs.length (fs.flatMap Fx.cells) ∧ Sl w' (.slice a2 cs.length c2) 4 cs.length (cs.flatMap Ch.cells) ∧ Below w.heap.size w w'

set_option maxHeartbeats 2000000 in
set_option maxRecDepth 100000 in
theorem twin_any (fs : List Fx) (cs : List Ch) (af ac : Option Addr) (cf cc : Nat) (w : World) (hn : fs.length ≤ 1100000) (hm : cs.length ≤ 1100000)
    (hf : Sl w (.slice af fs.length cf) 3 fs.length (fs.flatMap Fx.cells)) (hc : Sl w (.slice ac cs.length cc) 4 cs.length (cs.flatMap Ch.cells)) (haf : af = none → cf = 0) (hac : ac = none → cc = 0) :
    Calls Tryz.prog 6 #[.agg #[.slice af fs.length cf, .slice ac cs.length cc]] w (TwinPost w fs cs) := by
  obtain ⟨i0, hi0, hz0, hs0, hb0⟩ := info_parts info_fixing
  obtain ⟨i1, hi1, hz1, hs1, hb1⟩ := info_parts info_choice
  have Hf := Lib.hid hf
  have Hc := Lib.hid hc
  have Naf := Lib.hid haf
  have Nac := Lib.hid hac
  clear hf hc haf hac
  go_enter Tryz.func6, Tryz.ntmps6
  go_wp2
  obtain ⟨W0, hW0⟩ : ∃ W0, W0 = ((w.alloc (.cells #[.slice af fs.length cf, .slice ac cs.length cc] 28)).alloc (.cells #[.slice none 0 0, .slice none 0 0] 28)) := ⟨_, rfl⟩
  rw [← hW0]
  have b0 : Boxed2 W0 w.heap.size 28 (.slice af fs.length cf) (.slice ac cs.length cc) := by rw [hW0]; exact (Boxed2.new _ _ _ _).alloc _
  have b1 : Boxed2 W0 (w.heap.size + 1) 28 (.slice none 0 0) (.slice none 0 0) := by
    rw [hW0]
    have h := Boxed2.new (w.alloc (.cells #[.slice af fs.length cf, .slice ac cs.length cc] 28)) (.slice none 0 0) (.slice none 0 0) 28
    simp at h
    exact h
  have hbl : Below w.heap.size w W0 := by rw [hW0]; exact below_a2 _ _ _
  have hz : w.heap.size + 1 < W0.heap.size := b1.lt
  clear hW0
  have k0 := b0.cell0
  have k1 := b0.cell1
  have r0 := b1.cell0
  have r1 := b1.cell1
  have z0 := b1.frozen 0
  have z1 := b1.frozen 1
  have B1 := Lib.hid b1
  clear b0 b1
  go_region_held3 (fun w' => Below w.heap.size w w' ∧ w'.cell? ⟨w.heap.size, 0, none⟩ = some (.slice af fs.length cf) ∧ w'.cell? ⟨w.heap.size, 1, none⟩ = some (.slice ac cs.length cc))
    (first | assumption | exact ⟨by assumption, by assumption, by assumption⟩ | (refine ⟨?_, ?_⟩; (first | exact hbl.drew | exact Below.alloc (And.left (by assumption)) (Below.size (And.left (by assumption))) _ | exact below_store (And.left (by assumption)) (by omega) _ _ | exact below_store (by assumption) (by omega) _ _); (first | go_keep | (refine ⟨?_, ?_⟩ <;> (rw [World.cell?_setCell_far _ _ _ _ (by show w.heap.size + 1 ≠ w.heap.size; omega), World.cell?_setCell_far _ _ _ _ (by show w.heap.size + 1 ≠ w.heap.size; omega)]; assumption)))))
    (first | (refine step_append_empty rfl (.tmp 3) (.tmp 5) 25 rfl 46 i0 _ 3 40 ul_fixings hi0 hz0 hs0 hb0 (by decide) _ af fs.length cf (fs.flatMap Fx.cells) rfl rfl ?_ Naf.out (by omega) (by omega) ?_; (exact Hf.out.below (And.left (by assumption))); intro ad2 cap2 w2 hsl2 hg2 hbb2; have hxx2 : Ext W0 w2 ∧ (fs.length = 0 ∨ ∃ g, ad2 = some ⟨g, 0, none⟩ ∧ w.heap.size + 1 < g) := (by refine Ext.stepg hbb2 hg2 hz ?_; unfold Ext; repeat (first | exact hx2 | exact Below.refl _ _ | refine Below.drew ?_ | refine Below.alloc ?_ (by first | exact Nat.le_refl _ | exact Below.size hx2 | simp) _)); have hx2 := hxx2.1; have qb2 : Below w.heap.size w w2 := Below.trans (And.left (by assumption)) (hbb2.mono (Below.size (And.left (by assumption)))); have qa2 : w2.cell? ⟨w.heap.size, 0, none⟩ = some (.slice af fs.length cf) := Ext.cell hx2 k0; have qc2 : w2.cell? ⟨w.heap.size, 1, none⟩ = some (.slice ac cs.length cc) := Ext.cell hx2 k1) | (refine step_append_empty rfl (.tmp 7) (.tmp 9) 26 rfl 48 i1 _ 4 48 ul_choices hi1 hz1 hs1 hb1 (by decide) _ ac cs.length cc (cs.flatMap Ch.cells) rfl rfl ?_ Nac.out (by omega) (by omega) ?_; (exact Hc.out.below (And.left (by assumption))); intro ad3 cap3 w3 hsl3 hg3 hbb3; have hxx3 : Ext W0 w3 ∧ (cs.length = 0 ∨ ∃ g, ad3 = some ⟨g, 0, none⟩ ∧ w.heap.size + 1 < g) := (by refine Ext.stepg hbb3 hg3 hz ?_; unfold Ext; repeat (first | exact hx2 | exact Below.refl _ _ | refine Below.drew ?_ | refine Below.alloc ?_ (by first | exact Nat.le_refl _ | exact Below.size hx2 | simp) _)); have hx3 := hxx3.1; have qb3 : Below w.heap.size w w3 := Below.trans (And.left (by assumption)) (hbb3.mono (Below.size (And.left (by assumption)))); have qa3 : w3.cell? ⟨w.heap.size, 0, none⟩ = some (.slice af fs.length cf) := Ext.cell hx3 k0; have qc3 : w3.cell? ⟨w.heap.size, 1, none⟩ = some (.slice ac cs.length cc) := Ext.cell hx3 k1; have r3 := Ext.cell hx3 r0; have r4 := Ext.cell hx3 r1; have z3 : w3.frozen? ⟨w.heap.size + 1, 0, none⟩ = false := (hx3.below.frozen (p := ⟨w.heap.size + 1, 0, none⟩) hz).trans z0; have z4 : w3.frozen? ⟨w.heap.size + 1, 1, none⟩ = false := (hx3.below.frozen (p := ⟨w.heap.size + 1, 1, none⟩) hz).trans z1))
  all_goals
    go_wp2
    have HS := Lib.hid ((B1.out.below hx3).store (.slice ad2 fs.length cap2) (.slice ad3 cs.length cap3))
    have s2 : Sl w3 (.slice ad2 fs.length cap2) 3 fs.length (fs.flatMap Fx.cells) := by first | exact hsl2.below hbb3 | exact (hsl2.below ((Below.refl _ _).alloc (Nat.le_refl _) _)).below hbb3
    have HP : Hid (TwinPost w fs cs (.returned (.agg #[.slice ad2 fs.length cap2, .slice ad3 cs.length cap3])) ((w3.setCell ⟨w.heap.size + 1, 0, none⟩ (.slice ad2 fs.length cap2)).setCell ⟨w.heap.size + 1, 1, none⟩ (.slice ad3 cs.length cap3))) :=
      ⟨ad2, cap2, ad3, cap3, rfl, s2.stored hxx2.2 _ _, hsl3.stored hxx3.2 _ _, below_store qb3 (by omega) _ _⟩
    obtain ⟨W3, hW3⟩ : ∃ W3, W3 = (w3.setCell ⟨w.heap.size + 1, 0, none⟩ (.slice ad2 fs.length cap2)).setCell ⟨w.heap.size + 1, 1, none⟩ (.slice ad3 cs.length cap3) := ⟨_, rfl⟩
    rw [← hW3]
    rw [← hW3] at HS HP
    refine bodyPost_ret (v := .agg #[.slice ad2 fs.length cap2, .slice ad3 cs.length cap3]) (by simp [results, Tryz.results6, go_sem, HS.out.cell0, HS.out.cell1]) rfl HP.out
end Go.Proofs.YtofbngpckllkoacGreat

namespace Go.Proofs.YtofbngpckllkoacGreat
open Go.RowKit

def fxSum : List Fx → Nat
  | [] => 0
  | f :: l => f.nm.size + f.vl.size + fxSum l
def chSum : List Ch → Nat
  | [] => 0
  | f :: l => f.pt.size + f.nm.size + chSum l
theorem fxSum_append (l m : List Fx) : fxSum (l ++ m) = fxSum l + fxSum m := by
  induction l with
  | nil => simp [fxSum]
  | cons a l ih => simp [fxSum, ih]; omega
theorem chSum_append (l m : List Ch) : chSum (l ++ m) = chSum l + chSum m := by
  induction l with
  | nil => simp [chSum]
  | cons a l ih => simp [chSum, ih]; omega
theorem fxSum_le (l : List Fx) (h : ∀ f ∈ l, f.small) : fxSum l ≤ l.length * 2200000 := by
  induction l with
  | nil => simp [fxSum]
  | cons a l ih =>
    have h1 := h a (by simp)
    have h2 := ih (fun f hf => h f (by simp [hf]))
    simp only [fxSum, List.length_cons, Fx.small] at *
    omega
theorem chSum_le (l : List Ch) (h : ∀ f ∈ l, f.small) : chSum l ≤ l.length * 2200000 := by
  induction l with
  | nil => simp [chSum]
  | cons a l ih =>
    have h1 := h a (by simp)
    have h2 := ih (fun f hf => h f (by simp [hf]))
    simp only [chSum, List.length_cons, Ch.small] at *
    omega
theorem fxSum_snoc {l : List Fx} {k : Nat} {f : Fx} (h : l[k]? = some f) : fxSum (l.take (k + 1)) = fxSum (l.take k) + (f.nm.size + f.vl.size) := by
  rw [List.take_add_one, h, fxSum_append]; simp [fxSum]
theorem chSum_snoc {l : List Ch} {k : Nat} {f : Ch} (h : l[k]? = some f) : chSum (l.take (k + 1)) = chSum (l.take k) + (f.pt.size + f.nm.size) := by
  rw [List.take_add_one, h, chSum_append]; simp [chSum]
def greatB (fs : List Fx) (cs : List Ch) : Bool := decide (1100 < fs.length ∨ 1100 < cs.length ∨ 20000 < fxSum fs + chSum cs)

set_option maxHeartbeats 4000000 in
set_option maxRecDepth 100000 in
theorem great_loop (fs : List Fx) (cs : List Ch) (af ac : Option Addr) (cf cc : Nat) (w : World) (_hn : fs.length ≤ 1100000) (_hm : cs.length ≤ 1100000)
    (hf : Rd Fx.cells 3 w af fs) (hc : Rd Ch.cells 4 w ac cs) (hfs : ∀ f ∈ fs, f.small) (hcs : ∀ c ∈ cs, c.small) (h1 : ¬ 1100 < fs.length) (h2 : ¬ 1100 < cs.length) :
    Calls Tryz.prog 5 #[.agg #[.slice af fs.length cf, .slice ac cs.length cc]] w fun e w' => e = .returned (.bool (greatB fs cs)) ∧ Below w.heap.size w w' := by
  have hbw := fun a => below_a1 w a
  have t1 : decide ((1100 : Int) < (fs.length : Int)) = false := by rw [decide_eq_false_iff_not]; omega
  have t2 : decide ((1100 : Int) < (cs.length : Int)) = false := by rw [decide_eq_false_iff_not]; omega
  have HL : Hid (fs.length ≤ 1100 ∧ cs.length ≤ 1100) := ⟨by omega, by omega⟩
  have h1' : fs.length ≤ 1100 := by omega
  have h2' : cs.length ≤ 1100 := by omega
  have Rfs := Lib.hid hf
  have Rcs := Lib.hid hc
  have Hfs := Lib.hid hfs
  have Hcs := Lib.hid hcs
  clear hf hc hfs hcs h1 h2
  go_enter Tryz.func5, Tryz.ntmps5
  go_upto_block 0 with fail
  clear t1 t2
  go_cut [3, 4] from 16 to 39 (fun s _ wc => ∃ S0 : Nat, s = .int .i64 S0 ∧ Hid (S0 = fxSum fs) ∧ S0 ≤ 2420000000 ∧ Below w.heap.size w wc ∧ (wc.cell? ⟨w.heap.size, 0, none⟩ = some (.slice af fs.length cf) ∧ wc.cell? ⟨w.heap.size, 1, none⟩ = some (.slice ac cs.length cc)))
  case first =>
    go_wp2_with fail
    go_loopw [3, 4] (fun s i wr => ∃ (k S : Nat), k ≤ fs.length ∧ i = .int .i64 k ∧ s = .int .i64 S ∧ Hid (S = fxSum (fs.take k)) ∧ S ≤ k * 2200000 ∧ Below w.heap.size w wr ∧ (wr.cell? ⟨w.heap.size, 0, none⟩ = some (.slice af fs.length cf) ∧ wr.cell? ⟨w.heap.size, 1, none⟩ = some (.slice ac cs.length cc))) (fun _ i _ => fs.length - (intOf i).toNat)
    case atStart => exact ⟨0, 0, Nat.zero_le _, rfl, rfl, Lib.hid rfl, by omega, hbw _, by go_simp, by go_simp⟩
    case round =>
      obtain ⟨k, S, hk, rfl, rfl, HS, hSk, hbel, b0, b1⟩ := hrel
      by_cases hlt : k < fs.length
      · obtain ⟨f, hf⟩ : ∃ f, fs[k]? = some f := ⟨_, List.getElem?_eq_getElem hlt⟩
        have HRf := ((Rfs.out.below hbel).fx hf)
        have hsm := Hfs.out f (List.mem_of_getElem? hf)
        have HT := Lib.hid (fxSum_snoc hf)
        clear hf
        obtain ⟨b, off, rfl, hc1, hc2, hc3⟩ := HRf
        have hA : f.nm.size ≤ 1100000 := hsm.1
        have hB : f.vl.size ≤ 1100000 := hsm.2
        clear hsm
        have hk1 : (0 : Int) ≤ (k : Int) := by omega
        have hk2 : (k : Int) < (fs.length : Int) := by omega
        have e1 : IntKind.i64.wrap ((S : Int) + (f.nm.size : Int)) = (S : Int) + (f.nm.size : Int) := IntWalk.i64_in _ (by omega)
        have e2 : IntKind.i64.wrap ((S : Int) + (f.nm.size : Int) + (f.vl.size : Int)) = (S : Int) + (f.nm.size : Int) + (f.vl.size : Int) := IntWalk.i64_in _ (by omega)
        have HS2 : Hid (S + f.nm.size + f.vl.size = fxSum (fs.take (k + 1))) := by show _ = _; have h1 := HS.out; have h2 := HT.out; omega
        go_wp2
        go_quiet (fail)
        clear e1 e2
        go_wp2
        go_roundw
        case rel => exact ⟨k + 1, S + f.nm.size + f.vl.size, by omega, by go_num, by go_num, HS2, by omega, below_drewN hbel _, by first | assumption | go_simp, by first | assumption | go_simp⟩
        case measure => simp [intOf]; omega
      · obtain rfl : k = fs.length := by omega
        have HS2 : Hid (S = fxSum fs) := by have h := HS.out; rw [List.take_length] at h; exact h
        clear HS hlt hk
        go_wp2
        go_meet
        exact ⟨S, rfl, HS2, by omega, hbel, b0, b1⟩
  case rest =>
    obtain ⟨S0, rfl, HS0, hS0, hbel, b0, b1⟩ := hcut
    go_wp2
    go_loopw [3, 5] (fun s i wr => ∃ (k S : Nat), k ≤ cs.length ∧ i = .int .i64 k ∧ s = .int .i64 S ∧ Hid (S = S0 + chSum (cs.take k)) ∧ S ≤ 2420000000 + k * 2200000 ∧ Below w.heap.size w wr ∧ (wr.cell? ⟨w.heap.size, 0, none⟩ = some (.slice af fs.length cf) ∧ wr.cell? ⟨w.heap.size, 1, none⟩ = some (.slice ac cs.length cc))) (fun _ i _ => cs.length - (intOf i).toNat)
    case atStart => exact ⟨0, S0, Nat.zero_le _, rfl, rfl, Lib.hid rfl, by omega, hbel, b0, b1⟩
    case round =>
      clear hbel b0 b1
      obtain ⟨k, S, hk, rfl, rfl, HS, hSk, hbel, b0, b1⟩ := hrel
      by_cases hlt : k < cs.length
      · obtain ⟨f, hf⟩ : ∃ f, cs[k]? = some f := ⟨_, List.getElem?_eq_getElem hlt⟩
        have HRf := ((Rcs.out.below hbel).ch hf)
        have hsm := Hcs.out f (List.mem_of_getElem? hf)
        have HT := Lib.hid (chSum_snoc hf)
        clear hf
        obtain ⟨b, off, rfl, hc1, hc2, hc3, hc4⟩ := HRf
        have hA : f.pt.size ≤ 1100000 := hsm.1
        have hB : f.nm.size ≤ 1100000 := hsm.2
        clear hsm
        have hk1 : (0 : Int) ≤ (k : Int) := by omega
        have hk2 : (k : Int) < (cs.length : Int) := by omega
        have e1 : IntKind.i64.wrap ((S : Int) + (f.pt.size : Int)) = (S : Int) + (f.pt.size : Int) := IntWalk.i64_in _ (by omega)
        have e2 : IntKind.i64.wrap ((S : Int) + (f.pt.size : Int) + (f.nm.size : Int)) = (S : Int) + (f.pt.size : Int) + (f.nm.size : Int) := IntWalk.i64_in _ (by omega)
        have HS2 : Hid (S + f.pt.size + f.nm.size = S0 + chSum (cs.take (k + 1))) := by show _ = _; have h1 := HS.out; have h2 := HT.out; omega
        go_wp2
        go_quiet (fail)
        clear e1 e2
        go_wp2
        go_roundw
        case rel => exact ⟨k + 1, S + f.pt.size + f.nm.size, by omega, by go_num, by go_num, HS2, by omega, below_drewN hbel _, by first | assumption | go_simp, by first | assumption | go_simp⟩
        case measure => simp [intOf]; omega
      · obtain rfl : k = cs.length := by omega
        have HS2 : Hid (S = S0 + chSum cs) := by have h := HS.out; rw [List.take_length] at h; exact h
        clear HS hlt hk
        have HR : Hid (greatB fs cs = decide ((20000 : Int) < (S : Int))) := by
          show _ = _
          rw [greatB, Bool.eq_iff_iff, decide_eq_true_eq, decide_eq_true_eq]
          have h1 := HS0.out
          have h2 := HS2.out
          have h3 := HL.out
          omega
        go_wp2
        go_ret
        exact ⟨ret_bool' HR.out.symm, hbel⟩

set_option maxHeartbeats 1000000 in
set_option maxRecDepth 100000 in
theorem great_any (fs : List Fx) (cs : List Ch) (af ac : Option Addr) (cf cc : Nat) (w : World) (hn : fs.length ≤ 1100000) (hm : cs.length ≤ 1100000)
    (hf : Rd Fx.cells 3 w af fs) (hc : Rd Ch.cells 4 w ac cs) (hfs : ∀ f ∈ fs, f.small) (hcs : ∀ c ∈ cs, c.small) :
    Calls Tryz.prog 5 #[.agg #[.slice af fs.length cf, .slice ac cs.length cc]] w fun e w' => e = .returned (.bool (greatB fs cs)) ∧ Below w.heap.size w w' := by
  by_cases h1 : 1100 < fs.length
  · have HR : Hid (greatB fs cs = true) := by show _ = _; rw [greatB, decide_eq_true_eq]; exact .inl h1
    have t1 : decide ((1100 : Int) < (fs.length : Int)) = true := by rw [decide_eq_true_eq]; omega
    clear h1 hf hc hfs hcs
    go_enter Tryz.func5, Tryz.ntmps5
    go_wp2
    go_ret
    exact ⟨ret_bool' HR.out.symm, below_a1 _ _⟩
  · by_cases h2 : 1100 < cs.length
    · have HR : Hid (greatB fs cs = true) := by show _ = _; rw [greatB, decide_eq_true_eq]; exact .inr (.inl h2)
      have t1 : decide ((1100 : Int) < (fs.length : Int)) = false := by rw [decide_eq_false_iff_not]; omega
      have t2 : decide ((1100 : Int) < (cs.length : Int)) = true := by rw [decide_eq_true_eq]; omega
      clear h1 h2 hf hc hfs hcs
      go_enter Tryz.func5, Tryz.ntmps5
      go_wp2
      go_ret
      exact ⟨ret_bool' HR.out.symm, below_a1 _ _⟩
    · exact great_loop fs cs af ac cf cc w hn hm hf hc hfs hcs h1 h2
end Go.Proofs.YtofbngpckllkoacGreat

namespace Go.Proofs.YtofbngpckllkoacGreat
open Go.RowKit

/-- What the copies leave. -/
def KeptAt (W0 : World) (l : List Sh) (fs : List Fx) (cs : List Ch) (v5 v6 : Value) (wc : World) : Prop :=
  ∃ B5 B6 a4 c4 a5 c5 ak ck, v5 = .pointer (some ⟨B5, 0, none⟩) ∧ v6 = .pointer (some ⟨B6, 0, none⟩) ∧ Boxed2 wc B5 28 (.slice a4 fs.length c4) (.slice a5 cs.length c5) ∧ BoxN wc B6 24 [.slice ak l.length ck] ∧
    Sl wc (.slice a4 fs.length c4) 3 fs.length (fs.flatMap Fx.cells) ∧ Sl wc (.slice a5 cs.length c5) 4 cs.length (cs.flatMap Ch.cells) ∧ Sl wc (.slice ak l.length ck) 4 l.length (l.flatMap Sh.cells) ∧ Ext W0 wc

theorem ext_calls' {P : Program} {f : FuncId} {args : Array Value} {v : Value} {w : World} (h : ∀ W, Ext w W → Calls P f args W fun e w' => e = .returned v ∧ Below W.heap.size W w') (W : World) (hW : Ext w W) :
    Calls P f args W fun e w'' => e = .returned v ∧ Ext w w'' :=
  (h W hW).mono fun _ _ ⟨he, hb⟩ => ⟨he, Below.trans hW (hb.mono (Below.size hW))⟩
theorem Ext.alloc1 {w W : World} (h : Ext w W) (o : Obj) : Ext w (W.alloc o) := Below.alloc h (Below.size h) o
theorem Ext.step {w W W' : World} (h : Ext w W) (hb : Below W.heap.size W W') : Ext w W' := Below.trans h (hb.mono (Below.size h))
section
variable {w : World} {base e s n c g B t j : Nat} {xs cs : List Value} {u v x : Value}
theorem far_box2 (h : w.ownsRow base e s (.slice (some ⟨g, 0, none⟩) n c) n xs) (b : Boxed2 w B t u v) (hte : t ≠ e) : Boxed2 (w.setCell ⟨g, j, none⟩ x) B t u v :=
  b.far (a := ⟨g, j, none⟩) (fun e' => own_not_block h (c := #[u, v]) b hte (congrArg some e'.symm)) x
theorem far_boxN (h : w.ownsRow base e s (.slice (some ⟨g, 0, none⟩) n c) n xs) (b : BoxN w B t cs) (hte : t ≠ e) : BoxN (w.setCell ⟨g, j, none⟩ x) B t cs :=
  b.far (a := ⟨g, j, none⟩) (fun e' => own_not_block h (c := cs.toArray) b hte (congrArg some e'.symm)) x
theorem far_own {b2 e2 s2 n2 : Nat} {v2 : Value} {x2 : List Value} (h : w.ownsRow base e s (.slice (some ⟨g, 0, none⟩) n c) n xs) (h2 : w.ownsRow b2 e2 s2 v2 n2 x2) (hte : e2 ≠ e) : (w.setCell ⟨g, j, none⟩ x).ownsRow b2 e2 s2 v2 n2 x2 :=
  ownsRow_kept h2 fun k hk _ => Below.heap_setCell _ _ _ _ (fun e' => own_apart h h2 hte k hk (congrArg some e'))
end

/-- What stands before the loops, and between them. -/
structure LSt (W3 wr : World) (b1 b2 B7 B11 : Nat) (v6 v7 v8 : Value) (n6 n7 n8 : Nat) (x6 x7 x8 : List Value) : Prop where
  bel : Below W3.heap.size W3 wr
  b7 : Boxed2 wr B7 28 v6 v7
  b11 : BoxN wr B11 24 [v8]
  o6 : wr.ownsRow b1 46 3 v6 n6 x6
  o7 : wr.ownsRow b1 48 4 v7 n7 x7
  o8 : wr.ownsRow b2 50 4 v8 n8 x8
section
variable {W3 wr : World} {b1 b2 B7 B11 n6 n7 n8 g c : Nat} {v6 v7 v8 : Value} {x6 x7 x8 : List Value}
theorem LSt.set6 (h : LSt W3 wr b1 b2 B7 B11 (.slice (some ⟨g, 0, none⟩) n6 c) v7 v8 n6 n7 n8 x6 x7 x8) (h1 : W3.heap.size ≤ b1) (j : Nat) (u : Value) :
    LSt W3 (wr.setCell ⟨g, j, none⟩ u) b1 b2 B7 B11 (.slice (some ⟨g, 0, none⟩) n6 c) v7 v8 n6 n7 n8 (x6.set j u) x7 x8 :=
  ⟨h.bel.setCell (p := ⟨g, j, none⟩) (Nat.le_trans h1 (h.o6.lt g rfl).1) u, far_box2 h.o6 h.b7 (by decide), far_boxN h.o6 h.b11 (by decide), (h.o6.stored j u).1, far_own h.o6 h.o7 (by decide), far_own h.o6 h.o8 (by decide)⟩
theorem LSt.set7 (h : LSt W3 wr b1 b2 B7 B11 v6 (.slice (some ⟨g, 0, none⟩) n7 c) v8 n6 n7 n8 x6 x7 x8) (h1 : W3.heap.size ≤ b1) (j : Nat) (u : Value) :
    LSt W3 (wr.setCell ⟨g, j, none⟩ u) b1 b2 B7 B11 v6 (.slice (some ⟨g, 0, none⟩) n7 c) v8 n6 n7 n8 x6 (x7.set j u) x8 :=
  ⟨h.bel.setCell (p := ⟨g, j, none⟩) (Nat.le_trans h1 (h.o7.lt g rfl).1) u, far_box2 h.o7 h.b7 (by decide), far_boxN h.o7 h.b11 (by decide), far_own h.o7 h.o6 (by decide), (h.o7.stored j u).1, far_own h.o7 h.o8 (by decide)⟩
theorem LSt.set8 (h : LSt W3 wr b1 b2 B7 B11 v6 v7 (.slice (some ⟨g, 0, none⟩) n8 c) n6 n7 n8 x6 x7 x8) (h1 : W3.heap.size ≤ b2) (j : Nat) (u : Value) :
    LSt W3 (wr.setCell ⟨g, j, none⟩ u) b1 b2 B7 B11 v6 v7 (.slice (some ⟨g, 0, none⟩) n8 c) n6 n7 n8 x6 x7 (x8.set j u) :=
  ⟨h.bel.setCell (p := ⟨g, j, none⟩) (Nat.le_trans h1 (h.o8.lt g rfl).1) u, far_box2 h.o8 h.b7 (by decide), far_boxN h.o8 h.b11 (by decide), far_own h.o8 h.o6 (by decide), far_own h.o8 h.o7 (by decide), (h.o8.stored j u).1⟩
end
end Go.Proofs.YtofbngpckllkoacGreat

namespace Go.Proofs.YtofbngpckllkoacGreat
open Go.RowKit

def isSl (v : Value) : Prop := ∃ a n c, v = .slice a n c
theorem fx_noSl (fs : List Fx) : ∀ u ∈ fs.flatMap Fx.cells, ¬ isSl u := by
  rintro u hu ⟨a, n, c, rfl⟩
  obtain ⟨f, _, hf⟩ := List.mem_flatMap.1 hu
  simp [Fx.cells] at hf
theorem ch_noSl (fs : List Ch) : ∀ u ∈ fs.flatMap Ch.cells, ¬ isSl u := by
  rintro u hu ⟨a, n, c, rfl⟩
  obtain ⟨f, _, hf⟩ := List.mem_flatMap.1 hu
  simp [Ch.cells] at hf
theorem sh_noSl (fs : List Sh) : ∀ u ∈ fs.flatMap Sh.cells, ¬ isSl u := by
  rintro u hu ⟨a, n, c, rfl⟩
  obtain ⟨f, _, hf⟩ := List.mem_flatMap.1 hu
  simp [Sh.cells] at hf
/-- Slices' cells stay while a block of slices is written. -/
theorem sl_box {w : World} {v : Value} {size n B : Nat} {t : TypeId} {cs xs : List Value} (h : Sl w v size n cs) (hn : ∀ u ∈ cs, ¬ isSl u) (hb : BoxN w B t xs) (hx : ∀ x ∈ xs, isSl x) (j : Nat) (u : Value) : Sl (w.setCell ⟨B, j, none⟩ u) v size n cs := by
  obtain ⟨ad, cap, rfl, h1, h2, h3⟩ := h
  refine ⟨ad, cap, rfl, h1, h2, ?_⟩
  rcases h3 with h3 | ⟨b, off, rfl, h3⟩
  · exact .inl h3
  · refine .inr ⟨b, off, rfl, fun i y hi => ?_⟩
    have hc := h3 i y hi
    by_cases e : b = B
    · subst e
      exfalso
      have hy : y ∈ cs := List.mem_of_getElem? hi
      have e2 : xs.toArray[off + i]? = some y := by
        have : w.cell? ⟨b, off + i, none⟩ = xs.toArray[off + i]? := by simp [World.cell?, show w.heap[b]? = _ from hb]
        rw [← this]; exact hc
      exact hn y hy (hx y (List.mem_of_getElem? (by simpa using e2)))
    · rw [World.cell?_setCell_far _ _ _ _ (by show B ≠ b; exact fun e' => e e'.symm)]
      exact hc

structure CInv (W0 : World) (S0 : Nat) (l : List Sh) (fs : List Fx) (cs : List Ch) (ad af ac : Option Addr) (cap cf cc : Nat) (L : Nat → Bool) (v5 v6 v25 v26 v27 v28 v29 v30 v31 : Value) (w : World) : Prop where
  x : Ext W0 w
  f0 : L 0 = true → v25 = .agg #[.slice af fs.length cf, .slice ac cs.length cc]
  f1 : L 1 = true → ∃ a1 c1 a2 c2, v26 = .agg #[.slice a1 fs.length c1, .slice a2 cs.length c2] ∧ Sl w (.slice a1 fs.length c1) 3 fs.length (fs.flatMap Fx.cells) ∧ Sl w (.slice a2 cs.length c2) 4 cs.length (cs.flatMap Ch.cells)
  f2 : L 2 = true → ∃ a0, v27 = .slice (some a0) 0 0
  f3 : L 3 = true → v28 = .pointer (some ⟨S0, 0, none⟩)
  f4 : L 4 = true → v29 = .slice ad l.length cap
  f5 : L 5 = true → ∃ ak ck, v30 = .slice ak l.length ck ∧ Sl w (.slice ak l.length ck) 4 l.length (l.flatMap Sh.cells)
  f6 : L 6 = true → v31 = .agg #[v30]
  f7 : L 7 = true → ∃ B5 x y, v5 = .pointer (some ⟨B5, 0, none⟩) ∧ W0.heap.size ≤ B5 ∧ Boxed2 w B5 28 x y ∧ isSl x ∧ isSl y ∧ (L 9 = true → v26 = .agg #[x, y])
  f8 : L 8 = true → ∃ B6 x, v6 = .pointer (some ⟨B6, 0, none⟩) ∧ W0.heap.size ≤ B6 ∧ BoxN w B6 24 [x] ∧ isSl x ∧ (L 10 = true → v31 = .agg #[x])
  g6 : L 6 = true → L 5 = true
  g9 : L 9 = true → L 1 = true ∧ L 7 = true
  g10 : L 10 = true → L 6 = true ∧ L 8 = true
section
variable {W0 w w' : World} {S0 : Nat} {l : List Sh} {fs : List Fx} {cs : List Ch} {ad af ac : Option Addr} {cap cf cc : Nat} {L : Nat → Bool} {v5 v6 v25 v26 v27 v28 v29 v30 v31 : Value}
theorem CInv.ext (h : CInv W0 S0 l fs cs ad af ac cap cf cc L v5 v6 v25 v26 v27 v28 v29 v30 v31 w) (hb : Below w.heap.size w w') : CInv W0 S0 l fs cs ad af ac cap cf cc L v5 v6 v25 v26 v27 v28 v29 v30 v31 w' where
  x := h.x.step hb
  f0 := h.f0
  f1 hL := by obtain ⟨a1, c1, a2, c2, e, h1, h2⟩ := h.f1 hL; exact ⟨a1, c1, a2, c2, e, h1.below hb, h2.below hb⟩
  f2 := h.f2
  f3 := h.f3
  f4 := h.f4
  f5 hL := by obtain ⟨a1, c1, e, h1⟩ := h.f5 hL; exact ⟨a1, c1, e, h1.below hb⟩
  f6 := h.f6
  f7 hL := by obtain ⟨B, x, y, e, h1, h2, h3⟩ := h.f7 hL; exact ⟨B, x, y, e, h1, h2.below hb, h3⟩
  f8 hL := by obtain ⟨B, x, e, h1, h2, h3⟩ := h.f8 hL; exact ⟨B, x, e, h1, h2.below hb h2.lt, h3⟩
  g6 := h.g6
  g9 := h.g9
  g10 := h.g10
theorem upd_ne {L : Nat → Bool} {i j : Nat} (h : j ≠ i) : upd L i j = L j := if_neg h
theorem upd_eq {L : Nat → Bool} {i : Nat} : upd L i i = true := if_pos rfl
theorem no_of {b : Bool} (h : b = false) {p : Prop} (k : b = true) : p := by rw [h] at k; cases k
theorem CInv.u0 (h : CInv W0 S0 l fs cs ad af ac cap cf cc L v5 v6 v25 v26 v27 v28 v29 v30 v31 w) : CInv W0 S0 l fs cs ad af ac cap cf cc (upd L 0) v5 v6 (.agg #[.slice af fs.length cf, .slice ac cs.length cc]) v26 v27 v28 v29 v30 v31 w :=
  ⟨h.x, fun _ => rfl, h.f1, h.f2, h.f3, h.f4, h.f5, h.f6, h.f7, h.f8, h.g6, h.g9, h.g10⟩
theorem CInv.u1 (h : CInv W0 S0 l fs cs ad af ac cap cf cc L v5 v6 v25 v26 v27 v28 v29 v30 v31 w) (hL : L 1 = false) {a1 a2 : Option Addr} {c1 c2 : Nat} (h1 : Sl w (.slice a1 fs.length c1) 3 fs.length (fs.flatMap Fx.cells)) (h2 : Sl w (.slice a2 cs.length c2) 4 cs.length (cs.flatMap Ch.cells)) :
    CInv W0 S0 l fs cs ad af ac cap cf cc (upd L 1) v5 v6 v25 (.agg #[.slice a1 fs.length c1, .slice a2 cs.length c2]) v27 v28 v29 v30 v31 w :=
  ⟨h.x, h.f0, fun _ => ⟨a1, c1, a2, c2, rfl, h1, h2⟩, h.f2, h.f3, h.f4, h.f5, h.f6,
    fun h7 => by obtain ⟨B, x, y, e, k1, k2, k3, k4, k5⟩ := h.f7 h7; exact ⟨B, x, y, e, k1, k2, k3, k4, fun h9 => no_of hL (h.g9 h9).1⟩, h.f8, h.g6, fun h9 => ⟨rfl, (h.g9 h9).2⟩, h.g10⟩
theorem CInv.u2 (h : CInv W0 S0 l fs cs ad af ac cap cf cc L v5 v6 v25 v26 v27 v28 v29 v30 v31 w) (a0 : Addr) : CInv W0 S0 l fs cs ad af ac cap cf cc (upd L 2) v5 v6 v25 v26 (.slice (some a0) 0 0) v28 v29 v30 v31 w :=
  ⟨h.x, h.f0, h.f1, fun _ => ⟨a0, rfl⟩, h.f3, h.f4, h.f5, h.f6, h.f7, h.f8, h.g6, h.g9, h.g10⟩
theorem CInv.u3 (h : CInv W0 S0 l fs cs ad af ac cap cf cc L v5 v6 v25 v26 v27 v28 v29 v30 v31 w) : CInv W0 S0 l fs cs ad af ac cap cf cc (upd L 3) v5 v6 v25 v26 v27 (.pointer (some ⟨S0, 0, none⟩)) v29 v30 v31 w :=
  ⟨h.x, h.f0, h.f1, h.f2, fun _ => rfl, h.f4, h.f5, h.f6, h.f7, h.f8, h.g6, h.g9, h.g10⟩
theorem CInv.u4 (h : CInv W0 S0 l fs cs ad af ac cap cf cc L v5 v6 v25 v26 v27 v28 v29 v30 v31 w) : CInv W0 S0 l fs cs ad af ac cap cf cc (upd L 4) v5 v6 v25 v26 v27 v28 (.slice ad l.length cap) v30 v31 w :=
  ⟨h.x, h.f0, h.f1, h.f2, h.f3, fun _ => rfl, h.f5, h.f6, h.f7, h.f8, h.g6, h.g9, h.g10⟩
theorem CInv.u5 (h : CInv W0 S0 l fs cs ad af ac cap cf cc L v5 v6 v25 v26 v27 v28 v29 v30 v31 w) (hL : L 5 = false) {ak : Option Addr} {ck : Nat} (h1 : Sl w (.slice ak l.length ck) 4 l.length (l.flatMap Sh.cells)) :
    CInv W0 S0 l fs cs ad af ac cap cf cc (upd L 5) v5 v6 v25 v26 v27 v28 v29 (.slice ak l.length ck) v31 w :=
  ⟨h.x, h.f0, h.f1, h.f2, h.f3, h.f4, fun _ => ⟨ak, ck, rfl, h1⟩, fun h6 => no_of hL (h.g6 h6), h.f7, h.f8, fun _ => rfl, h.g9, h.g10⟩
theorem CInv.u6 (h : CInv W0 S0 l fs cs ad af ac cap cf cc L v5 v6 v25 v26 v27 v28 v29 v30 v31 w) (hL : L 6 = false) (h5 : L 5 = true) : CInv W0 S0 l fs cs ad af ac cap cf cc (upd L 6) v5 v6 v25 v26 v27 v28 v29 v30 (.agg #[v30]) w :=
  ⟨h.x, h.f0, h.f1, h.f2, h.f3, h.f4, h.f5, fun _ => rfl, h.f7, fun h8 => by obtain ⟨B, x, e, k1, k2, k3, k4⟩ := h.f8 h8; exact ⟨B, x, e, k1, k2, k3, fun h10 => no_of hL (h.g10 h10).1⟩, fun _ => h5, h.g9, fun h10 => ⟨rfl, (h.g10 h10).2⟩⟩
theorem CInv.u7 (h : CInv W0 S0 l fs cs ad af ac cap cf cc L v5 v6 v25 v26 v27 v28 v29 v30 v31 w) (hL : L 7 = false) {B : Nat} {x y : Value} (h1 : W0.heap.size ≤ B) (hb : Boxed2 w B 28 x y) (hx : isSl x) (hy : isSl y) :
    CInv W0 S0 l fs cs ad af ac cap cf cc (upd L 7) (.pointer (some ⟨B, 0, none⟩)) v6 v25 v26 v27 v28 v29 v30 v31 w :=
  ⟨h.x, h.f0, h.f1, h.f2, h.f3, h.f4, h.f5, h.f6, fun _ => ⟨B, x, y, rfl, h1, hb, hx, hy, fun h9 => no_of hL (h.g9 h9).2⟩, h.f8, h.g6, fun h9 => ⟨(h.g9 h9).1, rfl⟩, h.g10⟩
theorem CInv.u8 (h : CInv W0 S0 l fs cs ad af ac cap cf cc L v5 v6 v25 v26 v27 v28 v29 v30 v31 w) (hL : L 8 = false) {B : Nat} {x : Value} (h1 : W0.heap.size ≤ B) (hb : BoxN w B 24 [x]) (hx : isSl x) :
    CInv W0 S0 l fs cs ad af ac cap cf cc (upd L 8) v5 (.pointer (some ⟨B, 0, none⟩)) v25 v26 v27 v28 v29 v30 v31 w :=
  ⟨h.x, h.f0, h.f1, h.f2, h.f3, h.f4, h.f5, h.f6, h.f7, fun _ => ⟨B, x, rfl, h1, hb, hx, fun h10 => no_of hL (h.g10 h10).2⟩, h.g6, h.g9, fun h10 => ⟨(h.g10 h10).1, rfl⟩⟩
/-- A cell of a box of slices is written. -/
theorem CInv.put5 (h : CInv W0 S0 l fs cs ad af ac cap cf cc L v5 v6 v25 v26 v27 v28 v29 v30 v31 w) (_h9 : L 9 = false) (h1 : L 1 = true) {B : Nat} {x y x' y' : Value} (e5 : v5 = .pointer (some ⟨B, 0, none⟩)) (hB : W0.heap.size ≤ B) (hb : Boxed2 w B 28 x y) (hx : isSl x) (hy : isSl y) (e26 : v26 = .agg #[x', y']) (hx' : isSl x') (hy' : isSl y') (h7 : L 7 = true) :
    CInv W0 S0 l fs cs ad af ac cap cf cc (upd L 9) v5 v6 v25 v26 v27 v28 v29 v30 v31 ((w.setCell ⟨B, 0, none⟩ x').setCell ⟨B, 1, none⟩ y') := by
  have hs : ∀ z ∈ [x, y], isSl z := by intro z hz; simp at hz; rcases hz with rfl | rfl <;> assumption
  have hs' : ∀ z ∈ [x', y], isSl z := by intro z hz; simp at hz; rcases hz with rfl | rfl <;> assumption
  have keep : ∀ {v : Value} {size n : Nat} {cs : List Value}, Sl w v size n cs → (∀ u ∈ cs, ¬ isSl u) → Sl ((w.setCell ⟨B, 0, none⟩ x').setCell ⟨B, 1, none⟩ y') v size n cs := fun k1 k2 => sl_box (sl_box k1 k2 hb.n hs 0 x') k2 (hb.set0 x').n hs' 1 y'
  refine ⟨below_store h.x hB _ _, h.f0, fun hL => ?_, h.f2, h.f3, h.f4, fun hL => ?_, h.f6, fun _ => ⟨B, x', y', e5, hB, hb.store _ _, hx', hy', fun _ => e26⟩, fun hL => ?_, h.g6, fun _ => ⟨h1, h7⟩, h.g10⟩
  · obtain ⟨a1, c1, a2, c2, e, k1, k2⟩ := h.f1 hL
    exact ⟨a1, c1, a2, c2, e, keep k1 (fx_noSl fs), keep k2 (ch_noSl cs)⟩
  · obtain ⟨a1, c1, e, k1⟩ := h.f5 hL
    exact ⟨a1, c1, e, keep k1 (sh_noSl l)⟩
  · obtain ⟨B6, z, e, k1, k2, k3⟩ := h.f8 hL
    have hne : B6 ≠ B := by
      rintro rfl
      have e : some (Obj.cells #[x, y] 28 (0, 0)) = some (Obj.cells [z].toArray 24 (0, 0)) := hb.symm.trans k2
      simp at e
    exact ⟨B6, z, e, k1, (k2.far (a := ⟨B, 0, none⟩) hne _).far (a := ⟨B, 1, none⟩) hne _, k3⟩
theorem CInv.put6 (h : CInv W0 S0 l fs cs ad af ac cap cf cc L v5 v6 v25 v26 v27 v28 v29 v30 v31 w) (_h10 : L 10 = false) (h6 : L 6 = true) {B : Nat} {x x' : Value} (e6 : v6 = .pointer (some ⟨B, 0, none⟩)) (hB : W0.heap.size ≤ B) (hb : BoxN w B 24 [x]) (hx : isSl x) (e31 : v31 = .agg #[x']) (hx' : isSl x') (h8 : L 8 = true) :
    CInv W0 S0 l fs cs ad af ac cap cf cc (upd L 10) v5 v6 v25 v26 v27 v28 v29 v30 v31 (w.setCell ⟨B, 0, none⟩ x') := by
  have hs : ∀ z ∈ [x], isSl z := by intro z hz; simp at hz; rcases hz with rfl; assumption
  have keep : ∀ {v : Value} {size n : Nat} {cs : List Value}, Sl w v size n cs → (∀ u ∈ cs, ¬ isSl u) → Sl (w.setCell ⟨B, 0, none⟩ x') v size n cs := fun k1 k2 => sl_box k1 k2 hb hs 0 x'
  refine ⟨h.x.below.setCell (p := ⟨B, 0, none⟩) hB _, h.f0, fun hL => ?_, h.f2, h.f3, h.f4, fun hL => ?_, h.f6, fun hL => ?_, fun _ => ⟨B, x', e6, hB, hb.set 0 _, hx', fun _ => e31⟩, h.g6, h.g9, fun _ => ⟨h6, h8⟩⟩
  · obtain ⟨a1, c1, a2, c2, e, k1, k2⟩ := h.f1 hL
    exact ⟨a1, c1, a2, c2, e, keep k1 (fx_noSl fs), keep k2 (ch_noSl cs)⟩
  · obtain ⟨a1, c1, e, k1⟩ := h.f5 hL
    exact ⟨a1, c1, e, keep k1 (sh_noSl l)⟩
  · obtain ⟨B5, y, z, e, k1, k2, k3⟩ := h.f7 hL
    have hne : B5 ≠ B := by
      rintro rfl
      have e : some (Obj.cells #[y, z] 28 (0, 0)) = some (Obj.cells [x].toArray 24 (0, 0)) := k2.symm.trans hb
      simp at e
    exact ⟨B5, y, z, e, k1, k2.far (a := ⟨B, 0, none⟩) hne _, k3⟩
theorem CInv.start (h : Ext W0 w) : CInv W0 S0 l fs cs ad af ac cap cf cc (fun _ => false) v5 v6 v25 v26 v27 v28 v29 v30 v31 w :=
  ⟨h, fun h => by (cases h), fun h => by (cases h), fun h => by (cases h), fun h => by (cases h), fun h => by (cases h), fun h => by (cases h), fun h => by (cases h), fun h => by (cases h), fun h => by (cases h), fun h => by (cases h), fun h => by (cases h), fun h => by (cases h)⟩
/-- All done. -/
theorem CInv.fin (h : CInv W0 S0 l fs cs ad af ac cap cf cc L v5 v6 v25 v26 v27 v28 v29 v30 v31 w) (hL : ∀ j, j < 11 → L j = true) : KeptAt W0 l fs cs v5 v6 w := by
  obtain ⟨a1, c1, a2, c2, e1, k1, k2⟩ := h.f1 (hL 1 (by decide))
  obtain ⟨ak, ck, e2, k3⟩ := h.f5 (hL 5 (by decide))
  obtain ⟨B5, x, y, e3, _, k4, _, _, k5⟩ := h.f7 (hL 7 (by decide))
  obtain ⟨B6, z, e4, _, k6, _, k7⟩ := h.f8 (hL 8 (by decide))
  have e5 := k5 (hL 9 (by decide))
  have e6 := k7 (hL 10 (by decide))
  rw [e1] at e5
  rw [h.f6 (hL 6 (by decide)), e2] at e6
  simp at e5 e6
  obtain ⟨rfl, rfl⟩ := e5
  subst e6
  exact ⟨B5, B6, a1, c1, a2, c2, ak, ck, e3, e4, k4, k6, k1, k2, k3, h.x⟩
end
end Go.Proofs.YtofbngpckllkoacGreat
