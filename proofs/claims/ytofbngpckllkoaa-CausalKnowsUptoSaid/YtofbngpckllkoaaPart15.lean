/-
  The law CausalKnows itself.
-/
import Derived.Test.YtofbngpckllkoaaPart14
import Derived.Test.YtofbngpckllkoaaPart08
namespace Go.Proofs.Ytofbngpckllkoaa
open Go.RowKit

set_option maxHeartbeats 1000000 in
set_option maxRecDepth 100000 in
theorem law15_great (fs : List Fx) (cs : List Ch) (nn kn : Nat) (day : Int) (af ac an ak : Option Addr) (cf cc cn ck : Nat) (w : World)
    (HG : Hid (∀ W, Below w.heap.size w W → Calls Try.prog 4 #[.agg #[.slice af fs.length cf, .slice ac cs.length cc]] W fun e w' => e = .returned (.bool (greatB fs cs)) ∧ Below W.heap.size W w'))
    (hg : greatB fs cs = true ∨ 200 < nn ∨ 200 < kn) (hnn : nn ≤ 1100000) (hkk : kn ≤ 1100000) :
    Calls Try.prog 3 #[.agg #[.slice af fs.length cf, .slice ac cs.length cc], .int .i64 day, .slice an nn cn, .slice ak kn ck] w fun e w' => e = .returned (.bool true) ∧ Below w.heap.size w w' := by
  by_cases h1 : greatB fs cs = true
  · have H1 := Lib.hid h1
    rw [h1] at HG
    clear h1 hg
    go_enter Try.func3, Try.ntmps3
    go_wp2_with fail
    refine (HG.out _ (below_a1 _ _)).mono ?_
    rintro e w1 ⟨rfl, hb1⟩
    have hbel : Below w.heap.size w w1 := (below_a1 _ _).trans (hb1.mono (by simp))
    clear hb1 HG
    go_wp2
    go_ret
    exact ⟨rfl, hbel⟩
  · have h1' : greatB fs cs = false := by simpa using h1
    rw [h1'] at HG
    by_cases h2 : 200 < nn
    · have t1 : decide ((200 : Int) < (nn : Int)) = true := by rw [decide_eq_true_eq]; omega
      clear h1 h1' hg h2
      go_enter Try.func3, Try.ntmps3
      go_wp2_with fail
      refine (HG.out _ (below_a1 _ _)).mono ?_
      rintro e w1 ⟨rfl, hb1⟩
      have hbel : Below w.heap.size w w1 := (below_a1 _ _).trans (hb1.mono (by simp))
      clear hb1 HG
      go_wp2
      go_ret
      exact ⟨rfl, hbel⟩
    · have t1 : decide ((200 : Int) < (nn : Int)) = false := by rw [decide_eq_false_iff_not]; omega
      have t2 : decide ((200 : Int) < (kn : Int)) = true := by rw [decide_eq_true_eq]; simp [h1', h2] at hg; omega
      clear h1 h1' hg h2
      go_enter Try.func3, Try.ntmps3
      go_wp2_with fail
      refine (HG.out _ (below_a1 _ _)).mono ?_
      rintro e w1 ⟨rfl, hb1⟩
      have hbel : Below w.heap.size w w1 := (below_a1 _ _).trans (hb1.mono (by simp))
      clear hb1 HG
      go_wp2
      go_ret
      exact ⟨rfl, hbel⟩

theorem knownF_len (fs : List Fx) (cs : List Ch) (day : Int) : (knownF fs cs day).length ≤ fs.length := by
  unfold knownF; split
  · exact List.length_filter_le _ _
  · exact Nat.zero_le _
theorem knownC_len (fs : List Fx) (cs : List Ch) (day : Int) : (knownC fs cs day).length ≤ cs.length := by
  unfold knownC; split
  · exact List.length_filter_le _ _
  · exact Nat.zero_le _
theorem onlyF_len (fs : List Fx) (cs : List Ch) (ns : List Nd) : (onlyF fs cs ns).length ≤ fs.length := by
  unfold onlyF; split
  · exact List.length_filter_le _ _
  · exact Nat.zero_le _
theorem onlyC_len (fs : List Fx) (cs : List Ch) (ks : List Ch) : (onlyC fs cs ks).length ≤ cs.length := by
  unfold onlyC; split
  · exact List.length_filter_le _ _
  · exact Nat.zero_le _

theorem rd_fx {w : World} {base n c : Nat} {e : TypeId} {a : Option Addr} {l : List Fx} (h : w.ownsRow base e 3 (.slice a n c) n (l.flatMap Fx.cells)) : Rd Fx.cells 3 w a l := by
  obtain ⟨hl, h2⟩ := h
  have e : n = l.length := by rw [flat_length Fx.cells 3 (fun _ => rfl)] at hl; omega
  subst e
  exact Rd.of_sl (enc := Fx.cells) (m := 3) (fun _ => rfl) (by decide) (Sl.of_owns ⟨hl, h2⟩)
theorem rd_ch {w : World} {base n c : Nat} {e : TypeId} {a : Option Addr} {l : List Ch} (h : w.ownsRow base e 4 (.slice a n c) n (l.flatMap Ch.cells)) : Rd Ch.cells 4 w a l := by
  obtain ⟨hl, h2⟩ := h
  have e : n = l.length := by rw [flat_length Ch.cells 4 (fun _ => rfl)] at hl; omega
  subst e
  exact Rd.of_sl (enc := Ch.cells) (m := 4) (fun _ => rfl) (by decide) (Sl.of_owns ⟨hl, h2⟩)

/-- W' is W but for blocks from lo on and below hi. -/
structure Turned (lo hi : Nat) (w w' : World) : Prop where
  os : w'.os = w.os
  tape : w'.tape = w.tape
  output : w'.output = w.output
  size : w'.heap.size = w.heap.size
  block : ∀ k, k < lo ∨ hi ≤ k → w'.heap[k]? = w.heap[k]?
theorem Turned.refl (lo hi : Nat) (w : World) : Turned lo hi w w := ⟨rfl, rfl, rfl, rfl, fun _ _ => rfl⟩
theorem Turned.below {lo hi : Nat} {w w' : World} (h : Turned lo hi w w') : Below lo w w' := ⟨h.os, h.tape, h.output, Nat.le_of_eq h.size.symm, fun k hk => h.block k (.inl hk)⟩
theorem Turned.setCell {lo hi : Nat} {w w' : World} (h : Turned lo hi w w') {a : Addr} (h1 : lo ≤ a.block) (h2 : a.block < hi) (u : Value) : Turned lo hi w (w'.setCell a u) :=
  ⟨h.os, h.tape, h.output, by rw [← h.size]; simp [World.setCell], fun k hk => (Below.heap_setCell _ _ _ _ (by omega)).trans (h.block k hk)⟩
theorem Turned.boxed {lo hi : Nat} {w w' : World} (h : Turned lo hi w w') {B : Nat} {t : TypeId} {u v : Value} (b : Boxed2 w B t u v) (hB : B < lo ∨ hi ≤ B) : Boxed2 w' B t u v := b.of_block (h.block B hB)
theorem owns_some {w : World} {base n c m : Nat} {e : TypeId} {a : Option Addr} {xs : List Value} (h : w.ownsRow base e m (.slice a n c) n xs) (hn : 0 < n) : ∃ g, a = some ⟨g, 0, none⟩ := by
  rcases h.2 with ⟨h', h0⟩ | ⟨g, cap, cur, h', _⟩
  · omega
  · exact ⟨g, (Value.slice.inj h').1⟩

set_option maxHeartbeats 4000000 in
set_option maxRecDepth 100000 in
theorem law15_main (fs gs gs2 : List Fx) (cs ds ds2 : List Ch) (nn kn : Nat) (day e1 e2 : Int) (af ac an ak : Option Addr) (cf cc cn ck : Nat) (w : World)
    (hgs : gs.length ≤ 1100000) (hds : ds.length ≤ 1100000) (hgs2 : gs2.length ≤ 1100000) (hds2 : ds2.length ≤ 1100000) (hnn : nn ≤ 200) (hkk : kn ≤ 200)
    (HG : Hid (∀ W, Below w.heap.size w W → Calls Try.prog 4 #[.agg #[.slice af fs.length cf, .slice ac cs.length cc]] W fun e w' => e = .returned (.bool false) ∧ Below W.heap.size W w'))
    (HT : Hid (∀ W, Below w.heap.size w W → Calls Try.prog 5 #[.agg #[.slice af fs.length cf, .slice ac cs.length cc]] W (TwinPost W fs cs)))
    (HK : Hid (∀ W, Below w.heap.size w W → Calls Try.prog 6 #[.agg #[.slice af fs.length cf, .slice ac cs.length cc], .int .i64 day] W (EnvPost W e1 gs ds)))
    (HRK : Hid (∀ W, Below w.heap.size w W → Calls Try.prog 7 #[.agg #[.slice af fs.length cf, .slice ac cs.length cc], .int .i64 day] W (EnvPost W e1 gs ds)))
    (HO : Hid (∀ W, Below w.heap.size w W → Calls Try.prog 8 #[.agg #[.slice af fs.length cf, .slice ac cs.length cc], .slice an nn cn, .slice ak kn ck] W (EnvPost W e2 gs2 ds2)))
    (HSv : Hid (∀ (W : World) (x y : Option Addr) (cx cy : Nat), Below w.heap.size w W → Rd Fx.cells 3 W x fs → Rd Ch.cells 4 W y cs → Calls Try.prog 10 #[.agg #[.slice af fs.length cf, .slice ac cs.length cc], .agg #[.slice x fs.length cx, .slice y cs.length cy]] W fun e w' => e = .returned (.bool true) ∧ Below W.heap.size W w'))
    (HRO : Hid (∀ W, Below w.heap.size w W → Calls Try.prog 9 #[.agg #[.slice af fs.length cf, .slice ac cs.length cc], .slice an nn cn, .slice ak kn ck] W (EnvPost W e2 gs2 ds2))) :
    Calls Try.prog 3 #[.agg #[.slice af fs.length cf, .slice ac cs.length cc], .int .i64 day, .slice an nn cn, .slice ak kn ck] w fun e w' => e = .returned (.bool true) ∧ Below w.heap.size w w' := by
  have t1 : decide ((200 : Int) < (nn : Int)) = false := by rw [decide_eq_false_iff_not]; omega
  have t2 : decide ((200 : Int) < (kn : Int)) = false := by rw [decide_eq_false_iff_not]; omega
  clear hnn hkk
  go_enter Try.func3, Try.ntmps3
  have HBX := Lib.hid (Boxed2.new w (.slice af fs.length cf) (.slice ac cs.length cc) 25)
  go_wp2_with fail
  refine (HG.out _ (below_a1 _ _)).mono ?_
  rintro e w1 ⟨rfl, hb1⟩
  have hbel1 : Below w.heap.size w w1 := (below_a1 _ _).trans (hb1.mono (by simp))
  have bE1 := HBX.out.below hb1
  have k0 := bE1.cell0
  have k1 := bE1.cell1
  clear hb1 HG HBX
  go_wp2_with fail
  refine (HT.out _ hbel1).mono ?_
  rintro e w2 ⟨a4, c4, a5, c5, rfl, x2, y2, hb2⟩
  clear k0 k1
  have HX2 := Lib.hid (And.intro x2 y2)
  have hbel2 : Below w.heap.size w (w2.alloc (.cells #[.slice a4 fs.length c4, .slice a5 cs.length c5] 25)) := (hbel1.trans (hb2.mono hbel1.size)).alloc (Nat.le_trans hbel1.size hb2.size) _
  have g2 : Below w2.heap.size w2 (w2.alloc (.cells #[.slice a4 fs.length c4, .slice a5 cs.length c5] 25)) := below_a1 _ _
  have bE2 := (bE1.below hb2).alloc (.cells #[.slice a4 fs.length c4, .slice a5 cs.length c5] 25)
  have B2 := Boxed2.new w2 (.slice a4 fs.length c4) (.slice a5 cs.length c5) 25
  replace x2 := Sl.below x2 (below_a1 w2 (.cells #[.slice a4 fs.length c4, .slice a5 cs.length c5] 25))
  replace y2 := Sl.below y2 (below_a1 w2 (.cells #[.slice a4 fs.length c4, .slice a5 cs.length c5] 25))
  have k0 := bE2.cell0
  have k1 := bE2.cell1
  go_wp2_with fail
  refine (HK.out _ hbel2).mono ?_
  rintro e w3 ⟨a6, c6, a7, c7, rfl, x3, y3, hb3⟩
  clear k0 k1
  have HL3 := Lib.hid x3.lt
  have hbel3 : Below w.heap.size w (w3.alloc (.cells #[.slice a6 gs.length c6, .slice a7 ds.length c7] 25)) := (hbel2.trans (hb3.mono hbel2.size)).alloc (Nat.le_trans hbel2.size hb3.size) _
  have g3 : Below w2.heap.size w2 (w3.alloc (.cells #[.slice a6 gs.length c6, .slice a7 ds.length c7] 25)) := (g2.trans (hb3.mono g2.size)).alloc (Nat.le_trans g2.size hb3.size) _
  have bE3 := (bE2.below hb3).alloc (.cells #[.slice a6 gs.length c6, .slice a7 ds.length c7] 25)
  have bW3 := (B2.below hb3).alloc (.cells #[.slice a6 gs.length c6, .slice a7 ds.length c7] 25)
  have B3 := Boxed2.new w3 (.slice a6 gs.length c6) (.slice a7 ds.length c7) 25
  replace x2 := Sl.below x2 hb3
  replace x2 := Sl.below x2 (below_a1 w3 (.cells #[.slice a6 gs.length c6, .slice a7 ds.length c7] 25))
  replace y2 := Sl.below y2 hb3
  replace y2 := Sl.below y2 (below_a1 w3 (.cells #[.slice a6 gs.length c6, .slice a7 ds.length c7] 25))
  replace x3 := ownsRow_below' x3 (below_a1 w3 (.cells #[.slice a6 gs.length c6, .slice a7 ds.length c7] 25))
  replace y3 := ownsRow_below' y3 (below_a1 w3 (.cells #[.slice a6 gs.length c6, .slice a7 ds.length c7] 25))
  have k0 := bE3.cell0
  have k1 := bE3.cell1
  go_wp2_with fail
  refine (HRK.out _ hbel3).mono ?_
  rintro e w4 ⟨a8, c8, a9, c9, rfl, x4, y4, hb4⟩
  clear k0 k1
  have hbel4 : Below w.heap.size w (w4.alloc (.cells #[.slice a8 gs.length c8, .slice a9 ds.length c9] 25)) := (hbel3.trans (hb4.mono hbel3.size)).alloc (Nat.le_trans hbel3.size hb4.size) _
  have g4 : Below w2.heap.size w2 (w4.alloc (.cells #[.slice a8 gs.length c8, .slice a9 ds.length c9] 25)) := (g3.trans (hb4.mono g3.size)).alloc (Nat.le_trans g3.size hb4.size) _
  have bE4 := (bE3.below hb4).alloc (.cells #[.slice a8 gs.length c8, .slice a9 ds.length c9] 25)
  have bW4 := (bW3.below hb4).alloc (.cells #[.slice a8 gs.length c8, .slice a9 ds.length c9] 25)
  have bA4 := (B3.below hb4).alloc (.cells #[.slice a8 gs.length c8, .slice a9 ds.length c9] 25)
  have B4 := Boxed2.new w4 (.slice a8 gs.length c8) (.slice a9 ds.length c9) 25
  replace x2 := Sl.below x2 hb4
  replace x2 := Sl.below x2 (below_a1 w4 (.cells #[.slice a8 gs.length c8, .slice a9 ds.length c9] 25))
  replace y2 := Sl.below y2 hb4
  replace y2 := Sl.below y2 (below_a1 w4 (.cells #[.slice a8 gs.length c8, .slice a9 ds.length c9] 25))
  replace x3 := ownsRow_below' x3 hb4
  replace x3 := ownsRow_below' x3 (below_a1 w4 (.cells #[.slice a8 gs.length c8, .slice a9 ds.length c9] 25))
  replace y3 := ownsRow_below' y3 hb4
  replace y3 := ownsRow_below' y3 (below_a1 w4 (.cells #[.slice a8 gs.length c8, .slice a9 ds.length c9] 25))
  replace x4 := ownsRow_below' x4 (below_a1 w4 (.cells #[.slice a8 gs.length c8, .slice a9 ds.length c9] 25))
  replace y4 := ownsRow_below' y4 (below_a1 w4 (.cells #[.slice a8 gs.length c8, .slice a9 ds.length c9] 25))
  have k0 := bE4.cell0
  have k1 := bE4.cell1
  go_wp2_with fail
  refine (HO.out _ hbel4).mono ?_
  rintro e w5 ⟨a10, c10, a11, c11, rfl, x5, y5, hb5⟩
  clear k0 k1
  have HL5 := Lib.hid y5.lt
  have hbel5 : Below w.heap.size w (w5.alloc (.cells #[.slice a10 gs2.length c10, .slice a11 ds2.length c11] 25)) := (hbel4.trans (hb5.mono hbel4.size)).alloc (Nat.le_trans hbel4.size hb5.size) _
  have g5 : Below w2.heap.size w2 (w5.alloc (.cells #[.slice a10 gs2.length c10, .slice a11 ds2.length c11] 25)) := (g4.trans (hb5.mono g4.size)).alloc (Nat.le_trans g4.size hb5.size) _
  have bE5 := (bE4.below hb5).alloc (.cells #[.slice a10 gs2.length c10, .slice a11 ds2.length c11] 25)
  have bW5 := (bW4.below hb5).alloc (.cells #[.slice a10 gs2.length c10, .slice a11 ds2.length c11] 25)
  have bA5 := (bA4.below hb5).alloc (.cells #[.slice a10 gs2.length c10, .slice a11 ds2.length c11] 25)
  have bB5 := (B4.below hb5).alloc (.cells #[.slice a10 gs2.length c10, .slice a11 ds2.length c11] 25)
  have B5 := Boxed2.new w5 (.slice a10 gs2.length c10) (.slice a11 ds2.length c11) 25
  replace x2 := Sl.below x2 hb5
  replace x2 := Sl.below x2 (below_a1 w5 (.cells #[.slice a10 gs2.length c10, .slice a11 ds2.length c11] 25))
  replace y2 := Sl.below y2 hb5
  replace y2 := Sl.below y2 (below_a1 w5 (.cells #[.slice a10 gs2.length c10, .slice a11 ds2.length c11] 25))
  replace x3 := ownsRow_below' x3 hb5
  replace x3 := ownsRow_below' x3 (below_a1 w5 (.cells #[.slice a10 gs2.length c10, .slice a11 ds2.length c11] 25))
  replace y3 := ownsRow_below' y3 hb5
  replace y3 := ownsRow_below' y3 (below_a1 w5 (.cells #[.slice a10 gs2.length c10, .slice a11 ds2.length c11] 25))
  replace x4 := ownsRow_below' x4 hb5
  replace x4 := ownsRow_below' x4 (below_a1 w5 (.cells #[.slice a10 gs2.length c10, .slice a11 ds2.length c11] 25))
  replace y4 := ownsRow_below' y4 hb5
  replace y4 := ownsRow_below' y4 (below_a1 w5 (.cells #[.slice a10 gs2.length c10, .slice a11 ds2.length c11] 25))
  replace x5 := ownsRow_below' x5 (below_a1 w5 (.cells #[.slice a10 gs2.length c10, .slice a11 ds2.length c11] 25))
  replace y5 := ownsRow_below' y5 (below_a1 w5 (.cells #[.slice a10 gs2.length c10, .slice a11 ds2.length c11] 25))
  have k0 := bE5.cell0
  have k1 := bE5.cell1
  go_wp2_with fail
  refine (HRO.out _ hbel5).mono ?_
  rintro e w6 ⟨a12, c12, a13, c13, rfl, x6, y6, hb6⟩
  clear k0 k1
  have hbel6 : Below w.heap.size w (w6.alloc (.cells #[.slice a12 gs2.length c12, .slice a13 ds2.length c13] 25)) := (hbel5.trans (hb6.mono hbel5.size)).alloc (Nat.le_trans hbel5.size hb6.size) _
  have g6 : Below w2.heap.size w2 (w6.alloc (.cells #[.slice a12 gs2.length c12, .slice a13 ds2.length c13] 25)) := (g5.trans (hb6.mono g5.size)).alloc (Nat.le_trans g5.size hb6.size) _
  have bE6 := (bE5.below hb6).alloc (.cells #[.slice a12 gs2.length c12, .slice a13 ds2.length c13] 25)
  have bW6 := (bW5.below hb6).alloc (.cells #[.slice a12 gs2.length c12, .slice a13 ds2.length c13] 25)
  have bA6 := (bA5.below hb6).alloc (.cells #[.slice a12 gs2.length c12, .slice a13 ds2.length c13] 25)
  have bB6 := (bB5.below hb6).alloc (.cells #[.slice a12 gs2.length c12, .slice a13 ds2.length c13] 25)
  have bC6 := (B5.below hb6).alloc (.cells #[.slice a12 gs2.length c12, .slice a13 ds2.length c13] 25)
  have B6 := Boxed2.new w6 (.slice a12 gs2.length c12) (.slice a13 ds2.length c13) 25
  replace x2 := Sl.below x2 hb6
  replace x2 := Sl.below x2 (below_a1 w6 (.cells #[.slice a12 gs2.length c12, .slice a13 ds2.length c13] 25))
  replace y2 := Sl.below y2 hb6
  replace y2 := Sl.below y2 (below_a1 w6 (.cells #[.slice a12 gs2.length c12, .slice a13 ds2.length c13] 25))
  replace x3 := ownsRow_below' x3 hb6
  replace x3 := ownsRow_below' x3 (below_a1 w6 (.cells #[.slice a12 gs2.length c12, .slice a13 ds2.length c13] 25))
  replace y3 := ownsRow_below' y3 hb6
  replace y3 := ownsRow_below' y3 (below_a1 w6 (.cells #[.slice a12 gs2.length c12, .slice a13 ds2.length c13] 25))
  replace x4 := ownsRow_below' x4 hb6
  replace x4 := ownsRow_below' x4 (below_a1 w6 (.cells #[.slice a12 gs2.length c12, .slice a13 ds2.length c13] 25))
  replace y4 := ownsRow_below' y4 hb6
  replace y4 := ownsRow_below' y4 (below_a1 w6 (.cells #[.slice a12 gs2.length c12, .slice a13 ds2.length c13] 25))
  replace x5 := ownsRow_below' x5 hb6
  replace x5 := ownsRow_below' x5 (below_a1 w6 (.cells #[.slice a12 gs2.length c12, .slice a13 ds2.length c13] 25))
  replace y5 := ownsRow_below' y5 hb6
  replace y5 := ownsRow_below' y5 (below_a1 w6 (.cells #[.slice a12 gs2.length c12, .slice a13 ds2.length c13] 25))
  replace x6 := ownsRow_below' x6 (below_a1 w6 (.cells #[.slice a12 gs2.length c12, .slice a13 ds2.length c13] 25))
  replace y6 := ownsRow_below' y6 (below_a1 w6 (.cells #[.slice a12 gs2.length c12, .slice a13 ds2.length c13] 25))
  have k0 := bE6.cell0
  have k1 := bE6.cell1
  clear k0 k1
  have HB3 := Lib.hid (And.intro hb2.size (And.intro hb3.size (And.intro hb4.size (And.intro hb5.size hb6.size))))
  obtain ⟨V, hV⟩ : ∃ V, V = w6.alloc (.cells #[.slice a12 gs2.length c12, .slice a13 ds2.length c13] 25) := ⟨_, rfl⟩
  rw [← hV] at hbel6 g6 bE6 bW6 bA6 bB6 bC6 B6 x2 y2 x3 y3 x4 y4 x5 y5 x6 y6
  have hz : w6.heap.size < V.heap.size := by rw [hV]; simp
  have HV := Lib.hid hV
  clear hV
  have HS1 : Hid (∀ W, Below V.heap.size V W → Calls Try.prog 10 #[.agg #[.slice a6 gs.length c6, .slice a7 ds.length c7], .agg #[.slice a8 gs.length c8, .slice a9 ds.length c9]] W fun e w' => e = .returned (.bool true) ∧ Below W.heap.size W w') := fun W hW => by
    have h := same_any gs gs ds ds a6 a7 a8 a9 c6 c7 c8 c9 W hgs hds hgs hds ((rd_fx x3).below hW) ((rd_ch y3).below hW) ((rd_fx x4).below hW) ((rd_ch y4).below hW)
    rw [eqB_true ⟨rfl, rfl⟩] at h
    exact h
  have HS2 : Hid (∀ W, Below V.heap.size V W → Calls Try.prog 10 #[.agg #[.slice a10 gs2.length c10, .slice a11 ds2.length c11], .agg #[.slice a12 gs2.length c12, .slice a13 ds2.length c13]] W fun e w' => e = .returned (.bool true) ∧ Below W.heap.size W w') := fun W hW => by
    have h := same_any gs2 gs2 ds2 ds2 a10 a11 a12 a13 c10 c11 c12 c13 W hgs2 hds2 hgs2 hds2 ((rd_fx x5).below hW) ((rd_ch y5).below hW) ((rd_fx x6).below hW) ((rd_ch y6).below hW)
    rw [eqB_true ⟨rfl, rfl⟩] at h
    exact h
  have bA60 : (w6.alloc (.cells #[.slice a12 gs2.length c12, .slice a13 ds2.length c13] 25)).cell? ⟨w3.heap.size, 0, none⟩ = some (.slice a6 gs.length c6) := by rw [← HV.out]; exact bA6.cell0
  have bA61 : (w6.alloc (.cells #[.slice a12 gs2.length c12, .slice a13 ds2.length c13] 25)).cell? ⟨w3.heap.size, 1, none⟩ = some (.slice a7 ds.length c7) := by rw [← HV.out]; exact bA6.cell1
  have bB60 : (w6.alloc (.cells #[.slice a12 gs2.length c12, .slice a13 ds2.length c13] 25)).cell? ⟨w4.heap.size, 0, none⟩ = some (.slice a8 gs.length c8) := by rw [← HV.out]; exact bB6.cell0
  have bB61 : (w6.alloc (.cells #[.slice a12 gs2.length c12, .slice a13 ds2.length c13] 25)).cell? ⟨w4.heap.size, 1, none⟩ = some (.slice a9 ds.length c9) := by rw [← HV.out]; exact bB6.cell1
  have bC60 : (w6.alloc (.cells #[.slice a12 gs2.length c12, .slice a13 ds2.length c13] 25)).cell? ⟨w5.heap.size, 0, none⟩ = some (.slice a10 gs2.length c10) := by rw [← HV.out]; exact bC6.cell0
  have bC61 : (w6.alloc (.cells #[.slice a12 gs2.length c12, .slice a13 ds2.length c13] 25)).cell? ⟨w5.heap.size, 1, none⟩ = some (.slice a11 ds2.length c11) := by rw [← HV.out]; exact bC6.cell1
  have B60 : (w6.alloc (.cells #[.slice a12 gs2.length c12, .slice a13 ds2.length c13] 25)).cell? ⟨w6.heap.size, 0, none⟩ = some (.slice a12 gs2.length c12) := by rw [← HV.out]; exact B6.cell0
  have B61 : (w6.alloc (.cells #[.slice a12 gs2.length c12, .slice a13 ds2.length c13] 25)).cell? ⟨w6.heap.size, 1, none⟩ = some (.slice a13 ds2.length c13) := by rw [← HV.out]; exact B6.cell1
  clear HT HK HRK HO HRO
  go_wp2_with fail
  rw [← HV.out]
  refine (HS1.out _ (Below.refl _ _)).mono ?_
  rintro e w7 ⟨rfl, hb7⟩
  clear bA60 bA61 bB60 bB61 bC60 bC61 B60 B61
  have bE7 := bE6.below hb7
  have bW7 := bW6.below hb7
  have bA7 := bA6.below hb7
  have bC7 := bC6.below hb7
  have bD7 := B6.below hb7
  have bC70 := bC7.cell0
  have bC71 := bC7.cell1
  have bD70 := bD7.cell0
  have bD71 := bD7.cell1
  go_wp2_with fail
  refine (HS2.out _ hb7).mono ?_
  rintro e w8 ⟨rfl, hb8⟩
  clear bC70 bC71 bD70 bD71
  have hbV := hb7.trans (hb8.mono hb7.size)
  have HbV := Lib.hid hbV
  have bE8 := bE7.below hb8
  have bW8 := bW7.below hb8
  have bA8 := bA7.below hb8
  have bC8 := bC7.below hb8
  replace x3 := ownsRow_below' x3 hbV
  replace y5 := ownsRow_below' y5 hbV
  go_upto_block 0 with fail
  have hl3 := HL3.out
  have hl5 := HL5.out
  have sz := HB3.out
  simp at x3 y5 hl3 hl5 sz
  obtain ⟨s2, s3, s4, s5, s6⟩ := sz
  have hw1 := hbel1.size
  have hW0 : Below w.heap.size w w8 := hbel6.trans (HbV.out.mono hbel6.size)
  have hW2 : Below w2.heap.size w2 w8 := g6.trans (HbV.out.mono g6.size)
  clear HL3 HL5 HB3 HbV hbV HS1 HS2 hb7 hb8 bE6 bW6 bA6 bB6 bC6 B6 bE7 bW7 bA7 bC7 bD7 x4 y4 x6 y6 x5 y3 x2 y2 hbel6 g6 HV
  obtain ⟨lo1, hlo1⟩ : ∃ n, n = w2.heap.size + 1 := ⟨_, rfl⟩
  obtain ⟨hi1, hhi1⟩ : ∃ n, n = w3.heap.size := ⟨_, rfl⟩
  obtain ⟨lo2, hlo2⟩ : ∃ n, n = w4.heap.size + 1 := ⟨_, rfl⟩
  obtain ⟨hi2, hhi2⟩ : ∃ n, n = w5.heap.size := ⟨_, rfl⟩
  rw [← hlo1] at x3 hl3
  rw [← hlo2] at y5 hl5
  rw [← hhi1] at hl3
  rw [← hhi2] at hl5
  have o1 : w.heap.size < lo1 ∧ w2.heap.size < lo1 ∧ hi1 ≤ w3.heap.size ∧ hi1 ≤ lo2 ∧ hi1 ≤ w5.heap.size ∧ w2.heap.size < lo2 ∧ w.heap.size < lo2 ∧ hi2 ≤ w5.heap.size := by omega
  have HY := Lib.hid y5.lt
  have Hl3 := Lib.hid hl3
  have Hl5 := Lib.hid hl5
  have HO1 := Lib.hid o1
  clear hl3 hl5 hlo1 hhi1 hlo2 hhi2 s2 s3 s4 s5 s6 hw1 o1
  obtain ⟨os0, hos0⟩ : ∃ os, os = gs.flatMap Fx.cells := ⟨_, rfl⟩
  rw [← hos0] at x3
  obtain ⟨os1, hos1⟩ : ∃ os, os = ds2.flatMap Ch.cells := ⟨_, rfl⟩
  rw [← hos1] at y5
  clear hos0 hos1
  go_cut [19] from 79 to 90 (fun _ wc => Below w.heap.size w wc ∧ Below w2.heap.size w2 wc ∧ Boxed2 wc w.heap.size 25 (.slice af fs.length cf) (.slice ac cs.length cc) ∧ Boxed2 wc w2.heap.size 25 (.slice a4 fs.length c4) (.slice a5 cs.length c5) ∧ Boxed2 wc w5.heap.size 25 (.slice a10 gs2.length c10) (.slice a11 ds2.length c11) ∧ wc.ownsRow lo2 41 4 (.slice a11 ds2.length c11) ds2.length os1)
  case first =>
    go_wp2_with fail
    go_loopw [19] (fun i wr => ∃ (k : Nat) (os : List Value), k ≤ gs.length ∧ i = .int .i64 k ∧ wr.ownsRow lo1 39 3 (.slice a6 gs.length c6) gs.length os ∧ Turned lo1 hi1 w8 wr) (fun i _ => gs.length - (intOf i).toNat)
    case atStart => exact ⟨0, os0, Nat.zero_le _, rfl, x3, Turned.refl _ _ _⟩
    case round =>
      obtain ⟨k, os, hk, rfl, own, hT⟩ := hrel
      have bx := hT.boxed bA8 (.inr (by have := HO1.out; omega))
      have q0 := bx.cell0
      by_cases hlt : k < gs.length
      · obtain ⟨g, rfl⟩ := owns_some own (by omega)
        have hg := Hl3.out g rfl
        have hl := own.1
        have hj : k * 3 + 1 < gs.length * 3 := by omega
        obtain ⟨u, hu⟩ : ∃ u, os[k * 3 + 1]? = some u := ⟨_, List.getElem?_eq_getElem (by omega)⟩
        have hcl := (own.cellAt (k * 3 + 1) hj).trans hu
        have hfr := own.frozenAt (k * 3 + 1)
        have est := (own.stored (k * 3 + 1) (.int .i64 (-1))).1
        have hT2 := hT.setCell (a := ⟨g, k * 3 + 1, none⟩) hg.1 hg.2 (.int .i64 (-1))
        have hk1 : (0 : Int) ≤ (k : Int) := by omega
        have hk2 : (k : Int) < (gs.length : Int) := by omega
        have HT2 := Lib.hid hT2
        clear hu hl hj hg hT2
        go_wp2
        go_roundw
        case rel => exact ⟨k + 1, _, by omega, by go_num, est, HT2.out⟩
        case measure => simp [intOf]; omega
      · obtain rfl : k = gs.length := by omega
        have o1 := HO1.out
        have r1 := hT.boxed bE8 (.inl o1.1)
        have r2 := hT.boxed bW8 (.inl o1.2.1)
        have r3 := hT.boxed bC8 (.inr o1.2.2.2.2.1)
        have r4 := ownsRow_kept (w' := wr) y5 (fun k hk _ => hT.block k (.inr (by have := (HY.out k hk).1; omega)))
        have r5 := hW0.trans (hT.below.mono (Nat.le_of_lt o1.1))
        have r6 := hW2.trans (hT.below.mono (Nat.le_of_lt o1.2.1))
        go_wp2
        go_meet
        exact ⟨r5, r6, r1, r2, r3, r4⟩
  case rest =>
    clear hW0 hW2 bE8 bW8 bC8 y5
    obtain ⟨hW0, hW2, bE8, bW8, bC8, y5⟩ := hcut
    go_wp2_with fail
    go_loopw [20] (fun i wr => ∃ (k : Nat) (os : List Value), k ≤ ds2.length ∧ i = .int .i64 k ∧ wr.ownsRow lo2 41 4 (.slice a11 ds2.length c11) ds2.length os ∧ Turned lo2 hi2 wc wr) (fun i _ => ds2.length - (intOf i).toNat)
    case atStart => exact ⟨0, os1, Nat.zero_le _, rfl, y5, Turned.refl _ _ _⟩
    case round =>
      obtain ⟨k, os, hk, rfl, own, hT⟩ := hrel
      have bx := hT.boxed bC8 (.inr (by have := HO1.out; omega))
      have q0 := bx.cell1
      by_cases hlt : k < ds2.length
      · obtain ⟨g, rfl⟩ := owns_some own (by omega)
        have hg := Hl5.out g rfl
        have hl := own.1
        have hj : k * 4 + 2 < ds2.length * 4 := by omega
        obtain ⟨u, hu⟩ : ∃ u, os[k * 4 + 2]? = some u := ⟨_, List.getElem?_eq_getElem (by omega)⟩
        have hcl := (own.cellAt (k * 4 + 2) hj).trans hu
        have hfr := own.frozenAt (k * 4 + 2)
        have est := (own.stored (k * 4 + 2) (.int .i64 (-1))).1
        have hT2 := hT.setCell (a := ⟨g, k * 4 + 2, none⟩) hg.1 hg.2 (.int .i64 (-1))
        have hk1 : (0 : Int) ≤ (k : Int) := by omega
        have hk2 : (k : Int) < (ds2.length : Int) := by omega
        have HT2 := Lib.hid hT2
        clear hu hl hj hg hT2
        go_wp2
        go_roundw
        case rel => exact ⟨k + 1, _, by omega, by go_num, est, HT2.out⟩
        case measure => simp [intOf]; omega
      · obtain rfl : k = ds2.length := by omega
        have o1 := HO1.out
        have r1 := hT.boxed bE8 (.inl o1.2.2.2.2.2.2.1)
        have r2 := hT.boxed bW8 (.inl o1.2.2.2.2.2.1)
        have r5 := hW0.trans (hT.below.mono (Nat.le_of_lt o1.2.2.2.2.2.2.1))
        have r6 := hW2.trans (hT.below.mono (Nat.le_of_lt o1.2.2.2.2.2.1))
        have e0 := r1.cell0
        have e1 := r1.cell1
        have f0 := r2.cell0
        have f1 := r2.cell1
        go_wp2_with fail
        refine (HSv.out wr a4 a5 c4 c5 r5 ?_ ?_).mono ?_
        · exact Rd.of_sl (enc := Fx.cells) (m := 3) (fun _ => rfl) (by decide) (HX2.out.1.below r6)
        · exact Rd.of_sl (enc := Ch.cells) (m := 4) (fun _ => rfl) (by decide) (HX2.out.2.below r6)
        rintro e wz ⟨rfl, hbz⟩
        have r7 := r5.trans (hbz.mono r5.size)
        clear e0 e1 f0 f1
        go_wp2
        go_ret
        exact ⟨rfl, r7⟩

theorem law15_any (fs : List Fx) (cs : List Ch) (ns : List Nd) (ks : List Ch) (day : Int) (af ac an ak : Option Addr) (cf cc cn ck : Nat) (w : World) (hn : fs.length ≤ 1100000) (hm : cs.length ≤ 1100000) (hnn : ns.length ≤ 1100000) (hkk : ks.length ≤ 1100000)
    (hf : Rd Fx.cells 3 w af fs) (hc : Rd Ch.cells 4 w ac cs) (hrn : Rd Nd.cells 2 w an ns) (hrk : Rd Ch.cells 4 w ak ks) (sf : Sl w (.slice af fs.length cf) 3 fs.length (fs.flatMap Fx.cells)) (sc : Sl w (.slice ac cs.length cc) 4 cs.length (cs.flatMap Ch.cells)) (haf : af = none → cf = 0) (hac : ac = none → cc = 0)
    (hfs : ∀ f ∈ fs, f.small) (hcs : ∀ c ∈ cs, c.small) (hns : ∀ f ∈ ns, f.small) (hks : ∀ f ∈ ks, f.small ∧ f.fits) (hff : ∀ f ∈ fs, f.fits) (hcf : ∀ f ∈ cs, f.fits) :
    Calls Try.prog 3 #[.agg #[.slice af fs.length cf, .slice ac cs.length cc], .int .i64 day, .slice an ns.length cn, .slice ak ks.length ck] w fun e w' => e = .returned (.bool true) ∧ Below w.heap.size w w' := by
  have HG := Lib.hid (fun W (h : Below w.heap.size w W) => great_any fs cs af ac cf cc W hn hm (hf.below h) (hc.below h) hfs hcs)
  by_cases hg : greatB fs cs = true ∨ 200 < ns.length ∨ 200 < ks.length
  · exact law15_great fs cs ns.length ks.length day af ac an ak cf cc cn ck w HG hg hnn hkk
  · have hg1 : greatB fs cs = false := by
      cases h : greatB fs cs with
      | false => rfl
      | true => exact absurd (.inl h) hg
    have hg2 : ns.length ≤ 200 := by
      rcases Nat.lt_or_ge 200 ns.length with h | h
      · exact absurd (.inr (.inl h)) hg
      · exact h
    have hg3 : ks.length ≤ 200 := by
      rcases Nat.lt_or_ge 200 ks.length with h | h
      · exact absurd (.inr (.inr h)) hg
      · exact h
    rw [hg1] at HG
    refine law15_main fs (knownF fs cs day) (onlyF fs cs ns) cs (knownC fs cs day) (onlyC fs cs ks) ns.length ks.length day (knownErr fs cs day) (envErr fs cs) af ac an ak cf cc cn ck w
      (Nat.le_trans (knownF_len _ _ _) hn) (Nat.le_trans (knownC_len _ _ _) hm) (Nat.le_trans (onlyF_len _ _ _) hn) (Nat.le_trans (onlyC_len _ _ _) hm) hg2 hg3 HG
      (Lib.hid fun W h => twin_any fs cs af ac cf cc W hn hm (sf.below h) (sc.below h) haf hac)
      (Lib.hid fun W h => known_any fs cs day af ac cf cc W hn hm (hf.below h) (hc.below h) hfs hcs)
      (Lib.hid fun W h => rknown_any fs cs day af ac cf cc W hn hm (hf.below h) (hc.below h) hfs hcs)
      (Lib.hid fun W h => only_any fs cs ns ks af ac an ak cf cc cn ck W hn hm hnn hkk (hf.below h) (hc.below h) (hrn.below h) (hrk.below h) hfs hcs hns hks hff hcf)
      (Lib.hid fun W x y cx cy h h1 h2 => ?_)
      (Lib.hid fun W h => ronly_any fs cs ns ks af ac an ak cf cc cn ck W hn hm hnn hkk (hf.below h) (hc.below h) (hrn.below h) (hrk.below h) hfs hcs)
    have e := same_any fs fs cs cs af ac x y cf cc cx cy W hn hm hn hm (hf.below h) (hc.below h) h1 h2
    rw [eqB_true ⟨rfl, rfl⟩] at e
    exact e

end Go.Proofs.Ytofbngpckllkoaa
