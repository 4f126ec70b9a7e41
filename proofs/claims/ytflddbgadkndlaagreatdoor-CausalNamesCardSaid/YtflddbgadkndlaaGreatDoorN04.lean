/-
  causal.Only. CausalNames: what its calls answer.
-/
import Derived.Test.YtflddbgadkndlaaGreatDoorN03
import Derived.Laws.StructEq
import Derived.Deep.CutBlock
import Derived.Test.YtflddbgadkndlaaGreatDoorN01
import Derived.Test.YtflddbgadkndlaaGreatDoorC27
namespace Go.Proofs.YtflddbgadkndlaaGreatDoor
open Go.RowKit

/-- A need. -/
structure Nd where
  nm : ByteArray
  d : Int
def Nd.cells (f : Nd) : List Value := [.string f.nm, .int .i64 f.d]
def Nd.key (f : Nd) : Value := .agg #[.string f.nm, .int .i64 f.d]
theorem Rd.nd {w : World} {ad : Option Addr} {l : List Nd} (h : Rd Nd.cells 2 w ad l) {j : Nat} {f : Nd} (hj : l[j]? = some f) :
    ∃ b off, ad = some ⟨b, off, none⟩ ∧ w.cell? ⟨b, off + j * 2, none⟩ = some (.string f.nm) ∧ w.cell? ⟨b, off + j * 2 + 1, none⟩ = some (.int .i64 f.d) := by
  obtain ⟨b, off, rfl, h3⟩ := h j f hj
  exact ⟨b, off, rfl, h3 0 _ rfl, h3 1 _ rfl⟩
/-- The Lit of a key, where there is one. -/
noncomputable def litN (n : ByteArray) (d : Int) : Lit := (keyOf Tryz.prog 58 (.agg #[.string n, .int .i64 d])).getD (.bool false)
noncomputable def litC (p n : ByteArray) (d : Int) : Lit := (keyOf Tryz.prog 60 (.agg #[.string p, .string n, .int .i64 d, .bool false])).getD (.bool false)
theorem litN_key {n : ByteArray} {d : Int} (hn : n.size ≤ maxLen) (hd : (Lit.int .i64 d).wf = true) : keyOf Tryz.prog 58 (.agg #[.string n, .int .i64 d]) = some (litN n d) := by
  obtain ⟨kl, h⟩ := key_need n d hn hd
  rw [litN, h]; rfl
theorem litC_key {p n : ByteArray} {d : Int} (hp : p.size ≤ maxLen) (hn : n.size ≤ maxLen) (hd : (Lit.int .i64 d).wf = true) : keyOf Tryz.prog 60 (.agg #[.string p, .string n, .int .i64 d, .bool false]) = some (litC p n d) := by
  obtain ⟨kl, h⟩ := key_choice p n d false hp hn hd
  rw [litC, h]; rfl
set_option maxRecDepth 100000 in
theorem isKeyN {n : ByteArray} {d : Int} (hn : n.size ≤ 1100000) (hd : (Lit.int .i64 d).wf = true) : WideAt.IsKeyLit (litN n d) :=
  have h := litN_key (Nat.le_trans hn (by unfold maxLen; omega)) hd
  law_need.key h
set_option maxRecDepth 100000 in
theorem isKeyC {p n : ByteArray} {d : Int} (hp : p.size ≤ 1100000) (hn : n.size ≤ 1100000) (hd : (Lit.int .i64 d).wf = true) : WideAt.IsKeyLit (litC p n d) :=
  have h := litC_key (Nat.le_trans hp (by unfold maxLen; omega)) (Nat.le_trans hn (by unfold maxLen; omega)) hd
  law_choice.key h
def Nd.small (f : Nd) : Prop := f.nm.size ≤ 1100000 ∧ (Lit.int .i64 f.d).wf = true
theorem small_max {n : Nat} (h : n ≤ 1100000) : n ≤ maxLen := by unfold maxLen; omega
/-- The sets after the loops. -/
noncomputable def setN (l : List Nd) : DataW Unit := Maps.setOf (.agg []) (l.map fun f => litN f.nm f.d)
noncomputable def setC (l : List Ch) : DataW Unit := Maps.setOf (.agg []) (l.map fun f => litC f.pt f.nm f.d)
set_option maxRecDepth 100000 in
theorem has_setN {l : List Nd} (hl : ∀ f ∈ l, f.small) {n : ByteArray} {d : Int} (hn : n.size ≤ 1100000) (hd : (Lit.int .i64 d).wf = true) : Maps.has (setN l) (litN n d) = eqB (∃ f ∈ l, f.nm = n ∧ f.d = d) := by
  rw [setN, Maps.has_setOf]
  · by_cases h : ∃ f ∈ l, f.nm = n ∧ f.d = d
    · rw [eqB_true h]
      obtain ⟨f, hf, rfl, rfl⟩ := h
      rw [List.any_eq_true]
      exact ⟨_, List.mem_map_of_mem hf, WideAt.sameKey_self (isKeyN hn hd)⟩
    · rw [eqB_false h, Bool.eq_false_iff]
      intro ha
      rw [List.any_eq_true] at ha
      obtain ⟨x, hx, hs⟩ := ha
      obtain ⟨f, hf, rfl⟩ := List.mem_map.1 hx
      have e := WideAt.sameKey_eq hs
      have h1 := litN_key (small_max (hl f hf).1) (hl f hf).2
      have h2 := litN_key (small_max hn) hd
      rw [e] at h1
      have := law_need.inj h1 h2
      simp at this
      exact h ⟨f, hf, this.1, this.2⟩
  · intro x hx
    obtain ⟨f, hf, rfl⟩ := List.mem_map.1 hx
    exact isKeyN (hl f hf).1 (hl f hf).2
set_option maxRecDepth 100000 in
theorem has_setC {l : List Ch} (hl : ∀ f ∈ l, f.small ∧ f.fits) {p n : ByteArray} {d : Int} (hp : p.size ≤ 1100000) (hn : n.size ≤ 1100000) (hd : (Lit.int .i64 d).wf = true) : Maps.has (setC l) (litC p n d) = eqB (∃ f ∈ l, f.pt = p ∧ f.nm = n ∧ f.d = d) := by
  rw [setC, Maps.has_setOf]
  · by_cases h : ∃ f ∈ l, f.pt = p ∧ f.nm = n ∧ f.d = d
    · rw [eqB_true h]
      obtain ⟨f, hf, rfl, rfl, rfl⟩ := h
      rw [List.any_eq_true]
      exact ⟨_, List.mem_map_of_mem hf, WideAt.sameKey_self (isKeyC hp hn hd)⟩
    · rw [eqB_false h, Bool.eq_false_iff]
      intro ha
      rw [List.any_eq_true] at ha
      obtain ⟨x, hx, hs⟩ := ha
      obtain ⟨f, hf, rfl⟩ := List.mem_map.1 hx
      have e := WideAt.sameKey_eq hs
      have h1 := litC_key (small_max (hl f hf).1.1) (small_max (hl f hf).1.2) (hl f hf).2
      have h2 := litC_key (small_max hp) (small_max hn) hd
      rw [e] at h1
      have := law_choice.inj h1 h2
      simp at this
      exact h ⟨f, hf, this.1, this.2.1, this.2.2⟩
  · intro x hx
    obtain ⟨f, hf, rfl⟩ := List.mem_map.1 hx
    exact isKeyC (hl f hf).1.1 (hl f hf).1.2 (hl f hf).2

theorem grown_step {w0 w w2 : World} {b : Nat} {o : Obj} (h : w0.grownBy w (some b)) (hg : (w.alloc o).grownBy w2 (some b)) : w0.grownBy w2 (some b) :=
  ⟨hg.os.trans h.os, hg.tape.trans h.tape, hg.output.trans h.output, Nat.le_trans h.size (Nat.le_trans (by simp) hg.size), fun k hk hne => ((hg.block k (by have := h.size; simp; omega) hne).trans (Below.heap_alloc _ _ _ (Nat.lt_of_lt_of_le hk h.size))).trans (h.block k hk hne)⟩
noncomputable def needed (ns : List Nd) (f : Fx) : Bool := eqB (∃ x ∈ ns, x.nm = f.nm ∧ x.d = f.d)
noncomputable def isOpen (ks : List Ch) (f : Ch) : Bool := eqB (∃ x ∈ ks, x.pt = f.pt ∧ x.nm = f.nm ∧ x.d = f.d)
noncomputable def onlyF (fs : List Fx) (cs : List Ch) (ns : List Nd) : List Fx := if envErr fs cs = 0 then fs.filter (needed ns) else []
noncomputable def onlyC (fs : List Fx) (cs : List Ch) (ks : List Ch) : List Ch := if envErr fs cs = 0 then cs.filter (isOpen ks) else []

set_option maxHeartbeats 2000000 in
set_option maxRecDepth 100000 in
theorem only_ok (fs : List Fx) (cs : List Ch) (ns : List Nd) (ks : List Ch) (af ac an ak : Option Addr) (cf cc cn ck : Nat) (w : World) (hn : fs.length ≤ 1100000) (hm : cs.length ≤ 1100000) (hnn : ns.length ≤ 1100000) (hkk : ks.length ≤ 1100000)
    (hf : Rd Fx.cells 3 w af fs) (hc : Rd Ch.cells 4 w ac cs) (hrn : Rd Nd.cells 2 w an ns) (hrk : Rd Ch.cells 4 w ak ks) (hfs : ∀ f ∈ fs, f.small) (hcs : ∀ c ∈ cs, c.small) (hns : ∀ f ∈ ns, f.small) (hks : ∀ f ∈ ks, f.small ∧ f.fits) (hff : ∀ f ∈ fs, f.fits) (hcf : ∀ f ∈ cs, f.fits) (he : envErr fs cs = 0) :
    Calls Tryz.prog 27 #[.agg #[.slice af fs.length cf, .slice ac cs.length cc], .slice an ns.length cn, .slice ak ks.length ck] w (EnvPost w (envErr fs cs) (onlyF fs cs ns) (onlyC fs cs ks)) := by
  have HE := Lib.hid (fun W (h : Below w.heap.size w W) => checkEnv_any fs cs af ac cf cc W hn hm (hf.below h) (hc.below h) hfs hcs)
  rw [onlyF, onlyC, he, if_pos rfl, if_pos rfl]
  rw [he] at HE
  obtain ⟨gs, hgs⟩ : ∃ gs, gs = fs.filter (needed ns) := ⟨_, rfl⟩
  obtain ⟨ds, hds⟩ : ∃ ds, ds = cs.filter (isOpen ks) := ⟨_, rfl⟩
  rw [← hgs, ← hds]
  have HG := Lib.hid hgs
  have HD := Lib.hid hds
  have HSF : Hid (∀ f ∈ fs, f.small ∧ f.fits) := fun f h => ⟨hfs f h, hff f h⟩
  have HSC : Hid (∀ f ∈ cs, f.small ∧ f.fits) := fun f h => ⟨hcs f h, hcf f h⟩
  have Rfs := Lib.hid hf
  have Rcs := Lib.hid hc
  have Rns := Lib.hid hrn
  have Rks := Lib.hid hrk
  have Hns := Lib.hid hns
  have Hks := Lib.hid hks
  clear hf hc hrn hrk hfs hcs hns hks he hgs hds hff hcf
  have hmm := @run_makeMap Tryz.prog
  go_enter Tryz.func27, Tryz.ntmps27
  go_wp2_with fail
  refine (HE.out _ (below_a2 _ _ _)).mono ?_
  rintro e w1 ⟨rfl, hb1⟩
  have hs1 := hb1.size
  simp at hs1
  have hbel : Below w.heap.size w w1 := (below_a2 _ _ _).trans (hb1.mono (by simp; omega))
  have k0 : w1.cell? ⟨w.heap.size, 0, none⟩ = some (.slice af fs.length cf) := by rw [hb1.cell (by simp; omega)]; go_simp
  have k1 : w1.cell? ⟨w.heap.size, 1, none⟩ = some (.slice ac cs.length cc) := by rw [hb1.cell (by simp; omega)]; go_simp
  have BX := (Boxed2.new (w.alloc (.cells #[.slice af fs.length cf, .slice ac cs.length cc] 68)) (.slice none 0 0) (.slice none 0 0) 68).below hb1
  simp at BX
  have HBX := Lib.hid BX
  clear BX
  go_upto_block 0 with fail
  obtain ⟨W0, hW0⟩ : ∃ W0, W0 = ((((w1.alloc (.map #[] 0)).alloc (.map #[] 0)).alloc (.cells #[.map (some w1.heap.size)] 112)).alloc (.cells #[.map (some (w1.heap.size + 1))] 113)) := ⟨_, rfl⟩
  rw [← hW0]
  have own1 : W0.ownsMap Tryz.prog 58 (unitElem (H := Unit)) w1.heap.size 0 (setN []) := by
    rw [hW0]
    exact (((World.ownsMap_made _ _ _ _).alloc _).alloc _).alloc _
  have own2 : W0.ownsMap Tryz.prog 60 (unitElem (H := Unit)) (w1.heap.size + 1) 0 (setC []) := by
    rw [hW0]
    have h := World.ownsMap_made (P := Tryz.prog) (k := 60) (R := unitElem (H := Unit)) (w1.alloc (.map #[] 0))
    simp at h
    exact (h.alloc _).alloc _
  have hbel1 : Below w1.heap.size w1 W0 := by rw [hW0]; exact ((((Below.refl _ _).alloc (Nat.le_refl _) _).alloc (by simp) _).alloc (by simp; omega) _).alloc (by simp; omega) _
  have hb0 : Below w.heap.size w W0 := hbel.trans (hbel1.mono (by omega))
  have m1 : W0.cell? ⟨w1.heap.size + 1 + 1, 0, none⟩ = some (.map (some w1.heap.size)) := by rw [hW0]; go_simp
  have m2 : W0.cell? ⟨w1.heap.size + 1 + 1 + 1, 0, none⟩ = some (.map (some (w1.heap.size + 1))) := by rw [hW0]; go_simp
  have hz0 : W0.heap.size = w1.heap.size + 1 + 1 + 1 + 1 := by rw [hW0]; simp
  clear hW0
  have K0 := Lib.hid k0
  have K1 := Lib.hid k1
  clear k0 k1
  have M1 := Lib.hid m1
  have Hz0 := Lib.hid hz0
  clear m1 hz0
  go_cut [12, 25] from 26 to 32 (fun _ _ wc => wc.ownsMap Tryz.prog 58 (unitElem (H := Unit)) w1.heap.size ns.length (setN ns) ∧ W0.grownBy wc (some w1.heap.size))
  case first =>
    go_wp2_with fail
    go_loopw [25] (fun i wr => ∃ k : Nat, k ≤ ns.length ∧ i = .int .i64 k ∧ wr.ownsMap Tryz.prog 58 (unitElem (H := Unit)) w1.heap.size k (setN (ns.take k)) ∧ W0.grownBy wr (some w1.heap.size)) (fun i _ => ns.length - (intOf i).toNat)
    case atStart => exact ⟨0, Nat.zero_le _, rfl, own1, World.grownBy.refl _ _⟩
    case round =>
      obtain ⟨k, hk, rfl, hown, hg⟩ := hrel
      have hq := M1.out
      have c9 : wr.cell? ⟨w1.heap.size + 1 + 1, 0, none⟩ = some (.map (some w1.heap.size)) := by
        rw [World.cell?_of_block (w := W0) (hg.block _ (by have := Hz0.out; show w1.heap.size + 1 + 1 < _; omega) (by simp; omega))]; exact hq
      have hlt9 : w1.heap.size + 1 + 1 < wr.heap.size := World.block_lt_of_cell? wr _ c9
      clear hq
      by_cases hlt : k < ns.length
      · obtain ⟨f, hf⟩ : ∃ f, ns[k]? = some f := ⟨_, List.getElem?_eq_getElem hlt⟩
        have hbr : Below w.heap.size w wr := hb0.grown hg (by have := hb0.size; omega) (fun k hk => by simp at hk; omega)
        have HRf := ((Rns.out.below hbr).nd hf)
        have hsm := Hns.out f (List.mem_of_getElem? hf)
        have hkey := Lib.hid (litN_key (small_max hsm.1) hsm.2)
        have HX : Hid (setN (ns.take (k + 1)) = (setN (ns.take k)).put (litN f.nm f.d) (.agg [])) := by
          show _ = _
          rw [setN, List.take_add_one, hf, List.map_append]
          exact Maps.setOf_snoc _ _ _
        clear hf hsm
        obtain ⟨b, off, rfl, hc1, hc2⟩ := HRf
        go_wp2_with (at_mapUpdate; refine wpList_mapUpdate_own _ rfl _ _ _ 112 rfl 58 114 law_need ul_needmap _ w1.heap.size k _ rfl (hown.alloc _) (by unfold maxLen; omega) _ _ _ rfl rfl hkey.out _ [] unitElem_mk ?_; intro w2 hown2 hgrow2)
        have hown3 : w2.ownsMap Tryz.prog 58 (unitElem (H := Unit)) w1.heap.size (k + 1) (setN (ns.take (k + 1))) := by rw [HX.out]; exact hown2
        have hg2 := grown_step hg hgrow2
        clear hown2 hgrow2 hown hg
        go_roundw
        case rel => exact ⟨k + 1, by omega, by go_num, hown3, hg2⟩
        case measure => simp [intOf]; omega
      · obtain rfl : k = ns.length := by omega
        rw [List.take_length] at hown
        go_wp2
        go_meet
        exact ⟨hown, hg⟩
  case rest =>
    obtain ⟨own1c, hgA⟩ := hcut
    have own2c : wc.ownsMap Tryz.prog 60 (unitElem (H := Unit)) (w1.heap.size + 1) 0 (setC []) := ownsMap_kept own2 (hgA.block _ (by have := Hz0.out; omega) (by simp))
    have hbc : Below w.heap.size w wc := hb0.grown hgA (by have := hb0.size; omega) (fun k hk => by simp at hk; omega)
    have c10 : wc.cell? ⟨w1.heap.size + 1 + 1 + 1, 0, none⟩ = some (.map (some (w1.heap.size + 1))) := by
      rw [World.cell?_of_block (w := W0) (hgA.block _ (by have := Hz0.out; show w1.heap.size + 1 + 1 + 1 < _; omega) (by simp; omega))]; exact m2
    have M2 := Lib.hid c10
    clear m2 own1 own2 c10
    go_wp2
    go_loopw [35] (fun i wr => ∃ k : Nat, k ≤ ks.length ∧ i = .int .i64 k ∧ wr.ownsMap Tryz.prog 60 (unitElem (H := Unit)) (w1.heap.size + 1) k (setC (ks.take k)) ∧ wc.grownBy wr (some (w1.heap.size + 1))) (fun i _ => ks.length - (intOf i).toNat)
    case atStart => exact ⟨0, Nat.zero_le _, rfl, own2c, World.grownBy.refl _ _⟩
    case round =>
      obtain ⟨k, hk, rfl, hown, hg⟩ := hrel
      have hlt8 : w1.heap.size + 1 + 1 + 1 < wc.heap.size := World.block_lt_of_cell? wc _ M2.out
      have c9 : wr.cell? ⟨w1.heap.size + 1 + 1 + 1, 0, none⟩ = some (.map (some (w1.heap.size + 1))) := by
        rw [World.cell?_of_block (w := wc) (hg.block _ hlt8 (by simp; omega))]; exact M2.out
      have hlt9 : w1.heap.size + 1 + 1 + 1 < wr.heap.size := World.block_lt_of_cell? wr _ c9
      by_cases hlt : k < ks.length
      · obtain ⟨f, hf⟩ : ∃ f, ks[k]? = some f := ⟨_, List.getElem?_eq_getElem hlt⟩
        have hbr : Below w.heap.size w wr := hbc.grown hg (by have := hbc.size; omega) (fun k hk => by simp at hk; omega)
        have HRf := ((Rks.out.below hbr).ch hf)
        have hsm := Hks.out f (List.mem_of_getElem? hf)
        have hkey := Lib.hid (litC_key (small_max hsm.1.1) (small_max hsm.1.2) hsm.2)
        have HX : Hid (setC (ks.take (k + 1)) = (setC (ks.take k)).put (litC f.pt f.nm f.d) (.agg [])) := by
          show _ = _
          rw [setC, List.take_add_one, hf, List.map_append]
          exact Maps.setOf_snoc _ _ _
        clear hf hsm
        obtain ⟨b, off, rfl, hc1, hc2, hc3, hc4⟩ := HRf
        go_wp2_with (at_mapUpdate; refine wpList_mapUpdate_own _ rfl _ _ _ 113 rfl 60 114 law_choice ul_choicemap _ (w1.heap.size + 1) k _ rfl (hown.alloc _) (by unfold maxLen; omega) _ _ _ rfl rfl hkey.out _ [] unitElem_mk ?_; intro w2 hown2 hgrow2)
        have hown3 : w2.ownsMap Tryz.prog 60 (unitElem (H := Unit)) (w1.heap.size + 1) (k + 1) (setC (ks.take (k + 1))) := by rw [HX.out]; exact hown2
        have hg2 := grown_step hg hgrow2
        clear hown2 hgrow2 hown hg
        go_roundw
        case rel => exact ⟨k + 1, by omega, by go_num, hown3, hg2⟩
        case measure => simp [intOf]; omega
      · obtain rfl : k = ks.length := by omega
        rw [List.take_length] at hown
        have hb1r : Below w1.heap.size w1 wr := (hbel1.grown hgA (by have := Hz0.out; omega) (fun k hk => by simp at hk; omega)).grown hg (by have := hgA.size; have := Hz0.out; omega) (fun k hk => by simp at hk; omega)
        have hwr : Below w.heap.size w wr := hbel.trans (hb1r.mono (by omega))
        have own1r := ownsMap_kept own1c (hg.block _ (by have := hgA.size; have := Hz0.out; omega) (by simp))
        have c8 : wr.cell? ⟨w1.heap.size + 1 + 1, 0, none⟩ = some (.map (some w1.heap.size)) := by
          rw [World.cell?_of_block (w := wc) (hg.block _ (by have := hgA.size; have := Hz0.out; show w1.heap.size + 1 + 1 < _; omega) (by simp)), World.cell?_of_block (w := W0) (hgA.block _ (by have := Hz0.out; show w1.heap.size + 1 + 1 < _; omega) (by simp; omega))]; exact M1.out
        have hl1 : w1.heap.size < wr.heap.size := ownsMap_lt own1r
        have hl2 : w1.heap.size + 1 < wr.heap.size := ownsMap_lt hown
        have B2 := Lib.hid (HBX.out.of_block (hb1r.block _ (by omega)))
        have k0 : wr.cell? ⟨w.heap.size, 0, none⟩ = some (.slice af fs.length cf) := by rw [hb1r.cell (by show w.heap.size < _; omega)]; exact K0.out
        have k1 : wr.cell? ⟨w.heap.size, 1, none⟩ = some (.slice ac cs.length cc) := by rw [hb1r.cell (by show w.heap.size < _; omega)]; exact K1.out
        have HSt : ∀ W w2, (Ext wr W ∧ W.cell? ⟨w.heap.size, 0, none⟩ = some (.slice af fs.length cf) ∧ W.cell? ⟨w.heap.size, 1, none⟩ = some (.slice ac cs.length cc) ∧ W.cell? ⟨w.heap.size + 1, 0, none⟩ = some (.slice none 0 0) ∧ W.cell? ⟨w.heap.size + 1, 1, none⟩ = some (.slice none 0 0) ∧ W.frozen? ⟨w.heap.size + 1, 0, none⟩ = false ∧ W.frozen? ⟨w.heap.size + 1, 1, none⟩ = false) → Below W.heap.size W w2 → (Ext wr w2 ∧ w2.cell? ⟨w.heap.size, 0, none⟩ = some (.slice af fs.length cf) ∧ w2.cell? ⟨w.heap.size, 1, none⟩ = some (.slice ac cs.length cc) ∧ w2.cell? ⟨w.heap.size + 1, 0, none⟩ = some (.slice none 0 0) ∧ w2.cell? ⟨w.heap.size + 1, 1, none⟩ = some (.slice none 0 0) ∧ w2.frozen? ⟨w.heap.size + 1, 0, none⟩ = false ∧ w2.frozen? ⟨w.heap.size + 1, 1, none⟩ = false) := by
          intro W w2 ⟨h1, h2, h3, h4, h5, h6, h7⟩ hb
          have hz : w.heap.size + 1 < W.heap.size := World.block_lt_of_cell? W _ h4
          exact ⟨h1.below.trans (hb.mono (Below.size h1)), Ext.cell hb h2, Ext.cell hb h3, Ext.cell hb h4, Ext.cell hb h5, by rw [hb.frozen hz]; exact h6, by rw [hb.frozen hz]; exact h7⟩
        have HK1 : Hid (∀ W, (Ext wr W ∧ W.cell? ⟨w.heap.size, 0, none⟩ = some (.slice af fs.length cf) ∧ W.cell? ⟨w.heap.size, 1, none⟩ = some (.slice ac cs.length cc) ∧ W.cell? ⟨w.heap.size + 1, 0, none⟩ = some (.slice none 0 0) ∧ W.cell? ⟨w.heap.size + 1, 1, none⟩ = some (.slice none 0 0) ∧ W.frozen? ⟨w.heap.size + 1, 0, none⟩ = false ∧ W.frozen? ⟨w.heap.size + 1, 1, none⟩ = false) → Calls Tryz.prog 52 #[.slice af fs.length cf, .func (.func 56) #[] #[.pointer (some ⟨w1.heap.size + 1 + 1, 0, none⟩)]] W fun e w' => ∃ ad cap, e = .returned (.slice ad gs.length cap) ∧ w'.ownsRow W.heap.size 65 3 (.slice ad gs.length cap) gs.length (gs.flatMap Fx.cells) ∧ Below W.heap.size W w' ∧ (Ext wr w' ∧ w'.cell? ⟨w.heap.size, 0, none⟩ = some (.slice af fs.length cf) ∧ w'.cell? ⟨w.heap.size, 1, none⟩ = some (.slice ac cs.length cc) ∧ w'.cell? ⟨w.heap.size + 1, 0, none⟩ = some (.slice none 0 0) ∧ w'.cell? ⟨w.heap.size + 1, 1, none⟩ = some (.slice none 0 0) ∧ w'.frozen? ⟨w.heap.size + 1, 0, none⟩ = false ∧ w'.frozen? ⟨w.heap.size + 1, 1, none⟩ = false)) := by
          intro W hS
          rw [HG.out]
          refine (keepF2_any (needed ns) fs af cf (w1.heap.size + 1 + 1) W hn ((Rfs.out.below hwr).below hS.1) fun f hf W' hW' => ?_).mono ?_
          · rw [show needed ns f = Maps.has (setN ns) (litN f.nm f.d) from (has_setN Hns.out (HSF.out f hf).1.1 (HSF.out f hf).2).symm]
            exact only1_any f _ w1.heap.size ns.length (setN ns) _ W' (Ext.cell hW' (hS.1.cell c8)) (ownsMap_kept own1r (((Below.block hW' _ (Nat.lt_of_lt_of_le hl1 (Below.size hS.1))).trans (Below.block hS.1 _ hl1)))) (litN_key (small_max (HSF.out f hf).1.1) (HSF.out f hf).2)
          · rintro e w2 ⟨ad, cap, rfl, own, hb⟩
            have q := HSt W w2 hS hb
            exact ⟨ad, cap, rfl, own, hb, q⟩
        have HK2 : Hid (∀ W, (Ext wr W ∧ W.cell? ⟨w.heap.size, 0, none⟩ = some (.slice af fs.length cf) ∧ W.cell? ⟨w.heap.size, 1, none⟩ = some (.slice ac cs.length cc) ∧ W.cell? ⟨w.heap.size + 1, 0, none⟩ = some (.slice none 0 0) ∧ W.cell? ⟨w.heap.size + 1, 1, none⟩ = some (.slice none 0 0) ∧ W.frozen? ⟨w.heap.size + 1, 0, none⟩ = false ∧ W.frozen? ⟨w.heap.size + 1, 1, none⟩ = false) → Calls Tryz.prog 54 #[.slice ac cs.length cc, .func (.func 57) #[] #[.pointer (some ⟨w1.heap.size + 1 + 1 + 1, 0, none⟩)]] W fun e w' => ∃ ad cap, e = .returned (.slice ad ds.length cap) ∧ w'.ownsRow W.heap.size 60 4 (.slice ad ds.length cap) ds.length (ds.flatMap Ch.cells) ∧ Below W.heap.size W w' ∧ (Ext wr w' ∧ w'.cell? ⟨w.heap.size, 0, none⟩ = some (.slice af fs.length cf) ∧ w'.cell? ⟨w.heap.size, 1, none⟩ = some (.slice ac cs.length cc) ∧ w'.cell? ⟨w.heap.size + 1, 0, none⟩ = some (.slice none 0 0) ∧ w'.cell? ⟨w.heap.size + 1, 1, none⟩ = some (.slice none 0 0) ∧ w'.frozen? ⟨w.heap.size + 1, 0, none⟩ = false ∧ w'.frozen? ⟨w.heap.size + 1, 1, none⟩ = false)) := by
          intro W hS
          rw [HD.out]
          refine (keepC2_any (isOpen ks) cs ac cc (w1.heap.size + 1 + 1 + 1) W hm ((Rcs.out.below hwr).below hS.1) fun f hf W' hW' => ?_).mono ?_
          · rw [show isOpen ks f = Maps.has (setC ks) (litC f.pt f.nm f.d) from (has_setC Hks.out (HSC.out f hf).1.1 (HSC.out f hf).1.2 (HSC.out f hf).2).symm]
            exact only2_any f _ (w1.heap.size + 1) ks.length (setC ks) _ W' (Ext.cell hW' (hS.1.cell c9)) (ownsMap_kept hown (((Below.block hW' _ (Nat.lt_of_lt_of_le hl2 (Below.size hS.1))).trans (Below.block hS.1 _ hl2)))) (litC_key (small_max (HSC.out f hf).1.1) (small_max (HSC.out f hf).1.2) (HSC.out f hf).2)
          · rintro e w2 ⟨ad, cap, rfl, own, hb⟩
            have q := HSt W w2 hS hb
            exact ⟨ad, cap, rfl, own, hb, q⟩
        have HS0 : (Ext wr wr.drew ∧ wr.drew.cell? ⟨w.heap.size, 0, none⟩ = some (.slice af fs.length cf) ∧ wr.drew.cell? ⟨w.heap.size, 1, none⟩ = some (.slice ac cs.length cc) ∧ wr.drew.cell? ⟨w.heap.size + 1, 0, none⟩ = some (.slice none 0 0) ∧ wr.drew.cell? ⟨w.heap.size + 1, 1, none⟩ = some (.slice none 0 0) ∧ wr.drew.frozen? ⟨w.heap.size + 1, 0, none⟩ = false ∧ wr.drew.frozen? ⟨w.heap.size + 1, 1, none⟩ = false) := ⟨Below.drew (Below.refl _ _), k0, k1, B2.out.cell0, B2.out.cell1, B2.out.frozen 0, B2.out.frozen 1⟩
        have hN0 : w.heap.size + 1 < wr.drew.heap.size := by show _ < wr.heap.size; omega
        clear HSt own1c own1r hown hg hgA c8 c9
        go_wp2
        go_region_held3 (fun w' => w'.cell? ⟨w.heap.size, 0, none⟩ = some (.slice af fs.length cf) ∧ w'.cell? ⟨w.heap.size, 1, none⟩ = some (.slice ac cs.length cc)) (first | assumption | exact ⟨by assumption, by assumption⟩ | (refine ⟨?_, ?_⟩ <;> (rw [World.cell?_setCell_far _ _ _ _ (by show w.heap.size + 1 ≠ w.heap.size; omega), World.cell?_setCell_far _ _ _ _ (by show w.heap.size + 1 ≠ w.heap.size; omega)]; assumption)) | go_keep)
          (first | (go_at_call 52; refine (HK1.out _ ?_).mono ?_; (first | exact hS3 | exact HS0); rintro e w2 ⟨ad2, cap2, rfl, own2, hb2, hS2⟩; obtain ⟨p1, p2, p3, p4, p5, p6, p7⟩ := id hS2) | (go_at_call 54; refine (HK2.out _ ?_).mono ?_; (first | exact hS2 | exact HS0); rintro e w3 ⟨ad3, cap3, rfl, own3, hb3, hS3⟩; obtain ⟨p1, p2, p3, p4, p5, p6, p7⟩ := id hS3))
        all_goals go_wp2
        all_goals first
          | (have HS := Lib.hid ((B2.out.below hS3.1).store (.slice ad2 gs.length cap2) (.slice ad3 ds.length cap3))
             have HW := Lib.hid (known_fin (gs := gs) (ds := ds) (N := w.heap.size + 1) (hwr.trans (hS3.1.below.mono (by omega))) (ownsRow_below' own2 hb3) own3 hN0 (Nat.lt_of_lt_of_le hN0 hb2.size) (by omega))
             obtain ⟨W3, hW3⟩ : ∃ W3, W3 = (w3.setCell ⟨w.heap.size + 1, 0, none⟩ (.slice ad2 gs.length cap2)).setCell ⟨w.heap.size + 1, 1, none⟩ (.slice ad3 ds.length cap3) := ⟨_, rfl⟩
             rw [← hW3]
             rw [← hW3] at HS HW
             refine bodyPost_ret (v := .tuple #[.agg #[.slice ad2 gs.length cap2, .slice ad3 ds.length cap3], .int .i64 0]) (by simp [results, Tryz.results27, go_sem, HS.out.cell0, HS.out.cell1]) rfl HW.out)
          | (have HS := Lib.hid ((B2.out.below hS2.1).store (.slice ad2 gs.length cap2) (.slice ad3 ds.length cap3))
             have HW := Lib.hid (known_fin (gs := gs) (ds := ds) (N := w.heap.size + 1) (hwr.trans (hS2.1.below.mono (by omega))) own2 (ownsRow_below' own3 hb2) (Nat.lt_of_lt_of_le hN0 hb3.size) hN0 (by omega))
             obtain ⟨W3, hW3⟩ : ∃ W3, W3 = (w2.setCell ⟨w.heap.size + 1, 0, none⟩ (.slice ad2 gs.length cap2)).setCell ⟨w.heap.size + 1, 1, none⟩ (.slice ad3 ds.length cap3) := ⟨_, rfl⟩
             rw [← hW3]
             rw [← hW3] at HS HW
             refine bodyPost_ret (v := .tuple #[.agg #[.slice ad2 gs.length cap2, .slice ad3 ds.length cap3], .int .i64 0]) (by simp [results, Tryz.results27, go_sem, HS.out.cell0, HS.out.cell1]) rfl HW.out)

set_option maxHeartbeats 1000000 in
set_option maxRecDepth 100000 in
theorem only_err (fs : List Fx) (cs : List Ch) (ns : List Nd) (ks : List Ch) (af ac an ak : Option Addr) (cf cc cn ck : Nat) (w : World) (hn : fs.length ≤ 1100000) (hm : cs.length ≤ 1100000) (_hnn : ns.length ≤ 1100000) (_hkk : ks.length ≤ 1100000)
    (hf : Rd Fx.cells 3 w af fs) (hc : Rd Ch.cells 4 w ac cs) (_hrn : Rd Nd.cells 2 w an ns) (_hrk : Rd Ch.cells 4 w ak ks) (hfs : ∀ f ∈ fs, f.small) (hcs : ∀ c ∈ cs, c.small) (_hns : ∀ f ∈ ns, f.small) (_hks : ∀ f ∈ ks, f.small ∧ f.fits) (_hff : ∀ f ∈ fs, f.fits) (_hcf : ∀ f ∈ cs, f.fits) (he : envErr fs cs ≠ 0) :
    Calls Tryz.prog 27 #[.agg #[.slice af fs.length cf, .slice ac cs.length cc], .slice an ns.length cn, .slice ak ks.length ck] w (EnvPost w (envErr fs cs) (onlyF fs cs ns) (onlyC fs cs ks)) := by
  have HE := Lib.hid (fun W (h : Below w.heap.size w W) => checkEnv_any fs cs af ac cf cc W hn hm (hf.below h) (hc.below h) hfs hcs)
  rw [onlyF, onlyC, if_neg he, if_neg he]
  generalize envErr fs cs = E at HE he ⊢
  have t1 : (E != 0) = true := by rw [bne_iff_ne]; exact he
  have t2 : (E == 0) = false := by rw [beq_eq_false_iff_ne]; exact he
  clear hf hc hfs hcs he _hrn _hrk _hns _hks _hff _hcf
  go_enter Tryz.func27, Tryz.ntmps27
  go_wp2_with fail
  refine (HE.out _ (below_a2 _ _ _)).mono ?_
  rintro e w1 ⟨rfl, hb1⟩
  have b2 := (Boxed2.new (w.alloc (.cells #[.slice af fs.length cf, .slice ac cs.length cc] 68)) (.slice none 0 0) (.slice none 0 0) 68).below hb1
  simp at b2
  have r0 := b2.cell0
  have r1 := b2.cell1
  have z0 := b2.frozen 0
  have z1 := b2.frozen 1
  have hw1 : Below w.heap.size w w1 := (below_a2 _ _ _).trans (hb1.mono (by simp; omega))
  have HS := Lib.hid (b2.store (.slice none 0 0) (.slice none 0 0))
  have HW := Lib.hid (below_store hw1 (B := w.heap.size + 1) (by omega) (.slice none 0 0) (.slice none 0 0))
  clear hb1 b2
  go_wp2
  obtain ⟨W3, hW3⟩ : ∃ W3, W3 = (w1.setCell ⟨w.heap.size + 1, 0, none⟩ (.slice none 0 0)).setCell ⟨w.heap.size + 1, 1, none⟩ (.slice none 0 0) := ⟨_, rfl⟩
  rw [← hW3]
  rw [← hW3] at HS HW
  refine bodyPost_ret (v := .tuple #[.agg #[.slice none 0 0, .slice none 0 0], .int .i64 E]) (by simp [results, Tryz.results27, go_sem, HS.out.cell0, HS.out.cell1]) rfl (envPost_none HW.out)

theorem only_any (fs : List Fx) (cs : List Ch) (ns : List Nd) (ks : List Ch) (af ac an ak : Option Addr) (cf cc cn ck : Nat) (w : World) (hn : fs.length ≤ 1100000) (hm : cs.length ≤ 1100000) (hnn : ns.length ≤ 1100000) (hkk : ks.length ≤ 1100000)
    (hf : Rd Fx.cells 3 w af fs) (hc : Rd Ch.cells 4 w ac cs) (hrn : Rd Nd.cells 2 w an ns) (hrk : Rd Ch.cells 4 w ak ks) (hfs : ∀ f ∈ fs, f.small) (hcs : ∀ c ∈ cs, c.small) (hns : ∀ f ∈ ns, f.small) (hks : ∀ f ∈ ks, f.small ∧ f.fits) (hff : ∀ f ∈ fs, f.fits) (hcf : ∀ f ∈ cs, f.fits) :
    Calls Tryz.prog 27 #[.agg #[.slice af fs.length cf, .slice ac cs.length cc], .slice an ns.length cn, .slice ak ks.length ck] w (EnvPost w (envErr fs cs) (onlyF fs cs ns) (onlyC fs cs ks)) := by
  by_cases he : envErr fs cs = 0
  · exact only_ok fs cs ns ks af ac an ak cf cc cn ck w hn hm hnn hkk hf hc hrn hrk hfs hcs hns hks hff hcf he
  · exact only_err fs cs ns ks af ac an ak cf cc cn ck w hn hm hnn hkk hf hc hrn hrk hfs hcs hns hks hff hcf he
end Go.Proofs.YtflddbgadkndlaaGreatDoor

namespace Go.Proofs.YtflddbgadkndlaaGreatDoor
open Go.RowKit

section
variable {c : Con} {es dd ss : Value} {day : Int} {W : World}
theorem needs_lit {L : List NdP} {n : Nat} (h : nErr c day = 0 ∧ nSet c day = L) (hl : L.length = n) (hB : c.bulk ≤ 2000000) (hr : RdN W c es dd ss) (hS : LookS W) (hP : LookP W) :
    Calls Tryz.prog 9 #[c.val es dd ss, .int .i64 day] W fun e W' => ∃ ad cap, e = .returned (.tuple #[.slice ad n cap, .int .i64 0]) ∧ RdNd W' L (.slice ad n cap) ∧ Below W.heap.size W W' := by
  refine (needs_any c es dd ss day W hB hr hS hP).mono ?_
  rintro e W' ⟨v, rfl, ho, hb⟩
  rw [h.2] at ho
  rw [h.1]
  obtain ⟨ad, cap, rfl⟩ := ownsRow_shape ho
  have := RdNd.own ho
  rw [hl] at this ⊢
  exact ⟨ad, cap, rfl, this, hb⟩
theorem dead_lit {L : List ChP} {n : Nat} (h : dErr c day = 0 ∧ dSet c day = L) (hl : L.length = n) (hB : c.bulk ≤ 1100000) (hr : RdN W c es dd ss) (hS : LookS W) (hP : LookP W) :
    Calls Tryz.prog 11 #[c.val es dd ss, .int .i64 day] W fun e W' => ∃ ad cap, e = .returned (.tuple #[.slice ad n cap, .int .i64 0]) ∧ RdCx W' L (.slice ad n cap) ∧ Below W.heap.size W W' := by
  refine (deadlines_any c es dd ss day W hB hr hS hP).mono ?_
  rintro e W' ⟨v, rfl, ho, hb⟩
  rw [h.2] at ho
  rw [h.1]
  obtain ⟨ad, cap, rfl⟩ := ownsRow_shape ho
  have := RdCx.own ho
  rw [hl] at this ⊢
  exact ⟨ad, cap, rfl, this, hb⟩
theorem days_lit {L : List Int} {n : Nat} (h : visErr c day = 0) (h2 : ySet c day = L) (hl : L.length = n) (hB : c.bulk ≤ 2000000) (hr : RdN W c es dd ss) (hS : LookS W) (hP : LookP W) :
    Calls Tryz.prog 13 #[c.val es dd ss, .int .i64 day] W fun e W' => ∃ ad cap, e = .returned (.tuple #[.slice ad n cap, .int .i64 0]) ∧ RdDy W' L (.slice ad n cap) ∧ Below W.heap.size W W' := by
  refine (causalDays_any c es dd ss day W hB hr hS hP).mono ?_
  rintro e W' ⟨v, rfl, ho, hb⟩
  rw [h2] at ho
  rw [h]
  obtain ⟨ad, cap, rfl⟩ := ownsRow_shape ho
  have := RdDy.own ho
  rw [hl] at this ⊢
  exact ⟨ad, cap, rfl, this, hb⟩
theorem caus_lit {k : Int} (h : causErr c day = k) (hB : c.bulk ≤ 2000000) (hr : RdN W c es dd ss) (hS : LookS W) (hP : LookP W) :
    Calls Tryz.prog 18 #[c.val es dd ss, .int .i64 day] W fun e W' => e = .returned (.int .i64 k) ∧ Below W.heap.size W W' := by
  have := causal_any c es dd ss day W hB hr hS hP
  rwa [h] at this
end
theorem rdNd_lit (w : World) (L : List NdP) (t : TypeId) : RdNd (w.alloc (.cells (L.flatMap ndCells).toArray t)) L (.slice (some ⟨w.heap.size, 0, none⟩) L.length L.length) := by
  refine ⟨_, _, rfl, fun k x hk => ⟨w.heap.size, 0, rfl, ?_, ?_⟩⟩
  · rw [Nat.zero_add]; exact cell_new w _ t (flat_at nd_len hk 0 _ rfl)
  · rw [Nat.zero_add]; exact cell_new w _ t (flat_at nd_len hk 1 _ rfl)
theorem rdCx_lit (w : World) (L : List ChP) (t : TypeId) : RdCx (w.alloc (.cells (L.flatMap cxCells).toArray t)) L (.slice (some ⟨w.heap.size, 0, none⟩) L.length L.length) := by
  refine ⟨_, _, rfl, fun k x hk => ⟨w.heap.size, 0, rfl, ?_, ?_, ?_, ?_⟩⟩
  · rw [Nat.zero_add]; exact cell_new w _ t (flat_at cxCells_len hk 0 _ rfl)
  · rw [Nat.zero_add]; exact cell_new w _ t (flat_at cxCells_len hk 1 _ rfl)
  · rw [Nat.zero_add]; exact cell_new w _ t (flat_at cxCells_len hk 2 _ rfl)
  · rw [Nat.zero_add]; exact cell_new w _ t (flat_at cxCells_len hk 3 _ rfl)
theorem rdDy_lit (w : World) (L : List Int) (t : TypeId) : RdDy (w.alloc (.cells (L.map fun d => Value.int .i64 d).toArray t)) L (.slice (some ⟨w.heap.size, 0, none⟩) L.length L.length) := by
  refine ⟨_, _, rfl, fun k x hk => ⟨w.heap.size, 0, rfl, ?_⟩⟩
  rw [Nat.zero_add]; exact cell_new w _ t (by rw [List.getElem?_map, hk]; rfl)
theorem rd_lit {α : Type} (en : α → List Value) (m : Nat) (hm : ∀ x, (en x).length = m) (w : World) (l : List α) (t : TypeId) : Rd en m (w.alloc (.cells (l.flatMap en).toArray t)) (some ⟨w.heap.size, 0, none⟩) l := by
  refine fun j x hj => ⟨w.heap.size, 0, rfl, fun i u hu => ?_⟩
  rw [Nat.zero_add]; exact cell_new w _ t (flat_get en m hm l j x i u hj hu)
theorem rd_low {α : Type} {en : α → List Value} {m : Nat} {w w' : World} {ad : Option Addr} {l : List α} (h : Rd en m w ad l) (hb : Below w.heap.size w w') : Rd en m w' ad l := by
  intro j x hj
  obtain ⟨b, off, e, hc⟩ := h j x hj
  refine ⟨b, off, e, fun i u hu => ?_⟩
  have h1 := hc i u hu
  rw [hb.cell (p := ⟨b, off + j * m + i, none⟩) (World.block_lt_of_cell? w _ h1)]
  exact h1

theorem nd4 (w : World) : RdNd (w.alloc (.cells #[.string ⟨#[88]⟩, .int .i64 4, .string ⟨#[88]⟩, .int .i64 6, .string ⟨#[89]⟩, .int .i64 3, .string ⟨#[90]⟩, .int .i64 3] 58)) [(bX, 4), (bX, 6), (bY, 3), (bZ, 3)] (.slice (some ⟨w.heap.size, 0, none⟩) 4 4) := rdNd_lit w [(bX, 4), (bX, 6), (bY, 3), (bZ, 3)] _
theorem nd5 (w : World) : RdNd (w.alloc (.cells #[.string ⟨#[88]⟩, .int .i64 4, .string ⟨#[88]⟩, .int .i64 6, .string ⟨#[89]⟩, .int .i64 3, .string ⟨#[90]⟩, .int .i64 4, .string ⟨#[90]⟩, .int .i64 6] 58)) [(bX, 4), (bX, 6), (bY, 3), (bZ, 4), (bZ, 6)] (.slice (some ⟨w.heap.size, 0, none⟩) 5 5) := rdNd_lit w [(bX, 4), (bX, 6), (bY, 3), (bZ, 4), (bZ, 6)] _
theorem dy2 (w : World) : RdDy (w.alloc (.cells #[.int .i64 4, .int .i64 6] 3)) [4, 6] (.slice (some ⟨w.heap.size, 0, none⟩) 2 2) := rdDy_lit w [4, 6] _
theorem dy1 (w : World) : RdDy (w.alloc (.cells #[.int .i64 7] 3)) [7] (.slice (some ⟨w.heap.size, 0, none⟩) 1 1) := rdDy_lit w [7] _
theorem cx1 (w : World) : RdCx (w.alloc (.cells #[.string ⟨#[66, 111, 98]⟩, .string ⟨#[100]⟩, .int .i64 3, .bool false] 60)) [(bBob, bd, 3)] (.slice (some ⟨w.heap.size, 0, none⟩) 1 1) := rdCx_lit w [(bBob, bd, 3)] _
def b1s : ByteArray := ⟨#[49]⟩
def b2s : ByteArray := ⟨#[50]⟩
def bA : ByteArray := ⟨#[65]⟩
def fsN : List Fx := [⟨bX, 4, b1s⟩, ⟨bX, 5, b2s⟩]
def csN : List Ch := [⟨bA, bc, 5, true⟩]
def nsN : List Nd := [⟨bX, 5⟩, ⟨bY, 4⟩]
def ksN : List Ch := [⟨bA, bc, 5, false⟩]
theorem envN : envErr fsN csN = 0 := by decide +kernel
theorem kn4_err : knownErr fsN csN 4 = 0 := by decide +kernel
theorem kn4_f : knownF fsN csN 4 = [⟨bX, 4, b1s⟩] := by unfold knownF; rw [if_pos kn4_err]; rfl
theorem kn4_c : knownC fsN csN 4 = [] := by unfold knownC; rw [if_pos kn4_err]; rfl
theorem knm_err : knownErr fsN csN (-1) = 2 := by decide +kernel
theorem knm_f : knownF fsN csN (-1) = [] := by unfold knownF; rw [knm_err]; rfl
theorem knm_c : knownC fsN csN (-1) = [] := by unfold knownC; rw [knm_err]; rfl
theorem only_f : onlyF fsN csN nsN = [⟨bX, 5, b2s⟩] := by
  unfold onlyF; rw [if_pos envN]
  have h1 : needed nsN ⟨bX, 4, b1s⟩ = false := eqB_false (by simp [nsN]; decide)
  have h2 : needed nsN ⟨bX, 5, b2s⟩ = true := eqB_true ⟨⟨bX, 5⟩, by simp [nsN], rfl, rfl⟩
  simp [fsN, h1, h2]
theorem only_c : onlyC fsN csN ksN = csN := by
  unfold onlyC; rw [if_pos envN]
  have h2 : isOpen ksN ⟨bA, bc, 5, true⟩ = true := eqB_true ⟨⟨bA, bc, 5, false⟩, by simp [ksN], rfl, rfl, rfl⟩
  simp [csN, h2]
theorem fsN_small : ∀ f ∈ fsN, f.small := by
  intro f hf; simp [fsN] at hf
  rcases hf with rfl | rfl <;> exact ⟨by decide, by decide⟩
theorem csN_small : ∀ f ∈ csN, f.small := by
  intro f hf; simp [csN] at hf
  subst hf; exact ⟨by decide, by decide⟩
section
variable {W : World} {F C : Nat}
theorem known4 (hf : Rd Fx.cells 3 W (some ⟨F, 0, none⟩) fsN) (hc : Rd Ch.cells 4 W (some ⟨C, 0, none⟩) csN) :
    Calls Tryz.prog 26 #[.agg #[.slice (some ⟨F, 0, none⟩) 2 2, .slice (some ⟨C, 0, none⟩) 1 1], .int .i64 4] W fun e W' => ∃ b c1 a2 c2, e = .returned (.tuple #[.agg #[.slice (some ⟨b, 0, none⟩) 1 c1, .slice a2 0 c2], .int .i64 0]) ∧ W'.cell? ⟨b, 1, none⟩ = some (.int .i64 4) ∧ Below W.heap.size W W' := by
  have h := known_any fsN csN 4 (some ⟨F, 0, none⟩) (some ⟨C, 0, none⟩) 2 1 W (by decide) (by decide) hf hc fsN_small csN_small
  rw [kn4_err, kn4_f, kn4_c] at h
  refine Calls.mono (show Calls _ _ _ W _ from h) ?_
  rintro e W' ⟨a1, c1, a2, c2, rfl, h1, h2, hb⟩
  obtain ⟨g, cr, e1, _⟩ := own_shape h1 (by decide)
  cases e1
  exact ⟨g, c1, a2, c2, rfl, by rw [h1.cellAt 1 (by decide)]; rfl, hb⟩
theorem knownm (hf : Rd Fx.cells 3 W (some ⟨F, 0, none⟩) fsN) (hc : Rd Ch.cells 4 W (some ⟨C, 0, none⟩) csN) :
    Calls Tryz.prog 26 #[.agg #[.slice (some ⟨F, 0, none⟩) 2 2, .slice (some ⟨C, 0, none⟩) 1 1], .int .i64 (-1)] W fun e W' => ∃ a1 c1 a2 c2, e = .returned (.tuple #[.agg #[.slice a1 0 c1, .slice a2 0 c2], .int .i64 2]) ∧ Below W.heap.size W W' := by
  have h := known_any fsN csN (-1) (some ⟨F, 0, none⟩) (some ⟨C, 0, none⟩) 2 1 W (by decide) (by decide) hf hc fsN_small csN_small
  rw [knm_err, knm_f, knm_c] at h
  refine Calls.mono (show Calls _ _ _ W _ from h) ?_
  rintro e W' ⟨a1, c1, a2, c2, rfl, h1, h2, hb⟩
  exact ⟨a1, c1, a2, c2, rfl, hb⟩
theorem only1 {N K : Nat} (hf : Rd Fx.cells 3 W (some ⟨F, 0, none⟩) fsN) (hc : Rd Ch.cells 4 W (some ⟨C, 0, none⟩) csN) (hn : Rd Nd.cells 2 W (some ⟨N, 0, none⟩) nsN) (hk : Rd Ch.cells 4 W (some ⟨K, 0, none⟩) ksN) :
    Calls Tryz.prog 27 #[.agg #[.slice (some ⟨F, 0, none⟩) 2 2, .slice (some ⟨C, 0, none⟩) 1 1], .slice (some ⟨N, 0, none⟩) 2 2, .slice (some ⟨K, 0, none⟩) 1 1] W fun e W' => ∃ b c1 g c2, e = .returned (.tuple #[.agg #[.slice (some ⟨b, 0, none⟩) 1 c1, .slice (some ⟨g, 0, none⟩) 1 c2], .int .i64 0]) ∧ W'.cell? ⟨b, 2, none⟩ = some (.string ⟨#[50]⟩) ∧ W'.cell? ⟨g, 3, none⟩ = some (.bool true) ∧ Below W.heap.size W W' := by
  have h := only_any fsN csN nsN ksN (some ⟨F, 0, none⟩) (some ⟨C, 0, none⟩) (some ⟨N, 0, none⟩) (some ⟨K, 0, none⟩) 2 1 2 1 W (by decide) (by decide) (by decide) (by decide) hf hc hn hk fsN_small csN_small
    (by intro f hf; simp [nsN] at hf; rcases hf with rfl | rfl <;> exact ⟨by decide, by decide⟩)
    (by intro f hf; simp [ksN] at hf; subst hf; exact ⟨⟨by decide, by decide⟩, WalkArith.wf_i64 (by decide)⟩)
    (by intro f hf; simp [fsN] at hf; rcases hf with rfl | rfl <;> exact WalkArith.wf_i64 (by decide))
    (by intro f hf; simp [csN] at hf; subst hf; exact WalkArith.wf_i64 (by decide))
  rw [envN, only_f, only_c] at h
  refine Calls.mono (show Calls _ _ _ W _ from h) ?_
  rintro e W' ⟨a1, c1, a2, c2, rfl, h1, h2, hb⟩
  obtain ⟨b, _, e1, _⟩ := own_shape h1 (by decide)
  cases e1
  obtain ⟨g, _, e2, _⟩ := own_shape h2 (by decide)
  cases e2
  exact ⟨b, c1, g, c2, rfl, by rw [h1.cellAt 2 (by decide)]; rfl, by rw [h2.cellAt 3 (by decide)]; rfl, hb⟩
end
def oNs : Obj := .cells #[.string ⟨#[88]⟩, .int .i64 5, .string ⟨#[89]⟩, .int .i64 4] 58
def oKs : Obj := .cells #[.string ⟨#[65]⟩, .string ⟨#[99]⟩, .int .i64 5, .bool false] 60
theorem only_setup (w : World) (o : Obj) : Rd Nd.cells 2 (((w.alloc o).alloc oNs).alloc oKs) (some ⟨w.heap.size + 1, 0, none⟩) nsN ∧ Rd Ch.cells 4 (((w.alloc o).alloc oNs).alloc oKs) (some ⟨w.heap.size + 1 + 1, 0, none⟩) ksN := by
  have s1 : (w.alloc o).heap.size = w.heap.size + 1 := World.size_alloc _ _
  have s2 : ((w.alloc o).alloc oNs).heap.size = w.heap.size + 1 + 1 := by rw [World.size_alloc, World.size_alloc]
  have hn : Rd Nd.cells 2 ((w.alloc o).alloc oNs) (some ⟨(w.alloc o).heap.size, 0, none⟩) nsN := rd_lit Nd.cells 2 (fun _ => rfl) _ nsN _
  have hk : Rd Ch.cells 4 (((w.alloc o).alloc oNs).alloc oKs) (some ⟨((w.alloc o).alloc oNs).heap.size, 0, none⟩) ksN := rd_lit Ch.cells 4 (fun _ => rfl) _ ksN _
  rw [s1] at hn
  rw [s2] at hk
  exact ⟨rd_low hn (below_a1 _ _), hk⟩
end Go.Proofs.YtflddbgadkndlaaGreatDoor
