/-
  causal.Only. Arguments opened: a list of structs of one-cell fields as a list of records that can be read, with what the bound on the bulk gives.
-/
import Derived.Test.YtofbngpckllkoaaPart07
import Derived.Test.YtofbngpckllkoaaPart08
import Derived.Deep.CutBlock
import Derived.Test.YtofbngpckllkoaaRows
import Derived.Deep.Slices
import Derived.Deep.Fields
import Derived.Lib.SmallJoins
import Derived.Carry
namespace Go.Proofs.Ytofbngpckllkoaa
open Go.RowKit

/-- A need. -/
structure Nd where
  nm : ByteArray
  d : Int
def Nd.cells (f : Nd) : List Value := [.string f.nm, .int .i64 f.d]
def Nd.key (f : Nd) : Value := .agg #[.string f.nm, .int .i64 f.d]
theorem Rd.nd {w : World} {ad : Option Addr} {l : List Nd} (h : Rd Nd.cells 2 w ad l) {j : Nat} {f : Nd} (hj : l[j]? = some f) :
    ∃ b off, ad = some ⟨b, off, none⟩ ∧ w.cell? ⟨b, off + j * 2, none⟩ = some (.string f.nm) ∧ w.cell? ⟨b, off + j * 2 + 1, none⟩ = some (.int .i64 f.d) := by
  obtain ⟨b, off, rfl, h3⟩ := h j f hj
  exact ⟨b, off, rfl, h3 0 _ rfl, h3 1 _ rfl⟩
/-- The Lit of a key, where there is one. -/
noncomputable def litN (n : ByteArray) (d : Int) : Lit := (keyOf Try.prog 53 (.agg #[.string n, .int .i64 d])).getD (.bool false)
noncomputable def litC (p n : ByteArray) (d : Int) : Lit := (keyOf Try.prog 41 (.agg #[.string p, .string n, .int .i64 d, .bool false])).getD (.bool false)
theorem litN_key {n : ByteArray} {d : Int} (hn : n.size ≤ maxLen) (hd : (Lit.int .i64 d).wf = true) : keyOf Try.prog 53 (.agg #[.string n, .int .i64 d]) = some (litN n d) := by
  obtain ⟨kl, h⟩ := key_need n d hn hd
  rw [litN, h]; rfl
theorem litC_key {p n : ByteArray} {d : Int} (hp : p.size ≤ maxLen) (hn : n.size ≤ maxLen) (hd : (Lit.int .i64 d).wf = true) : keyOf Try.prog 41 (.agg #[.string p, .string n, .int .i64 d, .bool false]) = some (litC p n d) := by
  obtain ⟨kl, h⟩ := key_choice p n d false hp hn hd
  rw [litC, h]; rfl
set_option maxRecDepth 100000 in
theorem isKeyN {n : ByteArray} {d : Int} (hn : n.size ≤ 1100000) (hd : (Lit.int .i64 d).wf = true) : WideAt.IsKeyLit (litN n d) :=
  have h := litN_key (Nat.le_trans hn (by unfold maxLen; omega)) hd
  law_need.key h
set_option maxRecDepth 100000 in
theorem isKeyC {p n : ByteArray} {d : Int} (hp : p.size ≤ 1100000) (hn : n.size ≤ 1100000) (hd : (Lit.int .i64 d).wf = true) : WideAt.IsKeyLit (litC p n d) :=
  have h := litC_key (Nat.le_trans hp (by unfold maxLen; omega)) (Nat.le_trans hn (by unfold maxLen; omega)) hd
  law_choice.key h
def Nd.small (f : Nd) : Prop := f.nm.size ≤ 1100000 ∧ (Lit.int .i64 f.d).wf = true
def Ch.fits (f : Ch) : Prop := (Lit.int .i64 f.d).wf = true
def Fx.fits (f : Fx) : Prop := (Lit.int .i64 f.d).wf = true
theorem small_max {n : Nat} (h : n ≤ 1100000) : n ≤ maxLen := by unfold maxLen; omega
/-- The sets after the loops. -/
noncomputable def setN (l : List Nd) : DataW Unit := Maps.setOf (.agg []) (l.map fun f => litN f.nm f.d)
noncomputable def setC (l : List Ch) : DataW Unit := Maps.setOf (.agg []) (l.map fun f => litC f.pt f.nm f.d)
set_option maxRecDepth 100000 in
theorem has_setN {l : List Nd} (hl : ∀ f ∈ l, f.small) {n : ByteArray} {d : Int} (hn : n.size ≤ 1100000) (hd : (Lit.int .i64 d).wf = true) : Maps.has (setN l) (litN n d) = eqB (∃ f ∈ l, f.nm = n ∧ f.d = d) := by
  rw [setN, Maps.has_setOf]
  · by_cases h : ∃ f ∈ l, f.nm = n ∧ f.d = d
    · rw [eqB_true h]
      obtain ⟨f, hf, rfl, rfl⟩ := h
      rw [List.any_eq_true]
      exact ⟨_, List.mem_map_of_mem hf, WideAt.sameKey_self (isKeyN hn hd)⟩
    · rw [eqB_false h, Bool.eq_false_iff]
      intro ha
      rw [List.any_eq_true] at ha
      obtain ⟨x, hx, hs⟩ := ha
      obtain ⟨f, hf, rfl⟩ := List.mem_map.1 hx
      have e := WideAt.sameKey_eq hs
      have h1 := litN_key (small_max (hl f hf).1) (hl f hf).2
      have h2 := litN_key (small_max hn) hd
      rw [e] at h1
      have := law_need.inj h1 h2
      simp at this
      exact h ⟨f, hf, this.1, this.2⟩
  · intro x hx
    obtain ⟨f, hf, rfl⟩ := List.mem_map.1 hx
    exact isKeyN (hl f hf).1 (hl f hf).2
set_option maxRecDepth 100000 in
theorem has_setC {l : List Ch} (hl : ∀ f ∈ l, f.small ∧ f.fits) {p n : ByteArray} {d : Int} (hp : p.size ≤ 1100000) (hn : n.size ≤ 1100000) (hd : (Lit.int .i64 d).wf = true) : Maps.has (setC l) (litC p n d) = eqB (∃ f ∈ l, f.pt = p ∧ f.nm = n ∧ f.d = d) := by
  rw [setC, Maps.has_setOf]
  · by_cases h : ∃ f ∈ l, f.pt = p ∧ f.nm = n ∧ f.d = d
    · rw [eqB_true h]
      obtain ⟨f, hf, rfl, rfl, rfl⟩ := h
      rw [List.any_eq_true]
      exact ⟨_, List.mem_map_of_mem hf, WideAt.sameKey_self (isKeyC hp hn hd)⟩
    · rw [eqB_false h, Bool.eq_false_iff]
      intro ha
      rw [List.any_eq_true] at ha
      obtain ⟨x, hx, hs⟩ := ha
      obtain ⟨f, hf, rfl⟩ := List.mem_map.1 hx
      have e := WideAt.sameKey_eq hs
      have h1 := litC_key (small_max (hl f hf).1.1) (small_max (hl f hf).1.2) (hl f hf).2
      have h2 := litC_key (small_max hp) (small_max hn) hd
      rw [e] at h1
      have := law_choice.inj h1 h2
      simp at this
      exact h ⟨f, hf, this.1, this.2.1, this.2.2⟩
  · intro x hx
    obtain ⟨f, hf, rfl⟩ := List.mem_map.1 hx
    exact isKeyC (hl f hf).1.1 (hl f hf).1.2 (hl f hf).2

theorem grown_step {w0 w w2 : World} {b : Nat} {o : Obj} (h : w0.grownBy w (some b)) (hg : (w.alloc o).grownBy w2 (some b)) : w0.grownBy w2 (some b) :=
  ⟨hg.os.trans h.os, hg.tape.trans h.tape, hg.output.trans h.output, Nat.le_trans h.size (Nat.le_trans (by simp) hg.size), fun k hk hne => ((hg.block k (by have := h.size; simp; omega) hne).trans (Below.heap_alloc _ _ _ (Nat.lt_of_lt_of_le hk h.size))).trans (h.block k hk hne)⟩
noncomputable def needed (ns : List Nd) (f : Fx) : Bool := eqB (∃ x ∈ ns, x.nm = f.nm ∧ x.d = f.d)
noncomputable def isOpen (ks : List Ch) (f : Ch) : Bool := eqB (∃ x ∈ ks, x.pt = f.pt ∧ x.nm = f.nm ∧ x.d = f.d)
noncomputable def onlyF (fs : List Fx) (cs : List Ch) (ns : List Nd) : List Fx := if envErr fs cs = 0 then fs.filter (needed ns) else []
noncomputable def onlyC (fs : List Fx) (cs : List Ch) (ks : List Ch) : List Ch := if envErr fs cs = 0 then cs.filter (isOpen ks) else []

set_option maxHeartbeats 2000000 in
set_option maxRecDepth 100000 in
theorem only_ok (fs : List Fx) (cs : List Ch) (ns : List Nd) (ks : List Ch) (af ac an ak : Option Addr) (cf cc cn ck : Nat) (w : World) (hn : fs.length ≤ 1100000) (hm : cs.length ≤ 1100000) (hnn : ns.length ≤ 1100000) (hkk : ks.length ≤ 1100000)
    (hf : Rd Fx.cells 3 w af fs) (hc : Rd Ch.cells 4 w ac cs) (hrn : Rd Nd.cells 2 w an ns) (hrk : Rd Ch.cells 4 w ak ks) (hfs : ∀ f ∈ fs, f.small) (hcs : ∀ c ∈ cs, c.small) (hns : ∀ f ∈ ns, f.small) (hks : ∀ f ∈ ks, f.small ∧ f.fits) (hff : ∀ f ∈ fs, f.fits) (hcf : ∀ f ∈ cs, f.fits) (he : envErr fs cs = 0) :
    Calls Try.prog 8 #[.agg #[.slice af fs.length cf, .slice ac cs.length cc], .slice an ns.length cn, .slice ak ks.length ck] w (EnvPost w (envErr fs cs) (onlyF fs cs ns) (onlyC fs cs ks)) := by
  have HE := Lib.hid (fun W (h : Below w.heap.size w W) => checkEnv_any fs cs af ac cf cc W hn hm (hf.below h) (hc.below h) hfs hcs)
  rw [onlyF, onlyC, he, if_pos rfl, if_pos rfl]
  rw [he] at HE
  obtain ⟨gs, hgs⟩ : ∃ gs, gs = fs.filter (needed ns) := ⟨_, rfl⟩
  obtain ⟨ds, hds⟩ : ∃ ds, ds = cs.filter (isOpen ks) := ⟨_, rfl⟩
  rw [← hgs, ← hds]
  have HG := Lib.hid hgs
  have HD := Lib.hid hds
  have HSF : Hid (∀ f ∈ fs, f.small ∧ f.fits) := fun f h => ⟨hfs f h, hff f h⟩
  have HSC : Hid (∀ f ∈ cs, f.small ∧ f.fits) := fun f h => ⟨hcs f h, hcf f h⟩
  have Rfs := Lib.hid hf
  have Rcs := Lib.hid hc
  have Rns := Lib.hid hrn
  have Rks := Lib.hid hrk
  have Hns := Lib.hid hns
  have Hks := Lib.hid hks
  clear hf hc hrn hrk hfs hcs hns hks he hgs hds hff hcf
  have hmm := @run_makeMap Try.prog
  go_enter Try.func8, Try.ntmps8
  go_wp2_with fail
  refine (HE.out _ (below_a2 _ _ _)).mono ?_
  rintro e w1 ⟨rfl, hb1⟩
  have hs1 := hb1.size
  simp at hs1
  have hbel : Below w.heap.size w w1 := (below_a2 _ _ _).trans (hb1.mono (by simp; omega))
  have k0 : w1.cell? ⟨w.heap.size, 0, none⟩ = some (.slice af fs.length cf) := by rw [hb1.cell (by simp; omega)]; go_simp
  have k1 : w1.cell? ⟨w.heap.size, 1, none⟩ = some (.slice ac cs.length cc) := by rw [hb1.cell (by simp; omega)]; go_simp
  have BX := (Boxed2.new (w.alloc (.cells #[.slice af fs.length cf, .slice ac cs.length cc] 25)) (.slice none 0 0) (.slice none 0 0) 25).below hb1
  simp at BX
  have HBX := Lib.hid BX
  clear BX
  go_upto_block 0 with fail
  obtain ⟨W0, hW0⟩ : ∃ W0, W0 = ((((w1.alloc (.map #[] 0)).alloc (.map #[] 0)).alloc (.cells #[.map (some w1.heap.size)] 50)).alloc (.cells #[.map (some (w1.heap.size + 1))] 51)) := ⟨_, rfl⟩
  rw [← hW0]
  have own1 : W0.ownsMap Try.prog 53 (unitElem (H := Unit)) w1.heap.size 0 (setN []) := by
    rw [hW0]
    exact (((World.ownsMap_made _ _ _ _).alloc _).alloc _).alloc _
  have own2 : W0.ownsMap Try.prog 41 (unitElem (H := Unit)) (w1.heap.size + 1) 0 (setC []) := by
    rw [hW0]
    have h := World.ownsMap_made (P := Try.prog) (k := 41) (R := unitElem (H := Unit)) (w1.alloc (.map #[] 0))
    simp at h
    exact (h.alloc _).alloc _
  have hbel1 : Below w1.heap.size w1 W0 := by rw [hW0]; exact ((((Below.refl _ _).alloc (Nat.le_refl _) _).alloc (by simp) _).alloc (by simp; omega) _).alloc (by simp; omega) _
  have hb0 : Below w.heap.size w W0 := hbel.trans (hbel1.mono (by omega))
  have m1 : W0.cell? ⟨w1.heap.size + 1 + 1, 0, none⟩ = some (.map (some w1.heap.size)) := by rw [hW0]; go_simp
  have m2 : W0.cell? ⟨w1.heap.size + 1 + 1 + 1, 0, none⟩ = some (.map (some (w1.heap.size + 1))) := by rw [hW0]; go_simp
  have hz0 : W0.heap.size = w1.heap.size + 1 + 1 + 1 + 1 := by rw [hW0]; simp
  clear hW0
  have K0 := Lib.hid k0
  have K1 := Lib.hid k1
  clear k0 k1
  have M1 := Lib.hid m1
  have Hz0 := Lib.hid hz0
  clear m1 hz0
  go_cut [12, 25] from 26 to 32 (fun _ _ wc => wc.ownsMap Try.prog 53 (unitElem (H := Unit)) w1.heap.size ns.length (setN ns) ∧ W0.grownBy wc (some w1.heap.size))
  case first =>
    go_wp2_with fail
    go_loopw [25] (fun i wr => ∃ k : Nat, k ≤ ns.length ∧ i = .int .i64 k ∧ wr.ownsMap Try.prog 53 (unitElem (H := Unit)) w1.heap.size k (setN (ns.take k)) ∧ W0.grownBy wr (some w1.heap.size)) (fun i _ => ns.length - (intOf i).toNat)
    case atStart => exact ⟨0, Nat.zero_le _, rfl, own1, World.grownBy.refl _ _⟩
    case round =>
      obtain ⟨k, hk, rfl, hown, hg⟩ := hrel
      have hq := M1.out
      have c9 : wr.cell? ⟨w1.heap.size + 1 + 1, 0, none⟩ = some (.map (some w1.heap.size)) := by
        rw [World.cell?_of_block (w := W0) (hg.block _ (by have := Hz0.out; show w1.heap.size + 1 + 1 < _; omega) (by simp; omega))]; exact hq
      have hlt9 : w1.heap.size + 1 + 1 < wr.heap.size := World.block_lt_of_cell? wr _ c9
      clear hq
      by_cases hlt : k < ns.length
      · obtain ⟨f, hf⟩ : ∃ f, ns[k]? = some f := ⟨_, List.getElem?_eq_getElem hlt⟩
        have hbr : Below w.heap.size w wr := hb0.grown hg (by have := hb0.size; omega) (fun k hk => by simp at hk; omega)
        have HRf := ((Rns.out.below hbr).nd hf)
        have hsm := Hns.out f (List.mem_of_getElem? hf)
        have hkey := Lib.hid (litN_key (small_max hsm.1) hsm.2)
        have HX : Hid (setN (ns.take (k + 1)) = (setN (ns.take k)).put (litN f.nm f.d) (.agg [])) := by
          show _ = _
          rw [setN, List.take_add_one, hf, List.map_append]
          exact Maps.setOf_snoc _ _ _
        clear hf hsm
        obtain ⟨b, off, rfl, hc1, hc2⟩ := HRf
        go_wp2_with (at_mapUpdate; refine wpList_mapUpdate_own _ rfl _ _ _ 50 rfl 53 54 law_need ul_needmap _ w1.heap.size k _ rfl (hown.alloc _) (by unfold maxLen; omega) _ _ _ rfl rfl hkey.out _ [] unitElem_mk ?_; intro w2 hown2 hgrow2)
        have hown3 : w2.ownsMap Try.prog 53 (unitElem (H := Unit)) w1.heap.size (k + 1) (setN (ns.take (k + 1))) := by rw [HX.out]; exact hown2
        have hg2 := grown_step hg hgrow2
        clear hown2 hgrow2 hown hg
        go_roundw
        case rel => exact ⟨k + 1, by omega, by go_num, hown3, hg2⟩
        case measure => simp [intOf]; omega
      · obtain rfl : k = ns.length := by omega
        rw [List.take_length] at hown
        go_wp2
        go_meet
        exact ⟨hown, hg⟩
  case rest =>
    obtain ⟨own1c, hgA⟩ := hcut
    have own2c : wc.ownsMap Try.prog 41 (unitElem (H := Unit)) (w1.heap.size + 1) 0 (setC []) := ownsMap_kept own2 (hgA.block _ (by have := Hz0.out; omega) (by simp))
    have hbc : Below w.heap.size w wc := hb0.grown hgA (by have := hb0.size; omega) (fun k hk => by simp at hk; omega)
    have c10 : wc.cell? ⟨w1.heap.size + 1 + 1 + 1, 0, none⟩ = some (.map (some (w1.heap.size + 1))) := by
      rw [World.cell?_of_block (w := W0) (hgA.block _ (by have := Hz0.out; show w1.heap.size + 1 + 1 + 1 < _; omega) (by simp; omega))]; exact m2
    have M2 := Lib.hid c10
    clear m2 own1 own2 c10
    go_wp2
    go_loopw [35] (fun i wr => ∃ k : Nat, k ≤ ks.length ∧ i = .int .i64 k ∧ wr.ownsMap Try.prog 41 (unitElem (H := Unit)) (w1.heap.size + 1) k (setC (ks.take k)) ∧ wc.grownBy wr (some (w1.heap.size + 1))) (fun i _ => ks.length - (intOf i).toNat)
    case atStart => exact ⟨0, Nat.zero_le _, rfl, own2c, World.grownBy.refl _ _⟩
    case round =>
      obtain ⟨k, hk, rfl, hown, hg⟩ := hrel
      have hlt8 : w1.heap.size + 1 + 1 + 1 < wc.heap.size := World.block_lt_of_cell? wc _ M2.out
      have c9 : wr.cell? ⟨w1.heap.size + 1 + 1 + 1, 0, none⟩ = some (.map (some (w1.heap.size + 1))) := by
        rw [World.cell?_of_block (w := wc) (hg.block _ hlt8 (by simp; omega))]; exact M2.out
      have hlt9 : w1.heap.size + 1 + 1 + 1 < wr.heap.size := World.block_lt_of_cell? wr _ c9
      by_cases hlt : k < ks.length
      · obtain ⟨f, hf⟩ : ∃ f, ks[k]? = some f := ⟨_, List.getElem?_eq_getElem hlt⟩
        have hbr : Below w.heap.size w wr := hbc.grown hg (by have := hbc.size; omega) (fun k hk => by simp at hk; omega)
        have HRf := ((Rks.out.below hbr).ch hf)
        have hsm := Hks.out f (List.mem_of_getElem? hf)
        have hkey := Lib.hid (litC_key (small_max hsm.1.1) (small_max hsm.1.2) hsm.2)
        have HX : Hid (setC (ks.take (k + 1)) = (setC (ks.take k)).put (litC f.pt f.nm f.d) (.agg [])) := by
          show _ = _
          rw [setC, List.take_add_one, hf, List.map_append]
          exact Maps.setOf_snoc _ _ _
        clear hf hsm
        obtain ⟨b, off, rfl, hc1, hc2, hc3, hc4⟩ := HRf
        go_wp2_with (at_mapUpdate; refine wpList_mapUpdate_own _ rfl _ _ _ 51 rfl 41 54 law_choice ul_choicemap _ (w1.heap.size + 1) k _ rfl (hown.alloc _) (by unfold maxLen; omega) _ _ _ rfl rfl hkey.out _ [] unitElem_mk ?_; intro w2 hown2 hgrow2)
        have hown3 : w2.ownsMap Try.prog 41 (unitElem (H := Unit)) (w1.heap.size + 1) (k + 1) (setC (ks.take (k + 1))) := by rw [HX.out]; exact hown2
        have hg2 := grown_step hg hgrow2
        clear hown2 hgrow2 hown hg
        go_roundw
        case rel => exact ⟨k + 1, by omega, by go_num, hown3, hg2⟩
        case measure => simp [intOf]; omega
      · obtain rfl : k = ks.length := by omega
        rw [List.take_length] at hown
        have hb1r : Below w1.heap.size w1 wr := (hbel1.grown hgA (by have := Hz0.out; omega) (fun k hk => by simp at hk; omega)).grown hg (by have := hgA.size; have := Hz0.out; omega) (fun k hk => by simp at hk; omega)
        have hwr : Below w.heap.size w wr := hbel.trans (hb1r.mono (by omega))
        have own1r := ownsMap_kept own1c (hg.block _ (by have := hgA.size; have := Hz0.out; omega) (by simp))
        have c8 : wr.cell? ⟨w1.heap.size + 1 + 1, 0, none⟩ = some (.map (some w1.heap.size)) := by
          rw [World.cell?_of_block (w := wc) (hg.block _ (by have := hgA.size; have := Hz0.out; show w1.heap.size + 1 + 1 < _; omega) (by simp)), World.cell?_of_block (w := W0) (hgA.block _ (by have := Hz0.out; show w1.heap.size + 1 + 1 < _; omega) (by simp; omega))]; exact M1.out
        have hl1 : w1.heap.size < wr.heap.size := ownsMap_lt own1r
        have hl2 : w1.heap.size + 1 < wr.heap.size := ownsMap_lt hown
        have B2 := Lib.hid (HBX.out.of_block (hb1r.block _ (by omega)))
        have k0 : wr.cell? ⟨w.heap.size, 0, none⟩ = some (.slice af fs.length cf) := by rw [hb1r.cell (by show w.heap.size < _; omega)]; exact K0.out
        have k1 : wr.cell? ⟨w.heap.size, 1, none⟩ = some (.slice ac cs.length cc) := by rw [hb1r.cell (by show w.heap.size < _; omega)]; exact K1.out
        have HSt : ∀ W w2, (Ext wr W ∧ W.cell? ⟨w.heap.size, 0, none⟩ = some (.slice af fs.length cf) ∧ W.cell? ⟨w.heap.size, 1, none⟩ = some (.slice ac cs.length cc) ∧ W.cell? ⟨w.heap.size + 1, 0, none⟩ = some (.slice none 0 0) ∧ W.cell? ⟨w.heap.size + 1, 1, none⟩ = some (.slice none 0 0) ∧ W.frozen? ⟨w.heap.size + 1, 0, none⟩ = false ∧ W.frozen? ⟨w.heap.size + 1, 1, none⟩ = false) → Below W.heap.size W w2 → (Ext wr w2 ∧ w2.cell? ⟨w.heap.size, 0, none⟩ = some (.slice af fs.length cf) ∧ w2.cell? ⟨w.heap.size, 1, none⟩ = some (.slice ac cs.length cc) ∧ w2.cell? ⟨w.heap.size + 1, 0, none⟩ = some (.slice none 0 0) ∧ w2.cell? ⟨w.heap.size + 1, 1, none⟩ = some (.slice none 0 0) ∧ w2.frozen? ⟨w.heap.size + 1, 0, none⟩ = false ∧ w2.frozen? ⟨w.heap.size + 1, 1, none⟩ = false) := by
          intro W w2 ⟨h1, h2, h3, h4, h5, h6, h7⟩ hb
          have hz : w.heap.size + 1 < W.heap.size := World.block_lt_of_cell? W _ h4
          exact ⟨h1.below.trans (hb.mono (Below.size h1)), Ext.cell hb h2, Ext.cell hb h3, Ext.cell hb h4, Ext.cell hb h5, by rw [hb.frozen hz]; exact h6, by rw [hb.frozen hz]; exact h7⟩
        have HK1 : Hid (∀ W, (Ext wr W ∧ W.cell? ⟨w.heap.size, 0, none⟩ = some (.slice af fs.length cf) ∧ W.cell? ⟨w.heap.size, 1, none⟩ = some (.slice ac cs.length cc) ∧ W.cell? ⟨w.heap.size + 1, 0, none⟩ = some (.slice none 0 0) ∧ W.cell? ⟨w.heap.size + 1, 1, none⟩ = some (.slice none 0 0) ∧ W.frozen? ⟨w.heap.size + 1, 0, none⟩ = false ∧ W.frozen? ⟨w.heap.size + 1, 1, none⟩ = false) → Calls Try.prog 12 #[.slice af fs.length cf, .func (.func 18) #[] #[.pointer (some ⟨w1.heap.size + 1 + 1, 0, none⟩)]] W fun e w' => ∃ ad cap, e = .returned (.slice ad gs.length cap) ∧ w'.ownsRow W.heap.size 39 3 (.slice ad gs.length cap) gs.length (gs.flatMap Fx.cells) ∧ Below W.heap.size W w' ∧ (Ext wr w' ∧ w'.cell? ⟨w.heap.size, 0, none⟩ = some (.slice af fs.length cf) ∧ w'.cell? ⟨w.heap.size, 1, none⟩ = some (.slice ac cs.length cc) ∧ w'.cell? ⟨w.heap.size + 1, 0, none⟩ = some (.slice none 0 0) ∧ w'.cell? ⟨w.heap.size + 1, 1, none⟩ = some (.slice none 0 0) ∧ w'.frozen? ⟨w.heap.size + 1, 0, none⟩ = false ∧ w'.frozen? ⟨w.heap.size + 1, 1, none⟩ = false)) := by
          intro W hS
          rw [HG.out]
          refine (keepF2_any (needed ns) fs af cf (w1.heap.size + 1 + 1) W hn ((Rfs.out.below hwr).below hS.1) fun f hf W' hW' => ?_).mono ?_
          · rw [show needed ns f = Maps.has (setN ns) (litN f.nm f.d) from (has_setN Hns.out (HSF.out f hf).1.1 (HSF.out f hf).2).symm]
            exact only1_any f _ w1.heap.size ns.length (setN ns) _ W' (Ext.cell hW' (hS.1.cell c8)) (ownsMap_kept own1r (((Below.block hW' _ (Nat.lt_of_lt_of_le hl1 (Below.size hS.1))).trans (Below.block hS.1 _ hl1)))) (litN_key (small_max (HSF.out f hf).1.1) (HSF.out f hf).2)
          · rintro e w2 ⟨ad, cap, rfl, own, hb⟩
            have q := HSt W w2 hS hb
            exact ⟨ad, cap, rfl, own, hb, q⟩
        have HK2 : Hid (∀ W, (Ext wr W ∧ W.cell? ⟨w.heap.size, 0, none⟩ = some (.slice af fs.length cf) ∧ W.cell? ⟨w.heap.size, 1, none⟩ = some (.slice ac cs.length cc) ∧ W.cell? ⟨w.heap.size + 1, 0, none⟩ = some (.slice none 0 0) ∧ W.cell? ⟨w.heap.size + 1, 1, none⟩ = some (.slice none 0 0) ∧ W.frozen? ⟨w.heap.size + 1, 0, none⟩ = false ∧ W.frozen? ⟨w.heap.size + 1, 1, none⟩ = false) → Calls Try.prog 14 #[.slice ac cs.length cc, .func (.func 19) #[] #[.pointer (some ⟨w1.heap.size + 1 + 1 + 1, 0, none⟩)]] W fun e w' => ∃ ad cap, e = .returned (.slice ad ds.length cap) ∧ w'.ownsRow W.heap.size 41 4 (.slice ad ds.length cap) ds.length (ds.flatMap Ch.cells) ∧ Below W.heap.size W w' ∧ (Ext wr w' ∧ w'.cell? ⟨w.heap.size, 0, none⟩ = some (.slice af fs.length cf) ∧ w'.cell? ⟨w.heap.size, 1, none⟩ = some (.slice ac cs.length cc) ∧ w'.cell? ⟨w.heap.size + 1, 0, none⟩ = some (.slice none 0 0) ∧ w'.cell? ⟨w.heap.size + 1, 1, none⟩ = some (.slice none 0 0) ∧ w'.frozen? ⟨w.heap.size + 1, 0, none⟩ = false ∧ w'.frozen? ⟨w.heap.size + 1, 1, none⟩ = false)) := by
          intro W hS
          rw [HD.out]
          refine (keepC2_any (isOpen ks) cs ac cc (w1.heap.size + 1 + 1 + 1) W hm ((Rcs.out.below hwr).below hS.1) fun f hf W' hW' => ?_).mono ?_
          · rw [show isOpen ks f = Maps.has (setC ks) (litC f.pt f.nm f.d) from (has_setC Hks.out (HSC.out f hf).1.1 (HSC.out f hf).1.2 (HSC.out f hf).2).symm]
            exact only2_any f _ (w1.heap.size + 1) ks.length (setC ks) _ W' (Ext.cell hW' (hS.1.cell c9)) (ownsMap_kept hown (((Below.block hW' _ (Nat.lt_of_lt_of_le hl2 (Below.size hS.1))).trans (Below.block hS.1 _ hl2)))) (litC_key (small_max (HSC.out f hf).1.1) (small_max (HSC.out f hf).1.2) (HSC.out f hf).2)
          · rintro e w2 ⟨ad, cap, rfl, own, hb⟩
            have q := HSt W w2 hS hb
            exact ⟨ad, cap, rfl, own, hb, q⟩
        have HS0 : (Ext wr wr.drew ∧ wr.drew.cell? ⟨w.heap.size, 0, none⟩ = some (.slice af fs.length cf) ∧ wr.drew.cell? ⟨w.heap.size, 1, none⟩ = some (.slice ac cs.length cc) ∧ wr.drew.cell? ⟨w.heap.size + 1, 0, none⟩ = some (.slice none 0 0) ∧ wr.drew.cell? ⟨w.heap.size + 1, 1, none⟩ = some (.slice none 0 0) ∧ wr.drew.frozen? ⟨w.heap.size + 1, 0, none⟩ = false ∧ wr.drew.frozen? ⟨w.heap.size + 1, 1, none⟩ = false) := ⟨Below.drew (Below.refl _ _), k0, k1, B2.out.cell0, B2.out.cell1, B2.out.frozen 0, B2.out.frozen 1⟩
        have hN0 : w.heap.size + 1 < wr.drew.heap.size := by show _ < wr.heap.size; omega
        clear HSt own1c own1r hown hg hgA c8 c9
        go_wp2
        go_region_held3 (fun w' => w'.cell? ⟨w.heap.size, 0, none⟩ = some (.slice af fs.length cf) ∧ w'.cell? ⟨w.heap.size, 1, none⟩ = some (.slice ac cs.length cc)) (first | assumption | exact ⟨by assumption, by assumption⟩ | (refine ⟨?_, ?_⟩ <;> (rw [World.cell?_setCell_far _ _ _ _ (by show w.heap.size + 1 ≠ w.heap.size; omega), World.cell?_setCell_far _ _ _ _ (by show w.heap.size + 1 ≠ w.heap.size; omega)]; assumption)) | go_keep)
          (first | (go_at_call 12; refine (HK1.out _ ?_).mono ?_; (first | exact hS3 | exact HS0); rintro e w2 ⟨ad2, cap2, rfl, own2, hb2, hS2⟩; obtain ⟨p1, p2, p3, p4, p5, p6, p7⟩ := id hS2) | (go_at_call 14; refine (HK2.out _ ?_).mono ?_; (first | exact hS2 | exact HS0); rintro e w3 ⟨ad3, cap3, rfl, own3, hb3, hS3⟩; obtain ⟨p1, p2, p3, p4, p5, p6, p7⟩ := id hS3))
        all_goals go_wp2
        all_goals first
          | (have HS := Lib.hid ((B2.out.below hS3.1).store (.slice ad2 gs.length cap2) (.slice ad3 ds.length cap3))
             have HW := Lib.hid (known_fin (gs := gs) (ds := ds) (N := w.heap.size + 1) (hwr.trans (hS3.1.below.mono (by omega))) (ownsRow_below' own2 hb3) own3 hN0 (Nat.lt_of_lt_of_le hN0 hb2.size) (by omega))
             obtain ⟨W3, hW3⟩ : ∃ W3, W3 = (w3.setCell ⟨w.heap.size + 1, 0, none⟩ (.slice ad2 gs.length cap2)).setCell ⟨w.heap.size + 1, 1, none⟩ (.slice ad3 ds.length cap3) := ⟨_, rfl⟩
             rw [← hW3]
             rw [← hW3] at HS HW
             refine bodyPost_ret (v := .tuple #[.agg #[.slice ad2 gs.length cap2, .slice ad3 ds.length cap3], .int .i64 0]) (by simp [results, Try.results8, go_sem, HS.out.cell0, HS.out.cell1]) rfl HW.out)
          | (have HS := Lib.hid ((B2.out.below hS2.1).store (.slice ad2 gs.length cap2) (.slice ad3 ds.length cap3))
             have HW := Lib.hid (known_fin (gs := gs) (ds := ds) (N := w.heap.size + 1) (hwr.trans (hS2.1.below.mono (by omega))) own2 (ownsRow_below' own3 hb2) (Nat.lt_of_lt_of_le hN0 hb3.size) hN0 (by omega))
             obtain ⟨W3, hW3⟩ : ∃ W3, W3 = (w2.setCell ⟨w.heap.size + 1, 0, none⟩ (.slice ad2 gs.length cap2)).setCell ⟨w.heap.size + 1, 1, none⟩ (.slice ad3 ds.length cap3) := ⟨_, rfl⟩
             rw [← hW3]
             rw [← hW3] at HS HW
             refine bodyPost_ret (v := .tuple #[.agg #[.slice ad2 gs.length cap2, .slice ad3 ds.length cap3], .int .i64 0]) (by simp [results, Try.results8, go_sem, HS.out.cell0, HS.out.cell1]) rfl HW.out)

set_option maxHeartbeats 1000000 in
set_option maxRecDepth 100000 in
theorem only_err (fs : List Fx) (cs : List Ch) (ns : List Nd) (ks : List Ch) (af ac an ak : Option Addr) (cf cc cn ck : Nat) (w : World) (hn : fs.length ≤ 1100000) (hm : cs.length ≤ 1100000) (_hnn : ns.length ≤ 1100000) (_hkk : ks.length ≤ 1100000)
    (hf : Rd Fx.cells 3 w af fs) (hc : Rd Ch.cells 4 w ac cs) (_hrn : Rd Nd.cells 2 w an ns) (_hrk : Rd Ch.cells 4 w ak ks) (hfs : ∀ f ∈ fs, f.small) (hcs : ∀ c ∈ cs, c.small) (_hns : ∀ f ∈ ns, f.small) (_hks : ∀ f ∈ ks, f.small ∧ f.fits) (_hff : ∀ f ∈ fs, f.fits) (_hcf : ∀ f ∈ cs, f.fits) (he : envErr fs cs ≠ 0) :
    Calls Try.prog 8 #[.agg #[.slice af fs.length cf, .slice ac cs.length cc], .slice an ns.length cn, .slice ak ks.length ck] w (EnvPost w (envErr fs cs) (onlyF fs cs ns) (onlyC fs cs ks)) := by
  have HE := Lib.hid (fun W (h : Below w.heap.size w W) => checkEnv_any fs cs af ac cf cc W hn hm (hf.below h) (hc.below h) hfs hcs)
  rw [onlyF, onlyC, if_neg he, if_neg he]
  generalize envErr fs cs = E at HE he ⊢
  have t1 : (E != 0) = true := by rw [bne_iff_ne]; exact he
  have t2 : (E == 0) = false := by rw [beq_eq_false_iff_ne]; exact he
  clear hf hc hfs hcs he _hrn _hrk _hns _hks _hff _hcf
  go_enter Try.func8, Try.ntmps8
  go_wp2_with fail
  refine (HE.out _ (below_a2 _ _ _)).mono ?_
  rintro e w1 ⟨rfl, hb1⟩
  have b2 := (Boxed2.new (w.alloc (.cells #[.slice af fs.length cf, .slice ac cs.length cc] 25)) (.slice none 0 0) (.slice none 0 0) 25).below hb1
  simp at b2
  have r0 := b2.cell0
  have r1 := b2.cell1
  have z0 := b2.frozen 0
  have z1 := b2.frozen 1
  have hw1 : Below w.heap.size w w1 := (below_a2 _ _ _).trans (hb1.mono (by simp; omega))
  have HS := Lib.hid (b2.store (.slice none 0 0) (.slice none 0 0))
  have HW := Lib.hid (below_store hw1 (B := w.heap.size + 1) (by omega) (.slice none 0 0) (.slice none 0 0))
  clear hb1 b2
  go_wp2
  obtain ⟨W3, hW3⟩ : ∃ W3, W3 = (w1.setCell ⟨w.heap.size + 1, 0, none⟩ (.slice none 0 0)).setCell ⟨w.heap.size + 1, 1, none⟩ (.slice none 0 0) := ⟨_, rfl⟩
  rw [← hW3]
  rw [← hW3] at HS HW
  refine bodyPost_ret (v := .tuple #[.agg #[.slice none 0 0, .slice none 0 0], .int .i64 E]) (by simp [results, Try.results8, go_sem, HS.out.cell0, HS.out.cell1]) rfl (envPost_none HW.out)

theorem only_any (fs : List Fx) (cs : List Ch) (ns : List Nd) (ks : List Ch) (af ac an ak : Option Addr) (cf cc cn ck : Nat) (w : World) (hn : fs.length ≤ 1100000) (hm : cs.length ≤ 1100000) (hnn : ns.length ≤ 1100000) (hkk : ks.length ≤ 1100000)
    (hf : Rd Fx.cells 3 w af fs) (hc : Rd Ch.cells 4 w ac cs) (hrn : Rd Nd.cells 2 w an ns) (hrk : Rd Ch.cells 4 w ak ks) (hfs : ∀ f ∈ fs, f.small) (hcs : ∀ c ∈ cs, c.small) (hns : ∀ f ∈ ns, f.small) (hks : ∀ f ∈ ks, f.small ∧ f.fits) (hff : ∀ f ∈ fs, f.fits) (hcf : ∀ f ∈ cs, f.fits) :
    Calls Try.prog 8 #[.agg #[.slice af fs.length cf, .slice ac cs.length cc], .slice an ns.length cn, .slice ak ks.length ck] w (EnvPost w (envErr fs cs) (onlyF fs cs ns) (onlyC fs cs ks)) := by
  by_cases he : envErr fs cs = 0
  · exact only_ok fs cs ns ks af ac an ak cf cc cn ck w hn hm hnn hkk hf hc hrn hrk hfs hcs hns hks hff hcf he
  · exact only_err fs cs ns ks af ac an ak cf cc cn ck w hn hm hnn hkk hf hc hrn hrk hfs hcs hns hks hff hcf he
end Go.Proofs.Ytofbngpckllkoaa

namespace Go.Proofs.Ytofbngpckllkoaa
open Go.RowKit Go.ChangeShapes Go.WideShapes Go.Deep

theorem bulk_one {H : Type} (d : DataW H) : 1 ≤ Rows.uptoBulk d := by
  cases d with
  | lit l => cases l <;> simp [Rows.uptoBulk]
  | _ => simp [Rows.uptoBulk]
theorem bulk_part {H : Type} {d : DataW H} {l : List (DataW H)} (h : d ∈ l) : Rows.uptoBulk d ≤ Rows.uptoBulkAll l := by
  induction l with
  | nil => cases h
  | cons x r ih =>
    simp only [Rows.uptoBulkAll]
    rcases List.mem_cons.1 h with e | e
    · subst e; omega
    · have := ih e; omega
theorem bulk_length {H : Type} (l : List (DataW H)) : l.length ≤ Rows.uptoBulkAll l := by
  induction l with
  | nil => simp [Rows.uptoBulkAll]
  | cons x r ih => have := bulk_one x; simp only [Rows.uptoBulkAll, List.length_cons]; omega
theorem bulk_agg {H : Type} {d : DataW H} {l : List (DataW H)} (h : d ∈ l) : Rows.uptoBulk d ≤ Rows.uptoBulk (.agg l) := by
  have := bulk_part h
  simp only [Rows.uptoBulk]; omega
theorem bulk_text {H : Type} (s : ByteArray) : s.size ≤ Rows.uptoBulk (DataW.lit (H := H) (.string s.data.toList)) := by
  simp only [Rows.uptoBulk, Array.length_toList]
  show s.data.size ≤ _
  omega

theorem list_of {α : Type} {Q : Nat → α → Prop} : ∀ n : Nat, (∀ i, i < n → ∃ x, Q i x) → ∃ l : List α, l.length = n ∧ ∀ i x, l[i]? = some x → Q i x
  | 0, _ => ⟨[], rfl, by simp⟩
  | n + 1, h => by
    obtain ⟨l, hl, hq⟩ := list_of n (fun i hi => h i (by omega))
    obtain ⟨x, hx⟩ := h n (by omega)
    refine ⟨l ++ [x], by simp [hl], fun i y hy => ?_⟩
    by_cases hi : i < l.length
    · rw [List.getElem?_append_left hi] at hy
      exact hq i y hy
    · have hi2 := (List.getElem?_eq_some_iff.1 hy).1
      simp at hi2
      obtain rfl : i = l.length := by omega
      simp at hy
      rw [hl, ← hy]; exact hx

theorem flat_inv {α : Type} (enc : α → List Value) (m : Nat) (hm : ∀ x, (enc x).length = m) (hm0 : 0 < m) : ∀ (l : List α) (j : Nat) (u : Value), (l.flatMap enc)[j]? = some u → ∃ i k x, j = i * m + k ∧ k < m ∧ l[i]? = some x ∧ (enc x)[k]? = some u
  | [], j, u, h => by simp at h
  | y :: l, j, u, h => by
    rw [List.flatMap_cons] at h
    by_cases hj : j < m
    · rw [List.getElem?_append_left (by rw [hm]; exact hj)] at h
      exact ⟨0, j, y, by simp, hj, rfl, h⟩
    · rw [List.getElem?_append_right (by rw [hm]; omega), hm] at h
      obtain ⟨i, k, x, h1, h2, h3, h4⟩ := flat_inv enc m hm hm0 l (j - m) u h
      exact ⟨i + 1, k, x, by rw [Nat.add_mul, Nat.one_mul]; omega, h2, by simpa using h3, h4⟩

section
variable {H : Type} {enc : TypeId × Value → H} {P : Program} {w : World} {sp : Nat → Bool} {held : Bool}

theorem open_list {α : Type} (en : α → List Value) (m : Nat) (hm : ∀ x, (en x).length = m) (hm0 : 0 < m) (good : α → DataW H → Prop) {t e : TypeId} {fuel : Nat} {v : Value} {y : DataW H × List MemPlace}
    (ht : P.underlying t = some (.slice e)) (hc : P.cellsOf e = m)
    (dec : ∀ (n : Nat) (cs : List Value) (z : DataW H × List MemPlace), cs.length = m → DataW.trod enc P w 0 sp held n e cs = some z → ∃ x, cs = en x ∧ good x z.1)
    (h : DataW.trod enc P w 0 sp held fuel t [v] = some y) :
    ∃ (ad : Option Addr) (cap : Nat) (l : List α), v = .slice ad l.length cap ∧ (ad = none → cap = 0) ∧ Sl w (.slice ad l.length cap) m l.length (l.flatMap en) ∧
      l.length ≤ Rows.uptoBulk y.1 ∧ ∀ x ∈ l, ∃ d, good x d ∧ Rows.uptoBulk d ≤ Rows.uptoBulk y.1 := by
  rcases open_slice ht h with ⟨h0, hy⟩ | ⟨a, len, cap, mm, n, D, Pl, hcs, hb, hl, hmx, hmm, hx, hi⟩
  · simp at h0
    exact ⟨none, 0, [], h0, fun _ => rfl, Sl.empty w none 0 m, Nat.zero_le _, by simp⟩
  · have hlm : len ≤ mm := by rw [hmm]; split <;> omega
    obtain ⟨l, hll, hq⟩ := list_of (Q := fun i x => w.cells? 0 (a.add (i * m)) m = some (en x) ∧ good x (D i)) len (fun i hil => by
      obtain ⟨cs', h1, h2⟩ := hi i (by omega)
      rw [hc] at h1
      obtain ⟨x, hx, hg⟩ := dec n cs' _ (World.cells?_some h1).2.1 h2
      exact ⟨x, by rw [← hx]; exact h1, hg⟩)
    have hspot : 0 < len → a.spot = none := fun h0 => by
      obtain ⟨x, hx⟩ : ∃ x, l[0]? = some x := ⟨_, List.getElem?_eq_getElem (by omega)⟩
      have h1 := (World.cells?_some (hq 0 x hx).1).2.2 0 hm0
      rw [Nat.zero_mul] at h1
      have h2 : w.cell? a = (en x)[0]? := h1
      rw [List.getElem?_eq_getElem (by rw [hm]; exact hm0)] at h2
      simp only [World.cell?] at h2
      cases hsp : a.spot with
      | none => rfl
      | some k => rw [hsp] at h2; simp at h2; split at h2 <;> simp at h2
    simp at hcs
    have hbulk : ∀ i, i < len → Rows.uptoBulk (D i) ≤ Rows.uptoBulk y.1 := fun i hil => by
      have := bulk_part (H := H) (d := D i) (l := (List.range len).map D) (List.mem_map.2 ⟨i, by simpa using hil, rfl⟩)
      rw [hx]
      simp only [Rows.uptoBulk]
      omega
    refine ⟨some a, cap, l, by rw [hll]; exact hcs, fun h => (by cases h), ?_, ?_, ?_⟩
    · refine ⟨some a, cap, rfl, by omega, flat_length en m hm l, ?_⟩
      by_cases h0 : l.length = 0
      · exact .inl h0
      · right
        have hs := hspot (by omega)
        obtain ⟨b, off, sp⟩ := a
        simp at hs
        subst hs
        refine ⟨b, off, rfl, fun j u hj => ?_⟩
        obtain ⟨i, k, x, rfl, hk, h3, h4⟩ := flat_inv en m hm hm0 l j u hj
        have h5 := (World.cells?_some (hq i x h3).1).2.2 k hk
        rw [h4] at h5
        rw [← h5]
        congr 1
        simp only [Addr.add]
        split <;> split <;> simp_all <;> omega
    · have h1 := bulk_length ((List.range len).map D)
      rw [List.length_map, List.length_range] at h1
      rw [hx]
      simp only [Rows.uptoBulk]
      omega
    · intro x hxl
      obtain ⟨i, hix⟩ := List.getElem?_of_mem hxl
      have hil := (List.getElem?_eq_some_iff.1 hix).1
      exact ⟨D i, (hq i x hix).2, hbulk i (by omega)⟩

theorem arr2 {α : Type} {l : List α} (h : l.length = 2) : ∃ a b, l = [a, b] := by
  match l, h with
  | [a, b], _ => exact ⟨a, b, rfl⟩
theorem arr3 {α : Type} {l : List α} (h : l.length = 3) : ∃ a b c, l = [a, b, c] := by
  match l, h with
  | [a, b, c], _ => exact ⟨a, b, c, rfl⟩
theorem arr4 {α : Type} {l : List α} (h : l.length = 4) : ∃ a b c d, l = [a, b, c, d] := by
  match l, h with
  | [a, b, c, d], _ => exact ⟨a, b, c, d, rfl⟩
end

section
variable {H : Type} {enc : TypeId × Value → H} {w : World} {sp : Nat → Bool} {held : Bool}

theorem cells_rat : Try.prog.cellsOf 37 = 1 := by kernel_rfl

theorem dec_fx {n : Nat} {cs : List Value} {z : DataW H × List MemPlace} (hl : cs.length = 3) (h : DataW.trod enc Try.prog w 0 sp held n 39 cs = some z) :
    ∃ f : Fx, cs = f.cells ∧ f.fits ∧ (Rows.uptoBulk z.1 ≤ 1048576 → f.small) := by
  obtain ⟨c0, c1, c2, rfl⟩ := arr3 hl
  obtain ⟨xs, n', _, hz, _, hxl, hf⟩ := DataW.trod_struct Try.underlying39 h
  obtain ⟨y0, y1, y2, rfl⟩ := arr3 hxl
  have h0 := hf 0 _ rfl
  have h1 := hf 1 _ rfl
  have h2 := hf 2 _ rfl
  simp [cells_string, cells_int, cells_rat] at h0 h1 h2
  obtain ⟨s, hs, rfl, _⟩ := DataW.trod_string Try.underlying9 h0
  obtain ⟨d, hd, rfl, hw⟩ := DataW.trod_int Try.underlying3 h1
  obtain ⟨v, hv, rfl, _⟩ := DataW.trod_string Try.underlying37 h2
  simp at hs hd hv
  subst hs hd hv
  refine ⟨⟨s, d, v⟩, rfl, hw, fun hb => ?_⟩
  rw [hz] at hb
  have b0 := bulk_agg (H := H) (d := .lit (.string s.data.toList)) (l := [.lit (.string s.data.toList), .lit (.int .i64 d), .lit (.string v.data.toList)]) (by simp)
  have b2 := bulk_agg (H := H) (d := .lit (.string v.data.toList)) (l := [.lit (.string s.data.toList), .lit (.int .i64 d), .lit (.string v.data.toList)]) (by simp)
  have q0 := bulk_text (H := H) s
  have q2 := bulk_text (H := H) v
  have hb' : Rows.uptoBulk (DataW.agg (H := H) [.lit (.string s.data.toList), .lit (.int .i64 d), .lit (.string v.data.toList)]) ≤ 1048576 := hb
  exact ⟨by show s.size ≤ _; omega, by show v.size ≤ _; omega⟩
theorem dec_ch {n : Nat} {cs : List Value} {z : DataW H × List MemPlace} (hl : cs.length = 4) (h : DataW.trod enc Try.prog w 0 sp held n 41 cs = some z) :
    ∃ f : Ch, cs = f.cells ∧ f.fits ∧ (Rows.uptoBulk z.1 ≤ 1048576 → f.small) := by
  obtain ⟨c0, c1, c2, c3, rfl⟩ := arr4 hl
  obtain ⟨xs, n', _, hz, _, hxl, hf⟩ := DataW.trod_struct Try.underlying41 h
  obtain ⟨y0, y1, y2, y3, rfl⟩ := arr4 hxl
  have h0 := hf 0 _ rfl
  have h1 := hf 1 _ rfl
  have h2 := hf 2 _ rfl
  have h3 := hf 3 _ rfl
  simp [cells_string, cells_int, cells_bool] at h0 h1 h2 h3
  obtain ⟨s, hs, rfl, _⟩ := DataW.trod_string Try.underlying9 h0
  obtain ⟨v, hv, rfl, _⟩ := DataW.trod_string Try.underlying9 h1
  obtain ⟨d, hd, rfl, hw⟩ := DataW.trod_int Try.underlying3 h2
  obtain ⟨b, hb, rfl⟩ := DataW.trod_bool Try.underlying4 h3
  simp at hs hd hv hb
  subst hs hd hv hb
  refine ⟨⟨s, v, d, b⟩, rfl, hw, fun hb => ?_⟩
  rw [hz] at hb
  have b0 := bulk_agg (H := H) (d := .lit (.string s.data.toList)) (l := [.lit (.string s.data.toList), .lit (.string v.data.toList), .lit (.int .i64 d), .lit (.bool b)]) (by simp)
  have b2 := bulk_agg (H := H) (d := .lit (.string v.data.toList)) (l := [.lit (.string s.data.toList), .lit (.string v.data.toList), .lit (.int .i64 d), .lit (.bool b)]) (by simp)
  have q0 := bulk_text (H := H) s
  have q2 := bulk_text (H := H) v
  have hb' : Rows.uptoBulk (DataW.agg (H := H) [.lit (.string s.data.toList), .lit (.string v.data.toList), .lit (.int .i64 d), .lit (.bool b)]) ≤ 1048576 := hb
  exact ⟨by show s.size ≤ _; omega, by show v.size ≤ _; omega⟩
theorem dec_nd {n : Nat} {cs : List Value} {z : DataW H × List MemPlace} (hl : cs.length = 2) (h : DataW.trod enc Try.prog w 0 sp held n 53 cs = some z) :
    ∃ f : Nd, cs = f.cells ∧ (Rows.uptoBulk z.1 ≤ 1048576 → f.small) := by
  obtain ⟨c0, c1, rfl⟩ := arr2 hl
  obtain ⟨xs, n', _, hz, _, hxl, hf⟩ := DataW.trod_struct Try.underlying53 h
  obtain ⟨y0, y1, rfl⟩ := arr2 hxl
  have h0 := hf 0 _ rfl
  have h1 := hf 1 _ rfl
  simp [cells_string, cells_int] at h0 h1
  obtain ⟨s, hs, rfl, _⟩ := DataW.trod_string Try.underlying9 h0
  obtain ⟨d, hd, rfl, hw⟩ := DataW.trod_int Try.underlying3 h1
  simp at hs hd
  subst hs hd
  refine ⟨⟨s, d⟩, rfl, fun hb => ?_⟩
  rw [hz] at hb
  have b0 := bulk_agg (H := H) (d := .lit (.string s.data.toList)) (l := [.lit (.string s.data.toList), .lit (.int .i64 d)]) (by simp)
  have q0 := bulk_text (H := H) s
  have hb' : Rows.uptoBulk (DataW.agg (H := H) [.lit (.string s.data.toList), .lit (.int .i64 d)]) ≤ 1048576 := hb
  exact ⟨by show s.size ≤ _; omega, hw⟩
end
end Go.Proofs.Ytofbngpckllkoaa
