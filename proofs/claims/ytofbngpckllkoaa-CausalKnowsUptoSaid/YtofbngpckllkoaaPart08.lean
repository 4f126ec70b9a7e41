/-
  causal.Known. novationref08.SameEnv.  Printed by tools/gensame.py.
-/
import Derived.Test.YtofbngpckllkoaaPart07
import Derived.Test.YtofbngpckllkoaaPart06
import Derived.Laws.StructEq
import Derived.Deep.CutBlock
namespace Go.Proofs.Ytofbngpckllkoaa
open Go.RowKit

/-- What Known and Only hand back. -/
def EnvPost (w : World) (er : Int) (fs : List Fx) (cs : List Ch) (e : Ending) (w' : World) : Prop :=
  ∃ a1 c1 a2 c2, e = .returned (.tuple #[.agg #[.slice a1 fs.length c1, .slice a2 cs.length c2], .int .i64 er]) ∧
    w'.ownsRow w.heap.size 39 3 (.slice a1 fs.length c1) fs.length (fs.flatMap Fx.cells) ∧
    w'.ownsRow w.heap.size 41 4 (.slice a2 cs.length c2) cs.length (cs.flatMap Ch.cells) ∧ Below w.heap.size w w'
theorem envPost_none {w w' : World} {er : Int} (hb : Below w.heap.size w w') : EnvPost w er [] [] (.returned (.tuple #[.agg #[.slice none 0 0, .slice none 0 0], .int .i64 er])) w' :=
  ⟨none, 0, none, 0, rfl, World.ownsRow_nil _ _ _ _, World.ownsRow_nil _ _ _ _, hb⟩
def knownErr (fs : List Fx) (cs : List Ch) (day : Int) : Int := if envErr fs cs = 0 then (if isDay day = true then 0 else 2) else envErr fs cs
def knownF (fs : List Fx) (cs : List Ch) (day : Int) : List Fx := if knownErr fs cs day = 0 then fs.filter (fun f => decide (f.d ≤ day)) else []
def knownC (fs : List Fx) (cs : List Ch) (day : Int) : List Ch := if knownErr fs cs day = 0 then cs.filter (fun f => decide (f.d ≤ day)) else []

theorem Boxed2.new (w : World) (u v : Value) (t : TypeId) : Boxed2 (w.alloc (.cells #[u, v] t)) w.heap.size t u v := by
  show (w.heap.push _)[w.heap.size]? = _
  simp
theorem Boxed2.alloc {w : World} {B : Nat} {t : TypeId} {u v : Value} (h : Boxed2 w B t u v) (o : Obj) : Boxed2 (w.alloc o) B t u v := h.of_block (Below.heap_alloc _ _ _ h.lt)
theorem Boxed2.below {w w' : World} {B : Nat} {t : TypeId} {u v : Value} (h : Boxed2 w B t u v) (hb : Below w.heap.size w w') : Boxed2 w' B t u v := h.of_block (hb.block _ h.lt)
theorem Boxed2.store {w : World} {B : Nat} {t : TypeId} {u v : Value} (h : Boxed2 w B t u v) (x y : Value) : Boxed2 ((w.setCell ⟨B, 0, none⟩ x).setCell ⟨B, 1, none⟩ y) B t x y := (h.set0 x).set1 y
theorem below_store {B0 B : Nat} {w w1 : World} (hb : Below B0 w w1) (h : B0 ≤ B) (x y : Value) : Below B0 w ((w1.setCell ⟨B, 0, none⟩ x).setCell ⟨B, 1, none⟩ y) :=
  (hb.setCell (p := ⟨B, 0, none⟩) h _).setCell (p := ⟨B, 1, none⟩) h _

set_option maxHeartbeats 1000000 in
set_option maxRecDepth 100000 in
theorem known_err (fs : List Fx) (cs : List Ch) (day : Int) (af ac : Option Addr) (cf cc : Nat) (w : World) (hn : fs.length ≤ 1100000) (hm : cs.length ≤ 1100000)
    (hf : Rd Fx.cells 3 w af fs) (hc : Rd Ch.cells 4 w ac cs) (hfs : ∀ f ∈ fs, f.small) (hcs : ∀ c ∈ cs, c.small) (he : envErr fs cs ≠ 0) :
    Calls Try.prog 6 #[.agg #[.slice af fs.length cf, .slice ac cs.length cc], .int .i64 day] w (EnvPost w (knownErr fs cs day) (knownF fs cs day) (knownC fs cs day)) := by
  have HE := Lib.hid (fun W (h : Below w.heap.size w W) => checkEnv_any fs cs af ac cf cc W hn hm (hf.below h) (hc.below h) hfs hcs)
  have hb0 := fun o => below_a1 w o
  have R1 : knownErr fs cs day = envErr fs cs := by rw [knownErr, if_neg he]
  rw [knownF, knownC, R1, if_neg he, if_neg he]
  generalize envErr fs cs = E at HE he ⊢
  have t1 : (E != 0) = true := by rw [bne_iff_ne]; exact he
  have t2 : (E == 0) = false := by rw [beq_eq_false_iff_ne]; exact he
  clear hf hc hfs hcs he R1
  go_enter Try.func6, Try.ntmps6
  have bx := fun (o1 o2 : Obj) => Boxed2.new ((w.alloc o1).alloc o2) (.slice none 0 0) (.slice none 0 0) 25
  have HBX := Lib.hid bx
  clear bx
  go_wp2_with fail
  refine (HE.out _ (below_a3 _ _ _ _)).mono ?_
  rintro e w1 ⟨rfl, hb1⟩
  have hs1 := hb1.size
  have b2 := (HBX.out _ _).below hb1
  simp at b2
  have r0 := b2.cell0
  have r1 := b2.cell1
  have z0 := b2.frozen 0
  have z1 := b2.frozen 1
  have hw1 : Below w.heap.size w w1 := (below_a3 _ _ _ _).trans (hb1.mono (by simp; omega))
  have B2 := Lib.hid b2
  clear hb1 HBX b2
  go_wp2
  have HS := Lib.hid (B2.out.store (.slice none 0 0) (.slice none 0 0))
  have HW := Lib.hid (below_store hw1 (B := w.heap.size + 1 + 1) (by omega) (.slice none 0 0) (.slice none 0 0))
  obtain ⟨W3, hW3⟩ : ∃ W3, W3 = (w1.setCell ⟨w.heap.size + 1 + 1, 0, none⟩ (.slice none 0 0)).setCell ⟨w.heap.size + 1 + 1, 1, none⟩ (.slice none 0 0) := ⟨_, rfl⟩
  rw [← hW3]
  rw [← hW3] at HS HW
  refine bodyPost_ret (v := .tuple #[.agg #[.slice none 0 0, .slice none 0 0], .int .i64 E]) (by simp [results, Try.results6, go_sem, HS.out.cell0, HS.out.cell1]) rfl (envPost_none HW.out)

set_option maxHeartbeats 1000000 in
set_option maxRecDepth 100000 in
theorem known_day (fs : List Fx) (cs : List Ch) (day : Int) (af ac : Option Addr) (cf cc : Nat) (w : World) (hn : fs.length ≤ 1100000) (hm : cs.length ≤ 1100000)
    (hf : Rd Fx.cells 3 w af fs) (hc : Rd Ch.cells 4 w ac cs) (hfs : ∀ f ∈ fs, f.small) (hcs : ∀ c ∈ cs, c.small) (he : envErr fs cs = 0) (hd : isDay day = false) :
    Calls Try.prog 6 #[.agg #[.slice af fs.length cf, .slice ac cs.length cc], .int .i64 day] w (EnvPost w (knownErr fs cs day) (knownF fs cs day) (knownC fs cs day)) := by
  have HE := Lib.hid (fun W (h : Below w.heap.size w W) => checkEnv_any fs cs af ac cf cc W hn hm (hf.below h) (hc.below h) hfs hcs)
  have hb0 := fun o => below_a1 w o
  have R1 : knownErr fs cs day = 2 := by rw [knownErr, if_pos he, hd]; rfl
  rw [knownF, knownC, R1, if_neg (by decide), if_neg (by decide)]
  rw [he] at HE
  have hd' : day < 0 ∨ 99999 < day := by
    simp only [isDay, Bool.and_eq_false_iff, decide_eq_false_iff_not] at hd
    omega
  have HDd := Lib.hid hd'
  clear hf hc hfs hcs he R1 hd hd'
  go_enter Try.func6, Try.ntmps6
  have bx := fun (o1 o2 : Obj) => Boxed2.new ((w.alloc o1).alloc o2) (.slice none 0 0) (.slice none 0 0) 25
  have HBX := Lib.hid bx
  clear bx
  go_wp2_with fail
  refine (HE.out _ (below_a3 _ _ _ _)).mono ?_
  rintro e w1 ⟨rfl, hb1⟩
  have hs1 := hb1.size
  have b2 := (HBX.out _ _).below hb1
  simp at b2
  have hd0 : w1.cell? ⟨w.heap.size + 1, 0, none⟩ = some (.int .i64 day) := by rw [hb1.cell (by simp)]; go_simp
  have r0 := b2.cell0
  have r1 := b2.cell1
  have z0 := b2.frozen 0
  have z1 := b2.frozen 1
  have hw1 : Below w.heap.size w w1 := (below_a3 _ _ _ _).trans (hb1.mono (by simp; omega))
  have B2 := Lib.hid b2
  clear hb1 HBX b2
  have HS := Lib.hid (B2.out.store (.slice none 0 0) (.slice none 0 0))
  have HW := Lib.hid (below_store hw1 (B := w.heap.size + 1 + 1) (by omega) (.slice none 0 0) (.slice none 0 0))
  rcases HDd.out with hd | hd
  · have t1 : decide (day < 0) = true := by rw [decide_eq_true_eq]; omega
    clear hd
    go_wp2
    obtain ⟨W3, hW3⟩ : ∃ W3, W3 = (w1.setCell ⟨w.heap.size + 1 + 1, 0, none⟩ (.slice none 0 0)).setCell ⟨w.heap.size + 1 + 1, 1, none⟩ (.slice none 0 0) := ⟨_, rfl⟩
    rw [← hW3]
    rw [← hW3] at HS HW
    refine bodyPost_ret (v := .tuple #[.agg #[.slice none 0 0, .slice none 0 0], .int .i64 2]) (by simp [results, Try.results6, go_sem, HS.out.cell0, HS.out.cell1]) rfl (envPost_none HW.out)
  · have t1 : decide (day < 0) = false := by rw [decide_eq_false_iff_not]; omega
    have t2 : decide ((99999 : Int) < day) = true := by rw [decide_eq_true_eq]; omega
    clear hd
    go_wp2
    obtain ⟨W3, hW3⟩ : ∃ W3, W3 = (w1.setCell ⟨w.heap.size + 1 + 1, 0, none⟩ (.slice none 0 0)).setCell ⟨w.heap.size + 1 + 1, 1, none⟩ (.slice none 0 0) := ⟨_, rfl⟩
    rw [← hW3]
    rw [← hW3] at HS HW
    refine bodyPost_ret (v := .tuple #[.agg #[.slice none 0 0, .slice none 0 0], .int .i64 2]) (by simp [results, Try.results6, go_sem, HS.out.cell0, HS.out.cell1]) rfl (envPost_none HW.out)

theorem known_fin {w W : World} {N B2 B3 : Nat} {gs : List Fx} {ds : List Ch} {ad2 ad3 : Option Addr} {cap2 cap3 : Nat} (hW : Below w.heap.size w W)
    (o2 : W.ownsRow B2 39 3 (.slice ad2 gs.length cap2) gs.length (gs.flatMap Fx.cells)) (o3 : W.ownsRow B3 41 4 (.slice ad3 ds.length cap3) ds.length (ds.flatMap Ch.cells))
    (h2 : N < B2) (h3 : N < B3) (hN : w.heap.size ≤ N) :
    EnvPost w 0 gs ds (.returned (.tuple #[.agg #[.slice ad2 gs.length cap2, .slice ad3 ds.length cap3], .int .i64 0])) ((W.setCell ⟨N, 0, none⟩ (.slice ad2 gs.length cap2)).setCell ⟨N, 1, none⟩ (.slice ad3 ds.length cap3)) :=
  ⟨ad2, cap2, ad3, cap3, rfl, ownsRow_base' (ownsRow_setCell_below (ownsRow_setCell_below o2 (a := ⟨N, 0, none⟩) h2 _) (a := ⟨N, 1, none⟩) h2 _) (by omega),
    ownsRow_base' (ownsRow_setCell_below (ownsRow_setCell_below o3 (a := ⟨N, 0, none⟩) h3 _) (a := ⟨N, 1, none⟩) h3 _) (by omega), below_store hW hN _ _⟩

set_option maxHeartbeats 2000000 in
set_option maxRecDepth 100000 in
theorem known_ok (fs : List Fx) (cs : List Ch) (day : Int) (af ac : Option Addr) (cf cc : Nat) (w : World) (hn : fs.length ≤ 1100000) (hm : cs.length ≤ 1100000)
    (hf : Rd Fx.cells 3 w af fs) (hc : Rd Ch.cells 4 w ac cs) (hfs : ∀ f ∈ fs, f.small) (hcs : ∀ c ∈ cs, c.small) (he : envErr fs cs = 0) (hd : isDay day = true) :
    Calls Try.prog 6 #[.agg #[.slice af fs.length cf, .slice ac cs.length cc], .int .i64 day] w (EnvPost w (knownErr fs cs day) (knownF fs cs day) (knownC fs cs day)) := by
  have HE := Lib.hid (fun W (h : Below w.heap.size w W) => checkEnv_any fs cs af ac cf cc W hn hm (hf.below h) (hc.below h) hfs hcs)
  have hb0 := fun o => below_a1 w o
  have R1 : knownErr fs cs day = 0 := by rw [knownErr, if_pos he, hd]; rfl
  rw [knownF, knownC, R1, if_pos rfl, if_pos rfl]
  obtain ⟨gs, hgs⟩ : ∃ gs, gs = fs.filter (fun f => decide (f.d ≤ day)) := ⟨_, rfl⟩
  obtain ⟨ds, hds⟩ : ∃ ds, ds = cs.filter (fun f => decide (f.d ≤ day)) := ⟨_, rfl⟩
  rw [← hgs, ← hds]
  have HG := Lib.hid hgs
  have HDS := Lib.hid hds
  clear hgs hds
  rw [he] at HE
  have hd' : 0 ≤ day ∧ day ≤ 99999 := by
    simp only [isDay, Bool.and_eq_true, decide_eq_true_eq] at hd
    exact hd
  have HFD := Lib.hid hf
  have HCD := Lib.hid hc
  have t1 : decide (day < 0) = false := by rw [decide_eq_false_iff_not]; omega
  have t2 : decide ((99999 : Int) < day) = false := by rw [decide_eq_false_iff_not]; omega
  clear hf hc hfs hcs he R1 hd hd'
  go_enter Try.func6, Try.ntmps6
  have bx := fun (o1 o2 : Obj) => Boxed2.new ((w.alloc o1).alloc o2) (.slice none 0 0) (.slice none 0 0) 25
  have HBX := Lib.hid bx
  clear bx
  go_wp2_with fail
  refine (HE.out _ (below_a3 _ _ _ _)).mono ?_
  rintro e w1 ⟨rfl, hb1⟩
  have hs1 := hb1.size
  simp at hs1
  have b2 := (HBX.out _ _).below hb1
  simp at b2
  have hd0 : w1.cell? ⟨w.heap.size + 1, 0, none⟩ = some (.int .i64 day) := by rw [hb1.cell (by simp)]; go_simp
  have k0 : w1.cell? ⟨w.heap.size, 0, none⟩ = some (.slice af fs.length cf) := by rw [hb1.cell (by simp; omega)]; go_simp
  have k1 : w1.cell? ⟨w.heap.size, 1, none⟩ = some (.slice ac cs.length cc) := by rw [hb1.cell (by simp; omega)]; go_simp
  have hw1 : Below w.heap.size w w1 := (below_a3 _ _ _ _).trans (hb1.mono (by simp; omega))
  have B2 := Lib.hid b2
  have HSt : ∀ W w2, (Ext w1 W ∧ W.cell? ⟨w.heap.size, 0, none⟩ = some (.slice af fs.length cf) ∧ W.cell? ⟨w.heap.size, 1, none⟩ = some (.slice ac cs.length cc) ∧ W.cell? ⟨w.heap.size + 1 + 1, 0, none⟩ = some (.slice none 0 0) ∧ W.cell? ⟨w.heap.size + 1 + 1, 1, none⟩ = some (.slice none 0 0) ∧ W.frozen? ⟨w.heap.size + 1 + 1, 0, none⟩ = false ∧ W.frozen? ⟨w.heap.size + 1 + 1, 1, none⟩ = false) → Below W.heap.size W w2 → (Ext w1 w2 ∧ w2.cell? ⟨w.heap.size, 0, none⟩ = some (.slice af fs.length cf) ∧ w2.cell? ⟨w.heap.size, 1, none⟩ = some (.slice ac cs.length cc) ∧ w2.cell? ⟨w.heap.size + 1 + 1, 0, none⟩ = some (.slice none 0 0) ∧ w2.cell? ⟨w.heap.size + 1 + 1, 1, none⟩ = some (.slice none 0 0) ∧ w2.frozen? ⟨w.heap.size + 1 + 1, 0, none⟩ = false ∧ w2.frozen? ⟨w.heap.size + 1 + 1, 1, none⟩ = false) := by
    intro W w2 ⟨h1, h2, h3, h4, h5, h6, h7⟩ hb
    have hz : w.heap.size + 1 + 1 < W.heap.size := World.block_lt_of_cell? W _ h4
    exact ⟨h1.below.trans (hb.mono (Below.size h1)), Ext.cell hb h2, Ext.cell hb h3, Ext.cell hb h4, Ext.cell hb h5, by rw [hb.frozen hz]; exact h6, by rw [hb.frozen hz]; exact h7⟩
  have HK1 : Hid (∀ W, (Ext w1 W ∧ W.cell? ⟨w.heap.size, 0, none⟩ = some (.slice af fs.length cf) ∧ W.cell? ⟨w.heap.size, 1, none⟩ = some (.slice ac cs.length cc) ∧ W.cell? ⟨w.heap.size + 1 + 1, 0, none⟩ = some (.slice none 0 0) ∧ W.cell? ⟨w.heap.size + 1 + 1, 1, none⟩ = some (.slice none 0 0) ∧ W.frozen? ⟨w.heap.size + 1 + 1, 0, none⟩ = false ∧ W.frozen? ⟨w.heap.size + 1 + 1, 1, none⟩ = false) → Calls Try.prog 12 #[.slice af fs.length cf, .func (.func 13) #[] #[.pointer (some ⟨w.heap.size + 1, 0, none⟩)]] W fun e w' => ∃ ad cap, e = .returned (.slice ad gs.length cap) ∧ w'.ownsRow W.heap.size 39 3 (.slice ad gs.length cap) gs.length (gs.flatMap Fx.cells) ∧ Below W.heap.size W w' ∧ (Ext w1 w' ∧ w'.cell? ⟨w.heap.size, 0, none⟩ = some (.slice af fs.length cf) ∧ w'.cell? ⟨w.heap.size, 1, none⟩ = some (.slice ac cs.length cc) ∧ w'.cell? ⟨w.heap.size + 1 + 1, 0, none⟩ = some (.slice none 0 0) ∧ w'.cell? ⟨w.heap.size + 1 + 1, 1, none⟩ = some (.slice none 0 0) ∧ w'.frozen? ⟨w.heap.size + 1 + 1, 0, none⟩ = false ∧ w'.frozen? ⟨w.heap.size + 1 + 1, 1, none⟩ = false)) := by
    intro W hS
    rw [HG.out]
    refine (keepF1_any (fun f => decide (f.d ≤ day)) fs af cf (w.heap.size + 1) W hn ((HFD.out.below hw1).below hS.1) fun f _ W' hW' => known1_any f day _ W' (Ext.cell hW' (hS.1.cell hd0))).mono ?_
    rintro e w2 ⟨ad, cap, rfl, own, hb⟩
    have q := HSt W w2 hS hb
    exact ⟨ad, cap, rfl, own, hb, q⟩
  have HK2 : Hid (∀ W, (Ext w1 W ∧ W.cell? ⟨w.heap.size, 0, none⟩ = some (.slice af fs.length cf) ∧ W.cell? ⟨w.heap.size, 1, none⟩ = some (.slice ac cs.length cc) ∧ W.cell? ⟨w.heap.size + 1 + 1, 0, none⟩ = some (.slice none 0 0) ∧ W.cell? ⟨w.heap.size + 1 + 1, 1, none⟩ = some (.slice none 0 0) ∧ W.frozen? ⟨w.heap.size + 1 + 1, 0, none⟩ = false ∧ W.frozen? ⟨w.heap.size + 1 + 1, 1, none⟩ = false) → Calls Try.prog 14 #[.slice ac cs.length cc, .func (.func 15) #[] #[.pointer (some ⟨w.heap.size + 1, 0, none⟩)]] W fun e w' => ∃ ad cap, e = .returned (.slice ad ds.length cap) ∧ w'.ownsRow W.heap.size 41 4 (.slice ad ds.length cap) ds.length (ds.flatMap Ch.cells) ∧ Below W.heap.size W w' ∧ (Ext w1 w' ∧ w'.cell? ⟨w.heap.size, 0, none⟩ = some (.slice af fs.length cf) ∧ w'.cell? ⟨w.heap.size, 1, none⟩ = some (.slice ac cs.length cc) ∧ w'.cell? ⟨w.heap.size + 1 + 1, 0, none⟩ = some (.slice none 0 0) ∧ w'.cell? ⟨w.heap.size + 1 + 1, 1, none⟩ = some (.slice none 0 0) ∧ w'.frozen? ⟨w.heap.size + 1 + 1, 0, none⟩ = false ∧ w'.frozen? ⟨w.heap.size + 1 + 1, 1, none⟩ = false)) := by
    intro W hS
    rw [HDS.out]
    refine (keepC1_any (fun f => decide (f.d ≤ day)) cs ac cc (w.heap.size + 1) W hm ((HCD.out.below hw1).below hS.1) fun f _ W' hW' => known2_any f day _ W' (Ext.cell hW' (hS.1.cell hd0))).mono ?_
    rintro e w2 ⟨ad, cap, rfl, own, hb⟩
    have q := HSt W w2 hS hb
    exact ⟨ad, cap, rfl, own, hb, q⟩
  have HSt0 : Hid (Ext w1 w1.drew ∧ w1.drew.cell? ⟨w.heap.size, 0, none⟩ = some (.slice af fs.length cf) ∧ w1.drew.cell? ⟨w.heap.size, 1, none⟩ = some (.slice ac cs.length cc) ∧ w1.drew.cell? ⟨w.heap.size + 1 + 1, 0, none⟩ = some (.slice none 0 0) ∧ w1.drew.cell? ⟨w.heap.size + 1 + 1, 1, none⟩ = some (.slice none 0 0) ∧ w1.drew.frozen? ⟨w.heap.size + 1 + 1, 0, none⟩ = false ∧ w1.drew.frozen? ⟨w.heap.size + 1 + 1, 1, none⟩ = false) := ⟨Below.drew (Below.refl _ _), k0, k1, B2.out.cell0, B2.out.cell1, B2.out.frozen 0, B2.out.frozen 1⟩
  clear HSt
  clear hb1 HBX b2
  have r0 := B2.out.cell0
  have r1 := B2.out.cell1
  have z0 := B2.out.frozen 0
  have z1 := B2.out.frozen 1
  go_wp2
  have HS0 := HSt0.out
  have hN0 : w.heap.size + 1 + 1 < w1.drew.heap.size := by show _ < w1.heap.size; omega
  go_region_held3 (fun w' => w'.cell? ⟨w.heap.size, 0, none⟩ = some (.slice af fs.length cf) ∧ w'.cell? ⟨w.heap.size, 1, none⟩ = some (.slice ac cs.length cc)) (first | assumption | exact ⟨by assumption, by assumption⟩ | (refine ⟨?_, ?_⟩ <;> (rw [World.cell?_setCell_far _ _ _ _ (by show w.heap.size + 1 + 1 ≠ w.heap.size; omega), World.cell?_setCell_far _ _ _ _ (by show w.heap.size + 1 + 1 ≠ w.heap.size; omega)]; assumption)) | go_keep)
    (first | (go_at_call 12; refine (HK1.out _ ?_).mono ?_; (first | exact hS3 | exact HS0); rintro e w2 ⟨ad2, cap2, rfl, own2, hb2, hS2⟩; obtain ⟨p1, p2, p3, p4, p5, p6, p7⟩ := id hS2) | (go_at_call 14; refine (HK2.out _ ?_).mono ?_; (first | exact hS2 | exact HS0); rintro e w3 ⟨ad3, cap3, rfl, own3, hb3, hS3⟩; obtain ⟨p1, p2, p3, p4, p5, p6, p7⟩ := id hS3))
  all_goals go_wp2
  all_goals first
    | (have HS := Lib.hid ((B2.out.below hS3.1).store (.slice ad2 gs.length cap2) (.slice ad3 ds.length cap3))
       have HW := Lib.hid (known_fin (gs := gs) (ds := ds) (N := w.heap.size + 1 + 1) (hw1.trans (hS3.1.below.mono (by omega))) (ownsRow_below' own2 hb3) own3 hN0 (Nat.lt_of_lt_of_le hN0 hb2.size) (by omega))
       obtain ⟨W3, hW3⟩ : ∃ W3, W3 = (w3.setCell ⟨w.heap.size + 1 + 1, 0, none⟩ (.slice ad2 gs.length cap2)).setCell ⟨w.heap.size + 1 + 1, 1, none⟩ (.slice ad3 ds.length cap3) := ⟨_, rfl⟩
       rw [← hW3]
       rw [← hW3] at HS HW
       refine bodyPost_ret (v := .tuple #[.agg #[.slice ad2 gs.length cap2, .slice ad3 ds.length cap3], .int .i64 0]) (by simp [results, Try.results6, go_sem, HS.out.cell0, HS.out.cell1]) rfl HW.out)
    | (have HS := Lib.hid ((B2.out.below hS2.1).store (.slice ad2 gs.length cap2) (.slice ad3 ds.length cap3))
       have HW := Lib.hid (known_fin (gs := gs) (ds := ds) (N := w.heap.size + 1 + 1) (hw1.trans (hS2.1.below.mono (by omega))) own2 (ownsRow_below' own3 hb2) (Nat.lt_of_lt_of_le hN0 hb3.size) hN0 (by omega))
       obtain ⟨W3, hW3⟩ : ∃ W3, W3 = (w2.setCell ⟨w.heap.size + 1 + 1, 0, none⟩ (.slice ad2 gs.length cap2)).setCell ⟨w.heap.size + 1 + 1, 1, none⟩ (.slice ad3 ds.length cap3) := ⟨_, rfl⟩
       rw [← hW3]
       rw [← hW3] at HS HW
       refine bodyPost_ret (v := .tuple #[.agg #[.slice ad2 gs.length cap2, .slice ad3 ds.length cap3], .int .i64 0]) (by simp [results, Try.results6, go_sem, HS.out.cell0, HS.out.cell1]) rfl HW.out)

theorem known_any (fs : List Fx) (cs : List Ch) (day : Int) (af ac : Option Addr) (cf cc : Nat) (w : World) (hn : fs.length ≤ 1100000) (hm : cs.length ≤ 1100000)
    (hf : Rd Fx.cells 3 w af fs) (hc : Rd Ch.cells 4 w ac cs) (hfs : ∀ f ∈ fs, f.small) (hcs : ∀ c ∈ cs, c.small) :
    Calls Try.prog 6 #[.agg #[.slice af fs.length cf, .slice ac cs.length cc], .int .i64 day] w (EnvPost w (knownErr fs cs day) (knownF fs cs day) (knownC fs cs day)) := by
  by_cases he : envErr fs cs = 0
  · cases hd : isDay day with
    | true => exact known_ok fs cs day af ac cf cc w hn hm hf hc hfs hcs he hd
    | false => exact known_day fs cs day af ac cf cc w hn hm hf hc hfs hcs he hd
  · exact known_err fs cs day af ac cf cc w hn hm hf hc hfs hcs he
end Go.Proofs.Ytofbngpckllkoaa

namespace Go.Proofs.Ytofbngpckllkoaa
open Go.RowKit

noncomputable def eqB (p : Prop) : Bool := @decide p (Classical.propDecidable p)
theorem eqB_true {p : Prop} (h : p) : eqB p = true := by unfold eqB; exact @decide_eq_true p (Classical.propDecidable p) h
theorem eqB_false {p : Prop} (h : ¬ p) : eqB p = false := by unfold eqB; exact @decide_eq_false p (Classical.propDecidable p) h
theorem take_snoc_get {α : Type} {l : List α} {k : Nat} {x : α} (h : l[k]? = some x) : l.take (k + 1) = l.take k ++ [x] := by rw [List.take_add_one, h]; rfl
theorem take_eq_succ {α : Type} {l m : List α} {k : Nat} {x : α} (h1 : l[k]? = some x) (h2 : m[k]? = some x) (h : l.take k = m.take k) : l.take (k + 1) = m.take (k + 1) := by
  rw [take_snoc_get h1, take_snoc_get h2, h]
theorem ne_of_get {α : Type} {l m : List α} {k : Nat} {x y : α} (h1 : l[k]? = some x) (h2 : m[k]? = some y) (h : x ≠ y) : l ≠ m := by
  rintro rfl; rw [h1] at h2; exact h (Option.some.inj h2)
theorem toList_eq_iff (a b : ByteArray) : a.toList = b.toList ↔ a = b := by
  rw [toList_bl, toList_bl]; exact ⟨bl_inj, fun h => by rw [h]⟩
/-- The comparison of two fixings, two choices, as the program does it. -/
theorem eqv_fx (f g : Fx) (w : World) : (Op.equalIn 10000 39 (.agg #[.string f.nm, .int .i64 f.d, .string f.vl]) (.agg #[.string g.nm, .int .i64 g.d, .string g.vl])).run Try.prog w = .ok (eqB (f = g)) w := by
  have hS : Try.prog.underlying 39 = some (.struct (Try.prog.fieldsOf 39)) := by kernel_rfl
  have hp : Try.prog.stoodInHeld 39 = false := by kernel_rfl
  rw [show (10000 : Nat) = 9999 + 1 from rfl, run_equalIn_agg w 9999 _ _ _ hS hp]
  simp only [Program.fieldsOf, Try.underlying39]
  have hE : eqB (f = g) = (if f.nm.toList = g.nm.toList then if f.d = g.d then if f.vl.toList = g.vl.toList then true else false else false else false) := by
    obtain ⟨a, b, c⟩ := f
    obtain ⟨a', b', c'⟩ := g
    simp only [toList_eq_iff]
    by_cases h1 : a = a'
    · by_cases h2 : b = b'
      · by_cases h3 : c = c'
        · subst h1 h2 h3; simp [eqB_true]
        · rw [eqB_false (by simp [h3])]; simp [h3]
      · rw [eqB_false (by simp [h2])]; simp [h2]
    · rw [eqB_false (by simp [h1])]; simp [h1]
  rw [hE]
  clear hE
  go_simp
  split <;> (try split) <;> (try split) <;> simp [*]
theorem eqv_ch (f g : Ch) (w : World) : (Op.equalIn 10000 41 (.agg #[.string f.pt, .string f.nm, .int .i64 f.d, .bool f.first]) (.agg #[.string g.pt, .string g.nm, .int .i64 g.d, .bool g.first])).run Try.prog w = .ok (eqB (f = g)) w := by
  have hS : Try.prog.underlying 41 = some (.struct (Try.prog.fieldsOf 41)) := by kernel_rfl
  have hp : Try.prog.stoodInHeld 41 = false := by kernel_rfl
  rw [show (10000 : Nat) = 9999 + 1 from rfl, run_equalIn_agg w 9999 _ _ _ hS hp]
  simp only [Program.fieldsOf, Try.underlying41]
  have hE : eqB (f = g) = (if f.pt.toList = g.pt.toList then if f.nm.toList = g.nm.toList then if f.d = g.d then if f.first = g.first then true else false else false else false else false) := by
    obtain ⟨a, b, c, d⟩ := f
    obtain ⟨a', b', c', d'⟩ := g
    simp only [toList_eq_iff]
    by_cases h1 : a = a'
    · by_cases h2 : b = b'
      · by_cases h3 : c = c'
        · by_cases h4 : d = d'
          · subst h1 h2 h3 h4; simp [eqB_true]
          · rw [eqB_false (by simp [h4])]; simp [h4]
        · rw [eqB_false (by simp [h3])]; simp [h3]
      · rw [eqB_false (by simp [h2])]; simp [h2]
    · rw [eqB_false (by simp [h1])]; simp [h1]
  rw [hE]
  clear hE
  go_simp
  split <;> (try split) <;> (try split) <;> (try split) <;> simp [*]

set_option maxHeartbeats 4000000 in
set_option maxRecDepth 100000 in
theorem same_loop (fa fb : List Fx) (ca cb : List Ch) (a1 a2 a3 a4 : Option Addr) (c1 c2 c3 c4 : Nat) (w : World) (hn : fa.length ≤ 1100000) (hm : ca.length ≤ 1100000) (_hn2 : fb.length ≤ 1100000) (_hm2 : cb.length ≤ 1100000)
    (hfa : Rd Fx.cells 3 w a1 fa) (hca : Rd Ch.cells 4 w a2 ca) (hfb : Rd Fx.cells 3 w a3 fb) (hcb : Rd Ch.cells 4 w a4 cb) (hl1 : fa.length = fb.length) (hl2 : ca.length = cb.length) :
    Calls Try.prog 10 #[.agg #[.slice a1 fa.length c1, .slice a2 ca.length c2], .agg #[.slice a3 fb.length c3, .slice a4 cb.length c4]] w fun e w' => e = .returned (.bool (eqB (fa = fb ∧ ca = cb))) ∧ Below w.heap.size w w' := by
  have hbw := fun a b => below_a2 w a b
  have t1 : ((fa.length : Int) != (fb.length : Int)) = false := by rw [bne_eq_false_iff_eq]; omega
  have t2 : ((ca.length : Int) != (cb.length : Int)) = false := by rw [bne_eq_false_iff_eq]; omega
  have t3 : (fa.length != fb.length) = false := by rw [bne_eq_false_iff_eq]; omega
  have t4 : (ca.length != cb.length) = false := by rw [bne_eq_false_iff_eq]; omega
  have t5 : (fa.length == fb.length) = true := by rw [beq_iff_eq]; omega
  have t6 : (ca.length == cb.length) = true := by rw [beq_iff_eq]; omega
  have HL1 := Lib.hid hl1
  have HL2 := Lib.hid hl2
  have Rfa := Lib.hid hfa
  have Rca := Lib.hid hca
  have Rfb := Lib.hid hfb
  have Rcb := Lib.hid hcb
  clear hfa hca hfb hcb hl1 hl2
  go_enter Try.func10, Try.ntmps10
  go_upto_block 0 with fail
  clear t1 t2 t3 t4 t5 t6
  go_cut [5] from 23 to 40 (fun _ wc => Hid (fa = fb) ∧ Below w.heap.size w wc ∧ (wc.cell? ⟨w.heap.size, 0, none⟩ = some (.slice a1 fa.length c1) ∧ wc.cell? ⟨w.heap.size, 1, none⟩ = some (.slice a2 ca.length c2) ∧ wc.cell? ⟨w.heap.size + 1, 0, none⟩ = some (.slice a3 fb.length c3) ∧ wc.cell? ⟨w.heap.size + 1, 1, none⟩ = some (.slice a4 cb.length c4)))
  case first =>
    go_wp2_with fail
    go_loopw [5] (fun i wr => ∃ k : Nat, k ≤ fa.length ∧ i = .int .i64 k ∧ Hid (fa.take k = fb.take k) ∧ Below w.heap.size w wr ∧ (wr.cell? ⟨w.heap.size, 0, none⟩ = some (.slice a1 fa.length c1) ∧ wr.cell? ⟨w.heap.size, 1, none⟩ = some (.slice a2 ca.length c2) ∧ wr.cell? ⟨w.heap.size + 1, 0, none⟩ = some (.slice a3 fb.length c3) ∧ wr.cell? ⟨w.heap.size + 1, 1, none⟩ = some (.slice a4 cb.length c4))) (fun i _ => fa.length - (intOf i).toNat)
    case atStart => exact ⟨0, Nat.zero_le _, rfl, Lib.hid rfl, hbw _ _, by go_simp, by go_simp, by go_simp, by go_simp⟩
    case round =>
      obtain ⟨k, hk, rfl, Hall, hbel, b0, b1, b2, b3⟩ := hrel
      by_cases hlt : k < fa.length
      · obtain ⟨f, hf⟩ : ∃ f, fa[k]? = some f := ⟨_, List.getElem?_eq_getElem hlt⟩
        have hlt2 : k < fb.length := by have := HL1.out; omega
        obtain ⟨g, hg⟩ : ∃ g, fb[k]? = some g := ⟨_, List.getElem?_eq_getElem hlt2⟩
        have HRf := ((Rfa.out.below hbel).fx hf)
        have HRg := ((Rfb.out.below hbel).fx hg)
        have HF := Lib.hid hf
        have HG := Lib.hid hg
        clear hf hg
        obtain ⟨b, off, rfl, hc1, hc2, hc3⟩ := HRf
        obtain ⟨b', off', rfl, hd1, hd2, hd3⟩ := HRg
        have hk1 : (0 : Int) ≤ (k : Int) := by omega
        have hk2 : (k : Int) < (fa.length : Int) := by omega
        have hk3 : (k : Int) < (fb.length : Int) := by omega
        have hq : ∀ W, (Op.equalIn 10000 39 (.agg #[.string f.nm, .int .i64 f.d, .string f.vl]) (.agg #[.string g.nm, .int .i64 g.d, .string g.vl])).run Try.prog W = .ok (eqB (f = g)) W := fun W => eqv_fx f g W
        by_cases hfg : f = g
        · have Hall2 : Hid (fa.take (k + 1) = fb.take (k + 1)) := take_eq_succ HF.out (hfg ▸ HG.out) Hall.out
          rw [eqB_true hfg] at hq
          clear hfg
          go_wp2
          go_quiet (fail)
          go_wp2
          go_roundw
          case rel => exact ⟨k + 1, by omega, by go_num, Hall2, below_drewN hbel _, by first | assumption | go_simp, by first | assumption | go_simp, by first | assumption | go_simp, by first | assumption | go_simp⟩
          case measure => simp [intOf]; omega
        · have HR : Hid (eqB (fa = fb ∧ ca = cb) = false) := eqB_false (fun h => ne_of_get HF.out HG.out hfg h.1)
          rw [eqB_false hfg] at hq
          clear hfg
          go_wp2
          go_quiet (fail)
          go_wp2
          go_ret
          exact ⟨ret_bool' HR.out.symm, below_drewN hbel _⟩
      · obtain rfl : k = fa.length := by omega
        have HAFx : Hid (fa = fb) := by have h := Hall.out; rw [List.take_length, List.take_of_length_le (by have := HL1.out; omega)] at h; exact h
        clear Hall hlt hk
        go_wp2
        go_meet
        exact ⟨HAFx, hbel, b0, b1, b2, b3⟩
  case rest =>
    obtain ⟨HAFx, hbel, b0, b1, b2, b3⟩ := hcut
    go_wp2
    go_loopw [6] (fun i wr => ∃ k : Nat, k ≤ ca.length ∧ i = .int .i64 k ∧ Hid (ca.take k = cb.take k) ∧ Below w.heap.size w wr ∧ (wr.cell? ⟨w.heap.size, 0, none⟩ = some (.slice a1 fa.length c1) ∧ wr.cell? ⟨w.heap.size, 1, none⟩ = some (.slice a2 ca.length c2) ∧ wr.cell? ⟨w.heap.size + 1, 0, none⟩ = some (.slice a3 fb.length c3) ∧ wr.cell? ⟨w.heap.size + 1, 1, none⟩ = some (.slice a4 cb.length c4))) (fun i _ => ca.length - (intOf i).toNat)
    case atStart => exact ⟨0, Nat.zero_le _, rfl, Lib.hid rfl, hbel, b0, b1, b2, b3⟩
    case round =>
      clear hbel b0 b1 b2 b3
      obtain ⟨k, hk, rfl, Hall, hbel, b0, b1, b2, b3⟩ := hrel
      by_cases hlt : k < ca.length
      · obtain ⟨f, hf⟩ : ∃ f, ca[k]? = some f := ⟨_, List.getElem?_eq_getElem hlt⟩
        have hlt2 : k < cb.length := by have := HL2.out; omega
        obtain ⟨g, hg⟩ : ∃ g, cb[k]? = some g := ⟨_, List.getElem?_eq_getElem hlt2⟩
        have HRf := ((Rca.out.below hbel).ch hf)
        have HRg := ((Rcb.out.below hbel).ch hg)
        have HF := Lib.hid hf
        have HG := Lib.hid hg
        clear hf hg
        obtain ⟨b, off, rfl, hc1, hc2, hc3, hc4⟩ := HRf
        obtain ⟨b', off', rfl, hd1, hd2, hd3, hd4⟩ := HRg
        have hk1 : (0 : Int) ≤ (k : Int) := by omega
        have hk2 : (k : Int) < (ca.length : Int) := by omega
        have hk3 : (k : Int) < (cb.length : Int) := by omega
        have hq : ∀ W, (Op.equalIn 10000 41 (.agg #[.string f.pt, .string f.nm, .int .i64 f.d, .bool f.first]) (.agg #[.string g.pt, .string g.nm, .int .i64 g.d, .bool g.first])).run Try.prog W = .ok (eqB (f = g)) W := fun W => eqv_ch f g W
        by_cases hfg : f = g
        · have Hall2 : Hid (ca.take (k + 1) = cb.take (k + 1)) := take_eq_succ HF.out (hfg ▸ HG.out) Hall.out
          rw [eqB_true hfg] at hq
          clear hfg
          go_wp2
          go_quiet (fail)
          go_wp2
          go_roundw
          case rel => exact ⟨k + 1, by omega, by go_num, Hall2, below_drewN hbel _, by first | assumption | go_simp, by first | assumption | go_simp, by first | assumption | go_simp, by first | assumption | go_simp⟩
          case measure => simp [intOf]; omega
        · have HR : Hid (eqB (fa = fb ∧ ca = cb) = false) := eqB_false (fun h => ne_of_get HF.out HG.out hfg h.2)
          rw [eqB_false hfg] at hq
          clear hfg
          go_wp2
          go_quiet (fail)
          go_wp2
          go_ret
          exact ⟨ret_bool' HR.out.symm, below_drewN hbel _⟩
      · obtain rfl : k = ca.length := by omega
        have HACh : Hid (ca = cb) := by have h := Hall.out; rw [List.take_length, List.take_of_length_le (by have := HL2.out; omega)] at h; exact h
        clear Hall hlt hk
        go_wp2
        go_ret
        exact ⟨ret_bool' (eqB_true ⟨HAFx.out, HACh.out⟩).symm, hbel⟩

set_option maxHeartbeats 1000000 in
set_option maxRecDepth 100000 in
theorem same_any (fa fb : List Fx) (ca cb : List Ch) (a1 a2 a3 a4 : Option Addr) (c1 c2 c3 c4 : Nat) (w : World) (hn : fa.length ≤ 1100000) (hm : ca.length ≤ 1100000) (hn2 : fb.length ≤ 1100000) (hm2 : cb.length ≤ 1100000)
    (hfa : Rd Fx.cells 3 w a1 fa) (hca : Rd Ch.cells 4 w a2 ca) (hfb : Rd Fx.cells 3 w a3 fb) (hcb : Rd Ch.cells 4 w a4 cb) :
    Calls Try.prog 10 #[.agg #[.slice a1 fa.length c1, .slice a2 ca.length c2], .agg #[.slice a3 fb.length c3, .slice a4 cb.length c4]] w fun e w' => e = .returned (.bool (eqB (fa = fb ∧ ca = cb))) ∧ Below w.heap.size w w' := by
  by_cases hl1 : fa.length = fb.length
  · by_cases hl2 : ca.length = cb.length
    · exact same_loop fa fb ca cb a1 a2 a3 a4 c1 c2 c3 c4 w hn hm hn2 hm2 hfa hca hfb hcb hl1 hl2
    · have HR : Hid (eqB (fa = fb ∧ ca = cb) = false) := eqB_false (fun h => hl2 (by rw [h.2]))
      have t1 : ((fa.length : Int) != (fb.length : Int)) = false := by rw [bne_eq_false_iff_eq]; omega
      have t2 : ((ca.length : Int) != (cb.length : Int)) = true := by rw [bne_iff_ne]; omega
      have t3 : (fa.length == fb.length) = true := by rw [beq_iff_eq]; omega
      have t4 : (ca.length == cb.length) = false := by rw [beq_eq_false_iff_ne]; omega
      clear hl1 hl2 hfa hca hfb hcb
      go_enter Try.func10, Try.ntmps10
      go_wp2
      go_ret
      exact ⟨ret_bool' HR.out.symm, below_a2 _ _ _⟩
  · have HR : Hid (eqB (fa = fb ∧ ca = cb) = false) := eqB_false (fun h => hl1 (by rw [h.1]))
    have t1 : ((fa.length : Int) != (fb.length : Int)) = true := by rw [bne_iff_ne]; omega
    have t3 : (fa.length == fb.length) = false := by rw [beq_eq_false_iff_ne]; omega
    clear hl1 hfa hca hfb hcb
    go_enter Try.func10, Try.ntmps10
    go_wp2
    go_ret
    exact ⟨ret_bool' HR.out.symm, below_a2 _ _ _⟩
end Go.Proofs.Ytofbngpckllkoaa
