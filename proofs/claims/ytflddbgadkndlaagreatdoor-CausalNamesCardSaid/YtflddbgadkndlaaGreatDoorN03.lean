/-
  causal.Known. The keys of the two maps of causal.Only: a need, a choice. The closures of causal.Only: is the key in the map?
-/
import Derived.Test.YtflddbgadkndlaaGreatDoorN02
import Derived.Test.YtflddbgadkndlaaGreatDoorC04
import Derived.Test.YtflddbgadkndlaaGreatDoorC06
import Derived.Test.YtflddbgadkndlaaGreatDoorC13
import Derived.Maps.OwnSet
import Derived.DeepKeys4
namespace Go.Proofs.YtflddbgadkndlaaGreatDoor
open Go.RowKit

def knownErr (fs : List Fx) (cs : List Ch) (day : Int) : Int := if envErr fs cs = 0 then (if isDay day = true then 0 else 2) else envErr fs cs
def knownF (fs : List Fx) (cs : List Ch) (day : Int) : List Fx := if knownErr fs cs day = 0 then fs.filter (fun f => decide (f.d ≤ day)) else []
def knownC (fs : List Fx) (cs : List Ch) (day : Int) : List Ch := if knownErr fs cs day = 0 then cs.filter (fun f => decide (f.d ≤ day)) else []

set_option maxHeartbeats 1000000 in
set_option maxRecDepth 100000 in
theorem known_err (fs : List Fx) (cs : List Ch) (day : Int) (af ac : Option Addr) (cf cc : Nat) (w : World) (hn : fs.length ≤ 1100000) (hm : cs.length ≤ 1100000)
    (hf : Rd Fx.cells 3 w af fs) (hc : Rd Ch.cells 4 w ac cs) (hfs : ∀ f ∈ fs, f.small) (hcs : ∀ c ∈ cs, c.small) (he : envErr fs cs ≠ 0) :
    Calls Tryz.prog 26 #[.agg #[.slice af fs.length cf, .slice ac cs.length cc], .int .i64 day] w (EnvPost w (knownErr fs cs day) (knownF fs cs day) (knownC fs cs day)) := by
  have HE := Lib.hid (fun W (h : Below w.heap.size w W) => checkEnv_any fs cs af ac cf cc W hn hm (hf.below h) (hc.below h) hfs hcs)
  have hb0 := fun o => below_a1 w o
  have R1 : knownErr fs cs day = envErr fs cs := by rw [knownErr, if_neg he]
  rw [knownF, knownC, R1, if_neg he, if_neg he]
  generalize envErr fs cs = E at HE he ⊢
  have t1 : (E != 0) = true := by rw [bne_iff_ne]; exact he
  have t2 : (E == 0) = false := by rw [beq_eq_false_iff_ne]; exact he
  clear hf hc hfs hcs he R1
  go_enter Tryz.func26, Tryz.ntmps26
  have bx := fun (o1 o2 : Obj) => Boxed2.new ((w.alloc o1).alloc o2) (.slice none 0 0) (.slice none 0 0) 68
  have HBX := Lib.hid bx
  clear bx
  go_wp2_with fail
  refine (HE.out _ (below_a3 _ _ _ _)).mono ?_
  rintro e w1 ⟨rfl, hb1⟩
  have hs1 := hb1.size
  have b2 := (HBX.out _ _).below hb1
  simp at b2
  have r0 := b2.cell0
  have r1 := b2.cell1
  have z0 := b2.frozen 0
  have z1 := b2.frozen 1
  have hw1 : Below w.heap.size w w1 := (below_a3 _ _ _ _).trans (hb1.mono (by simp; omega))
  have B2 := Lib.hid b2
  clear hb1 HBX b2
  go_wp2
  have HS := Lib.hid (B2.out.store (.slice none 0 0) (.slice none 0 0))
  have HW := Lib.hid (below_store hw1 (B := w.heap.size + 1 + 1) (by omega) (.slice none 0 0) (.slice none 0 0))
  obtain ⟨W3, hW3⟩ : ∃ W3, W3 = (w1.setCell ⟨w.heap.size + 1 + 1, 0, none⟩ (.slice none 0 0)).setCell ⟨w.heap.size + 1 + 1, 1, none⟩ (.slice none 0 0) := ⟨_, rfl⟩
  rw [← hW3]
  rw [← hW3] at HS HW
  refine bodyPost_ret (v := .tuple #[.agg #[.slice none 0 0, .slice none 0 0], .int .i64 E]) (by simp [results, Tryz.results26, go_sem, HS.out.cell0, HS.out.cell1]) rfl (envPost_none HW.out)

set_option maxHeartbeats 1000000 in
set_option maxRecDepth 100000 in
theorem known_day (fs : List Fx) (cs : List Ch) (day : Int) (af ac : Option Addr) (cf cc : Nat) (w : World) (hn : fs.length ≤ 1100000) (hm : cs.length ≤ 1100000)
    (hf : Rd Fx.cells 3 w af fs) (hc : Rd Ch.cells 4 w ac cs) (hfs : ∀ f ∈ fs, f.small) (hcs : ∀ c ∈ cs, c.small) (he : envErr fs cs = 0) (hd : isDay day = false) :
    Calls Tryz.prog 26 #[.agg #[.slice af fs.length cf, .slice ac cs.length cc], .int .i64 day] w (EnvPost w (knownErr fs cs day) (knownF fs cs day) (knownC fs cs day)) := by
  have HE := Lib.hid (fun W (h : Below w.heap.size w W) => checkEnv_any fs cs af ac cf cc W hn hm (hf.below h) (hc.below h) hfs hcs)
  have hb0 := fun o => below_a1 w o
  have R1 : knownErr fs cs day = 2 := by rw [knownErr, if_pos he, hd]; rfl
  rw [knownF, knownC, R1, if_neg (by decide), if_neg (by decide)]
  rw [he] at HE
  have hd' : day < 0 ∨ 99999 < day := by
    simp only [isDay, Bool.and_eq_false_iff, decide_eq_false_iff_not] at hd
    omega
  have HDd := Lib.hid hd'
  clear hf hc hfs hcs he R1 hd hd'
  go_enter Tryz.func26, Tryz.ntmps26
  have bx := fun (o1 o2 : Obj) => Boxed2.new ((w.alloc o1).alloc o2) (.slice none 0 0) (.slice none 0 0) 68
  have HBX := Lib.hid bx
  clear bx
  go_wp2_with fail
  refine (HE.out _ (below_a3 _ _ _ _)).mono ?_
  rintro e w1 ⟨rfl, hb1⟩
  have hs1 := hb1.size
  have b2 := (HBX.out _ _).below hb1
  simp at b2
  have hd0 : w1.cell? ⟨w.heap.size + 1, 0, none⟩ = some (.int .i64 day) := by rw [hb1.cell (by simp)]; go_simp
  have r0 := b2.cell0
  have r1 := b2.cell1
  have z0 := b2.frozen 0
  have z1 := b2.frozen 1
  have hw1 : Below w.heap.size w w1 := (below_a3 _ _ _ _).trans (hb1.mono (by simp; omega))
  have B2 := Lib.hid b2
  clear hb1 HBX b2
  have HS := Lib.hid (B2.out.store (.slice none 0 0) (.slice none 0 0))
  have HW := Lib.hid (below_store hw1 (B := w.heap.size + 1 + 1) (by omega) (.slice none 0 0) (.slice none 0 0))
  rcases HDd.out with hd | hd
  · have t1 : decide (day < 0) = true := by rw [decide_eq_true_eq]; omega
    clear hd
    go_wp2
    obtain ⟨W3, hW3⟩ : ∃ W3, W3 = (w1.setCell ⟨w.heap.size + 1 + 1, 0, none⟩ (.slice none 0 0)).setCell ⟨w.heap.size + 1 + 1, 1, none⟩ (.slice none 0 0) := ⟨_, rfl⟩
    rw [← hW3]
    rw [← hW3] at HS HW
    refine bodyPost_ret (v := .tuple #[.agg #[.slice none 0 0, .slice none 0 0], .int .i64 2]) (by simp [results, Tryz.results26, go_sem, HS.out.cell0, HS.out.cell1]) rfl (envPost_none HW.out)
  · have t1 : decide (day < 0) = false := by rw [decide_eq_false_iff_not]; omega
    have t2 : decide ((99999 : Int) < day) = true := by rw [decide_eq_true_eq]; omega
    clear hd
    go_wp2
    obtain ⟨W3, hW3⟩ : ∃ W3, W3 = (w1.setCell ⟨w.heap.size + 1 + 1, 0, none⟩ (.slice none 0 0)).setCell ⟨w.heap.size + 1 + 1, 1, none⟩ (.slice none 0 0) := ⟨_, rfl⟩
    rw [← hW3]
    rw [← hW3] at HS HW
    refine bodyPost_ret (v := .tuple #[.agg #[.slice none 0 0, .slice none 0 0], .int .i64 2]) (by simp [results, Tryz.results26, go_sem, HS.out.cell0, HS.out.cell1]) rfl (envPost_none HW.out)

theorem known_fin {w W : World} {N B2 B3 : Nat} {gs : List Fx} {ds : List Ch} {ad2 ad3 : Option Addr} {cap2 cap3 : Nat} (hW : Below w.heap.size w W)
    (o2 : W.ownsRow B2 65 3 (.slice ad2 gs.length cap2) gs.length (gs.flatMap Fx.cells)) (o3 : W.ownsRow B3 60 4 (.slice ad3 ds.length cap3) ds.length (ds.flatMap Ch.cells))
    (h2 : N < B2) (h3 : N < B3) (hN : w.heap.size ≤ N) :
    EnvPost w 0 gs ds (.returned (.tuple #[.agg #[.slice ad2 gs.length cap2, .slice ad3 ds.length cap3], .int .i64 0])) ((W.setCell ⟨N, 0, none⟩ (.slice ad2 gs.length cap2)).setCell ⟨N, 1, none⟩ (.slice ad3 ds.length cap3)) :=
  ⟨ad2, cap2, ad3, cap3, rfl, ownsRow_base' (ownsRow_setCell_below (ownsRow_setCell_below o2 (a := ⟨N, 0, none⟩) h2 _) (a := ⟨N, 1, none⟩) h2 _) (by omega),
    ownsRow_base' (ownsRow_setCell_below (ownsRow_setCell_below o3 (a := ⟨N, 0, none⟩) h3 _) (a := ⟨N, 1, none⟩) h3 _) (by omega), below_store hW hN _ _⟩

set_option maxHeartbeats 2000000 in
set_option maxRecDepth 100000 in
theorem known_ok (fs : List Fx) (cs : List Ch) (day : Int) (af ac : Option Addr) (cf cc : Nat) (w : World) (hn : fs.length ≤ 1100000) (hm : cs.length ≤ 1100000)
    (hf : Rd Fx.cells 3 w af fs) (hc : Rd Ch.cells 4 w ac cs) (hfs : ∀ f ∈ fs, f.small) (hcs : ∀ c ∈ cs, c.small) (he : envErr fs cs = 0) (hd : isDay day = true) :
    Calls Tryz.prog 26 #[.agg #[.slice af fs.length cf, .slice ac cs.length cc], .int .i64 day] w (EnvPost w (knownErr fs cs day) (knownF fs cs day) (knownC fs cs day)) := by
  have HE := Lib.hid (fun W (h : Below w.heap.size w W) => checkEnv_any fs cs af ac cf cc W hn hm (hf.below h) (hc.below h) hfs hcs)
  have hb0 := fun o => below_a1 w o
  have R1 : knownErr fs cs day = 0 := by rw [knownErr, if_pos he, hd]; rfl
  rw [knownF, knownC, R1, if_pos rfl, if_pos rfl]
  obtain ⟨gs, hgs⟩ : ∃ gs, gs = fs.filter (fun f => decide (f.d ≤ day)) := ⟨_, rfl⟩
  obtain ⟨ds, hds⟩ : ∃ ds, ds = cs.filter (fun f => decide (f.d ≤ day)) := ⟨_, rfl⟩
  rw [← hgs, ← hds]
  have HG := Lib.hid hgs
  have HDS := Lib.hid hds
  clear hgs hds
  rw [he] at HE
  have hd' : 0 ≤ day ∧ day ≤ 99999 := by
    simp only [isDay, Bool.and_eq_true, decide_eq_true_eq] at hd
    exact hd
  have HFD := Lib.hid hf
  have HCD := Lib.hid hc
  have t1 : decide (day < 0) = false := by rw [decide_eq_false_iff_not]; omega
  have t2 : decide ((99999 : Int) < day) = false := by rw [decide_eq_false_iff_not]; omega
  clear hf hc hfs hcs he R1 hd hd'
  go_enter Tryz.func26, Tryz.ntmps26
  have bx := fun (o1 o2 : Obj) => Boxed2.new ((w.alloc o1).alloc o2) (.slice none 0 0) (.slice none 0 0) 68
  have HBX := Lib.hid bx
  clear bx
  go_wp2_with fail
  refine (HE.out _ (below_a3 _ _ _ _)).mono ?_
  rintro e w1 ⟨rfl, hb1⟩
  have hs1 := hb1.size
  simp at hs1
  have b2 := (HBX.out _ _).below hb1
  simp at b2
  have hd0 : w1.cell? ⟨w.heap.size + 1, 0, none⟩ = some (.int .i64 day) := by rw [hb1.cell (by simp)]; go_simp
  have k0 : w1.cell? ⟨w.heap.size, 0, none⟩ = some (.slice af fs.length cf) := by rw [hb1.cell (by simp; omega)]; go_simp
  have k1 : w1.cell? ⟨w.heap.size, 1, none⟩ = some (.slice ac cs.length cc) := by rw [hb1.cell (by simp; omega)]; go_simp
  have hw1 : Below w.heap.size w w1 := (below_a3 _ _ _ _).trans (hb1.mono (by simp; omega))
  have B2 := Lib.hid b2
  have HSt : ∀ W w2, (Ext w1 W ∧ W.cell? ⟨w.heap.size, 0, none⟩ = some (.slice af fs.length cf) ∧ W.cell? ⟨w.heap.size, 1, none⟩ = some (.slice ac cs.length cc) ∧ W.cell? ⟨w.heap.size + 1 + 1, 0, none⟩ = some (.slice none 0 0) ∧ W.cell? ⟨w.heap.size + 1 + 1, 1, none⟩ = some (.slice none 0 0) ∧ W.frozen? ⟨w.heap.size + 1 + 1, 0, none⟩ = false ∧ W.frozen? ⟨w.heap.size + 1 + 1, 1, none⟩ = false) → Below W.heap.size W w2 → (Ext w1 w2 ∧ w2.cell? ⟨w.heap.size, 0, none⟩ = some (.slice af fs.length cf) ∧ w2.cell? ⟨w.heap.size, 1, none⟩ = some (.slice ac cs.length cc) ∧ w2.cell? ⟨w.heap.size + 1 + 1, 0, none⟩ = some (.slice none 0 0) ∧ w2.cell? ⟨w.heap.size + 1 + 1, 1, none⟩ = some (.slice none 0 0) ∧ w2.frozen? ⟨w.heap.size + 1 + 1, 0, none⟩ = false ∧ w2.frozen? ⟨w.heap.size + 1 + 1, 1, none⟩ = false) := by
    intro W w2 ⟨h1, h2, h3, h4, h5, h6, h7⟩ hb
    have hz : w.heap.size + 1 + 1 < W.heap.size := World.block_lt_of_cell? W _ h4
    exact ⟨h1.below.trans (hb.mono (Below.size h1)), Ext.cell hb h2, Ext.cell hb h3, Ext.cell hb h4, Ext.cell hb h5, by rw [hb.frozen hz]; exact h6, by rw [hb.frozen hz]; exact h7⟩
  have HK1 : Hid (∀ W, (Ext w1 W ∧ W.cell? ⟨w.heap.size, 0, none⟩ = some (.slice af fs.length cf) ∧ W.cell? ⟨w.heap.size, 1, none⟩ = some (.slice ac cs.length cc) ∧ W.cell? ⟨w.heap.size + 1 + 1, 0, none⟩ = some (.slice none 0 0) ∧ W.cell? ⟨w.heap.size + 1 + 1, 1, none⟩ = some (.slice none 0 0) ∧ W.frozen? ⟨w.heap.size + 1 + 1, 0, none⟩ = false ∧ W.frozen? ⟨w.heap.size + 1 + 1, 1, none⟩ = false) → Calls Tryz.prog 52 #[.slice af fs.length cf, .func (.func 53) #[] #[.pointer (some ⟨w.heap.size + 1, 0, none⟩)]] W fun e w' => ∃ ad cap, e = .returned (.slice ad gs.length cap) ∧ w'.ownsRow W.heap.size 65 3 (.slice ad gs.length cap) gs.length (gs.flatMap Fx.cells) ∧ Below W.heap.size W w' ∧ (Ext w1 w' ∧ w'.cell? ⟨w.heap.size, 0, none⟩ = some (.slice af fs.length cf) ∧ w'.cell? ⟨w.heap.size, 1, none⟩ = some (.slice ac cs.length cc) ∧ w'.cell? ⟨w.heap.size + 1 + 1, 0, none⟩ = some (.slice none 0 0) ∧ w'.cell? ⟨w.heap.size + 1 + 1, 1, none⟩ = some (.slice none 0 0) ∧ w'.frozen? ⟨w.heap.size + 1 + 1, 0, none⟩ = false ∧ w'.frozen? ⟨w.heap.size + 1 + 1, 1, none⟩ = false)) := by
    intro W hS
    rw [HG.out]
    refine (keepF1_any (fun f => decide (f.d ≤ day)) fs af cf (w.heap.size + 1) W hn ((HFD.out.below hw1).below hS.1) fun f _ W' hW' => known1_any f day _ W' (Ext.cell hW' (hS.1.cell hd0))).mono ?_
    rintro e w2 ⟨ad, cap, rfl, own, hb⟩
    have q := HSt W w2 hS hb
    exact ⟨ad, cap, rfl, own, hb, q⟩
  have HK2 : Hid (∀ W, (Ext w1 W ∧ W.cell? ⟨w.heap.size, 0, none⟩ = some (.slice af fs.length cf) ∧ W.cell? ⟨w.heap.size, 1, none⟩ = some (.slice ac cs.length cc) ∧ W.cell? ⟨w.heap.size + 1 + 1, 0, none⟩ = some (.slice none 0 0) ∧ W.cell? ⟨w.heap.size + 1 + 1, 1, none⟩ = some (.slice none 0 0) ∧ W.frozen? ⟨w.heap.size + 1 + 1, 0, none⟩ = false ∧ W.frozen? ⟨w.heap.size + 1 + 1, 1, none⟩ = false) → Calls Tryz.prog 54 #[.slice ac cs.length cc, .func (.func 55) #[] #[.pointer (some ⟨w.heap.size + 1, 0, none⟩)]] W fun e w' => ∃ ad cap, e = .returned (.slice ad ds.length cap) ∧ w'.ownsRow W.heap.size 60 4 (.slice ad ds.length cap) ds.length (ds.flatMap Ch.cells) ∧ Below W.heap.size W w' ∧ (Ext w1 w' ∧ w'.cell? ⟨w.heap.size, 0, none⟩ = some (.slice af fs.length cf) ∧ w'.cell? ⟨w.heap.size, 1, none⟩ = some (.slice ac cs.length cc) ∧ w'.cell? ⟨w.heap.size + 1 + 1, 0, none⟩ = some (.slice none 0 0) ∧ w'.cell? ⟨w.heap.size + 1 + 1, 1, none⟩ = some (.slice none 0 0) ∧ w'.frozen? ⟨w.heap.size + 1 + 1, 0, none⟩ = false ∧ w'.frozen? ⟨w.heap.size + 1 + 1, 1, none⟩ = false)) := by
    intro W hS
    rw [HDS.out]
    refine (keepC1_any (fun f => decide (f.d ≤ day)) cs ac cc (w.heap.size + 1) W hm ((HCD.out.below hw1).below hS.1) fun f _ W' hW' => known2_any f day _ W' (Ext.cell hW' (hS.1.cell hd0))).mono ?_
    rintro e w2 ⟨ad, cap, rfl, own, hb⟩
    have q := HSt W w2 hS hb
    exact ⟨ad, cap, rfl, own, hb, q⟩
  have HSt0 : Hid (Ext w1 w1.drew ∧ w1.drew.cell? ⟨w.heap.size, 0, none⟩ = some (.slice af fs.length cf) ∧ w1.drew.cell? ⟨w.heap.size, 1, none⟩ = some (.slice ac cs.length cc) ∧ w1.drew.cell? ⟨w.heap.size + 1 + 1, 0, none⟩ = some (.slice none 0 0) ∧ w1.drew.cell? ⟨w.heap.size + 1 + 1, 1, none⟩ = some (.slice none 0 0) ∧ w1.drew.frozen? ⟨w.heap.size + 1 + 1, 0, none⟩ = false ∧ w1.drew.frozen? ⟨w.heap.size + 1 + 1, 1, none⟩ = false) := ⟨Below.drew (Below.refl _ _), k0, k1, B2.out.cell0, B2.out.cell1, B2.out.frozen 0, B2.out.frozen 1⟩
  clear HSt
  clear hb1 HBX b2
  have r0 := B2.out.cell0
  have r1 := B2.out.cell1
  have z0 := B2.out.frozen 0
  have z1 := B2.out.frozen 1
  go_wp2
  have HS0 := HSt0.out
  have hN0 : w.heap.size + 1 + 1 < w1.drew.heap.size := by show _ < w1.heap.size; omega
  go_region_held3 (fun w' => w'.cell? ⟨w.heap.size, 0, none⟩ = some (.slice af fs.length cf) ∧ w'.cell? ⟨w.heap.size, 1, none⟩ = some (.slice ac cs.length cc)) (first | assumption | exact ⟨by assumption, by assumption⟩ | (refine ⟨?_, ?_⟩ <;> (rw [World.cell?_setCell_far _ _ _ _ (by show w.heap.size + 1 + 1 ≠ w.heap.size; omega), World.cell?_setCell_far _ _ _ _ (by show w.heap.size + 1 + 1 ≠ w.heap.size; omega)]; assumption)) | go_keep)
    (first | (go_at_call 52; refine (HK1.out _ ?_).mono ?_; (first | exact hS3 | exact HS0); rintro e w2 ⟨ad2, cap2, rfl, own2, hb2, hS2⟩; obtain ⟨p1, p2, p3, p4, p5, p6, p7⟩ := id hS2) | (go_at_call 54; refine (HK2.out _ ?_).mono ?_; (first | exact hS2 | exact HS0); rintro e w3 ⟨ad3, cap3, rfl, own3, hb3, hS3⟩; obtain ⟨p1, p2, p3, p4, p5, p6, p7⟩ := id hS3))
  all_goals go_wp2
  all_goals first
    | (have HS := Lib.hid ((B2.out.below hS3.1).store (.slice ad2 gs.length cap2) (.slice ad3 ds.length cap3))
       have HW := Lib.hid (known_fin (gs := gs) (ds := ds) (N := w.heap.size + 1 + 1) (hw1.trans (hS3.1.below.mono (by omega))) (ownsRow_below' own2 hb3) own3 hN0 (Nat.lt_of_lt_of_le hN0 hb2.size) (by omega))
       obtain ⟨W3, hW3⟩ : ∃ W3, W3 = (w3.setCell ⟨w.heap.size + 1 + 1, 0, none⟩ (.slice ad2 gs.length cap2)).setCell ⟨w.heap.size + 1 + 1, 1, none⟩ (.slice ad3 ds.length cap3) := ⟨_, rfl⟩
       rw [← hW3]
       rw [← hW3] at HS HW
       refine bodyPost_ret (v := .tuple #[.agg #[.slice ad2 gs.length cap2, .slice ad3 ds.length cap3], .int .i64 0]) (by simp [results, Tryz.results26, go_sem, HS.out.cell0, HS.out.cell1]) rfl HW.out)
    | (have HS := Lib.hid ((B2.out.below hS2.1).store (.slice ad2 gs.length cap2) (.slice ad3 ds.length cap3))
       have HW := Lib.hid (known_fin (gs := gs) (ds := ds) (N := w.heap.size + 1 + 1) (hw1.trans (hS2.1.below.mono (by omega))) own2 (ownsRow_below' own3 hb2) (Nat.lt_of_lt_of_le hN0 hb3.size) hN0 (by omega))
       obtain ⟨W3, hW3⟩ : ∃ W3, W3 = (w2.setCell ⟨w.heap.size + 1 + 1, 0, none⟩ (.slice ad2 gs.length cap2)).setCell ⟨w.heap.size + 1 + 1, 1, none⟩ (.slice ad3 ds.length cap3) := ⟨_, rfl⟩
       rw [← hW3]
       rw [← hW3] at HS HW
       refine bodyPost_ret (v := .tuple #[.agg #[.slice ad2 gs.length cap2, .slice ad3 ds.length cap3], .int .i64 0]) (by simp [results, Tryz.results26, go_sem, HS.out.cell0, HS.out.cell1]) rfl HW.out)

theorem known_any (fs : List Fx) (cs : List Ch) (day : Int) (af ac : Option Addr) (cf cc : Nat) (w : World) (hn : fs.length ≤ 1100000) (hm : cs.length ≤ 1100000)
    (hf : Rd Fx.cells 3 w af fs) (hc : Rd Ch.cells 4 w ac cs) (hfs : ∀ f ∈ fs, f.small) (hcs : ∀ c ∈ cs, c.small) :
    Calls Tryz.prog 26 #[.agg #[.slice af fs.length cf, .slice ac cs.length cc], .int .i64 day] w (EnvPost w (knownErr fs cs day) (knownF fs cs day) (knownC fs cs day)) := by
  by_cases he : envErr fs cs = 0
  · cases hd : isDay day with
    | true => exact known_ok fs cs day af ac cf cc w hn hm hf hc hfs hcs he hd
    | false => exact known_day fs cs day af ac cf cc w hn hm hf hc hfs hcs he hd
  · exact known_err fs cs day af ac cf cc w hn hm hf hc hfs hcs he
end Go.Proofs.YtflddbgadkndlaaGreatDoor

namespace Go.Proofs.YtflddbgadkndlaaGreatDoor
open Go.RowKit

theorem wide_need : (match Tryz.prog.underlying 58 with | some (.array _ _) | some (.struct _) => true | _ => false) = true := by kernel_rfl
theorem wide_choice : (match Tryz.prog.underlying 60 with | some (.array _ _) | some (.struct _) => true | _ => false) = true := by kernel_rfl
theorem laidOut : laidOutB Tryz.prog = true := by kernel_rfl
theorem row_need : (58 : TypeId) < Tryz.prog.types.size := of_decide_eq_true (by kernel_rfl)
theorem row_choice : (60 : TypeId) < Tryz.prog.types.size := of_decide_eq_true (by kernel_rfl)
set_option maxRecDepth 100000 in
theorem law_need : Maps.Keyed Tryz.prog 58 := .of_law (deep_law_laid laidOut (m := 2) (by omega) row_need (by kernel_rfl) wide_need)
set_option maxRecDepth 100000 in
theorem law_choice : Maps.Keyed Tryz.prog 60 := .of_law (deep_law_laid laidOut (m := 2) (by omega) row_choice (by kernel_rfl) wide_choice)
theorem keyType_need : Tryz.prog.keyType 58 = true := by kernel_rfl
theorem keyType_choice : Tryz.prog.keyType 60 = true := by kernel_rfl

theorem cells_need : Tryz.prog.cellsOf 58 = 2 := by kernel_rfl
theorem cells_choice : Tryz.prog.cellsOf 60 = 4 := by kernel_rfl
theorem pos_succ {n m : Nat} (h : n < m) : ∃ k, m = k + 1 := ⟨m - 1, by omega⟩
theorem types_succ : ∃ m, Tryz.prog.types.size = m + 1 := pos_succ row_need

theorem lits_string (m : Nat) {n : ByteArray} (hn : n.size ≤ maxLen) : Tryz.prog.keyLits (m + 1) 9 [.string n] = some [.string n.data.toList] := by
  rw [Program.keyLits.eq_def]; simp [Tryz.underlying9, hn]
theorem lits_int (m : Nat) {d : Int} (hd : (Lit.int .i64 d).wf = true) : Tryz.prog.keyLits (m + 1) 3 [.int .i64 d] = some [.int .i64 d] := by
  rw [Program.keyLits.eq_def]; simp [Tryz.underlying3, hd]
theorem lits_bool (m : Nat) (b : Bool) : Tryz.prog.keyLits (m + 1) 4 [.bool b] = some [.bool b] := by
  rw [Program.keyLits.eq_def]; simp [Tryz.underlying4]
theorem key_need (n : ByteArray) (d : Int) (hn : n.size ≤ maxLen) (hd : (Lit.int .i64 d).wf = true) : ∃ kl, keyOf Tryz.prog 58 (.agg #[.string n, .int .i64 d]) = some kl := by
  obtain ⟨m, hm⟩ := types_succ
  have hf : Value.formed Tryz.prog 58 (.agg #[.string n, .int .i64 d]) = true := by simp [Value.formed, Tryz.underlying58, cells_need]
  unfold keyOf
  rw [Tryz.underlying58]
  simp only [keyType_need, hf, Bool.and_self, if_true, hm]
  have hl : Tryz.prog.keyLits (m + 1 + 1) 58 [.string n, .int .i64 d] = some [.string n.data.toList, .int .i64 d] := by
    rw [Program.keyLits.eq_def]
    simp [Tryz.underlying58, cells_need, cells_string, cells_int, lits_string m hn, lits_int m hd]
  exact ⟨_, by rw [show (Value.agg #[Value.string n, .int .i64 d]).cells.toList = [.string n, .int .i64 d] from rfl, hl]; rfl⟩
theorem key_choice (p n : ByteArray) (d : Int) (f : Bool) (hp : p.size ≤ maxLen) (hn : n.size ≤ maxLen) (hd : (Lit.int .i64 d).wf = true) : ∃ kl, keyOf Tryz.prog 60 (.agg #[.string p, .string n, .int .i64 d, .bool f]) = some kl := by
  obtain ⟨m, hm⟩ := types_succ
  have hf : Value.formed Tryz.prog 60 (.agg #[.string p, .string n, .int .i64 d, .bool f]) = true := by simp [Value.formed, Tryz.underlying60, cells_choice]
  unfold keyOf
  rw [Tryz.underlying60]
  simp only [keyType_choice, hf, Bool.and_self, if_true, hm]
  have hl : Tryz.prog.keyLits (m + 1 + 1) 60 [.string p, .string n, .int .i64 d, .bool f] = some [.string p.data.toList, .string n.data.toList, .int .i64 d, .bool f] := by
    rw [Program.keyLits.eq_def]
    simp [Tryz.underlying60, cells_choice, cells_string, cells_int, cells_bool, lits_string m hn, lits_string m hp, lits_int m hd, lits_bool m f]
  exact ⟨_, by rw [show (Value.agg #[Value.string p, .string n, .int .i64 d, .bool f]).cells.toList = [.string p, .string n, .int .i64 d, .bool f] from rfl, hl]; rfl⟩
end Go.Proofs.YtflddbgadkndlaaGreatDoor

namespace Go.Proofs.YtflddbgadkndlaaGreatDoor
open Go.RowKit

theorem ul_needmap : Tryz.prog.underlying 112 = some (.map 58 114) := by kernel_rfl
theorem ul_choicemap : Tryz.prog.underlying 113 = some (.map 60 114) := by kernel_rfl
theorem zero_unit (w : World) : (zeroValue 114).run Tryz.prog w = .ok (.agg #[]) w := by kernel_rfl
theorem ownsMap_kept {P : Program} {k : TypeId} {R : Value → Option (DataW Unit × List MemPlace)} {w w' : World} {b n : Nat} {D : DataW Unit} (h : w.ownsMap P k R b n D) (e : w'.heap[b]? = w.heap[b]?) : w'.ownsMap P k R b n D := by
  obtain ⟨es, clock, hb, r⟩ := h
  exact ⟨es, clock, by rw [e]; exact hb, r⟩
theorem ownsMap_lt {P : Program} {k : TypeId} {R : Value → Option (DataW Unit × List MemPlace)} {w : World} {b n : Nat} {D : DataW Unit} (h : w.ownsMap P k R b n D) : b < w.heap.size := by
  obtain ⟨es, clock, hb, r⟩ := h
  exact (Array.getElem?_eq_some_iff.1 hb).1

set_option maxHeartbeats 1000000 in
set_option maxRecDepth 100000 in
theorem only1_any (f : Fx) (B bm n : Nat) (D : DataW Unit) (kl : Lit) (w : World) (hc : w.cell? ⟨B, 0, none⟩ = some (.map (some bm))) (hm : w.ownsMap Tryz.prog 58 (unitElem (H := Unit)) bm n D)
    (hk : keyOf Tryz.prog 58 (.agg #[.string f.nm, .int .i64 f.d]) = some kl) :
    Calls Tryz.prog 56 #[f.val, .pointer (some ⟨B, 0, none⟩)] w fun e w' => e = .returned (.bool (Maps.has D kl)) ∧ Below w.heap.size w w' := by
  have hB : B < w.heap.size := World.block_lt_of_cell? w _ hc
  unfold Fx.val fxV
  have HM := Lib.hid hm
  have HK := Lib.hid hk
  clear hm hk
  go_enter Tryz.func56, Tryz.ntmps56
  go_wp2_with (at_lookup; refine wpList_lookup_own_unit _ rfl _ _ 112 rfl 58 114 law_need ul_needmap (zero_unit _) bm n D rfl (HM.out.alloc _) _ _ rfl HK.out ?_)
  go_ret
  exact ⟨rfl, below_a2 _ _ _⟩

set_option maxHeartbeats 1000000 in
set_option maxRecDepth 100000 in
theorem only2_any (f : Ch) (B bm n : Nat) (D : DataW Unit) (kl : Lit) (w : World) (hc : w.cell? ⟨B, 0, none⟩ = some (.map (some bm))) (hm : w.ownsMap Tryz.prog 60 (unitElem (H := Unit)) bm n D)
    (hk : keyOf Tryz.prog 60 (.agg #[.string f.pt, .string f.nm, .int .i64 f.d, .bool false]) = some kl) :
    Calls Tryz.prog 57 #[f.val, .pointer (some ⟨B, 0, none⟩)] w fun e w' => e = .returned (.bool (Maps.has D kl)) ∧ Below w.heap.size w w' := by
  have hB : B < w.heap.size := World.block_lt_of_cell? w _ hc
  unfold Ch.val chV
  have HM := Lib.hid hm
  have HK := Lib.hid hk
  clear hm hk
  go_enter Tryz.func57, Tryz.ntmps57
  go_wp2_with (at_lookup; refine wpList_lookup_own_unit _ rfl _ _ 113 rfl 60 114 law_choice ul_choicemap (zero_unit _) bm n D rfl (HM.out.alloc _) _ _ rfl HK.out ?_)
  go_ret
  exact ⟨rfl, below_a2 _ _ _⟩
end Go.Proofs.YtflddbgadkndlaaGreatDoor
