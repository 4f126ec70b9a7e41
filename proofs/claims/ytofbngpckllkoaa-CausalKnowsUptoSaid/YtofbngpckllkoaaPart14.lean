/-
  novationref15.Only.  Printed by tools/genrefonly.py. append onto an empty slice, from a slice that reads as a list, nil or not. novationref08.TwinEnv.  Printed by tools/gentwin.py. novationref08.GreatEnv.  Printed by tools/gengreat.py.
-/
import Derived.Test.YtofbngpckllkoaaPart13
import Derived.Test.YtofbngpckllkoaaPart09
import Derived.Test.YtofbngpckllkoaaPart01
import Derived.Laws.OwnMore
import Derived.Deep.RegionLaw
import Derived.Test.YtofbngpckllkoaaPart08
import Derived.Test.YtofbngpckllkoaaPart06
import Derived.Test.YtofbngpckllkoaaPart07
import Derived.Deep.CutBlock
namespace Go.Proofs.Ytofbngpckllkoaa
open Go.RowKit

theorem grown_drewn {w w2 : World} {o : Obj} {row : Option Nat} (h : (w.alloc o).grownBy w2 row) : ((w.alloc o).drew).grownBy w2 row := ⟨h.os, h.tape, h.output, h.size, h.block⟩
set_option maxHeartbeats 4000000 in
set_option maxRecDepth 100000 in
theorem ronly_ok (fs : List Fx) (cs : List Ch) (ns : List Nd) (ks : List Ch) (af ac an ak : Option Addr) (cf cc cn ck : Nat) (w : World) (hn : fs.length ≤ 1100000) (hm : cs.length ≤ 1100000) (hnn : ns.length ≤ 1100000) (hkk : ks.length ≤ 1100000)
    (hf : Rd Fx.cells 3 w af fs) (hc : Rd Ch.cells 4 w ac cs) (hrn : Rd Nd.cells 2 w an ns) (hrk : Rd Ch.cells 4 w ak ks) (hfs : ∀ f ∈ fs, f.small) (hcs : ∀ c ∈ cs, c.small) (he : envErr fs cs = 0) :
    Calls Try.prog 9 #[.agg #[.slice af fs.length cf, .slice ac cs.length cc], .slice an ns.length cn, .slice ak ks.length ck] w (EnvPost w (envErr fs cs) (onlyF fs cs ns) (onlyC fs cs ks)) := by
  have HE := Lib.hid (fun W (h : Below w.heap.size w W) => refEnv_any fs cs af ac cf cc W hn hm (hf.below h) (hc.below h) hfs hcs)
  rw [onlyF, onlyC, he, if_pos rfl, if_pos rfl]
  rw [he] at HE
  obtain ⟨gs, hgs⟩ : ∃ gs, gs = fs.filter (needed ns) := ⟨_, rfl⟩
  obtain ⟨ds, hds⟩ : ∃ ds, ds = cs.filter (isOpen ks) := ⟨_, rfl⟩
  rw [← hgs, ← hds]
  have HG := Lib.hid hgs
  have HD := Lib.hid hds
  have Rfs := Lib.hid hf
  have Rcs := Lib.hid hc
  have Rns := Lib.hid hrn
  have Rks := Lib.hid hrk
  obtain ⟨i0, ji0, jz0, js0, jb0⟩ := info_parts info_fixing
  obtain ⟨i1, ji1, jz1, js1, jb1⟩ := info_parts info_choice
  clear hgs hds hf hc hfs hcs he hrn hrk
  go_enter Try.func9, Try.ntmps9
  have bx := fun (o1 o2 : Obj) => Boxed2.new ((w.alloc o1).alloc o2) (.slice none 0 0) (.slice none 0 0) 25
  have bx1 := fun (o1 o2 : Obj) => (Boxed2.new (w.alloc o1) (.slice none 0 0) (.slice none 0 0) 25).alloc o2
  have bx0 := fun (o1 o2 : Obj) => ((Boxed2.new w (.slice af fs.length cf) (.slice ac cs.length cc) 25).alloc o1).alloc o2
  have HBX := Lib.hid (And.intro bx (And.intro bx1 bx0))
  clear bx bx1 bx0
  go_wp2_with fail
  refine (HE.out _ (below_a3 _ _ _ _)).mono ?_
  rintro e w1 ⟨rfl, hb1⟩
  have hs1 := hb1.size
  simp at hs1
  have bO := (HBX.out.1 _ _).below hb1
  have bR := (HBX.out.2.1 _ _).below hb1
  have bE := (HBX.out.2.2 _ _).below hb1
  simp at bO bR
  have hbel : Below w.heap.size w w1 := (below_a3 _ _ _ _).trans (hb1.mono (by simp; omega))
  clear hb1 HBX
  have k0 := bE.cell0
  have k1 := bE.cell1
  go_upto_block 0 with fail
  clear k0 k1
  obtain ⟨B0, hB0⟩ : ∃ B0, B0 = w1.heap.size := ⟨_, rfl⟩
  have hBz : w.heap.size + 1 + 1 < B0 := by omega
  have hBs : B0 ≤ w1.heap.size := by omega
  clear hB0 hs1
  go_cut [10, 11, 12] from 22 to 63 (fun _ _ _ wc => ∃ (adF : Option Addr) (capF : Nat), wc.ownsRow B0 39 3 (.slice adF gs.length capF) gs.length (gs.flatMap Fx.cells) ∧ Below w.heap.size w wc ∧ B0 ≤ wc.heap.size ∧ Boxed2 wc w.heap.size 25 (.slice af fs.length cf) (.slice ac cs.length cc) ∧ Boxed2 wc (w.heap.size + 1) 25 (.slice none 0 0) (.slice none 0 0) ∧ Boxed2 wc (w.heap.size + 1 + 1) 25 (.slice adF gs.length capF) (.slice none 0 0))
  case first =>
    go_wp2_with fail
    go_loopw [10] (fun i wr => ∃ (k M : Nat) (adb : Option Addr) (capb : Nat), k ≤ fs.length ∧ i = .int .i64 k ∧ M ≤ k ∧ Hid (M = ((fs.take k).filter (needed ns)).length) ∧ wr.ownsRow B0 39 3 (.slice adb M capb) M (((fs.take k).filter (needed ns)).flatMap Fx.cells) ∧ Below w.heap.size w wr ∧ B0 ≤ wr.heap.size ∧ Boxed2 wr w.heap.size 25 (.slice af fs.length cf) (.slice ac cs.length cc) ∧ Boxed2 wr (w.heap.size + 1) 25 (.slice none 0 0) (.slice none 0 0) ∧ Boxed2 wr (w.heap.size + 1 + 1) 25 (.slice adb M capb) (.slice none 0 0)) (fun i _ => fs.length - (intOf i).toNat)
    case atStart => exact ⟨0, 0, none, 0, Nat.zero_le _, rfl, Nat.le_refl _, rfl, World.ownsRow_nil _ _ _ _, hbel, hBs, bE, bR, bO⟩
    case round =>
      obtain ⟨k, M, adb, capb, hk, rfl, hMk, HM, hown, hbel, hBs, bE, bR, bO⟩ := hrel
      obtain ⟨wo, rfl⟩ : ∃ wo : World, wo = wr := ⟨_, rfl⟩
      have k0 := bE.cell0
      have k1 := bE.cell1
      have r0 := bO.cell0
      have r1 := bO.cell1
      have hq2 : w.heap.size + 1 + 1 < wo.heap.size := bO.lt
      have hq0 : w.heap.size < wo.heap.size := bE.lt
      by_cases hlt : k < fs.length
      · obtain ⟨f, hf⟩ : ∃ f, fs[k]? = some f := ⟨_, List.getElem?_eq_getElem hlt⟩
        have HRf := ((Rfs.out.below hbel).fx hf)
        have HF := Lib.hid hf
        clear hf
        obtain ⟨b, off, rfl, hc1, hc2, hc3⟩ := HRf
        have hk1 : (0 : Int) ≤ (k : Int) := by omega
        have hk2 : (k : Int) < (fs.length : Int) := by omega
        go_wp2
        obtain ⟨WX, hWX⟩ : ∃ WX, WX = wo.alloc (.cells #[.string f.nm, .int .i64 f.d, .string f.vl] 39) := ⟨_, rfl⟩
        rw [← hWX]
        have x0 : WX.cell? ⟨wo.heap.size, 0, none⟩ = some (.string f.nm) := by rw [hWX]; go_simp
        have x1 : WX.cell? ⟨wo.heap.size, 1, none⟩ = some (.int .i64 f.d) := by rw [hWX]; go_simp
        have x2 : WX.cell? ⟨wo.heap.size, 2, none⟩ = some (.string f.vl) := by rw [hWX]; go_simp
        have hownX : WX.ownsRow B0 39 3 (.slice adb M capb) M (((fs.take k).filter (needed ns)).flatMap Fx.cells) := by rw [hWX]; exact hown.alloc _
        have hbelX : Below w.heap.size w WX := by rw [hWX]; exact hbel.alloc (by omega) _
        have hzX : WX.heap.size = wo.heap.size + 1 := by rw [hWX]; simp
        have bEX := bE.alloc (.cells #[.string f.nm, .int .i64 f.d, .string f.vl] 39)
        rw [← hWX] at bEX
        have bRX := bR.alloc (.cells #[.string f.nm, .int .i64 f.d, .string f.vl] 39)
        rw [← hWX] at bRX
        have bOX := bO.alloc (.cells #[.string f.nm, .int .i64 f.d, .string f.vl] 39)
        rw [← hWX] at bOX
        clear hWX hown hbel bE bR bO k0 k1 r0 r1 hc1 hc2 hc3
        have HzX := Lib.hid hzX
        clear hzX
        go_loopw [12] (fun i wr => ∃ (j mq : Nat), j ≤ ns.length ∧ i = .int .i64 j ∧ Hid (∀ x ∈ ns.take j, ¬ (x.nm = f.nm ∧ x.d = f.d)) ∧ wr = WX.drewN mq) (fun i _ => ns.length - (intOf i).toNat)
        case atStart => exact ⟨0, 0, Nat.zero_le _, rfl, by intro x hx; simp at hx, rfl⟩
        case round =>
          obtain ⟨j, mq, hj, rfl, HA, rfl⟩ := hrel
          by_cases hjl : j < ns.length
          · obtain ⟨x, hx⟩ : ∃ x, ns[j]? = some x := ⟨_, List.getElem?_eq_getElem hjl⟩
            have HRx := ((Rns.out.below hbelX).nd hx)
            have HXx := Lib.hid hx
            clear hx
            obtain ⟨bx, ox, rfl, hd1, hd2⟩ := HRx
            have hj1 : (0 : Int) ≤ (j : Int) := by omega
            have hj2 : (j : Int) < (ns.length : Int) := by omega
            have y0 : (WX.drewN mq).cell? ⟨wo.heap.size, 0, none⟩ = _ := x0
            have y1 : (WX.drewN mq).cell? ⟨wo.heap.size, 1, none⟩ = _ := x1
            have y2 : (WX.drewN mq).cell? ⟨wo.heap.size, 2, none⟩ = _ := x2
            by_cases he0 : x.nm = f.nm
            · have tt0 : (x.nm.toList == f.nm.toList) = true := by rw [he0]; simp
              have HE0 := Lib.hid he0
              clear he0
              by_cases he1 : x.d = f.d
              · have tt1 : (x.d == f.d) = true := by rw [he1]; simp
                have HE1 := Lib.hid he1
                clear he1
                go_wp2
                go_quiet (fail)
                obtain ⟨WD, hWD⟩ : ∃ WD, WD = WX.drewN (mq + nq) := ⟨_, rfl⟩
                rw [World.drewN_drewN, ← hWD]
                have hownD := ownsRow_kept (w' := WD) hownX (by rw [hWD]; exact fun _ _ _ => rfl)
                have hbelD : Below w.heap.size w WD := by rw [hWD]; exact below_drewN hbelX _
                have bED := bEX.of_block (W' := WD) (by rw [hWD]; rfl)
                have bRD := bRX.of_block (W' := WD) (by rw [hWD]; rfl)
                have bOD := bOX.of_block (W' := WD) (by rw [hWD]; rfl)
                have z0 : WD.cell? ⟨wo.heap.size, 0, none⟩ = some (.string f.nm) := by rw [hWD]; exact x0
                have z1 : WD.cell? ⟨wo.heap.size, 1, none⟩ = some (.int .i64 f.d) := by rw [hWD]; exact x1
                have z2 : WD.cell? ⟨wo.heap.size, 2, none⟩ = some (.string f.vl) := by rw [hWD]; exact x2
                have hzD : wo.heap.size < WD.heap.size := by have h := HzX.out; rw [hWD]; show _ < WX.heap.size; omega
                clear hWD y0 y1 y2
                have r0 := bOD.cell0
                have r1 := bOD.cell1
                have q2 := bOD.lt
                have hneed : (needed ns) f = true := eqB_true ⟨x, List.mem_of_getElem? HXx.out, HE0.out, HE1.out⟩
                have HX := Lib.hid (filter_take_true (p := (needed ns)) HF.out hneed)
                have HO := Lib.hid hownD.lt
                clear hneed
                go_wp2_with (at_builtin; refine wpList_append_own _ rfl _ _ 22 rfl B0 39 i0 _ 3 40 ul_fixings ji0 jz0 js0 jb0 rfl (by decide) _ _ _ rfl (hownD.alloc _) ⟨WD.heap.size, 0, none⟩ 1 1 [.string f.nm, .int .i64 f.d, .string f.vl] rfl rfl (cell_three_new _ _ _ _ _) (fx_oneCell f) (by unfold maxLen; omega) (by omega) (by simp; omega) ?_; intro v2 w2 hown2 hgrow2 _; have hgd := grown_drewn hgrow2; have bO2 := bOD.grown hgd (fun k hk => (HO.out k hk).1) (by omega); have rr0 := bO2.cell0; have rr1 := bO2.cell1; have zz0 := bO2.frozen 0; have zz1 := bO2.frozen 1; obtain ⟨ad3, cap3, rfl, _⟩ := Sl.of_owns hown2)
                have bE2 := bED.grown hgd (fun k hk => (HO.out k hk).1) (by omega)
                have bR2 := bRD.grown hgd (fun k hk => (HO.out k hk).1) (by omega)
                have hbel2 : Below w.heap.size w w2 := ((hbelD.alloc (by omega) _).drew).grown hgd (by show _ ≤ (WD.alloc _).heap.size; simp; omega) (fun k hk => by have := (HO.out k hk).1; omega)
                have hs2 : B0 ≤ w2.heap.size := Nat.le_trans (by show _ ≤ (WD.alloc _).heap.size; simp; omega) hgd.size
                have HM2 : Hid (M + 1 = ((fs.take (k + 1)).filter (needed ns)).length) := by show _ = _; rw [HX.out, List.length_append, ← HM.out]; rfl
                have hown3 : w2.ownsRow B0 39 3 (.slice ad3 (M + 1) cap3) (M + 1) (((fs.take (k + 1)).filter (needed ns)).flatMap Fx.cells) := by
                  rw [HX.out, List.flatMap_append]; simpa [Fx.cells] using hown2
                go_roundw
                case rel => exact ⟨k + 1, M + 1, ad3, cap3, by omega, by go_num, by omega, HM2, ownsRow_setCell_below hown3 (a := ⟨w.heap.size + 1 + 1, 0, none⟩) (by show _ < B0; omega) _, hbel2.setCell (p := ⟨w.heap.size + 1 + 1, 0, none⟩) (by show _ ≤ _ + 1 + 1; omega) _, by simpa using hs2, bE2.of_block (Below.heap_setCell _ _ _ _ (by show w.heap.size ≠ w.heap.size + 1 + 1; omega)), bR2.of_block (Below.heap_setCell _ _ _ _ (by show w.heap.size + 1 ≠ w.heap.size + 1 + 1; omega)), bO2.set0 _⟩
                case measure => simp [intOf]; omega
              · have tt1 : (x.d == f.d) = false := by rw [beq_eq_false_iff_ne]; exact he1
                have HA2 : Hid (∀ y ∈ ns.take (j + 1), ¬ (y.nm = f.nm ∧ y.d = f.d)) := by
                  intro y hy
                  rw [take_snoc_get HXx.out] at hy
                  rcases List.mem_append.1 hy with h | h
                  · exact HA.out y h
                  · simp at h; subst h; intro hh; exact he1 (by simp [hh])
                clear he1
                go_wp2
                go_quiet (fail)
                go_wp2
                go_roundw
                case rel => exact ⟨j + 1, _, by omega, by go_num, HA2, rfl⟩
                case measure => simp [intOf]; omega
            · have tt0 : (x.nm.toList == f.nm.toList) = false := by rw [toList_beq, decide_eq_false_iff_not]; exact he0
              have HA2 : Hid (∀ y ∈ ns.take (j + 1), ¬ (y.nm = f.nm ∧ y.d = f.d)) := by
                intro y hy
                rw [take_snoc_get HXx.out] at hy
                rcases List.mem_append.1 hy with h | h
                · exact HA.out y h
                · simp at h; subst h; intro hh; exact he0 (by simp [hh])
              clear he0
              go_wp2
              go_quiet (fail)
              go_wp2
              go_roundw
              case rel => exact ⟨j + 1, _, by omega, by go_num, HA2, rfl⟩
              case measure => simp [intOf]; omega
          · obtain rfl : j = ns.length := by omega
            have hno : (needed ns) f = false := eqB_false (fun ⟨x, hx, hh⟩ => HA.out x (by rw [List.take_length]; exact hx) hh)
            have HX := Lib.hid (filter_take_false (p := (needed ns)) HF.out hno)
            have HM2 : Hid (M = ((fs.take (k + 1)).filter (needed ns)).length) := by show _ = _; rw [HX.out]; exact HM.out
            have hown3 : (WX.drewN mq).ownsRow B0 39 3 (.slice adb M capb) M (((fs.take (k + 1)).filter (needed ns)).flatMap Fx.cells) := by rw [HX.out]; exact ownsRow_kept hownX (fun _ _ _ => rfl)
            clear hno
            go_wp2
            go_roundw
            case rel => exact ⟨k + 1, M, adb, capb, by omega, by go_num, by omega, HM2, hown3, below_drewN hbelX _, by show _ ≤ WX.heap.size; (have := HzX.out; omega), bEX.of_block rfl, bRX.of_block rfl, bOX.of_block rfl⟩
            case measure => simp [intOf]; omega
      · obtain rfl : k = fs.length := by omega
        rw [List.take_length, ← HG.out] at hown HM
        obtain rfl := HM.out
        clear hlt hk HM
        go_wp2
        go_meet
        exact ⟨adb, capb, hown, hbel, hBs, bE, bR, bO⟩
  case rest =>
    obtain ⟨adF, capF, hoF, hbel, hBs0, bE, bR, bO⟩ := hcut
    obtain ⟨B1, hB1⟩ : ∃ B1, B1 = wc.heap.size := ⟨_, rfl⟩
    have hBz1 : w.heap.size + 1 + 1 < B1 := by omega
    have hBs : B1 ≤ wc.heap.size := by omega
    have HFb : Hid (∀ k, (Value.slice adF gs.length capF).ownBlock = some k → k < B1) := fun k hk => by rw [hB1]; exact (hoF.lt k hk).2
    clear hB1 hBs0
    go_wp2
    go_loopw [13] (fun i wr => ∃ (k M : Nat) (adb : Option Addr) (capb : Nat), k ≤ cs.length ∧ i = .int .i64 k ∧ M ≤ k ∧ Hid (M = ((cs.take k).filter (isOpen ks)).length) ∧ wr.ownsRow B1 41 4 (.slice adb M capb) M (((cs.take k).filter (isOpen ks)).flatMap Ch.cells) ∧ Below w.heap.size w wr ∧ B1 ≤ wr.heap.size ∧ Boxed2 wr w.heap.size 25 (.slice af fs.length cf) (.slice ac cs.length cc) ∧ Boxed2 wr (w.heap.size + 1) 25 (.slice none 0 0) (.slice none 0 0) ∧ Boxed2 wr (w.heap.size + 1 + 1) 25 (.slice adF gs.length capF) (.slice adb M capb) ∧ wr.ownsRow B0 39 3 (.slice adF gs.length capF) gs.length (gs.flatMap Fx.cells)) (fun i _ => cs.length - (intOf i).toNat)
    case atStart => exact ⟨0, 0, none, 0, Nat.zero_le _, rfl, Nat.le_refl _, rfl, World.ownsRow_nil _ _ _ _, hbel, hBs, bE, bR, bO, hoF⟩
    case round =>
      clear hbel hBs bE bR bO hoF
      obtain ⟨k, M, adb, capb, hk, rfl, hMk, HM, hown, hbel, hBs, bE, bR, bO, hoF⟩ := hrel
      obtain ⟨wo, rfl⟩ : ∃ wo : World, wo = wr := ⟨_, rfl⟩
      have k0 := bE.cell0
      have k1 := bE.cell1
      have r0 := bO.cell0
      have r1 := bO.cell1
      have hq2 : w.heap.size + 1 + 1 < wo.heap.size := bO.lt
      have hq0 : w.heap.size < wo.heap.size := bE.lt
      by_cases hlt : k < cs.length
      · obtain ⟨f, hf⟩ : ∃ f, cs[k]? = some f := ⟨_, List.getElem?_eq_getElem hlt⟩
        have HRf := ((Rcs.out.below hbel).ch hf)
        have HF := Lib.hid hf
        clear hf
        obtain ⟨b, off, rfl, hc1, hc2, hc3, hc4⟩ := HRf
        have hk1 : (0 : Int) ≤ (k : Int) := by omega
        have hk2 : (k : Int) < (cs.length : Int) := by omega
        go_wp2
        obtain ⟨WX, hWX⟩ : ∃ WX, WX = wo.alloc (.cells #[.string f.pt, .string f.nm, .int .i64 f.d, .bool f.first] 41) := ⟨_, rfl⟩
        rw [← hWX]
        have x0 : WX.cell? ⟨wo.heap.size, 0, none⟩ = some (.string f.pt) := by rw [hWX]; go_simp
        have x1 : WX.cell? ⟨wo.heap.size, 1, none⟩ = some (.string f.nm) := by rw [hWX]; go_simp
        have x2 : WX.cell? ⟨wo.heap.size, 2, none⟩ = some (.int .i64 f.d) := by rw [hWX]; go_simp
        have x3 : WX.cell? ⟨wo.heap.size, 3, none⟩ = some (.bool f.first) := by rw [hWX]; go_simp
        have hownX : WX.ownsRow B1 41 4 (.slice adb M capb) M (((cs.take k).filter (isOpen ks)).flatMap Ch.cells) := by rw [hWX]; exact hown.alloc _
        have hoFX : WX.ownsRow B0 39 3 (.slice adF gs.length capF) gs.length (gs.flatMap Fx.cells) := by rw [hWX]; exact hoF.alloc _
        have hbelX : Below w.heap.size w WX := by rw [hWX]; exact hbel.alloc (by omega) _
        have hzX : WX.heap.size = wo.heap.size + 1 := by rw [hWX]; simp
        have bEX := bE.alloc (.cells #[.string f.pt, .string f.nm, .int .i64 f.d, .bool f.first] 41)
        rw [← hWX] at bEX
        have bRX := bR.alloc (.cells #[.string f.pt, .string f.nm, .int .i64 f.d, .bool f.first] 41)
        rw [← hWX] at bRX
        have bOX := bO.alloc (.cells #[.string f.pt, .string f.nm, .int .i64 f.d, .bool f.first] 41)
        rw [← hWX] at bOX
        clear hWX hown hbel bE bR bO k0 k1 r0 r1 hoF hc1 hc2 hc3 hc4
        have HzX := Lib.hid hzX
        clear hzX
        go_loopw [15] (fun i wr => ∃ (j mq : Nat), j ≤ ks.length ∧ i = .int .i64 j ∧ Hid (∀ x ∈ ks.take j, ¬ (x.pt = f.pt ∧ x.nm = f.nm ∧ x.d = f.d)) ∧ wr = WX.drewN mq) (fun i _ => ks.length - (intOf i).toNat)
        case atStart => exact ⟨0, 0, Nat.zero_le _, rfl, by intro x hx; simp at hx, rfl⟩
        case round =>
          obtain ⟨j, mq, hj, rfl, HA, rfl⟩ := hrel
          by_cases hjl : j < ks.length
          · obtain ⟨x, hx⟩ : ∃ x, ks[j]? = some x := ⟨_, List.getElem?_eq_getElem hjl⟩
            have HRx := ((Rks.out.below hbelX).ch hx)
            have HXx := Lib.hid hx
            clear hx
            obtain ⟨bx, ox, rfl, hd1, hd2, hd3, hd4⟩ := HRx
            have hj1 : (0 : Int) ≤ (j : Int) := by omega
            have hj2 : (j : Int) < (ks.length : Int) := by omega
            have y0 : (WX.drewN mq).cell? ⟨wo.heap.size, 0, none⟩ = _ := x0
            have y1 : (WX.drewN mq).cell? ⟨wo.heap.size, 1, none⟩ = _ := x1
            have y2 : (WX.drewN mq).cell? ⟨wo.heap.size, 2, none⟩ = _ := x2
            have y3 : (WX.drewN mq).cell? ⟨wo.heap.size, 3, none⟩ = _ := x3
            by_cases he0 : x.pt = f.pt
            · have tt0 : (x.pt.toList == f.pt.toList) = true := by rw [he0]; simp
              have HE0 := Lib.hid he0
              clear he0
              by_cases he1 : x.nm = f.nm
              · have tt1 : (x.nm.toList == f.nm.toList) = true := by rw [he1]; simp
                have HE1 := Lib.hid he1
                clear he1
                by_cases he2 : x.d = f.d
                · have tt2 : (x.d == f.d) = true := by rw [he2]; simp
                  have HE2 := Lib.hid he2
                  clear he2
                  go_wp2
                  go_quiet (fail)
                  obtain ⟨WD, hWD⟩ : ∃ WD, WD = WX.drewN (mq + nq) := ⟨_, rfl⟩
                  rw [World.drewN_drewN, ← hWD]
                  have hownD := ownsRow_kept (w' := WD) hownX (by rw [hWD]; exact fun _ _ _ => rfl)
                  have hoFD := ownsRow_kept (w' := WD) hoFX (by rw [hWD]; exact fun _ _ _ => rfl)
                  have hbelD : Below w.heap.size w WD := by rw [hWD]; exact below_drewN hbelX _
                  have bED := bEX.of_block (W' := WD) (by rw [hWD]; rfl)
                  have bRD := bRX.of_block (W' := WD) (by rw [hWD]; rfl)
                  have bOD := bOX.of_block (W' := WD) (by rw [hWD]; rfl)
                  have z0 : WD.cell? ⟨wo.heap.size, 0, none⟩ = some (.string f.pt) := by rw [hWD]; exact x0
                  have z1 : WD.cell? ⟨wo.heap.size, 1, none⟩ = some (.string f.nm) := by rw [hWD]; exact x1
                  have z2 : WD.cell? ⟨wo.heap.size, 2, none⟩ = some (.int .i64 f.d) := by rw [hWD]; exact x2
                  have z3 : WD.cell? ⟨wo.heap.size, 3, none⟩ = some (.bool f.first) := by rw [hWD]; exact x3
                  have hzD : wo.heap.size < WD.heap.size := by have h := HzX.out; rw [hWD]; show _ < WX.heap.size; omega
                  clear hWD y0 y1 y2 y3
                  have r0 := bOD.cell0
                  have r1 := bOD.cell1
                  have q2 := bOD.lt
                  have hneed : (isOpen ks) f = true := eqB_true ⟨x, List.mem_of_getElem? HXx.out, HE0.out, HE1.out, HE2.out⟩
                  have HX := Lib.hid (filter_take_true (p := (isOpen ks)) HF.out hneed)
                  have HO := Lib.hid hownD.lt
                  clear hneed
                  go_wp2_with (at_builtin; refine wpList_append_own _ rfl _ _ 23 rfl B1 41 i1 _ 4 48 ul_choices ji1 jz1 js1 jb1 rfl (by decide) _ _ _ rfl (hownD.alloc _) ⟨WD.heap.size, 0, none⟩ 1 1 [.string f.pt, .string f.nm, .int .i64 f.d, .bool f.first] rfl rfl (cell_four_new _ _ _ _ _ _) (ch_oneCell f) (by unfold maxLen; omega) (by omega) (by simp; omega) ?_; intro v2 w2 hown2 hgrow2 _; have hgd := grown_drewn hgrow2; have bO2 := bOD.grown hgd (fun k hk => (HO.out k hk).1) (by omega); have rr0 := bO2.cell0; have rr1 := bO2.cell1; have zz0 := bO2.frozen 0; have zz1 := bO2.frozen 1; obtain ⟨ad3, cap3, rfl, _⟩ := Sl.of_owns hown2)
                  have bE2 := bED.grown hgd (fun k hk => (HO.out k hk).1) (by omega)
                  have bR2 := bRD.grown hgd (fun k hk => (HO.out k hk).1) (by omega)
                  have hbel2 : Below w.heap.size w w2 := ((hbelD.alloc (by omega) _).drew).grown hgd (by show _ ≤ (WD.alloc _).heap.size; simp; omega) (fun k hk => by have := (HO.out k hk).1; omega)
                  have hs2 : B1 ≤ w2.heap.size := Nat.le_trans (by show _ ≤ (WD.alloc _).heap.size; simp; omega) hgd.size
                  have hoF2 := ownsRow_grown hoFD hgd (fun k hk => (HO.out k hk).1) HFb.out
                  have HM2 : Hid (M + 1 = ((cs.take (k + 1)).filter (isOpen ks)).length) := by show _ = _; rw [HX.out, List.length_append, ← HM.out]; rfl
                  have hown3 : w2.ownsRow B1 41 4 (.slice ad3 (M + 1) cap3) (M + 1) (((cs.take (k + 1)).filter (isOpen ks)).flatMap Ch.cells) := by
                    rw [HX.out, List.flatMap_append]; simpa [Ch.cells] using hown2
                  go_roundw
                  case rel => exact ⟨k + 1, M + 1, ad3, cap3, by omega, by go_num, by omega, HM2, ownsRow_setCell_below hown3 (a := ⟨w.heap.size + 1 + 1, 1, none⟩) (by show _ < B1; omega) _, hbel2.setCell (p := ⟨w.heap.size + 1 + 1, 1, none⟩) (by show _ ≤ _ + 1 + 1; omega) _, by simpa using hs2, bE2.of_block (Below.heap_setCell _ _ _ _ (by show w.heap.size ≠ w.heap.size + 1 + 1; omega)), bR2.of_block (Below.heap_setCell _ _ _ _ (by show w.heap.size + 1 ≠ w.heap.size + 1 + 1; omega)), bO2.set1 _, ownsRow_setCell_below hoF2 (a := ⟨w.heap.size + 1 + 1, 1, none⟩) (by show _ < B0; omega) _⟩
                  case measure => simp [intOf]; omega
                · have tt2 : (x.d == f.d) = false := by rw [beq_eq_false_iff_ne]; exact he2
                  have HA2 : Hid (∀ y ∈ ks.take (j + 1), ¬ (y.pt = f.pt ∧ y.nm = f.nm ∧ y.d = f.d)) := by
                    intro y hy
                    rw [take_snoc_get HXx.out] at hy
                    rcases List.mem_append.1 hy with h | h
                    · exact HA.out y h
                    · simp at h; subst h; intro hh; exact he2 (by simp [hh])
                  clear he2
                  go_wp2
                  go_quiet (fail)
                  go_wp2
                  go_roundw
                  case rel => exact ⟨j + 1, _, by omega, by go_num, HA2, rfl⟩
                  case measure => simp [intOf]; omega
              · have tt1 : (x.nm.toList == f.nm.toList) = false := by rw [toList_beq, decide_eq_false_iff_not]; exact he1
                have HA2 : Hid (∀ y ∈ ks.take (j + 1), ¬ (y.pt = f.pt ∧ y.nm = f.nm ∧ y.d = f.d)) := by
                  intro y hy
                  rw [take_snoc_get HXx.out] at hy
                  rcases List.mem_append.1 hy with h | h
                  · exact HA.out y h
                  · simp at h; subst h; intro hh; exact he1 (by simp [hh])
                clear he1
                go_wp2
                go_quiet (fail)
                go_wp2
                go_roundw
                case rel => exact ⟨j + 1, _, by omega, by go_num, HA2, rfl⟩
                case measure => simp [intOf]; omega
            · have tt0 : (x.pt.toList == f.pt.toList) = false := by rw [toList_beq, decide_eq_false_iff_not]; exact he0
              have HA2 : Hid (∀ y ∈ ks.take (j + 1), ¬ (y.pt = f.pt ∧ y.nm = f.nm ∧ y.d = f.d)) := by
                intro y hy
                rw [take_snoc_get HXx.out] at hy
                rcases List.mem_append.1 hy with h | h
                · exact HA.out y h
                · simp at h; subst h; intro hh; exact he0 (by simp [hh])
              clear he0
              go_wp2
              go_quiet (fail)
              go_wp2
              go_roundw
              case rel => exact ⟨j + 1, _, by omega, by go_num, HA2, rfl⟩
              case measure => simp [intOf]; omega
          · obtain rfl : j = ks.length := by omega
            have hno : (isOpen ks) f = false := eqB_false (fun ⟨x, hx, hh⟩ => HA.out x (by rw [List.take_length]; exact hx) hh)
            have HX := Lib.hid (filter_take_false (p := (isOpen ks)) HF.out hno)
            have HM2 : Hid (M = ((cs.take (k + 1)).filter (isOpen ks)).length) := by show _ = _; rw [HX.out]; exact HM.out
            have hown3 : (WX.drewN mq).ownsRow B1 41 4 (.slice adb M capb) M (((cs.take (k + 1)).filter (isOpen ks)).flatMap Ch.cells) := by rw [HX.out]; exact ownsRow_kept hownX (fun _ _ _ => rfl)
            have hoF3 : (WX.drewN mq).ownsRow B0 39 3 (.slice adF gs.length capF) gs.length (gs.flatMap Fx.cells) := ownsRow_kept hoFX (fun _ _ _ => rfl)
            clear hno
            go_wp2
            go_roundw
            case rel => exact ⟨k + 1, M, adb, capb, by omega, by go_num, by omega, HM2, hown3, below_drewN hbelX _, by show _ ≤ WX.heap.size; (have := HzX.out; omega), bEX.of_block rfl, bRX.of_block rfl, bOX.of_block rfl, hoF3⟩
            case measure => simp [intOf]; omega
      · obtain rfl : k = cs.length := by omega
        rw [List.take_length, ← HD.out] at hown HM
        obtain rfl := HM.out
        clear hlt hk HM
        have q0 := bR.cell0
        have q1 := bR.cell1
        have z0 := bR.frozen 0
        have z1 := bR.frozen 1
        go_wp2
        have HS := Lib.hid (bR.store (.slice adF gs.length capF) (.slice adb ds.length capb))
        have HW := Lib.hid (known_fin (gs := gs) (ds := ds) (N := w.heap.size + 1) hbel hoF hown (by omega) (by omega) (by omega))
        obtain ⟨W3, hW3⟩ : ∃ W3, W3 = (wo.setCell ⟨w.heap.size + 1, 0, none⟩ (.slice adF gs.length capF)).setCell ⟨w.heap.size + 1, 1, none⟩ (.slice adb ds.length capb) := ⟨_, rfl⟩
        rw [← hW3]
        rw [← hW3] at HS HW
        refine bodyPost_ret (v := .tuple #[.agg #[.slice adF gs.length capF, .slice adb ds.length capb], .int .i64 0]) (by simp [results, Try.results9, go_sem, HS.out.cell0, HS.out.cell1]) rfl HW.out

set_option maxHeartbeats 1000000 in
set_option maxRecDepth 100000 in
theorem ronly_err (fs : List Fx) (cs : List Ch) (ns : List Nd) (ks : List Ch) (af ac an ak : Option Addr) (cf cc cn ck : Nat) (w : World) (hn : fs.length ≤ 1100000) (hm : cs.length ≤ 1100000) (hnn : ns.length ≤ 1100000) (hkk : ks.length ≤ 1100000)
    (hf : Rd Fx.cells 3 w af fs) (hc : Rd Ch.cells 4 w ac cs) (hrn : Rd Nd.cells 2 w an ns) (hrk : Rd Ch.cells 4 w ak ks) (hfs : ∀ f ∈ fs, f.small) (hcs : ∀ c ∈ cs, c.small) (he : envErr fs cs ≠ 0) :
    Calls Try.prog 9 #[.agg #[.slice af fs.length cf, .slice ac cs.length cc], .slice an ns.length cn, .slice ak ks.length ck] w (EnvPost w (envErr fs cs) (onlyF fs cs ns) (onlyC fs cs ks)) := by
  have HE := Lib.hid (fun W (h : Below w.heap.size w W) => refEnv_any fs cs af ac cf cc W hn hm (hf.below h) (hc.below h) hfs hcs)
  rw [onlyF, onlyC, if_neg he, if_neg he]
  generalize envErr fs cs = E at HE he ⊢
  have t1 : (E != 0) = true := by rw [bne_iff_ne]; exact he
  have t2 : (E == 0) = false := by rw [beq_eq_false_iff_ne]; exact he
  have hun := And.intro (And.intro hnn hkk) (And.intro hrn hrk)
  clear hf hc hfs hcs he hrn hrk hun
  go_enter Try.func9, Try.ntmps9
  have bx := fun (o1 o2 : Obj) => Boxed2.new ((w.alloc o1).alloc o2) (.slice none 0 0) (.slice none 0 0) 25
  have bx1 := fun (o1 o2 : Obj) => (Boxed2.new (w.alloc o1) (.slice none 0 0) (.slice none 0 0) 25).alloc o2
  have bx0 := fun (o1 o2 : Obj) => ((Boxed2.new w (.slice af fs.length cf) (.slice ac cs.length cc) 25).alloc o1).alloc o2
  have HBX := Lib.hid (And.intro bx (And.intro bx1 bx0))
  clear bx bx1 bx0
  go_wp2_with fail
  refine (HE.out _ (below_a3 _ _ _ _)).mono ?_
  rintro e w1 ⟨rfl, hb1⟩
  have hs1 := hb1.size
  simp at hs1
  have bO := (HBX.out.1 _ _).below hb1
  have bR := (HBX.out.2.1 _ _).below hb1
  have bE := (HBX.out.2.2 _ _).below hb1
  simp at bO bR
  have hbel : Below w.heap.size w w1 := (below_a3 _ _ _ _).trans (hb1.mono (by simp; omega))
  clear hb1 HBX
  have r0 := bO.cell0
  have r1 := bO.cell1
  have q0 := bR.cell0
  have q1 := bR.cell1
  have z0 := bR.frozen 0
  have z1 := bR.frozen 1
  have HS := Lib.hid (bR.store (.slice none 0 0) (.slice none 0 0))
  have HW := Lib.hid (below_store hbel (B := w.heap.size + 1) (by omega) (.slice none 0 0) (.slice none 0 0))
  clear bO bR bE hbel
  go_wp2
  obtain ⟨W3, hW3⟩ : ∃ W3, W3 = (w1.setCell ⟨w.heap.size + 1, 0, none⟩ (.slice none 0 0)).setCell ⟨w.heap.size + 1, 1, none⟩ (.slice none 0 0) := ⟨_, rfl⟩
  rw [← hW3]
  rw [← hW3] at HS HW
  refine bodyPost_ret (v := .tuple #[.agg #[.slice none 0 0, .slice none 0 0], .int .i64 E]) (by simp [results, Try.results9, go_sem, HS.out.cell0, HS.out.cell1]) rfl (envPost_none HW.out)

theorem ronly_any (fs : List Fx) (cs : List Ch) (ns : List Nd) (ks : List Ch) (af ac an ak : Option Addr) (cf cc cn ck : Nat) (w : World) (hn : fs.length ≤ 1100000) (hm : cs.length ≤ 1100000) (hnn : ns.length ≤ 1100000) (hkk : ks.length ≤ 1100000)
    (hf : Rd Fx.cells 3 w af fs) (hc : Rd Ch.cells 4 w ac cs) (hrn : Rd Nd.cells 2 w an ns) (hrk : Rd Ch.cells 4 w ak ks) (hfs : ∀ f ∈ fs, f.small) (hcs : ∀ c ∈ cs, c.small) :
    Calls Try.prog 9 #[.agg #[.slice af fs.length cf, .slice ac cs.length cc], .slice an ns.length cn, .slice ak ks.length ck] w (EnvPost w (envErr fs cs) (onlyF fs cs ns) (onlyC fs cs ks)) := by
  by_cases he : envErr fs cs = 0
  · exact ronly_ok fs cs ns ks af ac an ak cf cc cn ck w hn hm hnn hkk hf hc hrn hrk hfs hcs he
  · exact ronly_err fs cs ns ks af ac an ak cf cc cn ck w hn hm hnn hkk hf hc hrn hrk hfs hcs he
end Go.Proofs.Ytofbngpckllkoaa

namespace Go.Proofs.Ytofbngpckllkoaa
open Go.RowKit

theorem run_append_empty {P : Program} {w : World} (t ty e : TypeId) (i : TypeInfo) (z : Value) (size bytes : Nat) (ht : P.underlying t = some (.slice e)) (hi : P.info? e = some i) (hz : i.zero = some z)
    (hsize : i.size = size) (hby : i.bytes = bytes) (hsz : 0 < size) (a0 : Addr) (A : Option Addr) (m c : Nat) (news : List Value) (hs : Sl w (.slice A m c) size m news) (hA : A = none → c = 0)
    (h63 : m ≤ 9223372036854775807) (hbytes : m * bytes ≤ 140737488355328) :
    ∃ ad cap w', (Builtin.append_ #[t, t] ty #[.slice (some a0) 0 0, .slice A m c]).run P w = .ok (.slice ad m cap) w' ∧ Sl w' (.slice ad m cap) size m news ∧ (m = 0 ∨ ∃ g, ad = some ⟨g, 0, none⟩ ∧ w.heap.size ≤ g) ∧ w.grownBy w' none := by
  subst hsize
  subst hby
  obtain ⟨ad', cap', he, h1, h2, h3⟩ := hs
  obtain ⟨rfl, _, rfl⟩ := Value.slice.inj he
  rcases Nat.eq_zero_or_pos m with h0 | h0
  · subst h0
    have hn : news = [] := List.eq_nil_of_length_eq_zero (by simpa using h2)
    subst hn
    refine ⟨some a0, 0, w, ?_, ⟨_, _, rfl, Nat.le_refl _, by simp, .inl rfl⟩, .inl rfl, ⟨rfl, rfl, rfl, Nat.le_refl _, fun _ _ _ => rfl⟩⟩
    cases A with
    | none =>
      obtain rfl := hA rfl
      simp [Builtin.append_, run_underlying ht, sizeOf, typeInfo, hi, Builtin.lenOf, Builtin.firstCells, storeCells]
    | some a => simp [Builtin.append_, run_underlying ht, sizeOf, typeInfo, hi, Builtin.lenOf, Builtin.firstCells, storeCells, loadCells, loadCellsFrom]
  · rcases h3 with h3 | ⟨b, off, rfl, h3⟩
    · exfalso; rw [h3] at h2; have := Nat.mul_pos h0 hsz; omega
    · have hr := run_append_grow (P := P) w t ty e i z ht hi hz a0 0 0 [] (by simp) (by simp) ⟨b, off, none⟩ m c news h2 (fun j v hj => by
          have h := h3 j v hj
          by_cases h0 : j = 0
          · subst h0; simpa [Addr.add] using h
          · simpa [Addr.add, h0] using h) (by omega) (by omega)
        (by rw [Nat.zero_add]; exact growslice_fits (by omega) (by omega))
      simp only [Nat.zero_add] at hr
      refine ⟨_, _, _, hr, ?_, .inr ⟨_, rfl, Nat.le_refl _⟩, ⟨rfl, rfl, rfl, by simp, fun k hk _ => Below.heap_alloc w.drew _ k hk⟩⟩
      refine ⟨_, _, rfl, grownCap_ge w m 0 e, h2, .inr ⟨w.heap.size, 0, rfl, fun j u hj => ?_⟩⟩
      rw [Nat.zero_add, cell_of_row _ w.heap.size j _ e (0, 0) (heap_alloc_new w.drew _)]
      have hjl := (List.getElem?_eq_some_iff.1 hj).1
      show (([] : List Value).toArray ++ news.toArray ++ _)[j]? = some u
      rw [Array.getElem?_append_left (by simpa using hjl)]
      simpa using hj

theorem step_append_empty {P : Program} {w : World} {ops : Array Oper} {o : Oper} {a : Act} {K : Act → World → Prop} {Q : Exit → Act → World → Prop} {E : Prop} (hgd : o.guard = none) (s x : Operand) (t : TypeId)
    (ho : o.op = .call { callee := .builtin .append, args := #[s, x], argTypes := #[t, t] }) (e : TypeId) (i : TypeInfo) (z : Value) (size bytes : Nat) (ht : P.underlying t = some (.slice e)) (hi : P.info? e = some i) (hz : i.zero = some z)
    (hsize : i.size = size) (hby : i.bytes = bytes) (hsz : 0 < size) (a0 : Addr) (A : Option Addr) (m c : Nat) (news : List Value) (hs : a.eval s = .slice (some a0) 0 0) (hx : a.eval x = .slice A m c) (hl : Sl w (.slice A m c) size m news) (hA : A = none → c = 0)
    (h63 : m ≤ 9223372036854775807) (hbytes : m * bytes ≤ 140737488355328)
    (h : ∀ ad cap w', Sl w' (.slice ad m cap) size m news → (m = 0 ∨ ∃ g, ad = some ⟨g, 0, none⟩ ∧ w.heap.size ≤ g) → Below w.heap.size w w' → K (a.put o.dst (.slice ad m cap)) w') :
    if Region.wanted o (yielded ops a.tmps) = true then Oper.wp P o a w K Q else E := by
  have hw : Region.wanted o (yielded ops a.tmps) = true := by simp [Region.wanted, hgd]
  rw [if_pos hw]
  obtain ⟨ad, cap, w', hr, h2, h4, h3⟩ := run_append_empty (P := P) (w := w) t o.type e i z size bytes ht hi hz hsize hby hsz a0 A m c news hl hA h63 hbytes
  unfold Oper.wp execOp
  simp only [ho, resolve, invoke, builtin, Sem.run_bind, Sem.run_pure, Result.andThen_ok, List.map_toArray, List.map_cons, List.map_nil, hs, hx, hr]
  exact h ad cap w' h2 h4 ((Below.refl _ _).grown h3 (Nat.le_refl _) (by simp))
theorem Sl.stored {w : World} {ad : Option Addr} {m cap size B : Nat} {cs : List Value} (h : Sl w (.slice ad m cap) size m cs) (hg : m = 0 ∨ ∃ g, ad = some ⟨g, 0, none⟩ ∧ B < g) (x y : Value) :
    Sl ((w.setCell ⟨B, 0, none⟩ x).setCell ⟨B, 1, none⟩ y) (.slice ad m cap) size m cs := by
  rcases hg with rfl | ⟨g, rfl, hB⟩
  · obtain ⟨_, _, _, h1, h2, _⟩ := h
    have : cs = [] := List.eq_nil_of_length_eq_zero (by simpa using h2)
    subst this
    exact Sl.empty _ _ _ _
  · refine h.kept fun k hk _ => ?_
    obtain rfl : g = k := by simpa [Value.ownBlock] using hk
    exact (Below.heap_setCell _ _ _ _ (by simp; omega)).trans (Below.heap_setCell _ _ _ _ (by simp; omega))
end Go.Proofs.Ytofbngpckllkoaa

namespace Go.Proofs.Ytofbngpckllkoaa
open Go.RowKit

theorem Ext.stepg {w0 w w2 : World} {m N : Nat} {ad : Option Addr} (hb : Below w.heap.size w w2) (hg : m = 0 ∨ ∃ g, ad = some ⟨g, 0, none⟩ ∧ w.heap.size ≤ g) (hz : N < w0.heap.size) (h : Ext w0 w) :
    Ext w0 w2 ∧ (m = 0 ∨ ∃ g, ad = some ⟨g, 0, none⟩ ∧ N < g) :=
  ⟨Below.trans h (hb.mono (Below.size h)), hg.imp id fun ⟨g, e, hh⟩ => ⟨g, e, by have := Below.size h; omega⟩⟩
def TwinPost (w : World) (fs : List Fx) (cs : List Ch) (e : Ending) (w' : World) : Prop :=
  ∃ a1 c1 a2 c2, e = .returned (.agg #[.slice a1 fs.length c1, .slice a2 cs.length c2]) ∧ Sl w' (.slice a1 fs.length c1) 3 fs.length (fs.flatMap Fx.cells) ∧ Sl w' (.slice a2 cs.length c2) 4 cs.length (cs.flatMap Ch.cells) ∧ Below w.heap.size w w'

set_option maxHeartbeats 2000000 in
set_option maxRecDepth 100000 in
theorem twin_any (fs : List Fx) (cs : List Ch) (af ac : Option Addr) (cf cc : Nat) (w : World) (hn : fs.length ≤ 1100000) (hm : cs.length ≤ 1100000)
    (hf : Sl w (.slice af fs.length cf) 3 fs.length (fs.flatMap Fx.cells)) (hc : Sl w (.slice ac cs.length cc) 4 cs.length (cs.flatMap Ch.cells)) (haf : af = none → cf = 0) (hac : ac = none → cc = 0) :
    Calls Try.prog 5 #[.agg #[.slice af fs.length cf, .slice ac cs.length cc]] w (TwinPost w fs cs) := by
  obtain ⟨i0, hi0, hz0, hs0, hb0⟩ := info_parts info_fixing
  obtain ⟨i1, hi1, hz1, hs1, hb1⟩ := info_parts info_choice
  have Hf := Lib.hid hf
  have Hc := Lib.hid hc
  have Naf := Lib.hid haf
  have Nac := Lib.hid hac
  clear hf hc haf hac
  go_enter Try.func5, Try.ntmps5
  go_wp2
  obtain ⟨W0, hW0⟩ : ∃ W0, W0 = ((w.alloc (.cells #[.slice af fs.length cf, .slice ac cs.length cc] 25)).alloc (.cells #[.slice none 0 0, .slice none 0 0] 25)) := ⟨_, rfl⟩
  rw [← hW0]
  have b0 : Boxed2 W0 w.heap.size 25 (.slice af fs.length cf) (.slice ac cs.length cc) := by rw [hW0]; exact (Boxed2.new _ _ _ _).alloc _
  have b1 : Boxed2 W0 (w.heap.size + 1) 25 (.slice none 0 0) (.slice none 0 0) := by
    rw [hW0]
    have h := Boxed2.new (w.alloc (.cells #[.slice af fs.length cf, .slice ac cs.length cc] 25)) (.slice none 0 0) (.slice none 0 0) 25
    simp at h
    exact h
  have hbl : Below w.heap.size w W0 := by rw [hW0]; exact below_a2 _ _ _
  have hz : w.heap.size + 1 < W0.heap.size := b1.lt
  clear hW0
  have k0 := b0.cell0
  have k1 := b0.cell1
  have r0 := b1.cell0
  have r1 := b1.cell1
  have z0 := b1.frozen 0
  have z1 := b1.frozen 1
  have B1 := Lib.hid b1
  clear b0 b1
  go_region_held3 (fun w' => Below w.heap.size w w' ∧ w'.cell? ⟨w.heap.size, 0, none⟩ = some (.slice af fs.length cf) ∧ w'.cell? ⟨w.heap.size, 1, none⟩ = some (.slice ac cs.length cc))
    (first | assumption | exact ⟨by assumption, by assumption, by assumption⟩ | (refine ⟨?_, ?_⟩; (first | exact hbl.drew | exact Below.alloc (And.left (by assumption)) (Below.size (And.left (by assumption))) _ | exact below_store (And.left (by assumption)) (by omega) _ _ | exact below_store (by assumption) (by omega) _ _); (first | go_keep | (refine ⟨?_, ?_⟩ <;> (rw [World.cell?_setCell_far _ _ _ _ (by show w.heap.size + 1 ≠ w.heap.size; omega), World.cell?_setCell_far _ _ _ _ (by show w.heap.size + 1 ≠ w.heap.size; omega)]; assumption)))))
    (first | (refine step_append_empty rfl (.tmp 3) (.tmp 5) 22 rfl 39 i0 _ 3 40 ul_fixings hi0 hz0 hs0 hb0 (by decide) _ af fs.length cf (fs.flatMap Fx.cells) rfl rfl ?_ Naf.out (by omega) (by omega) ?_; (exact Hf.out.below (And.left (by assumption))); intro ad2 cap2 w2 hsl2 hg2 hbb2; have hxx2 : Ext W0 w2 ∧ (fs.length = 0 ∨ ∃ g, ad2 = some ⟨g, 0, none⟩ ∧ w.heap.size + 1 < g) := (by refine Ext.stepg hbb2 hg2 hz ?_; unfold Ext; repeat (first | exact hx2 | exact Below.refl _ _ | refine Below.drew ?_ | refine Below.alloc ?_ (by first | exact Nat.le_refl _ | exact Below.size hx2 | simp) _)); have hx2 := hxx2.1; have qb2 : Below w.heap.size w w2 := Below.trans (And.left (by assumption)) (hbb2.mono (Below.size (And.left (by assumption)))); have qa2 : w2.cell? ⟨w.heap.size, 0, none⟩ = some (.slice af fs.length cf) := Ext.cell hx2 k0; have qc2 : w2.cell? ⟨w.heap.size, 1, none⟩ = some (.slice ac cs.length cc) := Ext.cell hx2 k1) | (refine step_append_empty rfl (.tmp 7) (.tmp 9) 23 rfl 41 i1 _ 4 48 ul_choices hi1 hz1 hs1 hb1 (by decide) _ ac cs.length cc (cs.flatMap Ch.cells) rfl rfl ?_ Nac.out (by omega) (by omega) ?_; (exact Hc.out.below (And.left (by assumption))); intro ad3 cap3 w3 hsl3 hg3 hbb3; have hxx3 : Ext W0 w3 ∧ (cs.length = 0 ∨ ∃ g, ad3 = some ⟨g, 0, none⟩ ∧ w.heap.size + 1 < g) := (by refine Ext.stepg hbb3 hg3 hz ?_; unfold Ext; repeat (first | exact hx2 | exact Below.refl _ _ | refine Below.drew ?_ | refine Below.alloc ?_ (by first | exact Nat.le_refl _ | exact Below.size hx2 | simp) _)); have hx3 := hxx3.1; have qb3 : Below w.heap.size w w3 := Below.trans (And.left (by assumption)) (hbb3.mono (Below.size (And.left (by assumption)))); have qa3 : w3.cell? ⟨w.heap.size, 0, none⟩ = some (.slice af fs.length cf) := Ext.cell hx3 k0; have qc3 : w3.cell? ⟨w.heap.size, 1, none⟩ = some (.slice ac cs.length cc) := Ext.cell hx3 k1; have r3 := Ext.cell hx3 r0; have r4 := Ext.cell hx3 r1; have z3 : w3.frozen? ⟨w.heap.size + 1, 0, none⟩ = false := (hx3.below.frozen (p := ⟨w.heap.size + 1, 0, none⟩) hz).trans z0; have z4 : w3.frozen? ⟨w.heap.size + 1, 1, none⟩ = false := (hx3.below.frozen (p := ⟨w.heap.size + 1, 1, none⟩) hz).trans z1))
  all_goals
    go_wp2
    have HS := Lib.hid ((B1.out.below hx3).store (.slice ad2 fs.length cap2) (.slice ad3 cs.length cap3))
    have s2 : Sl w3 (.slice ad2 fs.length cap2) 3 fs.length (fs.flatMap Fx.cells) := by first | exact hsl2.below hbb3 | exact (hsl2.below ((Below.refl _ _).alloc (Nat.le_refl _) _)).below hbb3
    have HP : Hid (TwinPost w fs cs (.returned (.agg #[.slice ad2 fs.length cap2, .slice ad3 cs.length cap3])) ((w3.setCell ⟨w.heap.size + 1, 0, none⟩ (.slice ad2 fs.length cap2)).setCell ⟨w.heap.size + 1, 1, none⟩ (.slice ad3 cs.length cap3))) :=
      ⟨ad2, cap2, ad3, cap3, rfl, s2.stored hxx2.2 _ _, hsl3.stored hxx3.2 _ _, below_store qb3 (by omega) _ _⟩
    obtain ⟨W3, hW3⟩ : ∃ W3, W3 = (w3.setCell ⟨w.heap.size + 1, 0, none⟩ (.slice ad2 fs.length cap2)).setCell ⟨w.heap.size + 1, 1, none⟩ (.slice ad3 cs.length cap3) := ⟨_, rfl⟩
    rw [← hW3]
    rw [← hW3] at HS HP
    refine bodyPost_ret (v := .agg #[.slice ad2 fs.length cap2, .slice ad3 cs.length cap3]) (by simp [results, Try.results5, go_sem, HS.out.cell0, HS.out.cell1]) rfl HP.out
end Go.Proofs.Ytofbngpckllkoaa

namespace Go.Proofs.Ytofbngpckllkoaa
open Go.RowKit

def fxSum : List Fx → Nat
  | [] => 0
  | f :: l => f.nm.size + f.vl.size + fxSum l
def chSum : List Ch → Nat
  | [] => 0
  | f :: l => f.pt.size + f.nm.size + chSum l
theorem fxSum_append (l m : List Fx) : fxSum (l ++ m) = fxSum l + fxSum m := by
  induction l with
  | nil => simp [fxSum]
  | cons a l ih => simp [fxSum, ih]; omega
theorem chSum_append (l m : List Ch) : chSum (l ++ m) = chSum l + chSum m := by
  induction l with
  | nil => simp [chSum]
  | cons a l ih => simp [chSum, ih]; omega
theorem fxSum_le (l : List Fx) (h : ∀ f ∈ l, f.small) : fxSum l ≤ l.length * 2200000 := by
  induction l with
  | nil => simp [fxSum]
  | cons a l ih =>
    have h1 := h a (by simp)
    have h2 := ih (fun f hf => h f (by simp [hf]))
    simp only [fxSum, List.length_cons, Fx.small] at *
    omega
theorem chSum_le (l : List Ch) (h : ∀ f ∈ l, f.small) : chSum l ≤ l.length * 2200000 := by
  induction l with
  | nil => simp [chSum]
  | cons a l ih =>
    have h1 := h a (by simp)
    have h2 := ih (fun f hf => h f (by simp [hf]))
    simp only [chSum, List.length_cons, Ch.small] at *
    omega
theorem fxSum_snoc {l : List Fx} {k : Nat} {f : Fx} (h : l[k]? = some f) : fxSum (l.take (k + 1)) = fxSum (l.take k) + (f.nm.size + f.vl.size) := by
  rw [List.take_add_one, h, fxSum_append]; simp [fxSum]
theorem chSum_snoc {l : List Ch} {k : Nat} {f : Ch} (h : l[k]? = some f) : chSum (l.take (k + 1)) = chSum (l.take k) + (f.pt.size + f.nm.size) := by
  rw [List.take_add_one, h, chSum_append]; simp [chSum]
def greatB (fs : List Fx) (cs : List Ch) : Bool := decide (1100 < fs.length ∨ 1100 < cs.length ∨ 20000 < fxSum fs + chSum cs)

set_option maxHeartbeats 4000000 in
set_option maxRecDepth 100000 in
theorem great_loop (fs : List Fx) (cs : List Ch) (af ac : Option Addr) (cf cc : Nat) (w : World) (_hn : fs.length ≤ 1100000) (_hm : cs.length ≤ 1100000)
    (hf : Rd Fx.cells 3 w af fs) (hc : Rd Ch.cells 4 w ac cs) (hfs : ∀ f ∈ fs, f.small) (hcs : ∀ c ∈ cs, c.small) (h1 : ¬ 1100 < fs.length) (h2 : ¬ 1100 < cs.length) :
    Calls Try.prog 4 #[.agg #[.slice af fs.length cf, .slice ac cs.length cc]] w fun e w' => e = .returned (.bool (greatB fs cs)) ∧ Below w.heap.size w w' := by
  have hbw := fun a => below_a1 w a
  have t1 : decide ((1100 : Int) < (fs.length : Int)) = false := by rw [decide_eq_false_iff_not]; omega
  have t2 : decide ((1100 : Int) < (cs.length : Int)) = false := by rw [decide_eq_false_iff_not]; omega
  have HL : Hid (fs.length ≤ 1100 ∧ cs.length ≤ 1100) := ⟨by omega, by omega⟩
  have h1' : fs.length ≤ 1100 := by omega
  have h2' : cs.length ≤ 1100 := by omega
  have Rfs := Lib.hid hf
  have Rcs := Lib.hid hc
  have Hfs := Lib.hid hfs
  have Hcs := Lib.hid hcs
  clear hf hc hfs hcs h1 h2
  go_enter Try.func4, Try.ntmps4
  go_upto_block 0 with fail
  clear t1 t2
  go_cut [3, 4] from 16 to 39 (fun s _ wc => ∃ S0 : Nat, s = .int .i64 S0 ∧ Hid (S0 = fxSum fs) ∧ S0 ≤ 2420000000 ∧ Below w.heap.size w wc ∧ (wc.cell? ⟨w.heap.size, 0, none⟩ = some (.slice af fs.length cf) ∧ wc.cell? ⟨w.heap.size, 1, none⟩ = some (.slice ac cs.length cc)))
  case first =>
    go_wp2_with fail
    go_loopw [3, 4] (fun s i wr => ∃ (k S : Nat), k ≤ fs.length ∧ i = .int .i64 k ∧ s = .int .i64 S ∧ Hid (S = fxSum (fs.take k)) ∧ S ≤ k * 2200000 ∧ Below w.heap.size w wr ∧ (wr.cell? ⟨w.heap.size, 0, none⟩ = some (.slice af fs.length cf) ∧ wr.cell? ⟨w.heap.size, 1, none⟩ = some (.slice ac cs.length cc))) (fun _ i _ => fs.length - (intOf i).toNat)
    case atStart => exact ⟨0, 0, Nat.zero_le _, rfl, rfl, Lib.hid rfl, by omega, hbw _, by go_simp, by go_simp⟩
    case round =>
      obtain ⟨k, S, hk, rfl, rfl, HS, hSk, hbel, b0, b1⟩ := hrel
      by_cases hlt : k < fs.length
      · obtain ⟨f, hf⟩ : ∃ f, fs[k]? = some f := ⟨_, List.getElem?_eq_getElem hlt⟩
        have HRf := ((Rfs.out.below hbel).fx hf)
        have hsm := Hfs.out f (List.mem_of_getElem? hf)
        have HT := Lib.hid (fxSum_snoc hf)
        clear hf
        obtain ⟨b, off, rfl, hc1, hc2, hc3⟩ := HRf
        have hA : f.nm.size ≤ 1100000 := hsm.1
        have hB : f.vl.size ≤ 1100000 := hsm.2
        clear hsm
        have hk1 : (0 : Int) ≤ (k : Int) := by omega
        have hk2 : (k : Int) < (fs.length : Int) := by omega
        have e1 : IntKind.i64.wrap ((S : Int) + (f.nm.size : Int)) = (S : Int) + (f.nm.size : Int) := IntWalk.i64_in _ (by omega)
        have e2 : IntKind.i64.wrap ((S : Int) + (f.nm.size : Int) + (f.vl.size : Int)) = (S : Int) + (f.nm.size : Int) + (f.vl.size : Int) := IntWalk.i64_in _ (by omega)
        have HS2 : Hid (S + f.nm.size + f.vl.size = fxSum (fs.take (k + 1))) := by show _ = _; have h1 := HS.out; have h2 := HT.out; omega
        go_wp2
        go_quiet (fail)
        clear e1 e2
        go_wp2
        go_roundw
        case rel => exact ⟨k + 1, S + f.nm.size + f.vl.size, by omega, by go_num, by go_num, HS2, by omega, below_drewN hbel _, by first | assumption | go_simp, by first | assumption | go_simp⟩
        case measure => simp [intOf]; omega
      · obtain rfl : k = fs.length := by omega
        have HS2 : Hid (S = fxSum fs) := by have h := HS.out; rw [List.take_length] at h; exact h
        clear HS hlt hk
        go_wp2
        go_meet
        exact ⟨S, rfl, HS2, by omega, hbel, b0, b1⟩
  case rest =>
    obtain ⟨S0, rfl, HS0, hS0, hbel, b0, b1⟩ := hcut
    go_wp2
    go_loopw [3, 5] (fun s i wr => ∃ (k S : Nat), k ≤ cs.length ∧ i = .int .i64 k ∧ s = .int .i64 S ∧ Hid (S = S0 + chSum (cs.take k)) ∧ S ≤ 2420000000 + k * 2200000 ∧ Below w.heap.size w wr ∧ (wr.cell? ⟨w.heap.size, 0, none⟩ = some (.slice af fs.length cf) ∧ wr.cell? ⟨w.heap.size, 1, none⟩ = some (.slice ac cs.length cc))) (fun _ i _ => cs.length - (intOf i).toNat)
    case atStart => exact ⟨0, S0, Nat.zero_le _, rfl, rfl, Lib.hid rfl, by omega, hbel, b0, b1⟩
    case round =>
      clear hbel b0 b1
      obtain ⟨k, S, hk, rfl, rfl, HS, hSk, hbel, b0, b1⟩ := hrel
      by_cases hlt : k < cs.length
      · obtain ⟨f, hf⟩ : ∃ f, cs[k]? = some f := ⟨_, List.getElem?_eq_getElem hlt⟩
        have HRf := ((Rcs.out.below hbel).ch hf)
        have hsm := Hcs.out f (List.mem_of_getElem? hf)
        have HT := Lib.hid (chSum_snoc hf)
        clear hf
        obtain ⟨b, off, rfl, hc1, hc2, hc3, hc4⟩ := HRf
        have hA : f.pt.size ≤ 1100000 := hsm.1
        have hB : f.nm.size ≤ 1100000 := hsm.2
        clear hsm
        have hk1 : (0 : Int) ≤ (k : Int) := by omega
        have hk2 : (k : Int) < (cs.length : Int) := by omega
        have e1 : IntKind.i64.wrap ((S : Int) + (f.pt.size : Int)) = (S : Int) + (f.pt.size : Int) := IntWalk.i64_in _ (by omega)
        have e2 : IntKind.i64.wrap ((S : Int) + (f.pt.size : Int) + (f.nm.size : Int)) = (S : Int) + (f.pt.size : Int) + (f.nm.size : Int) := IntWalk.i64_in _ (by omega)
        have HS2 : Hid (S + f.pt.size + f.nm.size = S0 + chSum (cs.take (k + 1))) := by show _ = _; have h1 := HS.out; have h2 := HT.out; omega
        go_wp2
        go_quiet (fail)
        clear e1 e2
        go_wp2
        go_roundw
        case rel => exact ⟨k + 1, S + f.pt.size + f.nm.size, by omega, by go_num, by go_num, HS2, by omega, below_drewN hbel _, by first | assumption | go_simp, by first | assumption | go_simp⟩
        case measure => simp [intOf]; omega
      · obtain rfl : k = cs.length := by omega
        have HS2 : Hid (S = S0 + chSum cs) := by have h := HS.out; rw [List.take_length] at h; exact h
        clear HS hlt hk
        have HR : Hid (greatB fs cs = decide ((20000 : Int) < (S : Int))) := by
          show _ = _
          rw [greatB, Bool.eq_iff_iff, decide_eq_true_eq, decide_eq_true_eq]
          have h1 := HS0.out
          have h2 := HS2.out
          have h3 := HL.out
          omega
        go_wp2
        go_ret
        exact ⟨ret_bool' HR.out.symm, hbel⟩

set_option maxHeartbeats 1000000 in
set_option maxRecDepth 100000 in
theorem great_any (fs : List Fx) (cs : List Ch) (af ac : Option Addr) (cf cc : Nat) (w : World) (hn : fs.length ≤ 1100000) (hm : cs.length ≤ 1100000)
    (hf : Rd Fx.cells 3 w af fs) (hc : Rd Ch.cells 4 w ac cs) (hfs : ∀ f ∈ fs, f.small) (hcs : ∀ c ∈ cs, c.small) :
    Calls Try.prog 4 #[.agg #[.slice af fs.length cf, .slice ac cs.length cc]] w fun e w' => e = .returned (.bool (greatB fs cs)) ∧ Below w.heap.size w w' := by
  by_cases h1 : 1100 < fs.length
  · have HR : Hid (greatB fs cs = true) := by show _ = _; rw [greatB, decide_eq_true_eq]; exact .inl h1
    have t1 : decide ((1100 : Int) < (fs.length : Int)) = true := by rw [decide_eq_true_eq]; omega
    clear h1 hf hc hfs hcs
    go_enter Try.func4, Try.ntmps4
    go_wp2
    go_ret
    exact ⟨ret_bool' HR.out.symm, below_a1 _ _⟩
  · by_cases h2 : 1100 < cs.length
    · have HR : Hid (greatB fs cs = true) := by show _ = _; rw [greatB, decide_eq_true_eq]; exact .inr (.inl h2)
      have t1 : decide ((1100 : Int) < (fs.length : Int)) = false := by rw [decide_eq_false_iff_not]; omega
      have t2 : decide ((1100 : Int) < (cs.length : Int)) = true := by rw [decide_eq_true_eq]; omega
      clear h1 h2 hf hc hfs hcs
      go_enter Try.func4, Try.ntmps4
      go_wp2
      go_ret
      exact ⟨ret_bool' HR.out.symm, below_a1 _ _⟩
    · exact great_loop fs cs af ac cf cc w hn hm hf hc hfs hcs h1 h2
end Go.Proofs.Ytofbngpckllkoaa
