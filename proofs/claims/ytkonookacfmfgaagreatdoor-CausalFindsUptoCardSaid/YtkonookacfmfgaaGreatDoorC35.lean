/-
  causal.visit and its walk: each part is noted, in the order of the text.
-/
import Derived.Test.YtkonookacfmfgaaGreatDoorC07
import Derived.Test.YtkonookacfmfgaaGreatDoorC34
import Derived.Test.YtkonookacfmfgaaGreatDoorC06
import Derived.Laws.EntriesVeiled
import Derived.Deep.CutBlock
namespace Go.Proofs.YtkonookacfmfgaaGreatDoor
open Go.RowKit Go.Shelf
theorem Con.evss_take {l : List Con} {k : Nat} {x : Con} (h : l[k]? = some x) (ds : List Int) : ∃ r, Con.evss l ds = Con.evss (l.take k) ds ++ (x.evs ds ++ r) := by
 refine ⟨Con.evss (l.drop (k + 1)) ds, ?_⟩
 rw [← List.append_assoc, ← Con.evss_snoc h, ← Con.evss_append, List.take_append_drop]
theorem ext_sameE {P : Program} {f : FuncId} {args : Array Value} {v : Value} {w : World} (h : ∀ W, Ext w W → Calls P f args W fun e w' => e = .returned v ∧ W = w') (W : World) (hW : Ext w W) :
  Calls P f args W fun e w'' => e = .returned v ∧ Ext w w'' :=
 (h W hW).mono fun _ _ ⟨he, hb⟩ => ⟨he, hb ▸ hW⟩
def Con.rising (c : Con) : Prop := ∀ x ∈ c.nodes, x.ds.Pairwise (· < ·)
theorem Con.rising_sub {c y : Con} (h : c.rising) {k : Nat} (hy : c.sub[k]? = some y) : y.rising := fun x hx => by
 obtain ⟨r, hr⟩ := Con.nodess_take hy
 exact h x (by rw [Con.nodes_eq, hr]; simp [hx])
def SwRel (w0 : World) (D Bo : Nat) (J : List Ev → World → Prop) (pre : List Ev) (c : Con) (ds : List Int) (d0 : Int) (W : World) (es dd ss : Value) (v7 : Value) (wc : World) : Prop :=
 J (pre ++ headEv c ds d0) wc ∧ KeptO w0.heap.size D Bo W wc ∧ DaysAt w0.heap.size D Bo wc (innerD c ds d0) v7 ∧ CBox wc W.heap.size c es dd ss ∧ Prv D Bo wc W.heap.size
set_option maxHeartbeats 4000000 in
set_option maxRecDepth 100000 in
theorem vwalk_any (w0 : World) (D Bo Bv Bw : Nat) (full : List Ev) (J : List Ev → World → Prop) (fe fc fp : Nat) (ce cc cp : Array Value) (hV : VisOk w0 D Bo full J fe fc fp ce cc cp) :
  ∀ (N : Nat) (c : Con) (es dd ss : Value) (ds : List Int) (v : Value) (pre : List Ev) (W : World), c.bulk ≤ N → c.bulk ≤ 2000000 → c.rising → ds.length ≤ 2000000 → RdN w0 c es dd ss → Below w0.heap.size w0 W → D ≤ W.heap.size → J pre W →
   DaysAt w0.heap.size D Bo W ds v → pre ++ c.evs ds <+: full → Prv D Bo W Bv → Prv D Bo W Bw →
   W.cell? ⟨Bv, 0, none⟩ = some (.func (.func fe) #[] ce) → W.cell? ⟨Bv, 1, none⟩ = some (.func (.func fc) #[] cc) → W.cell? ⟨Bv, 2, none⟩ = some (.func (.func fp) #[] cp) →
   W.cell? ⟨Bw, 0, none⟩ = some (.func (.func 47) #[] #[.pointer (some ⟨Bv, 0, none⟩), .pointer (some ⟨Bw, 0, none⟩)]) →
   Calls Tryz.prog 47 #[c.val es dd ss, v, .pointer (some ⟨Bv, 0, none⟩), .pointer (some ⟨Bw, 0, none⟩)] W fun e W' => e = .returned (.tuple #[]) ∧ J (pre ++ c.evs ds) W' ∧ KeptO w0.heap.size D Bo W W' := by
 intro N
 induction N with
 | zero =>
  intro c es dd ss ds v pre W h0
  rw [Con.bulk_eq] at h0
  omega
 | succ N ih =>
  intro c es dd ss ds v pre W hN hB hri hdl hr hbW hDW hJ hdv hpf hpv hpw v0 v1 v2 v3
  obtain ⟨ad, cap, rfl⟩ := hr.2.2.1.len
  obtain ⟨ad1, cap1, rfl⟩ := hr.1.len
  obtain ⟨ad2, cap2, rfl⟩ := hr.2.1.len
  have hbo := hV.box _ _ hJ
  have hob := hV.own _ _ hJ
  cases ds with
  | nil =>
   obtain ⟨advs, capv, rfl⟩ := hdv.1.len
   have hK : KeptO w0.heap.size D Bo W (W.alloc (.cells #[.int .u8 c.k, .string c.fr, .string c.rc, .string c.nm, .int .u8 c.ex.k, .string c.ex.ra, .string c.ex.nm, .int .i64 c.ex.d, .slice ad1 c.ex.sub.length cap1, .int .i64 c.d, .slice ad2 c.ds.length cap2, .slice ad c.sub.length cap] 29)) := KeptO.of_below hbW.size hbo (below_a1 _ _)
   have hJ2 := hV.frame _ _ _ hJ (below_a1 W (.cells #[.int .u8 c.k, .string c.fr, .string c.rc, .string c.nm, .int .u8 c.ex.k, .string c.ex.ra, .string c.ex.nm, .int .i64 c.ex.d, .slice ad1 c.ex.sub.length cap1, .int .i64 c.d, .slice ad2 c.ds.length cap2, .slice ad c.sub.length cap] 29))
   rw [Con.evs_nil, List.append_nil]
   unfold Con.val
   clear hpf hdv hob hri hr hJ v0 v1 v2 v3
   go_enter Tryz.func47, Tryz.ntmps47
   go_wp2_with fail
   refine bodyPost_ret (results_none rfl _ _ _) rfl ?_
   exact ⟨rfl, hJ2, hK⟩
  | cons d0 dr =>
   obtain ⟨advs, capv, rfl⟩ := hdv.1.len
   have tl : ((dr.length : Int) + 1 == 0) = false := by simp; omega
   have HBX := CBox.new W c (.slice ad1 c.ex.sub.length cap1) (.slice ad2 c.ds.length cap2) (.slice ad c.sub.length cap) 29
   have hbA := below_a1 W (.cells #[.int .u8 c.k, .string c.fr, .string c.rc, .string c.nm, .int .u8 c.ex.k, .string c.ex.ra, .string c.ex.nm, .int .i64 c.ex.d, .slice ad1 c.ex.sub.length cap1, .int .i64 c.d, .slice ad2 c.ds.length cap2, .slice ad c.sub.length cap] 29)
   have hK0 : KeptO w0.heap.size D Bo W (W.alloc (.cells #[.int .u8 c.k, .string c.fr, .string c.rc, .string c.nm, .int .u8 c.ex.k, .string c.ex.ra, .string c.ex.nm, .int .i64 c.ex.d, .slice ad1 c.ex.sub.length cap1, .int .i64 c.d, .slice ad2 c.ds.length cap2, .slice ad c.sub.length cap] 29)) := KeptO.of_below hbW.size hbo hbA
   have hPB := Prv.new hDW hbo hob (.cells #[.int .u8 c.k, .string c.fr, .string c.rc, .string c.nm, .int .u8 c.ex.k, .string c.ex.ra, .string c.ex.nm, .int .i64 c.ex.d, .slice ad1 c.ex.sub.length cap1, .int .i64 c.d, .slice ad2 c.ds.length cap2, .slice ad c.sub.length cap] 29)
   have hJ0 := hV.frame _ _ _ hJ hbA
   have hdsr := hri c (by rw [Con.nodes_eq]; exact List.mem_cons_self ..)
   have hbq := c.bulk_eq
   have hcdl : c.ds.length ≤ 2000000 := by omega
   have hxb : c.ex.bulk ≤ 2000000 := by omega
   have hll : (laterD c.ds d0).length ≤ 2000000 := Nat.le_trans (laterD_len c.ds d0) hcdl
   obtain ⟨b0, o0, hb00, hc00⟩ : ∃ b0 o0, advs = some ⟨b0, o0, none⟩ ∧ W.cell? ⟨b0, o0, none⟩ = some (.int .i64 d0) := by
    obtain ⟨ad', cap', he, _, h2⟩ := hdv.1
    obtain ⟨rfl, _, rfl⟩ := Value.slice.inj he
    exact h2 0 d0 rfl
   have hb0l : b0 < W.heap.size := World.block_lt_of_cell? W _ hc00
   have HFr := Lib.hid (fun W' (hW' : Ext (W.alloc (.cells #[.int .u8 c.k, .string c.fr, .string c.rc, .string c.nm, .int .u8 c.ex.k, .string c.ex.ra, .string c.ex.nm, .int .i64 c.ex.d, .slice ad1 c.ex.sub.length cap1, .int .i64 c.d, .slice ad2 c.ds.length cap2, .slice ad c.sub.length cap] 29)) W') => from_any c.ds d0 ad2 cap2 W' hcdl hdsr (hr.2.1.frame ((hbW.trans hK0.below).trans (Below.mono hW' (by have := hbW.size; simp; omega)))))
   clear hbq
   subst hb00
   unfold Con.val
   go_enter Tryz.func47, Tryz.ntmps47
   go_upto_region 2 with fail
   refine wp_region_ext (fun W' => W'.cell? ⟨W.heap.size, 10, none⟩ = some (.slice ad2 c.ds.length cap2) ∧ W'.cell? ⟨b0, o0, none⟩ = some (.int .i64 d0)) (fun W' hW' => ⟨hW'.cell (by go_simp), hW'.cell (by go_simp)⟩) (by kernel_rfl) (by kernel_rfl) ?_
   intro HCW
   repeat (first | go_big_quiet_skip | (go_big_quiet_want; apply Exists.intro; refine ⟨fun W hW => ?_, ?_⟩; (focus (obtain ⟨q0, q1⟩ := HCW W hW; go_simp; first | done | rfl | with_reducible exact ext_sameE HFr.out W hW)); (simp only [Act.put, List.setIfInBounds_toArray, List.set_cons_zero, List.set_cons_succ]); go_big_quiet_on))
   refine wpQuiet_nil ?_
   intro W1 hW1
   have hW1 := hW1.below
   have hJ1 := hV.frame _ _ _ hJ0 hW1
   have hbo0 := hV.box _ _ hJ0
   have hK1 := hK0.trans (KeptO.of_below (by have := hbW.size; simp; omega) hbo0 hW1)
   have hdv1 := hdv.kept hK1
   have hpv1 := hpv.kept hK1
   have hpw1 := hpw.kept hK1
   have hPB1 := hPB.low hbo0 hW1
   have hBX1 := HBX.low hW1
   have hlt1 : DaysAt w0.heap.size D Bo W1 (laterD c.ds d0) (laterV c.ds d0 ad2 cap2) := ⟨laterV_rd hdsr (hr.2.1.frame (hbW.trans hK1.below)), fun hne0 b hb => by
    have h2 : c.ds.length ≠ 0 → b < w0.heap.size := fun hne => by
     obtain ⟨ad', cap', he, _, h3⟩ := hr.2.1
     obtain ⟨rfl, _, rfl⟩ := Value.slice.inj he
     obtain ⟨x, hx⟩ : ∃ x, c.ds[0]? = some x := ⟨_, List.getElem?_eq_getElem (by omega)⟩
     obtain ⟨b', o', rfl, hc⟩ := h3 0 x hx
     have h4 := laterV_own hb
     cases h4
     exact World.block_lt_of_cell? w0 _ hc
    refine .inl (h2 fun h0 => hne0 ?_)
    rw [List.eq_nil_of_length_eq_zero h0]; rfl⟩
   obtain ⟨c0, c1, c2, c3, c4, c5, c6, c7, c8, c9, c10, c11⟩ := hBX1
   have hlB : W.heap.size < W1.heap.size := World.block_lt_of_cell? W1 _ c0
   clear HCW HFr hW1 hb0l
   go_upto_block 0 with fail
   have HPF : Hid (pre ++ headEv c (d0 :: dr) d0 <+: full) := Lib.hid (by
    obtain ⟨r, hr⟩ := hpf
    rw [Con.evs_cons] at hr
    exact ⟨Con.evss c.sub (innerD c (d0 :: dr) d0) ++ r, by rw [← hr]; simp [List.append_assoc]⟩)
   have HBX1 : Hid (CBox W1 W.heap.size c (.slice ad1 c.ex.sub.length cap1) (.slice ad2 c.ds.length cap2) (.slice ad c.sub.length cap)) := Lib.hid ⟨c0, c1, c2, c3, c4, c5, c6, c7, c8, c9, c10, c11⟩
   have HEx := Lib.hid hV.expr
   have HCh := Lib.hid hV.choice
   have HPy := Lib.hid hV.pay
   have hee := hV.ee
   have hec := hV.ec
   have hep := hV.ep
   unfold Ex.val at HEx
   have HVC : Hid (∀ W2, KeptO w0.heap.size D Bo W W2 → W2.cell? ⟨Bv, 0, none⟩ = some (.func (.func fe) #[] ce) ∧ W2.cell? ⟨Bv, 1, none⟩ = some (.func (.func fc) #[] cc) ∧ W2.cell? ⟨Bv, 2, none⟩ = some (.func (.func fp) #[] cp) ∧
     W2.cell? ⟨Bw, 0, none⟩ = some (.func (.func 47) #[] #[.pointer (some ⟨Bv, 0, none⟩), .pointer (some ⟨Bw, 0, none⟩)]) ∧ Bv < W2.heap.size ∧ Bw < W2.heap.size ∧ Below w0.heap.size w0 W2 ∧ D ≤ W2.heap.size) := Lib.hid fun W2 k =>
    ⟨hpv.cell k v0, hpv.cell k v1, hpv.cell k v2, hpw.cell k v3, (hpv.kept k).2.1, (hpw.kept k).2.1, hbW.trans k.below, Nat.le_trans hDW k.below.size⟩
   obtain ⟨u0, u1, u2, u3, hlv, hlw, hbw1, hD1⟩ := HVC.out W1 hK1
   clear v0 v1 v2 v3 HBX hJ hdv hJ0 hK0 hPB hc00
   go_cut [7] from 22 to 91 (fun v7 wc => SwRel w0 D Bo J pre c (d0 :: dr) d0 W (.slice ad1 c.ex.sub.length cap1) (.slice ad2 c.ds.length cap2) (.slice ad c.sub.length cap) v7 wc)
   case first =>
    clear ih
    have hkk : c.k = 2 ∨ c.k = 4 ∨ c.k = 5 ∨ c.k = 6 ∨ c.k = 7 ∨ c.k = 8 ∨ c.k = 9 ∨ c.k = 10 ∨ (c.k ≠ 2 ∧ c.k ≠ 4 ∧ c.k ≠ 5 ∧ c.k ≠ 6 ∧ c.k ≠ 7 ∧ c.k ≠ 8 ∧ c.k ≠ 9 ∧ c.k ≠ 10) := by omega
    rcases hkk with hk | hk | hk | hk | hk | hk | hk | hk | hk
    ·have HH : Hid (headEv c (d0 :: dr) d0 = [.pay (d0 :: dr), .expr c.ex (d0 :: dr)] ∧ innerD c (d0 :: dr) d0 = d0 :: dr) := Lib.hid ⟨by unfold headEv; rw [if_pos (by omega)], by unfold innerD; rw [if_neg (by omega), if_neg (by omega)]⟩
     have t2 : ((c.k : Int) == 2) = true := by rw [hk]; rfl
     have t4 : ((c.k : Int) == 4) = false := by rw [hk]; rfl
     have t5 : ((c.k : Int) == 5) = false := by rw [hk]; rfl
     have t6 : ((c.k : Int) == 6) = false := by rw [hk]; rfl
     have t7 : ((c.k : Int) == 7) = false := by rw [hk]; rfl
     have t8 : ((c.k : Int) == 8) = false := by rw [hk]; rfl
     have t9 : ((c.k : Int) == 9) = false := by rw [hk]; rfl
     have t10 : ((c.k : Int) == 10) = false := by rw [hk]; rfl
     have hpf2 := HPF.out
     rw [HH.out.1] at hpf2
     clear hk
     have hpf3 : pre ++ [Ev.pay (d0 :: dr)] <+: full := by
      obtain ⟨r, hr⟩ := hpf2
      exact ⟨Ev.expr c.ex (d0 :: dr) :: r, by rw [← hr]; simp⟩
     go_wp2_with fail
     refine (HPy.out pre _ _ W1 hJ1 hbw1 hD1 hdl hdv1 hpf3).mono ?_
     rintro e W2 ⟨rfl, hJ2, hk2⟩
     obtain ⟨x0, x1, x2, x3, hlv2, hlw2, hbw2, hD2⟩ := HVC.out W2 (hK1.trans hk2)
     obtain ⟨e0, e1, e2, e3, e4, e5, e6, e7, e8, e9, e10, e11⟩ := HBX1.out.keptO hPB1 hk2
     have hlB2 : W.heap.size < W2.heap.size := World.block_lt_of_cell? W2 _ e0
     clear c0 c1 c2 c3 c4 c5 c6 c7 c8 c9 c10 c11 u0 u1 u2 u3
     go_wp2_with fail
     refine (HEx.out (pre ++ [Ev.pay (d0 :: dr)]) c.ex _ _ _ W2 hJ2 hbw2 hD2 hr.1 hxb hdl (hdv1.kept hk2) (by simpa using hpf2)).mono ?_
     rintro e W3 ⟨rfl, hJ3, hk3⟩
     have hJ3 : J (pre ++ [Ev.pay (d0 :: dr), Ev.expr c.ex (d0 :: dr)]) W3 := by simpa using hJ3
     have hk3 := hk2.trans hk3
     clear e0 e1 e2 e3 e4 e5 e6 e7 e8 e9 e10 e11 x0 x1 x2 x3 hk2 hJ2
     go_wp2_with fail
     go_meet
     exact ⟨by rw [HH.out.1]; exact hJ3, hK1.trans hk3, by rw [HH.out.2]; exact hdv1.kept hk3, HBX1.out.keptO hPB1 hk3, hPB1.kept hk3⟩
    ·have HH : Hid (headEv c (d0 :: dr) d0 = [.expr c.ex (d0 :: dr)] ∧ innerD c (d0 :: dr) d0 = d0 :: dr) := Lib.hid ⟨by unfold headEv; rw [if_neg (by omega), if_pos (by omega)], by unfold innerD; rw [if_neg (by omega), if_neg (by omega)]⟩
     have t2 : ((c.k : Int) == 2) = false := by rw [hk]; rfl
     have t4 : ((c.k : Int) == 4) = true := by rw [hk]; rfl
     have t5 : ((c.k : Int) == 5) = false := by rw [hk]; rfl
     have t6 : ((c.k : Int) == 6) = false := by rw [hk]; rfl
     have t7 : ((c.k : Int) == 7) = false := by rw [hk]; rfl
     have t8 : ((c.k : Int) == 8) = false := by rw [hk]; rfl
     have t9 : ((c.k : Int) == 9) = false := by rw [hk]; rfl
     have t10 : ((c.k : Int) == 10) = false := by rw [hk]; rfl
     have hpf2 := HPF.out
     rw [HH.out.1] at hpf2
     clear hk
     go_wp2_with fail
     refine (HEx.out pre c.ex _ _ _ W1 hJ1 hbw1 hD1 hr.1 hxb hdl hdv1 hpf2).mono ?_
     rintro e W2 ⟨rfl, hJ2, hk2⟩
     go_wp2_with fail
     go_meet
     exact ⟨by rw [HH.out.1]; exact hJ2, hK1.trans hk2, by rw [HH.out.2]; exact hdv1.kept hk2, HBX1.out.keptO hPB1 hk2, hPB1.kept hk2⟩
    ·have HH : Hid (headEv c (d0 :: dr) d0 = [.expr c.ex (d0 :: dr)] ∧ innerD c (d0 :: dr) d0 = d0 :: dr) := Lib.hid ⟨by unfold headEv; rw [if_neg (by omega), if_pos (by omega)], by unfold innerD; rw [if_neg (by omega), if_neg (by omega)]⟩
     have t2 : ((c.k : Int) == 2) = false := by rw [hk]; rfl
     have t4 : ((c.k : Int) == 4) = false := by rw [hk]; rfl
     have t5 : ((c.k : Int) == 5) = true := by rw [hk]; rfl
     have t6 : ((c.k : Int) == 6) = false := by rw [hk]; rfl
     have t7 : ((c.k : Int) == 7) = false := by rw [hk]; rfl
     have t8 : ((c.k : Int) == 8) = false := by rw [hk]; rfl
     have t9 : ((c.k : Int) == 9) = false := by rw [hk]; rfl
     have t10 : ((c.k : Int) == 10) = false := by rw [hk]; rfl
     have hpf2 := HPF.out
     rw [HH.out.1] at hpf2
     clear hk
     go_wp2_with fail
     refine (HEx.out pre c.ex _ _ _ W1 hJ1 hbw1 hD1 hr.1 hxb hdl hdv1 hpf2).mono ?_
     rintro e W2 ⟨rfl, hJ2, hk2⟩
     go_wp2_with fail
     go_meet
     exact ⟨by rw [HH.out.1]; exact hJ2, hK1.trans hk2, by rw [HH.out.2]; exact hdv1.kept hk2, HBX1.out.keptO hPB1 hk2, hPB1.kept hk2⟩
    ·have HH : Hid (headEv c (d0 :: dr) d0 = [] ∧ innerD c (d0 :: dr) d0 = (if d0 ≤ c.d then [c.d] else [])) := Lib.hid ⟨by unfold headEv; rw [if_neg (by omega), if_neg (by omega), if_neg (by omega), if_neg (by omega), if_neg (by omega)], by unfold innerD; rw [if_pos hk]⟩
     have t2 : ((c.k : Int) == 2) = false := by rw [hk]; rfl
     have t4 : ((c.k : Int) == 4) = false := by rw [hk]; rfl
     have t5 : ((c.k : Int) == 5) = false := by rw [hk]; rfl
     have t6 : ((c.k : Int) == 6) = true := by rw [hk]; rfl
     have t7 : ((c.k : Int) == 7) = false := by rw [hk]; rfl
     have t8 : ((c.k : Int) == 8) = false := by rw [hk]; rfl
     have t9 : ((c.k : Int) == 9) = false := by rw [hk]; rfl
     have t10 : ((c.k : Int) == 10) = false := by rw [hk]; rfl
     have hpf2 := HPF.out
     rw [HH.out.1] at hpf2
     clear hk
     have hc01 : W1.cell? ⟨b0, o0, none⟩ = some (.int .i64 d0) := by
      obtain ⟨ad', cap', he, _, h2⟩ := hdv1.1
      obtain ⟨rfl, _, rfl⟩ := Value.slice.inj he
      obtain ⟨b', o', e', h3⟩ := h2 0 d0 rfl
      cases e'
      exact h3
     have hb01 : b0 < W1.heap.size := World.block_lt_of_cell? W1 _ hc01
     go_upto_region 13 with fail
     refine wp_region_ext (fun W' => W'.cell? ⟨W.heap.size, 9, none⟩ = some (.int .i64 c.d) ∧ W'.cell? ⟨b0, o0, none⟩ = some (.int .i64 d0)) (fun W' hW' => ⟨hW'.cell (by go_simp), hW'.cell (by go_simp)⟩) (by kernel_rfl) (by kernel_rfl) ?_
     intro HCW
     repeat (first | go_big_quiet_skip | (go_big_quiet_want; apply Exists.intro; refine ⟨fun W hW => ?_, ?_⟩; (focus (obtain ⟨q0, q1⟩ := HCW W hW; go_simp; first | done | rfl)); (simp only [Act.put, List.setIfInBounds_toArray, List.set_cons_zero, List.set_cons_succ]); go_big_quiet_on))
     refine wpQuiet_nil ?_
     intro W2 hW2
     have hW2 := hW2.below
     have hbo1 := hV.box _ _ hJ1
     have hJ2 := hV.frame _ _ _ hJ1 hW2
     have hk2 : KeptO w0.heap.size D Bo W1 W2 := KeptO.of_below hbw1.size hbo1 hW2
     have hbo2 := hV.box _ _ hJ2
     have hob2 := hV.own _ _ hJ2
     have hD2 : D ≤ W2.heap.size := Nat.le_trans hD1 hW2.size
     have hz2 := (hbw1.trans hk2.below).size
     have e9 : W2.cell? ⟨W.heap.size, 9, none⟩ = some (.int .i64 c.d) := hPB1.cell hk2 c9
     have hlB2 : W.heap.size < W2.heap.size := World.block_lt_of_cell? W2 _ e9
     have hPN := Prv.new hD2 hbo2 hob2 (.cells #[.int .i64 c.d] 3)
     have hk3 : KeptO w0.heap.size D Bo W2 (W2.alloc (.cells #[.int .i64 c.d] 3)) := KeptO.of_below hz2 hbo2 (below_a1 _ _)
     have hJ3 := hV.frame _ _ _ hJ2 (below_a1 W2 (.cells #[.int .i64 c.d] 3))
     have hk23 := hk2.trans hk3
     have hcN : (W2.alloc (.cells #[.int .i64 c.d] 3)).cell? ⟨W2.heap.size, 0, none⟩ = some (.int .i64 c.d) := by go_simp
     have hdN : DaysAt w0.heap.size D Bo (W2.alloc (.cells #[.int .i64 c.d] 3)) [c.d] (.slice (some ⟨W2.heap.size, 0, none⟩) 1 1) :=
      ⟨⟨_, _, rfl, ⟨Nat.le_refl _, fun h => by cases h⟩, fun j x hj => by
       cases j with
       | zero => cases hj; exact ⟨_, _, rfl, hcN⟩
       | succ j => simp at hj⟩, fun _ b hb => by cases hb; exact .inr hPN⟩
     have hd0 : DaysAt w0.heap.size D Bo W2 [] (.slice none 0 0) := ⟨⟨none, 0, rfl, ⟨Nat.le_refl _, fun _ => rfl⟩, fun j x hj => by simp at hj⟩, fun _ b hb => by cases hb⟩
     have HY : Hid (SwRel w0 D Bo J pre c (d0 :: dr) d0 W (.slice ad1 c.ex.sub.length cap1) (.slice ad2 c.ds.length cap2) (.slice ad c.sub.length cap) (.slice (some ⟨W2.heap.size, 0, none⟩) 1 1) (W2.alloc (.cells #[.int .i64 c.d] 3)) ∨ ¬ d0 ≤ c.d) := Lib.hid (by
      by_cases hd : d0 ≤ c.d
      ·exact .inl ⟨by rw [HH.out.1, List.append_nil]; exact hJ3, hK1.trans hk23, by rw [HH.out.2, if_pos hd]; exact hdN, HBX1.out.keptO hPB1 hk23, hPB1.kept hk23⟩
      ·exact .inr hd)
     have HN : Hid (¬ d0 ≤ c.d → SwRel w0 D Bo J pre c (d0 :: dr) d0 W (.slice ad1 c.ex.sub.length cap1) (.slice ad2 c.ds.length cap2) (.slice ad c.sub.length cap) (.slice none 0 0) W2) := Lib.hid fun hd =>
      ⟨by rw [HH.out.1, List.append_nil]; exact hJ2, hK1.trans hk2, by rw [HH.out.2, if_neg hd]; exact hd0, HBX1.out.keptO hPB1 hk2, hPB1.kept hk2⟩
     clear hJ2 hJ3 hk2 hk3 hk23 hdN hd0 hPN hcN hW2 c0 c1 c2 c3 c4 c5 c6 c7 c8 c9 c10 c11 u0 u1 u2 u3 HCW
     by_cases hd : d0 ≤ c.d
     ·have hY := HY.out.resolve_right (fun h => h hd)
      have HY2 := Lib.hid hY
      clear HY HN hY
      go_wp2_with fail
      go_meet
      exact HY2.out
     ·have HN2 := Lib.hid (HN.out hd)
      have td : decide (d0 ≤ c.d) = false := by rw [decide_eq_false_iff_not]; exact hd
      clear HY HN
      go_wp2_with fail
      go_meet
      exact HN2.out
    ·have HH : Hid (headEv c (d0 :: dr) d0 = [.choice c.fr c.nm (d0 :: dr)] ∧ innerD c (d0 :: dr) d0 = d0 :: dr) := Lib.hid ⟨by unfold headEv; rw [if_neg (by omega), if_neg (by omega), if_pos (by omega)], by unfold innerD; rw [if_neg (by omega), if_neg (by omega)]⟩
     have t2 : ((c.k : Int) == 2) = false := by rw [hk]; rfl
     have t4 : ((c.k : Int) == 4) = false := by rw [hk]; rfl
     have t5 : ((c.k : Int) == 5) = false := by rw [hk]; rfl
     have t6 : ((c.k : Int) == 6) = false := by rw [hk]; rfl
     have t7 : ((c.k : Int) == 7) = true := by rw [hk]; rfl
     have t8 : ((c.k : Int) == 8) = false := by rw [hk]; rfl
     have t9 : ((c.k : Int) == 9) = false := by rw [hk]; rfl
     have t10 : ((c.k : Int) == 10) = false := by rw [hk]; rfl
     have hpf2 := HPF.out
     rw [HH.out.1] at hpf2
     clear hk
     go_wp2_with fail
     refine (HCh.out pre c.fr c.nm _ _ W1 hJ1 hbw1 hD1 hdl hdv1 hpf2).mono ?_
     rintro e W2 ⟨rfl, hJ2, hk2⟩
     go_wp2_with fail
     go_meet
     exact ⟨by rw [HH.out.1]; exact hJ2, hK1.trans hk2, by rw [HH.out.2]; exact hdv1.kept hk2, HBX1.out.keptO hPB1 hk2, hPB1.kept hk2⟩
    ·have HH : Hid (headEv c (d0 :: dr) d0 = [.choice c.fr c.nm (laterD c.ds d0)] ∧ innerD c (d0 :: dr) d0 = (laterD c.ds d0)) := Lib.hid ⟨by unfold headEv; rw [if_neg (by omega), if_neg (by omega), if_neg (by omega), if_pos (by omega)], by unfold innerD; rw [if_neg (by omega), if_pos (by omega)]⟩
     have t2 : ((c.k : Int) == 2) = false := by rw [hk]; rfl
     have t4 : ((c.k : Int) == 4) = false := by rw [hk]; rfl
     have t5 : ((c.k : Int) == 5) = false := by rw [hk]; rfl
     have t6 : ((c.k : Int) == 6) = false := by rw [hk]; rfl
     have t7 : ((c.k : Int) == 7) = false := by rw [hk]; rfl
     have t8 : ((c.k : Int) == 8) = true := by rw [hk]; rfl
     have t9 : ((c.k : Int) == 9) = false := by rw [hk]; rfl
     have t10 : ((c.k : Int) == 10) = false := by rw [hk]; rfl
     have hpf2 := HPF.out
     rw [HH.out.1] at hpf2
     clear hk
     go_wp2_with fail
     refine (HCh.out pre c.fr c.nm _ _ W1 hJ1 hbw1 hD1 hll hlt1 hpf2).mono ?_
     rintro e W2 ⟨rfl, hJ2, hk2⟩
     go_wp2_with fail
     go_meet
     exact ⟨by rw [HH.out.1]; exact hJ2, hK1.trans hk2, by rw [HH.out.2]; exact hlt1.kept hk2, HBX1.out.keptO hPB1 hk2, hPB1.kept hk2⟩
    ·have HH : Hid (headEv c (d0 :: dr) d0 = [.expr c.ex (laterD c.ds d0)] ∧ innerD c (d0 :: dr) d0 = d0 :: dr) := Lib.hid ⟨by unfold headEv; rw [if_neg (by omega), if_neg (by omega), if_neg (by omega), if_neg (by omega), if_pos (by omega)], by unfold innerD; rw [if_neg (by omega), if_neg (by omega)]⟩
     have t2 : ((c.k : Int) == 2) = false := by rw [hk]; rfl
     have t4 : ((c.k : Int) == 4) = false := by rw [hk]; rfl
     have t5 : ((c.k : Int) == 5) = false := by rw [hk]; rfl
     have t6 : ((c.k : Int) == 6) = false := by rw [hk]; rfl
     have t7 : ((c.k : Int) == 7) = false := by rw [hk]; rfl
     have t8 : ((c.k : Int) == 8) = false := by rw [hk]; rfl
     have t9 : ((c.k : Int) == 9) = true := by rw [hk]; rfl
     have t10 : ((c.k : Int) == 10) = false := by rw [hk]; rfl
     have hpf2 := HPF.out
     rw [HH.out.1] at hpf2
     clear hk
     go_wp2_with fail
     refine (HEx.out pre c.ex _ _ _ W1 hJ1 hbw1 hD1 hr.1 hxb hll hlt1 hpf2).mono ?_
     rintro e W2 ⟨rfl, hJ2, hk2⟩
     go_wp2_with fail
     go_meet
     exact ⟨by rw [HH.out.1]; exact hJ2, hK1.trans hk2, by rw [HH.out.2]; exact hdv1.kept hk2, HBX1.out.keptO hPB1 hk2, hPB1.kept hk2⟩
    ·have HH : Hid (headEv c (d0 :: dr) d0 = [.expr c.ex (laterD c.ds d0)] ∧ innerD c (d0 :: dr) d0 = (laterD c.ds d0)) := Lib.hid ⟨by unfold headEv; rw [if_neg (by omega), if_neg (by omega), if_neg (by omega), if_neg (by omega), if_pos (by omega)], by unfold innerD; rw [if_neg (by omega), if_pos (by omega)]⟩
     have t2 : ((c.k : Int) == 2) = false := by rw [hk]; rfl
     have t4 : ((c.k : Int) == 4) = false := by rw [hk]; rfl
     have t5 : ((c.k : Int) == 5) = false := by rw [hk]; rfl
     have t6 : ((c.k : Int) == 6) = false := by rw [hk]; rfl
     have t7 : ((c.k : Int) == 7) = false := by rw [hk]; rfl
     have t8 : ((c.k : Int) == 8) = false := by rw [hk]; rfl
     have t9 : ((c.k : Int) == 9) = false := by rw [hk]; rfl
     have t10 : ((c.k : Int) == 10) = true := by rw [hk]; rfl
     have hpf2 := HPF.out
     rw [HH.out.1] at hpf2
     clear hk
     go_wp2_with fail
     refine (HEx.out pre c.ex _ _ _ W1 hJ1 hbw1 hD1 hr.1 hxb hll hlt1 hpf2).mono ?_
     rintro e W2 ⟨rfl, hJ2, hk2⟩
     go_wp2_with fail
     go_meet
     exact ⟨by rw [HH.out.1]; exact hJ2, hK1.trans hk2, by rw [HH.out.2]; exact hlt1.kept hk2, HBX1.out.keptO hPB1 hk2, hPB1.kept hk2⟩
    ·have HH : Hid (headEv c (d0 :: dr) d0 = [] ∧ innerD c (d0 :: dr) d0 = d0 :: dr) := Lib.hid ⟨by unfold headEv; rw [if_neg (by omega), if_neg (by omega), if_neg (by omega), if_neg (by omega), if_neg (by omega)], by unfold innerD; rw [if_neg (by omega), if_neg (by omega)]⟩
     have t2 : ((c.k : Int) == 2) = false := by simp; omega
     have t4 : ((c.k : Int) == 4) = false := by simp; omega
     have t5 : ((c.k : Int) == 5) = false := by simp; omega
     have t6 : ((c.k : Int) == 6) = false := by simp; omega
     have t7 : ((c.k : Int) == 7) = false := by simp; omega
     have t8 : ((c.k : Int) == 8) = false := by simp; omega
     have t9 : ((c.k : Int) == 9) = false := by simp; omega
     have t10 : ((c.k : Int) == 10) = false := by simp; omega
     have hpf2 := HPF.out
     rw [HH.out.1] at hpf2
     clear hk
     go_wp2_with fail
     go_meet
     exact ⟨by rw [HH.out.1, List.append_nil]; exact hJ1, hK1, by rw [HH.out.2]; exact hdv1, HBX1.out, hPB1⟩
   case rest =>
    obtain ⟨hJc, hKc, hdc, hBXc, hPBc⟩ := hcut
    have hil : (innerD c (d0 :: dr) d0).length ≤ 2000000 := innerD_len c (d0 :: dr) d0 hdl hcdl (by omega)
    have HPF2 : Hid (pre ++ headEv c (d0 :: dr) d0 ++ Con.evss c.sub (innerD c (d0 :: dr) d0) <+: full) := Lib.hid (by
     rw [Con.evs_cons, ← List.append_assoc] at hpf; exact hpf)
    have HFin : Hid (pre ++ headEv c (d0 :: dr) d0 ++ Con.evss c.sub (innerD c (d0 :: dr) d0) = pre ++ c.evs (d0 :: dr)) := Lib.hid (by rw [Con.evs_cons, List.append_assoc])
    have HRi := Lib.hid (fun k y hy => Con.rising_sub hri (k := k) (y := y) hy)
    have HRS := Lib.hid hr.2.2.1
    have HIH := Lib.hid ih
    have hlen := Con.bulks_len c.sub
    have hlt0 := c.sub_lt
    have hn : c.sub.length ≤ 2000000 := by omega
    obtain ⟨ad7, cap7, rfl⟩ := hdc.1.len
    generalize pre ++ headEv c (d0 :: dr) d0 = PH at *
    generalize innerD c (d0 :: dr) d0 = IN at *
    obtain ⟨e0, e1, e2, e3, e4, e5, e6, e7, e8, e9, e10, e11⟩ := hBXc
    have hlB2 : W.heap.size < wc.heap.size := World.block_lt_of_cell? wc _ e0
    have HDV := Lib.hid (And.intro hdc (And.intro hpv hpw))
    have HJ0 : Hid (J (PH ++ Con.evss (c.sub.take 0) IN) wc) := Lib.hid (by simpa [Con.evss] using hJc)
    clear ih hri hpf HPF HBX1 HEx HCh HPy hee hec hep u0 u1 u2 u3 hJ1 hK1 hdv1 hpv1 hpw1 hPB1 hlt1 c0 c1 c2 c3 c4 c5 c6 c7 c8 c9 c10 c11 hJc hdc hbA hdsr hob hbo hcdl hxb hll hlv hlw hbw1 hD1 hlB hbo0
    go_wp2
    go_loopw [95] (fun i wr => ∃ k : Nat, k ≤ c.sub.length ∧ i = .int .i64 (k : Int) ∧ Hid (J (PH ++ Con.evss (c.sub.take k) IN) wr) ∧ KeptO w0.heap.size D Bo wc wr) (fun i _ => c.sub.length - (intOf i).toNat)
    case atStart => exact ⟨0, Nat.zero_le _, rfl, HJ0, KeptO.refl _⟩
    case round =>
     clear HJ0 e0 e1 e2 e3 e4 e5 e6 e7 e8 e9 e10 e11 hlB2
     obtain ⟨k, hk, rfl, HJr, hkr⟩ := hrel
     by_cases hlt : k < c.sub.length
     ·obtain ⟨y, hyk⟩ : ∃ y, c.sub[k]? = some y := ⟨_, List.getElem?_eq_getElem hlt⟩
      have hkW := hKc.trans hkr
      obtain ⟨u0, u1, u2, u3, hlv, hlw, hbwr, hDr⟩ := HVC.out wr hkW
      obtain ⟨b, off, es', dd', ss', rfl, ⟨c0, c1, c2, c3, c4, c5, c6, c7, c8, c9, c10, c11⟩, hs0⟩ := HRS.out.cells hyk
      have lift : ∀ o u, w0.cell? ⟨b, o, none⟩ = some u → wr.cell? ⟨b, o, none⟩ = some u := fun o u h => by
       rw [hbwr.cell (p := ⟨b, o, none⟩) (World.block_lt_of_cell? w0 _ h)]; exact h
      replace c0 := lift _ _ c0
      replace c1 := lift _ _ c1
      replace c2 := lift _ _ c2
      replace c3 := lift _ _ c3
      replace c4 := lift _ _ c4
      replace c5 := lift _ _ c5
      replace c6 := lift _ _ c6
      replace c7 := lift _ _ c7
      replace c8 := lift _ _ c8
      replace c9 := lift _ _ c9
      replace c10 := lift _ _ c10
      replace c11 := lift _ _ c11
      clear lift
      obtain ⟨ad', cap', rfl⟩ := hs0.2.2.1.len
      obtain ⟨ad1', cap1', rfl⟩ := hs0.1.len
      obtain ⟨ad2', cap2', rfl⟩ := hs0.2.1.len
      have hym := Con.mem_lt (List.mem_of_getElem? hyk)
      have hblk : b < wr.heap.size := World.block_lt_of_cell? wr _ c0
      have hk1 : (0 : Int) ≤ (k : Int) := by omega
      have hk2 : (k : Int) < (c.sub.length : Int) := by omega
      have hbor := hV.box _ _ HJr.out
      have hzr := hbwr.size
      have hka : KeptO w0.heap.size D Bo wr (wr.alloc (.cells #[.int .u8 y.k, .string y.fr, .string y.rc, .string y.nm, .int .u8 y.ex.k, .string y.ex.ra, .string y.ex.nm, .int .i64 y.ex.d, .slice ad1' y.ex.sub.length cap1', .int .i64 y.d, .slice ad2' y.ds.length cap2', .slice ad' y.sub.length cap'] 29)) := KeptO.of_below hzr hbor (below_a1 _ _)
      have hJa := hV.frame _ _ _ HJr.out (below_a1 wr (.cells #[.int .u8 y.k, .string y.fr, .string y.rc, .string y.nm, .int .u8 y.ex.k, .string y.ex.ra, .string y.ex.nm, .int .i64 y.ex.d, .slice ad1' y.ex.sub.length cap1', .int .i64 y.d, .slice ad2' y.ds.length cap2', .slice ad' y.sub.length cap'] 29))
      have hkA := hkr.trans hka
      have hkAW := hKc.trans hkA
      obtain ⟨x0, x1, x2, x3, _, _, hbwa, hDa⟩ := HVC.out _ hkAW
      have HSn := Lib.hid (Con.evss_snoc hyk IN)
      have hpfy : PH ++ Con.evss (c.sub.take k) IN ++ y.evs IN <+: full := by
       obtain ⟨r, hr⟩ := Con.evss_take hyk IN
       obtain ⟨r2, hr2⟩ := HPF2.out
       exact ⟨r ++ r2, by rw [← hr2, hr]; simp [List.append_assoc]⟩
      have HC := Lib.hid (HIH.out y _ _ _ IN _ (PH ++ Con.evss (c.sub.take k) IN) _ (by omega) (by omega) (HRi.out k y hyk) hil hs0 hbwa hDa hJa (HDV.out.1.kept hkA) hpfy (HDV.out.2.1.kept hkAW) (HDV.out.2.2.kept hkAW) x0 x1 x2 x3)
      unfold Con.val at HC
      have HKA := Lib.hid hkA
      clear hyk hym hs0 hpfy hJa hka hkA hkAW hkW hbwa hDa x0 x1 x2 x3
      go_wp2_with fail
      refine HC.out.mono ?_
      rintro e W4 ⟨rfl, hJ4, hk4⟩
      have HJ4 : Hid (J (PH ++ Con.evss (c.sub.take (k + 1)) IN) W4) := Lib.hid (by rw [HSn.out, ← List.append_assoc]; exact hJ4)
      have hk5 := HKA.out.trans hk4
      clear hJ4 hk4 HC c0 c1 c2 c3 c4 c5 c6 c7 c8 c9 c10 c11 u0 u1 u2 u3
      go_wp2
      go_roundw
      case rel =>
       exact ⟨k + 1, by omega, by go_num, HJ4, hk5⟩
      case measure => simp [intOf]; omega
     ·obtain rfl : k = c.sub.length := by omega
      have HF : Hid (J (pre ++ c.evs (d0 :: dr)) wr ∧ KeptO w0.heap.size D Bo W wr) := Lib.hid ⟨by
       have h := HJr.out
       rw [List.take_length, HFin.out] at h
       exact h, hKc.trans hkr⟩
      go_wp2
      go_end0
      exact ⟨rfl, HF.out.1, HF.out.2⟩
end Go.Proofs.YtkonookacfmfgaaGreatDoor
