/-
  novationlaw15.CausalNames.
-/
import Derived.Test.YtflddbgadkndlaaGreatDoorN04
import Derived.Test.YtflddbgadkndlaaGreatDoorC27
import Derived.Deep.CutBlock
namespace Go.Proofs.YtflddbgadkndlaaGreatDoor
open Go.RowKit

/-- The expression 'less', in a box of the call's own. -/
structure LOk (V : World) (S : Nat) : Prop where
  rd : RdE V [nowX, fixY3] (.slice (some ⟨S, 0, none⟩) 2 2)
  c0 : V.cell? ⟨S + 1, 0, none⟩ = some (.int .u8 11)
  c1 : V.cell? ⟨S + 1, 1, none⟩ = some (.string ⟨#[]⟩)
  c2 : V.cell? ⟨S + 1, 2, none⟩ = some (.string ⟨#[]⟩)
  c3 : V.cell? ⟨S + 1, 3, none⟩ = some (.int .i64 0)
  c4 : V.cell? ⟨S + 1, 4, none⟩ = some (.slice (some ⟨S, 0, none⟩) 2 2)
  s : LookS V
  p : LookP V
theorem LOk.low {A V : World} {S : Nat} (h : LOk A S) (hb : Below A.heap.size A V) : LOk V S := by
  have k : ∀ o u, A.cell? ⟨S + 1, o, none⟩ = some u → V.cell? ⟨S + 1, o, none⟩ = some u := fun o u hu => by
    rw [hb.cell (p := ⟨S + 1, o, none⟩) (World.block_lt_of_cell? A _ hu)]; exact hu
  exact ⟨h.rd.frame hb, k _ _ h.c0, k _ _ h.c1, k _ _ h.c2, k _ _ h.c3, k _ _ h.c4, h.s.frame hb, h.p.frame hb⟩
def oL : Obj := .cells #[.int .u8 3, .string ⟨#[]⟩, .string ⟨#[88]⟩, .int .i64 0, .slice none 0 0, .int .u8 2, .string ⟨#[]⟩, .string ⟨#[89]⟩, .int .i64 3, .slice none 0 0] 25
def oLess (B : Nat) : Obj := .cells #[.int .u8 11, .string ⟨#[]⟩, .string ⟨#[]⟩, .int .i64 0, .slice (some ⟨B, 0, none⟩) 2 2] 25
theorem less_setup (w : World) (hS : LookS w) (hP : LookP w) : LOk ((w.alloc oL).alloc (oLess w.heap.size)) w.heap.size := by
  have b1 := below_a1 w oL
  have b2 := below_a1 (w.alloc oL) (oLess w.heap.size)
  have k : ∀ (i : Nat) (u : Value), [Value.int .u8 11, .string ⟨#[]⟩, .string ⟨#[]⟩, .int .i64 0, .slice (some ⟨w.heap.size, 0, none⟩) 2 2][i]? = some u → ((w.alloc oL).alloc (oLess w.heap.size)).cell? ⟨w.heap.size + 1, i, none⟩ = some u := fun i u h => by
    have := cell_new (w.alloc oL) _ 25 h
    rw [World.size_alloc] at this
    exact this
  have hb := b1.trans (b2.mono b1.size)
  exact ⟨(rdE_two (s1 := .slice none 0 0) (s2 := .slice none 0 0) (by decide) (by decide) (fun i u h => cell_new w _ _ h) (rdE_nil _) (rdE_nil _)).frame b2, k 0 _ rfl, k 1 _ rfl, k 2 _ rfl, k 3 _ rfl, k 4 _ rfl, hS.frame hb, hP.frame hb⟩

/-- What stands after the literals: the three contracts. -/
structure NOk (V : World) (X2 X3 X4 : Nat) (e2 d2 s2 e3 d3 s3 e4 d4 s4 : Value) : Prop where
  bu : CBox V X2 untC e2 d2 s2
  ru : RdN V untC e2 d2 s2
  bw : CBox V X3 whenC e3 d3 s3
  rw : RdN V whenC e3 d3 s3
  bp : CBox V X4 pickC e4 d4 s4
  rp : RdN V pickC e4 d4 s4
  s : LookS V
  p : LookP V
theorem NOk.low {A V : World} {X2 X3 X4 : Nat} {e2 d2 s2 e3 d3 s3 e4 d4 s4 : Value} (h : NOk A X2 X3 X4 e2 d2 s2 e3 d3 s3 e4 d4 s4) (hb : Below A.heap.size A V) : NOk V X2 X3 X4 e2 d2 s2 e3 d3 s3 e4 d4 s4 :=
  ⟨h.bu.low hb, h.ru.frame hb, h.bw.low hb, h.rw.frame hb, h.bp.low hb, h.rp.frame hb, h.s.frame hb, h.p.frame hb⟩
/-- .. and what was found. -/
structure QOk (V : World) (va vb vc vd vl : Value) : Prop where
  a : RdNd V [(bX, 4), (bX, 6), (bY, 3), (bZ, 3)] va
  b : RdNd V [(bX, 4), (bX, 6), (bY, 3), (bZ, 4), (bZ, 6)] vb
  c : RdDy V [4, 6] vc
  d : RdCx V [(bBob, bd, 3)] vd
  l : RdDy V [7] vl
theorem QOk.low {A V : World} {va vb vc vd vl : Value} (h : QOk A va vb vc vd vl) (hb : Below A.heap.size A V) : QOk V va vb vc vd vl :=
  ⟨h.a.low hb, h.b.low hb, h.c.low hb, h.d.low hb, h.l.low hb⟩

def oNd (n : ByteArray) (d : Int) : Obj := .cells #[.string n, .int .i64 d] 58
/-- Three needs in boxes. -/
structure BOk (V : World) (S : Nat) : Prop where
  x0 : V.cell? ⟨S, 0, none⟩ = some (.string ⟨#[88]⟩)
  x1 : V.cell? ⟨S, 1, none⟩ = some (.int .i64 4)
  y0 : V.cell? ⟨S + 1, 0, none⟩ = some (.string ⟨#[88]⟩)
  y1 : V.cell? ⟨S + 1, 1, none⟩ = some (.int .i64 6)
  z0 : V.cell? ⟨S + 1 + 1, 0, none⟩ = some (.string ⟨#[89]⟩)
  z1 : V.cell? ⟨S + 1 + 1, 1, none⟩ = some (.int .i64 3)
theorem cell_low {A V : World} {B o : Nat} {u : Value} (h : A.cell? ⟨B, o, none⟩ = some u) (hb : Below A.heap.size A V) : V.cell? ⟨B, o, none⟩ = some u := by
  rw [hb.cell (p := ⟨B, o, none⟩) (World.block_lt_of_cell? A _ h)]; exact h
theorem BOk.low {A V : World} {S : Nat} (h : BOk A S) (hb : Below A.heap.size A V) : BOk V S :=
  ⟨cell_low h.x0 hb, cell_low h.x1 hb, cell_low h.y0 hb, cell_low h.y1 hb, cell_low h.z0 hb, cell_low h.z1 hb⟩
theorem below_a3' (w : World) (a b c : Obj) : Below w.heap.size w (((w.alloc a).alloc b).alloc c) :=
  (below_a2 w a b).trans ((below_a1 _ c).mono (below_a2 w a b).size)
theorem box3_setup (w : World) : BOk (((w.alloc (oNd ⟨#[88]⟩ 4)).alloc (oNd ⟨#[88]⟩ 6)).alloc (oNd ⟨#[89]⟩ 3)) w.heap.size := by
  have k : ∀ (v : World) (n : ByteArray) (d : Int) (i : Nat) (u : Value), [Value.string n, .int .i64 d][i]? = some u → (v.alloc (oNd n d)).cell? ⟨v.heap.size, i, none⟩ = some u := fun v n d i u h => cell_new v _ _ h
  have s1 : (w.alloc (oNd ⟨#[88]⟩ 4)).heap.size = w.heap.size + 1 := World.size_alloc _ _
  have s2 : ((w.alloc (oNd ⟨#[88]⟩ 4)).alloc (oNd ⟨#[88]⟩ 6)).heap.size = w.heap.size + 1 + 1 := by rw [World.size_alloc, World.size_alloc]
  have b2 := below_a1 (w.alloc (oNd ⟨#[88]⟩ 4)) (oNd ⟨#[88]⟩ 6)
  have b3 := below_a1 ((w.alloc (oNd ⟨#[88]⟩ 4)).alloc (oNd ⟨#[88]⟩ 6)) (oNd ⟨#[89]⟩ 3)
  have y := k (w.alloc (oNd ⟨#[88]⟩ 4)) ⟨#[88]⟩ 6
  have z := k ((w.alloc (oNd ⟨#[88]⟩ 4)).alloc (oNd ⟨#[88]⟩ 6)) ⟨#[89]⟩ 3
  rw [s1] at y
  rw [s2] at z
  exact ⟨cell_low (cell_low (k w _ _ 0 _ rfl) b2) b3, cell_low (cell_low (k w _ _ 1 _ rfl) b2) b3, cell_low (y 0 _ rfl) b3, cell_low (y 1 _ rfl) b3, z 0 _ rfl, z 1 _ rfl⟩
def oFx : Obj := .cells #[.string ⟨#[88]⟩, .int .i64 4, .string ⟨#[49]⟩, .string ⟨#[88]⟩, .int .i64 5, .string ⟨#[50]⟩] 65
def oCx : Obj := .cells #[.string ⟨#[65]⟩, .string ⟨#[99]⟩, .int .i64 5, .bool true] 60
def oEnv (B : Nat) : Obj := .cells #[.slice (some ⟨B, 0, none⟩) 2 2, .slice (some ⟨B + 1, 0, none⟩) 1 1] 68
/-- What is known, in a box. -/
structure EOk (V : World) (S : Nat) : Prop where
  f : Rd Fx.cells 3 V (some ⟨S, 0, none⟩) fsN
  c : Rd Ch.cells 4 V (some ⟨S + 1, 0, none⟩) csN
  e0 : V.cell? ⟨S + 1 + 1, 0, none⟩ = some (.slice (some ⟨S, 0, none⟩) 2 2)
  e1 : V.cell? ⟨S + 1 + 1, 1, none⟩ = some (.slice (some ⟨S + 1, 0, none⟩) 1 1)
theorem EOk.low {A V : World} {S : Nat} (h : EOk A S) (hb : Below A.heap.size A V) : EOk V S := ⟨rd_low h.f hb, rd_low h.c hb, cell_low h.e0 hb, cell_low h.e1 hb⟩
theorem env_setup (w : World) : EOk (((w.alloc oFx).alloc oCx).alloc (oEnv w.heap.size)) w.heap.size := by
  have s1 : (w.alloc oFx).heap.size = w.heap.size + 1 := World.size_alloc _ _
  have s2 : ((w.alloc oFx).alloc oCx).heap.size = w.heap.size + 1 + 1 := by rw [World.size_alloc, World.size_alloc]
  have b2 := below_a1 (w.alloc oFx) oCx
  have b3 := below_a1 ((w.alloc oFx).alloc oCx) (oEnv w.heap.size)
  have hf : Rd Fx.cells 3 (w.alloc oFx) (some ⟨w.heap.size, 0, none⟩) fsN := rd_lit Fx.cells 3 (fun _ => rfl) w fsN _
  have hc : Rd Ch.cells 4 ((w.alloc oFx).alloc oCx) (some ⟨(w.alloc oFx).heap.size, 0, none⟩) csN := rd_lit Ch.cells 4 (fun _ => rfl) _ csN _
  rw [s1] at hc
  have k : ∀ (i : Nat) (u : Value), [Value.slice (some ⟨w.heap.size, 0, none⟩) 2 2, .slice (some ⟨w.heap.size + 1, 0, none⟩) 1 1][i]? = some u → (((w.alloc oFx).alloc oCx).alloc (oEnv w.heap.size)).cell? ⟨w.heap.size + 1 + 1, i, none⟩ = some u := fun i u h => by
    have := cell_new ((w.alloc oFx).alloc oCx) _ 68 h
    rw [s2] at this
    exact this
  exact ⟨rd_low (rd_low hf b2) b3, rd_low hc b3, k 0 _ rfl, k 1 _ rfl⟩

set_option maxHeartbeats 16000000 in
set_option maxRecDepth 100000 in
theorem names_any (w : World) (hS : LookS w) (hP : LookP w) : Calls Tryz.prog 6 #[] w fun e w' => e = .returned (.bool true) ∧ Below w.heap.size w w' := by
  go_enter Tryz.func6, Tryz.ntmps6
  go_wp2_with fail
  refine (now_any _ _).mono ?_
  rintro e w1 ⟨rfl, hb1⟩
  go_wp2_with fail
  refine (fix_any _ _ _).mono ?_
  rintro e w2 ⟨rfl, hb2⟩
  have hw2 : Below w.heap.size w w2 := hb1.trans (hb2.mono hb1.size)
  have HL0 := Lib.hid (less_setup w2 (hS.frame hw2) (hP.frame hw2))
  have hb3 := (below_a1 w2 oL).trans ((below_a1 (w2.alloc oL) (oLess w2.heap.size)).mono (below_a1 w2 oL).size)
  clear hb1 hb2 hS hP
  go_upto_region 2 with fail
  change Code.wp _ _ _ _ ((w2.alloc oL).alloc (oLess w2.heap.size))
  generalize (w2.alloc oL).alloc (oLess w2.heap.size) = W0 at HL0 hb3 ⊢
  have hw0 := hw2.trans (hb3.mono hw2.size)
  clear hb3 hw2
  obtain ⟨S1, hS1⟩ : ∃ S1, w2.heap.size = S1 := ⟨_, rfl⟩
  rw [hS1] at HL0 ⊢
  clear hS1
  go_cut [2] from 36 to 41 (fun v wd => Held wd v untC ∧ Below W0.heap.size W0 wd)
  case first =>
    refine wp_region_inv (fun L a w' => ∃ v0 v1 v2 v3 v4 v5 vb, a = ⟨#[.bool false, .pointer (some ⟨S1 + 1, 0, none⟩), vb, undef, undef, undef, undef, undef, undef, undef, undef, undef, undef, undef, undef, undef, undef, undef, undef, undef, undef, undef, undef, undef, undef, undef, undef, undef, undef, undef, undef, undef, .agg #[.int .u8 3, .string ⟨#[]⟩, .string ⟨#[88]⟩, .int .i64 0, .slice none 0 0], .agg #[.int .u8 2, .string ⟨#[]⟩, .string ⟨#[89]⟩, .int .i64 3, .slice none 0 0], .slice (some ⟨S1, 0, none⟩) 2 2, .agg #[.int .u8 11, .string ⟨#[]⟩, .string ⟨#[]⟩, .int .i64 0, .slice (some ⟨S1, 0, none⟩) 2 2], v0, v1, v2, v3, v4, v5, undef, undef, undef, undef, undef, undef, undef, undef, undef, undef, undef, undef, undef, undef, undef, undef, undef, undef, undef, undef, undef, undef, undef, undef, undef, undef, undef, undef, undef, undef, undef, undef, undef, undef, undef, undef, undef, undef, undef, undef, undef, undef, undef, undef, undef, undef, undef, undef, undef, undef, undef, undef, undef, undef, undef, undef, undef, undef, undef, undef, undef, undef, undef, undef, undef, undef, undef, undef, undef, undef, undef, undef, undef, undef, undef, undef, undef, undef, undef, undef, undef, undef, undef, undef, undef, undef, undef, undef, undef, undef, undef, undef, undef, undef, undef, undef, undef, undef, undef, undef, undef, undef, undef, undef, undef, undef, undef, undef, undef, undef, undef, undef, undef, undef, undef, undef, undef, undef, undef, undef, undef, undef, undef, undef, undef, undef, undef, undef, undef, undef, undef, undef, undef, undef, undef, undef, undef, undef, undef, undef, undef, undef, undef, undef, undef, undef, undef, undef, undef, undef, undef, undef, undef, undef, undef, undef, undef, undef, undef, undef, undef, undef, undef, undef, undef, undef, undef, undef, undef, undef, undef, undef, undef, undef, undef, undef, undef, undef, undef, undef, undef, undef, undef, undef, undef, undef, undef, undef, undef, undef, undef, undef, undef, undef, undef, undef, undef, undef, undef, undef, undef, undef, undef, undef, undef, undef, undef, undef, undef, undef, undef, undef, undef, undef, undef, undef, undef, undef, undef, undef, undef, undef, undef, undef, undef, undef, undef, undef, undef, undef, undef, undef, undef, undef, undef, undef, undef, undef, undef, undef, undef, undef, undef, undef, undef, undef, undef, undef], []⟩ ∧ NInv W0 9 untC (.slice (some ⟨S1, 0, none⟩) 2 2) L v0 v1 v2 v3 v4 v5 vb w') (by kernel_rfl) (by kernel_rfl) ?_ ?_ ?_
    · exact ⟨_, _, _, _, _, _, _, rfl, NInv.start (Below.refl _ _).drew⟩
    · rintro L a w' ⟨v0, v1, v2, v3, v4, v5, vb, rfl, h⟩ i o ho hL hp
      have hi : i < 8 := by simpa using (Array.getElem?_eq_some_iff.1 ho).1
      have hi2 : i = 0 ∨ i = 1 ∨ i = 2 ∨ i = 3 ∨ i = 4 ∨ i = 5 ∨ i = 6 ∨ i = 7 := by omega
      clear hi
      rcases hi2 with rfl | rfl | rfl | rfl | rfl | rfl | rfl | rfl
      · refine wpOp_step rfl ?_
        intro K hK
        obtain ⟨_, c0, c1, c2, c3, c4, _, _⟩ := HL0.out.low h.x
        go_simp
        exact hK _ _ ⟨_, _, _, _, _, _, _, rfl, h.u0 hL⟩
      · refine wpOp_step rfl ?_
        intro K hK
        go_simp
        exact hK _ _ ⟨_, _, _, _, _, _, _, rfl, (h.ext (below_a1 _ _)).u1 hL (Three.new _)⟩
      · refine wpOp_step rfl ?_
        intro K hK
        go_simp
        refine (now_any _ _).mono ?_
        rintro e w4 ⟨rfl, hb4⟩
        exact hK _ _ ⟨_, _, _, _, _, _, _, rfl, (h.ext hb4).u2 hL⟩
      · refine wpOp_step rfl ?_
        intro K hK
        obtain rfl := h.f2 (pred_spec ho hp (j := 2) (by kernel_rfl))
        go_simp
        refine (pay_any _ _ _ _ _ _ _ _).mono ?_
        rintro e w4 ⟨rfl, hb4⟩
        exact hK _ _ ⟨_, _, _, _, _, _, _, rfl, (h.ext hb4).u3 hL⟩
      · refine wpOp_step rfl ?_
        intro K hK
        obtain rfl := h.f3 (pred_spec ho hp (j := 3) (by kernel_rfl))
        go_simp
        exact hK _ _ ⟨_, _, _, _, _, _, _, rfl, (h.ext (below_a1 _ _)).u4 hL (OnePay.new _ payZ rfl _)⟩
      · refine wpOp_step rfl ?_
        intro K hK
        have h7 := h.open7 (by omega) hL
        have p1 := pred_spec ho hp (j := 1) (by kernel_rfl)
        have p4 := pred_spec ho hp (j := 4) (by kernel_rfl)
        obtain rfl := h.f0 (pred_spec ho hp (j := 0) (by kernel_rfl))
        obtain ⟨B1, rfl, _⟩ := h.f1 p1 h7
        obtain ⟨_, B4, rfl, _⟩ := h.f4 p4 h7
        go_simp
        exact hK _ _ ⟨_, _, _, _, _, _, _, rfl, h.u5 hL p1 p4⟩
      · refine wpOp_step rfl ?_
        intro K hK
        go_simp
        exact hK _ _ ⟨_, _, _, _, _, _, _, rfl, (h.ext (below_a1 _ _)).u6 hL h.x.size (BoxN.new _ zc _)⟩
      · refine wpOp_step rfl ?_
        intro K hK
        obtain ⟨rfl, p1, p4⟩ := h.f5 (pred_spec ho hp (j := 5) (by kernel_rfl)) hL
        obtain ⟨X, rfl, hX, hbx⟩ := h.f6 (pred_spec ho hp (j := 6) (by kernel_rfl)) hL
        obtain ⟨B1, rfl, q1⟩ := h.f1 p1 hL
        obtain ⟨k4, B4, rfl, q4⟩ := h.f4 p4 hL
        have hall : ∀ i, i < 7 → L i = true := fun i hi => by
          have hi2 : i = 0 ∨ i = 1 ∨ i = 2 ∨ i = 3 ∨ i = 4 ∨ i = 5 ∨ i = 6 := by omega
          rcases hi2 with rfl | rfl | rfl | rfl | rfl | rfl | rfl
          all_goals exact pred_spec ho hp (by kernel_rfl)
        have y0 : w'.cell? ⟨X, 0, none⟩ = some _ := hbx.cell rfl
        have y1 : w'.cell? ⟨X, 1, none⟩ = some _ := hbx.cell rfl
        have y2 : w'.cell? ⟨X, 2, none⟩ = some _ := hbx.cell rfl
        have y3 : w'.cell? ⟨X, 3, none⟩ = some _ := hbx.cell rfl
        have y4 : w'.cell? ⟨X, 4, none⟩ = some _ := hbx.cell rfl
        have y5 : w'.cell? ⟨X, 5, none⟩ = some _ := hbx.cell rfl
        have y6 : w'.cell? ⟨X, 6, none⟩ = some _ := hbx.cell rfl
        have y7 : w'.cell? ⟨X, 7, none⟩ = some _ := hbx.cell rfl
        have y8 : w'.cell? ⟨X, 8, none⟩ = some _ := hbx.cell rfl
        have y9 : w'.cell? ⟨X, 9, none⟩ = some _ := hbx.cell rfl
        have y10 : w'.cell? ⟨X, 10, none⟩ = some _ := hbx.cell rfl
        have y11 : w'.cell? ⟨X, 11, none⟩ = some _ := hbx.cell rfl
        have z0 := hbx.frozen 0
        have z1 := hbx.frozen 1
        have z2 := hbx.frozen 2
        have z3 := hbx.frozen 3
        have z4 := hbx.frozen 4
        have z5 := hbx.frozen 5
        have z6 := hbx.frozen 6
        have z7 := hbx.frozen 7
        have z8 := hbx.frozen 8
        have z9 := hbx.frozen 9
        have z10 := hbx.frozen 10
        have z11 := hbx.frozen 11
        go_simp
        exact hK _ _ ⟨_, _, _, _, _, _, _, rfl, h.u7 hall (by decide) rfl HL0.out.rd hX hbx ⟨B1, rfl, q1⟩ ⟨k4, B4, rfl, q4⟩⟩
    · rintro L a w' ⟨v0, v1, v2, v3, v4, v5, vb, rfl, h⟩ hall
      have HF : Hid (Held w' vb untC ∧ Below W0.heap.size W0 w') := Lib.hid ⟨h.f7 (hall 7 (by decide)), h.x⟩
      clear h hall
      go_wp2
      go_meet
      exact HF.out
  case rest =>
    obtain ⟨HU, hu⟩ := hcut
    have hw3 := hw0.trans (hu.mono hw0.size)
    have HL3 := Lib.hid (HL0.out.low hu)
    have HU3 := Lib.hid HU
    clear HU hu HL0 hw0
    obtain ⟨W3, hW3⟩ : ∃ W3, W3 = wc := ⟨_, rfl⟩
    rw [← hW3] at hw3 HL3 HU3 ⊢
    clear hW3
    go_upto_region 3 with fail
    go_cut [3] from 42 to 47 (fun v wd => Held wd v whenC ∧ Below W3.heap.size W3 wd)
    case first =>
      refine wp_region_inv (fun L a w' => ∃ v0 v1 v2 v3 v4 v5 vb, a = ⟨#[.bool false, .pointer (some ⟨S1 + 1, 0, none⟩), u2, vb, undef, undef, undef, undef, undef, undef, undef, undef, undef, undef, undef, undef, undef, undef, undef, undef, undef, undef, undef, undef, undef, undef, undef, undef, undef, undef, undef, undef, .agg #[.int .u8 3, .string ⟨#[]⟩, .string ⟨#[88]⟩, .int .i64 0, .slice none 0 0], .agg #[.int .u8 2, .string ⟨#[]⟩, .string ⟨#[89]⟩, .int .i64 3, .slice none 0 0], .slice (some ⟨S1, 0, none⟩) 2 2, .agg #[.int .u8 11, .string ⟨#[]⟩, .string ⟨#[]⟩, .int .i64 0, .slice (some ⟨S1, 0, none⟩) 2 2], u36, u37, u38, u39, u40, u41, v0, v1, v2, v3, v4, v5, undef, undef, undef, undef, undef, undef, undef, undef, undef, undef, undef, undef, undef, undef, undef, undef, undef, undef, undef, undef, undef, undef, undef, undef, undef, undef, undef, undef, undef, undef, undef, undef, undef, undef, undef, undef, undef, undef, undef, undef, undef, undef, undef, undef, undef, undef, undef, undef, undef, undef, undef, undef, undef, undef, undef, undef, undef, undef, undef, undef, undef, undef, undef, undef, undef, undef, undef, undef, undef, undef, undef, undef, undef, undef, undef, undef, undef, undef, undef, undef, undef, undef, undef, undef, undef, undef, undef, undef, undef, undef, undef, undef, undef, undef, undef, undef, undef, undef, undef, undef, undef, undef, undef, undef, undef, undef, undef, undef, undef, undef, undef, undef, undef, undef, undef, undef, undef, undef, undef, undef, undef, undef, undef, undef, undef, undef, undef, undef, undef, undef, undef, undef, undef, undef, undef, undef, undef, undef, undef, undef, undef, undef, undef, undef, undef, undef, undef, undef, undef, undef, undef, undef, undef, undef, undef, undef, undef, undef, undef, undef, undef, undef, undef, undef, undef, undef, undef, undef, undef, undef, undef, undef, undef, undef, undef, undef, undef, undef, undef, undef, undef, undef, undef, undef, undef, undef, undef, undef, undef, undef, undef, undef, undef, undef, undef, undef, undef, undef, undef, undef, undef, undef, undef, undef, undef, undef, undef, undef, undef, undef, undef, undef, undef, undef, undef, undef, undef, undef, undef, undef, undef, undef, undef, undef, undef, undef, undef, undef, undef, undef, undef, undef, undef, undef, undef, undef, undef, undef, undef, undef, undef, undef], []⟩ ∧ NInv W3 10 whenC (.slice (some ⟨S1, 0, none⟩) 2 2) L v0 v1 v2 v3 v4 v5 vb w') (by kernel_rfl) (by kernel_rfl) ?_ ?_ ?_
      · exact ⟨_, _, _, _, _, _, _, rfl, NInv.start (Below.refl _ _).drew⟩
      · rintro L a w' ⟨v0, v1, v2, v3, v4, v5, vb, rfl, h⟩ i o ho hL hp
        have hi : i < 8 := by simpa using (Array.getElem?_eq_some_iff.1 ho).1
        have hi2 : i = 0 ∨ i = 1 ∨ i = 2 ∨ i = 3 ∨ i = 4 ∨ i = 5 ∨ i = 6 ∨ i = 7 := by omega
        clear hi
        rcases hi2 with rfl | rfl | rfl | rfl | rfl | rfl | rfl | rfl
        · refine wpOp_step rfl ?_
          intro K hK
          obtain ⟨_, c0, c1, c2, c3, c4, _, _⟩ := HL3.out.low h.x
          go_simp
          exact hK _ _ ⟨_, _, _, _, _, _, _, rfl, h.u0 hL⟩
        · refine wpOp_step rfl ?_
          intro K hK
          go_simp
          exact hK _ _ ⟨_, _, _, _, _, _, _, rfl, (h.ext (below_a1 _ _)).u1 hL (Three.new _)⟩
        · refine wpOp_step rfl ?_
          intro K hK
          go_simp
          refine (now_any _ _).mono ?_
          rintro e w4 ⟨rfl, hb4⟩
          exact hK _ _ ⟨_, _, _, _, _, _, _, rfl, (h.ext hb4).u2 hL⟩
        · refine wpOp_step rfl ?_
          intro K hK
          obtain rfl := h.f2 (pred_spec ho hp (j := 2) (by kernel_rfl))
          go_simp
          refine (pay_any _ _ _ _ _ _ _ _).mono ?_
          rintro e w4 ⟨rfl, hb4⟩
          exact hK _ _ ⟨_, _, _, _, _, _, _, rfl, (h.ext hb4).u3 hL⟩
        · refine wpOp_step rfl ?_
          intro K hK
          obtain rfl := h.f3 (pred_spec ho hp (j := 3) (by kernel_rfl))
          go_simp
          exact hK _ _ ⟨_, _, _, _, _, _, _, rfl, (h.ext (below_a1 _ _)).u4 hL (OnePay.new _ payZ rfl _)⟩
        · refine wpOp_step rfl ?_
          intro K hK
          have h7 := h.open7 (by omega) hL
          have p1 := pred_spec ho hp (j := 1) (by kernel_rfl)
          have p4 := pred_spec ho hp (j := 4) (by kernel_rfl)
          obtain rfl := h.f0 (pred_spec ho hp (j := 0) (by kernel_rfl))
          obtain ⟨B1, rfl, _⟩ := h.f1 p1 h7
          obtain ⟨_, B4, rfl, _⟩ := h.f4 p4 h7
          go_simp
          exact hK _ _ ⟨_, _, _, _, _, _, _, rfl, h.u5 hL p1 p4⟩
        · refine wpOp_step rfl ?_
          intro K hK
          go_simp
          exact hK _ _ ⟨_, _, _, _, _, _, _, rfl, (h.ext (below_a1 _ _)).u6 hL h.x.size (BoxN.new _ zc _)⟩
        · refine wpOp_step rfl ?_
          intro K hK
          obtain ⟨rfl, p1, p4⟩ := h.f5 (pred_spec ho hp (j := 5) (by kernel_rfl)) hL
          obtain ⟨X, rfl, hX, hbx⟩ := h.f6 (pred_spec ho hp (j := 6) (by kernel_rfl)) hL
          obtain ⟨B1, rfl, q1⟩ := h.f1 p1 hL
          obtain ⟨k4, B4, rfl, q4⟩ := h.f4 p4 hL
          have hall : ∀ i, i < 7 → L i = true := fun i hi => by
            have hi2 : i = 0 ∨ i = 1 ∨ i = 2 ∨ i = 3 ∨ i = 4 ∨ i = 5 ∨ i = 6 := by omega
            rcases hi2 with rfl | rfl | rfl | rfl | rfl | rfl | rfl
            all_goals exact pred_spec ho hp (by kernel_rfl)
          have y0 : w'.cell? ⟨X, 0, none⟩ = some _ := hbx.cell rfl
          have y1 : w'.cell? ⟨X, 1, none⟩ = some _ := hbx.cell rfl
          have y2 : w'.cell? ⟨X, 2, none⟩ = some _ := hbx.cell rfl
          have y3 : w'.cell? ⟨X, 3, none⟩ = some _ := hbx.cell rfl
          have y4 : w'.cell? ⟨X, 4, none⟩ = some _ := hbx.cell rfl
          have y5 : w'.cell? ⟨X, 5, none⟩ = some _ := hbx.cell rfl
          have y6 : w'.cell? ⟨X, 6, none⟩ = some _ := hbx.cell rfl
          have y7 : w'.cell? ⟨X, 7, none⟩ = some _ := hbx.cell rfl
          have y8 : w'.cell? ⟨X, 8, none⟩ = some _ := hbx.cell rfl
          have y9 : w'.cell? ⟨X, 9, none⟩ = some _ := hbx.cell rfl
          have y10 : w'.cell? ⟨X, 10, none⟩ = some _ := hbx.cell rfl
          have y11 : w'.cell? ⟨X, 11, none⟩ = some _ := hbx.cell rfl
          have z0 := hbx.frozen 0
          have z1 := hbx.frozen 1
          have z2 := hbx.frozen 2
          have z3 := hbx.frozen 3
          have z4 := hbx.frozen 4
          have z5 := hbx.frozen 5
          have z6 := hbx.frozen 6
          have z7 := hbx.frozen 7
          have z8 := hbx.frozen 8
          have z9 := hbx.frozen 9
          have z10 := hbx.frozen 10
          have z11 := hbx.frozen 11
          go_simp
          exact hK _ _ ⟨_, _, _, _, _, _, _, rfl, h.u7 hall (by decide) rfl HL3.out.rd hX hbx ⟨B1, rfl, q1⟩ ⟨k4, B4, rfl, q4⟩⟩
      · rintro L a w' ⟨v0, v1, v2, v3, v4, v5, vb, rfl, h⟩ hall
        have HF : Hid (Held w' vb whenC ∧ Below W3.heap.size W3 w') := Lib.hid ⟨h.f7 (hall 7 (by decide)), h.x⟩
        clear h hall
        go_wp2
        go_meet
        exact HF.out
    case rest =>
      obtain ⟨HU, hu⟩ := hcut
      have hw4 := hw3.trans (hu.mono hw3.size)
      have HL4 := Lib.hid (HL3.out.low hu)
      have HU4 := Lib.hid (HU3.out.low hu)
      have HW4 := Lib.hid HU
      clear HU hu HL3 HU3 hw3
      obtain ⟨W4, hW4⟩ : ∃ W4, W4 = wc := ⟨_, rfl⟩
      rw [← hW4] at hw4 HL4 HU4 HW4 ⊢
      clear hW4
      obtain ⟨X2, es2, dd2, ss2, rfl, hx2, hr2⟩ := HU4.out
      obtain ⟨X3, es3, dd3, ss3, rfl, hx3, hr3⟩ := HW4.out
      obtain ⟨n1, m1, rfl⟩ := hr2.1.len
      obtain ⟨n2, m2, rfl⟩ := hr2.2.1.len
      obtain ⟨n3, m3, rfl⟩ := hr2.2.2.1.len
      obtain ⟨n4, m4, rfl⟩ := hr3.1.len
      obtain ⟨n5, m5, rfl⟩ := hr3.2.1.len
      obtain ⟨n6, m6, rfl⟩ := hr3.2.2.1.len
      have HB4 := Lib.hid (And.intro hx2 (And.intro hr2 (And.intro hx3 hr3)))
      clear HU4 HW4 hx2 hr2 hx3 hr3
      go_upto_region 4 with fail
      go_cut [4] from 48 to 54 (fun v wd => Held wd v pickC ∧ Below W4.heap.size W4 wd)
      case first =>
        have HX3 : Hid (∀ V, Below W4.heap.size W4 V → CBox V X3 whenC (.slice n4 whenC.ex.sub.length m4) (.slice n5 whenC.ds.length m5) (.slice n6 whenC.sub.length m6)) := Lib.hid fun V h => HB4.out.2.2.1.low h
        refine wp_region_inv (fun L a w' => ∃ v0 v1 v2 v3 v4 v5 v6 vb, a = ⟨#[.bool false, .pointer (some ⟨S1 + 1, 0, none⟩), .pointer (some ⟨X2, 0, none⟩), .pointer (some ⟨X3, 0, none⟩), vb, undef, undef, undef, undef, undef, undef, undef, undef, undef, undef, undef, undef, undef, undef, undef, undef, undef, undef, undef, undef, undef, undef, undef, undef, undef, undef, undef, .agg #[.int .u8 3, .string ⟨#[]⟩, .string ⟨#[88]⟩, .int .i64 0, .slice none 0 0], .agg #[.int .u8 2, .string ⟨#[]⟩, .string ⟨#[89]⟩, .int .i64 3, .slice none 0 0], .slice (some ⟨S1, 0, none⟩) 2 2, .agg #[.int .u8 11, .string ⟨#[]⟩, .string ⟨#[]⟩, .int .i64 0, .slice (some ⟨S1, 0, none⟩) 2 2], u36, u37, u38, u39, u40, u41, u42, u43, u44, u45, u46, u47, v0, v1, v2, v3, v4, v5, v6, undef, undef, undef, undef, undef, undef, undef, undef, undef, undef, undef, undef, undef, undef, undef, undef, undef, undef, undef, undef, undef, undef, undef, undef, undef, undef, undef, undef, undef, undef, undef, undef, undef, undef, undef, undef, undef, undef, undef, undef, undef, undef, undef, undef, undef, undef, undef, undef, undef, undef, undef, undef, undef, undef, undef, undef, undef, undef, undef, undef, undef, undef, undef, undef, undef, undef, undef, undef, undef, undef, undef, undef, undef, undef, undef, undef, undef, undef, undef, undef, undef, undef, undef, undef, undef, undef, undef, undef, undef, undef, undef, undef, undef, undef, undef, undef, undef, undef, undef, undef, undef, undef, undef, undef, undef, undef, undef, undef, undef, undef, undef, undef, undef, undef, undef, undef, undef, undef, undef, undef, undef, undef, undef, undef, undef, undef, undef, undef, undef, undef, undef, undef, undef, undef, undef, undef, undef, undef, undef, undef, undef, undef, undef, undef, undef, undef, undef, undef, undef, undef, undef, undef, undef, undef, undef, undef, undef, undef, undef, undef, undef, undef, undef, undef, undef, undef, undef, undef, undef, undef, undef, undef, undef, undef, undef, undef, undef, undef, undef, undef, undef, undef, undef, undef, undef, undef, undef, undef, undef, undef, undef, undef, undef, undef, undef, undef, undef, undef, undef, undef, undef, undef, undef, undef, undef, undef, undef, undef, undef, undef, undef, undef, undef, undef, undef, undef, undef, undef, undef, undef, undef, undef, undef, undef, undef, undef, undef, undef, undef, undef, undef, undef, undef, undef, undef], []⟩ ∧ PInv W4 (.slice n4 whenC.ex.sub.length m4) (.slice n5 whenC.ds.length m5) (.slice n6 whenC.sub.length m6) L v0 v1 v2 v3 v4 v5 v6 vb w') (by kernel_rfl) (by kernel_rfl) ?_ ?_ ?_
        · exact ⟨_, _, _, _, _, _, _, _, rfl, PInv.start (Below.refl _ _).drew⟩
        · rintro L a w' ⟨v0, v1, v2, v3, v4, v5, v6, vb, rfl, h⟩ i o ho hL hp
          have hi : i < 9 := by simpa using (Array.getElem?_eq_some_iff.1 ho).1
          have hi2 : i = 0 ∨ i = 1 ∨ i = 2 ∨ i = 3 ∨ i = 4 ∨ i = 5 ∨ i = 6 ∨ i = 7 ∨ i = 8 := by omega
          clear hi
          rcases hi2 with rfl | rfl | rfl | rfl | rfl | rfl | rfl | rfl | rfl
          · refine wpOp_step rfl ?_
            intro K hK
            obtain ⟨c0, c1, c2, c3, c4, c5, c6, c7, c8, c9, c10, c11⟩ := when_cells (HX3.out _ h.x)
            go_simp
            exact hK _ _ ⟨_, _, _, _, _, _, _, _, rfl, h.u0 hL⟩
          · refine wpOp_step rfl ?_
            intro K hK
            go_simp
            refine (fix_any _ _ _).mono ?_
            rintro e w4 ⟨rfl, hb4⟩
            exact hK _ _ ⟨_, _, _, _, _, _, _, _, rfl, (h.ext hb4).u1 hL⟩
          · refine wpOp_step rfl ?_
            intro K hK
            obtain rfl := h.f1 (pred_spec ho hp (j := 1) (by kernel_rfl))
            go_simp
            refine (pay_any _ _ _ _ _ _ _ _).mono ?_
            rintro e w4 ⟨rfl, hb4⟩
            exact hK _ _ ⟨_, _, _, _, _, _, _, _, rfl, (h.ext hb4).u2 hL⟩
          · refine wpOp_step rfl ?_
            intro K hK
            obtain rfl := h.f2 (pred_spec ho hp (j := 2) (by kernel_rfl))
            go_simp
            exact hK _ _ ⟨_, _, _, _, _, _, _, _, rfl, (h.ext (below_a1 _ _)).u3 hL (OnePay.new _ payL rfl _)⟩
          · refine wpOp_step rfl ?_
            intro K hK
            have h8 := h.open8 (by omega) hL
            have p3 := pred_spec ho hp (j := 3) (by kernel_rfl)
            obtain ⟨_, B3, rfl, _⟩ := h.f3 p3 h8
            go_simp
            exact hK _ _ ⟨_, _, _, _, _, _, _, _, rfl, h.u4 hL p3⟩
          · refine wpOp_step rfl ?_
            intro K hK
            have h8 := h.open8 (by omega) hL
            have p4 := pred_spec ho hp (j := 4) (by kernel_rfl)
            obtain rfl := h.f0 (pred_spec ho hp (j := 0) (by kernel_rfl))
            obtain ⟨rfl, p3⟩ := h.f4 p4 h8
            obtain ⟨k3, B3, rfl, q3⟩ := h.f3 p3 h8
            go_simp
            exact hK _ _ ⟨_, _, _, _, _, _, _, _, rfl, (h.ext (below_a1 _ _)).u5 hL (TwoC.new _ ⟨k3, B3, rfl, q3⟩ _)⟩
          · refine wpOp_step rfl ?_
            intro K hK
            have h8 := h.open8 (by omega) hL
            have p5 := pred_spec ho hp (j := 5) (by kernel_rfl)
            obtain ⟨B5, y5, rfl, _⟩ := h.f5 p5 h8
            go_simp
            exact hK _ _ ⟨_, _, _, _, _, _, _, _, rfl, h.u6 hL p5⟩
          · refine wpOp_step rfl ?_
            intro K hK
            go_simp
            exact hK _ _ ⟨_, _, _, _, _, _, _, _, rfl, (h.ext (below_a1 _ _)).u7 hL h.x.size (BoxN.new _ zc _)⟩
          · refine wpOp_step rfl ?_
            intro K hK
            obtain ⟨rfl, p5⟩ := h.f6 (pred_spec ho hp (j := 6) (by kernel_rfl)) hL
            obtain ⟨X, rfl, hX, hbx⟩ := h.f7 (pred_spec ho hp (j := 7) (by kernel_rfl)) hL
            obtain ⟨B5, y5, rfl, q5⟩ := h.f5 p5 hL
            have hall : ∀ i, i < 8 → L i = true := fun i hi => by
              have hi2 : i = 0 ∨ i = 1 ∨ i = 2 ∨ i = 3 ∨ i = 4 ∨ i = 5 ∨ i = 6 ∨ i = 7 := by omega
              rcases hi2 with rfl | rfl | rfl | rfl | rfl | rfl | rfl | rfl
              all_goals exact pred_spec ho hp (by kernel_rfl)
            have y0' : w'.cell? ⟨X, 0, none⟩ = some _ := hbx.cell rfl
            have y1' : w'.cell? ⟨X, 1, none⟩ = some _ := hbx.cell rfl
            have y2' : w'.cell? ⟨X, 2, none⟩ = some _ := hbx.cell rfl
            have y3' : w'.cell? ⟨X, 3, none⟩ = some _ := hbx.cell rfl
            have y4' : w'.cell? ⟨X, 4, none⟩ = some _ := hbx.cell rfl
            have y5' : w'.cell? ⟨X, 5, none⟩ = some _ := hbx.cell rfl
            have y6' : w'.cell? ⟨X, 6, none⟩ = some _ := hbx.cell rfl
            have y7' : w'.cell? ⟨X, 7, none⟩ = some _ := hbx.cell rfl
            have y8' : w'.cell? ⟨X, 8, none⟩ = some _ := hbx.cell rfl
            have y9' : w'.cell? ⟨X, 9, none⟩ = some _ := hbx.cell rfl
            have y10' : w'.cell? ⟨X, 10, none⟩ = some _ := hbx.cell rfl
            have y11' : w'.cell? ⟨X, 11, none⟩ = some _ := hbx.cell rfl
            have z0 := hbx.frozen 0
            have z1 := hbx.frozen 1
            have z2 := hbx.frozen 2
            have z3 := hbx.frozen 3
            have z4 := hbx.frozen 4
            have z5 := hbx.frozen 5
            have z6 := hbx.frozen 6
            have z7 := hbx.frozen 7
            have z8 := hbx.frozen 8
            have z9 := hbx.frozen 9
            have z10 := hbx.frozen 10
            have z11 := hbx.frozen 11
            go_simp
            exact hK _ _ ⟨_, _, _, _, _, _, _, _, rfl, h.u8 hall HB4.out.2.2.2 hX hbx ⟨B5, y5, rfl, q5⟩⟩
        · rintro L a w' ⟨v0, v1, v2, v3, v4, v5, v6, vb, rfl, h⟩ hall
          have HF : Hid (Held w' vb pickC ∧ Below W4.heap.size W4 w') := Lib.hid ⟨h.f8 (hall 8 (by decide)), h.x⟩
          clear h hall
          go_wp2
          go_meet
          exact HF.out
      case rest =>
        obtain ⟨HU, hu⟩ := hcut
        have hw5 := hw4.trans (hu.mono hw4.size)
        have HL5 := Lib.hid (HL4.out.low hu)
        obtain ⟨X4, es4, dd4, ss4, rfl, hx4, hr4⟩ := HU
        obtain ⟨n7, m7, rfl⟩ := hr4.1.len
        obtain ⟨n8, m8, rfl⟩ := hr4.2.1.len
        obtain ⟨n9, m9, rfl⟩ := hr4.2.2.1.len
        have HN5 := Lib.hid (NOk.mk (HB4.out.1.low hu) (HB4.out.2.1.frame hu) (HB4.out.2.2.1.low hu) (HB4.out.2.2.2.frame hu) hx4 hr4 HL5.out.s HL5.out.p)
        clear HB4 HL4 HL5 hx4 hr4 hu hw4
        obtain ⟨W5, hW5⟩ : ∃ W5, W5 = wc := ⟨_, rfl⟩
        rw [← hW5] at hw5 HN5 ⊢
        clear hW5
        obtain ⟨c0, c1, c2, c3, c4, c5, c6, c7, c8, c9, c10, c11⟩ := unt_cells HN5.out.bu
        go_wp2_with fail
        refine (show Calls _ _ _ W5 _ from needs_lit (n := 4) untC_needs rfl (by decide) HN5.out.ru HN5.out.s HN5.out.p).mono ?_
        rintro e w6 ⟨aa, ka, rfl, ha6, hb6⟩
        have hw6 := hw5.trans (hb6.mono hw5.size)
        have HN6 := Lib.hid (HN5.out.low hb6)
        clear c0 c1 c2 c3 c4 c5 c6 c7 c8 c9 c10 c11 HN5 hw5 hb6
        obtain ⟨c0, c1, c2, c3, c4, c5, c6, c7, c8, c9, c10, c11⟩ := when_cells HN6.out.bw
        have Ha6 := Lib.hid ha6
        clear ha6
        go_wp2_with fail
        refine (show Calls _ _ _ w6 _ from needs_lit (n := 5) whenC_needs rfl (by decide) HN6.out.rw HN6.out.s HN6.out.p).mono ?_
        rintro e w7 ⟨ab, kb, rfl, hb7', hb7⟩
        have hw7 := hw6.trans (hb7.mono hw6.size)
        have HN7 := Lib.hid (HN6.out.low hb7)
        have Ha7 := Lib.hid (Ha6.out.low hb7)
        have Hb7 := Lib.hid hb7'
        clear c0 c1 c2 c3 c4 c5 c6 c7 c8 c9 c10 c11 HN6 hw6 hb7 hb7' Ha6
        obtain ⟨c0, c1, c2, c3, c4, c5, c6, c7, c8, c9, c10, c11⟩ := when_cells HN7.out.bw
        go_wp2_with fail
        refine (show Calls _ _ _ w7 _ from days_lit (n := 2) (vis_of whenC_err rfl) whenC_days rfl (by decide) HN7.out.rw HN7.out.s HN7.out.p).mono ?_
        rintro e w8 ⟨ac, kc, rfl, hc8, hb8⟩
        have hw8 := hw7.trans (hb8.mono hw7.size)
        have HN8 := Lib.hid (HN7.out.low hb8)
        have Ha8 := Lib.hid (Ha7.out.low hb8)
        have Hb8 := Lib.hid (Hb7.out.low hb8)
        have Hc8 := Lib.hid hc8
        clear c0 c1 c2 c3 c4 c5 c6 c7 c8 c9 c10 c11 HN7 hw7 hb8 hc8 Ha7 Hb7
        obtain ⟨c0, c1, c2, c3, c4, c5, c6, c7, c8, c9, c10, c11⟩ := pick_cells HN8.out.bp
        go_wp2_with fail
        refine (show Calls _ _ _ w8 _ from dead_lit (n := 1) pickC_dead rfl (by decide) HN8.out.rp HN8.out.s HN8.out.p).mono ?_
        rintro e w9 ⟨ae, ke, rfl, hd9, hb9⟩
        have hw9 := hw8.trans (hb9.mono hw8.size)
        have HN9 := Lib.hid (HN8.out.low hb9)
        have Ha9 := Lib.hid (Ha8.out.low hb9)
        have Hb9 := Lib.hid (Hb8.out.low hb9)
        have Hc9 := Lib.hid (Hc8.out.low hb9)
        have Hd9 := Lib.hid hd9
        clear c0 c1 c2 c3 c4 c5 c6 c7 c8 c9 c10 c11 HN8 hw8 hb9 hd9 Ha8 Hb8 Hc8
        obtain ⟨c0, c1, c2, c3, c4, c5, c6, c7, c8, c9, c10, c11⟩ := when_cells HN9.out.bw
        go_wp2_with fail
        refine (show Calls _ _ _ w9 _ from needs_lit (n := 0) whenC_needs7 rfl (by decide) HN9.out.rw HN9.out.s HN9.out.p).mono ?_
        rintro e w10 ⟨af, kf, rfl, _, hb10⟩
        have hw10 := hw9.trans (hb10.mono hw9.size)
        have HN10 := Lib.hid (HN9.out.low hb10)
        have Ha10 := Lib.hid (Ha9.out.low hb10)
        have Hb10 := Lib.hid (Hb9.out.low hb10)
        have Hc10 := Lib.hid (Hc9.out.low hb10)
        have Hd10 := Lib.hid (Hd9.out.low hb10)
        clear c0 c1 c2 c3 c4 c5 c6 c7 c8 c9 c10 c11 HN9 hw9 hb10 Ha9 Hb9 Hc9 Hd9
        obtain ⟨c0, c1, c2, c3, c4, c5, c6, c7, c8, c9, c10, c11⟩ := unt_cells HN10.out.bu
        go_wp2_with fail
        refine (show Calls _ _ _ w10 _ from days_lit (n := 1) (vis_of untC_err rfl) untC_days rfl (by decide) HN10.out.ru HN10.out.s HN10.out.p).mono ?_
        rintro e w11 ⟨ag, kg, rfl, hl11, hb11⟩
        have hw11 := hw10.trans (hb11.mono hw10.size)
        have HN11 := Lib.hid (HN10.out.low hb11)
        have HQ11 := Lib.hid (QOk.mk (Ha10.out.low hb11) (Hb10.out.low hb11) (Hc10.out.low hb11) (Hd10.out.low hb11) hl11)
        clear c0 c1 c2 c3 c4 c5 c6 c7 c8 c9 c10 c11 HN10 hw10 hb11 Ha10 Hb10 Hc10 Hd10 hl11
        go_wp2_with fail
        have hbx := below_a3' w11 (oNd ⟨#[88]⟩ 4) (oNd ⟨#[88]⟩ 6) (oNd ⟨#[89]⟩ 3)
        have HX12 := Lib.hid (box3_setup w11)
        have hz12 : (((w11.alloc (oNd ⟨#[88]⟩ 4)).alloc (oNd ⟨#[88]⟩ 6)).alloc (oNd ⟨#[89]⟩ 3)).heap.size = w11.heap.size + 1 + 1 + 1 := by rw [World.size_alloc, World.size_alloc, World.size_alloc]
        change Calls _ _ _ ((((w11.alloc (oNd ⟨#[88]⟩ 4)).alloc (oNd ⟨#[88]⟩ 6)).alloc (oNd ⟨#[89]⟩ 3)).alloc _) _
        generalize ((w11.alloc (oNd ⟨#[88]⟩ 4)).alloc (oNd ⟨#[88]⟩ 6)).alloc (oNd ⟨#[89]⟩ 3) = w12 at hbx HX12 hz12 ⊢
        have hw12 := hw11.trans (hbx.mono hw11.size)
        have HN12 := Lib.hid (HN11.out.low hbx)
        have HQ12 := Lib.hid (HQ11.out.low hbx)
        have hs12 := hbx.size
        obtain ⟨T, hT⟩ : ∃ T, w11.heap.size = T := ⟨_, rfl⟩
        rw [hT] at HX12 hz12 ⊢
        clear hT hbx HN11 HQ11 hw11 hs12
        have HD12 := nd4 w12
        rw [hz12] at HD12
        clear hz12
        have hba := below_a1 w12 (.cells #[.string ⟨#[88]⟩, .int .i64 4, .string ⟨#[88]⟩, .int .i64 6, .string ⟨#[89]⟩, .int .i64 3, .string ⟨#[90]⟩, .int .i64 3] 58)
        refine (sameNeeds_true [(bX, 4), (bX, 6), (bY, 3), (bZ, 3)] _ _ _ (HQ12.out.a.low hba) HD12 (by decide)).mono ?_
        rintro e w13 ⟨rfl, hq⟩
        clear HD12
        have hb13 := hba.trans (hq.mono hba.size)
        clear hba hq
        have hw13 := hw12.trans (hb13.mono hw12.size)
        have HN13 := Lib.hid (HN12.out.low hb13)
        have HQ13 := Lib.hid (HQ12.out.low hb13)
        have HX13 := Lib.hid (HX12.out.low hb13)
        clear hb13 hw12 HN12 HQ12 HX12
        obtain ⟨x0, x1, y0, y1, z0, z1⟩ := HX13.out
        go_wp2_with fail
        clear x0 x1 y0 y1 z0 z1
        have hba := below_a1 w13 (.cells #[.string ⟨#[88]⟩, .int .i64 4, .string ⟨#[88]⟩, .int .i64 6, .string ⟨#[89]⟩, .int .i64 3, .string ⟨#[90]⟩, .int .i64 4, .string ⟨#[90]⟩, .int .i64 6] 58)
        refine (sameNeeds_true [(bX, 4), (bX, 6), (bY, 3), (bZ, 4), (bZ, 6)] _ _ _ (HQ13.out.b.low hba) (nd5 w13) (by decide)).mono ?_
        rintro e w14 ⟨rfl, hq⟩
        have hb14 := hba.trans (hq.mono hba.size)
        clear hba hq
        have hw14 := hw13.trans (hb14.mono hw13.size)
        have HN14 := Lib.hid (HN13.out.low hb14)
        have HQ14 := Lib.hid (HQ13.out.low hb14)
        have HX14 := Lib.hid (HX13.out.low hb14)
        clear hb14 hw13 HN13 HQ13 HX13
        go_wp2_with fail
        have hba := below_a1 w14 (.cells #[.int .i64 4, .int .i64 6] 3)
        refine (sameDays_true [4, 6] _ _ _ (HQ14.out.c.low hba) (dy2 w14) (by decide)).mono ?_
        rintro e w15 ⟨rfl, hq⟩
        have hb15 := hba.trans (hq.mono hba.size)
        clear hba hq
        have hw15 := hw14.trans (hb15.mono hw14.size)
        have HN15 := Lib.hid (HN14.out.low hb15)
        have HQ15 := Lib.hid (HQ14.out.low hb15)
        have HX15 := Lib.hid (HX14.out.low hb15)
        clear hb15 hw14 HN14 HQ14 HX14
        go_wp2_with fail
        have hba := below_a1 w15 (.cells #[.string ⟨#[66, 111, 98]⟩, .string ⟨#[100]⟩, .int .i64 3, .bool false] 60)
        refine (sameChoices_true [(bBob, bd, 3)] _ _ _ (HQ15.out.d.low hba) (cx1 w15) (by decide)).mono ?_
        rintro e w16 ⟨rfl, hq⟩
        have hb16 := hba.trans (hq.mono hba.size)
        clear hba hq
        have hw16 := hw15.trans (hb16.mono hw15.size)
        have HN16 := Lib.hid (HN15.out.low hb16)
        have HQ16 := Lib.hid (HQ15.out.low hb16)
        have HX16 := Lib.hid (HX15.out.low hb16)
        clear hb16 hw15 HN15 HQ15 HX15
        go_wp2_with fail
        have hba := below_a1 w16 (.cells #[.int .i64 7] 3)
        refine (sameDays_true [7] _ _ _ (HQ16.out.l.low hba) (dy1 w16) (by decide)).mono ?_
        rintro e w17 ⟨rfl, hq⟩
        have hb17 := hba.trans (hq.mono hba.size)
        clear hba hq
        have hw17 := hw16.trans (hb17.mono hw16.size)
        have HN17 := Lib.hid (HN16.out.low hb17)
        have HQ17 := Lib.hid (HQ16.out.low hb17)
        have HX17 := Lib.hid (HX16.out.low hb17)
        clear hb17 hw16 HN16 HQ16 HX16
        obtain ⟨c0, c1, c2, c3, c4, c5, c6, c7, c8, c9, c10, c11⟩ := unt_cells HN17.out.bu
        go_wp2_with fail
        clear c0 c1 c2 c3 c4 c5 c6 c7 c8 c9 c10 c11
        refine (show Calls _ _ _ w17 _ from caus_lit untC_c2 (by decide) HN17.out.ru HN17.out.s HN17.out.p).mono ?_
        rintro e w18 ⟨rfl, hq⟩
        have hb18 := hq
        clear hq
        have hw18 := hw17.trans (hb18.mono hw17.size)
        have HN18 := Lib.hid (HN17.out.low hb18)
        have HQ18 := Lib.hid (HQ17.out.low hb18)
        have HX18 := Lib.hid (HX17.out.low hb18)
        clear hb18 hw17 HN17 HQ17 HX17
        obtain ⟨c0, c1, c2, c3, c4, c5, c6, c7, c8, c9, c10, c11⟩ := unt_cells HN18.out.bu
        go_wp2_with fail
        clear c0 c1 c2 c3 c4 c5 c6 c7 c8 c9 c10 c11
        refine (show Calls _ _ _ w18 _ from caus_lit untC_c3 (by decide) HN18.out.ru HN18.out.s HN18.out.p).mono ?_
        rintro e w19 ⟨rfl, hq⟩
        have hb19 := hq
        clear hq
        have hw19 := hw18.trans (hb19.mono hw18.size)
        have HN19 := Lib.hid (HN18.out.low hb19)
        have HQ19 := Lib.hid (HQ18.out.low hb19)
        have HX19 := Lib.hid (HX18.out.low hb19)
        clear hb19 hw18 HN18 HQ18 HX18
        obtain ⟨c0, c1, c2, c3, c4, c5, c6, c7, c8, c9, c10, c11⟩ := pick_cells HN19.out.bp
        go_wp2_with fail
        clear c0 c1 c2 c3 c4 c5 c6 c7 c8 c9 c10 c11
        refine (show Calls _ _ _ w19 _ from caus_lit pickC_c3 (by decide) HN19.out.rp HN19.out.s HN19.out.p).mono ?_
        rintro e w20 ⟨rfl, hq⟩
        have hb20 := hq
        clear hq
        have hw20 := hw19.trans (hb20.mono hw19.size)
        have HN20 := Lib.hid (HN19.out.low hb20)
        have HQ20 := Lib.hid (HQ19.out.low hb20)
        have HX20 := Lib.hid (HX19.out.low hb20)
        clear hb20 hw19 HN19 HQ19 HX19
        obtain ⟨c0, c1, c2, c3, c4, c5, c6, c7, c8, c9, c10, c11⟩ := pick_cells HN20.out.bp
        go_wp2_with fail
        clear c0 c1 c2 c3 c4 c5 c6 c7 c8 c9 c10 c11
        refine (show Calls _ _ _ w20 _ from caus_lit pickC_c1 (by decide) HN20.out.rp HN20.out.s HN20.out.p).mono ?_
        rintro e w21 ⟨rfl, hq⟩
        have hb21 := hq
        clear hq
        have hw21 := hw20.trans (hb21.mono hw20.size)
        have HN21 := Lib.hid (HN20.out.low hb21)
        have HQ21 := Lib.hid (HQ20.out.low hb21)
        have HX21 := Lib.hid (HX20.out.low hb21)
        clear hb21 hw20 HN20 HQ20 HX20
        go_wp2_with fail
        refine (fix_any _ _ _).mono ?_
        rintro e w22 ⟨rfl, hq⟩
        have hb22 := hq
        clear hq
        have hw22 := hw21.trans (hb22.mono hw21.size)
        have HN22 := Lib.hid (HN21.out.low hb22)
        have HQ22 := Lib.hid (HQ21.out.low hb22)
        have HX22 := Lib.hid (HX21.out.low hb22)
        clear hb22 hw21 HN21 HQ21 HX21
        go_wp2_with fail
        refine (pay_any _ _ _ _ _ _ _ _).mono ?_
        rintro e w23 ⟨rfl, hq⟩
        have hb23 := hq
        clear hq
        have hw23 := hw22.trans (hb23.mono hw22.size)
        have HN23 := Lib.hid (HN22.out.low hb23)
        have HQ23 := Lib.hid (HQ22.out.low hb23)
        have HX23 := Lib.hid (HX22.out.low hb23)
        clear hb23 hw22 HN22 HQ22 HX22
        go_wp2_with fail
        refine (show Calls _ _ _ w23 _ from caus_lit (es := .slice none 0 0) (dd := .slice none 0 0) (ss := .slice none 0 0) payX_c3 (by decide) ⟨rdE_nil _, rdI_nil _, rdC_nil _, by decide, by decide⟩ HN23.out.s HN23.out.p).mono ?_
        rintro e w24 ⟨rfl, hq⟩
        have hb24 := hq
        clear hq
        have hw24 := hw23.trans (hb24.mono hw23.size)
        have HN24 := Lib.hid (HN23.out.low hb24)
        have HQ24 := Lib.hid (HQ23.out.low hb24)
        have HX24 := Lib.hid (HX23.out.low hb24)
        clear hb24 hw23 HN23 HQ23 HX23
        go_wp2_with fail
        refine (fix_any _ _ _).mono ?_
        rintro e w25 ⟨rfl, hq⟩
        have hb25 := hq
        clear hq
        have hw25 := hw24.trans (hb25.mono hw24.size)
        have HN25 := Lib.hid (HN24.out.low hb25)
        have HQ25 := Lib.hid (HQ24.out.low hb25)
        have HX25 := Lib.hid (HX24.out.low hb25)
        clear hb25 hw24 HN24 HQ24 HX24
        go_wp2_with fail
        refine (pay_any _ _ _ _ _ _ _ _).mono ?_
        rintro e w26 ⟨rfl, hq⟩
        have hb26 := hq
        clear hq
        have hw26 := hw25.trans (hb26.mono hw25.size)
        have HN26 := Lib.hid (HN25.out.low hb26)
        have HQ26 := Lib.hid (HQ25.out.low hb26)
        have HX26 := Lib.hid (HX25.out.low hb26)
        clear hb26 hw25 HN25 HQ25 HX25
        go_wp2_with fail
        refine (show Calls _ _ _ w26 _ from caus_lit (es := .slice none 0 0) (dd := .slice none 0 0) (ss := .slice none 0 0) payX_c4 (by decide) ⟨rdE_nil _, rdI_nil _, rdC_nil _, by decide, by decide⟩ HN26.out.s HN26.out.p).mono ?_
        rintro e w27 ⟨rfl, hq⟩
        have hb27 := hq
        clear hq
        have hw27 := hw26.trans (hb27.mono hw26.size)
        have HN27 := Lib.hid (HN26.out.low hb27)
        have HQ27 := Lib.hid (HQ26.out.low hb27)
        have HX27 := Lib.hid (HX26.out.low hb27)
        clear hb27 hw26 HN26 HQ26 HX26
        go_wp2_with fail
        refine (show Calls _ _ _ w27 _ from caus_lit (es := .slice none 0 0) (dd := .slice none 0 0) (ss := .slice none 0 0) noneC_c (by decide) ⟨rdE_nil _, rdI_nil _, rdC_nil _, by decide, by decide⟩ HN27.out.s HN27.out.p).mono ?_
        rintro e w28 ⟨rfl, hq⟩
        have hb28 := hq
        clear hq
        have hw28 := hw27.trans (hb28.mono hw27.size)
        have HN28 := Lib.hid (HN27.out.low hb28)
        have HQ28 := Lib.hid (HQ27.out.low hb28)
        have HX28 := Lib.hid (HX27.out.low hb28)
        clear hb28 hw27 HN27 HQ27 HX27
        obtain ⟨c0, c1, c2, c3, c4, c5, c6, c7, c8, c9, c10, c11⟩ := unt_cells HN28.out.bu
        go_wp2_with fail
        clear c0 c1 c2 c3 c4 c5 c6 c7 c8 c9 c10 c11
        refine (show Calls _ _ _ w28 _ from caus_lit untC_cm (by decide) HN28.out.ru HN28.out.s HN28.out.p).mono ?_
        rintro e w29 ⟨rfl, hq⟩
        have hb29 := hq
        clear hq
        have hw29 := hw28.trans (hb29.mono hw28.size)
        have HN29 := Lib.hid (HN28.out.low hb29)
        have HQ29 := Lib.hid (HQ28.out.low hb29)
        have HX29 := Lib.hid (HX28.out.low hb29)
        clear hb29 hw28 HN28 HQ28 HX28
        obtain ⟨c0, c1, c2, c3, c4, c5, c6, c7, c8, c9, c10, c11⟩ := unt_cells HN29.out.bu
        go_wp2_with fail
        clear c0 c1 c2 c3 c4 c5 c6 c7 c8 c9 c10 c11
        refine (show Calls _ _ _ w29 _ from caus_lit untC_cb (by decide) HN29.out.ru HN29.out.s HN29.out.p).mono ?_
        rintro e w30 ⟨rfl, hq⟩
        have hb30 := hq
        clear hq
        have hw30 := hw29.trans (hb30.mono hw29.size)
        have HN30 := Lib.hid (HN29.out.low hb30)
        have HQ30 := Lib.hid (HQ29.out.low hb30)
        have HX30 := Lib.hid (HX29.out.low hb30)
        clear hb30 hw29 HN29 HQ29 HX29
        go_wp2_with fail
        have HE31 := Lib.hid (env_setup w30)
        have hbx := below_a3' w30 oFx oCx (oEnv w30.heap.size)
        change Calls _ _ _ (((w30.alloc oFx).alloc oCx).alloc (oEnv w30.heap.size)) _
        generalize ((w30.alloc oFx).alloc oCx).alloc (oEnv w30.heap.size) = w31 at HE31 hbx ⊢
        have hw31 := hw30.trans (hbx.mono hw30.size)
        have HN31 := Lib.hid (HN30.out.low hbx)
        obtain ⟨S5, hS5⟩ : ∃ S5, w30.heap.size = S5 := ⟨_, rfl⟩
        clear hbx hw30 HN30 HQ30 HX30
        rw [hS5] at HE31 ⊢
        clear hS5
        refine (show Calls _ _ _ w31 _ from known4 HE31.out.f HE31.out.c).mono ?_
        rintro e w32 ⟨b, k1, a2, k2, rfl, q1, hq⟩
        have hw32 := hw31.trans (hq.mono hw31.size)
        have HN32 := Lib.hid (HN31.out.low hq)
        have HE32 := Lib.hid (HE31.out.low hq)
        have Q1 := Lib.hid q1
        clear hq q1 hw31 HN31 HE31
        obtain ⟨_, _, e0, e1⟩ := HE32.out
        have hl := World.block_lt_of_cell? w32 _ e0
        go_wp2_with fail
        clear e0 e1 hl
        obtain ⟨hn33, hk33⟩ := only_setup w32 (.cells #[.slice (some ⟨b, 0, none⟩) 1 k1, .slice a2 0 k2] 68)
        have hbx := below_a3' w32 (.cells #[.slice (some ⟨b, 0, none⟩) 1 k1, .slice a2 0 k2] 68) oNs oKs
        have c33 : ∀ (i : Nat) (u : Value), [Value.slice (some ⟨b, 0, none⟩) 1 k1, .slice a2 0 k2][i]? = some u → (((w32.alloc (.cells #[.slice (some ⟨b, 0, none⟩) 1 k1, .slice a2 0 k2] 68)).alloc oNs).alloc oKs).cell? ⟨w32.heap.size, i, none⟩ = some u := fun i u h =>
          cell_low (cell_low (cell_new w32 _ 68 h) (below_a1 _ _)) (below_a1 _ _)
        change Calls _ _ _ (((w32.alloc (.cells #[.slice (some ⟨b, 0, none⟩) 1 k1, .slice a2 0 k2] 68)).alloc oNs).alloc oKs) _
        generalize ((w32.alloc (.cells #[.slice (some ⟨b, 0, none⟩) 1 k1, .slice a2 0 k2] 68)).alloc oNs).alloc oKs = w33 at hn33 hk33 hbx c33 ⊢
        have hw33 := hw32.trans (hbx.mono hw32.size)
        have HN33 := Lib.hid (HN32.out.low hbx)
        have HE33 := Lib.hid (HE32.out.low hbx)
        have Q33 := Lib.hid (cell_low Q1.out hbx)
        have C33 := Lib.hid (And.intro (c33 0 _ rfl) (c33 1 _ rfl))
        obtain ⟨N5, hN5⟩ : ∃ N5, w32.heap.size = N5 := ⟨_, rfl⟩
        clear hbx c33 hw32 HN32 HE32 Q1
        rw [hN5] at hn33 hk33 C33 ⊢
        clear hN5
        refine (show Calls _ _ _ w33 _ from only1 HE33.out.f HE33.out.c hn33 hk33).mono ?_
        rintro e w34 ⟨b', k3, g, k4, rfl, q2, q3, hq⟩
        have hw34 := hw33.trans (hq.mono hw33.size)
        have HN34 := Lib.hid (HN33.out.low hq)
        have HE34 := Lib.hid (HE33.out.low hq)
        have Q34 := Lib.hid (And.intro (cell_low Q33.out hq) (And.intro (cell_low C33.out.1 hq) (And.intro (cell_low C33.out.2 hq) (And.intro q2 q3))))
        clear hq q2 q3 hn33 hk33 hw33 HN33 HE33 Q33 C33
        obtain ⟨_, _, e0, e1⟩ := HE34.out
        have hl := World.block_lt_of_cell? w34 _ e0
        go_wp2_with fail
        clear e0 e1 hl
        have hbx := below_a1 w34 (.cells #[.slice (some ⟨b', 0, none⟩) 1 k3, .slice (some ⟨g, 0, none⟩) 1 k4] 68)
        have c35 : ∀ (i : Nat) (u : Value), [Value.slice (some ⟨b', 0, none⟩) 1 k3, .slice (some ⟨g, 0, none⟩) 1 k4][i]? = some u → (w34.alloc (.cells #[.slice (some ⟨b', 0, none⟩) 1 k3, .slice (some ⟨g, 0, none⟩) 1 k4] 68)).cell? ⟨w34.heap.size, i, none⟩ = some u := fun i u h =>
          cell_new w34 _ 68 h
        change Calls _ _ _ (w34.alloc (.cells #[.slice (some ⟨b', 0, none⟩) 1 k3, .slice (some ⟨g, 0, none⟩) 1 k4] 68)) _
        generalize w34.alloc (.cells #[.slice (some ⟨b', 0, none⟩) 1 k3, .slice (some ⟨g, 0, none⟩) 1 k4] 68) = w35 at hbx c35 ⊢
        have hw35 := hw34.trans (hbx.mono hw34.size)
        have HN35 := Lib.hid (HN34.out.low hbx)
        have HE35 := Lib.hid (HE34.out.low hbx)
        have Q35 := Lib.hid (And.intro (cell_low Q34.out.1 hbx) (And.intro (cell_low Q34.out.2.1 hbx) (And.intro (cell_low Q34.out.2.2.1 hbx) (And.intro (cell_low Q34.out.2.2.2.1 hbx) (And.intro (cell_low Q34.out.2.2.2.2 hbx) (And.intro (c35 0 _ rfl) (c35 1 _ rfl)))))))
        obtain ⟨P5, hP5⟩ : ∃ P5, w34.heap.size = P5 := ⟨_, rfl⟩
        clear hbx c35 hw34 HN34 HE34 Q34
        rw [hP5] at Q35 ⊢
        clear hP5
        refine (show Calls _ _ _ w35 _ from knownm HE35.out.f HE35.out.c).mono ?_
        rintro e w36 ⟨a5, k5, a6, k6, rfl, hq⟩
        have hw36 := hw35.trans (hq.mono hw35.size)
        have HN36 := Lib.hid (HN35.out.low hq)
        obtain ⟨p0, p1, p2, p3, p4, p5, p6⟩ := Q35.out
        replace p0 := cell_low p0 hq
        replace p1 := cell_low p1 hq
        replace p2 := cell_low p2 hq
        replace p3 := cell_low p3 hq
        replace p4 := cell_low p4 hq
        replace p5 := cell_low p5 hq
        replace p6 := cell_low p6 hq
        have l0 := World.block_lt_of_cell? w36 _ p0
        have l1 := World.block_lt_of_cell? w36 _ p1
        have l3 := World.block_lt_of_cell? w36 _ p3
        have l4 := World.block_lt_of_cell? w36 _ p4
        have l5 := World.block_lt_of_cell? w36 _ p5
        clear hq hw35 HN35 HE35 Q35
        go_wp2_with fail
        have hbx := below_a1 w36 (.cells #[.slice a5 0 k5, .slice a6 0 k6] 68)
        clear p0 p1 p2 p3 p4 p5 p6 l0 l1 l3 l4 l5
        refine (alive_any _ (HN36.out.s.frame hbx) (HN36.out.p.frame hbx)).mono ?_
        rintro e w37 ⟨rfl, hq⟩
        have hw37 := hw36.trans ((hbx.trans (hq.mono hbx.size)).mono hw36.size)
        clear hq hbx hw36 HN36
        go_wp2
        go_ret
        exact ⟨ret_bool' rfl, hw37⟩
end Go.Proofs.YtflddbgadkndlaaGreatDoor
