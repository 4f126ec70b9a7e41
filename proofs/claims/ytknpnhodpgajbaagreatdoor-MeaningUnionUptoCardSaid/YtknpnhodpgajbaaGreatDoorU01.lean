/-
  Law 10, MeaningUnion.  Printed by tools/genuni.py. MeaningUnion: the flows of ConBoth are those of its parts, merged by day, for every two contracts, days and knowledge that together hold at most 1048576 values and letters; the arguments read afterwards as before; the tables contract.parts, observable.shapes and observable.operations as the program's text lays them.
-/
import Derived.Test.YtknpnhodpgajbaaGreatDoorC29
import Derived.Test.YtknpnhodpgajbaaGreatDoorC28
import Derived.Test.YtknpnhodpgajbaaGreatDoorC26
import Derived.Test.YtknpnhodpgajbaaGreatDoorCards
import Derived.Test.YtknpnhodpgajbaaGreatDoorTie
namespace Go.Proofs.YtknpnhodpgajbaaGreatDoor
open Go.RowKit
theorem both_setupM {w : World} {a b : Con} {es dd ss es2 dd2 ss2 : Value} (hr : RdN w a es dd ss) (hr2 : RdN w b es2 dd2 ss2) :
  RdN ((w.alloc (.cells (a.cells es dd ss ++ b.cells es2 dd2 ss2).toArray 29)).alloc (.cells ((bothM a b).cells (.slice none 0 0) (.slice none 0 0) (.slice (some ⟨w.heap.size, 0, none⟩) 2 2)).toArray 29)) (bothM a b) (.slice none 0 0) (.slice none 0 0) (.slice (some ⟨w.heap.size, 0, none⟩) 2 2) ∧
  BoxN ((w.alloc (.cells (a.cells es dd ss ++ b.cells es2 dd2 ss2).toArray 29)).alloc (.cells ((bothM a b).cells (.slice none 0 0) (.slice none 0 0) (.slice (some ⟨w.heap.size, 0, none⟩) 2 2)).toArray 29)) (w.heap.size + 1) 29 ((bothM a b).cells (.slice none 0 0) (.slice none 0 0) (.slice (some ⟨w.heap.size, 0, none⟩) 2 2)) := by
 have b1 := below_a1 w (.cells (a.cells es dd ss ++ b.cells es2 dd2 ss2).toArray 29)
 have b2 := below_a1 (w.alloc (.cells (a.cells es dd ss ++ b.cells es2 dd2 ss2).toArray 29)) (.cells ((bothM a b).cells (.slice none 0 0) (.slice none 0 0) (.slice (some ⟨w.heap.size, 0, none⟩) 2 2)).toArray 29)
 refine ⟨⟨rdE_nil _, rdI_nil _, (rdC_two (es := es) (dd := dd) (ss := ss) (es2 := es2) (dd2 := dd2) (ss2 := ss2) (fun i u h => cell_new w _ _ h) (hr.frame b1) (hr2.frame b1)).frame b2, by show 3 < 256; decide, by show 0 < 256; decide⟩, ?_⟩
 have := BoxN.new (w.alloc (.cells (a.cells es dd ss ++ b.cells es2 dd2 ss2).toArray 29)) ((bothM a b).cells (.slice none 0 0) (.slice none 0 0) (.slice (some ⟨w.heap.size, 0, none⟩) 2 2)) 29
 rw [World.size_alloc] at this
 exact this
theorem both_bulk (a b : Con) : (bothM a b).bulk ≤ a.bulk + b.bulk + 100 := by
 rw [Con.bulk_eq]
 show 0 + 0 + 0 + xZ.bulk + 0 + 8 + Con.bulks [a, b] ≤ a.bulk + b.bulk + 100
 have e1 : xZ.bulk = 6 := by decide
 have e2 : Con.bulks [a, b] = a.bulk + (b.bulk + 0) := by rw [Con.bulks, Con.bulks, Con.bulks]
 omega
set_option maxHeartbeats 4000000 in
set_option maxRecDepth 100000 in
theorem union10_any (a b : Con) (es dd ss es2 dd2 ss2 : Value) (day fin : Int) (E : EvD) (w : World) (hA : BfH a es dd ss E w) (hB : BfH b es2 dd2 ss2 E w) (hab : a.bulk + b.bulk ≤ 1048576) :
  Calls Tryz.prog 4 #[a.val es dd ss, b.val es2 dd2 ss2, .int .i64 day, .int .i64 fin, E.val] w fun e w' => e = .returned (.bool true) ∧ Below w.heap.size w w' := by
 obtain ⟨p1, pn1, rfl⟩ := hA.rd.1.len
 obtain ⟨p2, pn2, rfl⟩ := hA.rd.2.1.len
 obtain ⟨p3, pn3, rfl⟩ := hA.rd.2.2.1.len
 obtain ⟨q1, qn1, rfl⟩ := hB.rd.1.len
 obtain ⟨q2, qn2, rfl⟩ := hB.rd.2.1.len
 obtain ⟨q3, qn3, rfl⟩ := hB.rd.2.2.1.len
 obtain ⟨W0, hW0, hb0, hz0, bx⟩ := bxu_world w a b (.slice p1 a.ex.sub.length pn1) (.slice p2 a.ds.length pn2) (.slice p3 a.sub.length pn3) (.slice q1 b.ex.sub.length qn1) (.slice q2 b.ds.length qn2) (.slice q3 b.sub.length qn3) E
 have HA := Lib.hid hA
 have HB := Lib.hid hB
 have HX := Lib.hid bx
 have Hb0 := Lib.hid hb0
 have HG1 : Hid (∀ W, Below w.heap.size w W → Calls Tryz.prog 9 #[.agg #[.int .u8 a.k, .string a.fr, .string a.rc, .string a.nm, .int .u8 a.ex.k, .string a.ex.ra, .string a.ex.nm, .int .i64 a.ex.d, .slice p1 a.ex.sub.length pn1, .int .i64 a.d, .slice p2 a.ds.length pn2, .slice p3 a.sub.length pn3], .agg #[.slice E.af E.F.length E.cf, .slice E.ac E.C.length E.cc]] W (BoolPost W)) := Lib.hid fun W hb => great10_any a _ _ _ E W (by omega) (hA.frame hb).rd (hA.frame hb).e hA.fs hA.cs
 have HG2 : Hid (∀ W, Below w.heap.size w W → Calls Tryz.prog 9 #[.agg #[.int .u8 b.k, .string b.fr, .string b.rc, .string b.nm, .int .u8 b.ex.k, .string b.ex.ra, .string b.ex.nm, .int .i64 b.ex.d, .slice q1 b.ex.sub.length qn1, .int .i64 b.d, .slice q2 b.ds.length qn2, .slice q3 b.sub.length qn3], .agg #[.slice E.af E.F.length E.cf, .slice E.ac E.C.length E.cc]] W (BoolPost W)) := Lib.hid fun W hb => great10_any b _ _ _ E W (by omega) (hB.frame hb).rd (hB.frame hb).e hB.fs hB.cs
 have HAl : Hid (∀ W, Below w.heap.size w W → Calls Tryz.prog 19 #[] W fun e w' => e = .returned (.bool true) ∧ Below W.heap.size W w') := Lib.hid fun W hb => alive10_any W ⟨(hA.frame hb).ls, (hA.frame hb).lp, (hA.frame hb).lo⟩
 have hbb : (bothM a b).bulk ≤ 1100000 := by have := both_bulk a b; omega
 have hba : a.bulk ≤ 1048576 := by omega
 have hba2 : b.bulk ≤ 1048576 := by omega
 clear hA hB bx hb0 hab
 show Calls _ _ #[.agg #[.int .u8 a.k, .string a.fr, .string a.rc, .string a.nm, .int .u8 a.ex.k, .string a.ex.ra, .string a.ex.nm, .int .i64 a.ex.d, .slice p1 a.ex.sub.length pn1, .int .i64 a.d, .slice p2 a.ds.length pn2, .slice p3 a.sub.length pn3], .agg #[.int .u8 b.k, .string b.fr, .string b.rc, .string b.nm, .int .u8 b.ex.k, .string b.ex.ra, .string b.ex.nm, .int .i64 b.ex.d, .slice q1 b.ex.sub.length qn1, .int .i64 b.d, .slice q2 b.ds.length qn2, .slice q3 b.sub.length qn3], .int .i64 day, .int .i64 fin, .agg #[.slice E.af E.F.length E.cf, .slice E.ac E.C.length E.cc]] _ _
 change ((w.alloc (.cells #[.int .u8 a.k, .string a.fr, .string a.rc, .string a.nm, .int .u8 a.ex.k, .string a.ex.ra, .string a.ex.nm, .int .i64 a.ex.d, .slice p1 a.ex.sub.length pn1, .int .i64 a.d, .slice p2 a.ds.length pn2, .slice p3 a.sub.length pn3] 29)).alloc (.cells #[.int .u8 b.k, .string b.fr, .string b.rc, .string b.nm, .int .u8 b.ex.k, .string b.ex.ra, .string b.ex.nm, .int .i64 b.ex.d, .slice q1 b.ex.sub.length qn1, .int .i64 b.d, .slice q2 b.ds.length qn2, .slice q3 b.sub.length qn3] 29)).alloc (.cells #[.slice E.af E.F.length E.cf, .slice E.ac E.C.length E.cc] 33) = W0 at hW0
 go_enter Tryz.func4, Tryz.ntmps4
 go_upto_region 1 with (fail)
 clear hW0
 go_wp2_with (go_at_call 19; refine (HAl.out _ Hb0.out).mono ?_; rintro e w1 ⟨rfl, hb1⟩; have hB1 := HX.out.below hb1; have hb01 := Hb0.out.trans (hb1.mono Hb0.out.size); have k0 : w1.cell? ⟨w.heap.size, 0, none⟩ = some (.int .u8 a.k) := hB1.a.cell (j := 0) rfl; have k1 : w1.cell? ⟨w.heap.size, 1, none⟩ = some (.string a.fr) := hB1.a.cell (j := 1) rfl; have k2 : w1.cell? ⟨w.heap.size, 2, none⟩ = some (.string a.rc) := hB1.a.cell (j := 2) rfl; have k3 : w1.cell? ⟨w.heap.size, 3, none⟩ = some (.string a.nm) := hB1.a.cell (j := 3) rfl; have k4 : w1.cell? ⟨w.heap.size, 4, none⟩ = some (.int .u8 a.ex.k) := hB1.a.cell (j := 4) rfl; have k5 : w1.cell? ⟨w.heap.size, 5, none⟩ = some (.string a.ex.ra) := hB1.a.cell (j := 5) rfl; have k6 : w1.cell? ⟨w.heap.size, 6, none⟩ = some (.string a.ex.nm) := hB1.a.cell (j := 6) rfl; have k7 : w1.cell? ⟨w.heap.size, 7, none⟩ = some (.int .i64 a.ex.d) := hB1.a.cell (j := 7) rfl; have k8 : w1.cell? ⟨w.heap.size, 8, none⟩ = some (.slice p1 a.ex.sub.length pn1) := hB1.a.cell (j := 8) rfl; have k9 : w1.cell? ⟨w.heap.size, 9, none⟩ = some (.int .i64 a.d) := hB1.a.cell (j := 9) rfl; have k10 : w1.cell? ⟨w.heap.size, 10, none⟩ = some (.slice p2 a.ds.length pn2) := hB1.a.cell (j := 10) rfl; have k11 : w1.cell? ⟨w.heap.size, 11, none⟩ = some (.slice p3 a.sub.length pn3) := hB1.a.cell (j := 11) rfl; have kv0 : w1.cell? ⟨w.heap.size + 1 + 1, 0, none⟩ = some (.slice E.af E.F.length E.cf) := hB1.v.cell (j := 0) rfl; have kv1 : w1.cell? ⟨w.heap.size + 1 + 1, 1, none⟩ = some (.slice E.ac E.C.length E.cc) := hB1.v.cell (j := 1) rfl)
 refine (HG1.out _ hb01).mono ?_
 rintro e w2 ⟨⟨g1, rfl⟩, hb2⟩
 have hb02 := hb01.trans (hb2.mono hb01.size)
 have hB2 := hB1.below hb2
 have HB2 := Lib.hid hB2
 have Hb02 := Lib.hid hb02
 clear k0 k1 k2 k3 k4 k5 k6 k7 k8 k9 k10 k11 kv0 kv1 hB1 hb01 hb1 hb2
 cases g1 with
 | true =>
  clear hB2 hb02
  go_wp2
  go_ret
  exact ⟨rfl, Hb02.out⟩
 | false =>
  have k0 : w2.cell? ⟨w.heap.size + 1, 0, none⟩ = some (.int .u8 b.k) := hB2.b.cell (j := 0) rfl
  have k1 : w2.cell? ⟨w.heap.size + 1, 1, none⟩ = some (.string b.fr) := hB2.b.cell (j := 1) rfl
  have k2 : w2.cell? ⟨w.heap.size + 1, 2, none⟩ = some (.string b.rc) := hB2.b.cell (j := 2) rfl
  have k3 : w2.cell? ⟨w.heap.size + 1, 3, none⟩ = some (.string b.nm) := hB2.b.cell (j := 3) rfl
  have k4 : w2.cell? ⟨w.heap.size + 1, 4, none⟩ = some (.int .u8 b.ex.k) := hB2.b.cell (j := 4) rfl
  have k5 : w2.cell? ⟨w.heap.size + 1, 5, none⟩ = some (.string b.ex.ra) := hB2.b.cell (j := 5) rfl
  have k6 : w2.cell? ⟨w.heap.size + 1, 6, none⟩ = some (.string b.ex.nm) := hB2.b.cell (j := 6) rfl
  have k7 : w2.cell? ⟨w.heap.size + 1, 7, none⟩ = some (.int .i64 b.ex.d) := hB2.b.cell (j := 7) rfl
  have k8 : w2.cell? ⟨w.heap.size + 1, 8, none⟩ = some (.slice q1 b.ex.sub.length qn1) := hB2.b.cell (j := 8) rfl
  have k9 : w2.cell? ⟨w.heap.size + 1, 9, none⟩ = some (.int .i64 b.d) := hB2.b.cell (j := 9) rfl
  have k10 : w2.cell? ⟨w.heap.size + 1, 10, none⟩ = some (.slice q2 b.ds.length qn2) := hB2.b.cell (j := 10) rfl
  have k11 : w2.cell? ⟨w.heap.size + 1, 11, none⟩ = some (.slice q3 b.sub.length qn3) := hB2.b.cell (j := 11) rfl
  have kv0 : w2.cell? ⟨w.heap.size + 1 + 1, 0, none⟩ = some (.slice E.af E.F.length E.cf) := hB2.v.cell (j := 0) rfl
  have kv1 : w2.cell? ⟨w.heap.size + 1 + 1, 1, none⟩ = some (.slice E.ac E.C.length E.cc) := hB2.v.cell (j := 1) rfl
  go_wp2_with fail
  refine (HG2.out _ hb02).mono ?_
  rintro e w3 ⟨⟨g2, rfl⟩, hb3⟩
  have hb03 := hb02.trans (hb3.mono hb02.size)
  have hB3 := hB2.below hb3
  have HB3 := Lib.hid hB3
  have Hb03 := Lib.hid hb03
  clear k0 k1 k2 k3 k4 k5 k6 k7 k8 k9 k10 k11 kv0 kv1 hB2 hb02 hb3 HB2 Hb02
  cases g2 with
  | true =>
   clear hB3 hb03
   go_wp2
   go_ret
   exact ⟨rfl, Hb03.out⟩
  | false =>
   have k0 : w3.cell? ⟨w.heap.size, 0, none⟩ = some (.int .u8 a.k) := hB3.a.cell (j := 0) rfl
   have k1 : w3.cell? ⟨w.heap.size, 1, none⟩ = some (.string a.fr) := hB3.a.cell (j := 1) rfl
   have k2 : w3.cell? ⟨w.heap.size, 2, none⟩ = some (.string a.rc) := hB3.a.cell (j := 2) rfl
   have k3 : w3.cell? ⟨w.heap.size, 3, none⟩ = some (.string a.nm) := hB3.a.cell (j := 3) rfl
   have k4 : w3.cell? ⟨w.heap.size, 4, none⟩ = some (.int .u8 a.ex.k) := hB3.a.cell (j := 4) rfl
   have k5 : w3.cell? ⟨w.heap.size, 5, none⟩ = some (.string a.ex.ra) := hB3.a.cell (j := 5) rfl
   have k6 : w3.cell? ⟨w.heap.size, 6, none⟩ = some (.string a.ex.nm) := hB3.a.cell (j := 6) rfl
   have k7 : w3.cell? ⟨w.heap.size, 7, none⟩ = some (.int .i64 a.ex.d) := hB3.a.cell (j := 7) rfl
   have k8 : w3.cell? ⟨w.heap.size, 8, none⟩ = some (.slice p1 a.ex.sub.length pn1) := hB3.a.cell (j := 8) rfl
   have k9 : w3.cell? ⟨w.heap.size, 9, none⟩ = some (.int .i64 a.d) := hB3.a.cell (j := 9) rfl
   have k10 : w3.cell? ⟨w.heap.size, 10, none⟩ = some (.slice p2 a.ds.length pn2) := hB3.a.cell (j := 10) rfl
   have k11 : w3.cell? ⟨w.heap.size, 11, none⟩ = some (.slice p3 a.sub.length pn3) := hB3.a.cell (j := 11) rfl
   have m0 : w3.cell? ⟨w.heap.size + 1, 0, none⟩ = some (.int .u8 b.k) := hB3.b.cell (j := 0) rfl
   have m1 : w3.cell? ⟨w.heap.size + 1, 1, none⟩ = some (.string b.fr) := hB3.b.cell (j := 1) rfl
   have m2 : w3.cell? ⟨w.heap.size + 1, 2, none⟩ = some (.string b.rc) := hB3.b.cell (j := 2) rfl
   have m3 : w3.cell? ⟨w.heap.size + 1, 3, none⟩ = some (.string b.nm) := hB3.b.cell (j := 3) rfl
   have m4 : w3.cell? ⟨w.heap.size + 1, 4, none⟩ = some (.int .u8 b.ex.k) := hB3.b.cell (j := 4) rfl
   have m5 : w3.cell? ⟨w.heap.size + 1, 5, none⟩ = some (.string b.ex.ra) := hB3.b.cell (j := 5) rfl
   have m6 : w3.cell? ⟨w.heap.size + 1, 6, none⟩ = some (.string b.ex.nm) := hB3.b.cell (j := 6) rfl
   have m7 : w3.cell? ⟨w.heap.size + 1, 7, none⟩ = some (.int .i64 b.ex.d) := hB3.b.cell (j := 7) rfl
   have m8 : w3.cell? ⟨w.heap.size + 1, 8, none⟩ = some (.slice q1 b.ex.sub.length qn1) := hB3.b.cell (j := 8) rfl
   have m9 : w3.cell? ⟨w.heap.size + 1, 9, none⟩ = some (.int .i64 b.d) := hB3.b.cell (j := 9) rfl
   have m10 : w3.cell? ⟨w.heap.size + 1, 10, none⟩ = some (.slice q2 b.ds.length qn2) := hB3.b.cell (j := 10) rfl
   have m11 : w3.cell? ⟨w.heap.size + 1, 11, none⟩ = some (.slice q3 b.sub.length qn3) := hB3.b.cell (j := 11) rfl
   go_upto_region 5 with (fail)
   go_wp2_with fail
   have hst := both_setupM (w := w3) (HA.out.frame hb03).rd (HB.out.frame hb03).rd
   obtain ⟨W4, hW4⟩ : ∃ W4, W4 = (w3.alloc (.cells #[.int .u8 a.k, .string a.fr, .string a.rc, .string a.nm, .int .u8 a.ex.k, .string a.ex.ra, .string a.ex.nm, .int .i64 a.ex.d, .slice p1 a.ex.sub.length pn1, .int .i64 a.d, .slice p2 a.ds.length pn2, .slice p3 a.sub.length pn3, .int .u8 b.k, .string b.fr, .string b.rc, .string b.nm, .int .u8 b.ex.k, .string b.ex.ra, .string b.ex.nm, .int .i64 b.ex.d, .slice q1 b.ex.sub.length qn1, .int .i64 b.d, .slice q2 b.ds.length qn2, .slice q3 b.sub.length qn3] 29)).alloc (.cells #[.int .u8 3, .string ⟨#[]⟩, .string ⟨#[]⟩, .string ⟨#[]⟩, .int .u8 0, .string ⟨#[]⟩, .string ⟨#[]⟩, .int .i64 0, .slice none 0 0, .int .i64 0, .slice none 0 0, .slice (some ⟨w3.heap.size, 0, none⟩) 2 2] 29) := ⟨_, rfl⟩
   have hb4 : Below w3.heap.size w3 W4 := by rw [hW4]; exact below_a2 _ _ _
   have hr4 : RdN W4 (bothM a b) (.slice none 0 0) (.slice none 0 0) (.slice (some ⟨w3.heap.size, 0, none⟩) 2 2) := by rw [hW4]; exact hst.1
   have hx4 : BoxN W4 (w3.heap.size + 1) 29 ((bothM a b).cells (.slice none 0 0) (.slice none 0 0) (.slice (some ⟨w3.heap.size, 0, none⟩) 2 2)) := by rw [hW4]; exact hst.2
   rw [← hW4]
   clear hst hW4
   have hB4 := hB3.below hb4
   have hb04 := hb03.trans (hb4.mono hb03.size)
   clear HB3 Hb03 hB3 hb03 hb4 k0 k1 k2 k3 k4 k5 k6 k7 k8 k9 k10 k11 m0 m1 m2 m3 m4 m5 m6 m7 m8 m9 m10 m11
   generalize w3.heap.size = S at *
   have HB4 := Lib.hid hB4
   have Hb04 := Lib.hid hb04
   have HX4 := Lib.hid hx4
   have HR4 := Lib.hid hr4
   have HCk : Hid (∀ er, (bothM a b).err = er → Calls Tryz.prog 20 #[.agg #[.int .u8 3, .string ⟨#[]⟩, .string ⟨#[]⟩, .string ⟨#[]⟩, .int .u8 0, .string ⟨#[]⟩, .string ⟨#[]⟩, .int .i64 0, .slice none 0 0, .int .i64 0, .slice none 0 0, .slice (some ⟨S, 0, none⟩) 2 2]] W4 fun e w' => e = .returned (.int .i64 er) ∧ Below W4.heap.size W4 w') := Lib.hid fun er h => by
    subst h
    exact cchk_any (bothM a b) _ _ _ W4 (by omega) hr4 (HA.out.frame hb04).ls (HA.out.frame hb04).lp
   have HB1 : Hid (∀ W, Below w.heap.size w W → Calls Tryz.prog 14 #[.agg #[.int .u8 a.k, .string a.fr, .string a.rc, .string a.nm, .int .u8 a.ex.k, .string a.ex.ra, .string a.ex.nm, .int .i64 a.ex.d, .slice p1 a.ex.sub.length pn1, .int .i64 a.d, .slice p2 a.ds.length pn2, .slice p3 a.sub.length pn3], .int .i64 day, .int .i64 fin, .agg #[.slice E.af E.F.length E.cf, .slice E.ac E.C.length E.cc]] W (BfP W (befR a day fin E.F E.C))) := Lib.hid fun W hb => before_any a _ _ _ day fin E W (HA.out.frame hb)
   have HB2 : Hid (∀ W, Below w.heap.size w W → Calls Tryz.prog 14 #[.agg #[.int .u8 b.k, .string b.fr, .string b.rc, .string b.nm, .int .u8 b.ex.k, .string b.ex.ra, .string b.ex.nm, .int .i64 b.ex.d, .slice q1 b.ex.sub.length qn1, .int .i64 b.d, .slice q2 b.ds.length qn2, .slice q3 b.sub.length qn3], .int .i64 day, .int .i64 fin, .agg #[.slice E.af E.F.length E.cf, .slice E.ac E.C.length E.cc]] W (BfP W (befR b day fin E.F E.C))) := Lib.hid fun W hb => before_any b _ _ _ day fin E W (HB.out.frame hb)
   have HB3 : Hid (∀ W, Below W4.heap.size W4 W → Calls Tryz.prog 14 #[.agg #[.int .u8 3, .string ⟨#[]⟩, .string ⟨#[]⟩, .string ⟨#[]⟩, .int .u8 0, .string ⟨#[]⟩, .string ⟨#[]⟩, .int .i64 0, .slice none 0 0, .int .i64 0, .slice none 0 0, .slice (some ⟨S, 0, none⟩) 2 2], .int .i64 day, .int .i64 fin, .agg #[.slice E.af E.F.length E.cf, .slice E.ac E.C.length E.cc]] W (BfP W (befR (bothM a b) day fin E.F E.C))) := Lib.hid fun W hb => by
    have h0 := hb04.trans (hb.mono hb04.size)
    exact before_any (bothM a b) _ _ _ day fin E W ⟨hbb, hr4.frame hb, (HA.out.frame h0).ls, (HA.out.frame h0).lp, (HA.out.frame h0).lo, (HA.out.frame h0).e, HA.out.fs, HA.out.cs⟩
   have HU := Lib.hid (befR_both a b day fin E.F E.C)
   clear hB4 hb04 hx4 hr4
   by_cases hce : (bothM a b).err = 0
   ·have HU := Lib.hid (HU.out hce)
    obtain ⟨RA, hRA⟩ : ∃ R, R = befR a day fin E.F E.C := ⟨_, rfl⟩
    obtain ⟨RB, hRB⟩ : ∃ R, R = befR b day fin E.F E.C := ⟨_, rfl⟩
    obtain ⟨RU, hRU⟩ : ∃ R, R = befR (bothM a b) day fin E.F E.C := ⟨_, rfl⟩
    rw [← hRA] at HB1
    rw [← hRB] at HB2
    rw [← hRU] at HB3
    rw [← hRA, ← hRB, ← hRU] at HU
    have HLA : Hid (RA.2.length ≤ 1048576) := by rw [hRA]; exact Nat.le_trans (befR_len _ _ _ _ _) hba
    have HLB : Hid (RB.2.length ≤ 1048576) := by rw [hRB]; exact Nat.le_trans (befR_len _ _ _ _ _) hba2
    clear hRA hRB hRU
    obtain ⟨ea, LA⟩ := RA
    obtain ⟨eb, LB⟩ := RB
    obtain ⟨eu, LU⟩ := RU
    refine (HCk.out 0 hce).mono ?_
    rintro e w5 ⟨rfl, hb5⟩
    have hB5 := HB4.out.below hb5
    have hb05 := Hb04.out.trans (hb5.mono Hb04.out.size)
    have k0 : w5.cell? ⟨w.heap.size, 0, none⟩ = some (.int .u8 a.k) := hB5.a.cell (j := 0) rfl
    have k1 : w5.cell? ⟨w.heap.size, 1, none⟩ = some (.string a.fr) := hB5.a.cell (j := 1) rfl
    have k2 : w5.cell? ⟨w.heap.size, 2, none⟩ = some (.string a.rc) := hB5.a.cell (j := 2) rfl
    have k3 : w5.cell? ⟨w.heap.size, 3, none⟩ = some (.string a.nm) := hB5.a.cell (j := 3) rfl
    have k4 : w5.cell? ⟨w.heap.size, 4, none⟩ = some (.int .u8 a.ex.k) := hB5.a.cell (j := 4) rfl
    have k5 : w5.cell? ⟨w.heap.size, 5, none⟩ = some (.string a.ex.ra) := hB5.a.cell (j := 5) rfl
    have k6 : w5.cell? ⟨w.heap.size, 6, none⟩ = some (.string a.ex.nm) := hB5.a.cell (j := 6) rfl
    have k7 : w5.cell? ⟨w.heap.size, 7, none⟩ = some (.int .i64 a.ex.d) := hB5.a.cell (j := 7) rfl
    have k8 : w5.cell? ⟨w.heap.size, 8, none⟩ = some (.slice p1 a.ex.sub.length pn1) := hB5.a.cell (j := 8) rfl
    have k9 : w5.cell? ⟨w.heap.size, 9, none⟩ = some (.int .i64 a.d) := hB5.a.cell (j := 9) rfl
    have k10 : w5.cell? ⟨w.heap.size, 10, none⟩ = some (.slice p2 a.ds.length pn2) := hB5.a.cell (j := 10) rfl
    have k11 : w5.cell? ⟨w.heap.size, 11, none⟩ = some (.slice p3 a.sub.length pn3) := hB5.a.cell (j := 11) rfl
    have kv0 : w5.cell? ⟨w.heap.size + 1 + 1, 0, none⟩ = some (.slice E.af E.F.length E.cf) := hB5.v.cell (j := 0) rfl
    have kv1 : w5.cell? ⟨w.heap.size + 1 + 1, 1, none⟩ = some (.slice E.ac E.C.length E.cc) := hB5.v.cell (j := 1) rfl
    go_wp2_with fail
    refine (HB1.out _ hb05).mono ?_
    rintro e w6 ⟨ad6, cap6, rfl, hb6, l6, n6, r6⟩
    have hB6 := hB5.below hb6
    have hb06 := hb05.trans (hb6.mono hb05.size)
    have hb46 := hb5.trans (hb6.mono hb5.size)
    clear k0 k1 k2 k3 k4 k5 k6 k7 k8 k9 k10 k11 kv0 kv1
    have k0 : w6.cell? ⟨w.heap.size + 1, 0, none⟩ = some (.int .u8 b.k) := hB6.b.cell (j := 0) rfl
    have k1 : w6.cell? ⟨w.heap.size + 1, 1, none⟩ = some (.string b.fr) := hB6.b.cell (j := 1) rfl
    have k2 : w6.cell? ⟨w.heap.size + 1, 2, none⟩ = some (.string b.rc) := hB6.b.cell (j := 2) rfl
    have k3 : w6.cell? ⟨w.heap.size + 1, 3, none⟩ = some (.string b.nm) := hB6.b.cell (j := 3) rfl
    have k4 : w6.cell? ⟨w.heap.size + 1, 4, none⟩ = some (.int .u8 b.ex.k) := hB6.b.cell (j := 4) rfl
    have k5 : w6.cell? ⟨w.heap.size + 1, 5, none⟩ = some (.string b.ex.ra) := hB6.b.cell (j := 5) rfl
    have k6 : w6.cell? ⟨w.heap.size + 1, 6, none⟩ = some (.string b.ex.nm) := hB6.b.cell (j := 6) rfl
    have k7 : w6.cell? ⟨w.heap.size + 1, 7, none⟩ = some (.int .i64 b.ex.d) := hB6.b.cell (j := 7) rfl
    have k8 : w6.cell? ⟨w.heap.size + 1, 8, none⟩ = some (.slice q1 b.ex.sub.length qn1) := hB6.b.cell (j := 8) rfl
    have k9 : w6.cell? ⟨w.heap.size + 1, 9, none⟩ = some (.int .i64 b.d) := hB6.b.cell (j := 9) rfl
    have k10 : w6.cell? ⟨w.heap.size + 1, 10, none⟩ = some (.slice q2 b.ds.length qn2) := hB6.b.cell (j := 10) rfl
    have k11 : w6.cell? ⟨w.heap.size + 1, 11, none⟩ = some (.slice q3 b.sub.length qn3) := hB6.b.cell (j := 11) rfl
    have kv0 : w6.cell? ⟨w.heap.size + 1 + 1, 0, none⟩ = some (.slice E.af E.F.length E.cf) := hB6.v.cell (j := 0) rfl
    have kv1 : w6.cell? ⟨w.heap.size + 1 + 1, 1, none⟩ = some (.slice E.ac E.C.length E.cc) := hB6.v.cell (j := 1) rfl
    go_wp2_with fail
    refine (HB2.out _ hb06).mono ?_
    rintro e w7 ⟨ad7, cap7, rfl, hb7, l7, n7, r7⟩
    have hB7 := hB6.below hb7
    have hb07 := hb06.trans (hb7.mono hb06.size)
    have hb47 := hb46.trans (hb7.mono hb46.size)
    have hX7 := HX4.out.below hb47 HX4.out.lt
    have r6' := r6.below hb7
    clear k0 k1 k2 k3 k4 k5 k6 k7 k8 k9 k10 k11 kv0 kv1
    have k0 : w7.cell? ⟨S + 1, 0, none⟩ = some (.int .u8 3) := hX7.cell (j := 0) rfl
    have k1 : w7.cell? ⟨S + 1, 1, none⟩ = some (.string ⟨#[]⟩) := hX7.cell (j := 1) rfl
    have k2 : w7.cell? ⟨S + 1, 2, none⟩ = some (.string ⟨#[]⟩) := hX7.cell (j := 2) rfl
    have k3 : w7.cell? ⟨S + 1, 3, none⟩ = some (.string ⟨#[]⟩) := hX7.cell (j := 3) rfl
    have k4 : w7.cell? ⟨S + 1, 4, none⟩ = some (.int .u8 0) := hX7.cell (j := 4) rfl
    have k5 : w7.cell? ⟨S + 1, 5, none⟩ = some (.string ⟨#[]⟩) := hX7.cell (j := 5) rfl
    have k6 : w7.cell? ⟨S + 1, 6, none⟩ = some (.string ⟨#[]⟩) := hX7.cell (j := 6) rfl
    have k7 : w7.cell? ⟨S + 1, 7, none⟩ = some (.int .i64 0) := hX7.cell (j := 7) rfl
    have k8 : w7.cell? ⟨S + 1, 8, none⟩ = some (.slice none 0 0) := hX7.cell (j := 8) rfl
    have k9 : w7.cell? ⟨S + 1, 9, none⟩ = some (.int .i64 0) := hX7.cell (j := 9) rfl
    have k10 : w7.cell? ⟨S + 1, 10, none⟩ = some (.slice none 0 0) := hX7.cell (j := 10) rfl
    have k11 : w7.cell? ⟨S + 1, 11, none⟩ = some (.slice (some ⟨S, 0, none⟩) 2 2) := hX7.cell (j := 11) rfl
    have kv0 : w7.cell? ⟨w.heap.size + 1 + 1, 0, none⟩ = some (.slice E.af E.F.length E.cf) := hB7.v.cell (j := 0) rfl
    have kv1 : w7.cell? ⟨w.heap.size + 1 + 1, 1, none⟩ = some (.slice E.ac E.C.length E.cc) := hB7.v.cell (j := 1) rfl
    go_wp2_with fail
    refine (HB3.out _ hb47).mono ?_
    rintro e w8 ⟨ad8, cap8, rfl, hb8, l8, n8, r8⟩
    have hb08 := hb07.trans (hb8.mono hb07.size)
    have RA8 := Lib.hid (r6'.below hb8)
    have RB8 := Lib.hid (r7.below hb8)
    have RU8 := Lib.hid r8
    have Hb08 := Lib.hid hb08
    clear k0 k1 k2 k3 k4 k5 k6 k7 k8 k9 k10 k11 kv0 kv1
    clear r6' r7 r8 r6 hb8 hb07 hb47 hX7 hb46 hb06 hb05 hb6 hb7 hb5 hB5 hB6 hB7 hb08 HB1 HB2 HB3 HCk HX4 HR4 HB4 Hb04 HA HB HX HG1 HG2 HAl n6 n7 n8 l6 l7 l8
    by_cases ha0 : ea = 0
    ·subst ha0
     by_cases hb0' : eb = 0
     ·subst hb0'
      have hU := HU.out.2.2 rfl rfl
      obtain ⟨rfl, rfl⟩ : eu = 0 ∧ LU = mrgFl LA LB := by simpa using hU
      obtain ⟨LU, hLU⟩ : ∃ L, L = mrgFl LA LB := ⟨_, rfl⟩
      have hlu : LU.length = LA.length + LB.length := by rw [hLU, mrgFl_len]
      have HM0 : Hid (LU.drop 0 = mrgFl (LA.drop 0) (LB.drop 0)) := by rw [hLU]; exact Lib.hid rfl
      rw [← hLU] at RU8 ⊢
      have hla := HLA.out
      have hlb := HLB.out
      have hla : LA.length ≤ 1048576 := hla
      have hlb : LB.length ≤ 1048576 := hlb
      have RA8 : Hid (Rd Fl.cells 5 w8 ad6 LA) := RA8
      have RB8 : Hid (Rd Fl.cells 5 w8 ad7 LB) := RB8
      have RU8 : Hid (Rd Fl.cells 5 w8 ad8 LU) := RU8
      have e1 : IntKind.i64.wrap ((LA.length : Int) + (LB.length : Int)) = (LA.length : Int) + (LB.length : Int) := IntWalk.i64_in _ (by omega)
      have e2 : ((LU.length : Int) != (LA.length : Int) + (LB.length : Int)) = false := by rw [hlu]; simp
      clear hLU HLA HLB HU hU
      go_wp2_with fail
      clear e1 e2
      go_loopw [19, 20, 21] (fun xv yv kv wr => ∃ (x y k : Nat), xv = .int .i64 (x : Int) ∧ yv = .int .i64 (y : Int) ∧ kv = .int .i64 (k : Int) ∧ k = x + y ∧ x ≤ LA.length ∧ y ≤ LB.length ∧ Hid (LU.drop k = mrgFl (LA.drop x) (LB.drop y)) ∧ Hid (Below w8.heap.size w8 wr)) (fun _ _ kv _ => LU.length - (intOf kv).toNat)
      case atStart => exact ⟨0, 0, 0, rfl, rfl, rfl, rfl, Nat.zero_le _, Nat.zero_le _, HM0, Lib.hid (Below.refl _ _)⟩
      case round =>
       obtain ⟨x, y, k, rfl, rfl, rfl, hkk, hx, hy, HM, HW⟩ := hrel
       have HK := Lib.hid hkk
       clear HM0
       by_cases hk : k < LU.length
       ·have hk1 : (0 : Int) ≤ (k : Int) := by omega
        have hk3 : (k : Int) < (LA.length : Int) + (LB.length : Int) := by omega
        have hk2 : (k : Int) < (LU.length : Int) := by omega
        have hx1 : (0 : Int) ≤ (x : Int) := by omega
        have hy1 : (0 : Int) ≤ (y : Int) := by omega
        by_cases hxe : x < LA.length
        ·have t1 : decide ((LA.length : Int) ≤ (x : Int)) = false := by rw [decide_eq_false_iff_not]; omega
         have hx2 : (x : Int) < (LA.length : Int) := by omega
         obtain ⟨f, hf⟩ : ∃ f, LA[x]? = some f := ⟨_, List.getElem?_eq_getElem hxe⟩
         obtain ⟨bf, of, hadf, f0, f1, f2, f3, f4⟩ := (RA8.out.below HW.out).fl hf
         by_cases hye : y < LB.length
         ·have hy2 : (y : Int) < (LB.length : Int) := by omega
          obtain ⟨g, hg⟩ : ∃ g, LB[y]? = some g := ⟨_, List.getElem?_eq_getElem hye⟩
          obtain ⟨bg, og, hadg, g0, g1, g2, g3, g4⟩ := (RB8.out.below HW.out).fl hg
          by_cases hlt : g.d < f.d
          ·have t3 : decide (g.d < f.d) = true := decide_eq_true hlt
           obtain ⟨hu, hn⟩ := mrg_stepB (U := LU) (x := x) (y := y) (by rw [← hkk]; exact HM.out) hg (.inr ⟨f, hf, hlt⟩)
           rw [← hkk] at hu
           obtain ⟨bu, ou, hadu, u0, u1, u2, u3, u4⟩ := (RU8.out.below HW.out).fl hu
           have HN : Hid (LU.drop (k + 1) = mrgFl (LA.drop x) (LB.drop (y + 1))) := by rw [show k + 1 = x + (y + 1) by omega]; exact Lib.hid hn
           have hq : ∀ W, (Op.equalIn 10000 52 (.agg #[.int .i64 g.d, .string g.fr, .string g.rc, .string g.cy, .string g.am]) (.agg #[.int .i64 g.d, .string g.fr, .string g.rc, .string g.cy, .string g.am])).run Tryz.prog W = .ok true W := fun W => eqv_fl g W
           clear hu hn
           cases hadf
           cases hadg
           cases hadu
           clear hf hg hkk
           go_wp2_with fail
           go_quiet (fail)
           go_wp2_with fail
           go_quiet (fail)
           go_wp2
           go_roundw
           case rel => exact ⟨x, y + 1, k + 1, rfl, by go_num, by go_num, (by have := HK.out; omega), hx, by omega, HN, Lib.hid (below_drewN HW.out _)⟩
           case measure => simp [intOf]; omega
          ·have t3 : decide (g.d < f.d) = false := decide_eq_false hlt
           obtain ⟨hu, hn⟩ := mrg_stepA (U := LU) (x := x) (y := y) (by rw [← hkk]; exact HM.out) hf (.inr ⟨g, hg, hlt⟩)
           rw [← hkk] at hu
           obtain ⟨bu, ou, hadu, u0, u1, u2, u3, u4⟩ := (RU8.out.below HW.out).fl hu
           have HN : Hid (LU.drop (k + 1) = mrgFl (LA.drop (x + 1)) (LB.drop y)) := by rw [show k + 1 = x + 1 + y by omega]; exact Lib.hid hn
           have hq : ∀ W, (Op.equalIn 10000 52 (.agg #[.int .i64 f.d, .string f.fr, .string f.rc, .string f.cy, .string f.am]) (.agg #[.int .i64 f.d, .string f.fr, .string f.rc, .string f.cy, .string f.am])).run Tryz.prog W = .ok true W := fun W => eqv_fl f W
           clear hu hn
           cases hadf
           cases hadg
           cases hadu
           clear hf hg hkk
           go_wp2_with fail
           go_quiet (fail)
           go_wp2_with fail
           go_quiet (fail)
           go_wp2
           go_roundw
           case rel => exact ⟨x + 1, y, k + 1, by go_num, rfl, by go_num, (by have := HK.out; omega), by omega, hy, HN, Lib.hid (below_drewN HW.out _)⟩
           case measure => simp [intOf]; omega
         ·have t2 : decide ((y : Int) < (LB.length : Int)) = false := by rw [decide_eq_false_iff_not]; omega
          have hy3 : ¬ ((y : Int) < (LB.length : Int)) := by omega
          have hy4 : (LB.length : Int) ≤ (y : Int) := by omega
          have t1n : decide (LA.length ≤ x) = false := by rw [decide_eq_false_iff_not]; omega
          have t2n : decide (y < LB.length) = false := by rw [decide_eq_false_iff_not]; omega
          obtain ⟨hu, hn⟩ := mrg_stepA (U := LU) (x := x) (y := y) (by rw [← hkk]; exact HM.out) hf (.inl (by omega))
          rw [← hkk] at hu
          have HN : Hid (LU.drop (k + 1) = mrgFl (LA.drop (x + 1)) (LB.drop y)) := by rw [show k + 1 = x + 1 + y by omega]; exact Lib.hid hn
          have hq : ∀ W, (Op.equalIn 10000 52 (.agg #[.int .i64 f.d, .string f.fr, .string f.rc, .string f.cy, .string f.am]) (.agg #[.int .i64 f.d, .string f.fr, .string f.rc, .string f.cy, .string f.am])).run Tryz.prog W = .ok true W := fun W => eqv_fl f W
          clear hn
          cases hadf
          clear hlu hkk f0 f1 f2 f3 f4
          go_wp2_with fail
          refine wp_region_ext (fun _ => True) (fun _ _ => trivial) (by kernel_rfl) (by kernel_rfl) ?_
          intro _
          repeat (first | go_big_quiet_skip | (go_big_quiet_want; apply Exists.intro; refine ⟨fun W hW => ?_, ?_⟩; (focus (go_simp; first | done | rfl)); (simp only [Act.put, List.setIfInBounds_toArray, List.set_cons_zero, List.set_cons_succ]); go_big_quiet_on))
          refine wpQuiet_nil ?_
          intro W hW
          have hw2 := HW.out.trans (hW.below.mono HW.out.size)
          obtain ⟨bf2, of2, hadf2, f0, f1, f2, f3, f4⟩ := (RA8.out.below hw2).fl hf
          obtain ⟨bu, ou, hadu, u0, u1, u2, u3, u4⟩ := (RU8.out.below hw2).fl hu
          clear hf hu
          cases hadu
          cases hadf2
          have Hw2 := Lib.hid hw2
          clear hW hw2 HW
          go_wp2_with fail
          go_quiet (fail)
          go_wp2
          go_roundw
          case rel => exact ⟨x + 1, y, k + 1, by go_num, rfl, by go_num, (by have := HK.out; omega), by omega, hy, HN, Lib.hid (below_drewN Hw2.out _)⟩
          case measure => simp [intOf]; omega
        ·have t1 : decide ((LA.length : Int) ≤ (x : Int)) = true := by rw [decide_eq_true_eq]; omega
         have t1n : decide (LA.length ≤ x) = true := by rw [decide_eq_true_eq]; omega
         have hx5 : LA.length ≤ x := by omega
         have hx6 : (LA.length : Int) ≤ (x : Int) := by omega
         have hye : y < LB.length := by omega
         have hy2 : (y : Int) < (LB.length : Int) := by omega
         obtain ⟨g, hg⟩ : ∃ g, LB[y]? = some g := ⟨_, List.getElem?_eq_getElem hye⟩
         obtain ⟨hu, hn⟩ := mrg_stepB (U := LU) (x := x) (y := y) (by rw [← hkk]; exact HM.out) hg (.inl (by omega))
         rw [← hkk] at hu
         have HN : Hid (LU.drop (k + 1) = mrgFl (LA.drop x) (LB.drop (y + 1))) := by rw [show k + 1 = x + (y + 1) by omega]; exact Lib.hid hn
         have hq : ∀ W, (Op.equalIn 10000 52 (.agg #[.int .i64 g.d, .string g.fr, .string g.rc, .string g.cy, .string g.am]) (.agg #[.int .i64 g.d, .string g.fr, .string g.rc, .string g.cy, .string g.am])).run Tryz.prog W = .ok true W := fun W => eqv_fl g W
         clear hn
         clear hlu hkk
         go_wp2_with fail
         refine wp_region_ext (fun _ => True) (fun _ _ => trivial) (by kernel_rfl) (by kernel_rfl) ?_
         intro _
         repeat (first | go_big_quiet_skip | (go_big_quiet_want; apply Exists.intro; refine ⟨fun W hW => ?_, ?_⟩; (focus (go_simp; first | done | rfl)); (simp only [Act.put, List.setIfInBounds_toArray, List.set_cons_zero, List.set_cons_succ]); go_big_quiet_on))
         refine wpQuiet_nil ?_
         intro W hW
         have hw2 := HW.out.trans (hW.below.mono HW.out.size)
         obtain ⟨bg, og, hadg, g0, g1, g2, g3, g4⟩ := (RB8.out.below hw2).fl hg
         obtain ⟨bu, ou, hadu, u0, u1, u2, u3, u4⟩ := (RU8.out.below hw2).fl hu
         clear hg hu
         cases hadu
         cases hadg
         have Hw2 := Lib.hid hw2
         clear hW hw2 HW
         go_wp2_with fail
         go_quiet (fail)
         go_wp2
         go_roundw
         case rel => exact ⟨x, y + 1, k + 1, rfl, by go_num, by go_num, (by have := HK.out; omega), hx, by omega, HN, Lib.hid (below_drewN Hw2.out _)⟩
         case measure => simp [intOf]; omega
       ·go_wp2
        go_ret
        exact ⟨rfl, Hb08.out.trans (HW.out.mono Hb08.out.size)⟩
     ·have hU := HU.out.2.1 rfl hb0'
      obtain ⟨rfl, rfl⟩ : eu = eb ∧ LU = [] := by simpa using hU
      have t2 : (eu == 0) = false := by rw [beq_eq_false_iff_ne]; exact hb0'
      go_wp2
      go_ret
      exact ⟨rfl, Hb08.out⟩
    ·have hU := HU.out.1 ha0
     obtain ⟨rfl, rfl⟩ : eu = ea ∧ LU = [] := by simpa using hU
     have t2 : (eu == 0) = false := by rw [beq_eq_false_iff_ne]; exact ha0
     go_wp2
     go_ret
     exact ⟨rfl, Hb08.out⟩
   ·have t1 : ((bothM a b).err == 0) = false := by rw [beq_eq_false_iff_ne]; exact hce
    refine (HCk.out _ rfl).mono ?_
    rintro e w5 ⟨rfl, hb5⟩
    have HF := Lib.hid (Hb04.out.trans (hb5.mono Hb04.out.size))
    clear hb5
    go_wp2
    go_ret
    exact ⟨rfl, HF.out⟩
end Go.Proofs.YtknpnhodpgajbaaGreatDoor

namespace Go.Proofs.YtknpnhodpgajbaaGreatDoor
open Go.ChangeShapes Go.WideShapes Go.ChangeAt Go.RowKit Go.Joins Go.Deep
set_option maxRecDepth 100000 in
theorem contractU10 (H : Type) (enc : TypeId × Value → H) (W : World) (base : Nat) (args : Array Value) (ds gs : List (DataW H)) (before : List MemPlace)
  (hval : ∀ (j : Nat) t v, Tryz.f4.params[j]? = some t → args[j]? = some v → Value.okWide Tryz.prog W .any base t v)
  (hW : DataW.Whole enc Tryz.prog Tryz.f4.params.toList Rows.meaningUnionSpec.vars false W args.toList ds gs before) (hk : Rows.uptoSmall H (ds ++ gs) = true)
  (hL : laidMetH Tryz.prog Rows.meaningUnionUptoRow.laid W) :
  Calls Tryz.prog 4 args W fun e W' => ∃ v, e = .returned v ∧ Rows.meaningUnionSpec.post enc Tryz.prog Tryz.f4 false true false false W args v W' := by
 have hW' := hW
 obtain ⟨p, q, hA0, hV, rfl, hfz, hnd⟩ := hW
 have hA : DataW.TrodAll enc Tryz.prog W 0 (fun _ => true) true Tryz.f4.params.toList args.toList ds p := hA0
 rw [Tryz.params4] at hA hval
 obtain ⟨v0, vs0, d0, ds0, p0, q0, hargs, rfl, rfl, h0, r0⟩ := trodAll_cons hA
 obtain ⟨v1, vs1, d1, ds1, p1, q1, rfl, rfl, rfl, h1, r1⟩ := trodAll_cons r0
 obtain ⟨v2, vs2, d2, ds2, p2, q2, rfl, rfl, rfl, h2, r2⟩ := trodAll_cons r1
 obtain ⟨v3, vs3, d3, ds3, p3, q3, rfl, rfl, rfl, h3, r3⟩ := trodAll_cons r2
 obtain ⟨v4, vs4, d4, ds4, p4, q4, rfl, rfl, rfl, h4, r4⟩ := trodAll_cons r3
 obtain ⟨rfl, rfl, rfl⟩ := trodAll_nil r4
 obtain rfl : args = #[v0, v1, v2, v3, v4] := by cases args; simp_all
 obtain ⟨rfl, rfl⟩ := trodVars_none hV
 have k0 := h0
 have l0 : ∀ x ∈ p0, x.block < W.heap.size := by obtain ⟨m, hm⟩ := k0; exact DataW.trod_lt m _ _ _ hm
 have k1 := h1
 have l1 : ∀ x ∈ p1, x.block < W.heap.size := by obtain ⟨m, hm⟩ := k1; exact DataW.trod_lt m _ _ _ hm
 have k2 := h2
 have l2 : ∀ x ∈ p2, x.block < W.heap.size := by obtain ⟨m, hm⟩ := k2; exact DataW.trod_lt m _ _ _ hm
 have k3 := h3
 have l3 : ∀ x ∈ p3, x.block < W.heap.size := by obtain ⟨m, hm⟩ := k3; exact DataW.trod_lt m _ _ _ hm
 have k4 := h4
 have l4 : ∀ x ∈ p4, x.block < W.heap.size := by obtain ⟨m, hm⟩ := k4; exact DataW.trod_lt m _ _ _ hm
 have hb : Rows.uptoBulkAll [d0, d1, d2, d3, d4] ≤ 1048576 := by
  have h : Rows.uptoBulkAll ([d0, d1, d2, d3, d4] ++ []) ≤ 1048576 := of_decide_eq_true hk
  rw [List.append_nil] at h
  exact h
 have hsum : Rows.uptoBulk d0 + Rows.uptoBulk d1 + Rows.uptoBulk d2 + Rows.uptoBulk d3 + Rows.uptoBulk d4 ≤ 1048576 := by
  simp only [Rows.uptoBulkAll] at hb
  omega
 obtain ⟨c0, es0, dd0, ss0, rfl, hr0, hc0⟩ := open_con (hval 0 _ v0 rfl rfl) h0
 obtain ⟨c1, es1, dd1, ss1, rfl, hr1, hc1⟩ := open_con (hval 1 _ v1 rfl rfl) h1
 obtain ⟨n2, rfl, rfl, rfl, w2⟩ := open_int Tryz.underlying3 (hval 2 3 v2 rfl rfl) h2
 obtain ⟨n3, rfl, rfl, rfl, w3⟩ := open_int Tryz.underlying3 (hval 3 3 v3 rfl rfl) h3
 obtain ⟨E, rfl, hE, hEf, hEc⟩ := open_env (hval 4 _ v4 rfl rfl) h4 (by omega)
 obtain ⟨hS, hP, hO⟩ := laid_look3 hL
 clear hA0
 refine (union10_any c0 c1 _ _ _ _ _ _ n2 n3 E W ⟨by omega, hr0, hS, hP, hO, hE, hEf, hEc⟩ ⟨by omega, hr1, hS, hP, hO, hE, hEf, hEc⟩ (by omega)).mono fun e W' ⟨he, bel⟩ => ?_
 subst he
 exact ⟨_, rfl, _, _, _, [], _, [], hW', trodAll_mk1 (shut_bool Tryz.underlying4 _),
  trodAll_cons_mk (Below.trod laidOut10 (by kernel_rfl) (of_decide_eq_true (by kernel_rfl)) k0 bel l0) (trodAll_cons_mk (Below.trod laidOut10 (by kernel_rfl) (of_decide_eq_true (by kernel_rfl)) k1 bel l1) (trodAll_cons_mk (Below.trod laidOut10 (by kernel_rfl) (of_decide_eq_true (by kernel_rfl)) k2 bel l2) (trodAll_cons_mk (Below.trod laidOut10 (by kernel_rfl) (of_decide_eq_true (by kernel_rfl)) k3 bel l3) (trodAll_cons_mk (Below.trod laidOut10 (by kernel_rfl) (of_decide_eq_true (by kernel_rfl)) k4 bel l4) (trodAll_mk0))))),
  rfl, bel.frame _, fun h => by cases h⟩
def argU10 : Array Value := #[.agg #[.int .u8 0, .string ⟨#[]⟩, .string ⟨#[]⟩, .string ⟨#[]⟩, .int .u8 0, .string ⟨#[]⟩, .string ⟨#[]⟩, .int .i64 0, .slice none 0 0, .int .i64 0, .slice none 0 0, .slice none 0 0], .agg #[.int .u8 0, .string ⟨#[]⟩, .string ⟨#[]⟩, .string ⟨#[]⟩, .int .u8 0, .string ⟨#[]⟩, .string ⟨#[]⟩, .int .i64 0, .slice none 0 0, .int .i64 0, .slice none 0 0, .slice none 0 0], .int .i64 0, .int .i64 0, .agg #[.slice none 0 0, .slice none 0 0]]
theorem metU10 (os : Os) : laidMetH Tryz.prog Rows.meaningUnionUptoRow.laid ((World.doorLaid Tryz.prog 176 os).forCall (fun _ _ => 0) ⟨#[], argU10, []⟩).memory :=
 laidMetH_of_parts3 (fuel := 8) (laidMet_of_run' 8 (by kernel_rfl) (by kernel_rfl)) (by kernel_rfl) (by kernel_rfl)
theorem readsU10 (os : Os) {H : Type} (enc : TypeId × Value → H) : ∃ places, DataW.whole enc Tryz.prog ((World.doorLaid Tryz.prog 176 os).forCall (fun _ _ => 0) ⟨#[], argU10, []⟩).memory Tryz.f4.params.toList Rows.meaningUnionSpec.vars false argU10.toList 8 =
  some ([.agg [.lit (.int .u8 0), .lit (.string []), .lit (.string []), .lit (.string []), .agg [.lit (.int .u8 0), .lit (.string []), .lit (.string []), .lit (.int .i64 0), .nil], .lit (.int .i64 0), .nil, .nil], .agg [.lit (.int .u8 0), .lit (.string []), .lit (.string []), .lit (.string []), .agg [.lit (.int .u8 0), .lit (.string []), .lit (.string []), .lit (.int .i64 0), .nil], .lit (.int .i64 0), .nil, .nil], .lit (.int .i64 0), .lit (.int .i64 0), .agg [.nil, .nil]], [], places) :=
 ⟨[], by kernel_rfl⟩
set_option maxRecDepth 100000 in
theorem liftedU10 (os : Os) (started : os.Started) (H : Type) (enc : TypeId × Value → H) (F : Stop.Interp) :
  ReturnsInHanded {} Tryz.checked os 4 .any ((Rows.OpenSpec.upto Rows.meaningUnionSpec).preRow enc Tryz.prog Tryz.f4 Rows.meaningUnionUptoRow.domain false Rows.meaningUnionUptoRow.laid) (((Rows.OpenSpec.upto Rows.meaningUnionSpec).at F).post enc Tryz.prog Tryz.f4 false true false false) := by
 obtain ⟨places, hx⟩ := readsU10 os enc
 refine returnsInHanded_of_row (C := Tryz.checked) (s := Rows.OpenSpec.upto Rows.meaningUnionSpec) own10 started (by kernel_rfl) Tryz.func4
  (witness_row_atRef (enc := enc) (C := Tryz.checked) false (World.doorLaid Tryz.prog 176 os) argU10 rfl (by kernel_rfl) (by kernel_rfl) (by kernel_rfl)
   (OpenSpec.preRow_of_cond 8 hx (by kernel_rfl) (fun k hk => by cases hk; kernel_rfl) (by kernel_rfl) (metU10 os))) ?_
 intro W base args ds gs before hval hW _ hcond _ hL _ _
 exact contractU10 H enc W base args ds gs before hval hW (hcond _ rfl) hL
theorem meaningUnion_upto : Rows.MeaningUnionUptoSaid :=
 OpenClaim.holds_of_cond 4 Tryz.f4 rfl rfl rfl rfl rfl rfl rfl ⟨rfl, rfl, rfl, rfl, rfl⟩ rfl rfl rfl rfl rfl (by kernel_rfl) Tryz.func4 (by kernel_rfl)
  (of_decide_eq_true (by kernel_rfl)) (by unfold Func.isWrapper; first | (rw [if_pos (by decide +kernel)]; kernel_rfl) | (rw [if_neg (by decide +kernel)]; exact ⟨rfl, rfl⟩))
  (fun os started H enc _ F => by rw [OpenClaim.pre_eq_preRow]; exact liftedU10 os started H enc F)
theorem plainU10 (f : FuncId) (fn : Func) (hf : Tryz.pinned.checked.prog.funcNamed "novation/novationlaw10.MeaningUnion" = some f) (hfn : Tryz.pinned.checked.prog.funcs[f]? = some fn) :
  true = Tryz.pinned.checked.prog.looks [] ∧ ∀ (j : Nat) t, fn.params[j]? = some t → Tryz.pinned.checked.prog.wantsStandIn t = false := by
 obtain rfl : f = 4 := Option.some.inj ((show Tryz.prog.funcNamed "novation/novationlaw10.MeaningUnion" = some 4 by kernel_rfl).symm.trans hf) |>.symm
 obtain rfl : fn = Tryz.f4 := (Option.some.inj (Tryz.func4.symm.trans hfn)).symm
 refine ⟨by kernel_rfl, fun j t ht => ?_⟩
 rw [Tryz.params4] at ht
 have hm : t ∈ [29, 3, 33] := by simpa using Array.mem_of_getElem? ht
 have hall : ([29, 3, 33].all fun u => !Tryz.prog.wantsStandIn u) = true := by kernel_rfl
 exact (show Tryz.prog.wantsStandIn t = false by simpa using List.all_eq_true.1 hall t hm)
theorem meaningUnion_card : Rows.MeaningUnionUptoCardSaid :=
 Claim7.holds_tied_plain_at .later [] _ _ _ _ meaningUnion_upto (fun _ h => by cases h) (by kernel_rfl) (fun _ h => by cases h) meaningUnionUpto_row_tie rfl ⟨rfl, rfl⟩ (by kernel_rfl) rfl plainU10 (by kernel_rfl)
#print axioms meaningUnion_card
end Go.Proofs.YtknpnhodpgajbaaGreatDoor
