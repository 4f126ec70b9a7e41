/-
  Law 10, MeaningChoices.  Printed by tools/genchc.py.
-/
import Derived.Test.YtknpnhodpgajbaaGreatDoorK01
import Derived.Test.YtknpnhodpgajbaaGreatDoorC27
import Derived.Test.YtknpnhodpgajbaaGreatDoorC28
namespace Go.Proofs.YtknpnhodpgajbaaGreatDoor
open Go.RowKit
set_option maxHeartbeats 8000000 in
set_option maxRecDepth 100000 in
theorem choices10_any (a b : Con) (es dd ss es2 dd2 ss2 : Value) (who what : ByteArray) (ds : List Int) (vd : Value) (day : Int) (E : EvD) (w : World) (hA : BfH a es dd ss E w) (hB : BfH b es2 dd2 ss2 E w) (hi : RdI w ds vd) (hab : a.bulk + b.bulk + who.size + what.size + ds.length ≤ 1048576) :
  Calls Tryz.prog 7 #[a.val es dd ss, b.val es2 dd2 ss2, .string who, .string what, vd, .int .i64 day, E.val] w fun e w' => e = .returned (.bool true) ∧ Below w.heap.size w w' := by
 obtain ⟨p1, pn1, rfl⟩ := hA.rd.1.len
 obtain ⟨p2, pn2, rfl⟩ := hA.rd.2.1.len
 obtain ⟨p3, pn3, rfl⟩ := hA.rd.2.2.1.len
 obtain ⟨q1, qn1, rfl⟩ := hB.rd.1.len
 obtain ⟨q2, qn2, rfl⟩ := hB.rd.2.1.len
 obtain ⟨q3, qn3, rfl⟩ := hB.rd.2.2.1.len
 obtain ⟨dad, dcap, rfl⟩ := hi.len
 obtain ⟨W0, hW0, hb0, hz0, bx⟩ := bxu_world w a b (.slice p1 a.ex.sub.length pn1) (.slice p2 a.ds.length pn2) (.slice p3 a.sub.length pn3) (.slice q1 b.ex.sub.length qn1) (.slice q2 b.ds.length qn2) (.slice q3 b.sub.length qn3) E
 have HA := Lib.hid hA
 have HB := Lib.hid hB
 have HI := Lib.hid hi
 have HX := Lib.hid bx
 have Hb0 := Lib.hid hb0
 have HG1 : Hid (∀ W, Below w.heap.size w W → Calls Tryz.prog 9 #[.agg #[.int .u8 a.k, .string a.fr, .string a.rc, .string a.nm, .int .u8 a.ex.k, .string a.ex.ra, .string a.ex.nm, .int .i64 a.ex.d, .slice p1 a.ex.sub.length pn1, .int .i64 a.d, .slice p2 a.ds.length pn2, .slice p3 a.sub.length pn3], .agg #[.slice E.af E.F.length E.cf, .slice E.ac E.C.length E.cc]] W (BoolPost W)) := Lib.hid fun W hb => great10_any a _ _ _ E W (by omega) (hA.frame hb).rd (hA.frame hb).e hA.fs hA.cs
 have HG2 : Hid (∀ W, Below w.heap.size w W → Calls Tryz.prog 9 #[.agg #[.int .u8 b.k, .string b.fr, .string b.rc, .string b.nm, .int .u8 b.ex.k, .string b.ex.ra, .string b.ex.nm, .int .i64 b.ex.d, .slice q1 b.ex.sub.length qn1, .int .i64 b.d, .slice q2 b.ds.length qn2, .slice q3 b.sub.length qn3], .agg #[.slice E.af E.F.length E.cf, .slice E.ac E.C.length E.cc]] W (BoolPost W)) := Lib.hid fun W hb => great10_any b _ _ _ E W (by omega) (hB.frame hb).rd (hB.frame hb).e hB.fs hB.cs
 have HAl : Hid (∀ W, Below w.heap.size w W → Calls Tryz.prog 19 #[] W fun e w' => e = .returned (.bool true) ∧ Below W.heap.size W w') := Lib.hid fun W hb => alive10_any W ⟨(hA.frame hb).ls, (hA.frame hb).lp, (hA.frame hb).lo⟩
 have HCh : Hid (∀ d W, Below w.heap.size w W → ∀ v, chosenB E.C who what d = v → Calls Tryz.prog 26 #[.agg #[.slice E.af E.F.length E.cf, .slice E.ac E.C.length E.cc], .string who, .string what, .int .i64 d] W fun e w' => e = .returned (.bool v) ∧ Below W.heap.size W w') := Lib.hid fun d W hb v hv => by
  rw [← hv]; exact ochosen_any E.C who what d E.ac E.cc (.slice E.af E.F.length E.cf) W (hA.frame hb).e.nc (hA.frame hb).e.c
 have HEv : Hid (∀ W, Below w.heap.size w W → ∀ v, envErr E.F E.C = v → Calls Tryz.prog 25 #[.agg #[.slice E.af E.F.length E.cf, .slice E.ac E.C.length E.cc]] W fun e w' => e = .returned (.int .i64 v) ∧ Below W.heap.size W w') := Lib.hid fun W hb v hv => by
  rw [← hv]; exact checkEnv_any E.F E.C E.af E.ac E.cf E.cc W (hA.frame hb).e.nf (hA.frame hb).e.nc (hA.frame hb).e.f (hA.frame hb).e.c hA.fs hA.cs
 have HFa : Hid (∀ W d, Below w.heap.size w W → ∀ R, R = befR a d 100000 E.F E.C → Calls Tryz.prog 12 #[.agg #[.int .u8 a.k, .string a.fr, .string a.rc, .string a.nm, .int .u8 a.ex.k, .string a.ex.ra, .string a.ex.nm, .int .i64 a.ex.d, .slice p1 a.ex.sub.length pn1, .int .i64 a.d, .slice p2 a.ds.length pn2, .slice p3 a.sub.length pn3], .int .i64 d, .agg #[.slice E.af E.F.length E.cf, .slice E.ac E.C.length E.cc]] W (BfP W R)) := Lib.hid fun W d hb R hR => by rw [hR]; exact mflows_any a _ _ _ d E W (hA.frame hb)
 have hcb : (callM who what ds a).bulk ≤ 1100000 := by have := call_bulk who what ds a; omega
 have hpb : (pickM who what a b).bulk ≤ 1100000 := by have := pick_bulk who what a b; omega
 have hwh : who.size ≤ 1048576 := by omega
 have hwt : what.size ≤ 1048576 := by omega
 have hdl : ds.length ≤ 1048576 := by omega
 have hba : a.bulk ≤ 1048576 := by omega
 have hbb : b.bulk ≤ 1048576 := by omega
 have e1 : IntKind.i64.wrap ((who.size : Int) + (what.size : Int)) = (who.size : Int) + (what.size : Int) := IntWalk.i64_in _ (by omega)
 clear hA hB hi bx hb0 hab
 show Calls _ _ #[.agg #[.int .u8 a.k, .string a.fr, .string a.rc, .string a.nm, .int .u8 a.ex.k, .string a.ex.ra, .string a.ex.nm, .int .i64 a.ex.d, .slice p1 a.ex.sub.length pn1, .int .i64 a.d, .slice p2 a.ds.length pn2, .slice p3 a.sub.length pn3], .agg #[.int .u8 b.k, .string b.fr, .string b.rc, .string b.nm, .int .u8 b.ex.k, .string b.ex.ra, .string b.ex.nm, .int .i64 b.ex.d, .slice q1 b.ex.sub.length qn1, .int .i64 b.d, .slice q2 b.ds.length qn2, .slice q3 b.sub.length qn3], .string who, .string what, .slice dad ds.length dcap, .int .i64 day, .agg #[.slice E.af E.F.length E.cf, .slice E.ac E.C.length E.cc]] _ _
 change ((w.alloc (.cells #[.int .u8 a.k, .string a.fr, .string a.rc, .string a.nm, .int .u8 a.ex.k, .string a.ex.ra, .string a.ex.nm, .int .i64 a.ex.d, .slice p1 a.ex.sub.length pn1, .int .i64 a.d, .slice p2 a.ds.length pn2, .slice p3 a.sub.length pn3] 29)).alloc (.cells #[.int .u8 b.k, .string b.fr, .string b.rc, .string b.nm, .int .u8 b.ex.k, .string b.ex.ra, .string b.ex.nm, .int .i64 b.ex.d, .slice q1 b.ex.sub.length qn1, .int .i64 b.d, .slice q2 b.ds.length qn2, .slice q3 b.sub.length qn3] 29)).alloc (.cells #[.slice E.af E.F.length E.cf, .slice E.ac E.C.length E.cc] 33) = W0 at hW0
 go_enter Tryz.func7, Tryz.ntmps7
 go_upto_region 1 with (fail)
 clear hW0
 go_wp2_with (go_at_call 19; refine (HAl.out _ Hb0.out).mono ?_; rintro e w1 ⟨rfl, hb1⟩; have hB1 := HX.out.below hb1; have hb01 := Hb0.out.trans (hb1.mono Hb0.out.size); have k0 : w1.cell? ⟨w.heap.size, 0, none⟩ = some (.int .u8 a.k) := hB1.a.cell (j := 0) rfl; have k1 : w1.cell? ⟨w.heap.size, 1, none⟩ = some (.string a.fr) := hB1.a.cell (j := 1) rfl; have k2 : w1.cell? ⟨w.heap.size, 2, none⟩ = some (.string a.rc) := hB1.a.cell (j := 2) rfl; have k3 : w1.cell? ⟨w.heap.size, 3, none⟩ = some (.string a.nm) := hB1.a.cell (j := 3) rfl; have k4 : w1.cell? ⟨w.heap.size, 4, none⟩ = some (.int .u8 a.ex.k) := hB1.a.cell (j := 4) rfl; have k5 : w1.cell? ⟨w.heap.size, 5, none⟩ = some (.string a.ex.ra) := hB1.a.cell (j := 5) rfl; have k6 : w1.cell? ⟨w.heap.size, 6, none⟩ = some (.string a.ex.nm) := hB1.a.cell (j := 6) rfl; have k7 : w1.cell? ⟨w.heap.size, 7, none⟩ = some (.int .i64 a.ex.d) := hB1.a.cell (j := 7) rfl; have k8 : w1.cell? ⟨w.heap.size, 8, none⟩ = some (.slice p1 a.ex.sub.length pn1) := hB1.a.cell (j := 8) rfl; have k9 : w1.cell? ⟨w.heap.size, 9, none⟩ = some (.int .i64 a.d) := hB1.a.cell (j := 9) rfl; have k10 : w1.cell? ⟨w.heap.size, 10, none⟩ = some (.slice p2 a.ds.length pn2) := hB1.a.cell (j := 10) rfl; have k11 : w1.cell? ⟨w.heap.size, 11, none⟩ = some (.slice p3 a.sub.length pn3) := hB1.a.cell (j := 11) rfl; have kv0 : w1.cell? ⟨w.heap.size + 1 + 1, 0, none⟩ = some (.slice E.af E.F.length E.cf) := hB1.v.cell (j := 0) rfl; have kv1 : w1.cell? ⟨w.heap.size + 1 + 1, 1, none⟩ = some (.slice E.ac E.C.length E.cc) := hB1.v.cell (j := 1) rfl)
 refine (HG1.out _ hb01).mono ?_
 rintro e w2 ⟨⟨g1, rfl⟩, hb2⟩
 have hb02 := hb01.trans (hb2.mono hb01.size)
 have hB2 := hB1.below hb2
 have HB2 := Lib.hid hB2
 have Hb02 := Lib.hid hb02
 clear k0 k1 k2 k3 k4 k5 k6 k7 k8 k9 k10 k11 kv0 kv1 hB1 hb01 hb1 hb2
 cases g1 with
 | true =>
  clear hB2 hb02
  go_wp2
  go_ret
  exact ⟨rfl, Hb02.out⟩
 | false =>
  have k0 : w2.cell? ⟨w.heap.size + 1, 0, none⟩ = some (.int .u8 b.k) := hB2.b.cell (j := 0) rfl
  have k1 : w2.cell? ⟨w.heap.size + 1, 1, none⟩ = some (.string b.fr) := hB2.b.cell (j := 1) rfl
  have k2 : w2.cell? ⟨w.heap.size + 1, 2, none⟩ = some (.string b.rc) := hB2.b.cell (j := 2) rfl
  have k3 : w2.cell? ⟨w.heap.size + 1, 3, none⟩ = some (.string b.nm) := hB2.b.cell (j := 3) rfl
  have k4 : w2.cell? ⟨w.heap.size + 1, 4, none⟩ = some (.int .u8 b.ex.k) := hB2.b.cell (j := 4) rfl
  have k5 : w2.cell? ⟨w.heap.size + 1, 5, none⟩ = some (.string b.ex.ra) := hB2.b.cell (j := 5) rfl
  have k6 : w2.cell? ⟨w.heap.size + 1, 6, none⟩ = some (.string b.ex.nm) := hB2.b.cell (j := 6) rfl
  have k7 : w2.cell? ⟨w.heap.size + 1, 7, none⟩ = some (.int .i64 b.ex.d) := hB2.b.cell (j := 7) rfl
  have k8 : w2.cell? ⟨w.heap.size + 1, 8, none⟩ = some (.slice q1 b.ex.sub.length qn1) := hB2.b.cell (j := 8) rfl
  have k9 : w2.cell? ⟨w.heap.size + 1, 9, none⟩ = some (.int .i64 b.d) := hB2.b.cell (j := 9) rfl
  have k10 : w2.cell? ⟨w.heap.size + 1, 10, none⟩ = some (.slice q2 b.ds.length qn2) := hB2.b.cell (j := 10) rfl
  have k11 : w2.cell? ⟨w.heap.size + 1, 11, none⟩ = some (.slice q3 b.sub.length qn3) := hB2.b.cell (j := 11) rfl
  have kv0 : w2.cell? ⟨w.heap.size + 1 + 1, 0, none⟩ = some (.slice E.af E.F.length E.cf) := hB2.v.cell (j := 0) rfl
  have kv1 : w2.cell? ⟨w.heap.size + 1 + 1, 1, none⟩ = some (.slice E.ac E.C.length E.cc) := hB2.v.cell (j := 1) rfl
  go_wp2_with fail
  refine (HG2.out _ hb02).mono ?_
  rintro e w3 ⟨⟨g2, rfl⟩, hb3⟩
  have hb03 := hb02.trans (hb3.mono hb02.size)
  have hB3 := hB2.below hb3
  have HB3 := Lib.hid hB3
  have Hb03 := Lib.hid hb03
  clear k0 k1 k2 k3 k4 k5 k6 k7 k8 k9 k10 k11 kv0 kv1 hB2 hb02 hb3 HB2 Hb02
  cases g2 with
  | true =>
   clear hB3 hb03
   go_wp2
   go_ret
   exact ⟨rfl, Hb03.out⟩
  | false =>
   by_cases z1 : (100 : Int) < (who.size : Int) + (what.size : Int)
   ·have t1 : decide ((100 : Int) < (who.size : Int) + (what.size : Int)) = true := decide_eq_true z1
    clear hB3 hb03
    go_wp2
    go_ret
    exact ⟨rfl, Hb03.out⟩
   have t1 : decide ((100 : Int) < (who.size : Int) + (what.size : Int)) = false := decide_eq_false z1
   by_cases z2 : (100 : Int) < (ds.length : Int)
   ·have t2 : decide ((100 : Int) < (ds.length : Int)) = true := decide_eq_true z2
    clear hB3 hb03
    go_wp2
    go_ret
    exact ⟨rfl, Hb03.out⟩
   have t2 : decide ((100 : Int) < (ds.length : Int)) = false := decide_eq_false z2
   obtain ⟨W4, hW4, hb4, hz4, rc4, bc4⟩ := call_world w3 a (.slice p1 a.ex.sub.length pn1) (.slice p2 a.ds.length pn2) (.slice p3 a.sub.length pn3) who what ds (.slice dad ds.length dcap) (HA.out.frame hb03).rd (HI.out.frame hb03)
   change (w3.alloc (.cells #[.int .u8 a.k, .string a.fr, .string a.rc, .string a.nm, .int .u8 a.ex.k, .string a.ex.ra, .string a.ex.nm, .int .i64 a.ex.d, .slice p1 a.ex.sub.length pn1, .int .i64 a.d, .slice p2 a.ds.length pn2, .slice p3 a.sub.length pn3] 29)).alloc (.cells #[.int .u8 8, .string who, .string ⟨#[]⟩, .string what, .int .u8 0, .string ⟨#[]⟩, .string ⟨#[]⟩, .int .i64 0, .slice none 0 0, .int .i64 0, .slice dad ds.length dcap, .slice (some ⟨w3.heap.size, 0, none⟩) 1 1] 29) = W4 at hW4
   have k0 : w3.cell? ⟨w.heap.size, 0, none⟩ = some (.int .u8 a.k) := hB3.a.cell (j := 0) rfl
   have k1 : w3.cell? ⟨w.heap.size, 1, none⟩ = some (.string a.fr) := hB3.a.cell (j := 1) rfl
   have k2 : w3.cell? ⟨w.heap.size, 2, none⟩ = some (.string a.rc) := hB3.a.cell (j := 2) rfl
   have k3 : w3.cell? ⟨w.heap.size, 3, none⟩ = some (.string a.nm) := hB3.a.cell (j := 3) rfl
   have k4 : w3.cell? ⟨w.heap.size, 4, none⟩ = some (.int .u8 a.ex.k) := hB3.a.cell (j := 4) rfl
   have k5 : w3.cell? ⟨w.heap.size, 5, none⟩ = some (.string a.ex.ra) := hB3.a.cell (j := 5) rfl
   have k6 : w3.cell? ⟨w.heap.size, 6, none⟩ = some (.string a.ex.nm) := hB3.a.cell (j := 6) rfl
   have k7 : w3.cell? ⟨w.heap.size, 7, none⟩ = some (.int .i64 a.ex.d) := hB3.a.cell (j := 7) rfl
   have k8 : w3.cell? ⟨w.heap.size, 8, none⟩ = some (.slice p1 a.ex.sub.length pn1) := hB3.a.cell (j := 8) rfl
   have k9 : w3.cell? ⟨w.heap.size, 9, none⟩ = some (.int .i64 a.d) := hB3.a.cell (j := 9) rfl
   have k10 : w3.cell? ⟨w.heap.size, 10, none⟩ = some (.slice p2 a.ds.length pn2) := hB3.a.cell (j := 10) rfl
   have k11 : w3.cell? ⟨w.heap.size, 11, none⟩ = some (.slice p3 a.sub.length pn3) := hB3.a.cell (j := 11) rfl
   go_upto_region 5 with (fail)
   clear hW4 hz4
   have hB4 := hB3.below hb4
   have hb04 := hb03.trans (hb4.mono hb03.size)
   clear k0 k1 k2 k3 k4 k5 k6 k7 k8 k9 k10 k11
   obtain ⟨W5, hW5, hb5, hz5, rp5, bp5⟩ := pick_world W4 a b (.slice p1 a.ex.sub.length pn1) (.slice p2 a.ds.length pn2) (.slice p3 a.sub.length pn3) (.slice q1 b.ex.sub.length qn1) (.slice q2 b.ds.length qn2) (.slice q3 b.sub.length qn3) who what (HA.out.frame hb04).rd (HB.out.frame hb04).rd
   change (W4.alloc (.cells #[.int .u8 a.k, .string a.fr, .string a.rc, .string a.nm, .int .u8 a.ex.k, .string a.ex.ra, .string a.ex.nm, .int .i64 a.ex.d, .slice p1 a.ex.sub.length pn1, .int .i64 a.d, .slice p2 a.ds.length pn2, .slice p3 a.sub.length pn3, .int .u8 b.k, .string b.fr, .string b.rc, .string b.nm, .int .u8 b.ex.k, .string b.ex.ra, .string b.ex.nm, .int .i64 b.ex.d, .slice q1 b.ex.sub.length qn1, .int .i64 b.d, .slice q2 b.ds.length qn2, .slice q3 b.sub.length qn3] 29)).alloc (.cells #[.int .u8 7, .string who, .string ⟨#[]⟩, .string what, .int .u8 0, .string ⟨#[]⟩, .string ⟨#[]⟩, .int .i64 0, .slice none 0 0, .int .i64 0, .slice none 0 0, .slice (some ⟨W4.heap.size, 0, none⟩) 2 2] 29) = W5 at hW5
   have k0 : W4.cell? ⟨w.heap.size, 0, none⟩ = some (.int .u8 a.k) := hB4.a.cell (j := 0) rfl
   have k1 : W4.cell? ⟨w.heap.size, 1, none⟩ = some (.string a.fr) := hB4.a.cell (j := 1) rfl
   have k2 : W4.cell? ⟨w.heap.size, 2, none⟩ = some (.string a.rc) := hB4.a.cell (j := 2) rfl
   have k3 : W4.cell? ⟨w.heap.size, 3, none⟩ = some (.string a.nm) := hB4.a.cell (j := 3) rfl
   have k4 : W4.cell? ⟨w.heap.size, 4, none⟩ = some (.int .u8 a.ex.k) := hB4.a.cell (j := 4) rfl
   have k5 : W4.cell? ⟨w.heap.size, 5, none⟩ = some (.string a.ex.ra) := hB4.a.cell (j := 5) rfl
   have k6 : W4.cell? ⟨w.heap.size, 6, none⟩ = some (.string a.ex.nm) := hB4.a.cell (j := 6) rfl
   have k7 : W4.cell? ⟨w.heap.size, 7, none⟩ = some (.int .i64 a.ex.d) := hB4.a.cell (j := 7) rfl
   have k8 : W4.cell? ⟨w.heap.size, 8, none⟩ = some (.slice p1 a.ex.sub.length pn1) := hB4.a.cell (j := 8) rfl
   have k9 : W4.cell? ⟨w.heap.size, 9, none⟩ = some (.int .i64 a.d) := hB4.a.cell (j := 9) rfl
   have k10 : W4.cell? ⟨w.heap.size, 10, none⟩ = some (.slice p2 a.ds.length pn2) := hB4.a.cell (j := 10) rfl
   have k11 : W4.cell? ⟨w.heap.size, 11, none⟩ = some (.slice p3 a.sub.length pn3) := hB4.a.cell (j := 11) rfl
   have m0 : W4.cell? ⟨w.heap.size + 1, 0, none⟩ = some (.int .u8 b.k) := hB4.b.cell (j := 0) rfl
   have m1 : W4.cell? ⟨w.heap.size + 1, 1, none⟩ = some (.string b.fr) := hB4.b.cell (j := 1) rfl
   have m2 : W4.cell? ⟨w.heap.size + 1, 2, none⟩ = some (.string b.rc) := hB4.b.cell (j := 2) rfl
   have m3 : W4.cell? ⟨w.heap.size + 1, 3, none⟩ = some (.string b.nm) := hB4.b.cell (j := 3) rfl
   have m4 : W4.cell? ⟨w.heap.size + 1, 4, none⟩ = some (.int .u8 b.ex.k) := hB4.b.cell (j := 4) rfl
   have m5 : W4.cell? ⟨w.heap.size + 1, 5, none⟩ = some (.string b.ex.ra) := hB4.b.cell (j := 5) rfl
   have m6 : W4.cell? ⟨w.heap.size + 1, 6, none⟩ = some (.string b.ex.nm) := hB4.b.cell (j := 6) rfl
   have m7 : W4.cell? ⟨w.heap.size + 1, 7, none⟩ = some (.int .i64 b.ex.d) := hB4.b.cell (j := 7) rfl
   have m8 : W4.cell? ⟨w.heap.size + 1, 8, none⟩ = some (.slice q1 b.ex.sub.length qn1) := hB4.b.cell (j := 8) rfl
   have m9 : W4.cell? ⟨w.heap.size + 1, 9, none⟩ = some (.int .i64 b.d) := hB4.b.cell (j := 9) rfl
   have m10 : W4.cell? ⟨w.heap.size + 1, 10, none⟩ = some (.slice q2 b.ds.length qn2) := hB4.b.cell (j := 10) rfl
   have m11 : W4.cell? ⟨w.heap.size + 1, 11, none⟩ = some (.slice q3 b.sub.length qn3) := hB4.b.cell (j := 11) rfl
   go_upto_region 6 with (fail)
   clear hW5 t1 t2 e1 z1 z2
   clear k0 k1 k2 k3 k4 k5 k6 k7 k8 k9 k10 k11 m0 m1 m2 m3 m4 m5 m6 m7 m8 m9 m10 m11
   have hB5 := hB4.below hb5
   have hb05 := hb04.trans (hb5.mono hb04.size)
   clear hz5
   have rc5 := rc4.frame hb5
   have bc5 := bc4.below hb5 bc4.lt
   generalize w3.heap.size = S at *
   generalize W4.heap.size = S2 at *
   have BC := Lib.hid bc5
   have BP := Lib.hid bp5
   have RC := Lib.hid rc5
   have RP := Lib.hid rp5
   have HB5 := Lib.hid hB5
   have Hb05 := Lib.hid hb05
   clear rp5 bp5 rc5 bc5 rc4 bc4 hb4 hb5 hb03 hb04 hB3 hB4 HB3 Hb03
   obtain ⟨ec, hec⟩ : ∃ e, (callM who what ds a).err = e := ⟨_, rfl⟩
   obtain ⟨ep, hep⟩ : ∃ e, (pickM who what a b).err = e := ⟨_, rfl⟩
   obtain ⟨ev, hev⟩ : ∃ e, envErr E.F E.C = e := ⟨_, rfl⟩
   have HCk1 : Hid (∀ W, Below W5.heap.size W5 W → Calls Tryz.prog 20 #[.agg #[.int .u8 8, .string who, .string ⟨#[]⟩, .string what, .int .u8 0, .string ⟨#[]⟩, .string ⟨#[]⟩, .int .i64 0, .slice none 0 0, .int .i64 0, .slice dad ds.length dcap, .slice (some ⟨S, 0, none⟩) 1 1]] W fun e w' => e = .returned (.int .i64 ec) ∧ Below W.heap.size W w') := Lib.hid fun W hb => by
    have hq := HA.out.frame (hb05.trans (hb.mono hb05.size))
    subst hec
    exact cchk_any (callM who what ds a) _ _ _ W (by omega) (RC.out.frame hb) hq.ls hq.lp
   have HCk2 : Hid (∀ W, Below W5.heap.size W5 W → Calls Tryz.prog 20 #[.agg #[.int .u8 7, .string who, .string ⟨#[]⟩, .string what, .int .u8 0, .string ⟨#[]⟩, .string ⟨#[]⟩, .int .i64 0, .slice none 0 0, .int .i64 0, .slice none 0 0, .slice (some ⟨S2, 0, none⟩) 2 2]] W fun e w' => e = .returned (.int .i64 ep) ∧ Below W.heap.size W w') := Lib.hid fun W hb => by
    have hq := HA.out.frame (hb05.trans (hb.mono hb05.size))
    subst hep
    exact cchk_any (pickM who what a b) _ _ _ W (by omega) (RP.out.frame hb) hq.ls hq.lp
   have HFc : Hid (∀ W, Below W5.heap.size W5 W → ∀ R, R = befR (callM who what ds a) day 100000 E.F E.C → Calls Tryz.prog 12 #[.agg #[.int .u8 8, .string who, .string ⟨#[]⟩, .string what, .int .u8 0, .string ⟨#[]⟩, .string ⟨#[]⟩, .int .i64 0, .slice none 0 0, .int .i64 0, .slice dad ds.length dcap, .slice (some ⟨S, 0, none⟩) 1 1], .int .i64 day, .agg #[.slice E.af E.F.length E.cf, .slice E.ac E.C.length E.cc]] W (BfP W R)) := Lib.hid fun W hb R hR => by
    have hq := HA.out.frame (hb05.trans (hb.mono hb05.size))
    rw [hR]
    exact mflows_any (callM who what ds a) _ _ _ day E W ⟨hcb, RC.out.frame hb, hq.ls, hq.lp, hq.lo, hq.e, hq.fs, hq.cs⟩
   have HFp : Hid (∀ W, Below W5.heap.size W5 W → ∀ R, R = befR (pickM who what a b) day 100000 E.F E.C → Calls Tryz.prog 12 #[.agg #[.int .u8 7, .string who, .string ⟨#[]⟩, .string what, .int .u8 0, .string ⟨#[]⟩, .string ⟨#[]⟩, .int .i64 0, .slice none 0 0, .int .i64 0, .slice none 0 0, .slice (some ⟨S2, 0, none⟩) 2 2], .int .i64 day, .agg #[.slice E.af E.F.length E.cf, .slice E.ac E.C.length E.cc]] W (BfP W R)) := Lib.hid fun W hb R hR => by
    have hq := HA.out.frame (hb05.trans (hb.mono hb05.size))
    rw [hR]
    exact mflows_any (pickM who what a b) _ _ _ day E W ⟨hpb, RP.out.frame hb, hq.ls, hq.lp, hq.lo, hq.e, hq.fs, hq.cs⟩
   have HEC := Lib.hid hec
   have HEP := Lib.hid hep
   have HEV := Lib.hid hev
   clear hec hep hev
   have hX5 := BC.out
   have k0 : W5.cell? ⟨S + 1, 0, none⟩ = some (.int .u8 8) := hX5.cell (j := 0) rfl
   have k1 : W5.cell? ⟨S + 1, 1, none⟩ = some (.string who) := hX5.cell (j := 1) rfl
   have k2 : W5.cell? ⟨S + 1, 2, none⟩ = some (.string ⟨#[]⟩) := hX5.cell (j := 2) rfl
   have k3 : W5.cell? ⟨S + 1, 3, none⟩ = some (.string what) := hX5.cell (j := 3) rfl
   have k4 : W5.cell? ⟨S + 1, 4, none⟩ = some (.int .u8 0) := hX5.cell (j := 4) rfl
   have k5 : W5.cell? ⟨S + 1, 5, none⟩ = some (.string ⟨#[]⟩) := hX5.cell (j := 5) rfl
   have k6 : W5.cell? ⟨S + 1, 6, none⟩ = some (.string ⟨#[]⟩) := hX5.cell (j := 6) rfl
   have k7 : W5.cell? ⟨S + 1, 7, none⟩ = some (.int .i64 0) := hX5.cell (j := 7) rfl
   have k8 : W5.cell? ⟨S + 1, 8, none⟩ = some (.slice none 0 0) := hX5.cell (j := 8) rfl
   have k9 : W5.cell? ⟨S + 1, 9, none⟩ = some (.int .i64 0) := hX5.cell (j := 9) rfl
   have k10 : W5.cell? ⟨S + 1, 10, none⟩ = some (.slice dad ds.length dcap) := hX5.cell (j := 10) rfl
   have k11 : W5.cell? ⟨S + 1, 11, none⟩ = some (.slice (some ⟨S, 0, none⟩) 1 1) := hX5.cell (j := 11) rfl
   go_wp2_with fail
   refine (HCk1.out _ (Below.refl _ _)).mono ?_
   rintro e w6 ⟨rfl, hb6⟩
   have hb06 := hb05.trans (hb6.mono hb05.size)
   have Hb06 := Lib.hid hb06
   clear k0 k1 k2 k3 k4 k5 k6 k7 k8 k9 k10 k11 hX5
   by_cases c1 : ec = 0
   case neg =>
    have t1 : (ec != 0) = true := by rw [bne_iff_ne]; exact c1
    clear hb06 hb6 hb05 hB5
    go_wp2
    go_ret
    exact ⟨rfl, Hb06.out⟩
   subst c1
   have hX6 := BP.out.below hb6 BP.out.lt
   have k0 : w6.cell? ⟨S2 + 1, 0, none⟩ = some (.int .u8 7) := hX6.cell (j := 0) rfl
   have k1 : w6.cell? ⟨S2 + 1, 1, none⟩ = some (.string who) := hX6.cell (j := 1) rfl
   have k2 : w6.cell? ⟨S2 + 1, 2, none⟩ = some (.string ⟨#[]⟩) := hX6.cell (j := 2) rfl
   have k3 : w6.cell? ⟨S2 + 1, 3, none⟩ = some (.string what) := hX6.cell (j := 3) rfl
   have k4 : w6.cell? ⟨S2 + 1, 4, none⟩ = some (.int .u8 0) := hX6.cell (j := 4) rfl
   have k5 : w6.cell? ⟨S2 + 1, 5, none⟩ = some (.string ⟨#[]⟩) := hX6.cell (j := 5) rfl
   have k6 : w6.cell? ⟨S2 + 1, 6, none⟩ = some (.string ⟨#[]⟩) := hX6.cell (j := 6) rfl
   have k7 : w6.cell? ⟨S2 + 1, 7, none⟩ = some (.int .i64 0) := hX6.cell (j := 7) rfl
   have k8 : w6.cell? ⟨S2 + 1, 8, none⟩ = some (.slice none 0 0) := hX6.cell (j := 8) rfl
   have k9 : w6.cell? ⟨S2 + 1, 9, none⟩ = some (.int .i64 0) := hX6.cell (j := 9) rfl
   have k10 : w6.cell? ⟨S2 + 1, 10, none⟩ = some (.slice none 0 0) := hX6.cell (j := 10) rfl
   have k11 : w6.cell? ⟨S2 + 1, 11, none⟩ = some (.slice (some ⟨S2, 0, none⟩) 2 2) := hX6.cell (j := 11) rfl
   go_wp2_with fail
   refine (HCk2.out _ hb6).mono ?_
   rintro e w7 ⟨rfl, hb7⟩
   have hb57 := hb6.trans (hb7.mono hb6.size)
   have hb07 := hb05.trans (hb57.mono hb05.size)
   have Hb07 := Lib.hid hb07
   clear k0 k1 k2 k3 k4 k5 k6 k7 k8 k9 k10 k11 hX6
   by_cases c2 : ep = 0
   case neg =>
    have t1 : (ep != 0) = true := by rw [bne_iff_ne]; exact c2
    clear hb06 hb6 hb05 hB5 hb7 hb57 hb07
    go_wp2
    go_ret
    exact ⟨rfl, Hb07.out⟩
   subst c2
   have hB7 := hB5.below hb57
   have kv0 : w7.cell? ⟨w.heap.size + 1 + 1, 0, none⟩ = some (.slice E.af E.F.length E.cf) := hB7.v.cell (j := 0) rfl
   have kv1 : w7.cell? ⟨w.heap.size + 1 + 1, 1, none⟩ = some (.slice E.ac E.C.length E.cc) := hB7.v.cell (j := 1) rfl
   go_wp2_with fail
   refine (HEv.out _ hb07 _ HEV.out).mono ?_
   rintro e w8 ⟨rfl, hb8⟩
   have hb58 := hb57.trans (hb8.mono hb57.size)
   have hb08 := hb07.trans (hb8.mono hb07.size)
   have hB8 := hB5.below hb58
   have Hb08 := Lib.hid hb08
   clear kv0 kv1 hB7 hb06 hb6 hb07 hb7 hb57 Hb07 Hb06 HCk1 HCk2
   by_cases c3 : ev = 0
   case neg =>
    have t1 : (ev != 0) = true := by rw [bne_iff_ne]; exact c3
    clear hb08 hb8 hb05 hB5 hb58 hB8
    go_wp2
    go_ret
    exact ⟨rfl, Hb08.out⟩
   subst c3
   by_cases c4 : day < 0
   ·have t1 : decide (day < 0) = true := decide_eq_true c4
    clear hb08 hb8 hb05 hB5 hb58 hB8
    go_wp2
    go_ret
    exact ⟨rfl, Hb08.out⟩
   have t1 : decide (day < 0) = false := decide_eq_false c4
   by_cases c5 : 99999 < day
   ·have t2 : decide (99999 < day) = true := decide_eq_true c5
    clear hb08 hb8 hb05 hB5 hb58 hB8
    go_wp2
    go_ret
    exact ⟨rfl, Hb08.out⟩
   have t2 : decide (99999 < day) = false := decide_eq_false c5
   have hx9 : BoxN (w8.alloc (.cells #[.int .u8 b.k, .string b.fr, .string b.rc, .string b.nm, .int .u8 b.ex.k, .string b.ex.ra, .string b.ex.nm, .int .i64 b.ex.d, .slice q1 b.ex.sub.length qn1, .int .i64 b.d, .slice q2 b.ds.length qn2, .slice q3 b.sub.length qn3] 29)) w8.heap.size 29 (b.cells (.slice q1 b.ex.sub.length qn1) (.slice q2 b.ds.length qn2) (.slice q3 b.sub.length qn3)) := BoxN.new w8 (b.cells (.slice q1 b.ex.sub.length qn1) (.slice q2 b.ds.length qn2) (.slice q3 b.sub.length qn3)) 29
   have hb9 : Below w8.heap.size w8 (w8.alloc (.cells #[.int .u8 b.k, .string b.fr, .string b.rc, .string b.nm, .int .u8 b.ex.k, .string b.ex.ra, .string b.ex.nm, .int .i64 b.ex.d, .slice q1 b.ex.sub.length qn1, .int .i64 b.d, .slice q2 b.ds.length qn2, .slice q3 b.sub.length qn3] 29)) := below_a1 _ _
   obtain ⟨W9, hW9⟩ : ∃ W, w8.alloc (.cells #[.int .u8 b.k, .string b.fr, .string b.rc, .string b.nm, .int .u8 b.ex.k, .string b.ex.ra, .string b.ex.nm, .int .i64 b.ex.d, .slice q1 b.ex.sub.length qn1, .int .i64 b.d, .slice q2 b.ds.length qn2, .slice q3 b.sub.length qn3] 29) = W := ⟨_, rfl⟩
   rw [hW9] at hx9 hb9
   have k0 : w8.cell? ⟨w.heap.size + 1, 0, none⟩ = some (.int .u8 b.k) := hB8.b.cell (j := 0) rfl
   have k1 : w8.cell? ⟨w.heap.size + 1, 1, none⟩ = some (.string b.fr) := hB8.b.cell (j := 1) rfl
   have k2 : w8.cell? ⟨w.heap.size + 1, 2, none⟩ = some (.string b.rc) := hB8.b.cell (j := 2) rfl
   have k3 : w8.cell? ⟨w.heap.size + 1, 3, none⟩ = some (.string b.nm) := hB8.b.cell (j := 3) rfl
   have k4 : w8.cell? ⟨w.heap.size + 1, 4, none⟩ = some (.int .u8 b.ex.k) := hB8.b.cell (j := 4) rfl
   have k5 : w8.cell? ⟨w.heap.size + 1, 5, none⟩ = some (.string b.ex.ra) := hB8.b.cell (j := 5) rfl
   have k6 : w8.cell? ⟨w.heap.size + 1, 6, none⟩ = some (.string b.ex.nm) := hB8.b.cell (j := 6) rfl
   have k7 : w8.cell? ⟨w.heap.size + 1, 7, none⟩ = some (.int .i64 b.ex.d) := hB8.b.cell (j := 7) rfl
   have k8 : w8.cell? ⟨w.heap.size + 1, 8, none⟩ = some (.slice q1 b.ex.sub.length qn1) := hB8.b.cell (j := 8) rfl
   have k9 : w8.cell? ⟨w.heap.size + 1, 9, none⟩ = some (.int .i64 b.d) := hB8.b.cell (j := 9) rfl
   have k10 : w8.cell? ⟨w.heap.size + 1, 10, none⟩ = some (.slice q2 b.ds.length qn2) := hB8.b.cell (j := 10) rfl
   have k11 : w8.cell? ⟨w.heap.size + 1, 11, none⟩ = some (.slice q3 b.sub.length qn3) := hB8.b.cell (j := 11) rfl
   go_upto_region 9 with (fail)
   clear hW9 t1 t2
   clear k0 k1 k2 k3 k4 k5 k6 k7 k8 k9 k10 k11
   have hb09 := hb08.trans (hb9.mono hb08.size)
   have hb59 := hb58.trans (hb9.mono hb58.size)
   have hB9 := hB8.below hb9
   generalize hs8 : w8.heap.size = S8 at *
   have hS8 : W5.heap.size ≤ S8 := by have := hb58.size; omega
   have hPR : befR (pickM who what a b) day 100000 E.F E.C = befR (if chosenB E.C who what day = true then a else b) day 100000 E.F E.C := befR_pick who what a b day 100000 E.F E.C HEP.out
   have HPR := Lib.hid hPR
   clear hPR
   have kv0 : W9.cell? ⟨w.heap.size + 1 + 1, 0, none⟩ = some (.slice E.af E.F.length E.cf) := hB9.v.cell (j := 0) rfl
   have kv1 : W9.cell? ⟨w.heap.size + 1 + 1, 1, none⟩ = some (.slice E.ac E.C.length E.cc) := hB9.v.cell (j := 1) rfl
   obtain ⟨ch, hch⟩ : ∃ v, chosenB E.C who what day = v := ⟨_, rfl⟩
   have HChd := Lib.hid (HCh.out day W9 hb09 ch hch)
   go_upto_if 94 with (go_at_call 26; refine HChd.out.mono ?_; rintro e w10 ⟨rfl, hb10⟩)
   have HX10 := Lib.hid (hx9.below hb10 hx9.lt)
   have HB10 := Lib.hid (hB9.below hb10)
   have Hb5A := Lib.hid (hb59.trans (hb10.mono hb59.size))
   clear kv0 kv1 HChd hx9 hb9 hb58 hb08 hB8 hb8 hB5 hb05 Hb08 hB9 hb09 hb59 hb10
   go_cut [95] from 95 to 95 (fun _ wc => ∃ (P : Con) (r1 : Option Addr) (rn1 : Nat) (r2 : Option Addr) (rn2 : Nat) (r3 : Option Addr) (rn3 : Nat), Hid (BfH P (.slice r1 P.ex.sub.length rn1) (.slice r2 P.ds.length rn2) (.slice r3 P.sub.length rn3) E w) ∧ Hid (BoxN wc S8 29 (P.cells (.slice r1 P.ex.sub.length rn1) (.slice r2 P.ds.length rn2) (.slice r3 P.sub.length rn3))) ∧ Hid (befR (pickM who what a b) day 100000 E.F E.C = befR P day 100000 E.F E.C) ∧ Hid (Below W5.heap.size W5 wc))
   case first =>
    have hPR := HPR.out
    cases ch with
    | true =>
     have hbxA := HX10.out
     have hB10 := HB10.out
     rw [if_pos hch] at hPR
     obtain ⟨W11, hW11, hb11, hz11, hx11⟩ := store12 (v0 := .int .u8 a.k) (v1 := .string a.fr) (v2 := .string a.rc) (v3 := .string a.nm) (v4 := .int .u8 a.ex.k) (v5 := .string a.ex.ra) (v6 := .string a.ex.nm) (v7 := .int .i64 a.ex.d) (v8 := .slice p1 a.ex.sub.length pn1) (v9 := .int .i64 a.d) (v10 := .slice p2 a.ds.length pn2) (v11 := .slice p3 a.sub.length pn3) (show BoxN w10 S8 29 [.int .u8 b.k, .string b.fr, .string b.rc, .string b.nm, .int .u8 b.ex.k, .string b.ex.ra, .string b.ex.nm, .int .i64 b.ex.d, .slice q1 b.ex.sub.length qn1, .int .i64 b.d, .slice q2 b.ds.length qn2, .slice q3 b.sub.length qn3] from hbxA) hS8 W5 Hb5A.out
     have HR := Lib.hid hx11
     have HR2 := Lib.hid hb11
     have HPR2 := Lib.hid hPR
     have k0 : w10.cell? ⟨w.heap.size, 0, none⟩ = some (.int .u8 a.k) := hB10.a.cell (j := 0) rfl
     have k1 : w10.cell? ⟨w.heap.size, 1, none⟩ = some (.string a.fr) := hB10.a.cell (j := 1) rfl
     have k2 : w10.cell? ⟨w.heap.size, 2, none⟩ = some (.string a.rc) := hB10.a.cell (j := 2) rfl
     have k3 : w10.cell? ⟨w.heap.size, 3, none⟩ = some (.string a.nm) := hB10.a.cell (j := 3) rfl
     have k4 : w10.cell? ⟨w.heap.size, 4, none⟩ = some (.int .u8 a.ex.k) := hB10.a.cell (j := 4) rfl
     have k5 : w10.cell? ⟨w.heap.size, 5, none⟩ = some (.string a.ex.ra) := hB10.a.cell (j := 5) rfl
     have k6 : w10.cell? ⟨w.heap.size, 6, none⟩ = some (.string a.ex.nm) := hB10.a.cell (j := 6) rfl
     have k7 : w10.cell? ⟨w.heap.size, 7, none⟩ = some (.int .i64 a.ex.d) := hB10.a.cell (j := 7) rfl
     have k8 : w10.cell? ⟨w.heap.size, 8, none⟩ = some (.slice p1 a.ex.sub.length pn1) := hB10.a.cell (j := 8) rfl
     have k9 : w10.cell? ⟨w.heap.size, 9, none⟩ = some (.int .i64 a.d) := hB10.a.cell (j := 9) rfl
     have k10 : w10.cell? ⟨w.heap.size, 10, none⟩ = some (.slice p2 a.ds.length pn2) := hB10.a.cell (j := 10) rfl
     have k11 : w10.cell? ⟨w.heap.size, 11, none⟩ = some (.slice p3 a.sub.length pn3) := hB10.a.cell (j := 11) rfl
     have y0 : w10.cell? ⟨S8, 0, none⟩ = some (.int .u8 b.k) := hbxA.cell (j := 0) rfl
     have y1 : w10.cell? ⟨S8, 1, none⟩ = some (.string b.fr) := hbxA.cell (j := 1) rfl
     have y2 : w10.cell? ⟨S8, 2, none⟩ = some (.string b.rc) := hbxA.cell (j := 2) rfl
     have y3 : w10.cell? ⟨S8, 3, none⟩ = some (.string b.nm) := hbxA.cell (j := 3) rfl
     have y4 : w10.cell? ⟨S8, 4, none⟩ = some (.int .u8 b.ex.k) := hbxA.cell (j := 4) rfl
     have y5 : w10.cell? ⟨S8, 5, none⟩ = some (.string b.ex.ra) := hbxA.cell (j := 5) rfl
     have y6 : w10.cell? ⟨S8, 6, none⟩ = some (.string b.ex.nm) := hbxA.cell (j := 6) rfl
     have y7 : w10.cell? ⟨S8, 7, none⟩ = some (.int .i64 b.ex.d) := hbxA.cell (j := 7) rfl
     have y8 : w10.cell? ⟨S8, 8, none⟩ = some (.slice q1 b.ex.sub.length qn1) := hbxA.cell (j := 8) rfl
     have y9 : w10.cell? ⟨S8, 9, none⟩ = some (.int .i64 b.d) := hbxA.cell (j := 9) rfl
     have y10 : w10.cell? ⟨S8, 10, none⟩ = some (.slice q2 b.ds.length qn2) := hbxA.cell (j := 10) rfl
     have y11 : w10.cell? ⟨S8, 11, none⟩ = some (.slice q3 b.sub.length qn3) := hbxA.cell (j := 11) rfl
     have z0 : w10.frozen? ⟨S8, 0, none⟩ = false := hbxA.frozen 0
     have z1 : w10.frozen? ⟨S8, 1, none⟩ = false := hbxA.frozen 1
     have z2 : w10.frozen? ⟨S8, 2, none⟩ = false := hbxA.frozen 2
     have z3 : w10.frozen? ⟨S8, 3, none⟩ = false := hbxA.frozen 3
     have z4 : w10.frozen? ⟨S8, 4, none⟩ = false := hbxA.frozen 4
     have z5 : w10.frozen? ⟨S8, 5, none⟩ = false := hbxA.frozen 5
     have z6 : w10.frozen? ⟨S8, 6, none⟩ = false := hbxA.frozen 6
     have z7 : w10.frozen? ⟨S8, 7, none⟩ = false := hbxA.frozen 7
     have z8 : w10.frozen? ⟨S8, 8, none⟩ = false := hbxA.frozen 8
     have z9 : w10.frozen? ⟨S8, 9, none⟩ = false := hbxA.frozen 9
     have z10 : w10.frozen? ⟨S8, 10, none⟩ = false := hbxA.frozen 10
     have z11 : w10.frozen? ⟨S8, 11, none⟩ = false := hbxA.frozen 11
     clear hx11 hb11 hbxA hB10 hPR hch hz11
     go_wp2
     go_meet
     exact ⟨a, p1, pn1, p2, pn2, p3, pn3, HA, HR, HPR2, HR2⟩
    | false =>
     rw [if_neg (by rw [hch]; decide)] at hPR
     have HPR2 := Lib.hid hPR
     clear hPR hch
     go_wp2
     go_meet
     exact ⟨b, q1, qn1, q2, qn2, q3, qn3, HB, HX10, HPR2, Hb5A⟩
   case rest =>
    obtain ⟨P, r1, rn1, r2, rn2, r3, rn3, HPb, HBX, HPR', Hb11⟩ := hcut
    have BX := HBX.out
    have hb11 := Hb11.out
    have hPR := HPR'.out
    clear HX10 HB10 Hb5A HPR HPR'
    generalize wc = W11 at *
    have HFP : Hid (∀ W, Below w.heap.size w W → ∀ R, R = befR P day 100000 E.F E.C → Calls Tryz.prog 12 #[.agg #[.int .u8 P.k, .string P.fr, .string P.rc, .string P.nm, .int .u8 P.ex.k, .string P.ex.ra, .string P.ex.nm, .int .i64 P.ex.d, .slice r1 P.ex.sub.length rn1, .int .i64 P.d, .slice r2 P.ds.length rn2, .slice r3 P.sub.length rn3], .int .i64 day, .agg #[.slice E.af E.F.length E.cf, .slice E.ac E.C.length E.cc]] W (BfP W R)) := Lib.hid fun W hb R hR => by rw [hR]; exact mflows_any P _ _ _ day E W (HPb.out.frame hb)
    obtain ⟨R1, hR1⟩ : ∃ R, R = befR (pickM who what a b) day 100000 E.F E.C := ⟨_, rfl⟩
    have hl1 : R1.2.length ≤ 1100000 := by rw [hR1]; exact Nat.le_trans (befR_len _ _ _ _ _) hpb
    have HR1 := Lib.hid hR1
    have HR1' := Lib.hid (hR1.trans hPR)
    clear hR1 hPR hch
    have hX11 := BP.out.below hb11 BP.out.lt
    have hB11 := HB5.out.below hb11
    have k0 : W11.cell? ⟨S2 + 1, 0, none⟩ = some (.int .u8 7) := hX11.cell (j := 0) rfl
    have k1 : W11.cell? ⟨S2 + 1, 1, none⟩ = some (.string who) := hX11.cell (j := 1) rfl
    have k2 : W11.cell? ⟨S2 + 1, 2, none⟩ = some (.string ⟨#[]⟩) := hX11.cell (j := 2) rfl
    have k3 : W11.cell? ⟨S2 + 1, 3, none⟩ = some (.string what) := hX11.cell (j := 3) rfl
    have k4 : W11.cell? ⟨S2 + 1, 4, none⟩ = some (.int .u8 0) := hX11.cell (j := 4) rfl
    have k5 : W11.cell? ⟨S2 + 1, 5, none⟩ = some (.string ⟨#[]⟩) := hX11.cell (j := 5) rfl
    have k6 : W11.cell? ⟨S2 + 1, 6, none⟩ = some (.string ⟨#[]⟩) := hX11.cell (j := 6) rfl
    have k7 : W11.cell? ⟨S2 + 1, 7, none⟩ = some (.int .i64 0) := hX11.cell (j := 7) rfl
    have k8 : W11.cell? ⟨S2 + 1, 8, none⟩ = some (.slice none 0 0) := hX11.cell (j := 8) rfl
    have k9 : W11.cell? ⟨S2 + 1, 9, none⟩ = some (.int .i64 0) := hX11.cell (j := 9) rfl
    have k10 : W11.cell? ⟨S2 + 1, 10, none⟩ = some (.slice none 0 0) := hX11.cell (j := 10) rfl
    have k11 : W11.cell? ⟨S2 + 1, 11, none⟩ = some (.slice (some ⟨S2, 0, none⟩) 2 2) := hX11.cell (j := 11) rfl
    have kv0 : W11.cell? ⟨w.heap.size + 1 + 1, 0, none⟩ = some (.slice E.af E.F.length E.cf) := hB11.v.cell (j := 0) rfl
    have kv1 : W11.cell? ⟨w.heap.size + 1 + 1, 1, none⟩ = some (.slice E.ac E.C.length E.cc) := hB11.v.cell (j := 1) rfl
    go_wp2_with fail
    refine (HFp.out _ hb11 R1 HR1.out).mono ?_
    rintro e w12 ⟨ad12, cap12, rfl, hb12, l12, n12, r12⟩
    clear k0 k1 k2 k3 k4 k5 k6 k7 k8 k9 k10 k11 kv0 kv1 hX11 hB11
    have hb5C := hb11.trans (hb12.mono hb11.size)
    have hb0C := Hb05.out.trans (hb5C.mono Hb05.out.size)
    have hx12 := BX.below hb12 BX.lt
    have hB12 := HB5.out.below hb5C
    have k0 : w12.cell? ⟨S8, 0, none⟩ = some (.int .u8 P.k) := hx12.cell (j := 0) rfl
    have k1 : w12.cell? ⟨S8, 1, none⟩ = some (.string P.fr) := hx12.cell (j := 1) rfl
    have k2 : w12.cell? ⟨S8, 2, none⟩ = some (.string P.rc) := hx12.cell (j := 2) rfl
    have k3 : w12.cell? ⟨S8, 3, none⟩ = some (.string P.nm) := hx12.cell (j := 3) rfl
    have k4 : w12.cell? ⟨S8, 4, none⟩ = some (.int .u8 P.ex.k) := hx12.cell (j := 4) rfl
    have k5 : w12.cell? ⟨S8, 5, none⟩ = some (.string P.ex.ra) := hx12.cell (j := 5) rfl
    have k6 : w12.cell? ⟨S8, 6, none⟩ = some (.string P.ex.nm) := hx12.cell (j := 6) rfl
    have k7 : w12.cell? ⟨S8, 7, none⟩ = some (.int .i64 P.ex.d) := hx12.cell (j := 7) rfl
    have k8 : w12.cell? ⟨S8, 8, none⟩ = some (.slice r1 P.ex.sub.length rn1) := hx12.cell (j := 8) rfl
    have k9 : w12.cell? ⟨S8, 9, none⟩ = some (.int .i64 P.d) := hx12.cell (j := 9) rfl
    have k10 : w12.cell? ⟨S8, 10, none⟩ = some (.slice r2 P.ds.length rn2) := hx12.cell (j := 10) rfl
    have k11 : w12.cell? ⟨S8, 11, none⟩ = some (.slice r3 P.sub.length rn3) := hx12.cell (j := 11) rfl
    have kv0 : w12.cell? ⟨w.heap.size + 1 + 1, 0, none⟩ = some (.slice E.af E.F.length E.cf) := hB12.v.cell (j := 0) rfl
    have kv1 : w12.cell? ⟨w.heap.size + 1 + 1, 1, none⟩ = some (.slice E.ac E.C.length E.cc) := hB12.v.cell (j := 1) rfl
    go_wp2_with fail
    refine (HFP.out _ hb0C R1 HR1'.out).mono ?_
    rintro e w13 ⟨ad13, cap13, rfl, hb13, l13, n13, r13⟩
    clear k0 k1 k2 k3 k4 k5 k6 k7 k8 k9 k10 k11 kv0 kv1 hx12 hB12
    have hb5D := hb5C.trans (hb13.mono hb5C.size)
    have r12' := r12.below hb13
    obtain ⟨er1, L1⟩ := R1
    go_wp2_with fail
    refine (sameFl_any L1 ad12 ad13 cap12 cap13 w13 hl1 r12' r13).mono ?_
    rintro e w14 ⟨rfl, hb14⟩
    have hb5E := hb5D.trans (hb14.mono hb5D.size)
    have hX14 := BC.out.below hb5E BC.out.lt
    have hB14 := HB5.out.below hb5E
    obtain ⟨R3, hR3⟩ : ∃ R, R = befR (callM who what ds a) day 100000 E.F E.C := ⟨_, rfl⟩
    have hl3 : R3.2.length ≤ 1100000 := by rw [hR3]; exact Nat.le_trans (befR_len _ _ _ _ _) hcb
    have HAt : Hid (∀ i d, ds[i]? = some d → day ≤ d → chosenB E.C who what d = true → (∀ j e, j < i → ds[j]? = some e → ¬ (day ≤ e ∧ chosenB E.C who what e = true)) → R3 = befR a d 100000 E.F E.C) := Lib.hid fun i d h1 h2 h3 h4 => by
     rw [hR3]; exact befR_call_at who what ds a day E.F E.C HEC.out (by omega) i d h1 h2 h3 h4
    have HNo : Hid ((∀ e ∈ ds, ¬ (day ≤ e ∧ chosenB E.C who what e = true)) → R3 = (0, [])) := Lib.hid fun h => by
     rw [hR3]; exact befR_call_none who what ds a day E.F E.C HEC.out HEV.out (by omega) h
    have HR3 := Lib.hid hR3
    clear hR3 r12 r12' r13 hb12 hb13 hb14 hb5D hb5C hb0C hb11 BX n12 n13 l12 l13 hl1 HR1 HR1' HFP HFp HPb Hb11
    have k0 : w14.cell? ⟨S + 1, 0, none⟩ = some (.int .u8 8) := hX14.cell (j := 0) rfl
    have k1 : w14.cell? ⟨S + 1, 1, none⟩ = some (.string who) := hX14.cell (j := 1) rfl
    have k2 : w14.cell? ⟨S + 1, 2, none⟩ = some (.string ⟨#[]⟩) := hX14.cell (j := 2) rfl
    have k3 : w14.cell? ⟨S + 1, 3, none⟩ = some (.string what) := hX14.cell (j := 3) rfl
    have k4 : w14.cell? ⟨S + 1, 4, none⟩ = some (.int .u8 0) := hX14.cell (j := 4) rfl
    have k5 : w14.cell? ⟨S + 1, 5, none⟩ = some (.string ⟨#[]⟩) := hX14.cell (j := 5) rfl
    have k6 : w14.cell? ⟨S + 1, 6, none⟩ = some (.string ⟨#[]⟩) := hX14.cell (j := 6) rfl
    have k7 : w14.cell? ⟨S + 1, 7, none⟩ = some (.int .i64 0) := hX14.cell (j := 7) rfl
    have k8 : w14.cell? ⟨S + 1, 8, none⟩ = some (.slice none 0 0) := hX14.cell (j := 8) rfl
    have k9 : w14.cell? ⟨S + 1, 9, none⟩ = some (.int .i64 0) := hX14.cell (j := 9) rfl
    have k10 : w14.cell? ⟨S + 1, 10, none⟩ = some (.slice dad ds.length dcap) := hX14.cell (j := 10) rfl
    have k11 : w14.cell? ⟨S + 1, 11, none⟩ = some (.slice (some ⟨S, 0, none⟩) 1 1) := hX14.cell (j := 11) rfl
    have kv0 : w14.cell? ⟨w.heap.size + 1 + 1, 0, none⟩ = some (.slice E.af E.F.length E.cf) := hB14.v.cell (j := 0) rfl
    have kv1 : w14.cell? ⟨w.heap.size + 1 + 1, 1, none⟩ = some (.slice E.ac E.C.length E.cc) := hB14.v.cell (j := 1) rfl
    go_wp2_with fail
    refine (HFc.out _ hb5E R3 HR3.out).mono ?_
    rintro e w15 ⟨ad15, cap15, rfl, hb15, l15, n15, r15⟩
    clear k0 k1 k2 k3 k4 k5 k6 k7 k8 k9 k10 k11 kv0 kv1 hX14 hB14
    have hb5F := hb5E.trans (hb15.mono hb5E.size)
    have hb0F := Hb05.out.trans (hb5F.mono Hb05.out.size)
    have HB15 := Lib.hid (HB5.out.below hb5F)
    have Hb0F := Lib.hid hb0F
    have RX := Lib.hid r15
    obtain ⟨er3, L3⟩ := R3
    have hl3 : L3.length ≤ 1100000 := hl3
    clear HR3 hb5E hb5F hb0F hb15 r15 HFc BC BP RC RP HEC HEP HEV hcb hpb n15
    go_wp2_with fail
    go_loopw [25] (fun iv wr => ∃ (i : Nat), iv = .int .i64 (i : Int) ∧ i ≤ ds.length ∧ Hid (∀ j e, j < i → ds[j]? = some e → ¬ (day ≤ e ∧ chosenB E.C who what e = true)) ∧ Hid (Below w15.heap.size w15 wr)) (fun iv _ => ds.length - (intOf iv).toNat)
    case atStart => exact ⟨0, rfl, Nat.zero_le _, Lib.hid fun j e hj => absurd hj (Nat.not_lt_zero _), Lib.hid (Below.refl _ _)⟩
    case round =>
     obtain ⟨i, rfl, hi, HJ, HW⟩ := hrel
     have h0 : (0 : Int) ≤ (i : Int) := by omega
     by_cases hlt : i < ds.length
     ·have h1 : (i : Int) < (ds.length : Int) := by omega
      obtain ⟨d, hd⟩ : ∃ d, ds[i]? = some d := ⟨_, List.getElem?_eq_getElem hlt⟩
      have hwr := Hb0F.out.trans (HW.out.mono Hb0F.out.size)
      have Hwr := Lib.hid hwr
      obtain ⟨db, doff, hda, q0⟩ := (HI.out.frame hwr).elem hd
      cases hda
      have hBr := HB15.out.below HW.out
      by_cases hdd : day ≤ d
      ·have t1 : decide (day ≤ d) = true := decide_eq_true hdd
       obtain ⟨cv, hcv⟩ : ∃ v, chosenB E.C who what d = v := ⟨_, rfl⟩
       have HCd := Lib.hid (fun W (hW : Ext wr W) => HCh.out d W (hwr.trans (Below.mono hW hwr.size)) cv hcv)
       have kv0 : wr.cell? ⟨w.heap.size + 1 + 1, 0, none⟩ = some (.slice E.af E.F.length E.cf) := hBr.v.cell (j := 0) rfl
       have kv1 : wr.cell? ⟨w.heap.size + 1 + 1, 1, none⟩ = some (.slice E.ac E.C.length E.cc) := hBr.v.cell (j := 1) rfl
       go_wp2_with fail
       refine wp_region_ext (fun W' => W'.cell? ⟨db, doff + i, none⟩ = some (.int .i64 d) ∧ W'.cell? ⟨w.heap.size + 1 + 1, 0, none⟩ = some (.slice E.af E.F.length E.cf) ∧ W'.cell? ⟨w.heap.size + 1 + 1, 1, none⟩ = some (.slice E.ac E.C.length E.cc)) (fun W hW => ⟨hW.cell q0, hW.cell kv0, hW.cell kv1⟩) (by kernel_rfl) (by kernel_rfl) ?_
       intro HCW
       repeat (first | go_big_quiet_skip | (go_big_quiet_want; apply Exists.intro; refine ⟨fun W hW => ?_, ?_⟩; (focus (obtain ⟨x0, x1, x2⟩ := HCW W hW; go_simp; first | done | rfl | with_reducible exact ext_callsE HCd.out W hW)); (simp only [Act.put, List.setIfInBounds_toArray, List.set_cons_zero, List.set_cons_succ]); go_big_quiet_on))
       refine wpQuiet_nil ?_
       intro W hW
       have hW1 := hW.below
       have hbW := HW.out.trans (hW1.mono HW.out.size)
       have HbW := Lib.hid hbW
       have h0W := Lib.hid (Hb0F.out.trans (hbW.mono Hb0F.out.size))
       clear kv0 kv1 HCW HCd hBr
       cases cv with
       | true =>
        have HR := Lib.hid (HAt.out i d hd hdd hcv HJ.out)
        have HBW := Lib.hid (HB15.out.below hbW)
        have Y0 := Lib.hid (hW.cell q0)
        clear hd hcv hW hW1 hbW q0 hwr
        go_wp2_with fail
        generalize (Value.agg #[.int .u8 a.k, .string a.fr, .string a.rc, .string a.nm, .int .u8 a.ex.k, .string a.ex.ra, .string a.ex.nm, .int .i64 a.ex.d, .slice p1 a.ex.sub.length pn1, .int .i64 a.d, .slice p2 a.ds.length pn2, .slice p3 a.sub.length pn3]) = vA
        generalize (Value.agg #[.int .u8 b.k, .string b.fr, .string b.rc, .string b.nm, .int .u8 b.ex.k, .string b.ex.ra, .string b.ex.nm, .int .i64 b.ex.d, .slice q1 b.ex.sub.length qn1, .int .i64 b.d, .slice q2 b.ds.length qn2, .slice q3 b.sub.length qn3]) = vB
        generalize (Value.agg #[.int .u8 P.k, .string P.fr, .string P.rc, .string P.nm, .int .u8 P.ex.k, .string P.ex.ra, .string P.ex.nm, .int .i64 P.ex.d, .slice r1 P.ex.sub.length rn1, .int .i64 P.d, .slice r2 P.ds.length rn2, .slice r3 P.sub.length rn3]) = vP
        generalize (Value.agg #[.slice E.af E.F.length E.cf, .slice E.ac E.C.length E.cc]) = vE
        generalize (Value.agg #[.int .u8 8, .string who, .string ⟨#[]⟩, .string what, .int .u8 0, .string ⟨#[]⟩, .string ⟨#[]⟩, .int .i64 0, .slice none 0 0, .int .i64 0, .slice (some ⟨db, doff, none⟩) ds.length dcap, .slice (some ⟨S, 0, none⟩) 1 1]) = vC
        generalize (Value.agg #[.int .u8 7, .string who, .string ⟨#[]⟩, .string what, .int .u8 0, .string ⟨#[]⟩, .string ⟨#[]⟩, .int .i64 0, .slice none 0 0, .int .i64 0, .slice none 0 0, .slice (some ⟨S2, 0, none⟩) 2 2]) = vK
        refine wp_region_invc (fun L aa w' => ∃ v0 v1 v2 v3 v4 v5 v6 v7 v8 v9 v10 v11 ad cap, aa = ⟨#[vA, vB, .string who, .string what, .slice (some ⟨db, doff, none⟩) ds.length dcap, .int .i64 day, vE, .pointer (some ⟨w.heap.size, 0, none⟩), .pointer (some ⟨w.heap.size + 1, 0, none⟩), undef, undef, undef, undef, .pointer (some ⟨w.heap.size + 1 + 1, 0, none⟩), u14, .bool true, .pointer (some ⟨S + 1, 0, none⟩), .pointer (some ⟨S2 + 1, 0, none⟩), .pointer (some ⟨S8, 0, none⟩), .slice ad12 L1.length cap12, .int .i64 er1, .slice ad13 L1.length cap13, .int .i64 er1, .slice ad15 L3.length cap15, .int .i64 er3, .int .i64 i, v10, v11, .bool true, vA, vE, .bool false, .bool false, vB, vE, .bool false, .bool false, .bool false, .string who, .int .i64 who.size, .string what, .int .i64 what.size, .int .i64 (who.size + what.size), .bool false, .bool false, .bool false, .slice (some ⟨db, doff, none⟩) ds.length dcap, .int .i64 ds.length, .bool false, .bool false, .bool false, .bool true, .bool false, .bool false, undef, .string who, .string what, .slice (some ⟨db, doff, none⟩) ds.length dcap, vA, .slice (some ⟨S, 0, none⟩) 1 1, vC, .string who, .string what, vA, vB, .slice (some ⟨S2, 0, none⟩) 2 2, vK, vC, .int .i64 0, .bool false, .bool false, vK, .int .i64 0, .bool false, .bool false, .bool false, vE, .int .i64 0, .bool false, .bool false, .bool false, .int .i64 day, .bool false, .bool false, .bool false, .int .i64 day, .bool false, .bool false, undef, vB, vE, .string who, .string what, .int .i64 day, .bool ch, u95, .tuple #[.slice ad12 L1.length cap12, .int .i64 er1], vK, .int .i64 day, vE, .tuple #[.slice ad12 L1.length cap12, .int .i64 er1], .slice ad12 L1.length cap12, .int .i64 er1, .tuple #[.slice ad13 L1.length cap13, .int .i64 er1], vP, .int .i64 day, vE, .tuple #[.slice ad13 L1.length cap13, .int .i64 er1], .slice ad13 L1.length cap13, .int .i64 er1, .int .i64 er1, .int .i64 er1, .bool false, .bool false, .slice ad12 L1.length cap12, .slice ad13 L1.length cap13, .bool true, .bool false, .bool false, .tuple #[.slice ad15 L3.length cap15, .int .i64 er3], vC, .int .i64 day, vE, .tuple #[.slice ad15 L3.length cap15, .int .i64 er3], .slice ad15 L3.length cap15, .int .i64 er3, .int .i64 i, .slice (some ⟨db, doff, none⟩) ds.length dcap, .int .i64 ds.length, .bool true, u130, u131, .slice (some ⟨db, doff, none⟩) ds.length dcap, .int .i64 i, .pointer (some ⟨db, doff + i, none⟩), .int .i64 d, .int .i64 day, .bool true, .bool true, vE, .string who, .string what, .slice (some ⟨db, doff, none⟩) ds.length dcap, .int .i64 i, .pointer (some ⟨db, doff + i, none⟩), .int .i64 d, .bool true, .bool true, v7, v0, v1, v2, v3, v4, v5, v6, v8, v9, u158, u159, u160, u161, u162, u163, u164, u165, u166, u167, u168, undef, undef, undef, undef, undef, undef, undef, undef, undef, undef], []⟩ ∧ VInv W [.agg #[.int .u8 a.k, .string a.fr, .string a.rc, .string a.nm, .int .u8 a.ex.k, .string a.ex.ra, .string a.ex.nm, .int .i64 a.ex.d, .slice p1 a.ex.sub.length pn1, .int .i64 a.d, .slice p2 a.ds.length pn2, .slice p3 a.sub.length pn3], .slice (some ⟨db, doff, none⟩) ds.length dcap, .int .i64 i, .pointer (some ⟨db, doff + i, none⟩), .int .i64 d, .agg #[.slice E.af E.F.length E.cf, .slice E.ac E.C.length E.cc], .tuple #[.slice ad L3.length cap, .int .i64 er3], .tuple #[.slice ad L3.length cap, .int .i64 er3], .slice ad L3.length cap, .int .i64 er3, .slice ad L3.length cap, .int .i64 er3] [v0, v1, v2, v3, v4, v5, v6, v7, v8, v9, v10, v11] L w' ∧ (L 6 = true → Rd Fl.cells 5 w' ad L3)) (by kernel_rfl) (by kernel_rfl) ?_ ?_ ?_
        ·exact ⟨_, _, _, _, _, _, _, _, _, _, _, _, none, 0, rfl, VInv.start (below_drewN (Below.refl _ _) 1) rfl, fun e => by cases e⟩
        ·rintro L aa w' ⟨v0, v1, v2, v3, v4, v5, v6, v7, v8, v9, v10, v11, ad, cap, rfl, h, hr⟩ hc i0 o ho hL hp
         have hi9 : i0 < 12 := by simpa using (Array.getElem?_eq_some_iff.1 ho).1
         have hi2 : i0 = 0 ∨ i0 = 1 ∨ i0 = 2 ∨ i0 = 3 ∨ i0 = 4 ∨ i0 = 5 ∨ i0 = 6 ∨ i0 = 7 ∨ i0 = 8 ∨ i0 = 9 ∨ i0 = 10 ∨ i0 = 11 := by omega
         clear hi9
         rcases hi2 with rfl | rfl | rfl | rfl | rfl | rfl | rfl | rfl | rfl | rfl | rfl | rfl
         ·refine wpOp_step rfl ?_
          intro K hK
          have hBw := HBW.out.below h.b
          have k0 : w'.cell? ⟨w.heap.size, 0, none⟩ = some (.int .u8 a.k) := hBw.a.cell (j := 0) rfl
          have k1 : w'.cell? ⟨w.heap.size, 1, none⟩ = some (.string a.fr) := hBw.a.cell (j := 1) rfl
          have k2 : w'.cell? ⟨w.heap.size, 2, none⟩ = some (.string a.rc) := hBw.a.cell (j := 2) rfl
          have k3 : w'.cell? ⟨w.heap.size, 3, none⟩ = some (.string a.nm) := hBw.a.cell (j := 3) rfl
          have k4 : w'.cell? ⟨w.heap.size, 4, none⟩ = some (.int .u8 a.ex.k) := hBw.a.cell (j := 4) rfl
          have k5 : w'.cell? ⟨w.heap.size, 5, none⟩ = some (.string a.ex.ra) := hBw.a.cell (j := 5) rfl
          have k6 : w'.cell? ⟨w.heap.size, 6, none⟩ = some (.string a.ex.nm) := hBw.a.cell (j := 6) rfl
          have k7 : w'.cell? ⟨w.heap.size, 7, none⟩ = some (.int .i64 a.ex.d) := hBw.a.cell (j := 7) rfl
          have k8 : w'.cell? ⟨w.heap.size, 8, none⟩ = some (.slice p1 a.ex.sub.length pn1) := hBw.a.cell (j := 8) rfl
          have k9 : w'.cell? ⟨w.heap.size, 9, none⟩ = some (.int .i64 a.d) := hBw.a.cell (j := 9) rfl
          have k10 : w'.cell? ⟨w.heap.size, 10, none⟩ = some (.slice p2 a.ds.length pn2) := hBw.a.cell (j := 10) rfl
          have k11 : w'.cell? ⟨w.heap.size, 11, none⟩ = some (.slice p3 a.sub.length pn3) := hBw.a.cell (j := 11) rfl
          go_simp
          exact hK _ _ ⟨_, _, _, _, _, _, _, _, _, _, _, _, ad, cap, rfl, h.step (i := 0) (v := .agg #[.int .u8 a.k, .string a.fr, .string a.rc, .string a.nm, .int .u8 a.ex.k, .string a.ex.ra, .string a.ex.nm, .int .i64 a.ex.d, .slice p1 a.ex.sub.length pn1, .int .i64 a.d, .slice p2 a.ds.length pn2, .slice p3 a.sub.length pn3]) rfl, fun e => hr (by simpa [upd] using e)⟩
         ·refine wpOp_step rfl ?_
          intro K hK
          go_simp
          exact hK _ _ ⟨_, _, _, _, _, _, _, _, _, _, _, _, ad, cap, rfl, h.step (i := 1) (v := .slice (some ⟨db, doff, none⟩) ds.length dcap) rfl, fun e => hr (by simpa [upd] using e)⟩
         ·refine wpOp_step rfl ?_
          intro K hK
          go_simp
          exact hK _ _ ⟨_, _, _, _, _, _, _, _, _, _, _, _, ad, cap, rfl, h.step (i := 2) (v := .int .i64 i) rfl, fun e => hr (by simpa [upd] using e)⟩
         ·refine wpOp_step rfl ?_
          intro K hK
          obtain rfl := h.at (i := 1) (pred_spec ho hp (j := 1) (by kernel_rfl)) rfl rfl
          obtain rfl := h.at (i := 2) (pred_spec ho hp (j := 2) (by kernel_rfl)) rfl rfl
          go_simp
          exact hK _ _ ⟨_, _, _, _, _, _, _, _, _, _, _, _, ad, cap, rfl, h.step (i := 3) (v := .pointer (some ⟨db, doff + i, none⟩)) rfl, fun e => hr (by simpa [upd] using e)⟩
         ·refine wpOp_step rfl ?_
          intro K hK
          obtain rfl := h.at (i := 3) (pred_spec ho hp (j := 3) (by kernel_rfl)) rfl rfl
          have y0 : w'.cell? ⟨db, doff + i, none⟩ = some (.int .i64 d) := Below.cell h.b (p := ⟨db, doff + i, none⟩) (World.block_lt_of_cell? W _ Y0.out) ▸ Y0.out
          go_simp
          exact hK _ _ ⟨_, _, _, _, _, _, _, _, _, _, _, _, ad, cap, rfl, h.step (i := 4) (v := .int .i64 d) rfl, fun e => hr (by simpa [upd] using e)⟩
         ·refine wpOp_step rfl ?_
          intro K hK
          have hBw := HBW.out.below h.b
          have kv0 : w'.cell? ⟨w.heap.size + 1 + 1, 0, none⟩ = some (.slice E.af E.F.length E.cf) := hBw.v.cell (j := 0) rfl
          have kv1 : w'.cell? ⟨w.heap.size + 1 + 1, 1, none⟩ = some (.slice E.ac E.C.length E.cc) := hBw.v.cell (j := 1) rfl
          go_simp
          exact hK _ _ ⟨_, _, _, _, _, _, _, _, _, _, _, _, ad, cap, rfl, h.step (i := 5) (v := .agg #[.slice E.af E.F.length E.cf, .slice E.ac E.C.length E.cc]) rfl, fun e => hr (by simpa [upd] using e)⟩
         ·refine wpOp_step rfl ?_
          intro K hK
          obtain rfl := h.at (i := 0) (pred_spec ho hp (j := 0) (by kernel_rfl)) rfl rfl
          obtain rfl := h.at (i := 4) (pred_spec ho hp (j := 4) (by kernel_rfl)) rfl rfl
          obtain rfl := h.at (i := 5) (pred_spec ho hp (j := 5) (by kernel_rfl)) rfl rfl
          go_simp
          refine (HFa.out w' d (h0W.out.trans (h.b.mono h0W.out.size)) (er3, L3) HR.out).mono ?_
          rintro e w4 ⟨ad', cap', rfl, hb4, l4, n4, r4⟩
          have h7 := cl_no hc hL 7 (by kernel_rfl)
          have h8 := cl_no hc h7 8 (by kernel_rfl)
          have h9 := cl_no hc h7 9 (by kernel_rfl)
          have h10 := cl_no hc h8 10 (by kernel_rfl)
          have h11 := cl_no hc h9 11 (by kernel_rfl)
          refine hK _ _ ⟨_, _, _, _, _, _, _, _, _, _, _, _, ad', cap', rfl, VInv.step (i := 6) (v := .tuple #[.slice ad' L3.length cap', .int .i64 er3]) (VInv.other (vals' := [.agg #[.int .u8 a.k, .string a.fr, .string a.rc, .string a.nm, .int .u8 a.ex.k, .string a.ex.ra, .string a.ex.nm, .int .i64 a.ex.d, .slice p1 a.ex.sub.length pn1, .int .i64 a.d, .slice p2 a.ds.length pn2, .slice p3 a.sub.length pn3], .slice (some ⟨db, doff, none⟩) ds.length dcap, .int .i64 i, .pointer (some ⟨db, doff + i, none⟩), .int .i64 d, .agg #[.slice E.af E.F.length E.cf, .slice E.ac E.C.length E.cc], .tuple #[.slice ad' L3.length cap', .int .i64 er3], .tuple #[.slice ad' L3.length cap', .int .i64 er3], .slice ad' L3.length cap', .int .i64 er3, .slice ad' L3.length cap', .int .i64 er3]) (h.ext hb4) rfl fun j v hj hv => ?_) rfl, fun _ => r4⟩
          have hj9 : j < 12 := by simpa using (List.getElem?_eq_some_iff.1 hv).1
          have hj2 : j = 0 ∨ j = 1 ∨ j = 2 ∨ j = 3 ∨ j = 4 ∨ j = 5 ∨ j = 6 ∨ j = 7 ∨ j = 8 ∨ j = 9 ∨ j = 10 ∨ j = 11 := by omega
          rcases hj2 with rfl | rfl | rfl | rfl | rfl | rfl | rfl | rfl | rfl | rfl | rfl | rfl
          ·exact hv
          ·exact hv
          ·exact hv
          ·exact hv
          ·exact hv
          ·exact hv
          ·rw [hL] at hj; cases hj
          ·rw [h7] at hj; cases hj
          ·rw [h8] at hj; cases hj
          ·rw [h9] at hj; cases hj
          ·rw [h10] at hj; cases hj
          ·rw [h11] at hj; cases hj
         ·refine wpOp_step rfl ?_
          intro K hK
          obtain rfl := h.at (i := 6) (pred_spec ho hp (j := 6) (by kernel_rfl)) rfl rfl
          go_simp
          exact hK _ _ ⟨_, _, _, _, _, _, _, _, _, _, _, _, ad, cap, rfl, h.step (i := 7) (v := .tuple #[.slice ad L3.length cap, .int .i64 er3]) rfl, fun e => hr (by simpa [upd] using e)⟩
         ·refine wpOp_step rfl ?_
          intro K hK
          obtain rfl := h.at (i := 7) (pred_spec ho hp (j := 7) (by kernel_rfl)) rfl rfl
          go_simp
          exact hK _ _ ⟨_, _, _, _, _, _, _, _, _, _, _, _, ad, cap, rfl, h.step (i := 8) (v := .slice ad L3.length cap) rfl, fun e => hr (by simpa [upd] using e)⟩
         ·refine wpOp_step rfl ?_
          intro K hK
          obtain rfl := h.at (i := 7) (pred_spec ho hp (j := 7) (by kernel_rfl)) rfl rfl
          go_simp
          exact hK _ _ ⟨_, _, _, _, _, _, _, _, _, _, _, _, ad, cap, rfl, h.step (i := 9) (v := .int .i64 er3) rfl, fun e => hr (by simpa [upd] using e)⟩
         ·refine wpOp_step rfl ?_
          intro K hK
          obtain rfl := h.at (i := 8) (pred_spec ho hp (j := 8) (by kernel_rfl)) rfl rfl
          go_simp
          exact hK _ _ ⟨_, _, _, _, _, _, _, _, _, _, _, _, ad, cap, rfl, h.step (i := 10) (v := .slice ad L3.length cap) rfl, fun e => hr (by simpa [upd] using e)⟩
         ·refine wpOp_step rfl ?_
          intro K hK
          obtain rfl := h.at (i := 9) (pred_spec ho hp (j := 9) (by kernel_rfl)) rfl rfl
          go_simp
          exact hK _ _ ⟨_, _, _, _, _, _, _, _, _, _, _, _, ad, cap, rfl, h.step (i := 11) (v := .int .i64 er3) rfl, fun e => hr (by simpa [upd] using e)⟩
        ·rintro L aa w4 ⟨v0, v1, v2, v3, v4, v5, v6, v7, v8, v9, v10, v11, ad, cap, rfl, h, hr⟩ hall
         obtain rfl := h.at (i := 10) (hall 10 (by decide)) rfl rfl
         obtain rfl := h.at (i := 11) (hall 11 (by decide)) rfl rfl
         have h0W4 := h0W.out.trans (h.b.mono h0W.out.size)
         have H0G := Lib.hid h0W4
         have rx := RX.out.below (HbW.out.trans (h.b.mono HbW.out.size))
         have r16 := hr (hall 6 (by decide))
         clear h hr hall HR HBW Y0
         go_wp2_with fail
         refine (sameFl_any L3 ad15 ad cap15 cap w4 hl3 rx r16).mono ?_
         rintro e w17 ⟨rfl, hb17⟩
         have HF := Lib.hid (h0W4.trans (hb17.mono h0W4.size))
         clear hb17 h0W4 rx r16
         go_wp2
         go_ret
         exact ⟨rfl, HF.out⟩
       | false =>
        have HJ2 : Hid (∀ j e, j < i + 1 → ds[j]? = some e → ¬ (day ≤ e ∧ chosenB E.C who what e = true)) := Lib.hid fun j e hj he => by
         by_cases hji : j < i
         ·exact HJ.out j e hji he
         ·obtain rfl : j = i := by omega
          rw [hd] at he; cases he
          rw [hcv]; simp
        clear hd hcv hW hW1 hbW q0 hwr
        go_wp2
        go_roundw
        case rel => exact ⟨i + 1, by go_num, by omega, HJ2, HbW⟩
        case measure => simp [intOf]; omega
      ·have t1 : decide (day ≤ d) = false := decide_eq_false hdd
       have HJ2 : Hid (∀ j e, j < i + 1 → ds[j]? = some e → ¬ (day ≤ e ∧ chosenB E.C who what e = true)) := Lib.hid fun j e hj he => by
        by_cases hji : j < i
        ·exact HJ.out j e hji he
        ·obtain rfl : j = i := by omega
         rw [hd] at he; cases he
         exact fun k => hdd k.1
       clear hd hwr hBr
       go_wp2_with fail
       refine wp_region_ext (fun W' => W'.cell? ⟨db, doff + i, none⟩ = some (.int .i64 d)) (fun W hW => hW.cell q0) (by kernel_rfl) (by kernel_rfl) ?_
       intro HCW
       repeat (first | go_big_quiet_skip | (go_big_quiet_want; apply Exists.intro; refine ⟨fun W hW => ?_, ?_⟩; (focus (have x0 := HCW W hW; go_simp; first | done | rfl)); (simp only [Act.put, List.setIfInBounds_toArray, List.set_cons_zero, List.set_cons_succ]); go_big_quiet_on))
       refine wpQuiet_nil ?_
       intro W hW
       have HbW := Lib.hid (HW.out.trans (hW.below.mono HW.out.size))
       clear hW q0 HCW
       go_wp2
       go_roundw
       case rel => exact ⟨i + 1, by go_num, by omega, HJ2, HbW⟩
       case measure => simp [intOf]; omega
     ·obtain rfl : i = ds.length := by omega
      have hq := HNo.out fun e he => by
       obtain ⟨j, hj, rfl⟩ := List.getElem_of_mem he
       exact HJ.out j _ hj (List.getElem?_eq_getElem hj)
      obtain ⟨rfl, rfl⟩ : er3 = 0 ∧ L3 = [] := by simpa using hq
      have HF := Lib.hid (Hb0F.out.trans (HW.out.mono Hb0F.out.size))
      clear hq
      go_wp2
      go_ret
      exact ⟨rfl, HF.out⟩
end Go.Proofs.YtknpnhodpgajbaaGreatDoor
