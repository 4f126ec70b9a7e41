/-
  Law 10, MeaningScale: the contract that it makes.  Printed by tools/genscl.py. Law 10, MeaningScale.  Printed by tools/genscl.py. MeaningScale: ConScale multiplies the amounts, turns payments round if the factor is negative and leaves nothing if it is 0, for every contract, factor, days and knowledge that together hold at most 1048576 values and letters; the arguments read afterwards as before; the tables contract.parts, observable.shapes and observable.operations as the program's text lays them.
-/
import Derived.Test.YtknpnhodpgajbaaGreatDoorC29
import Derived.Test.YtknpnhodpgajbaaGreatDoorK01
import Derived.Test.YtknpnhodpgajbaaGreatDoorC15
import Derived.Test.YtknpnhodpgajbaaGreatDoorC14
import Derived.Test.YtknpnhodpgajbaaGreatDoorC28
import Derived.Test.YtknpnhodpgajbaaGreatDoorC26
import Derived.Test.YtknpnhodpgajbaaGreatDoorCards
import Derived.Test.YtknpnhodpgajbaaGreatDoorTie
namespace Go.Proofs.YtknpnhodpgajbaaGreatDoor
open Go.RowKit
def zCon : List Value := [.int .u8 0, .string ⟨#[]⟩, .string ⟨#[]⟩, .string ⟨#[]⟩, .int .u8 0, .string ⟨#[]⟩, .string ⟨#[]⟩, .int .i64 0, .slice none 0 0, .int .i64 0, .slice none 0 0, .slice none 0 0]
structure SqI (W w2 : World) (k : ByteArray) (a : Con) (es dd ss : Value) (T B : Nat) (L : Nat → Bool) : Prop where
 t : L 3 = true → W.heap.size ≤ T ∧ BoxN w2 T 29 (a.cells es dd ss)
 s : L 5 = true → W.heap.size ≤ B ∧ (L 6 = false → BoxN w2 B 29 zCon) ∧ (L 6 = true → BoxN w2 B 29 ((scaleM k a).cells (.slice none 0 0) (.slice none 0 0) (.slice (some ⟨T, 0, none⟩) 1 1)))
 n : L 3 = true → L 5 = true → T ≠ B
section
variable {W w2 w3 : World} {k : ByteArray} {a : Con} {es dd ss : Value} {T B : Nat} {L : Nat → Bool}
theorem upd_ne {i j : Nat} (h : j ≠ i) : upd L i j = L j := if_neg h
theorem upd_eq {i : Nat} : upd L i i = true := if_pos rfl
theorem SqI.start : SqI W w2 k a es dd ss T B (fun _ => false) := ⟨fun h => (by cases h), fun h => (by cases h), fun h => (by cases h)⟩
theorem SqI.keep (h : SqI W w2 k a es dd ss T B L) (hb : Below w2.heap.size w2 w3) (i : Nat) (h3 : 3 ≠ i) (h5 : 5 ≠ i) (h6 : 6 ≠ i) : SqI W w3 k a es dd ss T B (upd L i) := by
 refine ⟨fun e => ?_, fun e => ?_, fun e1 e2 => ?_⟩
 ·rw [upd_ne h3] at e
  exact ⟨(h.t e).1, (h.t e).2.below hb (h.t e).2.lt⟩
 ·rw [upd_ne h5] at e
  rw [upd_ne h6]
  obtain ⟨h1, h2, h3⟩ := h.s e
  exact ⟨h1, fun q => (h2 q).below hb (h2 q).lt, fun q => (h3 q).below hb (h3 q).lt⟩
 ·rw [upd_ne h3] at e1
  rw [upd_ne h5] at e2
  exact h.n e1 e2
theorem SqI.at3 (h : SqI W w2 k a es dd ss T B L) (h6 : L 6 = false) (hW : W.heap.size ≤ w2.heap.size) : SqI W (w2.alloc (.cells (a.cells es dd ss).toArray 29)) k a es dd ss w2.heap.size B (upd L 3) := by
 refine ⟨fun _ => ⟨hW, BoxN.new w2 _ _⟩, fun e => ?_, fun _ e => ?_⟩
 ·rw [upd_ne (by decide)] at e
  rw [upd_ne (by decide)]
  exact ⟨(h.s e).1, fun q => ((h.s e).2.1 q).alloc _, fun q => by rw [h6] at q; cases q⟩
 ·rw [upd_ne (by decide)] at e
  have := ((h.s e).2.1 h6).lt
  omega
theorem SqI.at5 (h : SqI W w2 k a es dd ss T B L) (h6 : L 6 = false) (hW : W.heap.size ≤ w2.heap.size) : SqI W (w2.alloc (.cells zCon.toArray 29)) k a es dd ss T w2.heap.size (upd L 5) := by
 refine ⟨fun e => ?_, fun _ => ⟨hW, fun _ => BoxN.new w2 _ _, fun q => ?_⟩, fun e _ => ?_⟩
 ·rw [upd_ne (by decide)] at e
  exact ⟨(h.t e).1, (h.t e).2.alloc _⟩
 ·rw [upd_ne (by decide), h6] at q; cases q
 ·rw [upd_ne (by decide)] at e
  have := (h.t e).2.lt
  omega
theorem SqI.at6 (h : SqI W w2 k a es dd ss T B L) (h3 : L 3 = true) (h5 : L 5 = true) (h6 : L 6 = false) : SqI W ((((((((((((w2.setCell ⟨B, 0, none⟩ (.int .u8 4)).setCell ⟨B, 1, none⟩ (.string ⟨#[]⟩)).setCell ⟨B, 2, none⟩ (.string ⟨#[]⟩)).setCell ⟨B, 3, none⟩ (.string ⟨#[]⟩)).setCell ⟨B, 4, none⟩ (.int .u8 1)).setCell ⟨B, 5, none⟩ (.string k)).setCell ⟨B, 6, none⟩ (.string ⟨#[]⟩)).setCell ⟨B, 7, none⟩ (.int .i64 0)).setCell ⟨B, 8, none⟩ (.slice none 0 0)).setCell ⟨B, 9, none⟩ (.int .i64 0)).setCell ⟨B, 10, none⟩ (.slice none 0 0)).setCell ⟨B, 11, none⟩ (.slice (some ⟨T, 0, none⟩) 1 1)) k a es dd ss T B (upd L 6) := by
 obtain ⟨h1, h2, _⟩ := h.s h5
 have hn := h.n h3 h5
 refine ⟨fun _ => ⟨(h.t h3).1, ?_⟩, fun _ => ⟨h1, fun q => ?_, fun _ => ?_⟩, fun _ _ => hn⟩
 ·repeat refine BoxN.far ?_ (show T ≠ B from hn) _
  exact (h.t h3).2
 ·rw [upd_eq] at q; cases q
 ·exact ((((((((((((h2 h6).set 0 _).set 1 _).set 2 _).set 3 _).set 4 _).set 5 _).set 6 _).set 7 _).set 8 _).set 9 _).set 10 _).set 11 _
theorem SqI.below6 (h : SqI W w2 k a es dd ss T B L) (h5 : L 5 = true) {B0 : Nat} {W0 : World} (hb : Below B0 W0 w2) (hB : B0 ≤ W.heap.size) : Below B0 W0 ((((((((((((w2.setCell ⟨B, 0, none⟩ (.int .u8 4)).setCell ⟨B, 1, none⟩ (.string ⟨#[]⟩)).setCell ⟨B, 2, none⟩ (.string ⟨#[]⟩)).setCell ⟨B, 3, none⟩ (.string ⟨#[]⟩)).setCell ⟨B, 4, none⟩ (.int .u8 1)).setCell ⟨B, 5, none⟩ (.string k)).setCell ⟨B, 6, none⟩ (.string ⟨#[]⟩)).setCell ⟨B, 7, none⟩ (.int .i64 0)).setCell ⟨B, 8, none⟩ (.slice none 0 0)).setCell ⟨B, 9, none⟩ (.int .i64 0)).setCell ⟨B, 10, none⟩ (.slice none 0 0)).setCell ⟨B, 11, none⟩ (.slice (some ⟨T, 0, none⟩) 1 1)) := by
 have hB2 : B0 ≤ B := by have := (h.s h5).1; omega
 repeat refine Below.setCell ?_ (show B0 ≤ B from hB2) _
 exact hb
theorem SqI.rd (h : SqI W w2 k a es dd ss T B L) (hall : ∀ j, j < 7 → L j = true) (hr : RdN w2 a es dd ss) : RdN w2 (scaleM k a) (.slice none 0 0) (.slice none 0 0) (.slice (some ⟨T, 0, none⟩) 1 1) ∧ BoxN w2 B 29 ((scaleM k a).cells (.slice none 0 0) (.slice none 0 0) (.slice (some ⟨T, 0, none⟩) 1 1)) :=
 ⟨⟨rdE_nil _, rdI_nil _, rdC_one (es := es) (dd := dd) (ss := ss) (fun i u q => (h.t (hall 3 (by decide))).2.cell q) hr, by show 4 < 256; decide, by show 1 < 256; decide⟩, (h.s (hall 5 (by decide))).2.2 (hall 6 (by decide))⟩
end
theorem sgnZ_ne {x : Int} (h : x ≠ 0) : sgnZ x 0 ≠ 0 := by
 unfold sgnZ
 by_cases h1 : x < 0
 ·rw [if_pos h1]; decide
 ·rw [if_neg h1, if_neg h]; decide
theorem sgnZ_lt {x : Int} : sgnZ x 0 < 0 ↔ x < 0 := by
 unfold sgnZ
 by_cases h1 : x < 0
 ·rw [if_pos h1]; exact ⟨fun _ => h1, fun _ => by decide⟩
 ·rw [if_neg h1]
  by_cases h2 : x = 0
  ·rw [if_pos h2]; exact ⟨fun q => absurd q (by decide), fun q => absurd q h1⟩
  ·rw [if_neg h2]; exact ⟨fun q => absurd q (by decide), fun q => absurd q h1⟩
theorem flow_set {B0 B : Nat} {W0 w : World} {v0 v1 v2 v3 v4 : Value} (h : BoxN w B 52 [v0, v1, v2, v3, v4]) (hB : B0 ≤ B) (hb : Below B0 W0 w) (v : Value) : ∃ W, w.setCell ⟨B, 4, none⟩ v = W ∧ Below B0 W0 W ∧ BoxN W B 52 [v0, v1, v2, v3, v] :=
 ⟨_, rfl, hb.setCell (p := ⟨B, 4, none⟩) hB _, h.set 4 v⟩
theorem flow_turn {B0 B : Nat} {W0 w : World} {v0 v1 v2 v3 v4 : Value} (h : BoxN w B 52 [v0, v1, v2, v3, v4]) (hB : B0 ≤ B) (hb : Below B0 W0 w) (v : Value) : ∃ W, ((w.setCell ⟨B, 1, none⟩ v2).setCell ⟨B, 2, none⟩ v1).setCell ⟨B, 4, none⟩ v = W ∧ Below B0 W0 W ∧ BoxN W B 52 [v0, v2, v1, v3, v] :=
 ⟨_, rfl, ((hb.setCell (p := ⟨B, 1, none⟩) hB _).setCell (p := ⟨B, 2, none⟩) hB _).setCell (p := ⟨B, 4, none⟩) hB _, ((h.set 1 v2).set 2 v1).set 4 v⟩
theorem befR_sm (c : Con) (day fin : Int) (F : List Fx) (C : List Ch) : ∀ f ∈ (befR c day fin F C).2, f.am.size ≤ 1000000 := by
 by_cases hc : c.err = 0
 ·rw [befR_ok hc]
  by_cases he : envErr F C = 0
  ·rw [if_neg fun q => q he]
   split
   ·intro f hf; cases hf
   ·unfold andR
    split
    ·intro f hf; cases hf
    ·intro f hf
     have h1 := (srtFl_mem f _).1 hf
     have h2 := (flows_posA (env_rat he) c.bulk c (Nat.le_refl _) (err_formed hc).2 day fin f h1).1
     exact Nat.le_trans (rat_size h2).1 (by decide)
  ·rw [if_pos he]; intro f hf; cases hf
 ·unfold befR; rw [if_pos hc]; intro f hf; cases hf
theorem scale_bulk (k : ByteArray) (a : Con) : (scaleM k a).bulk ≤ a.bulk + k.size + 100 := by
 rw [Con.bulk_eq]
 show 0 + 0 + 0 + (conM k).bulk + 0 + 8 + Con.bulks [a] ≤ _
 have e1 : (conM k).bulk ≤ k.size + 20 := by
  rw [Ex.bulk_eq]
  show k.size + 0 + _ + Ex.bulks [] ≤ _
  rw [Ex.bulks]; omega
 have e2 : Con.bulks [a] = a.bulk + 0 := by rw [Con.bulks, Con.bulks]
 omega
end Go.Proofs.YtknpnhodpgajbaaGreatDoor

namespace Go.Proofs.YtknpnhodpgajbaaGreatDoor
open Go.RowKit
set_option maxHeartbeats 8000000 in
set_option maxRecDepth 100000 in
theorem scale10_any (a : Con) (es dd ss : Value) (k : ByteArray) (day fin : Int) (E : EvD) (w : World) (hA : BfH a es dd ss E w) (hak : a.bulk + k.size ≤ 1048576) :
  Calls Tryz.prog 5 #[a.val es dd ss, .string k, .int .i64 day, .int .i64 fin, E.val] w fun e w' => e = .returned (.bool true) ∧ Below w.heap.size w w' := by
 obtain ⟨p1, pn1, rfl⟩ := hA.rd.1.len
 obtain ⟨p2, pn2, rfl⟩ := hA.rd.2.1.len
 obtain ⟨p3, pn3, rfl⟩ := hA.rd.2.2.1.len
 obtain ⟨W0, hW0, hb0, hz0, bx⟩ := bxp_world w a (.slice p1 a.ex.sub.length pn1) (.slice p2 a.ds.length pn2) (.slice p3 a.sub.length pn3) E
 have HA := Lib.hid hA
 have HX := Lib.hid bx
 have Hb0 := Lib.hid hb0
 have hba : a.bulk ≤ 1048576 := by omega
 have hsb : (scaleM k a).bulk ≤ 1100000 := by have := scale_bulk k a; omega
 have HG1 : Hid (∀ W, Below w.heap.size w W → Calls Tryz.prog 9 #[.agg #[.int .u8 a.k, .string a.fr, .string a.rc, .string a.nm, .int .u8 a.ex.k, .string a.ex.ra, .string a.ex.nm, .int .i64 a.ex.d, .slice p1 a.ex.sub.length pn1, .int .i64 a.d, .slice p2 a.ds.length pn2, .slice p3 a.sub.length pn3], .agg #[.slice E.af E.F.length E.cf, .slice E.ac E.C.length E.cc]] W (BoolPost W)) := Lib.hid fun W hb => great10_any a _ _ _ E W (by omega) (hA.frame hb).rd (hA.frame hb).e hA.fs hA.cs
 have HAl : Hid (∀ W, Below w.heap.size w W → Calls Tryz.prog 19 #[] W fun e w' => e = .returned (.bool true) ∧ Below W.heap.size W w') := Lib.hid fun W hb => alive10_any W ⟨(hA.frame hb).ls, (hA.frame hb).lp, (hA.frame hb).lo⟩
 have HB1 : Hid (∀ W, Below w.heap.size w W → ∀ R, R = befR a day fin E.F E.C → Calls Tryz.prog 14 #[.agg #[.int .u8 a.k, .string a.fr, .string a.rc, .string a.nm, .int .u8 a.ex.k, .string a.ex.ra, .string a.ex.nm, .int .i64 a.ex.d, .slice p1 a.ex.sub.length pn1, .int .i64 a.d, .slice p2 a.ds.length pn2, .slice p3 a.sub.length pn3], .int .i64 day, .int .i64 fin, .agg #[.slice E.af E.F.length E.cf, .slice E.ac E.C.length E.cc]] W (BfP W R)) := Lib.hid fun W hb R hR => by rw [hR]; exact before_any a _ _ _ day fin E W (hA.frame hb)
 have HRc : Hid (∀ W v, ratErr k = v → Calls Tryz.prog 21 #[.string k] W fun e w' => e = .returned (.int .i64 v) ∧ Below W.heap.size W w') := Lib.hid fun W v hv => by rw [← hv]; exact rat_any k W (by omega)
 have hks : k.size ≤ 1048576 := by omega
 clear hA bx hb0 hak
 show Calls _ _ #[.agg #[.int .u8 a.k, .string a.fr, .string a.rc, .string a.nm, .int .u8 a.ex.k, .string a.ex.ra, .string a.ex.nm, .int .i64 a.ex.d, .slice p1 a.ex.sub.length pn1, .int .i64 a.d, .slice p2 a.ds.length pn2, .slice p3 a.sub.length pn3], .string k, .int .i64 day, .int .i64 fin, .agg #[.slice E.af E.F.length E.cf, .slice E.ac E.C.length E.cc]] _ _
 change (w.alloc (.cells #[.int .u8 a.k, .string a.fr, .string a.rc, .string a.nm, .int .u8 a.ex.k, .string a.ex.ra, .string a.ex.nm, .int .i64 a.ex.d, .slice p1 a.ex.sub.length pn1, .int .i64 a.d, .slice p2 a.ds.length pn2, .slice p3 a.sub.length pn3] 29)).alloc (.cells #[.slice E.af E.F.length E.cf, .slice E.ac E.C.length E.cc] 33) = W0 at hW0
 go_enter Tryz.func5, Tryz.ntmps5
 go_upto_region 1 with (fail)
 clear hW0
 go_wp2_with (go_at_call 19; refine (HAl.out _ Hb0.out).mono ?_; rintro e w1 ⟨rfl, hb1⟩; have hB1 := HX.out.below hb1; have hb01 := Hb0.out.trans (hb1.mono Hb0.out.size); have k0 : w1.cell? ⟨w.heap.size, 0, none⟩ = some (.int .u8 a.k) := hB1.a.cell (j := 0) rfl; have k1 : w1.cell? ⟨w.heap.size, 1, none⟩ = some (.string a.fr) := hB1.a.cell (j := 1) rfl; have k2 : w1.cell? ⟨w.heap.size, 2, none⟩ = some (.string a.rc) := hB1.a.cell (j := 2) rfl; have k3 : w1.cell? ⟨w.heap.size, 3, none⟩ = some (.string a.nm) := hB1.a.cell (j := 3) rfl; have k4 : w1.cell? ⟨w.heap.size, 4, none⟩ = some (.int .u8 a.ex.k) := hB1.a.cell (j := 4) rfl; have k5 : w1.cell? ⟨w.heap.size, 5, none⟩ = some (.string a.ex.ra) := hB1.a.cell (j := 5) rfl; have k6 : w1.cell? ⟨w.heap.size, 6, none⟩ = some (.string a.ex.nm) := hB1.a.cell (j := 6) rfl; have k7 : w1.cell? ⟨w.heap.size, 7, none⟩ = some (.int .i64 a.ex.d) := hB1.a.cell (j := 7) rfl; have k8 : w1.cell? ⟨w.heap.size, 8, none⟩ = some (.slice p1 a.ex.sub.length pn1) := hB1.a.cell (j := 8) rfl; have k9 : w1.cell? ⟨w.heap.size, 9, none⟩ = some (.int .i64 a.d) := hB1.a.cell (j := 9) rfl; have k10 : w1.cell? ⟨w.heap.size, 10, none⟩ = some (.slice p2 a.ds.length pn2) := hB1.a.cell (j := 10) rfl; have k11 : w1.cell? ⟨w.heap.size, 11, none⟩ = some (.slice p3 a.sub.length pn3) := hB1.a.cell (j := 11) rfl; have kv0 : w1.cell? ⟨w.heap.size + 1, 0, none⟩ = some (.slice E.af E.F.length E.cf) := hB1.v.cell (j := 0) rfl; have kv1 : w1.cell? ⟨w.heap.size + 1, 1, none⟩ = some (.slice E.ac E.C.length E.cc) := hB1.v.cell (j := 1) rfl)
 refine (HG1.out _ hb01).mono ?_
 rintro e w2 ⟨⟨g1, rfl⟩, hb2⟩
 have hb02 := hb01.trans (hb2.mono hb01.size)
 have hB2 := hB1.below hb2
 have Hb02 := Lib.hid hb02
 clear k0 k1 k2 k3 k4 k5 k6 k7 k8 k9 k10 k11 kv0 kv1 hB1 hb01 hb1 hb2
 cases g1 with
 | true =>
  clear hB2 hb02
  go_wp2
  go_ret
  exact ⟨rfl, Hb02.out⟩
 | false =>
  by_cases q1 : (60 : Int) < (k.size : Int)
  ·have t1 : decide ((60 : Int) < (k.size : Int)) = true := decide_eq_true q1
   clear hB2 hb02
   go_wp2
   go_ret
   exact ⟨rfl, Hb02.out⟩
  have t1 : decide ((60 : Int) < (k.size : Int)) = false := decide_eq_false q1
  obtain ⟨rk, hrk⟩ : ∃ v, ratErr k = v := ⟨_, rfl⟩
  have HRk := Lib.hid hrk
  have HRk2 := Lib.hid (HRc.out w2 rk hrk)
  go_wp2_with fail
  refine HRk2.out.mono ?_
  rintro e w3 ⟨rfl, hb3⟩
  have hb03 := hb02.trans (hb3.mono hb02.size)
  have hB3 := hB2.below hb3
  have Hb03 := Lib.hid hb03
  clear HRk2 HRc t1 hrk
  by_cases c1 : rk = 0
  case neg =>
   have t1 : (rk != 0) = true := by rw [bne_iff_ne]; exact c1
   clear hb02 hb3 hB2 hB3 hb03
   go_wp2
   go_ret
   exact ⟨rfl, Hb03.out⟩
  subst c1
  have HB3 := Lib.hid hB3
  have HC := Lib.hid (fun W => con10_any k W)
  clear hb02 hb3 hB2 hb03 hB3 Hb02
  have Hb03 : Hid (Below w.heap.size w w3) := Hb03
  go_wp2_with fail
  generalize (Value.agg #[.int .u8 a.k, .string a.fr, .string a.rc, .string a.nm, .int .u8 a.ex.k, .string a.ex.ra, .string a.ex.nm, .int .i64 a.ex.d, .slice p1 a.ex.sub.length pn1, .int .i64 a.d, .slice p2 a.ds.length pn2, .slice p3 a.sub.length pn3]) = vA
  generalize (Value.agg #[.slice E.af E.F.length E.cf, .slice E.ac E.C.length E.cc]) = vE
  refine wp_region_invc (fun L aa w' => ∃ v0 v1 v2 v3 v4 v5 T B, aa = ⟨#[vA, .string k, .int .i64 day, .int .i64 fin, vE, .pointer (some ⟨w.heap.size, 0, none⟩), undef, undef, undef, .pointer (some ⟨w.heap.size + 1, 0, none⟩), .bool false, .bool true, v5, undef, undef, undef, undef, undef, undef, undef, undef, undef, undef, .bool true, vA, vE, .bool false, .bool false, .string k, .int .i64 k.size, .bool false, .bool false, .bool false, .string k, .int .i64 0, .bool false, .bool false, .bool false, .bool true, .bool false, .bool false, undef, v0, v1, v2, v3, v4, undef, undef, undef, undef, undef, undef, undef, undef, undef, undef, undef, undef, undef, undef, undef, undef, undef, undef, undef, undef, undef, undef, undef, undef, undef, undef, undef, undef, undef, undef, undef, undef, undef, undef, undef, undef, undef, undef, undef, undef, undef, undef, undef, undef, undef, undef, undef, undef, undef, undef, undef, undef, undef, undef, undef, undef, undef, undef, undef, undef, undef, undef, undef, undef, undef, undef, undef, undef, undef, undef, undef, undef, undef, undef, undef, undef, undef, undef, undef, undef, undef, undef, undef, undef, undef, undef, undef, undef, undef, undef, undef, undef, undef, undef, undef, undef, undef, undef, undef, undef, undef, undef, undef, undef, undef, undef, undef, undef, undef, undef, undef, undef, undef, undef, undef, undef], []⟩ ∧ VInv w3 [.string k, .agg #[.int .u8 1, .string k, .string ⟨#[]⟩, .int .i64 0, .slice none 0 0], .agg #[.int .u8 a.k, .string a.fr, .string a.rc, .string a.nm, .int .u8 a.ex.k, .string a.ex.ra, .string a.ex.nm, .int .i64 a.ex.d, .slice p1 a.ex.sub.length pn1, .int .i64 a.d, .slice p2 a.ds.length pn2, .slice p3 a.sub.length pn3], .slice (some ⟨T, 0, none⟩) 1 1, .agg #[.int .u8 4, .string ⟨#[]⟩, .string ⟨#[]⟩, .string ⟨#[]⟩, .int .u8 1, .string k, .string ⟨#[]⟩, .int .i64 0, .slice none 0 0, .int .i64 0, .slice none 0 0, .slice (some ⟨T, 0, none⟩) 1 1], .pointer (some ⟨B, 0, none⟩), .tuple #[]] [v0, v1, v2, v3, v4, v5, .tuple #[]] L w' ∧ SqI w3 w' k a (.slice p1 a.ex.sub.length pn1) (.slice p2 a.ds.length pn2) (.slice p3 a.sub.length pn3) T B L) (by kernel_rfl) (by kernel_rfl) ?_ ?_ ?_
  ·exact ⟨_, _, _, _, _, _, 0, 0, rfl, VInv.start (below_drewN (Below.refl _ _) 1) rfl, SqI.start⟩
  ·rintro L aa w' ⟨v0, v1, v2, v3, v4, v5, T, B, rfl, h, hq⟩ hc i0 o ho hL hp
   have hi9 : i0 < 7 := by simpa using (Array.getElem?_eq_some_iff.1 ho).1
   have hi2 : i0 = 0 ∨ i0 = 1 ∨ i0 = 2 ∨ i0 = 3 ∨ i0 = 4 ∨ i0 = 5 ∨ i0 = 6 := by omega
   clear hi9
   rcases hi2 with rfl | rfl | rfl | rfl | rfl | rfl | rfl
   ·refine wpOp_step rfl ?_
    intro K hK
    go_simp
    exact hK _ _ ⟨_, _, _, _, _, _, T, B, rfl, h.step (i := 0) (v := .string k) rfl, hq.keep (Below.refl _ _) 0 (by decide) (by decide) (by decide)⟩
   ·refine wpOp_step rfl ?_
    intro K hK
    obtain rfl := h.at (i := 0) (pred_spec ho hp (j := 0) (by kernel_rfl)) rfl rfl
    go_simp
    refine (HC.out w').mono ?_
    rintro e w4 ⟨rfl, hb4⟩
    exact hK _ _ ⟨_, _, _, _, _, _, T, B, rfl, (h.ext hb4).step (i := 1) (v := .agg #[.int .u8 1, .string k, .string ⟨#[]⟩, .int .i64 0, .slice none 0 0]) rfl, hq.keep hb4 1 (by decide) (by decide) (by decide)⟩
   ·refine wpOp_step rfl ?_
    intro K hK
    have hBw := HB3.out.below h.b
    have k0 : w'.cell? ⟨w.heap.size, 0, none⟩ = some (.int .u8 a.k) := hBw.a.cell (j := 0) rfl
    have k1 : w'.cell? ⟨w.heap.size, 1, none⟩ = some (.string a.fr) := hBw.a.cell (j := 1) rfl
    have k2 : w'.cell? ⟨w.heap.size, 2, none⟩ = some (.string a.rc) := hBw.a.cell (j := 2) rfl
    have k3 : w'.cell? ⟨w.heap.size, 3, none⟩ = some (.string a.nm) := hBw.a.cell (j := 3) rfl
    have k4 : w'.cell? ⟨w.heap.size, 4, none⟩ = some (.int .u8 a.ex.k) := hBw.a.cell (j := 4) rfl
    have k5 : w'.cell? ⟨w.heap.size, 5, none⟩ = some (.string a.ex.ra) := hBw.a.cell (j := 5) rfl
    have k6 : w'.cell? ⟨w.heap.size, 6, none⟩ = some (.string a.ex.nm) := hBw.a.cell (j := 6) rfl
    have k7 : w'.cell? ⟨w.heap.size, 7, none⟩ = some (.int .i64 a.ex.d) := hBw.a.cell (j := 7) rfl
    have k8 : w'.cell? ⟨w.heap.size, 8, none⟩ = some (.slice p1 a.ex.sub.length pn1) := hBw.a.cell (j := 8) rfl
    have k9 : w'.cell? ⟨w.heap.size, 9, none⟩ = some (.int .i64 a.d) := hBw.a.cell (j := 9) rfl
    have k10 : w'.cell? ⟨w.heap.size, 10, none⟩ = some (.slice p2 a.ds.length pn2) := hBw.a.cell (j := 10) rfl
    have k11 : w'.cell? ⟨w.heap.size, 11, none⟩ = some (.slice p3 a.sub.length pn3) := hBw.a.cell (j := 11) rfl
    go_simp
    exact hK _ _ ⟨_, _, _, _, _, _, T, B, rfl, h.step (i := 2) (v := .agg #[.int .u8 a.k, .string a.fr, .string a.rc, .string a.nm, .int .u8 a.ex.k, .string a.ex.ra, .string a.ex.nm, .int .i64 a.ex.d, .slice p1 a.ex.sub.length pn1, .int .i64 a.d, .slice p2 a.ds.length pn2, .slice p3 a.sub.length pn3]) rfl, hq.keep (Below.refl _ _) 2 (by decide) (by decide) (by decide)⟩
   ·refine wpOp_step rfl ?_
    intro K hK
    obtain rfl := h.at (i := 2) (pred_spec ho hp (j := 2) (by kernel_rfl)) rfl rfl
    go_simp
    have h4 := cl_no hc hL 4 (by kernel_rfl)
    have h6 := cl_no hc h4 6 (by kernel_rfl)
    refine hK _ _ ⟨_, _, _, _, _, _, w'.heap.size, B, rfl, VInv.step (i := 3) (v := .slice (some ⟨w'.heap.size, 0, none⟩) 1 1) (VInv.other (vals' := [.string k, .agg #[.int .u8 1, .string k, .string ⟨#[]⟩, .int .i64 0, .slice none 0 0], .agg #[.int .u8 a.k, .string a.fr, .string a.rc, .string a.nm, .int .u8 a.ex.k, .string a.ex.ra, .string a.ex.nm, .int .i64 a.ex.d, .slice p1 a.ex.sub.length pn1, .int .i64 a.d, .slice p2 a.ds.length pn2, .slice p3 a.sub.length pn3], .slice (some ⟨w'.heap.size, 0, none⟩) 1 1, .agg #[.int .u8 4, .string ⟨#[]⟩, .string ⟨#[]⟩, .string ⟨#[]⟩, .int .u8 1, .string k, .string ⟨#[]⟩, .int .i64 0, .slice none 0 0, .int .i64 0, .slice none 0 0, .slice (some ⟨w'.heap.size, 0, none⟩) 1 1], .pointer (some ⟨B, 0, none⟩), .tuple #[]]) (h.ext (below_a1 _ _)) rfl fun j v hj hv => ?_) rfl, hq.at3 h6 h.b.size⟩
    have hj9 : j < 7 := by simpa using (List.getElem?_eq_some_iff.1 hv).1
    have hj2 : j = 0 ∨ j = 1 ∨ j = 2 ∨ j = 3 ∨ j = 4 ∨ j = 5 ∨ j = 6 := by omega
    rcases hj2 with rfl | rfl | rfl | rfl | rfl | rfl | rfl
    ·exact hv
    ·exact hv
    ·exact hv
    ·rw [hL] at hj; cases hj
    ·rw [h4] at hj; cases hj
    ·exact hv
    ·exact hv
   ·refine wpOp_step rfl ?_
    intro K hK
    obtain rfl := h.at (i := 1) (pred_spec ho hp (j := 1) (by kernel_rfl)) rfl rfl
    obtain rfl := h.at (i := 3) (pred_spec ho hp (j := 3) (by kernel_rfl)) rfl rfl
    go_simp
    exact hK _ _ ⟨_, _, _, _, _, _, T, B, rfl, h.step (i := 4) (v := .agg #[.int .u8 4, .string ⟨#[]⟩, .string ⟨#[]⟩, .string ⟨#[]⟩, .int .u8 1, .string k, .string ⟨#[]⟩, .int .i64 0, .slice none 0 0, .int .i64 0, .slice none 0 0, .slice (some ⟨T, 0, none⟩) 1 1]) rfl, hq.keep (Below.refl _ _) 4 (by decide) (by decide) (by decide)⟩
   ·refine wpOp_step rfl ?_
    intro K hK
    go_simp
    have h6 := cl_no hc hL 6 (by kernel_rfl)
    refine hK _ _ ⟨_, _, _, _, _, _, T, w'.heap.size, rfl, VInv.step (i := 5) (v := .pointer (some ⟨w'.heap.size, 0, none⟩)) (VInv.other (vals' := [.string k, .agg #[.int .u8 1, .string k, .string ⟨#[]⟩, .int .i64 0, .slice none 0 0], .agg #[.int .u8 a.k, .string a.fr, .string a.rc, .string a.nm, .int .u8 a.ex.k, .string a.ex.ra, .string a.ex.nm, .int .i64 a.ex.d, .slice p1 a.ex.sub.length pn1, .int .i64 a.d, .slice p2 a.ds.length pn2, .slice p3 a.sub.length pn3], .slice (some ⟨T, 0, none⟩) 1 1, .agg #[.int .u8 4, .string ⟨#[]⟩, .string ⟨#[]⟩, .string ⟨#[]⟩, .int .u8 1, .string k, .string ⟨#[]⟩, .int .i64 0, .slice none 0 0, .int .i64 0, .slice none 0 0, .slice (some ⟨T, 0, none⟩) 1 1], .pointer (some ⟨w'.heap.size, 0, none⟩), .tuple #[]]) (h.ext (below_a1 _ _)) rfl fun j v hj hv => ?_) rfl, hq.at5 h6 h.b.size⟩
    have hj9 : j < 7 := by simpa using (List.getElem?_eq_some_iff.1 hv).1
    have hj2 : j = 0 ∨ j = 1 ∨ j = 2 ∨ j = 3 ∨ j = 4 ∨ j = 5 ∨ j = 6 := by omega
    rcases hj2 with rfl | rfl | rfl | rfl | rfl | rfl | rfl
    ·exact hv
    ·exact hv
    ·exact hv
    ·exact hv
    ·exact hv
    ·rw [hL] at hj; cases hj
    ·exact hv
   ·refine wpOp_step rfl ?_
    intro K hK
    have g4 := pred_spec ho hp (j := 4) (by kernel_rfl)
    have g5 := pred_spec ho hp (j := 5) (by kernel_rfl)
    have g3 := cl_spec hc g4 (j := 3) (by kernel_rfl)
    have hz := (hq.s g5).2.1 hL
    obtain rfl := h.at (i := 4) (pred_spec ho hp (j := 4) (by kernel_rfl)) rfl rfl
    obtain rfl := h.at (i := 5) (pred_spec ho hp (j := 5) (by kernel_rfl)) rfl rfl
    have y0 : w'.cell? ⟨B, 0, none⟩ = some (.int .u8 0) := hz.cell (j := 0) rfl
    have y1 : w'.cell? ⟨B, 1, none⟩ = some (.string ⟨#[]⟩) := hz.cell (j := 1) rfl
    have y2 : w'.cell? ⟨B, 2, none⟩ = some (.string ⟨#[]⟩) := hz.cell (j := 2) rfl
    have y3 : w'.cell? ⟨B, 3, none⟩ = some (.string ⟨#[]⟩) := hz.cell (j := 3) rfl
    have y4 : w'.cell? ⟨B, 4, none⟩ = some (.int .u8 0) := hz.cell (j := 4) rfl
    have y5 : w'.cell? ⟨B, 5, none⟩ = some (.string ⟨#[]⟩) := hz.cell (j := 5) rfl
    have y6 : w'.cell? ⟨B, 6, none⟩ = some (.string ⟨#[]⟩) := hz.cell (j := 6) rfl
    have y7 : w'.cell? ⟨B, 7, none⟩ = some (.int .i64 0) := hz.cell (j := 7) rfl
    have y8 : w'.cell? ⟨B, 8, none⟩ = some (.slice none 0 0) := hz.cell (j := 8) rfl
    have y9 : w'.cell? ⟨B, 9, none⟩ = some (.int .i64 0) := hz.cell (j := 9) rfl
    have y10 : w'.cell? ⟨B, 10, none⟩ = some (.slice none 0 0) := hz.cell (j := 10) rfl
    have y11 : w'.cell? ⟨B, 11, none⟩ = some (.slice none 0 0) := hz.cell (j := 11) rfl
    have z0 : w'.frozen? ⟨B, 0, none⟩ = false := hz.frozen 0
    have z1 : w'.frozen? ⟨B, 1, none⟩ = false := hz.frozen 1
    have z2 : w'.frozen? ⟨B, 2, none⟩ = false := hz.frozen 2
    have z3 : w'.frozen? ⟨B, 3, none⟩ = false := hz.frozen 3
    have z4 : w'.frozen? ⟨B, 4, none⟩ = false := hz.frozen 4
    have z5 : w'.frozen? ⟨B, 5, none⟩ = false := hz.frozen 5
    have z6 : w'.frozen? ⟨B, 6, none⟩ = false := hz.frozen 6
    have z7 : w'.frozen? ⟨B, 7, none⟩ = false := hz.frozen 7
    have z8 : w'.frozen? ⟨B, 8, none⟩ = false := hz.frozen 8
    have z9 : w'.frozen? ⟨B, 9, none⟩ = false := hz.frozen 9
    have z10 : w'.frozen? ⟨B, 10, none⟩ = false := hz.frozen 10
    have z11 : w'.frozen? ⟨B, 11, none⟩ = false := hz.frozen 11
    go_simp
    exact hK _ _ ⟨_, _, _, _, _, _, T, B, rfl, VInv.step (i := 6) (v := .tuple #[]) ⟨hq.below6 g5 h.b (Nat.le_refl _), h.len, h.f⟩ rfl, hq.at6 g3 g5 hL⟩
  ·rintro L aa W4 ⟨v0, v1, v2, v3, v4, v5, T, B, rfl, h, hq⟩ hall
   obtain rfl := h.at (i := 5) (hall 5 (by decide)) rfl rfl
   have hb04 := Hb03.out.trans (h.b.mono Hb03.out.size)
   obtain ⟨rs, bs⟩ := hq.rd (fun j hj => hall j hj) (HA.out.frame hb04).rd
   have hB4 := HB3.out.below h.b
   have HB4 := Lib.hid hB4
   have Hb04 := Lib.hid hb04
   have BS := Lib.hid bs
   have RS := Lib.hid rs
   clear h hq hall HC HB3 Hb03
   obtain ⟨ec, hec⟩ : ∃ e, (scaleM k a).err = e := ⟨_, rfl⟩
   have HCk : Hid (Calls Tryz.prog 20 #[.agg #[.int .u8 4, .string ⟨#[]⟩, .string ⟨#[]⟩, .string ⟨#[]⟩, .int .u8 1, .string k, .string ⟨#[]⟩, .int .i64 0, .slice none 0 0, .int .i64 0, .slice none 0 0, .slice (some ⟨T, 0, none⟩) 1 1]] W4 fun e w' => e = .returned (.int .i64 ec) ∧ Below W4.heap.size W4 w') := Lib.hid (by
    subst hec
    exact cchk_any (scaleM k a) _ _ _ W4 (by omega) rs (HA.out.frame hb04).ls (HA.out.frame hb04).lp)
   have HB2 : Hid (∀ W, Below W4.heap.size W4 W → ∀ R, R = befR (scaleM k a) day fin E.F E.C → Calls Tryz.prog 14 #[.agg #[.int .u8 4, .string ⟨#[]⟩, .string ⟨#[]⟩, .string ⟨#[]⟩, .int .u8 1, .string k, .string ⟨#[]⟩, .int .i64 0, .slice none 0 0, .int .i64 0, .slice none 0 0, .slice (some ⟨T, 0, none⟩) 1 1], .int .i64 day, .int .i64 fin, .agg #[.slice E.af E.F.length E.cf, .slice E.ac E.C.length E.cc]] W (BfP W R)) := Lib.hid fun W hb R hR => by
    have hq := HA.out.frame (hb04.trans (hb.mono hb04.size))
    rw [hR]
    exact before_any (scaleM k a) _ _ _ day fin E W ⟨hsb, RS.out.frame hb, hq.ls, hq.lp, hq.lo, hq.e, hq.fs, hq.cs⟩
   have HEC := Lib.hid hec
   clear hec rs
   have k0 : W4.cell? ⟨B, 0, none⟩ = some (.int .u8 4) := bs.cell (j := 0) rfl
   have k1 : W4.cell? ⟨B, 1, none⟩ = some (.string ⟨#[]⟩) := bs.cell (j := 1) rfl
   have k2 : W4.cell? ⟨B, 2, none⟩ = some (.string ⟨#[]⟩) := bs.cell (j := 2) rfl
   have k3 : W4.cell? ⟨B, 3, none⟩ = some (.string ⟨#[]⟩) := bs.cell (j := 3) rfl
   have k4 : W4.cell? ⟨B, 4, none⟩ = some (.int .u8 1) := bs.cell (j := 4) rfl
   have k5 : W4.cell? ⟨B, 5, none⟩ = some (.string k) := bs.cell (j := 5) rfl
   have k6 : W4.cell? ⟨B, 6, none⟩ = some (.string ⟨#[]⟩) := bs.cell (j := 6) rfl
   have k7 : W4.cell? ⟨B, 7, none⟩ = some (.int .i64 0) := bs.cell (j := 7) rfl
   have k8 : W4.cell? ⟨B, 8, none⟩ = some (.slice none 0 0) := bs.cell (j := 8) rfl
   have k9 : W4.cell? ⟨B, 9, none⟩ = some (.int .i64 0) := bs.cell (j := 9) rfl
   have k10 : W4.cell? ⟨B, 10, none⟩ = some (.slice none 0 0) := bs.cell (j := 10) rfl
   have k11 : W4.cell? ⟨B, 11, none⟩ = some (.slice (some ⟨T, 0, none⟩) 1 1) := bs.cell (j := 11) rfl
   go_wp2_with fail
   refine HCk.out.mono ?_
   rintro e w5 ⟨rfl, hb5⟩
   have hb05 := hb04.trans (hb5.mono hb04.size)
   have Hb05 := Lib.hid hb05
   clear k0 k1 k2 k3 k4 k5 k6 k7 k8 k9 k10 k11 bs HCk
   by_cases c2 : ec = 0
   case neg =>
    have t1 : (ec != 0) = true := by rw [bne_iff_ne]; exact c2
    clear hb04 hb5 hB4 hb05
    go_wp2
    go_ret
    exact ⟨rfl, Hb05.out⟩
   subst c2
   obtain ⟨RA, hRA⟩ : ∃ R, R = befR a day fin E.F E.C := ⟨_, rfl⟩
   obtain ⟨RB, hRB⟩ : ∃ R, R = befR (scaleM k a) day fin E.F E.C := ⟨_, rfl⟩
   have HL := Lib.hid (befR_scaleM k a day fin E.F E.C HEC.out HRk.out)
   rw [← hRA, ← hRB] at HL
   have HLA : Hid (RA.2.length ≤ 1100000) := Lib.hid (by rw [hRA]; exact Nat.le_trans (befR_len _ _ _ _ _) (by omega))
   have HSA : Hid (∀ f ∈ RA.2, f.am.size ≤ 1000000) := Lib.hid (by rw [hRA]; exact befR_sm a day fin E.F E.C)
   have HRA := Lib.hid hRA
   have HRB := Lib.hid hRB
   clear hRA hRB
   have hB5 := hB4.below hb5
   have k0 : w5.cell? ⟨w.heap.size, 0, none⟩ = some (.int .u8 a.k) := hB5.a.cell (j := 0) rfl
   have k1 : w5.cell? ⟨w.heap.size, 1, none⟩ = some (.string a.fr) := hB5.a.cell (j := 1) rfl
   have k2 : w5.cell? ⟨w.heap.size, 2, none⟩ = some (.string a.rc) := hB5.a.cell (j := 2) rfl
   have k3 : w5.cell? ⟨w.heap.size, 3, none⟩ = some (.string a.nm) := hB5.a.cell (j := 3) rfl
   have k4 : w5.cell? ⟨w.heap.size, 4, none⟩ = some (.int .u8 a.ex.k) := hB5.a.cell (j := 4) rfl
   have k5 : w5.cell? ⟨w.heap.size, 5, none⟩ = some (.string a.ex.ra) := hB5.a.cell (j := 5) rfl
   have k6 : w5.cell? ⟨w.heap.size, 6, none⟩ = some (.string a.ex.nm) := hB5.a.cell (j := 6) rfl
   have k7 : w5.cell? ⟨w.heap.size, 7, none⟩ = some (.int .i64 a.ex.d) := hB5.a.cell (j := 7) rfl
   have k8 : w5.cell? ⟨w.heap.size, 8, none⟩ = some (.slice p1 a.ex.sub.length pn1) := hB5.a.cell (j := 8) rfl
   have k9 : w5.cell? ⟨w.heap.size, 9, none⟩ = some (.int .i64 a.d) := hB5.a.cell (j := 9) rfl
   have k10 : w5.cell? ⟨w.heap.size, 10, none⟩ = some (.slice p2 a.ds.length pn2) := hB5.a.cell (j := 10) rfl
   have k11 : w5.cell? ⟨w.heap.size, 11, none⟩ = some (.slice p3 a.sub.length pn3) := hB5.a.cell (j := 11) rfl
   have kv0 : w5.cell? ⟨w.heap.size + 1, 0, none⟩ = some (.slice E.af E.F.length E.cf) := hB5.v.cell (j := 0) rfl
   have kv1 : w5.cell? ⟨w.heap.size + 1, 1, none⟩ = some (.slice E.ac E.C.length E.cc) := hB5.v.cell (j := 1) rfl
   go_wp2_with fail
   refine (HB1.out _ hb05 RA HRA.out).mono ?_
   rintro e w6 ⟨ad6, cap6, rfl, hb6, l6, n6, r6⟩
   have hb06 := hb05.trans (hb6.mono hb05.size)
   have hb46 := hb5.trans (hb6.mono hb5.size)
   have hB6 := hB5.below hb6
   have bs6 := BS.out.below hb46 BS.out.lt
   clear k0 k1 k2 k3 k4 k5 k6 k7 k8 k9 k10 k11 kv0 kv1
   have k0 : w6.cell? ⟨B, 0, none⟩ = some (.int .u8 4) := bs6.cell (j := 0) rfl
   have k1 : w6.cell? ⟨B, 1, none⟩ = some (.string ⟨#[]⟩) := bs6.cell (j := 1) rfl
   have k2 : w6.cell? ⟨B, 2, none⟩ = some (.string ⟨#[]⟩) := bs6.cell (j := 2) rfl
   have k3 : w6.cell? ⟨B, 3, none⟩ = some (.string ⟨#[]⟩) := bs6.cell (j := 3) rfl
   have k4 : w6.cell? ⟨B, 4, none⟩ = some (.int .u8 1) := bs6.cell (j := 4) rfl
   have k5 : w6.cell? ⟨B, 5, none⟩ = some (.string k) := bs6.cell (j := 5) rfl
   have k6 : w6.cell? ⟨B, 6, none⟩ = some (.string ⟨#[]⟩) := bs6.cell (j := 6) rfl
   have k7 : w6.cell? ⟨B, 7, none⟩ = some (.int .i64 0) := bs6.cell (j := 7) rfl
   have k8 : w6.cell? ⟨B, 8, none⟩ = some (.slice none 0 0) := bs6.cell (j := 8) rfl
   have k9 : w6.cell? ⟨B, 9, none⟩ = some (.int .i64 0) := bs6.cell (j := 9) rfl
   have k10 : w6.cell? ⟨B, 10, none⟩ = some (.slice none 0 0) := bs6.cell (j := 10) rfl
   have k11 : w6.cell? ⟨B, 11, none⟩ = some (.slice (some ⟨T, 0, none⟩) 1 1) := bs6.cell (j := 11) rfl
   have kv0 : w6.cell? ⟨w.heap.size + 1, 0, none⟩ = some (.slice E.af E.F.length E.cf) := hB6.v.cell (j := 0) rfl
   have kv1 : w6.cell? ⟨w.heap.size + 1, 1, none⟩ = some (.slice E.ac E.C.length E.cc) := hB6.v.cell (j := 1) rfl
   go_wp2_with fail
   refine (HB2.out _ hb46 RB HRB.out).mono ?_
   rintro e w7 ⟨ad7, cap7, rfl, hb7, l7, n7, r7⟩
   have hb07 := hb06.trans (hb7.mono hb06.size)
   have RA7 := Lib.hid (r6.below hb7)
   have RB7 := Lib.hid r7
   have Hb07 := Lib.hid hb07
   clear k0 k1 k2 k3 k4 k5 k6 k7 k8 k9 k10 k11 kv0 kv1
   clear hb5 hb6 hb7 hb04 hb05 hb06 hb46 hb07 hB4 hB5 hB6 bs6 r6 r7 HB1 HB2 HB4 BS RS HRA HRB HA HX HG1 HAl Hb0 Hb04 Hb05 HEC n6 n7 l6 l7
   obtain ⟨ea, LA⟩ := RA
   obtain ⟨eb, LB⟩ := RB
   by_cases he : ea = 0
   case neg =>
    have hU := HL.out.1 he
    obtain ⟨rfl, rfl⟩ : eb = ea ∧ LB = [] := by simpa using hU
    have t1 : (eb != 0) = true := by rw [bne_iff_ne]; exact he
    clear hU HL
    go_wp2
    go_ret
    exact ⟨rfl, Hb07.out⟩
   subst he
   by_cases hf : eb = 0
   case neg =>
    have hU := (HL.out.2.1 rfl).resolve_left hf
    obtain ⟨rfl, rfl⟩ : eb = 14 ∧ LB = [] := by simpa using hU
    clear hU HL
    go_wp2
    go_ret
    exact ⟨rfl, Hb07.out⟩
   subst hf
   obtain ⟨hl1, hl2, hl3⟩ := HL.out.2.2 rfl rfl
   obtain ⟨z1, z2⟩ := cmp_zero HRk.out
   have HCm : Hid (Calls Tryz.prog 23 #[.string k, .string ⟨#[48]⟩] w7 fun e w' => e = .returned (.tuple #[.int .i64 (sgnZ (kS k) 0), .int .i64 0]) ∧ Below w7.heap.size w7 w') := Lib.hid (by
    have := ratcmp_any k m0T w7 (by omega) (by decide)
    rw [z1, z2] at this
    exact this)
   have HL1 := Lib.hid hl1
   have HL2 := Lib.hid hl2
   have HL3 := Lib.hid hl3
   clear hl1 hl2 hl3 HL z1 z2
   go_wp2_with fail
   refine HCm.out.mono ?_
   rintro e w8 ⟨rfl, hb8⟩
   have Hb08 := Lib.hid (Hb07.out.trans (hb8.mono Hb07.out.size))
   have RA8 := Lib.hid (RA7.out.below hb8)
   have RB8 := Lib.hid (RB7.out.below hb8)
   clear HCm RA7 RB7 hb8 Hb07
   by_cases hz : kS k = 0
   case pos =>
    have hU := HL2.out hz
    change LB = [] at hU
    subst hU
    have t1 : sgnZ (kS k) 0 = 0 := by rw [hz]; rfl
    rw [t1]
    clear HL1 HL2 HL3
    go_wp2
    go_ret
    exact ⟨rfl, Hb08.out⟩
   have hU := HL3.out hz
   change LB = LA.map (mf k) at hU
   have hlb : LB.length = LA.length := by rw [hU, List.length_map]
   obtain ⟨sg, hsg⟩ : ∃ s, sgnZ (kS k) 0 = s := ⟨_, rfl⟩
   have hs0 : (sg == 0) = false := by rw [beq_eq_false_iff_ne, ← hsg]; exact sgnZ_ne hz
   have hsN : sg < 0 ↔ kS k < 0 := by rw [← hsg]; exact sgnZ_lt
   rw [hsg]
   have HU := Lib.hid hU
   have HsN := Lib.hid hsN
   clear hU hsN hsg HL2 HL3
   have RA8 : Hid (Rd Fl.cells 5 w8 ad6 LA) := RA8
   have RB8 : Hid (Rd Fl.cells 5 w8 ad7 LB) := RB8
   have hla := HLA.out
   have hla : LA.length ≤ 1100000 := hla
   have e2 : ((LB.length : Int) != (LA.length : Int)) = false := by rw [hlb]; simp
   have HSA2 : Hid (∀ f ∈ LA, f.am.size ≤ 1000000) := HSA
   go_wp2_with fail
   clear e2 HSA
   have HSA := HSA2
   go_loopw [19] (fun iv wr => ∃ (i : Nat), iv = .int .i64 (i : Int) ∧ i ≤ LA.length ∧ Hid (Below w8.heap.size w8 wr)) (fun iv _ => LA.length - (intOf iv).toNat)
   case atStart => exact ⟨0, rfl, Nat.zero_le _, Lib.hid (Below.refl _ _)⟩
   case round =>
    obtain ⟨i, rfl, hi, HW⟩ := hrel
    have h0 : (0 : Int) ≤ (i : Int) := by omega
    by_cases hlt : i < LA.length
    ·have h1 : (i : Int) < (LA.length : Int) := by omega
     have h2 : (i : Int) < (LB.length : Int) := by rw [hlb]; exact h1
     obtain ⟨f, hf⟩ : ∃ f, LA[i]? = some f := ⟨_, List.getElem?_eq_getElem hlt⟩
     have hg : LB[i]? = some (mf k f) := by rw [HU.out, List.getElem?_map, hf]; rfl
     have hfm := List.mem_of_getElem? hf
     obtain ⟨hmE, hpA⟩ := HL1.out f hfm
     obtain ⟨_, hsg2, hlen⟩ := mulS_sign hpA hmE
     have hsz := HSA.out f hfm
     obtain ⟨b1, o1, hadf, c0, c1, c2, c3, c4⟩ := (RA8.out.below HW.out).fl hf
     cases hadf
     have hx1 : BoxN (wr.alloc (.cells #[.int .i64 f.d, .string f.fr, .string f.rc, .string f.cy, .string f.am] 52)) wr.heap.size 52 [.int .i64 f.d, .string f.fr, .string f.rc, .string f.cy, .string f.am] := BoxN.new wr [.int .i64 f.d, .string f.fr, .string f.rc, .string f.cy, .string f.am] 52
     have hb1 : Below wr.heap.size wr (wr.alloc (.cells #[.int .i64 f.d, .string f.fr, .string f.rc, .string f.cy, .string f.am] 52)) := below_a1 _ _
     obtain ⟨W1, hW1⟩ : ∃ W, wr.alloc (.cells #[.int .i64 f.d, .string f.fr, .string f.rc, .string f.cy, .string f.am] 52) = W := ⟨_, rfl⟩
     rw [hW1] at hx1 hb1
     have hwz : w8.heap.size ≤ wr.heap.size := HW.out.size
     have h81 := HW.out.trans (hb1.mono hwz)
     obtain ⟨X, hX⟩ : ∃ X, mulS f.am k = X := ⟨_, rfl⟩
     have HM : Hid (Calls Tryz.prog 24 #[.string f.am, .string k] W1 fun e w' => e = .returned (.tuple #[.string (mkB X), .int .i64 0]) ∧ Below W1.heap.size W1 w') := Lib.hid (by
      refine (ratmul_any f.am k W1 hsz (by omega)).mono fun e w' h => ?_
      have := h.val
      rw [hX, hmE] at this
      exact this)
     rw [hX] at hsg2 hlen
     have HG := Lib.hid hg
     have HF := Lib.hid hf
     clear hg hfm hpA hmE hsz
     go_upto_region 22 with (fail)
     clear hW1 c0 c1 c2 c3 c4
     obtain ⟨b2, o2, hadf, c0, c1, c2, c3, c4⟩ := (RA8.out.below h81).fl hf
     cases hadf
     generalize hBq : wr.heap.size = Bq at *
     clear c0 c1 c2 c3 hf hb1
     go_wp2_with fail
     refine HM.out.mono ?_
     rintro e w9 ⟨rfl, hb9⟩
     have h89 := h81.trans (hb9.mono h81.size)
     have hx9 := hx1.below hb9 hx1.lt
     clear c4 HM hb9 hx1 h81
     have hxne : ((mkB X).toList == []) = false := by rw [toList_bl, bl_mkB]; cases X with | nil => exact absurd hlen (by decide) | cons _ _ => rfl
     have HXe := Lib.hid hX
     clear hX
     generalize hxs : mkB X = xs at hxne ⊢
     have hxl : (1 : Int) ≤ (xs.size : Int) := by rw [← hxs, mkB_size]; omega
     by_cases hneg : kS k < 0
     ·have t2 : decide (sg < 0) = true := decide_eq_true (HsN.out.2 hneg)
      have y0 : w9.cell? ⟨Bq, 0, none⟩ = some (.int .i64 f.d) := hx9.cell (j := 0) rfl
      have y1 : w9.cell? ⟨Bq, 1, none⟩ = some (.string f.fr) := hx9.cell (j := 1) rfl
      have y2 : w9.cell? ⟨Bq, 2, none⟩ = some (.string f.rc) := hx9.cell (j := 2) rfl
      have y3 : w9.cell? ⟨Bq, 3, none⟩ = some (.string f.cy) := hx9.cell (j := 3) rfl
      have y4 : w9.cell? ⟨Bq, 4, none⟩ = some (.string f.am) := hx9.cell (j := 4) rfl
      have z0 : w9.frozen? ⟨Bq, 0, none⟩ = false := hx9.frozen 0
      have z1 : w9.frozen? ⟨Bq, 1, none⟩ = false := hx9.frozen 1
      have z2 : w9.frozen? ⟨Bq, 2, none⟩ = false := hx9.frozen 2
      have z3 : w9.frozen? ⟨Bq, 3, none⟩ = false := hx9.frozen 3
      have z4 : w9.frozen? ⟨Bq, 4, none⟩ = false := hx9.frozen 4
      go_upto_region 28 with (fail)
      obtain ⟨W10, hW10, hb10, hx10⟩ := flow_turn hx9 hwz h89 (.string (xs.extract 1 xs.size))
      go_upto_region 29 with (fail)
      clear hW10 y0 y1 y2 y3 y4 z0 z1 z2 z3 z4 hx9 h89
      have hYe : mkB (X.drop 1) = xs.extract 1 xs.size := by
       rw [← hxs]
       apply bl_inj
       rw [bl_mkB, bl_extract, bl_mkB, mkB_size, List.take_of_length_le (by rw [List.length_drop]; omega)]
      generalize xs.extract 1 xs.size = Y at *
      have hGe : mf k f = ⟨f.d, f.rc, f.fr, f.cy, Y⟩ := by rw [mf, if_pos hneg, HXe.out, hYe]
      have hg := HG.out
      rw [hGe] at hg
      obtain ⟨b3, o3, hadg, g0, g1, g2, g3, g4⟩ := (RB8.out.below hb10).fl hg
      dsimp only at g0 g1 g2 g3 g4
      cases hadg
      have m0 : W10.cell? ⟨Bq, 0, none⟩ = some (.int .i64 f.d) := hx10.cell (j := 0) rfl
      have m1 : W10.cell? ⟨Bq, 1, none⟩ = some (.string f.rc) := hx10.cell (j := 1) rfl
      have m2 : W10.cell? ⟨Bq, 2, none⟩ = some (.string f.fr) := hx10.cell (j := 2) rfl
      have m3 : W10.cell? ⟨Bq, 3, none⟩ = some (.string f.cy) := hx10.cell (j := 3) rfl
      have m4 : W10.cell? ⟨Bq, 4, none⟩ = some (.string Y) := hx10.cell (j := 4) rfl
      have hq : ∀ W, (Op.equalIn 10000 52 (.agg #[.int .i64 f.d, .string f.rc, .string f.fr, .string f.cy, .string Y]) (.agg #[.int .i64 f.d, .string f.rc, .string f.fr, .string f.cy, .string Y])).run Tryz.prog W = .ok true W := fun W => eqv_fl ⟨f.d, f.rc, f.fr, f.cy, Y⟩ W
      have HW10 := Lib.hid hb10
      clear hg hGe hx10 hb10 hneg t2 hwz HW
      go_wp2_with fail
      go_quiet (fail)
      go_wp2
      go_roundw
      case rel => exact ⟨i + 1, by go_num, by omega, Lib.hid (below_drewN HW10.out _)⟩
      case measure => simp [intOf]; omega
     ·have t2 : decide (sg < 0) = false := decide_eq_false fun q => hneg (HsN.out.1 q)
      have y0 : w9.cell? ⟨Bq, 0, none⟩ = some (.int .i64 f.d) := hx9.cell (j := 0) rfl
      have y1 : w9.cell? ⟨Bq, 1, none⟩ = some (.string f.fr) := hx9.cell (j := 1) rfl
      have y2 : w9.cell? ⟨Bq, 2, none⟩ = some (.string f.rc) := hx9.cell (j := 2) rfl
      have y3 : w9.cell? ⟨Bq, 3, none⟩ = some (.string f.cy) := hx9.cell (j := 3) rfl
      have y4 : w9.cell? ⟨Bq, 4, none⟩ = some (.string f.am) := hx9.cell (j := 4) rfl
      have z0 : w9.frozen? ⟨Bq, 0, none⟩ = false := hx9.frozen 0
      have z1 : w9.frozen? ⟨Bq, 1, none⟩ = false := hx9.frozen 1
      have z2 : w9.frozen? ⟨Bq, 2, none⟩ = false := hx9.frozen 2
      have z3 : w9.frozen? ⟨Bq, 3, none⟩ = false := hx9.frozen 3
      have z4 : w9.frozen? ⟨Bq, 4, none⟩ = false := hx9.frozen 4
      go_upto_region 28 with (fail)
      obtain ⟨W10, hW10, hb10, hx10⟩ := flow_set hx9 hwz h89 (.string (xs))
      go_upto_region 29 with (fail)
      clear hW10 y0 y1 y2 y3 y4 z0 z1 z2 z3 z4 hx9 h89
      have hGe : mf k f = ⟨f.d, f.fr, f.rc, f.cy, xs⟩ := by rw [mf, if_neg (by omega), HXe.out, hxs]
      have hg := HG.out
      rw [hGe] at hg
      obtain ⟨b3, o3, hadg, g0, g1, g2, g3, g4⟩ := (RB8.out.below hb10).fl hg
      dsimp only at g0 g1 g2 g3 g4
      cases hadg
      have m0 : W10.cell? ⟨Bq, 0, none⟩ = some (.int .i64 f.d) := hx10.cell (j := 0) rfl
      have m1 : W10.cell? ⟨Bq, 1, none⟩ = some (.string f.fr) := hx10.cell (j := 1) rfl
      have m2 : W10.cell? ⟨Bq, 2, none⟩ = some (.string f.rc) := hx10.cell (j := 2) rfl
      have m3 : W10.cell? ⟨Bq, 3, none⟩ = some (.string f.cy) := hx10.cell (j := 3) rfl
      have m4 : W10.cell? ⟨Bq, 4, none⟩ = some (.string xs) := hx10.cell (j := 4) rfl
      have hq : ∀ W, (Op.equalIn 10000 52 (.agg #[.int .i64 f.d, .string f.fr, .string f.rc, .string f.cy, .string xs]) (.agg #[.int .i64 f.d, .string f.fr, .string f.rc, .string f.cy, .string xs])).run Tryz.prog W = .ok true W := fun W => eqv_fl ⟨f.d, f.fr, f.rc, f.cy, xs⟩ W
      have HW10 := Lib.hid hb10
      clear hg hGe hx10 hb10 hneg t2 hwz HW
      go_wp2_with fail
      go_quiet (fail)
      go_wp2
      go_roundw
      case rel => exact ⟨i + 1, by go_num, by omega, Lib.hid (below_drewN HW10.out _)⟩
      case measure => simp [intOf]; omega
    ·go_wp2
     go_ret
     exact ⟨rfl, Hb08.out.trans (HW.out.mono Hb08.out.size)⟩
end Go.Proofs.YtknpnhodpgajbaaGreatDoor

namespace Go.Proofs.YtknpnhodpgajbaaGreatDoor
open Go.ChangeShapes Go.WideShapes Go.ChangeAt Go.RowKit Go.Joins Go.Deep
set_option maxRecDepth 100000 in
theorem contractS10 (H : Type) (enc : TypeId × Value → H) (W : World) (base : Nat) (args : Array Value) (ds gs : List (DataW H)) (before : List MemPlace)
  (hval : ∀ (j : Nat) t v, Tryz.f5.params[j]? = some t → args[j]? = some v → Value.okWide Tryz.prog W .any base t v)
  (hW : DataW.Whole enc Tryz.prog Tryz.f5.params.toList Rows.meaningScaleSpec.vars false W args.toList ds gs before) (hk : Rows.uptoSmall H (ds ++ gs) = true)
  (hL : laidMetH Tryz.prog Rows.meaningScaleUptoRow.laid W) :
  Calls Tryz.prog 5 args W fun e W' => ∃ v, e = .returned v ∧ Rows.meaningScaleSpec.post enc Tryz.prog Tryz.f5 false true false false W args v W' := by
 have hW' := hW
 obtain ⟨p, q, hA0, hV, rfl, hfz, hnd⟩ := hW
 have hA : DataW.TrodAll enc Tryz.prog W 0 (fun _ => true) true Tryz.f5.params.toList args.toList ds p := hA0
 rw [Tryz.params5] at hA hval
 obtain ⟨v0, vs0, d0, ds0, p0, q0, hargs, rfl, rfl, h0, r0⟩ := trodAll_cons hA
 obtain ⟨v1, vs1, d1, ds1, p1, q1, rfl, rfl, rfl, h1, r1⟩ := trodAll_cons r0
 obtain ⟨v2, vs2, d2, ds2, p2, q2, rfl, rfl, rfl, h2, r2⟩ := trodAll_cons r1
 obtain ⟨v3, vs3, d3, ds3, p3, q3, rfl, rfl, rfl, h3, r3⟩ := trodAll_cons r2
 obtain ⟨v4, vs4, d4, ds4, p4, q4, rfl, rfl, rfl, h4, r4⟩ := trodAll_cons r3
 obtain ⟨rfl, rfl, rfl⟩ := trodAll_nil r4
 obtain rfl : args = #[v0, v1, v2, v3, v4] := by cases args; simp_all
 obtain ⟨rfl, rfl⟩ := trodVars_none hV
 have k0 := h0
 have l0 : ∀ x ∈ p0, x.block < W.heap.size := by obtain ⟨m, hm⟩ := k0; exact DataW.trod_lt m _ _ _ hm
 have k1 := h1
 have l1 : ∀ x ∈ p1, x.block < W.heap.size := by obtain ⟨m, hm⟩ := k1; exact DataW.trod_lt m _ _ _ hm
 have k2 := h2
 have l2 : ∀ x ∈ p2, x.block < W.heap.size := by obtain ⟨m, hm⟩ := k2; exact DataW.trod_lt m _ _ _ hm
 have k3 := h3
 have l3 : ∀ x ∈ p3, x.block < W.heap.size := by obtain ⟨m, hm⟩ := k3; exact DataW.trod_lt m _ _ _ hm
 have k4 := h4
 have l4 : ∀ x ∈ p4, x.block < W.heap.size := by obtain ⟨m, hm⟩ := k4; exact DataW.trod_lt m _ _ _ hm
 have hb : Rows.uptoBulkAll [d0, d1, d2, d3, d4] ≤ 1048576 := by
  have h : Rows.uptoBulkAll ([d0, d1, d2, d3, d4] ++ []) ≤ 1048576 := of_decide_eq_true hk
  rw [List.append_nil] at h
  exact h
 have hsum : Rows.uptoBulk d0 + Rows.uptoBulk d1 + Rows.uptoBulk d2 + Rows.uptoBulk d3 + Rows.uptoBulk d4 ≤ 1048576 := by
  simp only [Rows.uptoBulkAll] at hb
  omega
 obtain ⟨c0, es0, dd0, ss0, rfl, hr0, hc0⟩ := open_con (hval 0 _ v0 rfl rfl) h0
 obtain ⟨s1, rfl, rfl, rfl, _⟩ := Go.ChangeMaps.open_string Tryz.underlying22 (hval 1 22 v1 rfl rfl) h1
 have z1 := bulk_text (H := H) s1
 obtain ⟨n2, rfl, rfl, rfl, w2⟩ := open_int Tryz.underlying3 (hval 2 3 v2 rfl rfl) h2
 obtain ⟨n3, rfl, rfl, rfl, w3⟩ := open_int Tryz.underlying3 (hval 3 3 v3 rfl rfl) h3
 obtain ⟨E, rfl, hE, hEf, hEc⟩ := open_env (hval 4 _ v4 rfl rfl) h4 (by omega)
 obtain ⟨hS, hP, hO⟩ := laid_look3 hL
 clear hA0
 refine (scale10_any c0 _ _ _ s1 n2 n3 E W ⟨by omega, hr0, hS, hP, hO, hE, hEf, hEc⟩ (by omega)).mono fun e W' ⟨he, bel⟩ => ?_
 subst he
 exact ⟨_, rfl, _, _, _, [], _, [], hW', trodAll_mk1 (shut_bool Tryz.underlying4 _),
  trodAll_cons_mk (Below.trod laidOut10 (by kernel_rfl) (of_decide_eq_true (by kernel_rfl)) k0 bel l0) (trodAll_cons_mk (Below.trod laidOut10 (by kernel_rfl) (of_decide_eq_true (by kernel_rfl)) k1 bel l1) (trodAll_cons_mk (Below.trod laidOut10 (by kernel_rfl) (of_decide_eq_true (by kernel_rfl)) k2 bel l2) (trodAll_cons_mk (Below.trod laidOut10 (by kernel_rfl) (of_decide_eq_true (by kernel_rfl)) k3 bel l3) (trodAll_cons_mk (Below.trod laidOut10 (by kernel_rfl) (of_decide_eq_true (by kernel_rfl)) k4 bel l4) (trodAll_mk0))))),
  rfl, bel.frame _, fun h => by cases h⟩
def argS10 : Array Value := #[.agg #[.int .u8 0, .string ⟨#[]⟩, .string ⟨#[]⟩, .string ⟨#[]⟩, .int .u8 0, .string ⟨#[]⟩, .string ⟨#[]⟩, .int .i64 0, .slice none 0 0, .int .i64 0, .slice none 0 0, .slice none 0 0], .string ⟨#[]⟩, .int .i64 0, .int .i64 0, .agg #[.slice none 0 0, .slice none 0 0]]
theorem metS10 (os : Os) : laidMetH Tryz.prog Rows.meaningScaleUptoRow.laid ((World.doorLaid Tryz.prog 176 os).forCall (fun _ _ => 0) ⟨#[], argS10, []⟩).memory :=
 laidMetH_of_parts3 (fuel := 8) (laidMet_of_run' 8 (by kernel_rfl) (by kernel_rfl)) (by kernel_rfl) (by kernel_rfl)
theorem readsS10 (os : Os) {H : Type} (enc : TypeId × Value → H) : ∃ places, DataW.whole enc Tryz.prog ((World.doorLaid Tryz.prog 176 os).forCall (fun _ _ => 0) ⟨#[], argS10, []⟩).memory Tryz.f5.params.toList Rows.meaningScaleSpec.vars false argS10.toList 8 =
  some ([.agg [.lit (.int .u8 0), .lit (.string []), .lit (.string []), .lit (.string []), .agg [.lit (.int .u8 0), .lit (.string []), .lit (.string []), .lit (.int .i64 0), .nil], .lit (.int .i64 0), .nil, .nil], .lit (.string []), .lit (.int .i64 0), .lit (.int .i64 0), .agg [.nil, .nil]], [], places) :=
 ⟨[], by kernel_rfl⟩
set_option maxRecDepth 100000 in
theorem liftedS10 (os : Os) (started : os.Started) (H : Type) (enc : TypeId × Value → H) (F : Stop.Interp) :
  ReturnsInHanded {} Tryz.checked os 5 .any ((Rows.OpenSpec.upto Rows.meaningScaleSpec).preRow enc Tryz.prog Tryz.f5 Rows.meaningScaleUptoRow.domain false Rows.meaningScaleUptoRow.laid) (((Rows.OpenSpec.upto Rows.meaningScaleSpec).at F).post enc Tryz.prog Tryz.f5 false true false false) := by
 obtain ⟨places, hx⟩ := readsS10 os enc
 refine returnsInHanded_of_row (C := Tryz.checked) (s := Rows.OpenSpec.upto Rows.meaningScaleSpec) own10 started (by kernel_rfl) Tryz.func5
  (witness_row_atRef (enc := enc) (C := Tryz.checked) false (World.doorLaid Tryz.prog 176 os) argS10 rfl (by kernel_rfl) (by kernel_rfl) (by kernel_rfl)
   (OpenSpec.preRow_of_cond 8 hx (by kernel_rfl) (fun k hk => by cases hk; kernel_rfl) (by kernel_rfl) (metS10 os))) ?_
 intro W base args ds gs before hval hW _ hcond _ hL _ _
 exact contractS10 H enc W base args ds gs before hval hW (hcond _ rfl) hL
theorem meaningScale_upto : Rows.MeaningScaleUptoSaid :=
 OpenClaim.holds_of_cond 5 Tryz.f5 rfl rfl rfl rfl rfl rfl rfl ⟨rfl, rfl, rfl, rfl, rfl⟩ rfl rfl rfl rfl rfl (by kernel_rfl) Tryz.func5 (by kernel_rfl)
  (of_decide_eq_true (by kernel_rfl)) (by unfold Func.isWrapper; first | (rw [if_pos (by decide +kernel)]; kernel_rfl) | (rw [if_neg (by decide +kernel)]; exact ⟨rfl, rfl⟩))
  (fun os started H enc _ F => by rw [OpenClaim.pre_eq_preRow]; exact liftedS10 os started H enc F)
theorem plainS10 (f : FuncId) (fn : Func) (hf : Tryz.pinned.checked.prog.funcNamed "novation/novationlaw10.MeaningScale" = some f) (hfn : Tryz.pinned.checked.prog.funcs[f]? = some fn) :
  true = Tryz.pinned.checked.prog.looks [] ∧ ∀ (j : Nat) t, fn.params[j]? = some t → Tryz.pinned.checked.prog.wantsStandIn t = false := by
 obtain rfl : f = 5 := Option.some.inj ((show Tryz.prog.funcNamed "novation/novationlaw10.MeaningScale" = some 5 by kernel_rfl).symm.trans hf) |>.symm
 obtain rfl : fn = Tryz.f5 := (Option.some.inj (Tryz.func5.symm.trans hfn)).symm
 refine ⟨by kernel_rfl, fun j t ht => ?_⟩
 rw [Tryz.params5] at ht
 have hm : t ∈ [29, 22, 3, 33] := by simpa using Array.mem_of_getElem? ht
 have hall : ([29, 22, 3, 33].all fun u => !Tryz.prog.wantsStandIn u) = true := by kernel_rfl
 exact (show Tryz.prog.wantsStandIn t = false by simpa using List.all_eq_true.1 hall t hm)
theorem meaningScale_card : Rows.MeaningScaleUptoCardSaid :=
 Claim7.holds_tied_plain_at .later [] _ _ _ _ meaningScale_upto (fun _ h => by cases h) (by kernel_rfl) (fun _ h => by cases h) meaningScaleUpto_row_tie rfl ⟨rfl, rfl⟩ (by kernel_rfl) rfl plainS10 (by kernel_rfl)
#print axioms meaningScale_card
end Go.Proofs.YtknpnhodpgajbaaGreatDoor
