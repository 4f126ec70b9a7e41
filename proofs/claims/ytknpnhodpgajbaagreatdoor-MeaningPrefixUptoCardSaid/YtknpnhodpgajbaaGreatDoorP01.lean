/-
  Law 10, MeaningPrefix.  Printed by tools/genpfx.py. MeaningPrefix: the flows before a day are those of the meaning that lie before this day, for every contract, days and knowledge that together hold at most 1048576 values and letters; the arguments read afterwards as before; the tables contract.parts, observable.shapes and observable.operations as the program's text lays them.
-/
import Derived.Test.YtknpnhodpgajbaaGreatDoorC29
import Derived.Test.YtknpnhodpgajbaaGreatDoorL01
import Derived.Test.YtknpnhodpgajbaaGreatDoorC28
import Derived.Test.YtknpnhodpgajbaaGreatDoorC26
import Derived.Test.YtknpnhodpgajbaaGreatDoorCards
import Derived.Test.YtknpnhodpgajbaaGreatDoorTie
namespace Go.Proofs.YtknpnhodpgajbaaGreatDoor
open Go.RowKit
theorem sameFl_take (LA l : List Fl) (n : Nat) (e : l = LA.take n) (hn : n ≤ LA.length) (hl : LA.length ≤ 1100000) (a b : Option Addr) (c d : Nat) (w : World) (ha : Rd Fl.cells 5 w a l) (hb : Rd Fl.cells 5 w b LA) :
  Calls Tryz.prog 16 #[.slice a l.length c, .slice b n d] w fun e w' => e = .returned (.bool true) ∧ Below w.heap.size w w' := by
 have h1 : l.length = n := by rw [e, List.length_take]; omega
 have hb' : Rd Fl.cells 5 w b l := fun j x hj => hb j x (by
  rw [e, List.getElem?_take] at hj
  split at hj
  ·exact hj
  ·cases hj)
 have := sameFl_any l a b c d w (by omega) ha hb'
 rw [h1] at this ⊢
 exact this
set_option maxHeartbeats 4000000 in
set_option maxRecDepth 100000 in
theorem prefix10_any (a : Con) (es dd ss : Value) (day fin more : Int) (E : EvD) (w : World) (hA : BfH a es dd ss E w) :
  Calls Tryz.prog 6 #[a.val es dd ss, .int .i64 day, .int .i64 fin, .int .i64 more, E.val] w fun e w' => e = .returned (.bool true) ∧ Below w.heap.size w w' := by
 obtain ⟨p1, pn1, rfl⟩ := hA.rd.1.len
 obtain ⟨p2, pn2, rfl⟩ := hA.rd.2.1.len
 obtain ⟨p3, pn3, rfl⟩ := hA.rd.2.2.1.len
 obtain ⟨W0, hW0, hb0, hz0, bx⟩ := bxp_world w a (.slice p1 a.ex.sub.length pn1) (.slice p2 a.ds.length pn2) (.slice p3 a.sub.length pn3) E
 have HA := Lib.hid hA
 have HX := Lib.hid bx
 have Hb0 := Lib.hid hb0
 have hba : a.bulk ≤ 1100000 := hA.bulk
 have HG1 : Hid (∀ W, Below w.heap.size w W → Calls Tryz.prog 9 #[.agg #[.int .u8 a.k, .string a.fr, .string a.rc, .string a.nm, .int .u8 a.ex.k, .string a.ex.ra, .string a.ex.nm, .int .i64 a.ex.d, .slice p1 a.ex.sub.length pn1, .int .i64 a.d, .slice p2 a.ds.length pn2, .slice p3 a.sub.length pn3], .agg #[.slice E.af E.F.length E.cf, .slice E.ac E.C.length E.cc]] W (BoolPost W)) := Lib.hid fun W hb => great10_any a _ _ _ E W (by omega) (hA.frame hb).rd (hA.frame hb).e hA.fs hA.cs
 have HAl : Hid (∀ W, Below w.heap.size w W → Calls Tryz.prog 19 #[] W fun e w' => e = .returned (.bool true) ∧ Below W.heap.size W w') := Lib.hid fun W hb => alive10_any W ⟨(hA.frame hb).ls, (hA.frame hb).lp, (hA.frame hb).lo⟩
 have HB1 : Hid (∀ W, Below w.heap.size w W → ∀ R, R = befR a day more E.F E.C → Calls Tryz.prog 14 #[.agg #[.int .u8 a.k, .string a.fr, .string a.rc, .string a.nm, .int .u8 a.ex.k, .string a.ex.ra, .string a.ex.nm, .int .i64 a.ex.d, .slice p1 a.ex.sub.length pn1, .int .i64 a.d, .slice p2 a.ds.length pn2, .slice p3 a.sub.length pn3], .int .i64 day, .int .i64 more, .agg #[.slice E.af E.F.length E.cf, .slice E.ac E.C.length E.cc]] W (BfP W R)) := Lib.hid fun W hb R hR => by rw [hR]; exact before_any a _ _ _ day more E W (hA.frame hb)
 have HB2 : Hid (∀ W, Below w.heap.size w W → ∀ R, R = befR a day fin E.F E.C → Calls Tryz.prog 14 #[.agg #[.int .u8 a.k, .string a.fr, .string a.rc, .string a.nm, .int .u8 a.ex.k, .string a.ex.ra, .string a.ex.nm, .int .i64 a.ex.d, .slice p1 a.ex.sub.length pn1, .int .i64 a.d, .slice p2 a.ds.length pn2, .slice p3 a.sub.length pn3], .int .i64 day, .int .i64 fin, .agg #[.slice E.af E.F.length E.cf, .slice E.ac E.C.length E.cc]] W (BfP W R)) := Lib.hid fun W hb R hR => by rw [hR]; exact before_any a _ _ _ day fin E W (hA.frame hb)
 clear hA bx hb0
 show Calls _ _ #[.agg #[.int .u8 a.k, .string a.fr, .string a.rc, .string a.nm, .int .u8 a.ex.k, .string a.ex.ra, .string a.ex.nm, .int .i64 a.ex.d, .slice p1 a.ex.sub.length pn1, .int .i64 a.d, .slice p2 a.ds.length pn2, .slice p3 a.sub.length pn3], .int .i64 day, .int .i64 fin, .int .i64 more, .agg #[.slice E.af E.F.length E.cf, .slice E.ac E.C.length E.cc]] _ _
 change (w.alloc (.cells #[.int .u8 a.k, .string a.fr, .string a.rc, .string a.nm, .int .u8 a.ex.k, .string a.ex.ra, .string a.ex.nm, .int .i64 a.ex.d, .slice p1 a.ex.sub.length pn1, .int .i64 a.d, .slice p2 a.ds.length pn2, .slice p3 a.sub.length pn3] 29)).alloc (.cells #[.slice E.af E.F.length E.cf, .slice E.ac E.C.length E.cc] 33) = W0 at hW0
 go_enter Tryz.func6, Tryz.ntmps6
 go_upto_region 1 with (fail)
 clear hW0
 go_wp2_with (go_at_call 19; refine (HAl.out _ Hb0.out).mono ?_; rintro e w1 ⟨rfl, hb1⟩; have hB1 := HX.out.below hb1; have hb01 := Hb0.out.trans (hb1.mono Hb0.out.size); have k0 : w1.cell? ⟨w.heap.size, 0, none⟩ = some (.int .u8 a.k) := hB1.a.cell (j := 0) rfl; have k1 : w1.cell? ⟨w.heap.size, 1, none⟩ = some (.string a.fr) := hB1.a.cell (j := 1) rfl; have k2 : w1.cell? ⟨w.heap.size, 2, none⟩ = some (.string a.rc) := hB1.a.cell (j := 2) rfl; have k3 : w1.cell? ⟨w.heap.size, 3, none⟩ = some (.string a.nm) := hB1.a.cell (j := 3) rfl; have k4 : w1.cell? ⟨w.heap.size, 4, none⟩ = some (.int .u8 a.ex.k) := hB1.a.cell (j := 4) rfl; have k5 : w1.cell? ⟨w.heap.size, 5, none⟩ = some (.string a.ex.ra) := hB1.a.cell (j := 5) rfl; have k6 : w1.cell? ⟨w.heap.size, 6, none⟩ = some (.string a.ex.nm) := hB1.a.cell (j := 6) rfl; have k7 : w1.cell? ⟨w.heap.size, 7, none⟩ = some (.int .i64 a.ex.d) := hB1.a.cell (j := 7) rfl; have k8 : w1.cell? ⟨w.heap.size, 8, none⟩ = some (.slice p1 a.ex.sub.length pn1) := hB1.a.cell (j := 8) rfl; have k9 : w1.cell? ⟨w.heap.size, 9, none⟩ = some (.int .i64 a.d) := hB1.a.cell (j := 9) rfl; have k10 : w1.cell? ⟨w.heap.size, 10, none⟩ = some (.slice p2 a.ds.length pn2) := hB1.a.cell (j := 10) rfl; have k11 : w1.cell? ⟨w.heap.size, 11, none⟩ = some (.slice p3 a.sub.length pn3) := hB1.a.cell (j := 11) rfl; have kv0 : w1.cell? ⟨w.heap.size + 1, 0, none⟩ = some (.slice E.af E.F.length E.cf) := hB1.v.cell (j := 0) rfl; have kv1 : w1.cell? ⟨w.heap.size + 1, 1, none⟩ = some (.slice E.ac E.C.length E.cc) := hB1.v.cell (j := 1) rfl)
 refine (HG1.out _ hb01).mono ?_
 rintro e w2 ⟨⟨g1, rfl⟩, hb2⟩
 have hb02 := hb01.trans (hb2.mono hb01.size)
 have hB2 := hB1.below hb2
 have HB2' := Lib.hid hB2
 have Hb02 := Lib.hid hb02
 clear k0 k1 k2 k3 k4 k5 k6 k7 k8 k9 k10 k11 kv0 kv1 hB1 hb01 hb1 hb2
 cases g1 with
 | true =>
  clear hB2 hb02
  go_wp2
  go_ret
  exact ⟨rfl, Hb02.out⟩
 | false =>
  by_cases q1 : fin < 0
  ·have t1 : decide (fin < 0) = true := decide_eq_true q1
   clear hB2 hb02
   go_wp2
   go_ret
   exact ⟨rfl, Hb02.out⟩
  have t1 : decide (fin < 0) = false := decide_eq_false q1
  by_cases q2 : more < fin
  ·have t2 : decide (more < fin) = true := decide_eq_true q2
   clear hB2 hb02
   go_wp2
   go_ret
   exact ⟨rfl, Hb02.out⟩
  have t2 : decide (more < fin) = false := decide_eq_false q2
  by_cases q3 : 100000 < more
  ·have t3 : decide (100000 < more) = true := decide_eq_true q3
   clear hB2 hb02
   go_wp2
   go_ret
   exact ⟨rfl, Hb02.out⟩
  have t3 : decide (100000 < more) = false := decide_eq_false q3
  obtain ⟨RA, hRA⟩ : ∃ R, R = befR a day more E.F E.C := ⟨_, rfl⟩
  obtain ⟨RB, hRB⟩ : ∃ R, R = befR a day fin E.F E.C := ⟨_, rfl⟩
  have HC1 := Lib.hid (HB1.out w2 hb02 RA hRA)
  have HP : Hid (RA.1 = 0 → RB = (0, RA.2.filter (befD fin)) ∧ SrtFl RA.2) := Lib.hid fun h => by
   rw [hRA] at h ⊢
   rw [hRB]
   exact ⟨befR_pre a day fin more E.F E.C (by omega) (by omega) h, befR_srt a day more E.F E.C⟩
  have HN : Hid (RB.1 ≠ 0 → RB.2 = []) := Lib.hid fun h => by rw [hRB] at h ⊢; exact befR_nil h
  have HLA : Hid (RA.2.length ≤ 1100000) := Lib.hid (by rw [hRA]; exact Nat.le_trans (befR_len _ _ _ _ _) hba)
  have HRB := Lib.hid hRB
  clear hRA hRB q1 q2 q3
  have k0 : w2.cell? ⟨w.heap.size, 0, none⟩ = some (.int .u8 a.k) := hB2.a.cell (j := 0) rfl
  have k1 : w2.cell? ⟨w.heap.size, 1, none⟩ = some (.string a.fr) := hB2.a.cell (j := 1) rfl
  have k2 : w2.cell? ⟨w.heap.size, 2, none⟩ = some (.string a.rc) := hB2.a.cell (j := 2) rfl
  have k3 : w2.cell? ⟨w.heap.size, 3, none⟩ = some (.string a.nm) := hB2.a.cell (j := 3) rfl
  have k4 : w2.cell? ⟨w.heap.size, 4, none⟩ = some (.int .u8 a.ex.k) := hB2.a.cell (j := 4) rfl
  have k5 : w2.cell? ⟨w.heap.size, 5, none⟩ = some (.string a.ex.ra) := hB2.a.cell (j := 5) rfl
  have k6 : w2.cell? ⟨w.heap.size, 6, none⟩ = some (.string a.ex.nm) := hB2.a.cell (j := 6) rfl
  have k7 : w2.cell? ⟨w.heap.size, 7, none⟩ = some (.int .i64 a.ex.d) := hB2.a.cell (j := 7) rfl
  have k8 : w2.cell? ⟨w.heap.size, 8, none⟩ = some (.slice p1 a.ex.sub.length pn1) := hB2.a.cell (j := 8) rfl
  have k9 : w2.cell? ⟨w.heap.size, 9, none⟩ = some (.int .i64 a.d) := hB2.a.cell (j := 9) rfl
  have k10 : w2.cell? ⟨w.heap.size, 10, none⟩ = some (.slice p2 a.ds.length pn2) := hB2.a.cell (j := 10) rfl
  have k11 : w2.cell? ⟨w.heap.size, 11, none⟩ = some (.slice p3 a.sub.length pn3) := hB2.a.cell (j := 11) rfl
  have kv0 : w2.cell? ⟨w.heap.size + 1, 0, none⟩ = some (.slice E.af E.F.length E.cf) := hB2.v.cell (j := 0) rfl
  have kv1 : w2.cell? ⟨w.heap.size + 1, 1, none⟩ = some (.slice E.ac E.C.length E.cc) := hB2.v.cell (j := 1) rfl
  go_wp2_with fail
  refine HC1.out.mono ?_
  rintro e w3 ⟨ad3, cap3, rfl, hb3, l3, n3, r3⟩
  have hb03 := hb02.trans (hb3.mono hb02.size)
  have hB3 := hB2.below hb3
  have HC2 := Lib.hid (HB2.out w3 hb03 RB HRB.out)
  clear HRB
  obtain ⟨ea, LA⟩ := RA
  obtain ⟨eb, LB⟩ := RB
  clear k0 k1 k2 k3 k4 k5 k6 k7 k8 k9 k10 k11 kv0 kv1
  have k0 : w3.cell? ⟨w.heap.size, 0, none⟩ = some (.int .u8 a.k) := hB3.a.cell (j := 0) rfl
  have k1 : w3.cell? ⟨w.heap.size, 1, none⟩ = some (.string a.fr) := hB3.a.cell (j := 1) rfl
  have k2 : w3.cell? ⟨w.heap.size, 2, none⟩ = some (.string a.rc) := hB3.a.cell (j := 2) rfl
  have k3 : w3.cell? ⟨w.heap.size, 3, none⟩ = some (.string a.nm) := hB3.a.cell (j := 3) rfl
  have k4 : w3.cell? ⟨w.heap.size, 4, none⟩ = some (.int .u8 a.ex.k) := hB3.a.cell (j := 4) rfl
  have k5 : w3.cell? ⟨w.heap.size, 5, none⟩ = some (.string a.ex.ra) := hB3.a.cell (j := 5) rfl
  have k6 : w3.cell? ⟨w.heap.size, 6, none⟩ = some (.string a.ex.nm) := hB3.a.cell (j := 6) rfl
  have k7 : w3.cell? ⟨w.heap.size, 7, none⟩ = some (.int .i64 a.ex.d) := hB3.a.cell (j := 7) rfl
  have k8 : w3.cell? ⟨w.heap.size, 8, none⟩ = some (.slice p1 a.ex.sub.length pn1) := hB3.a.cell (j := 8) rfl
  have k9 : w3.cell? ⟨w.heap.size, 9, none⟩ = some (.int .i64 a.d) := hB3.a.cell (j := 9) rfl
  have k10 : w3.cell? ⟨w.heap.size, 10, none⟩ = some (.slice p2 a.ds.length pn2) := hB3.a.cell (j := 10) rfl
  have k11 : w3.cell? ⟨w.heap.size, 11, none⟩ = some (.slice p3 a.sub.length pn3) := hB3.a.cell (j := 11) rfl
  have kv0 : w3.cell? ⟨w.heap.size + 1, 0, none⟩ = some (.slice E.af E.F.length E.cf) := hB3.v.cell (j := 0) rfl
  have kv1 : w3.cell? ⟨w.heap.size + 1, 1, none⟩ = some (.slice E.ac E.C.length E.cc) := hB3.v.cell (j := 1) rfl
  go_wp2_with fail
  refine HC2.out.mono ?_
  rintro e w4 ⟨ad4, cap4, rfl, hb4, l4, n4, r4⟩
  have hb04 := hb03.trans (hb4.mono hb03.size)
  have RA4 := Lib.hid (r3.below hb4)
  have RB4 := Lib.hid r4
  have Hb04 := Lib.hid hb04
  clear k0 k1 k2 k3 k4 k5 k6 k7 k8 k9 k10 k11 kv0 kv1 r3 r4 hb3 hb4 hb04 hb03 hb02 hB2 hB3 HC1 HC2 HB1 HB2 HB2' HX HA HG1 HAl Hb0 Hb02 t1 t2 t3
  by_cases he : ea = 0
  ·subst he
   obtain ⟨hp1, hp2⟩ := HP.out rfl
   obtain ⟨rfl, rfl⟩ : eb = 0 ∧ LB = LA.filter (befD fin) := by simpa using hp1
   have HS := Lib.hid hp2
   have hla := HLA.out
   have hla : LA.length ≤ 1100000 := hla
   have RA4 : Hid (Rd Fl.cells 5 w4 ad3 LA) := RA4
   have RB4 : Hid (Rd Fl.cells 5 w4 ad4 (LA.filter (befD fin))) := RB4
   have l3 : LA.length ≤ cap3 := l3
   clear hp1 hp2 HP HN HLA n3 n4 l4
   go_wp2_with fail
   go_loopw [16] (fun nv wr => ∃ (n : Nat), nv = .int .i64 (n : Int) ∧ n ≤ LA.length ∧ Hid (∀ j f, j < n → LA[j]? = some f → f.d < fin) ∧ wr = w4) (fun nv _ => LA.length - (intOf nv).toNat)
   case atStart => exact ⟨0, rfl, Nat.zero_le _, Lib.hid fun j f hj => absurd hj (Nat.not_lt_zero _), rfl⟩
   case round =>
    obtain ⟨n, rfl, hn, HJ, rfl⟩ := hrel
    have h0 : (0 : Int) ≤ (n : Int) := by omega
    by_cases hlt : n < LA.length
    ·have h1 : (n : Int) < (LA.length : Int) := by omega
     obtain ⟨f, hf⟩ : ∃ f, LA[n]? = some f := ⟨_, List.getElem?_eq_getElem hlt⟩
     obtain ⟨b1, off, rfl, c0, c1, c2, c3, c4⟩ := RA4.out.fl hf
     by_cases hd : f.d < fin
     ·have hJ : Hid (∀ j f, j < n + 1 → LA[j]? = some f → f.d < fin) := Lib.hid fun j g hj hg => by
       by_cases hjn : j < n
       ·exact HJ.out j g hjn hg
       ·obtain rfl : j = n := by omega
        rw [hf] at hg; cases hg; exact hd
      have t5 : decide (f.d < fin) = true := decide_eq_true hd
      clear hf hd
      go_wp2
      go_roundw
      case rel => exact ⟨n + 1, by go_num, by omega, hJ, by first | rfl | trivial⟩
      case measure => simp [intOf]; omega
     ·have HT : Hid (LA.filter (befD fin) = LA.take n) := Lib.hid (srt_take HS.out hn HJ.out fun g hg => by rw [hf] at hg; cases hg; exact hd)
      have t5 : decide (f.d < fin) = false := decide_eq_false hd
      have HC := Lib.hid (sameFl_take LA _ n HT.out hn hla ad4 (some ⟨b1, off, none⟩) cap4 cap3 wr RB4.out RA4.out)
      clear hf hd HT HS HJ
      go_wp2_with fail
      refine HC.out.mono ?_
      rintro e w5 ⟨rfl, hb5⟩
      have HF := Lib.hid (Hb04.out.trans (hb5.mono Hb04.out.size))
      clear hb5 HC
      go_wp2
      go_ret
      exact ⟨rfl, HF.out⟩
    ·obtain rfl : n = LA.length := by omega
     have HT : Hid (LA.filter (befD fin) = LA.take LA.length) := Lib.hid (srt_take HS.out hn HJ.out fun g hg => by rw [List.getElem?_eq_none (Nat.le_refl _)] at hg; cases hg)
     have HC := Lib.hid (sameFl_take LA _ LA.length HT.out (Nat.le_refl _) hla ad4 ad3 cap4 cap3 wr RB4.out RA4.out)
     clear HT HS HJ
     go_wp2_with fail
     refine HC.out.mono ?_
     rintro e w5 ⟨rfl, hb5⟩
     have HF := Lib.hid (Hb04.out.trans (hb5.mono Hb04.out.size))
     clear hb5 HC
     go_wp2
     go_ret
     exact ⟨rfl, HF.out⟩
  ·have t5 : (ea != 0) = true := by rw [bne_iff_ne]; exact he
   by_cases hb : eb = 0
   ·subst hb
    clear HP HN
    go_wp2
    go_ret
    exact ⟨rfl, Hb04.out⟩
   ·obtain rfl : LB = [] := HN.out hb
    have t6 : (eb == 0) = false := by rw [beq_eq_false_iff_ne]; exact hb
    clear HP HN
    go_wp2
    go_ret
    exact ⟨rfl, Hb04.out⟩
end Go.Proofs.YtknpnhodpgajbaaGreatDoor

namespace Go.Proofs.YtknpnhodpgajbaaGreatDoor
open Go.ChangeShapes Go.WideShapes Go.ChangeAt Go.RowKit Go.Joins Go.Deep
set_option maxRecDepth 100000 in
theorem contractP10 (H : Type) (enc : TypeId × Value → H) (W : World) (base : Nat) (args : Array Value) (ds gs : List (DataW H)) (before : List MemPlace)
  (hval : ∀ (j : Nat) t v, Tryz.f6.params[j]? = some t → args[j]? = some v → Value.okWide Tryz.prog W .any base t v)
  (hW : DataW.Whole enc Tryz.prog Tryz.f6.params.toList Rows.meaningPrefixSpec.vars false W args.toList ds gs before) (hk : Rows.uptoSmall H (ds ++ gs) = true)
  (hL : laidMetH Tryz.prog Rows.meaningPrefixUptoRow.laid W) :
  Calls Tryz.prog 6 args W fun e W' => ∃ v, e = .returned v ∧ Rows.meaningPrefixSpec.post enc Tryz.prog Tryz.f6 false true false false W args v W' := by
 have hW' := hW
 obtain ⟨p, q, hA0, hV, rfl, hfz, hnd⟩ := hW
 have hA : DataW.TrodAll enc Tryz.prog W 0 (fun _ => true) true Tryz.f6.params.toList args.toList ds p := hA0
 rw [Tryz.params6] at hA hval
 obtain ⟨v0, vs0, d0, ds0, p0, q0, hargs, rfl, rfl, h0, r0⟩ := trodAll_cons hA
 obtain ⟨v1, vs1, d1, ds1, p1, q1, rfl, rfl, rfl, h1, r1⟩ := trodAll_cons r0
 obtain ⟨v2, vs2, d2, ds2, p2, q2, rfl, rfl, rfl, h2, r2⟩ := trodAll_cons r1
 obtain ⟨v3, vs3, d3, ds3, p3, q3, rfl, rfl, rfl, h3, r3⟩ := trodAll_cons r2
 obtain ⟨v4, vs4, d4, ds4, p4, q4, rfl, rfl, rfl, h4, r4⟩ := trodAll_cons r3
 obtain ⟨rfl, rfl, rfl⟩ := trodAll_nil r4
 obtain rfl : args = #[v0, v1, v2, v3, v4] := by cases args; simp_all
 obtain ⟨rfl, rfl⟩ := trodVars_none hV
 have k0 := h0
 have l0 : ∀ x ∈ p0, x.block < W.heap.size := by obtain ⟨m, hm⟩ := k0; exact DataW.trod_lt m _ _ _ hm
 have k1 := h1
 have l1 : ∀ x ∈ p1, x.block < W.heap.size := by obtain ⟨m, hm⟩ := k1; exact DataW.trod_lt m _ _ _ hm
 have k2 := h2
 have l2 : ∀ x ∈ p2, x.block < W.heap.size := by obtain ⟨m, hm⟩ := k2; exact DataW.trod_lt m _ _ _ hm
 have k3 := h3
 have l3 : ∀ x ∈ p3, x.block < W.heap.size := by obtain ⟨m, hm⟩ := k3; exact DataW.trod_lt m _ _ _ hm
 have k4 := h4
 have l4 : ∀ x ∈ p4, x.block < W.heap.size := by obtain ⟨m, hm⟩ := k4; exact DataW.trod_lt m _ _ _ hm
 have hb : Rows.uptoBulkAll [d0, d1, d2, d3, d4] ≤ 1048576 := by
  have h : Rows.uptoBulkAll ([d0, d1, d2, d3, d4] ++ []) ≤ 1048576 := of_decide_eq_true hk
  rw [List.append_nil] at h
  exact h
 have hsum : Rows.uptoBulk d0 + Rows.uptoBulk d1 + Rows.uptoBulk d2 + Rows.uptoBulk d3 + Rows.uptoBulk d4 ≤ 1048576 := by
  simp only [Rows.uptoBulkAll] at hb
  omega
 obtain ⟨c0, es0, dd0, ss0, rfl, hr0, hc0⟩ := open_con (hval 0 _ v0 rfl rfl) h0
 obtain ⟨n1, rfl, rfl, rfl, w1⟩ := open_int Tryz.underlying3 (hval 1 3 v1 rfl rfl) h1
 obtain ⟨n2, rfl, rfl, rfl, w2⟩ := open_int Tryz.underlying3 (hval 2 3 v2 rfl rfl) h2
 obtain ⟨n3, rfl, rfl, rfl, w3⟩ := open_int Tryz.underlying3 (hval 3 3 v3 rfl rfl) h3
 obtain ⟨E, rfl, hE, hEf, hEc⟩ := open_env (hval 4 _ v4 rfl rfl) h4 (by omega)
 obtain ⟨hS, hP, hO⟩ := laid_look3 hL
 clear hA0
 refine (prefix10_any c0 _ _ _ n1 n2 n3 E W ⟨by omega, hr0, hS, hP, hO, hE, hEf, hEc⟩).mono fun e W' ⟨he, bel⟩ => ?_
 subst he
 exact ⟨_, rfl, _, _, _, [], _, [], hW', trodAll_mk1 (shut_bool Tryz.underlying4 _),
  trodAll_cons_mk (Below.trod laidOut10 (by kernel_rfl) (of_decide_eq_true (by kernel_rfl)) k0 bel l0) (trodAll_cons_mk (Below.trod laidOut10 (by kernel_rfl) (of_decide_eq_true (by kernel_rfl)) k1 bel l1) (trodAll_cons_mk (Below.trod laidOut10 (by kernel_rfl) (of_decide_eq_true (by kernel_rfl)) k2 bel l2) (trodAll_cons_mk (Below.trod laidOut10 (by kernel_rfl) (of_decide_eq_true (by kernel_rfl)) k3 bel l3) (trodAll_cons_mk (Below.trod laidOut10 (by kernel_rfl) (of_decide_eq_true (by kernel_rfl)) k4 bel l4) (trodAll_mk0))))),
  rfl, bel.frame _, fun h => by cases h⟩
def argP10 : Array Value := #[.agg #[.int .u8 0, .string ⟨#[]⟩, .string ⟨#[]⟩, .string ⟨#[]⟩, .int .u8 0, .string ⟨#[]⟩, .string ⟨#[]⟩, .int .i64 0, .slice none 0 0, .int .i64 0, .slice none 0 0, .slice none 0 0], .int .i64 0, .int .i64 0, .int .i64 0, .agg #[.slice none 0 0, .slice none 0 0]]
theorem metP10 (os : Os) : laidMetH Tryz.prog Rows.meaningPrefixUptoRow.laid ((World.doorLaid Tryz.prog 176 os).forCall (fun _ _ => 0) ⟨#[], argP10, []⟩).memory :=
 laidMetH_of_parts3 (fuel := 8) (laidMet_of_run' 8 (by kernel_rfl) (by kernel_rfl)) (by kernel_rfl) (by kernel_rfl)
theorem readsP10 (os : Os) {H : Type} (enc : TypeId × Value → H) : ∃ places, DataW.whole enc Tryz.prog ((World.doorLaid Tryz.prog 176 os).forCall (fun _ _ => 0) ⟨#[], argP10, []⟩).memory Tryz.f6.params.toList Rows.meaningPrefixSpec.vars false argP10.toList 8 =
  some ([.agg [.lit (.int .u8 0), .lit (.string []), .lit (.string []), .lit (.string []), .agg [.lit (.int .u8 0), .lit (.string []), .lit (.string []), .lit (.int .i64 0), .nil], .lit (.int .i64 0), .nil, .nil], .lit (.int .i64 0), .lit (.int .i64 0), .lit (.int .i64 0), .agg [.nil, .nil]], [], places) :=
 ⟨[], by kernel_rfl⟩
set_option maxRecDepth 100000 in
theorem liftedP10 (os : Os) (started : os.Started) (H : Type) (enc : TypeId × Value → H) (F : Stop.Interp) :
  ReturnsInHanded {} Tryz.checked os 6 .any ((Rows.OpenSpec.upto Rows.meaningPrefixSpec).preRow enc Tryz.prog Tryz.f6 Rows.meaningPrefixUptoRow.domain false Rows.meaningPrefixUptoRow.laid) (((Rows.OpenSpec.upto Rows.meaningPrefixSpec).at F).post enc Tryz.prog Tryz.f6 false true false false) := by
 obtain ⟨places, hx⟩ := readsP10 os enc
 refine returnsInHanded_of_row (C := Tryz.checked) (s := Rows.OpenSpec.upto Rows.meaningPrefixSpec) own10 started (by kernel_rfl) Tryz.func6
  (witness_row_atRef (enc := enc) (C := Tryz.checked) false (World.doorLaid Tryz.prog 176 os) argP10 rfl (by kernel_rfl) (by kernel_rfl) (by kernel_rfl)
   (OpenSpec.preRow_of_cond 8 hx (by kernel_rfl) (fun k hk => by cases hk; kernel_rfl) (by kernel_rfl) (metP10 os))) ?_
 intro W base args ds gs before hval hW _ hcond _ hL _ _
 exact contractP10 H enc W base args ds gs before hval hW (hcond _ rfl) hL
theorem meaningPrefix_upto : Rows.MeaningPrefixUptoSaid :=
 OpenClaim.holds_of_cond 6 Tryz.f6 rfl rfl rfl rfl rfl rfl rfl ⟨rfl, rfl, rfl, rfl, rfl⟩ rfl rfl rfl rfl rfl (by kernel_rfl) Tryz.func6 (by kernel_rfl)
  (of_decide_eq_true (by kernel_rfl)) (by unfold Func.isWrapper; first | (rw [if_pos (by decide +kernel)]; kernel_rfl) | (rw [if_neg (by decide +kernel)]; exact ⟨rfl, rfl⟩))
  (fun os started H enc _ F => by rw [OpenClaim.pre_eq_preRow]; exact liftedP10 os started H enc F)
theorem plainP10 (f : FuncId) (fn : Func) (hf : Tryz.pinned.checked.prog.funcNamed "novation/novationlaw10.MeaningPrefix" = some f) (hfn : Tryz.pinned.checked.prog.funcs[f]? = some fn) :
  true = Tryz.pinned.checked.prog.looks [] ∧ ∀ (j : Nat) t, fn.params[j]? = some t → Tryz.pinned.checked.prog.wantsStandIn t = false := by
 obtain rfl : f = 6 := Option.some.inj ((show Tryz.prog.funcNamed "novation/novationlaw10.MeaningPrefix" = some 6 by kernel_rfl).symm.trans hf) |>.symm
 obtain rfl : fn = Tryz.f6 := (Option.some.inj (Tryz.func6.symm.trans hfn)).symm
 refine ⟨by kernel_rfl, fun j t ht => ?_⟩
 rw [Tryz.params6] at ht
 have hm : t ∈ [29, 3, 33] := by simpa using Array.mem_of_getElem? ht
 have hall : ([29, 3, 33].all fun u => !Tryz.prog.wantsStandIn u) = true := by kernel_rfl
 exact (show Tryz.prog.wantsStandIn t = false by simpa using List.all_eq_true.1 hall t hm)
theorem meaningPrefix_card : Rows.MeaningPrefixUptoCardSaid :=
 Claim7.holds_tied_plain_at .later [] _ _ _ _ meaningPrefix_upto (fun _ h => by cases h) (by kernel_rfl) (fun _ h => by cases h) meaningPrefixUpto_row_tie rfl ⟨rfl, rfl⟩ (by kernel_rfl) rfl plainP10 (by kernel_rfl)
#print axioms meaningPrefix_card
end Go.Proofs.YtknpnhodpgajbaaGreatDoor
