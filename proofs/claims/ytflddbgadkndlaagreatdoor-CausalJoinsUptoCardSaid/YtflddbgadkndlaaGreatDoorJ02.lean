/-
  novationlaw15.CausalJoins. CausalJoins: ConBoth of two contracts needs what one of them needs and nothing else, and is causal exactly if both are; scaling by a constant and acquiring on the same day change nothing; for every two contracts and day that together hold at most 1048576 values and letters; the arguments read afterwards as before; the tables contract.parts and observable.shapes as the program's text lays them.
-/
import Derived.Test.YtflddbgadkndlaaGreatDoorJ01
import Derived.Test.YtflddbgadkndlaaGreatDoorC27
import Derived.Deep.CutBlock
import Derived.Test.YtflddbgadkndlaaGreatDoorC28
import Derived.Test.YtflddbgadkndlaaGreatDoorCards
import Derived.Test.YtflddbgadkndlaaGreatDoorTie
import Derived.WalkKit
import Derived.ProofKit
import Derived.OpenShut
import Derived.Deep.DeepHandedRow
import Derived.Deep.DeepWitnessRowRef
import Derived.LaidMore
namespace Go.Proofs.YtflddbgadkndlaaGreatDoor
open Go.RowKit

/-- Two contracts in boxes of the call's own. -/
structure JBox (W : World) (X0 : Nat) (c d : Con) (es dd ss es2 dd2 ss2 : Value) : Prop where
  r1 : RdN W c es dd ss
  r2 : RdN W d es2 dd2 ss2
  b1 : CBox W X0 c es dd ss
  b2 : CBox W (X0 + 1) d es2 dd2 ss2
  s : LookS W
  p : LookP W
theorem JBox.low {A W : World} {X0 : Nat} {c d : Con} {es dd ss es2 dd2 ss2 : Value} (h : JBox A X0 c d es dd ss es2 dd2 ss2) (hb : Below A.heap.size A W) : JBox W X0 c d es dd ss es2 dd2 ss2 :=
  ⟨h.r1.frame hb, h.r2.frame hb, h.b1.low hb, h.b2.low hb, h.s.frame hb, h.p.frame hb⟩

set_option maxHeartbeats 8000000 in
set_option maxRecDepth 100000 in
theorem joins_any (c d : Con) (es dd ss es2 dd2 ss2 : Value) (day : Int) (W : World) (hB : c.bulk + d.bulk ≤ 1100000) (hr : RdN W c es dd ss) (hr2 : RdN W d es2 dd2 ss2) (hS : LookS W) (hP : LookP W) :
    Calls Tryz.prog 4 #[c.val es dd ss, d.val es2 dd2 ss2, .int .i64 day] W fun e W' => e = .returned (.bool true) ∧ Below W.heap.size W W' := by
  obtain ⟨ad, cap, rfl⟩ := hr.2.2.1.len
  obtain ⟨ad1, cap1, rfl⟩ := hr.1.len
  obtain ⟨ad2, cap2, rfl⟩ := hr.2.1.len
  obtain ⟨ad3, cap3, rfl⟩ := hr2.2.2.1.len
  obtain ⟨ad4, cap4, rfl⟩ := hr2.1.len
  obtain ⟨ad5, cap5, rfl⟩ := hr2.2.1.len
  obtain ⟨W2, hW2⟩ : ∃ W2, (W.alloc (.cells #[.int .u8 c.k, .string c.fr, .string c.rc, .string c.nm, .int .u8 c.ex.k, .string c.ex.ra, .string c.ex.nm, .int .i64 c.ex.d, .slice ad1 c.ex.sub.length cap1, .int .i64 c.d, .slice ad2 c.ds.length cap2, .slice ad c.sub.length cap] 29)).alloc (.cells #[.int .u8 d.k, .string d.fr, .string d.rc, .string d.nm, .int .u8 d.ex.k, .string d.ex.ra, .string d.ex.nm, .int .i64 d.ex.d, .slice ad4 d.ex.sub.length cap4, .int .i64 d.d, .slice ad5 d.ds.length cap5, .slice ad3 d.sub.length cap3] 29) = W2 := ⟨_, rfl⟩
  have hb2 : Below W.heap.size W W2 := hW2 ▸ below_a2 W _ _
  have HJ2 : Hid (JBox W2 W.heap.size c d (.slice ad1 c.ex.sub.length cap1) (.slice ad2 c.ds.length cap2) (.slice ad c.sub.length cap) (.slice ad4 d.ex.sub.length cap4) (.slice ad5 d.ds.length cap5) (.slice ad3 d.sub.length cap3)) := Lib.hid (by
    refine ⟨hr.frame hb2, hr2.frame hb2, ?_, ?_, hS.frame hb2, hP.frame hb2⟩
    · subst hW2
      exact (CBox.new W c _ _ _ 29).low (below_a1 _ _)
    · subst hW2
      have := CBox.new (W.alloc (.cells #[.int .u8 c.k, .string c.fr, .string c.rc, .string c.nm, .int .u8 c.ex.k, .string c.ex.ra, .string c.ex.nm, .int .i64 c.ex.d, .slice ad1 c.ex.sub.length cap1, .int .i64 c.d, .slice ad2 c.ds.length cap2, .slice ad c.sub.length cap] 29)) d (.slice ad4 d.ex.sub.length cap4) (.slice ad5 d.ds.length cap5) (.slice ad3 d.sub.length cap3) 29
      rw [World.size_alloc] at this
      exact this)
  have HAl := Lib.hid (alive_any _ HJ2.out.s HJ2.out.p)
  have HG1 := Lib.hid fun (V : World) (h : RdN V c (.slice ad1 c.ex.sub.length cap1) (.slice ad2 c.ds.length cap2) (.slice ad c.sub.length cap)) => cgreat_any c _ _ _ V (by omega) h
  have HG2 := Lib.hid fun (V : World) (h : RdN V d (.slice ad4 d.ex.sub.length cap4) (.slice ad5 d.ds.length cap5) (.slice ad3 d.sub.length cap3)) => cgreat_any d _ _ _ V (by omega) h
  have HN1 := Lib.hid fun (V : World) (h : RdN V c (.slice ad1 c.ex.sub.length cap1) (.slice ad2 c.ds.length cap2) (.slice ad c.sub.length cap)) => needs_rd c _ _ _ day V (by omega) h
  have HN2 := Lib.hid fun (V : World) (h : RdN V d (.slice ad4 d.ex.sub.length cap4) (.slice ad5 d.ds.length cap5) (.slice ad3 d.sub.length cap3)) => needs_rd d _ _ _ day V (by omega) h
  have HC1 := Lib.hid fun (V : World) (h : RdN V c (.slice ad1 c.ex.sub.length cap1) (.slice ad2 c.ds.length cap2) (.slice ad c.sub.length cap)) => causal_any c _ _ _ day V (by omega) h
  have HC2 := Lib.hid fun (V : World) (h : RdN V d (.slice ad4 d.ex.sub.length cap4) (.slice ad5 d.ds.length cap5) (.slice ad3 d.sub.length cap3)) => causal_any d _ _ _ day V (by omega) h
  unfold Con.val at HG1 HG2 HN1 HN2 HC1 HC2 ⊢
  clear hr hr2 hS hP
  go_enter Tryz.func4, Tryz.ntmps4
  go_wp2_with fail
  refine HAl.out.mono ?_
  rintro e w3 ⟨rfl, hb3⟩
  have hw3 := hb2.trans (hb3.mono hb2.size)
  have HJ3 := Lib.hid (HJ2.out.low hb3)
  clear hW2 hb2 hb3 HJ2 HAl
  obtain ⟨c0, c1, c2, c3, c4, c5, c6, c7, c8, c9, c10, c11⟩ := HJ3.out.b1
  go_wp2_with fail
  refine (HG1.out _ HJ3.out.r1).mono ?_
  rintro e w4 ⟨⟨g1, rfl⟩, hb4⟩
  have hw4 := hw3.trans (hb4.mono hw3.size)
  have HJ4 := Lib.hid (HJ3.out.low hb4)
  clear c0 c1 c2 c3 c4 c5 c6 c7 c8 c9 c10 c11 HJ3 HG1
  cases g1 with
  | true =>
    go_wp2_with fail
    go_ret
    exact ⟨ret_bool' rfl, hw4⟩
  | false =>
    obtain ⟨c0, c1, c2, c3, c4, c5, c6, c7, c8, c9, c10, c11⟩ := HJ4.out.b2
    go_wp2_with fail
    refine (HG2.out _ HJ4.out.r2).mono ?_
    rintro e w5 ⟨⟨g2, rfl⟩, hb5⟩
    have hw5 := hw4.trans (hb5.mono hw4.size)
    have HJ5 := Lib.hid (HJ4.out.low hb5)
    clear c0 c1 c2 c3 c4 c5 c6 c7 c8 c9 c10 c11 HJ4 HG2
    cases g2 with
    | true =>
      go_wp2_with fail
      go_ret
      exact ⟨ret_bool' rfl, hw5⟩
    | false =>
      obtain ⟨c0, c1, c2, c3, c4, c5, c6, c7, c8, c9, c10, c11⟩ := HJ5.out.b1
      go_wp2_with fail
      refine (HN1.out _ HJ5.out.r1 HJ5.out.s HJ5.out.p).mono ?_
      rintro e w6 ⟨a1, k1, rfl, hn6, hb6⟩
      have hw6 := hw5.trans (hb6.mono hw5.size)
      have HJ6 := Lib.hid (HJ5.out.low hb6)
      clear c0 c1 c2 c3 c4 c5 c6 c7 c8 c9 c10 c11 HJ5
      obtain ⟨c0, c1, c2, c3, c4, c5, c6, c7, c8, c9, c10, c11⟩ := HJ6.out.b2
      go_wp2_with fail
      refine (HN2.out _ HJ6.out.r2 HJ6.out.s HJ6.out.p).mono ?_
      rintro e w7 ⟨a2, k2, rfl, hn7, hb7⟩
      have hw7 := hw6.trans (hb7.mono hw6.size)
      have HJ7 := Lib.hid (HJ6.out.low hb7)
      have Hn7 := Lib.hid (hn6.low hb7)
      have Hm7 := Lib.hid hn7
      clear c0 c1 c2 c3 c4 c5 c6 c7 c8 c9 c10 c11 HJ6 hn6 hn7 hb6 hb7 hb5 hb4
      obtain ⟨c0, c1, c2, c3, c4, c5, c6, c7, c8, c9, c10, c11⟩ := HJ7.out.b1
      obtain ⟨d0, d1, d2, d3, d4, d5, d6, d7, d8, d9, d10, d11⟩ := HJ7.out.b2
      obtain ⟨en, hen⟩ : ∃ en, nErr c day = en := ⟨_, rfl⟩
      obtain ⟨em, hem⟩ : ∃ em, nErr d day = em := ⟨_, rfl⟩
      have HE := Lib.hid (And.intro hen hem)
      rw [hen]
      rw [hem]
      clear hen hem
      go_wp2_with fail
      obtain ⟨hrB, hbB⟩ := both_setup HJ7.out.r1 HJ7.out.r2
      have hb8 := (below_a1 w7 (oTwo c d (.slice ad1 c.ex.sub.length cap1) (.slice ad2 c.ds.length cap2) (.slice ad c.sub.length cap) (.slice ad4 d.ex.sub.length cap4) (.slice ad5 d.ds.length cap5) (.slice ad3 d.sub.length cap3)))
      have hb8 := hb8.trans ((below_a1 _ (oBoth w7.heap.size)).mono hb8.size)
      change Calls _ _ _ ((w7.alloc (oTwo c d (.slice ad1 c.ex.sub.length cap1) (.slice ad2 c.ds.length cap2) (.slice ad c.sub.length cap) (.slice ad4 d.ex.sub.length cap4) (.slice ad5 d.ds.length cap5) (.slice ad3 d.sub.length cap3))).alloc (oBoth w7.heap.size)) _
      generalize ((w7.alloc (oTwo c d (.slice ad1 c.ex.sub.length cap1) (.slice ad2 c.ds.length cap2) (.slice ad c.sub.length cap) (.slice ad4 d.ex.sub.length cap4) (.slice ad5 d.ds.length cap5) (.slice ad3 d.sub.length cap3))).alloc (oBoth w7.heap.size)) = w8 at hrB hbB hb8 ⊢
      have hw8 := hw7.trans (hb8.mono hw7.size)
      have HJ8 := Lib.hid (HJ7.out.low hb8)
      have Hn8 := Lib.hid (Hn7.out.low hb8)
      have Hm8 := Lib.hid (Hm7.out.low hb8)
      clear c0 c1 c2 c3 c4 c5 c6 c7 c8 c9 c10 c11 d0 d1 d2 d3 d4 d5 d6 d7 d8 d9 d10 d11 hb8 HJ7 Hn7 Hm7
      obtain ⟨S2, hS2⟩ : ∃ S2, w7.heap.size = S2 := ⟨_, rfl⟩
      rw [hS2] at hrB hbB ⊢
      clear hS2
      have hBB : (bothC c d).bulk ≤ 1100100 := by
        rw [Con.bulk_eq]
        show 0 + 0 + 0 + exZ.bulk + 0 + 8 + Con.bulks [c, d] ≤ 1100100
        have e1 : exZ.bulk = 6 := by decide
        rw [Con.bulks, Con.bulks, Con.bulks, e1]
        omega
      have HB := Lib.hid fun (V : World) (h : Below w8.heap.size w8 V) => needs_rd (bothC c d) _ _ _ day V (by omega) (hrB.frame h) (HJ8.out.s.frame h) (HJ8.out.p.frame h)
      have HCB := Lib.hid fun (V : World) (h : Below w8.heap.size w8 V) => causal_any (bothC c d) _ _ _ day V (by omega) (hrB.frame h) (HJ8.out.s.frame h) (HJ8.out.p.frame h)
      have HbB := Lib.hid hbB
      clear hrB hbB hBB
      refine (show Calls _ _ _ w8 _ from HB.out w8 (Below.refl _ _)).mono ?_
      rintro e w9 ⟨a3, k3, rfl, hn9, hb9⟩
      have hw9 := hw8.trans (hb9.mono hw8.size)
      have HJ9 := Lib.hid (HJ8.out.low hb9)
      have Hn9 := Lib.hid (Hn8.out.low hb9)
      have Hm9 := Lib.hid (Hm8.out.low hb9)
      have Hl9 := Lib.hid hn9
      have HbB9 := Lib.hid (HbB.out.low hb9)
      clear HJ8 Hn8 Hm8 hn9 HbB
      obtain ⟨eb, heb⟩ : ∃ eb, nErr (bothC c d) day = eb := ⟨_, rfl⟩
      have HEb := Lib.hid heb
      rw [heb]
      clear heb
      by_cases zn : en = 0
      · by_cases zm : em = 0
        · by_cases zb : eb = 0
          · subst zn zm zb
            obtain ⟨x, hx⟩ : ∃ x, causErr c day = x := ⟨_, rfl⟩
            obtain ⟨y, hy⟩ : ∃ y, causErr d day = y := ⟨_, rfl⟩
            obtain ⟨z, hz⟩ : ∃ z, causErr (bothC c d) day = z := ⟨_, rfl⟩
            have HX : Hid (((x = 0 ∨ x = 34) ∧ (y = 0 ∨ y = 34)) ∧ z = if x = 0 ∧ y = 0 then 0 else 34) := Lib.hid (by
              rw [← hx, ← hy, ← hz]; exact join_caus HE.out.1 HE.out.2 HEb.out)
            have HCB9 := Lib.hid fun (V : World) (h : Below w9.heap.size w9 V) => HCB.out V (hb9.trans (h.mono hb9.size))
            rw [hx] at HC1
            rw [hy] at HC2
            rw [hz] at HCB9
            clear HN1 HN2 HCB
            go_upto_region 10 with fail
            go_cut [15, 16, 17] from 66 to 74 (fun p q r wd => p = .int .i64 x ∧ q = .int .i64 y ∧ r = .int .i64 z ∧ Below w9.heap.size w9 wd)
            case first =>
              have HK : Hid (∀ V, Below w9.heap.size w9 V → JBox V W.heap.size c d (.slice ad1 c.ex.sub.length cap1) (.slice ad2 c.ds.length cap2) (.slice ad c.sub.length cap) (.slice ad4 d.ex.sub.length cap4) (.slice ad5 d.ds.length cap5) (.slice ad3 d.sub.length cap3) ∧ CBox V (S2 + 1) (bothC c d) (.slice none 0 0) (.slice none 0 0) (.slice (some ⟨S2, 0, none⟩) 2 2)) := Lib.hid fun V h => ⟨HJ9.out.low h, HbB9.out.low h⟩
              refine wp_region_inv (fun L a w' => ∃ p q r v0 v1 v2 v3 v4 v5 v6 v7 v8, a = ⟨#[.agg #[.int .u8 ↑c.k, .string c.fr, .string c.rc, .string c.nm, .int .u8 ↑c.ex.k, .string c.ex.ra, .string c.ex.nm, .int .i64 c.ex.d, .slice ad1 c.ex.sub.length cap1, .int .i64 c.d, .slice ad2 c.ds.length cap2, .slice ad c.sub.length cap], .agg #[.int .u8 ↑d.k, .string d.fr, .string d.rc, .string d.nm, .int .u8 ↑d.ex.k, .string d.ex.ra, .string d.ex.nm, .int .i64 d.ex.d, .slice ad4 d.ex.sub.length cap4, .int .i64 d.d, .slice ad5 d.ds.length cap5, .slice ad3 d.sub.length cap3], .int .i64 day, .pointer (some ⟨W.heap.size, 0, none⟩), .pointer (some ⟨W.heap.size + 1, 0, none⟩), undef, .bool false, .bool true, .slice a1 (nSet c day).length k1, .int .i64 0, .slice a2 (nSet d day).length k2, .int .i64 0, .pointer (some ⟨S2 + 1, 0, none⟩), .slice a3 (nSet (bothC c d) day).length k3, .int .i64 0, p, q, r, undef, undef, undef, .bool true, .agg #[.int .u8 ↑c.k, .string c.fr, .string c.rc, .string c.nm, .int .u8 ↑c.ex.k, .string c.ex.ra, .string c.ex.nm, .int .i64 c.ex.d, .slice ad1 c.ex.sub.length cap1, .int .i64 c.d, .slice ad2 c.ds.length cap2, .slice ad c.sub.length cap], .bool false, .bool false, .agg #[.int .u8 ↑d.k, .string d.fr, .string d.rc, .string d.nm, .int .u8 ↑d.ex.k, .string d.ex.ra, .string d.ex.nm, .int .i64 d.ex.d, .slice ad4 d.ex.sub.length cap4, .int .i64 d.d, .slice ad5 d.ds.length cap5, .slice ad3 d.sub.length cap3], .bool false, .bool false, .bool false, .bool true, .bool false, .bool false, undef, .tuple #[.slice a1 (nSet c day).length k1, .int .i64 0], .agg #[.int .u8 ↑c.k, .string c.fr, .string c.rc, .string c.nm, .int .u8 ↑c.ex.k, .string c.ex.ra, .string c.ex.nm, .int .i64 c.ex.d, .slice ad1 c.ex.sub.length cap1, .int .i64 c.d, .slice ad2 c.ds.length cap2, .slice ad c.sub.length cap], .int .i64 day, .tuple #[.slice a1 (nSet c day).length k1, .int .i64 0], .slice a1 (nSet c day).length k1, .int .i64 0, .tuple #[.slice a2 (nSet d day).length k2, .int .i64 0], .agg #[.int .u8 ↑d.k, .string d.fr, .string d.rc, .string d.nm, .int .u8 ↑d.ex.k, .string d.ex.ra, .string d.ex.nm, .int .i64 d.ex.d, .slice ad4 d.ex.sub.length cap4, .int .i64 d.d, .slice ad5 d.ds.length cap5, .slice ad3 d.sub.length cap3], .int .i64 day, .tuple #[.slice a2 (nSet d day).length k2, .int .i64 0], .slice a2 (nSet d day).length k2, .int .i64 0, .agg #[.int .u8 ↑c.k, .string c.fr, .string c.rc, .string c.nm, .int .u8 ↑c.ex.k, .string c.ex.ra, .string c.ex.nm, .int .i64 c.ex.d, .slice ad1 c.ex.sub.length cap1, .int .i64 c.d, .slice ad2 c.ds.length cap2, .slice ad c.sub.length cap], .agg #[.int .u8 ↑d.k, .string d.fr, .string d.rc, .string d.nm, .int .u8 ↑d.ex.k, .string d.ex.ra, .string d.ex.nm, .int .i64 d.ex.d, .slice ad4 d.ex.sub.length cap4, .int .i64 d.d, .slice ad5 d.ds.length cap5, .slice ad3 d.sub.length cap3], .slice (some ⟨S2, 0, none⟩) 2 2, .agg #[.int .u8 3, .string ⟨#[]⟩, .string ⟨#[]⟩, .string ⟨#[]⟩, .int .u8 0, .string ⟨#[]⟩, .string ⟨#[]⟩, .int .i64 0, .slice none 0 0, .int .i64 0, .slice none 0 0, .slice (some ⟨S2, 0, none⟩) 2 2], .tuple #[.slice a3 (nSet (bothC c d) day).length k3, .int .i64 0], .agg #[.int .u8 3, .string ⟨#[]⟩, .string ⟨#[]⟩, .string ⟨#[]⟩, .int .u8 0, .string ⟨#[]⟩, .string ⟨#[]⟩, .int .i64 0, .slice none 0 0, .int .i64 0, .slice none 0 0, .slice (some ⟨S2, 0, none⟩) 2 2], .int .i64 day, .tuple #[.slice a3 (nSet (bothC c d) day).length k3, .int .i64 0], .slice a3 (nSet (bothC c d) day).length k3, .int .i64 0, .int .i64 0, .bool false, .bool false, .int .i64 0, .bool false, .bool false, .bool false, .int .i64 0, .bool false, .bool false, undef, v0, v1, v2, v3, v4, v5, v6, v7, v8, undef, undef, undef, undef, undef, undef, undef, undef, undef, undef, undef, undef, undef, undef, undef, undef, undef, undef, undef, undef, undef, undef, undef, undef, undef, undef, undef, undef, undef, undef, undef, undef, undef, undef, undef, undef, undef, undef, undef, undef, undef, undef, undef, undef, undef, undef, undef, undef, undef, undef, undef, undef, undef, undef, undef, undef, undef, undef, undef, undef, undef, undef], []⟩ ∧ JInv w9 (.agg #[.int .u8 c.k, .string c.fr, .string c.rc, .string c.nm, .int .u8 c.ex.k, .string c.ex.ra, .string c.ex.nm, .int .i64 c.ex.d, .slice ad1 c.ex.sub.length cap1, .int .i64 c.d, .slice ad2 c.ds.length cap2, .slice ad c.sub.length cap]) (.agg #[.int .u8 d.k, .string d.fr, .string d.rc, .string d.nm, .int .u8 d.ex.k, .string d.ex.ra, .string d.ex.nm, .int .i64 d.ex.d, .slice ad4 d.ex.sub.length cap4, .int .i64 d.d, .slice ad5 d.ds.length cap5, .slice ad3 d.sub.length cap3]) (.agg #[.int .u8 3, .string ⟨#[]⟩, .string ⟨#[]⟩, .string ⟨#[]⟩, .int .u8 0, .string ⟨#[]⟩, .string ⟨#[]⟩, .int .i64 0, .slice none 0 0, .int .i64 0, .slice none 0 0, .slice (some ⟨S2, 0, none⟩) 2 2]) day x y z L p q r v0 v1 v2 v3 v4 v5 v6 v7 v8 w') (by kernel_rfl) (by kernel_rfl) ?_ ?_ ?_
              · exact ⟨_, _, _, _, _, _, _, _, _, _, _, _, rfl, JInv.start (Below.refl _ _).drew⟩
              · rintro L a w' ⟨p, q, r, v0, v1, v2, v3, v4, v5, v6, v7, v8, rfl, h⟩ i o ho hL hp
                have hi : i < 12 := by simpa using (Array.getElem?_eq_some_iff.1 ho).1
                have hi2 : i = 0 ∨ i = 1 ∨ i = 2 ∨ i = 3 ∨ i = 4 ∨ i = 5 ∨ i = 6 ∨ i = 7 ∨ i = 8 ∨ i = 9 ∨ i = 10 ∨ i = 11 := by omega
                clear hi
                rcases hi2 with rfl | rfl | rfl | rfl | rfl | rfl | rfl | rfl | rfl | rfl | rfl | rfl
                · refine wpOp_step rfl ?_
                  intro K hK
                  obtain ⟨c0, c1, c2, c3, c4, c5, c6, c7, c8, c9, c10, c11⟩ := (HK.out _ h.b).1.b1
                  go_simp
                  exact hK _ _ ⟨_, _, _, _, _, _, _, _, _, _, _, _, rfl, ⟨h.b, fun _ => rfl, h.f1, h.f2, h.f3, h.f4, h.f5, h.f6, h.f7, h.f8, h.f9, h.f10, h.f11⟩⟩
                · refine wpOp_step rfl ?_
                  intro K hK
                  go_simp
                  exact hK _ _ ⟨_, _, _, _, _, _, _, _, _, _, _, _, rfl, ⟨h.b, h.f0, fun _ => rfl, h.f2, h.f3, h.f4, h.f5, h.f6, h.f7, h.f8, h.f9, h.f10, h.f11⟩⟩
                · refine wpOp_step rfl ?_
                  intro K hK
                  obtain rfl := h.f0 (pred_spec ho hp (j := 0) (by kernel_rfl))
                  obtain rfl := h.f1 (pred_spec ho hp (j := 1) (by kernel_rfl))
                  go_simp
                  refine (show Calls _ _ _ w' _ from (HC1.out _ (HK.out _ h.b).1.r1 (HK.out _ h.b).1.s (HK.out _ h.b).1.p)).mono ?_
                  rintro e w4 ⟨rfl, hb4⟩
                  exact hK _ _ ⟨_, _, _, _, _, _, _, _, _, _, _, _, rfl, ⟨h.b.trans (hb4.mono h.b.size), h.f0, h.f1, fun _ => rfl, h.f3, h.f4, h.f5, h.f6, h.f7, h.f8, h.f9, h.f10, h.f11⟩⟩
                · refine wpOp_step rfl ?_
                  intro K hK
                  obtain ⟨c0, c1, c2, c3, c4, c5, c6, c7, c8, c9, c10, c11⟩ := (HK.out _ h.b).1.b2
                  go_simp
                  exact hK _ _ ⟨_, _, _, _, _, _, _, _, _, _, _, _, rfl, ⟨h.b, h.f0, h.f1, h.f2, fun _ => rfl, h.f4, h.f5, h.f6, h.f7, h.f8, h.f9, h.f10, h.f11⟩⟩
                · refine wpOp_step rfl ?_
                  intro K hK
                  go_simp
                  exact hK _ _ ⟨_, _, _, _, _, _, _, _, _, _, _, _, rfl, ⟨h.b, h.f0, h.f1, h.f2, h.f3, fun _ => rfl, h.f5, h.f6, h.f7, h.f8, h.f9, h.f10, h.f11⟩⟩
                · refine wpOp_step rfl ?_
                  intro K hK
                  obtain rfl := h.f3 (pred_spec ho hp (j := 3) (by kernel_rfl))
                  obtain rfl := h.f4 (pred_spec ho hp (j := 4) (by kernel_rfl))
                  go_simp
                  refine (show Calls _ _ _ w' _ from (HC2.out _ (HK.out _ h.b).1.r2 (HK.out _ h.b).1.s (HK.out _ h.b).1.p)).mono ?_
                  rintro e w4 ⟨rfl, hb4⟩
                  exact hK _ _ ⟨_, _, _, _, _, _, _, _, _, _, _, _, rfl, ⟨h.b.trans (hb4.mono h.b.size), h.f0, h.f1, h.f2, h.f3, h.f4, fun _ => rfl, h.f6, h.f7, h.f8, h.f9, h.f10, h.f11⟩⟩
                · refine wpOp_step rfl ?_
                  intro K hK
                  obtain ⟨c0, c1, c2, c3, c4, c5, c6, c7, c8, c9, c10, c11⟩ := both_cells (HK.out _ h.b).2
                  go_simp
                  exact hK _ _ ⟨_, _, _, _, _, _, _, _, _, _, _, _, rfl, ⟨h.b, h.f0, h.f1, h.f2, h.f3, h.f4, h.f5, fun _ => rfl, h.f7, h.f8, h.f9, h.f10, h.f11⟩⟩
                · refine wpOp_step rfl ?_
                  intro K hK
                  go_simp
                  exact hK _ _ ⟨_, _, _, _, _, _, _, _, _, _, _, _, rfl, ⟨h.b, h.f0, h.f1, h.f2, h.f3, h.f4, h.f5, h.f6, fun _ => rfl, h.f8, h.f9, h.f10, h.f11⟩⟩
                · refine wpOp_step rfl ?_
                  intro K hK
                  obtain rfl := h.f6 (pred_spec ho hp (j := 6) (by kernel_rfl))
                  obtain rfl := h.f7 (pred_spec ho hp (j := 7) (by kernel_rfl))
                  go_simp
                  refine (show Calls _ _ _ w' _ from (HCB9.out _ h.b)).mono ?_
                  rintro e w4 ⟨rfl, hb4⟩
                  exact hK _ _ ⟨_, _, _, _, _, _, _, _, _, _, _, _, rfl, ⟨h.b.trans (hb4.mono h.b.size), h.f0, h.f1, h.f2, h.f3, h.f4, h.f5, h.f6, h.f7, fun _ => rfl, h.f9, h.f10, h.f11⟩⟩
                · refine wpOp_step rfl ?_
                  intro K hK
                  obtain rfl := h.f2 (pred_spec ho hp (j := 2) (by kernel_rfl))
                  go_simp
                  exact hK _ _ ⟨_, _, _, _, _, _, _, _, _, _, _, _, rfl, ⟨h.b, h.f0, h.f1, h.f2, h.f3, h.f4, h.f5, h.f6, h.f7, h.f8, fun _ => rfl, h.f10, h.f11⟩⟩
                · refine wpOp_step rfl ?_
                  intro K hK
                  obtain rfl := h.f5 (pred_spec ho hp (j := 5) (by kernel_rfl))
                  go_simp
                  exact hK _ _ ⟨_, _, _, _, _, _, _, _, _, _, _, _, rfl, ⟨h.b, h.f0, h.f1, h.f2, h.f3, h.f4, h.f5, h.f6, h.f7, h.f8, h.f9, fun _ => rfl, h.f11⟩⟩
                · refine wpOp_step rfl ?_
                  intro K hK
                  obtain rfl := h.f8 (pred_spec ho hp (j := 8) (by kernel_rfl))
                  go_simp
                  exact hK _ _ ⟨_, _, _, _, _, _, _, _, _, _, _, _, rfl, ⟨h.b, h.f0, h.f1, h.f2, h.f3, h.f4, h.f5, h.f6, h.f7, h.f8, h.f9, h.f10, fun _ => rfl⟩⟩
              · rintro L a w' ⟨p, q, r, v0, v1, v2, v3, v4, v5, v6, v7, v8, rfl, h⟩ hall
                have HF : Hid (p = .int .i64 x ∧ q = .int .i64 y ∧ r = .int .i64 z ∧ Below w9.heap.size w9 w') := Lib.hid ⟨h.f9 (hall 9 (by decide)), h.f10 (hall 10 (by decide)), h.f11 (hall 11 (by decide)), h.b⟩
                clear h hall
                go_wp2
                go_meet
                exact HF.out
            case rest =>
              obtain ⟨rfl, rfl, rfl, hcb⟩ := hcut
              have hwc := hw9.trans (hcb.mono hw9.size)
              have HJc := Lib.hid (HJ9.out.low hcb)
              have Hnc := Lib.hid (Hn9.out.low hcb)
              have Hmc := Lib.hid (Hm9.out.low hcb)
              have Hlc := Lib.hid (Hl9.out.low hcb)
              have L1 := Lib.hid (nSet_len c day)
              have L2 := Lib.hid (nSet_len d day)
              have L3 := Lib.hid (nSet_len (bothC c d) day)
              have K1 : Hid (∀ V, Below wc.heap.size wc V → Calls Tryz.prog 22 #[.slice a3 (nSet (bothC c d) day).length k3, .slice a1 (nSet c day).length k1, .slice a2 (nSet d day).length k2] V fun e V' => e = .returned (.bool true) ∧ Below V.heap.size V V') := Lib.hid fun V h => by
                have := ndIn_any _ _ _ _ _ _ V (Hlc.out.low h) (Hnc.out.low h) (Hmc.out.low h) (by have := L3.out; omega) (by have := L1.out; omega) (by have := L2.out; omega)
                rwa [join_w0 HE.out.1 HE.out.2 HEb.out] at this
              have K2 : Hid (∀ V, Below wc.heap.size wc V → Calls Tryz.prog 22 #[.slice a1 (nSet c day).length k1, .slice a3 (nSet (bothC c d) day).length k3, .slice none 0 0] V fun e V' => e = .returned (.bool true) ∧ Below V.heap.size V V') := Lib.hid fun V h => by
                have := ndIn_any _ _ [] _ _ (.slice none 0 0) V (Hnc.out.low h) (Hlc.out.low h) ⟨none, 0, rfl, fun k x hx => by simp at hx⟩ (by have := L1.out; omega) (by have := L3.out; omega) (by decide)
                rwa [join_w1 HE.out.1 HE.out.2 HEb.out] at this
              have K3 : Hid (∀ V, Below wc.heap.size wc V → Calls Tryz.prog 22 #[.slice a2 (nSet d day).length k2, .slice a3 (nSet (bothC c d) day).length k3, .slice none 0 0] V fun e V' => e = .returned (.bool true) ∧ Below V.heap.size V V') := Lib.hid fun V h => by
                have := ndIn_any _ _ [] _ _ (.slice none 0 0) V (Hmc.out.low h) (Hlc.out.low h) ⟨none, 0, rfl, fun k x hx => by simp at hx⟩ (by have := L2.out; omega) (by have := L3.out; omega) (by decide)
                rwa [join_w2 HE.out.1 HE.out.2 HEb.out] at this
              clear HJ9 Hn9 Hm9 Hl9 HbB9 HCB9 HC2
              go_upto_region 11 with fail
              go_cut [102] from 75 to 101 (fun v wd => v = .bool false ∧ Below wc.heap.size wc wd)
              case first =>
                go_wp2_with fail
                refine (K1.out _ (Below.refl _ _)).mono ?_
                rintro e u1 ⟨rfl, hu1⟩
                go_wp2_with fail
                refine (K2.out _ hu1).mono ?_
                rintro e u2 ⟨rfl, hu2⟩
                have hv2 := hu1.trans (hu2.mono hu1.size)
                go_wp2_with fail
                refine (K3.out _ hv2).mono ?_
                rintro e u3 ⟨rfl, hu3⟩
                have hv3 := hv2.trans (hu3.mono hv2.size)
                obtain ⟨⟨hx1 | hx1, hy1 | hy1⟩, hz1⟩ := HX.out
                all_goals
                  rw [hx1, hy1] at hz1
                  simp at hz1
                  subst hx1 hy1 hz1
                  go_wp2
                  go_meet
                  exact ⟨rfl, hv3⟩
              case rest =>
                obtain ⟨rfl, hud⟩ := hcut
                have hwd := hwc.trans (hud.mono hwc.size)
                have HJd := Lib.hid (HJc.out.low hud)
                have Hnd := Lib.hid (Hnc.out.low hud)
                clear K1 K2 K3 HJc Hnc Hmc Hlc hud hwc
                obtain ⟨c0, c1, c2, c3, c4, c5, c6, c7, c8, c9, c10, c11⟩ := HJd.out.b1
                go_wp2_with fail
                obtain ⟨hrS, hbS⟩ := sca_setup day HJd.out.r1
                have hb12 := below_a1 wc (oOne c (.slice ad1 c.ex.sub.length cap1) (.slice ad2 c.ds.length cap2) (.slice ad c.sub.length cap))
                have hb12 := hb12.trans ((below_a1 _ (oAtD day wc.heap.size)).mono hb12.size)
                have hb12 := hb12.trans ((below_a1 _ (oSca (wc.heap.size + 1))).mono hb12.size)
                change Calls _ _ _ (((wc.alloc (oOne c (.slice ad1 c.ex.sub.length cap1) (.slice ad2 c.ds.length cap2) (.slice ad c.sub.length cap))).alloc (oAtD day wc.heap.size)).alloc (oSca (wc.heap.size + 1))) _
                generalize (((wc.alloc (oOne c (.slice ad1 c.ex.sub.length cap1) (.slice ad2 c.ds.length cap2) (.slice ad c.sub.length cap))).alloc (oAtD day wc.heap.size)).alloc (oSca (wc.heap.size + 1))) = w12 at hrS hbS hb12 ⊢
                have hw12 := hwd.trans (hb12.mono hwd.size)
                have HJe := Lib.hid (HJd.out.low hb12)
                have Hne := Lib.hid (Hnd.out.low hb12)
                clear c0 c1 c2 c3 c4 c5 c6 c7 c8 c9 c10 c11 HJd Hnd hb12 hwd
                obtain ⟨S3, hS3⟩ : ∃ S3, wc.heap.size = S3 := ⟨_, rfl⟩
                rw [hS3] at hrS hbS ⊢
                clear hS3
                have hBS : (scaC c day).bulk ≤ 1100100 := by
                  have e1 : (scaC c day).bulk = twoE.bulk + 8 + ((exZ.bulk + 8 + (c.bulk + 0)) + 0) := by
                    rw [Con.bulk_eq]
                    show 0 + 0 + 0 + twoE.bulk + 0 + 8 + Con.bulks [atD c day] = _
                    rw [Con.bulks, Con.bulks, Con.bulk_eq]
                    show 0 + 0 + 0 + twoE.bulk + 0 + 8 + (0 + 0 + 0 + exZ.bulk + 0 + 8 + Con.bulks [c] + 0) = _
                    rw [Con.bulks, Con.bulks]
                    omega
                  have e2 : exZ.bulk = 6 := by decide
                  have e3 : twoE.bulk = 7 := by decide
                  omega
                have HS := Lib.hid fun (V : World) (h : Below w12.heap.size w12 V) => causal_any (scaC c day) _ _ _ day V (by omega) (hrS.frame h) (HJe.out.s.frame h) (HJe.out.p.frame h)
                have HbS := Lib.hid hbS
                refine (show Calls _ _ _ w12 _ from needs_rd (scaC c day) _ _ _ day w12 (by omega) hrS HJe.out.s HJe.out.p).mono ?_
                rintro e w13 ⟨a4, k4, rfl, hn13, hb13⟩
                clear hrS hbS hBS
                have hw13 := hw12.trans (hb13.mono hw12.size)
                have Hnf := Lib.hid (Hne.out.low hb13)
                have Hng := Lib.hid hn13
                clear hn13 Hne HJe
                rcases sca_law HE.out.1 with h4 | ⟨h0, h1, h2⟩
                · rw [h4]
                  clear h4
                  go_wp2
                  go_ret
                  exact ⟨ret_bool' rfl, hw13⟩
                · rw [h1] at Hng
                  rw [h0, h1]
                  rw [h2, hx] at HS
                  clear h0 h1 h2
                  go_wp2_with fail
                  refine (sameNeeds_true _ _ _ _ Hng.out Hnf.out (by have := L1.out; omega)).mono ?_
                  rintro e w14 ⟨rfl, hb14⟩
                  have hb1214 := hb13.trans (hb14.mono hb13.size)
                  have hw14 := hw13.trans (hb14.mono hw13.size)
                  obtain ⟨c0, c1, c2, c3, c4, c5, c6, c7, c8, c9, c10, c11⟩ := sca_cells (HbS.out.low hb1214)
                  go_wp2_with fail
                  refine (show Calls _ _ _ w14 _ from HS.out w14 hb1214).mono ?_
                  rintro e w15 ⟨rfl, hb15⟩
                  clear c0 c1 c2 c3 c4 c5 c6 c7 c8 c9 c10 c11
                  have hw15 := hw14.trans (hb15.mono hw14.size)
                  clear hx
                  go_wp2
                  go_ret
                  exact ⟨ret_bool' rfl, hw15⟩
          · have q1 : (eb == 0) = false := by simp [zb]
            have q2 : (eb != 0) = true := by simp [zb]
            subst zn zm
            go_wp2
            all_goals
              go_ret
              exact ⟨ret_bool' rfl, hw9⟩
        · have q1 : (em == 0) = false := by simp [zm]
          have q2 : (em != 0) = true := by simp [zm]
          subst zn
          go_wp2
          all_goals
            go_ret
            exact ⟨ret_bool' rfl, hw9⟩
      · have q1 : (en == 0) = false := by simp [zn]
        have q2 : (en != 0) = true := by simp [zn]
        go_wp2
        all_goals
          go_ret
          exact ⟨ret_bool' rfl, hw9⟩
end Go.Proofs.YtflddbgadkndlaaGreatDoor

namespace Go.Proofs.YtflddbgadkndlaaGreatDoor
open Go.ChangeShapes Go.WideShapes Go.ChangeAt Go.RowKit Go.Joins Go.Deep

theorem own15 : ownKnob Tryz.prog.godebug = none := by kernel_rfl
theorem laidOut15 : laidOutB Tryz.prog = true := by kernel_rfl
set_option maxRecDepth 100000 in
/-- A contract that came in. -/
theorem open_con {H : Type} {enc : TypeId × Value → H} {W : World} {base : Nat} {sp : Nat → Bool} {held : Bool} {v : Value} {d : DataW H} {p : List MemPlace}
    (hv : Value.okWide Tryz.prog W .any base 29 v) (h : DataW.Trod enc Tryz.prog W 0 sp held 29 v d p) :
    ∃ (c : Con) (es dd ss : Value), v = c.val es dd ss ∧ RdN W c es dd ss ∧ c.bulk ≤ Rows.uptoBulk d := by
  obtain ⟨n, h⟩ := h
  obtain ⟨cs, rfl⟩ : ∃ cs, v = .agg cs := by
    unfold Value.okWide at hv
    cases v with
    | agg cs => exact ⟨cs, rfl⟩
    | _ => simp [Tryz.underlying29] at hv
  have hl : (Value.agg cs).cells.toList.length = 12 := by
    obtain ⟨_, _, _, _, hl, _⟩ := DataW.trod_struct Tryz.underlying29 h
    rw [hl]; exact cells_con
  obtain ⟨c, es, dd, ss, hc, hr, hb⟩ := dec_con n _ _ hl h
  refine ⟨c, es, dd, ss, ?_, hr, hb⟩
  have : cs = (c.cells es dd ss).toArray := by
    cases cs
    simp [Value.cells] at hc
    rw [hc]
  rw [this]
  rfl

set_option maxRecDepth 100000 in
theorem contractJ (H : Type) (enc : TypeId × Value → H) (W : World) (base : Nat) (args : Array Value) (ds gs : List (DataW H)) (before : List MemPlace)
    (hval : ∀ (j : Nat) t v, Tryz.f4.params[j]? = some t → args[j]? = some v → Value.okWide Tryz.prog W .any base t v)
    (hW : DataW.Whole enc Tryz.prog Tryz.f4.params.toList Rows.causalJoinsSpec.vars false W args.toList ds gs before) (hk : Rows.uptoSmall H (ds ++ gs) = true)
    (hL : laidMetH Tryz.prog Rows.causalJoinsUptoRow.laid W) :
    Calls Tryz.prog 4 args W fun e W' => ∃ v, e = .returned v ∧ Rows.causalJoinsSpec.post enc Tryz.prog Tryz.f4 false true false false W args v W' := by
  have hW' := hW
  obtain ⟨p, q, hA0, hV, rfl, hfz, hnd⟩ := hW
  have hA : DataW.TrodAll enc Tryz.prog W 0 (fun _ => true) true Tryz.f4.params.toList args.toList ds p := hA0
  rw [Tryz.params4] at hA hval
  obtain ⟨v0, vs0, d0, ds0, p0, q0, hargs, rfl, rfl, h0, r0⟩ := trodAll_cons hA
  obtain ⟨v1, vs1, d1, ds1, p1, q1, rfl, rfl, rfl, h1, r1⟩ := trodAll_cons r0
  obtain ⟨v2, vs2, d2, ds2, p2, q2, rfl, rfl, rfl, h2, r2⟩ := trodAll_cons r1
  obtain ⟨rfl, rfl, rfl⟩ := trodAll_nil r2
  obtain rfl : args = #[v0, v1, v2] := by cases args; simp_all
  obtain ⟨rfl, rfl⟩ := trodVars_none hV
  have l0 : ∀ x ∈ p0, x.block < W.heap.size := by obtain ⟨m, hm⟩ := h0; exact DataW.trod_lt m _ _ _ hm
  have l1 : ∀ x ∈ p1, x.block < W.heap.size := by obtain ⟨m, hm⟩ := h1; exact DataW.trod_lt m _ _ _ hm
  have hb : Rows.uptoBulkAll [d0, d1, d2] ≤ 1048576 := by
    have h : Rows.uptoBulkAll ([d0, d1, d2] ++ []) ≤ 1048576 := of_decide_eq_true hk
    rw [List.append_nil] at h
    exact h
  have b01 : Rows.uptoBulk d0 + Rows.uptoBulk d1 ≤ 1048576 := by
    simp only [Rows.uptoBulkAll] at hb
    omega
  obtain ⟨c, es, dd, ss, rfl, hr, hc⟩ := open_con (hval 0 _ v0 rfl rfl) h0
  obtain ⟨c2, es2, dd2, ss2, rfl, hr2, hc2⟩ := open_con (hval 1 _ v1 rfl rfl) h1
  obtain ⟨day, rfl, rfl, rfl, w2⟩ := open_int Tryz.underlying3 (hval 2 3 v2 rfl rfl) h2
  obtain ⟨hS, hP⟩ := laid_look hL
  clear hA0
  refine (joins_any c c2 es dd ss es2 dd2 ss2 day W (by omega) hr hr2 hS hP).mono fun e W' ⟨he, bel⟩ => ?_
  subst he
  exact ⟨_, rfl, _, _, _, [], _, [], hW', trodAll_mk1 (shut_bool Tryz.underlying4 _),
    trodAll_cons_mk (Below.trod laidOut15 (by kernel_rfl) (of_decide_eq_true (by kernel_rfl)) h0 bel l0) (trodAll_cons_mk (Below.trod laidOut15 (by kernel_rfl) (of_decide_eq_true (by kernel_rfl)) h1 bel l1) (trodAll_cons_mk (shut_int Tryz.underlying3 w2) trodAll_mk0)),
    rfl, bel.frame _, fun h => by cases h⟩

def argJ : Array Value := #[.agg #[.int .u8 0, .string ⟨#[]⟩, .string ⟨#[]⟩, .string ⟨#[]⟩, .int .u8 0, .string ⟨#[]⟩, .string ⟨#[]⟩, .int .i64 0, .slice none 0 0, .int .i64 0, .slice none 0 0, .slice none 0 0], .agg #[.int .u8 0, .string ⟨#[]⟩, .string ⟨#[]⟩, .string ⟨#[]⟩, .int .u8 0, .string ⟨#[]⟩, .string ⟨#[]⟩, .int .i64 0, .slice none 0 0, .int .i64 0, .slice none 0 0, .slice none 0 0], .int .i64 0]
theorem metJ (os : Os) : laidMetH Tryz.prog Rows.causalJoinsUptoRow.laid ((World.doorLaid Tryz.prog 146 os).forCall (fun _ _ => 0) ⟨#[], argJ, []⟩).memory :=
  laidMetH_of_parts3 (fuel := 8) (laidMet_of_run' 8 (by kernel_rfl) (by kernel_rfl)) (by kernel_rfl) (by kernel_rfl)
theorem readsJ (os : Os) {H : Type} (enc : TypeId × Value → H) : ∃ places, DataW.whole enc Tryz.prog ((World.doorLaid Tryz.prog 146 os).forCall (fun _ _ => 0) ⟨#[], argJ, []⟩).memory Tryz.f4.params.toList Rows.causalJoinsSpec.vars false argJ.toList 8 =
    some ([.agg [.lit (.int .u8 0), .lit (.string []), .lit (.string []), .lit (.string []), .agg [.lit (.int .u8 0), .lit (.string []), .lit (.string []), .lit (.int .i64 0), .nil], .lit (.int .i64 0), .nil, .nil], .agg [.lit (.int .u8 0), .lit (.string []), .lit (.string []), .lit (.string []), .agg [.lit (.int .u8 0), .lit (.string []), .lit (.string []), .lit (.int .i64 0), .nil], .lit (.int .i64 0), .nil, .nil], .lit (.int .i64 0)], [], places) :=
  ⟨[], by kernel_rfl⟩

set_option maxRecDepth 100000 in
theorem liftedJ (os : Os) (started : os.Started) (H : Type) (enc : TypeId × Value → H) (F : Stop.Interp) :
    ReturnsInHanded {} Tryz.checked os 4 .any ((Rows.OpenSpec.upto Rows.causalJoinsSpec).preRow enc Tryz.prog Tryz.f4 Rows.causalJoinsUptoRow.domain false Rows.causalJoinsUptoRow.laid) (((Rows.OpenSpec.upto Rows.causalJoinsSpec).at F).post enc Tryz.prog Tryz.f4 false true false false) := by
  obtain ⟨places, hx⟩ := readsJ os enc
  refine returnsInHanded_of_row (C := Tryz.checked) (s := Rows.OpenSpec.upto Rows.causalJoinsSpec) own15 started (by kernel_rfl) Tryz.func4
    (witness_row_atRef (enc := enc) (C := Tryz.checked) false (World.doorLaid Tryz.prog 146 os) argJ rfl (by kernel_rfl) (by kernel_rfl) (by kernel_rfl)
      (OpenSpec.preRow_of_cond 8 hx (by kernel_rfl) (fun k hk => by cases hk; kernel_rfl) (by kernel_rfl) (metJ os))) ?_
  intro W base args ds gs before hval hW _ hcond _ hL _ _
  exact contractJ H enc W base args ds gs before hval hW (hcond _ rfl) hL

theorem causalJoins_upto : Rows.CausalJoinsUptoSaid :=
  OpenClaim.holds_of_cond 4 Tryz.f4 rfl rfl rfl rfl rfl rfl rfl ⟨rfl, rfl, rfl, rfl, rfl⟩ rfl rfl rfl rfl rfl (by kernel_rfl) Tryz.func4 (by kernel_rfl)
    (of_decide_eq_true (by kernel_rfl)) (by unfold Func.isWrapper; first | (rw [if_pos (by decide +kernel)]; kernel_rfl) | (rw [if_neg (by decide +kernel)]; exact ⟨rfl, rfl⟩))
    (fun os started H enc _ F => by rw [OpenClaim.pre_eq_preRow]; exact liftedJ os started H enc F)

theorem plainJ (f : FuncId) (fn : Func) (hf : Tryz.pinned.checked.prog.funcNamed "novation/novationlaw15.CausalJoins" = some f) (hfn : Tryz.pinned.checked.prog.funcs[f]? = some fn) :
    false = Tryz.pinned.checked.prog.looks [] ∧ ∀ (j : Nat) t, fn.params[j]? = some t → Tryz.pinned.checked.prog.wantsStandIn t = false := by
  obtain rfl : f = 4 := Option.some.inj ((show Tryz.prog.funcNamed "novation/novationlaw15.CausalJoins" = some 4 by kernel_rfl).symm.trans hf) |>.symm
  obtain rfl : fn = Tryz.f4 := (Option.some.inj (Tryz.func4.symm.trans hfn)).symm
  refine ⟨by kernel_rfl, fun j t ht => ?_⟩
  rw [Tryz.params4] at ht
  have hm : t ∈ [29, 3] := by simpa using Array.mem_of_getElem? ht
  have hall : ([29, 3].all fun u => !Tryz.prog.wantsStandIn u) = true := by kernel_rfl
  exact (show Tryz.prog.wantsStandIn t = false by simpa using List.all_eq_true.1 hall t hm)
theorem causalJoins_card : Rows.CausalJoinsUptoCardSaid :=
  Claim7.holds_tied_plain_at .later [] _ _ _ _ causalJoins_upto (fun _ h => by cases h) (by kernel_rfl) (fun _ h => by cases h) causalJoinsUpto_row_tie rfl ⟨rfl, rfl⟩ (by kernel_rfl) rfl plainJ (by kernel_rfl)
#print axioms causalJoins_card
end Go.Proofs.YtflddbgadkndlaaGreatDoor
