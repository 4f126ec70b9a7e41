/-
  novationlaw15.CausalFinds.
-/
import Derived.Test.YtkonookacfmfgaaGreatDoorC10
import Derived.Test.YtkonookacfmfgaaGreatDoorC40
import Derived.Test.YtkonookacfmfgaaGreatDoorC18
import Derived.Test.YtkonookacfmfgaaGreatDoorC41
namespace Go.Proofs.YtkonookacfmfgaaGreatDoor
open Go.RowKit
theorem fuq_len {α : Type} [DecidableEq α] (lt : α → α → Bool) (l : List α) : (uniq lt l).length ≤ l.length := by
 rw [uniq]; exact Nat.le_trans (cmpct_len _) (by rw [List.length_mergeSort]; exact Nat.le_refl _)
set_option maxHeartbeats 8000000 in
set_option maxRecDepth 100000 in
theorem finds_any (x : Con) (es dd ss : Value) (day : Int) (W : World) (hM : x.bulk ≤ 1100000) (hs : RdN W x es dd ss) (hS : LookS W) (hP : LookP W) :
  Calls Tryz.prog 3 #[x.val es dd ss, .int .i64 day] W fun e W' => e = .returned (.bool true) ∧ Below W.heap.size W W' := by
 obtain ⟨ad, cap, rfl⟩ := hs.2.2.1.len
 obtain ⟨ad1, cap1, rfl⟩ := hs.1.len
 obtain ⟨ad2, cap2, rfl⟩ := hs.2.1.len
 have HS := Lib.hid hs
 have hx0 : ∃ W0, W.alloc (.cells #[.int .u8 x.k, .string x.fr, .string x.rc, .string x.nm, .int .u8 x.ex.k, .string x.ex.ra, .string x.ex.nm, .int .i64 x.ex.d, .slice ad1 x.ex.sub.length cap1, .int .i64 x.d, .slice ad2 x.ds.length cap2, .slice ad x.sub.length cap] 29) = W0 ∧ CBox W0 W.heap.size x (.slice ad1 x.ex.sub.length cap1) (.slice ad2 x.ds.length cap2) (.slice ad x.sub.length cap) ∧ Below W.heap.size W W0 ∧ W0.heap.size = W.heap.size + 1 := ⟨_, rfl, CBox.new _ _ _ _ _ _, below_a1 _ _, by rw [World.size_alloc]⟩
 obtain ⟨W0, hW0, bx, hb0, hz0⟩ := hx0
 have HG := Lib.hid fun (V : World) (h : Below W.heap.size W V) => cgreat_any x _ _ _ V (by omega) (hs.frame h)
 have HT := Lib.hid fun (V : World) (h : Below W.heap.size W V) => rtwinC_any x.bulk x _ _ _ V (Nat.le_refl _) (by omega) (hs.frame h)
 have HN := Lib.hid fun (V : World) (h : Below W.heap.size W V) => needs_any x _ _ _ day V (by omega) (hs.frame h) (hS.frame h) (hP.frame h)
 have HD := Lib.hid fun (V : World) (h : Below W.heap.size W V) => deadlines_any x _ _ _ day V hM (hs.frame h) (hS.frame h) (hP.frame h)
 have HY := Lib.hid fun (V : World) (h : Below W.heap.size W V) => causalDays_any x _ _ _ day V (by omega) (hs.frame h) (hS.frame h) (hP.frame h)
 have HL := Lib.hid fun (V : World) (h : Below W.heap.size W V) => causal_any x _ _ _ day V (by omega) (hs.frame h) (hS.frame h) (hP.frame h)
 have RN := Lib.hid fun (V : World) (h : Below W.heap.size W V) => rneeds_any x _ _ _ day V hM (hs.frame h)
 have RD := Lib.hid fun (V : World) (h : Below W.heap.size W V) => rdeadlines_any x _ _ _ day V hM (hs.frame h)
 have RY := Lib.hid fun (V : World) (h : Below W.heap.size W V) => rdays15_any x _ _ _ day V hM (hs.frame h)
 have RL := Lib.hid fun (V : World) (h : Below W.heap.size W V) => rcausal_any x _ _ _ day V hM (hs.frame h)
 have HX0 := Lib.hid bx
 obtain ⟨c0, c1, c2, c3, c4, c5, c6, c7, c8, c9, c10, c11⟩ := bx
 unfold Con.val at HG HT HN HD HY HL RN RD RY RL ⊢
 clear hs hS hP
 go_enter Tryz.func3, Tryz.ntmps3
 go_upto_region 1 with fail
 clear hW0
 go_wp2_with fail
 refine (HG.out _ hb0).mono ?_
 rintro e w1 ⟨⟨gr, rfl⟩, hb1⟩
 have hw1 := hb0.trans (hb1.mono hb0.size)
 have HX1 := Lib.hid (HX0.out.low hb1)
 clear c0 c1 c2 c3 c4 c5 c6 c7 c8 c9 c10 c11 hb1
 obtain ⟨c0, c1, c2, c3, c4, c5, c6, c7, c8, c9, c10, c11⟩ := HX1.out
 cases gr with
 | true =>
  go_wp2_with fail
  go_ret
  exact ⟨ret_bool' rfl, hw1⟩
 | false =>
  go_wp2_with fail
  refine (HT.out _ hw1).mono ?_
  rintro e w2 ⟨⟨s1, s2, s3⟩, rfl, hk2, ⟨⟨qa1, qn1, qc1, h1⟩, ⟨qa2, qn2, qc2, h2⟩, qa3, qn3, qc3, h3⟩, hb2⟩
  simp only at h1 h2 h3
  subst h1 h2 h3
  have hw2 := hw1.trans (hb2.mono hw1.size)
  have HX2 := Lib.hid (HX1.out.low hb2)
  have HTw := Lib.hid (show RdN w2 x _ _ _ from hk2.rd)
  obtain ⟨_, _, e9⟩ := HTw.out.1.len
  cases e9
  obtain ⟨_, _, e9⟩ := HTw.out.2.1.len
  cases e9
  obtain ⟨_, _, e9⟩ := HTw.out.2.2.1.len
  cases e9
  clear c0 c1 c2 c3 c4 c5 c6 c7 c8 c9 c10 c11 hb2 hk2
  have hx3 : ∃ W3, w2.alloc (.cells #[.int .u8 x.k, .string x.fr, .string x.rc, .string x.nm, .int .u8 x.ex.k, .string x.ex.ra, .string x.ex.nm, .int .i64 x.ex.d, .slice qa1 x.ex.sub.length qc1, .int .i64 x.d, .slice qa2 x.ds.length qc2, .slice qa3 x.sub.length qc3] 29) = W3 ∧ CBox W3 W.heap.size x (.slice ad1 x.ex.sub.length cap1) (.slice ad2 x.ds.length cap2) (.slice ad x.sub.length cap) ∧ CBox W3 w2.heap.size x (.slice qa1 x.ex.sub.length qc1) (.slice qa2 x.ds.length qc2) (.slice qa3 x.sub.length qc3) ∧ Below W.heap.size W W3 ∧ RdN W3 x (.slice qa1 x.ex.sub.length qc1) (.slice qa2 x.ds.length qc2) (.slice qa3 x.sub.length qc3) ∧ W.heap.size < w2.heap.size :=
   ⟨_, rfl, HX2.out.low (below_a1 _ _), CBox.new _ _ _ _ _ _, hw2.alloc hw2.size _, HTw.out.frame (below_a1 _ _), HX2.out.lt⟩
  obtain ⟨W3, hW3, hxc, hxt, hw3, htw, hltx⟩ := hx3
  have HC3 := Lib.hid hxc
  have HT3 := Lib.hid hxt
  have HR3 := Lib.hid htw
  obtain ⟨c0, c1, c2, c3, c4, c5, c6, c7, c8, c9, c10, c11⟩ := HX2.out
  obtain ⟨B5, hB5⟩ : ∃ B5, w2.heap.size = B5 := ⟨_, rfl⟩
  rw [hB5] at HT3 hltx
  clear hxc hxt htw HTw HX1
  go_upto_region 4 with fail
  clear hW3 hB5 c0 c1 c2 c3 c4 c5 c6 c7 c8 c9 c10 c11 HX2
  obtain ⟨c0, c1, c2, c3, c4, c5, c6, c7, c8, c9, c10, c11⟩ := HC3.out
  go_wp2_with fail
  refine (HN.out _ hw3).mono ?_
  rintro e w4 ⟨v4, rfl, ho4, hb4⟩
  have hw4 := hw3.trans (hb4.mono hw3.size)
  have HC4 := Lib.hid (CBox.low HC3.out hb4)
  have HT4 := Lib.hid (CBox.low HT3.out hb4)
  have HR4 := Lib.hid (RdN.frame HR3.out hb4)
  obtain ⟨aN, cN, rfl⟩ := ownsRow_shape ho4
  have HN4 := Lib.hid (RdNd.own ho4)
  clear ho4
  clear c0 c1 c2 c3 c4 c5 c6 c7 c8 c9 c10 c11 hb4 HC3 HT3 HR3
  obtain ⟨c0, c1, c2, c3, c4, c5, c6, c7, c8, c9, c10, c11⟩ := HC4.out
  go_wp2_with fail
  refine (RN.out _ hw4).mono ?_
  rintro e w5 ⟨aM, cM, rfl, h5, hb5⟩
  have hw5 := hw4.trans (hb5.mono hw4.size)
  have HC5 := Lib.hid (CBox.low HC4.out hb5)
  have HT5 := Lib.hid (CBox.low HT4.out hb5)
  have HR5 := Lib.hid (RdN.frame HR4.out hb5)
  have HN5 := Lib.hid (RdNd.low HN4.out hb5)
  have HM5 := Lib.hid h5
  clear h5
  clear c0 c1 c2 c3 c4 c5 c6 c7 c8 c9 c10 c11 hb5 HC4 HT4 HR4 HN4
  obtain ⟨c0, c1, c2, c3, c4, c5, c6, c7, c8, c9, c10, c11⟩ := HC5.out
  go_wp2_with fail
  refine (HD.out _ hw5).mono ?_
  rintro e w6 ⟨v6, rfl, ho6, hb6⟩
  have hw6 := hw5.trans (hb6.mono hw5.size)
  have HC6 := Lib.hid (CBox.low HC5.out hb6)
  have HT6 := Lib.hid (CBox.low HT5.out hb6)
  have HR6 := Lib.hid (RdN.frame HR5.out hb6)
  have HN6 := Lib.hid (RdNd.low HN5.out hb6)
  have HM6 := Lib.hid (RdNd.low HM5.out hb6)
  obtain ⟨aD, cD, rfl⟩ := ownsRow_shape ho6
  have HD6 := Lib.hid (RdCx.own ho6)
  clear ho6
  clear c0 c1 c2 c3 c4 c5 c6 c7 c8 c9 c10 c11 hb6 HC5 HT5 HR5 HN5 HM5
  obtain ⟨c0, c1, c2, c3, c4, c5, c6, c7, c8, c9, c10, c11⟩ := HC6.out
  go_wp2_with fail
  refine (RD.out _ hw6).mono ?_
  rintro e w7 ⟨aE, cE, rfl, h7, hb7⟩
  have hw7 := hw6.trans (hb7.mono hw6.size)
  have HC7 := Lib.hid (CBox.low HC6.out hb7)
  have HT7 := Lib.hid (CBox.low HT6.out hb7)
  have HR7 := Lib.hid (RdN.frame HR6.out hb7)
  have HN7 := Lib.hid (RdNd.low HN6.out hb7)
  have HM7 := Lib.hid (RdNd.low HM6.out hb7)
  have HD7 := Lib.hid (RdCx.low HD6.out hb7)
  have HE7 := Lib.hid h7
  have HCk := HC7
  have HTk := HT7
  have HRk := HR7
  have hwk := hw7
  clear h7
  clear c0 c1 c2 c3 c4 c5 c6 c7 c8 c9 c10 c11 hb7 HC6 HT6 HR6 HN6 HM6 HD6
  obtain ⟨c0, c1, c2, c3, c4, c5, c6, c7, c8, c9, c10, c11⟩ := HC7.out
  go_wp2_with fail
  refine (HY.out _ hw7).mono ?_
  rintro e w8 ⟨v8, rfl, ho8, hb8⟩
  have hw8 := hw7.trans (hb8.mono hw7.size)
  have HC8 := Lib.hid (CBox.low HC7.out hb8)
  have HT8 := Lib.hid (CBox.low HT7.out hb8)
  have HR8 := Lib.hid (RdN.frame HR7.out hb8)
  have HN8 := Lib.hid (RdNd.low HN7.out hb8)
  have HM8 := Lib.hid (RdNd.low HM7.out hb8)
  have HD8 := Lib.hid (RdCx.low HD7.out hb8)
  have HE8 := Lib.hid (RdCx.low HE7.out hb8)
  obtain ⟨aY, cY, rfl⟩ := ownsRow_shape ho8
  have HY8 := Lib.hid ho8
  have hz8 := hb8.size
  have hbk8 := hb8
  clear ho8
  clear c0 c1 c2 c3 c4 c5 c6 c7 c8 c9 c10 c11 hb8 HC7 HT7 HR7 HN7 HM7 HD7 HE7
  obtain ⟨c0, c1, c2, c3, c4, c5, c6, c7, c8, c9, c10, c11⟩ := HC8.out
  go_wp2_with fail
  refine (RY.out _ hw8).mono ?_
  rintro e w9 ⟨aZ, cZ, rfl, h9, hb9⟩
  have hw9 := hw8.trans (hb9.mono hw8.size)
  have HC9 := Lib.hid (CBox.low HC8.out hb9)
  have HT9 := Lib.hid (CBox.low HT8.out hb9)
  have HR9 := Lib.hid (RdN.frame HR8.out hb9)
  have HN9 := Lib.hid (RdNd.low HN8.out hb9)
  have HM9 := Lib.hid (RdNd.low HM8.out hb9)
  have HD9 := Lib.hid (RdCx.low HD8.out hb9)
  have HE9 := Lib.hid (RdCx.low HE8.out hb9)
  have HY9 := Lib.hid (ownsRow_below' HY8.out hb9)
  have HZ9 := Lib.hid h9
  have hz9 := hb9.size
  have hbk9 := hb9
  clear h9
  clear c0 c1 c2 c3 c4 c5 c6 c7 c8 c9 c10 c11 hb9 HC8 HT8 HR8 HN8 HM8 HD8 HE8 HY8
  have hlN : (nSet x day).length ≤ 4000000000000 := by
   unfold nSet
   split
   ·exact Nat.le_trans (fuq_len _ _) (Con.found_len x day (by omega) (visEvs_prefix x day)).1
   ·simp
  have hlD : (dSet x day).length ≤ 4000000000000 := by
   unfold dSet
   split
   ·exact Nat.le_trans (fuq_len _ _) (Con.found_len x day (by omega) (visEvs_prefix x day)).2.1
   ·simp
  have hlY : (ySet x day).length ≤ 4000000000000 := by
   unfold ySet
   split
   ·exact Nat.le_trans (fuq_len _ _) (Con.found_len x day (by omega) (visEvs_prefix x day)).2.2
   ·simp
  have SN := Lib.hid fun (V : World) (h : Below w9.heap.size w9 V) => sameNeeds_any (nSet x day) (nSet x day) _ _ V (HN9.out.low h) (HM9.out.low h) hlN hlN
  have SD := Lib.hid fun (V : World) (h : Below w9.heap.size w9 V) => sameChoices_any (dSet x day) (dSet x day) _ _ V (HD9.out.low h) (HE9.out.low h) hlD hlD
  have SY := Lib.hid fun (V : World) (h : Below w9.heap.size w9 V) => sameDays_any (ySet x day) (ySet x day) _ _ V ((RdDy.own HY9.out).low h) (HZ9.out.low h) hlY hlY
  simp only [decide_true] at SN SD SY
  obtain ⟨c0, c1, c2, c3, c4, c5, c6, c7, c8, c9, c10, c11⟩ := HC9.out
  go_upto_region 10 with fail
  generalize (Value.agg #[.int .u8 x.k, .string x.fr, .string x.rc, .string x.nm, .int .u8 x.ex.k, .string x.ex.ra, .string x.ex.nm, .int .i64 x.ex.d, .slice ad1 x.ex.sub.length cap1, .int .i64 x.d, .slice ad2 x.ds.length cap2, .slice ad x.sub.length cap]) = XVv
  generalize (Value.agg #[.int .u8 x.k, .string x.fr, .string x.rc, .string x.nm, .int .u8 x.ex.k, .string x.ex.ra, .string x.ex.nm, .int .i64 x.ex.d, .slice qa1 x.ex.sub.length qc1, .int .i64 x.d, .slice qa2 x.ds.length qc2, .slice qa3 x.sub.length qc3]) = TVv
  generalize (Value.tuple #[.slice aN (nSet x day).length cN, .int .i64 (nErr x day)]) = tu0
  generalize (Value.tuple #[.slice aM (nSet x day).length cM, .int .i64 (nErr x day)]) = tu1
  generalize (Value.tuple #[.slice aD (dSet x day).length cD, .int .i64 (dErr x day)]) = tu2
  generalize (Value.tuple #[.slice aE (dSet x day).length cE, .int .i64 (dErr x day)]) = tu3
  generalize (Value.tuple #[.slice aY (ySet x day).length cY, .int .i64 (visErr x day)]) = tu4
  generalize (Value.tuple #[.slice aZ (ySet x day).length cZ, .int .i64 (visErr x day)]) = tu5
  go_cut [18] from 60 to 96 (fun v wc => v = .bool true ∧ Below w9.heap.size w9 wc)
  case first =>
   refine wp_region_inv (fun L a w' => ∃ v0 v1 v2 v3 v4 v5 v6 v7 v8 v9 v10 v11 v12 v13 v14 v15 v16 v17 v18 v19 v20 v21 v22 v23 v24 v25 v26 v27 v28 v29 v30 v31 v32 v33 v34 v35 v36 v37, a = ⟨#[XVv, .int .i64 day, .pointer (some ⟨W.heap.size, 0, none⟩), undef, .bool false, .pointer (some ⟨B5, 0, none⟩), .slice aN (nSet x day).length cN, .int .i64 (nErr x day), .slice aM (nSet x day).length cM, .int .i64 (nErr x day), .slice aD (dSet x day).length cD, .int .i64 (dErr x day), .slice aE (dSet x day).length cE, .int .i64 (dErr x day), .slice aY (ySet x day).length cY, .int .i64 (visErr x day), .slice aZ (ySet x day).length cZ, .int .i64 (visErr x day), v37, undef, XVv, .bool false, XVv, TVv, tu0, XVv, .int .i64 day, tu0, .slice aN (nSet x day).length cN, .int .i64 (nErr x day), tu1, XVv, .int .i64 day, tu1, .slice aM (nSet x day).length cM, .int .i64 (nErr x day), tu2, XVv, .int .i64 day, tu2, .slice aD (dSet x day).length cD, .int .i64 (dErr x day), tu3, XVv, .int .i64 day, tu3, .slice aE (dSet x day).length cE, .int .i64 (dErr x day), tu4, XVv, .int .i64 day, tu4, .slice aY (ySet x day).length cY, .int .i64 (visErr x day), tu5, XVv, .int .i64 day, tu5, .slice aZ (ySet x day).length cZ, .int .i64 (visErr x day), v0, v1, v2, v3, v4, v5, v6, v7, v8, v9, v10, v11, v12, v13, v14, v15, v16, v17, v18, v19, v20, v21, v22, v23, v24, v25, v26, v27, v28, v29, v30, v31, v32, v33, v34, v35, v36, undef, undef, undef, undef, undef, undef, undef, undef, undef, undef, undef, undef, undef, undef, undef], []⟩ ∧ VInv w9 [.slice aN (nSet x day).length cN, .slice aM (nSet x day).length cM, .bool true, .bool true, .int .i64 (nErr x day), .int .i64 (nErr x day), .bool true, .bool true, .bool true, .slice aD (dSet x day).length cD, .slice aE (dSet x day).length cE, .bool true, .bool true, .bool true, .int .i64 (dErr x day), .int .i64 (dErr x day), .bool true, .bool true, .bool true, .slice aY (ySet x day).length cY, .slice aZ (ySet x day).length cZ, .bool true, .bool true, .bool true, .int .i64 (visErr x day), .int .i64 (visErr x day), .bool true, .bool true, .bool true, .agg #[.int .u8 x.k, .string x.fr, .string x.rc, .string x.nm, .int .u8 x.ex.k, .string x.ex.ra, .string x.ex.nm, .int .i64 x.ex.d, .slice ad1 x.ex.sub.length cap1, .int .i64 x.d, .slice ad2 x.ds.length cap2, .slice ad x.sub.length cap], .int .i64 day, .int .i64 (causErr x day), .agg #[.int .u8 x.k, .string x.fr, .string x.rc, .string x.nm, .int .u8 x.ex.k, .string x.ex.ra, .string x.ex.nm, .int .i64 x.ex.d, .slice ad1 x.ex.sub.length cap1, .int .i64 x.d, .slice ad2 x.ds.length cap2, .slice ad x.sub.length cap], .int .i64 day, .int .i64 (causErr x day), .bool true, .bool true, .bool true] [v0, v1, v2, v3, v4, v5, v6, v7, v8, v9, v10, v11, v12, v13, v14, v15, v16, v17, v18, v19, v20, v21, v22, v23, v24, v25, v26, v27, v28, v29, v30, v31, v32, v33, v34, v35, v36, v37] L w') (by kernel_rfl) (by kernel_rfl) ?_ ?_ ?_
   ·exact ⟨_, _, _, _, _, _, _, _, _, _, _, _, _, _, _, _, _, _, _, _, _, _, _, _, _, _, _, _, _, _, _, _, _, _, _, _, _, _, rfl, VInv.start (below_drewN (Below.refl _ _) 1) rfl⟩
   ·rintro L a w' ⟨v0, v1, v2, v3, v4, v5, v6, v7, v8, v9, v10, v11, v12, v13, v14, v15, v16, v17, v18, v19, v20, v21, v22, v23, v24, v25, v26, v27, v28, v29, v30, v31, v32, v33, v34, v35, v36, v37, rfl, h⟩ i o ho hL hp
    have hi9 : i < 38 := by simpa using (Array.getElem?_eq_some_iff.1 ho).1
    have hi2 : i = 0 ∨ i = 1 ∨ i = 2 ∨ i = 3 ∨ i = 4 ∨ i = 5 ∨ i = 6 ∨ i = 7 ∨ i = 8 ∨ i = 9 ∨ i = 10 ∨ i = 11 ∨ i = 12 ∨ i = 13 ∨ i = 14 ∨ i = 15 ∨ i = 16 ∨ i = 17 ∨ i = 18 ∨ i = 19 ∨ i = 20 ∨ i = 21 ∨ i = 22 ∨ i = 23 ∨ i = 24 ∨ i = 25 ∨ i = 26 ∨ i = 27 ∨ i = 28 ∨ i = 29 ∨ i = 30 ∨ i = 31 ∨ i = 32 ∨ i = 33 ∨ i = 34 ∨ i = 35 ∨ i = 36 ∨ i = 37 := by omega
    clear hi9
    rcases hi2 with rfl | rfl | rfl | rfl | rfl | rfl | rfl | rfl | rfl | rfl | rfl | rfl | rfl | rfl | rfl | rfl | rfl | rfl | rfl | rfl | rfl | rfl | rfl | rfl | rfl | rfl | rfl | rfl | rfl | rfl | rfl | rfl | rfl | rfl | rfl | rfl | rfl | rfl
    ·refine wpOp_step rfl ?_
     intro K hK
     go_simp
     exact hK _ _ ⟨_, _, _, _, _, _, _, _, _, _, _, _, _, _, _, _, _, _, _, _, _, _, _, _, _, _, _, _, _, _, _, _, _, _, _, _, _, _, rfl, h.step (i := 0) (v := .slice aN (nSet x day).length cN) rfl⟩
    ·refine wpOp_step rfl ?_
     intro K hK
     go_simp
     exact hK _ _ ⟨_, _, _, _, _, _, _, _, _, _, _, _, _, _, _, _, _, _, _, _, _, _, _, _, _, _, _, _, _, _, _, _, _, _, _, _, _, _, rfl, h.step (i := 1) (v := .slice aM (nSet x day).length cM) rfl⟩
    ·refine wpOp_step rfl ?_
     intro K hK
     obtain rfl := h.at (i := 0) (pred_spec ho hp (j := 0) (by kernel_rfl)) rfl rfl
     obtain rfl := h.at (i := 1) (pred_spec ho hp (j := 1) (by kernel_rfl)) rfl rfl
     go_simp
     refine (SN.out _ h.b).mono ?_
     rintro e w4 ⟨rfl, hb4⟩
     exact hK _ _ ⟨_, _, _, _, _, _, _, _, _, _, _, _, _, _, _, _, _, _, _, _, _, _, _, _, _, _, _, _, _, _, _, _, _, _, _, _, _, _, rfl, (h.ext hb4).step (i := 2) (v := .bool true) rfl⟩
    ·refine wpOp_step rfl ?_
     intro K hK
     obtain rfl := h.at (i := 2) (pred_spec ho hp (j := 2) (by kernel_rfl)) rfl rfl
     go_simp
     exact hK _ _ ⟨_, _, _, _, _, _, _, _, _, _, _, _, _, _, _, _, _, _, _, _, _, _, _, _, _, _, _, _, _, _, _, _, _, _, _, _, _, _, rfl, h.step (i := 3) (v := .bool true) rfl⟩
    ·refine wpOp_step rfl ?_
     intro K hK
     obtain rfl := h.at (i := 3) (pred_spec ho hp (j := 3) (by kernel_rfl)) rfl rfl
     go_simp
     exact hK _ _ ⟨_, _, _, _, _, _, _, _, _, _, _, _, _, _, _, _, _, _, _, _, _, _, _, _, _, _, _, _, _, _, _, _, _, _, _, _, _, _, rfl, h.step (i := 4) (v := .int .i64 (nErr x day)) rfl⟩
    ·refine wpOp_step rfl ?_
     intro K hK
     obtain rfl := h.at (i := 3) (pred_spec ho hp (j := 3) (by kernel_rfl)) rfl rfl
     go_simp
     exact hK _ _ ⟨_, _, _, _, _, _, _, _, _, _, _, _, _, _, _, _, _, _, _, _, _, _, _, _, _, _, _, _, _, _, _, _, _, _, _, _, _, _, rfl, h.step (i := 5) (v := .int .i64 (nErr x day)) rfl⟩
    ·refine wpOp_step rfl ?_
     intro K hK
     obtain rfl := h.at (i := 4) (pred_spec ho hp (j := 4) (by kernel_rfl)) rfl rfl
     obtain rfl := h.at (i := 5) (pred_spec ho hp (j := 5) (by kernel_rfl)) rfl rfl
     obtain rfl := h.at (i := 3) (pred_spec ho hp (j := 3) (by kernel_rfl)) rfl rfl
     go_simp
     exact hK _ _ ⟨_, _, _, _, _, _, _, _, _, _, _, _, _, _, _, _, _, _, _, _, _, _, _, _, _, _, _, _, _, _, _, _, _, _, _, _, _, _, rfl, h.step (i := 6) (v := .bool true) rfl⟩
    ·refine wpOp_step rfl ?_
     intro K hK
     obtain rfl := h.at (i := 3) (pred_spec ho hp (j := 3) (by kernel_rfl)) rfl rfl
     obtain rfl := h.at (i := 6) (pred_spec ho hp (j := 6) (by kernel_rfl)) rfl rfl
     go_simp
     exact hK _ _ ⟨_, _, _, _, _, _, _, _, _, _, _, _, _, _, _, _, _, _, _, _, _, _, _, _, _, _, _, _, _, _, _, _, _, _, _, _, _, _, rfl, h.step (i := 7) (v := .bool true) rfl⟩
    ·refine wpOp_step rfl ?_
     intro K hK
     obtain rfl := h.at (i := 7) (pred_spec ho hp (j := 7) (by kernel_rfl)) rfl rfl
     go_simp
     exact hK _ _ ⟨_, _, _, _, _, _, _, _, _, _, _, _, _, _, _, _, _, _, _, _, _, _, _, _, _, _, _, _, _, _, _, _, _, _, _, _, _, _, rfl, h.step (i := 8) (v := .bool true) rfl⟩
    ·refine wpOp_step rfl ?_
     intro K hK
     obtain rfl := h.at (i := 8) (pred_spec ho hp (j := 8) (by kernel_rfl)) rfl rfl
     go_simp
     exact hK _ _ ⟨_, _, _, _, _, _, _, _, _, _, _, _, _, _, _, _, _, _, _, _, _, _, _, _, _, _, _, _, _, _, _, _, _, _, _, _, _, _, rfl, h.step (i := 9) (v := .slice aD (dSet x day).length cD) rfl⟩
    ·refine wpOp_step rfl ?_
     intro K hK
     obtain rfl := h.at (i := 8) (pred_spec ho hp (j := 8) (by kernel_rfl)) rfl rfl
     go_simp
     exact hK _ _ ⟨_, _, _, _, _, _, _, _, _, _, _, _, _, _, _, _, _, _, _, _, _, _, _, _, _, _, _, _, _, _, _, _, _, _, _, _, _, _, rfl, h.step (i := 10) (v := .slice aE (dSet x day).length cE) rfl⟩
    ·refine wpOp_step rfl ?_
     intro K hK
     obtain rfl := h.at (i := 9) (pred_spec ho hp (j := 9) (by kernel_rfl)) rfl rfl
     obtain rfl := h.at (i := 10) (pred_spec ho hp (j := 10) (by kernel_rfl)) rfl rfl
     obtain rfl := h.at (i := 8) (pred_spec ho hp (j := 8) (by kernel_rfl)) rfl rfl
     go_simp
     refine (SD.out _ h.b).mono ?_
     rintro e w4 ⟨rfl, hb4⟩
     exact hK _ _ ⟨_, _, _, _, _, _, _, _, _, _, _, _, _, _, _, _, _, _, _, _, _, _, _, _, _, _, _, _, _, _, _, _, _, _, _, _, _, _, rfl, (h.ext hb4).step (i := 11) (v := .bool true) rfl⟩
    ·refine wpOp_step rfl ?_
     intro K hK
     obtain rfl := h.at (i := 8) (pred_spec ho hp (j := 8) (by kernel_rfl)) rfl rfl
     obtain rfl := h.at (i := 11) (pred_spec ho hp (j := 11) (by kernel_rfl)) rfl rfl
     go_simp
     exact hK _ _ ⟨_, _, _, _, _, _, _, _, _, _, _, _, _, _, _, _, _, _, _, _, _, _, _, _, _, _, _, _, _, _, _, _, _, _, _, _, _, _, rfl, h.step (i := 12) (v := .bool true) rfl⟩
    ·refine wpOp_step rfl ?_
     intro K hK
     obtain rfl := h.at (i := 12) (pred_spec ho hp (j := 12) (by kernel_rfl)) rfl rfl
     go_simp
     exact hK _ _ ⟨_, _, _, _, _, _, _, _, _, _, _, _, _, _, _, _, _, _, _, _, _, _, _, _, _, _, _, _, _, _, _, _, _, _, _, _, _, _, rfl, h.step (i := 13) (v := .bool true) rfl⟩
    ·refine wpOp_step rfl ?_
     intro K hK
     obtain rfl := h.at (i := 13) (pred_spec ho hp (j := 13) (by kernel_rfl)) rfl rfl
     go_simp
     exact hK _ _ ⟨_, _, _, _, _, _, _, _, _, _, _, _, _, _, _, _, _, _, _, _, _, _, _, _, _, _, _, _, _, _, _, _, _, _, _, _, _, _, rfl, h.step (i := 14) (v := .int .i64 (dErr x day)) rfl⟩
    ·refine wpOp_step rfl ?_
     intro K hK
     obtain rfl := h.at (i := 13) (pred_spec ho hp (j := 13) (by kernel_rfl)) rfl rfl
     go_simp
     exact hK _ _ ⟨_, _, _, _, _, _, _, _, _, _, _, _, _, _, _, _, _, _, _, _, _, _, _, _, _, _, _, _, _, _, _, _, _, _, _, _, _, _, rfl, h.step (i := 15) (v := .int .i64 (dErr x day)) rfl⟩
    ·refine wpOp_step rfl ?_
     intro K hK
     obtain rfl := h.at (i := 14) (pred_spec ho hp (j := 14) (by kernel_rfl)) rfl rfl
     obtain rfl := h.at (i := 15) (pred_spec ho hp (j := 15) (by kernel_rfl)) rfl rfl
     obtain rfl := h.at (i := 13) (pred_spec ho hp (j := 13) (by kernel_rfl)) rfl rfl
     go_simp
     exact hK _ _ ⟨_, _, _, _, _, _, _, _, _, _, _, _, _, _, _, _, _, _, _, _, _, _, _, _, _, _, _, _, _, _, _, _, _, _, _, _, _, _, rfl, h.step (i := 16) (v := .bool true) rfl⟩
    ·refine wpOp_step rfl ?_
     intro K hK
     obtain rfl := h.at (i := 13) (pred_spec ho hp (j := 13) (by kernel_rfl)) rfl rfl
     obtain rfl := h.at (i := 16) (pred_spec ho hp (j := 16) (by kernel_rfl)) rfl rfl
     go_simp
     exact hK _ _ ⟨_, _, _, _, _, _, _, _, _, _, _, _, _, _, _, _, _, _, _, _, _, _, _, _, _, _, _, _, _, _, _, _, _, _, _, _, _, _, rfl, h.step (i := 17) (v := .bool true) rfl⟩
    ·refine wpOp_step rfl ?_
     intro K hK
     obtain rfl := h.at (i := 17) (pred_spec ho hp (j := 17) (by kernel_rfl)) rfl rfl
     go_simp
     exact hK _ _ ⟨_, _, _, _, _, _, _, _, _, _, _, _, _, _, _, _, _, _, _, _, _, _, _, _, _, _, _, _, _, _, _, _, _, _, _, _, _, _, rfl, h.step (i := 18) (v := .bool true) rfl⟩
    ·refine wpOp_step rfl ?_
     intro K hK
     obtain rfl := h.at (i := 18) (pred_spec ho hp (j := 18) (by kernel_rfl)) rfl rfl
     go_simp
     exact hK _ _ ⟨_, _, _, _, _, _, _, _, _, _, _, _, _, _, _, _, _, _, _, _, _, _, _, _, _, _, _, _, _, _, _, _, _, _, _, _, _, _, rfl, h.step (i := 19) (v := .slice aY (ySet x day).length cY) rfl⟩
    ·refine wpOp_step rfl ?_
     intro K hK
     obtain rfl := h.at (i := 18) (pred_spec ho hp (j := 18) (by kernel_rfl)) rfl rfl
     go_simp
     exact hK _ _ ⟨_, _, _, _, _, _, _, _, _, _, _, _, _, _, _, _, _, _, _, _, _, _, _, _, _, _, _, _, _, _, _, _, _, _, _, _, _, _, rfl, h.step (i := 20) (v := .slice aZ (ySet x day).length cZ) rfl⟩
    ·refine wpOp_step rfl ?_
     intro K hK
     obtain rfl := h.at (i := 19) (pred_spec ho hp (j := 19) (by kernel_rfl)) rfl rfl
     obtain rfl := h.at (i := 20) (pred_spec ho hp (j := 20) (by kernel_rfl)) rfl rfl
     obtain rfl := h.at (i := 18) (pred_spec ho hp (j := 18) (by kernel_rfl)) rfl rfl
     go_simp
     refine (SY.out _ h.b).mono ?_
     rintro e w4 ⟨rfl, hb4⟩
     exact hK _ _ ⟨_, _, _, _, _, _, _, _, _, _, _, _, _, _, _, _, _, _, _, _, _, _, _, _, _, _, _, _, _, _, _, _, _, _, _, _, _, _, rfl, (h.ext hb4).step (i := 21) (v := .bool true) rfl⟩
    ·refine wpOp_step rfl ?_
     intro K hK
     obtain rfl := h.at (i := 18) (pred_spec ho hp (j := 18) (by kernel_rfl)) rfl rfl
     obtain rfl := h.at (i := 21) (pred_spec ho hp (j := 21) (by kernel_rfl)) rfl rfl
     go_simp
     exact hK _ _ ⟨_, _, _, _, _, _, _, _, _, _, _, _, _, _, _, _, _, _, _, _, _, _, _, _, _, _, _, _, _, _, _, _, _, _, _, _, _, _, rfl, h.step (i := 22) (v := .bool true) rfl⟩
    ·refine wpOp_step rfl ?_
     intro K hK
     obtain rfl := h.at (i := 22) (pred_spec ho hp (j := 22) (by kernel_rfl)) rfl rfl
     go_simp
     exact hK _ _ ⟨_, _, _, _, _, _, _, _, _, _, _, _, _, _, _, _, _, _, _, _, _, _, _, _, _, _, _, _, _, _, _, _, _, _, _, _, _, _, rfl, h.step (i := 23) (v := .bool true) rfl⟩
    ·refine wpOp_step rfl ?_
     intro K hK
     obtain rfl := h.at (i := 23) (pred_spec ho hp (j := 23) (by kernel_rfl)) rfl rfl
     go_simp
     exact hK _ _ ⟨_, _, _, _, _, _, _, _, _, _, _, _, _, _, _, _, _, _, _, _, _, _, _, _, _, _, _, _, _, _, _, _, _, _, _, _, _, _, rfl, h.step (i := 24) (v := .int .i64 (visErr x day)) rfl⟩
    ·refine wpOp_step rfl ?_
     intro K hK
     obtain rfl := h.at (i := 23) (pred_spec ho hp (j := 23) (by kernel_rfl)) rfl rfl
     go_simp
     exact hK _ _ ⟨_, _, _, _, _, _, _, _, _, _, _, _, _, _, _, _, _, _, _, _, _, _, _, _, _, _, _, _, _, _, _, _, _, _, _, _, _, _, rfl, h.step (i := 25) (v := .int .i64 (visErr x day)) rfl⟩
    ·refine wpOp_step rfl ?_
     intro K hK
     obtain rfl := h.at (i := 24) (pred_spec ho hp (j := 24) (by kernel_rfl)) rfl rfl
     obtain rfl := h.at (i := 25) (pred_spec ho hp (j := 25) (by kernel_rfl)) rfl rfl
     obtain rfl := h.at (i := 23) (pred_spec ho hp (j := 23) (by kernel_rfl)) rfl rfl
     go_simp
     exact hK _ _ ⟨_, _, _, _, _, _, _, _, _, _, _, _, _, _, _, _, _, _, _, _, _, _, _, _, _, _, _, _, _, _, _, _, _, _, _, _, _, _, rfl, h.step (i := 26) (v := .bool true) rfl⟩
    ·refine wpOp_step rfl ?_
     intro K hK
     obtain rfl := h.at (i := 23) (pred_spec ho hp (j := 23) (by kernel_rfl)) rfl rfl
     obtain rfl := h.at (i := 26) (pred_spec ho hp (j := 26) (by kernel_rfl)) rfl rfl
     go_simp
     exact hK _ _ ⟨_, _, _, _, _, _, _, _, _, _, _, _, _, _, _, _, _, _, _, _, _, _, _, _, _, _, _, _, _, _, _, _, _, _, _, _, _, _, rfl, h.step (i := 27) (v := .bool true) rfl⟩
    ·refine wpOp_step rfl ?_
     intro K hK
     obtain rfl := h.at (i := 27) (pred_spec ho hp (j := 27) (by kernel_rfl)) rfl rfl
     go_simp
     exact hK _ _ ⟨_, _, _, _, _, _, _, _, _, _, _, _, _, _, _, _, _, _, _, _, _, _, _, _, _, _, _, _, _, _, _, _, _, _, _, _, _, _, rfl, h.step (i := 28) (v := .bool true) rfl⟩
    ·refine wpOp_step rfl ?_
     intro K hK
     obtain rfl := h.at (i := 28) (pred_spec ho hp (j := 28) (by kernel_rfl)) rfl rfl
     have z0 := cell_below h.b c0
     have z1 := cell_below h.b c1
     have z2 := cell_below h.b c2
     have z3 := cell_below h.b c3
     have z4 := cell_below h.b c4
     have z5 := cell_below h.b c5
     have z6 := cell_below h.b c6
     have z7 := cell_below h.b c7
     have z8 := cell_below h.b c8
     have z9 := cell_below h.b c9
     have z10 := cell_below h.b c10
     have z11 := cell_below h.b c11
     go_simp
     exact hK _ _ ⟨_, _, _, _, _, _, _, _, _, _, _, _, _, _, _, _, _, _, _, _, _, _, _, _, _, _, _, _, _, _, _, _, _, _, _, _, _, _, rfl, h.step (i := 29) (v := .agg #[.int .u8 x.k, .string x.fr, .string x.rc, .string x.nm, .int .u8 x.ex.k, .string x.ex.ra, .string x.ex.nm, .int .i64 x.ex.d, .slice ad1 x.ex.sub.length cap1, .int .i64 x.d, .slice ad2 x.ds.length cap2, .slice ad x.sub.length cap]) rfl⟩
    ·refine wpOp_step rfl ?_
     intro K hK
     obtain rfl := h.at (i := 28) (pred_spec ho hp (j := 28) (by kernel_rfl)) rfl rfl
     go_simp
     exact hK _ _ ⟨_, _, _, _, _, _, _, _, _, _, _, _, _, _, _, _, _, _, _, _, _, _, _, _, _, _, _, _, _, _, _, _, _, _, _, _, _, _, rfl, h.step (i := 30) (v := .int .i64 day) rfl⟩
    ·refine wpOp_step rfl ?_
     intro K hK
     obtain rfl := h.at (i := 29) (pred_spec ho hp (j := 29) (by kernel_rfl)) rfl rfl
     obtain rfl := h.at (i := 30) (pred_spec ho hp (j := 30) (by kernel_rfl)) rfl rfl
     obtain rfl := h.at (i := 28) (pred_spec ho hp (j := 28) (by kernel_rfl)) rfl rfl
     go_simp
     refine (HL.out _ (hw9.trans (h.b.mono hw9.size))).mono ?_
     rintro e w4 ⟨rfl, hb4⟩
     exact hK _ _ ⟨_, _, _, _, _, _, _, _, _, _, _, _, _, _, _, _, _, _, _, _, _, _, _, _, _, _, _, _, _, _, _, _, _, _, _, _, _, _, rfl, (h.ext hb4).step (i := 31) (v := .int .i64 (causErr x day)) rfl⟩
    ·refine wpOp_step rfl ?_
     intro K hK
     obtain rfl := h.at (i := 28) (pred_spec ho hp (j := 28) (by kernel_rfl)) rfl rfl
     have z0 := cell_below h.b c0
     have z1 := cell_below h.b c1
     have z2 := cell_below h.b c2
     have z3 := cell_below h.b c3
     have z4 := cell_below h.b c4
     have z5 := cell_below h.b c5
     have z6 := cell_below h.b c6
     have z7 := cell_below h.b c7
     have z8 := cell_below h.b c8
     have z9 := cell_below h.b c9
     have z10 := cell_below h.b c10
     have z11 := cell_below h.b c11
     go_simp
     exact hK _ _ ⟨_, _, _, _, _, _, _, _, _, _, _, _, _, _, _, _, _, _, _, _, _, _, _, _, _, _, _, _, _, _, _, _, _, _, _, _, _, _, rfl, h.step (i := 32) (v := .agg #[.int .u8 x.k, .string x.fr, .string x.rc, .string x.nm, .int .u8 x.ex.k, .string x.ex.ra, .string x.ex.nm, .int .i64 x.ex.d, .slice ad1 x.ex.sub.length cap1, .int .i64 x.d, .slice ad2 x.ds.length cap2, .slice ad x.sub.length cap]) rfl⟩
    ·refine wpOp_step rfl ?_
     intro K hK
     obtain rfl := h.at (i := 28) (pred_spec ho hp (j := 28) (by kernel_rfl)) rfl rfl
     go_simp
     exact hK _ _ ⟨_, _, _, _, _, _, _, _, _, _, _, _, _, _, _, _, _, _, _, _, _, _, _, _, _, _, _, _, _, _, _, _, _, _, _, _, _, _, rfl, h.step (i := 33) (v := .int .i64 day) rfl⟩
    ·refine wpOp_step rfl ?_
     intro K hK
     obtain rfl := h.at (i := 32) (pred_spec ho hp (j := 32) (by kernel_rfl)) rfl rfl
     obtain rfl := h.at (i := 33) (pred_spec ho hp (j := 33) (by kernel_rfl)) rfl rfl
     obtain rfl := h.at (i := 28) (pred_spec ho hp (j := 28) (by kernel_rfl)) rfl rfl
     go_simp
     refine (RL.out _ (hw9.trans (h.b.mono hw9.size))).mono ?_
     rintro e w4 ⟨rfl, hb4⟩
     exact hK _ _ ⟨_, _, _, _, _, _, _, _, _, _, _, _, _, _, _, _, _, _, _, _, _, _, _, _, _, _, _, _, _, _, _, _, _, _, _, _, _, _, rfl, (h.ext hb4).step (i := 34) (v := .int .i64 (causErr x day)) rfl⟩
    ·refine wpOp_step rfl ?_
     intro K hK
     obtain rfl := h.at (i := 31) (pred_spec ho hp (j := 31) (by kernel_rfl)) rfl rfl
     obtain rfl := h.at (i := 34) (pred_spec ho hp (j := 34) (by kernel_rfl)) rfl rfl
     obtain rfl := h.at (i := 28) (pred_spec ho hp (j := 28) (by kernel_rfl)) rfl rfl
     go_simp
     exact hK _ _ ⟨_, _, _, _, _, _, _, _, _, _, _, _, _, _, _, _, _, _, _, _, _, _, _, _, _, _, _, _, _, _, _, _, _, _, _, _, _, _, rfl, h.step (i := 35) (v := .bool true) rfl⟩
    ·refine wpOp_step rfl ?_
     intro K hK
     obtain rfl := h.at (i := 28) (pred_spec ho hp (j := 28) (by kernel_rfl)) rfl rfl
     obtain rfl := h.at (i := 35) (pred_spec ho hp (j := 35) (by kernel_rfl)) rfl rfl
     go_simp
     exact hK _ _ ⟨_, _, _, _, _, _, _, _, _, _, _, _, _, _, _, _, _, _, _, _, _, _, _, _, _, _, _, _, _, _, _, _, _, _, _, _, _, _, rfl, h.step (i := 36) (v := .bool true) rfl⟩
    ·refine wpOp_step rfl ?_
     intro K hK
     obtain rfl := h.at (i := 36) (pred_spec ho hp (j := 36) (by kernel_rfl)) rfl rfl
     go_simp
     exact hK _ _ ⟨_, _, _, _, _, _, _, _, _, _, _, _, _, _, _, _, _, _, _, _, _, _, _, _, _, _, _, _, _, _, _, _, _, _, _, _, _, _, rfl, h.step (i := 37) (v := .bool true) rfl⟩
   ·rintro L a w1 ⟨v0, v1, v2, v3, v4, v5, v6, v7, v8, v9, v10, v11, v12, v13, v14, v15, v16, v17, v18, v19, v20, v21, v22, v23, v24, v25, v26, v27, v28, v29, v30, v31, v32, v33, v34, v35, v36, v37, rfl, h⟩ hall
    have hb10 := h.b
    obtain rfl := h.at (i := 37) (hall 37 (by decide)) rfl rfl
    clear h hall
    go_wp2
    go_meet
    exact ⟨rfl, hb10⟩
  case rest =>
   obtain ⟨rfl, hbc⟩ := hcut
   have HYc := Lib.hid (ownsRow_below' HY9.out hbc)
   have hbkc : Below w7.heap.size w7 wc := hbk8.trans ((hbk9.mono hz8).trans (hbc.mono (Nat.le_trans hz8 hz9)))
   obtain ⟨n, hn⟩ : ∃ n, (ySet x day).length = n := ⟨_, rfl⟩
   have HNn := Lib.hid hn
   rw [hn] at hlY ⊢
   have HO : Hid (n = 0 ∨ ∃ (g : Nat) (cs : List Value), aY = some ⟨g, 0, none⟩ ∧ w7.heap.size ≤ g ∧ BoxN wc g 3 cs ∧ n ≤ cs.length) := Lib.hid (by
    have h1 := HYc.out
    rw [HNn.out] at h1
    rcases h1.2 with ⟨h2, h3⟩ | ⟨g, cap, cur, h2, h3, h4, h5, _, h6, _⟩
    ·exact .inl h3
    ·obtain ⟨rfl, _, _⟩ := Value.slice.inj h2
     exact .inr ⟨g, cur.toList, rfl, h3, h4, by rw [Array.length_toList, h6]; omega⟩)
   clear hn HG HT HN HD HY HL RN RD RY RL SN SD SY c0 c1 c2 c3 c4 c5 c6 c7 c8 c9 c10 c11 hbc HN9 HM9 HD9 HE9 HY9 HZ9 HC9 HT9 HR9 HYc hbk8 hbk9
   go_wp2_with fail
   go_loopw [19] (fun i wr => ∃ k : Nat, k ≤ n ∧ i = .int .i64 (k : Int) ∧ Below w7.heap.size w7 wr ∧ Hid (n = 0 ∨ ∃ (g : Nat) (cs : List Value), aY = some ⟨g, 0, none⟩ ∧ w7.heap.size ≤ g ∧ BoxN wr g 3 cs ∧ n ≤ cs.length)) (fun i _ => n - (intOf i).toNat)
   case atStart => exact ⟨0, Nat.zero_le _, rfl, hbkc, HO⟩
   case round =>
    obtain ⟨k, hk, rfl, hbr, HO2⟩ := hrel
    by_cases hlt : k < n
    ·obtain ⟨g, cs, rfl, hg, hbg, hcs⟩ : ∃ (g : Nat) (cs : List Value), aY = some ⟨g, 0, none⟩ ∧ w7.heap.size ≤ g ∧ BoxN wr g 3 cs ∧ n ≤ cs.length := HO2.out.resolve_left (by omega)
     have hk1 : (0 : Int) ≤ (k : Int) := by omega
     have hk2 : (k : Int) < (n : Int) := by omega
     have z : wr.cell? ⟨g, k, none⟩ = some cs[k] := hbg.cell (List.getElem?_eq_getElem (by omega))
     have zf := hbg.frozen k
     have HN2 : Hid (Below w7.heap.size w7 (wr.setCell ⟨g, k, none⟩ (.int .i64 (-1))) ∧ (n = 0 ∨ ∃ (g2 : Nat) (cs : List Value), some (⟨g, 0, none⟩ : Addr) = some ⟨g2, 0, none⟩ ∧ w7.heap.size ≤ g2 ∧ BoxN (wr.setCell ⟨g, k, none⟩ (.int .i64 (-1))) g2 3 cs ∧ n ≤ cs.length)) := Lib.hid ⟨hbr.setCell (p := ⟨g, k, none⟩) hg _, .inr ⟨g, _, rfl, hg, hbg.set k _, by rw [List.length_set]; exact hcs⟩⟩
     clear HO2 hbr hbg HO
     go_wp2
     go_roundw
     case rel => exact ⟨k + 1, by omega, by go_num, HN2.out.1, Lib.hid HN2.out.2⟩
     case measure => simp [intOf]; omega
    ·obtain rfl : k = n := by omega
     have HCe := Lib.hid (HCk.out.below hbr HCk.out.lt)
     have HTe := Lib.hid (HTk.out.below hbr HTk.out.lt)
     have hwe : Below W.heap.size W wr := hwk.trans (hbr.mono hwk.size)
     have HSa := Lib.hid (rsameC_any x.bulk x _ _ _ _ _ _ wr (Nat.le_refl _) (by omega) (HS.out.frame hwe) (HRk.out.frame hbr))
     unfold Con.val at HSa
     obtain ⟨c0, c1, c2, c3, c4, c5, c6, c7, c8, c9, c10, c11⟩ := HCe.out
     obtain ⟨d0, d1, d2, d3, d4, d5, d6, d7, d8, d9, d10, d11⟩ := HTe.out
     clear HO HO2 hbr
     go_wp2_with fail
     refine HSa.out.mono ?_
     rintro e wz ⟨rfl, hbz⟩
     have hwz := hwe.trans (hbz.mono hwe.size)
     clear c0 c1 c2 c3 c4 c5 c6 c7 c8 c9 c10 c11 d0 d1 d2 d3 d4 d5 d6 d7 d8 d9 d10 d11
     go_wp2
     go_ret
     exact ⟨ret_bool' rfl, hwz⟩
end Go.Proofs.YtkonookacfmfgaaGreatDoor
