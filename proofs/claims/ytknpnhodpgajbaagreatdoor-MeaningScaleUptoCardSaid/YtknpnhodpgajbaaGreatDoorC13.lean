/-
  integer.DivMod where the division comes out even.  Printed by tools/gendivmod.py. rational.Make.  Printed by tools/genmake.py. rational.both.  Printed by tools/genboth.py. rational's pair: keep, its closure, made.  Printed by tools/genkeepr.py. Errors and texts of results: plain.
-/
import Derived.Test.YtknpnhodpgajbaaGreatDoorC12
import Derived.Test.YtknpnhodpgajbaaGreatDoorC03
import Derived.Test.YtknpnhodpgajbaaGreatDoorC10
namespace Go.Proofs.YtknpnhodpgajbaaGreatDoor
open Go.RowKit
def DivOk (w : World) (z : Int) (e : Ending) (w' : World) : Prop := ∃ t u, e = .returned (.tuple #[.string t, .string u, .int .i64 0]) ∧ bl t = zStr z ∧ bl u = [48] ∧ Below w.heap.size w w'
set_option maxHeartbeats 2000000 in
set_option maxRecDepth 100000 in
theorem divmod_ok (a b : ByteArray) (w : World) (ha : a.size ≤ 9223372036854775807) (hb : b.size ≤ 9223372036854775807) (h0 : intErr (bl a) = 0) (h : intErr (bl b) = 0) (hy0 : dval (body (bl b)) ≠ 0) (hd : dval (body (bl b)) ∣ dval (body (bl a))) :
  Calls Tryz.prog 167 #[.string a, .string b] w (DivOk w (sgnv (!(isNeg (bl a) == isNeg (bl b))) (dval (body (bl a)) / dval (body (bl b))))) := by
 have HC := Lib.hid (fun W => pair_ok a b W ha hb h0 h)
 have HA := Lib.hid (dval_body_lt h0)
 have HB := Lib.hid (dval_body_lt h)
 clear ha hb h0 h
 go_enter Tryz.func167, Tryz.ntmps167
 go_wp2_with fail
 refine (HC.out _).mono ?_
 rintro e w1 ⟨va, vb, xs, ys, rfl, sa, sb, nx, ny, vx, vy, hb1⟩
 have HZ : Hid (sgnv (!(isNeg (bl a) == isNeg (bl b))) (dval (body (bl a)) / dval (body (bl b))) = sgnv (!(isNeg (bl a) == isNeg (bl b))) (val 1000000000 xs / val 1000000000 ys)) := by show _ = _; rw [vx, vy]
 rw [← vx] at hd
 rw [← vy] at hd hy0
 rw [← vx] at HA
 rw [← vy] at HB
 clear vx vy HC
 generalize isNeg (bl a) = na at *
 generalize isNeg (bl b) = nb at *
 obtain ⟨aa, ca, rfl, _⟩ := id sa
 obtain ⟨ab, cb, rfl, _⟩ := id sb
 have hb0 : Below w1.heap.size w1 ((w1.alloc (.cells #[.bool na, .slice aa xs.length ca] 159)).alloc (.cells #[.bool nb, .slice ab ys.length cb] 159)) := below_a2 _ _ _
 have bx : Boxed2 ((w1.alloc (.cells #[.bool na, .slice aa xs.length ca] 159)).alloc (.cells #[.bool nb, .slice ab ys.length cb] 159)) w1.heap.size 159 (.bool na) (.slice aa xs.length ca) := (Boxed2.new _ _ _ _).alloc _
 have by1 : Boxed2 ((w1.alloc (.cells #[.bool na, .slice aa xs.length ca] 159)).alloc (.cells #[.bool nb, .slice ab ys.length cb] 159)) (w1.heap.size + 1) 159 (.bool nb) (.slice ab ys.length cb) := by
  have h := Boxed2.new (w1.alloc (.cells #[.bool na, .slice aa xs.length ca] 159)) (.bool nb) (.slice ab ys.length cb) 159
  simp at h
  exact h
 have hbW := hb1.trans (hb0.mono hb1.size)
 have sa0 := Lib.hid (sa.below hb0)
 have sb0 := Lib.hid (sb.below hb0)
 have lx := grp_len nx HA.out
 have ly := grp_len ny HB.out
 have x0 := bx.cell0
 have x1 := bx.cell1
 have y0 := by1.cell0
 have y1 := by1.cell1
 have BY := Lib.hid by1
 clear bx by1 hb0 hb1 sa sb
 have hyne : ys ≠ [] := fun e => hy0 ((ny.val_zero (by decide)).2 e)
 have hylen : 0 < ys.length := List.length_pos_iff.2 hyne
 have HD := Lib.hid (divide_any _ _ xs ys _ sa0.out sb0.out nx ny (by omega) (by omega) hyne)
 have Hdv := Lib.hid hd
 have tq : ((ys.length : Int) == 0) = false := by rw [beq_eq_false_iff_ne]; omega
 clear nx ny hyne hy0 hd
 go_wp2_with fail
 refine HD.out.mono ?_
 rintro e w2 ⟨vq, vr, qs, rs, rfl, sq, sr, nq, nr, eq, er, hb2⟩
 obtain rfl : rs = [] := (nr.val_zero (by decide)).1 (by rw [er]; exact Nat.mod_eq_zero_of_dvd Hdv.out)
 obtain ⟨ar, cr, rfl, _⟩ := id sr
 obtain ⟨aq, cq, rfl, _⟩ := id sq
 have hqlt : val 1000000000 qs < ten 1000 := by rw [eq]; exact Nat.lt_of_le_of_lt (Nat.div_le_self _ _) HA.out
 have hz1 : w1.heap.size + 1 < ((w1.alloc (.cells #[.bool na, .slice aa xs.length ca] 159)).alloc (.cells #[.bool nb, .slice ab ys.length cb] 159)).heap.size := BY.out.lt
 have x0' : w2.cell? ⟨w1.heap.size, 0, none⟩ = some (.bool na) := by rw [hb2.cell (Nat.lt_of_succ_lt hz1)]; exact x0
 have y0' : w2.cell? ⟨w1.heap.size + 1, 0, none⟩ = some (.bool nb) := by rw [hb2.cell hz1]; exact y0
 have E0 := wErr_zero hqlt
 have hE : Hid (wErr (val 1000000000 qs) = 0) := (E0 false).1
 have HR := Lib.hid (fun W (h : Below w2.heap.size w2 W) => write_any false _ [] W (sr.below h) nr (by decide))
 have hbz2 := hbW.trans (hb2.mono hbW.size)
 have hE0 : Hid (wErr (val 1000000000 []) = 0) := by show _ = _; decide
 have hS0 : Hid (wStr false (val 1000000000 []) = [48]) := by show _ = _; decide
 have HW := Lib.hid (fun neg => write_any neg _ qs w2 sq nq (by have := grp_len nq hqlt; omega))
 have hS : Hid (∀ neg, wStr neg (val 1000000000 qs) = zStr (sgnv neg (val 1000000000 xs / val 1000000000 ys))) := fun neg => by rw [← eq]; exact wStr_sgnv _ _
 clear eq er sq sr nq nr HD x0 x1 y0 y1 hb2 hqlt E0 HA HB
 cases na
 case false =>
  go_wp2_with fail
  refine (HW.out nb).mono ?_
  rintro e w3 ⟨t, rfl, ht, hb3⟩
  rw [hE.out]
  have Ht : Hid (bl t = zStr (sgnv nb (val 1000000000 xs / val 1000000000 ys))) := ht.trans (hS.out nb)
  have HR3 := Lib.hid (HR.out w3 hb3)
  have hbz3 := hbz2.trans (hb3.mono hbz2.size)
  clear ht HW HR hb3 hbz2
  go_wp2_with fail
  refine HR3.out.mono ?_
  rintro e w4 ⟨u, rfl, hu, hb4⟩
  rw [hE0.out]
  have Hu := Lib.hid (hu.trans hS0.out)
  have hbz4 := hbz3.trans (hb4.mono hbz3.size)
  clear hu hb4 hbz3
  go_wp2
  go_ret3
  rw [HZ.out]
  exact ⟨t, u, rfl, by rw [Ht.out]; simp, Hu.out, hbz4⟩
 case true =>
  go_wp2_with fail
  refine (HW.out (!nb)).mono ?_
  rintro e w3 ⟨t, rfl, ht, hb3⟩
  rw [hE.out]
  have Ht : Hid (bl t = zStr (sgnv (!nb) (val 1000000000 xs / val 1000000000 ys))) := ht.trans (hS.out (!nb))
  have HR3 := Lib.hid (HR.out w3 hb3)
  have hbz3 := hbz2.trans (hb3.mono hbz2.size)
  clear ht HW HR hb3 hbz2
  go_wp2_with fail
  refine HR3.out.mono ?_
  rintro e w4 ⟨u, rfl, hu, hb4⟩
  rw [hE0.out]
  have Hu := Lib.hid (hu.trans hS0.out)
  have hbz4 := hbz3.trans (hb4.mono hbz3.size)
  clear hu hb4 hbz3
  go_wp2
  go_ret3
  rw [HZ.out]
  exact ⟨t, u, rfl, by rw [Ht.out]; simp, Hu.out, hbz4⟩
end Go.Proofs.YtknpnhodpgajbaaGreatDoor

namespace Go.Proofs.YtknpnhodpgajbaaGreatDoor
open Go.RowKit
def ratTxt (sg : Bool) (N D : Nat) : List UInt8 :=
 if D / Nat.gcd N D = 1 then istr sg (N / Nat.gcd N D) else istr sg (N / Nat.gcd N D) ++ [47] ++ istr false (D / Nat.gcd N D)
def MakeOk (w : World) (l : List UInt8) (e : Ending) (w' : World) : Prop := ∃ t, e = .returned (.tuple #[.string t, .int .i64 0]) ∧ bl t = l ∧ Below w.heap.size w w'
theorem canon_zero {l : List UInt8} (h : canonI l = true) : l = [48] ↔ dval (body l) = 0 := by
 constructor
 ·rintro rfl; decide
 ·intro e
  rw [← canon_text h, e, isNeg]
  rfl
theorem bl_append (a b : ByteArray) : bl (a ++ b) = bl a ++ bl b := by simp [bl]
theorem istr_size {t : ByteArray} {sg : Bool} {n k : Nat} (h : bl t = istr sg n) (hn : n < ten k) : t.size ≤ k + 2 := by
 rw [← bl_length, h]
 by_cases h0 : n = 0
 ·subst h0; simp [istr]
 ·rw [istr_ne sg h0]
  have := dig10_ten hn
  cases sg <;> simp [asc] <;> omega
theorem intErr_small {sg : Bool} {n : Nat} (h : n < ten 1000) : intErr (istr sg n) = 0 := by rw [intErr_istr]; exact (wErr_zero h sg).1
set_option maxHeartbeats 2000000 in
set_option maxRecDepth 100000 in
theorem make_neg_one (a b : ByteArray) (w : World) (ha : a.size ≤ 1100000) (hb : b.size ≤ 1100000) (h0 : intErr (bl a) = 0) (h : intErr (bl b) = 0) (hd0 : dval (body (bl b)) ≠ 0) (hn : isNeg (bl b) = true) (h1 : dval (body (bl b)) / Nat.gcd (dval (body (bl a))) (dval (body (bl b))) = 1) :
  Calls Tryz.prog 126 #[.string a, .string b] w (MakeOk w (ratTxt (!(isNeg (bl a) == true)) (dval (body (bl a))) (dval (body (bl b))))) := by
 have HG := Lib.hid (fun W => gcd_ok a b W (by omega) (by omega) h0 h)
 have HA := Lib.hid (dval_body_lt h0)
 have HB := Lib.hid (dval_body_lt h)
 have hcb := (intErr_zero h).1
 have hp := canonI_pos hcb
 have hne : bl b ≠ [48] := fun e => hd0 ((canon_zero hcb).1 e)
 have tz := ne_lit hne
 have hbc := bl_cons b hp
 obtain ⟨c, hc⟩ : ∃ c, b[0] = c := ⟨_, rfl⟩
 rw [hc] at hbc
 have t4 : ((c.toNat : Int) == 45) = true := by
  rw [hbc] at hn
  simp [isNeg] at hn
  rw [hn]; rfl
 have HN : Hid (∀ W (g : ByteArray), bl g = istr true (Nat.gcd (dval (body (bl a))) (dval (body (bl b)))) → Calls Tryz.prog 167 #[.string a, .string g] W (DivOk W (sgnv (!(isNeg (bl a) == true)) (dval (body (bl a)) / Nat.gcd (dval (body (bl a))) (dval (body (bl b))))))) := by
  intro W g hg
  have hg0 : Nat.gcd (dval (body (bl a))) (dval (body (bl b))) ≠ 0 := fun e => hd0 (Nat.eq_zero_of_gcd_eq_zero_right e)
  have hglt := gcd_lt (dval_body_lt h0) (dval_body_lt h)
  have hs := istr_size hg hglt
  have := divmod_ok a g W (by omega) (by omega) h0 (by rw [hg]; exact intErr_small hglt) (by rw [hg, dval_istr]; exact hg0) (by rw [hg, dval_istr]; exact Nat.gcd_dvd_left _ _)
  rw [hg, dval_istr, isNeg_istr, decide_eq_true hg0, Bool.and_true] at this
  exact this
 have HDn : Hid (∀ W (g : ByteArray), bl g = istr true (Nat.gcd (dval (body (bl a))) (dval (body (bl b)))) → Calls Tryz.prog 167 #[.string b, .string g] W (DivOk W (sgnv false (dval (body (bl b)) / Nat.gcd (dval (body (bl a))) (dval (body (bl b))))))) := by
  intro W g hg
  have hg0 : Nat.gcd (dval (body (bl a))) (dval (body (bl b))) ≠ 0 := fun e => hd0 (Nat.eq_zero_of_gcd_eq_zero_right e)
  have hglt := gcd_lt (dval_body_lt h0) (dval_body_lt h)
  have hs := istr_size hg hglt
  have := divmod_ok b g W (by omega) (by omega) h (by rw [hg]; exact intErr_small hglt) (by rw [hg, dval_istr]; exact hg0) (by rw [hg, dval_istr]; exact Nat.gcd_dvd_right _ _)
  rw [hg, dval_istr, isNeg_istr, decide_eq_true hg0, Bool.and_true, hn] at this
  exact this
 have Hlt : Hid (Nat.gcd (dval (body (bl a))) (dval (body (bl b))) < ten 1000) := gcd_lt (dval_body_lt h0) (dval_body_lt h)
 have hg00 : Nat.gcd (dval (body (bl a))) (dval (body (bl b))) ≠ 0 := fun e => hd0 (Nat.eq_zero_of_gcd_eq_zero_right e)
 clear ha hb h0 h hd0 hcb hne hbc hn
 have HL : ratTxt (!(isNeg (bl a) == true)) (dval (body (bl a))) (dval (body (bl b))) = istr (!(isNeg (bl a) == true)) (dval (body (bl a)) / Nat.gcd (dval (body (bl a))) (dval (body (bl b)))) := by rw [ratTxt, if_pos h1]
 rw [HL]
 clear HL
 have HG0 := Lib.hid hg00
 clear hg00
 generalize dval (body (bl a)) = N at *
 generalize dval (body (bl b)) = D at *
 generalize isNeg (bl a) = na at *
 generalize Nat.gcd N D = G at *
 obtain ⟨q, hq⟩ : ∃ q, q = N / G := ⟨_, rfl⟩
 obtain ⟨r, hr⟩ : ∃ r, r = D / G := ⟨_, rfl⟩
 have hqlt : q < ten 1000 := by rw [hq]; exact Nat.lt_of_le_of_lt (Nat.div_le_self _ _) HA.out
 have hrlt : r < ten 1000 := by rw [hr]; exact Nat.lt_of_le_of_lt (Nat.div_le_self _ _) HB.out
 rw [← hq] at HN ⊢
 rw [← hr] at HDn h1
 have Hq : Hid (∀ sg, zStr (sgnv sg q) = istr sg q) := fun sg => by rw [← wStr_sgnv]; exact (wErr_zero hqlt sg).2
 have Hr : Hid (∀ sg, zStr (sgnv sg r) = istr sg r) := fun sg => by rw [← wStr_sgnv]; exact (wErr_zero hrlt sg).2
 have H1 := Lib.hid h1
 generalize hsg : (!(na == true)) = sg at HN ⊢
 have Hql := Lib.hid hqlt
 have Hrl := Lib.hid hrlt
 clear hq hr hqlt hrlt HA HB h1 hsg
 go_enter Tryz.func126, Tryz.ntmps126
 go_wp2_with fail
 refine (HG.out _).mono ?_
 rintro e w1 ⟨g, rfl, hg, hb1⟩
 have hg2 : Hid (bl (⟨#[45]⟩ ++ g) = istr true G) := by
  show _ = _
  rw [bl_append, hg, istr_ne true HG0.out, istr_ne false HG0.out]; rfl
 have hgs : g.size ≤ 1002 := istr_size hg Hlt.out
 clear hg HG
 go_wp2_with fail
 refine (HN.out _ _ hg2.out).mono ?_
 rintro e w2 ⟨x, x2, rfl, hx, hx2, hb2⟩
 have Hx := Lib.hid (hx.trans (Hq.out sg))
 have hbb := hb1.trans (hb2.mono hb1.size)
 clear hx hx2 hb1 hb2
 go_wp2_with fail
 refine (HDn.out _ _ hg2.out).mono ?_
 rintro e w3 ⟨y, y2, rfl, hy, hy2, hb3⟩
 have hyy := hy.trans (Hr.out false)
 have hbz := hbb.trans (hb3.mono hbb.size)
 have Hy := Lib.hid hyy
 have ey : y = ⟨#[49]⟩ := eq_lit (by rw [hyy, H1.out]; decide)
 subst ey
 clear hy hy2 hyy hbb hb3 HN HDn
 go_wp2
 go_ret2
 exact ⟨x, rfl, Hx.out, hbz⟩
set_option maxHeartbeats 2000000 in
set_option maxRecDepth 100000 in
theorem make_neg_frac (a b : ByteArray) (w : World) (ha : a.size ≤ 1100000) (hb : b.size ≤ 1100000) (h0 : intErr (bl a) = 0) (h : intErr (bl b) = 0) (hd0 : dval (body (bl b)) ≠ 0) (hn : isNeg (bl b) = true) (h1 : dval (body (bl b)) / Nat.gcd (dval (body (bl a))) (dval (body (bl b))) ≠ 1) :
  Calls Tryz.prog 126 #[.string a, .string b] w (MakeOk w (ratTxt (!(isNeg (bl a) == true)) (dval (body (bl a))) (dval (body (bl b))))) := by
 have HG := Lib.hid (fun W => gcd_ok a b W (by omega) (by omega) h0 h)
 have HA := Lib.hid (dval_body_lt h0)
 have HB := Lib.hid (dval_body_lt h)
 have hcb := (intErr_zero h).1
 have hp := canonI_pos hcb
 have hne : bl b ≠ [48] := fun e => hd0 ((canon_zero hcb).1 e)
 have tz := ne_lit hne
 have hbc := bl_cons b hp
 obtain ⟨c, hc⟩ : ∃ c, b[0] = c := ⟨_, rfl⟩
 rw [hc] at hbc
 have t4 : ((c.toNat : Int) == 45) = true := by
  rw [hbc] at hn
  simp [isNeg] at hn
  rw [hn]; rfl
 have HN : Hid (∀ W (g : ByteArray), bl g = istr true (Nat.gcd (dval (body (bl a))) (dval (body (bl b)))) → Calls Tryz.prog 167 #[.string a, .string g] W (DivOk W (sgnv (!(isNeg (bl a) == true)) (dval (body (bl a)) / Nat.gcd (dval (body (bl a))) (dval (body (bl b))))))) := by
  intro W g hg
  have hg0 : Nat.gcd (dval (body (bl a))) (dval (body (bl b))) ≠ 0 := fun e => hd0 (Nat.eq_zero_of_gcd_eq_zero_right e)
  have hglt := gcd_lt (dval_body_lt h0) (dval_body_lt h)
  have hs := istr_size hg hglt
  have := divmod_ok a g W (by omega) (by omega) h0 (by rw [hg]; exact intErr_small hglt) (by rw [hg, dval_istr]; exact hg0) (by rw [hg, dval_istr]; exact Nat.gcd_dvd_left _ _)
  rw [hg, dval_istr, isNeg_istr, decide_eq_true hg0, Bool.and_true] at this
  exact this
 have HDn : Hid (∀ W (g : ByteArray), bl g = istr true (Nat.gcd (dval (body (bl a))) (dval (body (bl b)))) → Calls Tryz.prog 167 #[.string b, .string g] W (DivOk W (sgnv false (dval (body (bl b)) / Nat.gcd (dval (body (bl a))) (dval (body (bl b))))))) := by
  intro W g hg
  have hg0 : Nat.gcd (dval (body (bl a))) (dval (body (bl b))) ≠ 0 := fun e => hd0 (Nat.eq_zero_of_gcd_eq_zero_right e)
  have hglt := gcd_lt (dval_body_lt h0) (dval_body_lt h)
  have hs := istr_size hg hglt
  have := divmod_ok b g W (by omega) (by omega) h (by rw [hg]; exact intErr_small hglt) (by rw [hg, dval_istr]; exact hg0) (by rw [hg, dval_istr]; exact Nat.gcd_dvd_right _ _)
  rw [hg, dval_istr, isNeg_istr, decide_eq_true hg0, Bool.and_true, hn] at this
  exact this
 have Hlt : Hid (Nat.gcd (dval (body (bl a))) (dval (body (bl b))) < ten 1000) := gcd_lt (dval_body_lt h0) (dval_body_lt h)
 have hg00 : Nat.gcd (dval (body (bl a))) (dval (body (bl b))) ≠ 0 := fun e => hd0 (Nat.eq_zero_of_gcd_eq_zero_right e)
 clear ha hb h0 h hd0 hcb hne hbc hn
 have HL : ratTxt (!(isNeg (bl a) == true)) (dval (body (bl a))) (dval (body (bl b))) = istr (!(isNeg (bl a) == true)) (dval (body (bl a)) / Nat.gcd (dval (body (bl a))) (dval (body (bl b)))) ++ [47] ++ istr false (dval (body (bl b)) / Nat.gcd (dval (body (bl a))) (dval (body (bl b)))) := by rw [ratTxt, if_neg h1]
 rw [HL]
 clear HL
 have HG0 := Lib.hid hg00
 clear hg00
 generalize dval (body (bl a)) = N at *
 generalize dval (body (bl b)) = D at *
 generalize isNeg (bl a) = na at *
 generalize Nat.gcd N D = G at *
 obtain ⟨q, hq⟩ : ∃ q, q = N / G := ⟨_, rfl⟩
 obtain ⟨r, hr⟩ : ∃ r, r = D / G := ⟨_, rfl⟩
 have hqlt : q < ten 1000 := by rw [hq]; exact Nat.lt_of_le_of_lt (Nat.div_le_self _ _) HA.out
 have hrlt : r < ten 1000 := by rw [hr]; exact Nat.lt_of_le_of_lt (Nat.div_le_self _ _) HB.out
 rw [← hq] at HN ⊢
 rw [← hr] at HDn h1 ⊢
 have Hq : Hid (∀ sg, zStr (sgnv sg q) = istr sg q) := fun sg => by rw [← wStr_sgnv]; exact (wErr_zero hqlt sg).2
 have Hr : Hid (∀ sg, zStr (sgnv sg r) = istr sg r) := fun sg => by rw [← wStr_sgnv]; exact (wErr_zero hrlt sg).2
 have H1 := Lib.hid h1
 generalize hsg : (!(na == true)) = sg at HN ⊢
 have Hql := Lib.hid hqlt
 have Hrl := Lib.hid hrlt
 clear hq hr hqlt hrlt HA HB h1 hsg
 go_enter Tryz.func126, Tryz.ntmps126
 go_wp2_with fail
 refine (HG.out _).mono ?_
 rintro e w1 ⟨g, rfl, hg, hb1⟩
 have hg2 : Hid (bl (⟨#[45]⟩ ++ g) = istr true G) := by
  show _ = _
  rw [bl_append, hg, istr_ne true HG0.out, istr_ne false HG0.out]; rfl
 have hgs : g.size ≤ 1002 := istr_size hg Hlt.out
 clear hg HG
 go_wp2_with fail
 refine (HN.out _ _ hg2.out).mono ?_
 rintro e w2 ⟨x, x2, rfl, hx, hx2, hb2⟩
 have Hx := Lib.hid (hx.trans (Hq.out sg))
 have hbb := hb1.trans (hb2.mono hb1.size)
 clear hx hx2 hb1 hb2
 go_wp2_with fail
 refine (HDn.out _ _ hg2.out).mono ?_
 rintro e w3 ⟨y, y2, rfl, hy, hy2, hb3⟩
 have hyy := hy.trans (Hr.out false)
 have hbz := hbb.trans (hb3.mono hbb.size)
 have Hy := Lib.hid hyy
 have ey : (y.toList == [49]) = false := ne_lit (fun e => H1.out ((istr_one r).1 (by rw [← hyy]; exact e)))
 have hun := hy2
 have hxs : x.size ≤ 1002 := istr_size Hx.out Hql.out
 have hys : y.size ≤ 1002 := istr_size hyy Hrl.out
 clear hy hy2 hyy hbb hb3 HN HDn hun
 go_wp2
 go_ret2
 exact ⟨_, rfl, by rw [bl_append, bl_append, Hx.out, Hy.out]; rfl, hbz⟩
set_option maxHeartbeats 2000000 in
set_option maxRecDepth 100000 in
theorem make_pos_one (a b : ByteArray) (w : World) (ha : a.size ≤ 1100000) (hb : b.size ≤ 1100000) (h0 : intErr (bl a) = 0) (h : intErr (bl b) = 0) (hd0 : dval (body (bl b)) ≠ 0) (hn : isNeg (bl b) = false) (h1 : dval (body (bl b)) / Nat.gcd (dval (body (bl a))) (dval (body (bl b))) = 1) :
  Calls Tryz.prog 126 #[.string a, .string b] w (MakeOk w (ratTxt (!(isNeg (bl a) == false)) (dval (body (bl a))) (dval (body (bl b))))) := by
 have HG := Lib.hid (fun W => gcd_ok a b W (by omega) (by omega) h0 h)
 have HA := Lib.hid (dval_body_lt h0)
 have HB := Lib.hid (dval_body_lt h)
 have hcb := (intErr_zero h).1
 have hp := canonI_pos hcb
 have hne : bl b ≠ [48] := fun e => hd0 ((canon_zero hcb).1 e)
 have tz := ne_lit hne
 have hbc := bl_cons b hp
 obtain ⟨c, hc⟩ : ∃ c, b[0] = c := ⟨_, rfl⟩
 rw [hc] at hbc
 have t4 : ((c.toNat : Int) == 45) = false := by
  rw [hbc] at hn
  simp [isNeg] at hn
  rw [beq_eq_false_iff_ne]; intro e; apply hn; apply UInt8.toNat_inj.1; show c.toNat = 45; omega
 have HN : Hid (∀ W (g : ByteArray), bl g = istr false (Nat.gcd (dval (body (bl a))) (dval (body (bl b)))) → Calls Tryz.prog 167 #[.string a, .string g] W (DivOk W (sgnv (!(isNeg (bl a) == false)) (dval (body (bl a)) / Nat.gcd (dval (body (bl a))) (dval (body (bl b))))))) := by
  intro W g hg
  have hg0 : Nat.gcd (dval (body (bl a))) (dval (body (bl b))) ≠ 0 := fun e => hd0 (Nat.eq_zero_of_gcd_eq_zero_right e)
  have hglt := gcd_lt (dval_body_lt h0) (dval_body_lt h)
  have hs := istr_size hg hglt
  have := divmod_ok a g W (by omega) (by omega) h0 (by rw [hg]; exact intErr_small hglt) (by rw [hg, dval_istr]; exact hg0) (by rw [hg, dval_istr]; exact Nat.gcd_dvd_left _ _)
  rw [hg, dval_istr, isNeg_istr, decide_eq_true hg0, Bool.and_true] at this
  exact this
 have HDn : Hid (∀ W (g : ByteArray), bl g = istr false (Nat.gcd (dval (body (bl a))) (dval (body (bl b)))) → Calls Tryz.prog 167 #[.string b, .string g] W (DivOk W (sgnv false (dval (body (bl b)) / Nat.gcd (dval (body (bl a))) (dval (body (bl b))))))) := by
  intro W g hg
  have hg0 : Nat.gcd (dval (body (bl a))) (dval (body (bl b))) ≠ 0 := fun e => hd0 (Nat.eq_zero_of_gcd_eq_zero_right e)
  have hglt := gcd_lt (dval_body_lt h0) (dval_body_lt h)
  have hs := istr_size hg hglt
  have := divmod_ok b g W (by omega) (by omega) h (by rw [hg]; exact intErr_small hglt) (by rw [hg, dval_istr]; exact hg0) (by rw [hg, dval_istr]; exact Nat.gcd_dvd_right _ _)
  rw [hg, dval_istr, isNeg_istr, decide_eq_true hg0, Bool.and_true, hn] at this
  exact this
 have Hlt : Hid (Nat.gcd (dval (body (bl a))) (dval (body (bl b))) < ten 1000) := gcd_lt (dval_body_lt h0) (dval_body_lt h)
 have hg00 : Nat.gcd (dval (body (bl a))) (dval (body (bl b))) ≠ 0 := fun e => hd0 (Nat.eq_zero_of_gcd_eq_zero_right e)
 clear ha hb h0 h hd0 hcb hne hbc hn
 have HL : ratTxt (!(isNeg (bl a) == false)) (dval (body (bl a))) (dval (body (bl b))) = istr (!(isNeg (bl a) == false)) (dval (body (bl a)) / Nat.gcd (dval (body (bl a))) (dval (body (bl b)))) := by rw [ratTxt, if_pos h1]
 rw [HL]
 clear HL
 have HG0 := Lib.hid hg00
 clear hg00
 generalize dval (body (bl a)) = N at *
 generalize dval (body (bl b)) = D at *
 generalize isNeg (bl a) = na at *
 generalize Nat.gcd N D = G at *
 obtain ⟨q, hq⟩ : ∃ q, q = N / G := ⟨_, rfl⟩
 obtain ⟨r, hr⟩ : ∃ r, r = D / G := ⟨_, rfl⟩
 have hqlt : q < ten 1000 := by rw [hq]; exact Nat.lt_of_le_of_lt (Nat.div_le_self _ _) HA.out
 have hrlt : r < ten 1000 := by rw [hr]; exact Nat.lt_of_le_of_lt (Nat.div_le_self _ _) HB.out
 rw [← hq] at HN ⊢
 rw [← hr] at HDn h1
 have Hq : Hid (∀ sg, zStr (sgnv sg q) = istr sg q) := fun sg => by rw [← wStr_sgnv]; exact (wErr_zero hqlt sg).2
 have Hr : Hid (∀ sg, zStr (sgnv sg r) = istr sg r) := fun sg => by rw [← wStr_sgnv]; exact (wErr_zero hrlt sg).2
 have H1 := Lib.hid h1
 generalize hsg : (!(na == false)) = sg at HN ⊢
 have Hql := Lib.hid hqlt
 have Hrl := Lib.hid hrlt
 clear hq hr hqlt hrlt HA HB h1 hsg
 go_enter Tryz.func126, Tryz.ntmps126
 go_wp2_with fail
 refine (HG.out _).mono ?_
 rintro e w1 ⟨g, rfl, hg, hb1⟩
 have hg2 : Hid (bl g = istr false G) := by
  show _ = _
  exact hg
 have hgs : g.size ≤ 1002 := istr_size hg Hlt.out
 clear hg HG
 go_wp2_with fail
 refine (HN.out _ _ hg2.out).mono ?_
 rintro e w2 ⟨x, x2, rfl, hx, hx2, hb2⟩
 have Hx := Lib.hid (hx.trans (Hq.out sg))
 have hbb := hb1.trans (hb2.mono hb1.size)
 clear hx hx2 hb1 hb2
 go_wp2_with fail
 refine (HDn.out _ _ hg2.out).mono ?_
 rintro e w3 ⟨y, y2, rfl, hy, hy2, hb3⟩
 have hyy := hy.trans (Hr.out false)
 have hbz := hbb.trans (hb3.mono hbb.size)
 have Hy := Lib.hid hyy
 have ey : y = ⟨#[49]⟩ := eq_lit (by rw [hyy, H1.out]; decide)
 subst ey
 clear hy hy2 hyy hbb hb3 HN HDn
 go_wp2
 go_ret2
 exact ⟨x, rfl, Hx.out, hbz⟩
set_option maxHeartbeats 2000000 in
set_option maxRecDepth 100000 in
theorem make_pos_frac (a b : ByteArray) (w : World) (ha : a.size ≤ 1100000) (hb : b.size ≤ 1100000) (h0 : intErr (bl a) = 0) (h : intErr (bl b) = 0) (hd0 : dval (body (bl b)) ≠ 0) (hn : isNeg (bl b) = false) (h1 : dval (body (bl b)) / Nat.gcd (dval (body (bl a))) (dval (body (bl b))) ≠ 1) :
  Calls Tryz.prog 126 #[.string a, .string b] w (MakeOk w (ratTxt (!(isNeg (bl a) == false)) (dval (body (bl a))) (dval (body (bl b))))) := by
 have HG := Lib.hid (fun W => gcd_ok a b W (by omega) (by omega) h0 h)
 have HA := Lib.hid (dval_body_lt h0)
 have HB := Lib.hid (dval_body_lt h)
 have hcb := (intErr_zero h).1
 have hp := canonI_pos hcb
 have hne : bl b ≠ [48] := fun e => hd0 ((canon_zero hcb).1 e)
 have tz := ne_lit hne
 have hbc := bl_cons b hp
 obtain ⟨c, hc⟩ : ∃ c, b[0] = c := ⟨_, rfl⟩
 rw [hc] at hbc
 have t4 : ((c.toNat : Int) == 45) = false := by
  rw [hbc] at hn
  simp [isNeg] at hn
  rw [beq_eq_false_iff_ne]; intro e; apply hn; apply UInt8.toNat_inj.1; show c.toNat = 45; omega
 have HN : Hid (∀ W (g : ByteArray), bl g = istr false (Nat.gcd (dval (body (bl a))) (dval (body (bl b)))) → Calls Tryz.prog 167 #[.string a, .string g] W (DivOk W (sgnv (!(isNeg (bl a) == false)) (dval (body (bl a)) / Nat.gcd (dval (body (bl a))) (dval (body (bl b))))))) := by
  intro W g hg
  have hg0 : Nat.gcd (dval (body (bl a))) (dval (body (bl b))) ≠ 0 := fun e => hd0 (Nat.eq_zero_of_gcd_eq_zero_right e)
  have hglt := gcd_lt (dval_body_lt h0) (dval_body_lt h)
  have hs := istr_size hg hglt
  have := divmod_ok a g W (by omega) (by omega) h0 (by rw [hg]; exact intErr_small hglt) (by rw [hg, dval_istr]; exact hg0) (by rw [hg, dval_istr]; exact Nat.gcd_dvd_left _ _)
  rw [hg, dval_istr, isNeg_istr, decide_eq_true hg0, Bool.and_true] at this
  exact this
 have HDn : Hid (∀ W (g : ByteArray), bl g = istr false (Nat.gcd (dval (body (bl a))) (dval (body (bl b)))) → Calls Tryz.prog 167 #[.string b, .string g] W (DivOk W (sgnv false (dval (body (bl b)) / Nat.gcd (dval (body (bl a))) (dval (body (bl b))))))) := by
  intro W g hg
  have hg0 : Nat.gcd (dval (body (bl a))) (dval (body (bl b))) ≠ 0 := fun e => hd0 (Nat.eq_zero_of_gcd_eq_zero_right e)
  have hglt := gcd_lt (dval_body_lt h0) (dval_body_lt h)
  have hs := istr_size hg hglt
  have := divmod_ok b g W (by omega) (by omega) h (by rw [hg]; exact intErr_small hglt) (by rw [hg, dval_istr]; exact hg0) (by rw [hg, dval_istr]; exact Nat.gcd_dvd_right _ _)
  rw [hg, dval_istr, isNeg_istr, decide_eq_true hg0, Bool.and_true, hn] at this
  exact this
 have Hlt : Hid (Nat.gcd (dval (body (bl a))) (dval (body (bl b))) < ten 1000) := gcd_lt (dval_body_lt h0) (dval_body_lt h)
 have hg00 : Nat.gcd (dval (body (bl a))) (dval (body (bl b))) ≠ 0 := fun e => hd0 (Nat.eq_zero_of_gcd_eq_zero_right e)
 clear ha hb h0 h hd0 hcb hne hbc hn
 have HL : ratTxt (!(isNeg (bl a) == false)) (dval (body (bl a))) (dval (body (bl b))) = istr (!(isNeg (bl a) == false)) (dval (body (bl a)) / Nat.gcd (dval (body (bl a))) (dval (body (bl b)))) ++ [47] ++ istr false (dval (body (bl b)) / Nat.gcd (dval (body (bl a))) (dval (body (bl b)))) := by rw [ratTxt, if_neg h1]
 rw [HL]
 clear HL
 have HG0 := Lib.hid hg00
 clear hg00
 generalize dval (body (bl a)) = N at *
 generalize dval (body (bl b)) = D at *
 generalize isNeg (bl a) = na at *
 generalize Nat.gcd N D = G at *
 obtain ⟨q, hq⟩ : ∃ q, q = N / G := ⟨_, rfl⟩
 obtain ⟨r, hr⟩ : ∃ r, r = D / G := ⟨_, rfl⟩
 have hqlt : q < ten 1000 := by rw [hq]; exact Nat.lt_of_le_of_lt (Nat.div_le_self _ _) HA.out
 have hrlt : r < ten 1000 := by rw [hr]; exact Nat.lt_of_le_of_lt (Nat.div_le_self _ _) HB.out
 rw [← hq] at HN ⊢
 rw [← hr] at HDn h1 ⊢
 have Hq : Hid (∀ sg, zStr (sgnv sg q) = istr sg q) := fun sg => by rw [← wStr_sgnv]; exact (wErr_zero hqlt sg).2
 have Hr : Hid (∀ sg, zStr (sgnv sg r) = istr sg r) := fun sg => by rw [← wStr_sgnv]; exact (wErr_zero hrlt sg).2
 have H1 := Lib.hid h1
 generalize hsg : (!(na == false)) = sg at HN ⊢
 have Hql := Lib.hid hqlt
 have Hrl := Lib.hid hrlt
 clear hq hr hqlt hrlt HA HB h1 hsg
 go_enter Tryz.func126, Tryz.ntmps126
 go_wp2_with fail
 refine (HG.out _).mono ?_
 rintro e w1 ⟨g, rfl, hg, hb1⟩
 have hg2 : Hid (bl g = istr false G) := by
  show _ = _
  exact hg
 have hgs : g.size ≤ 1002 := istr_size hg Hlt.out
 clear hg HG
 go_wp2_with fail
 refine (HN.out _ _ hg2.out).mono ?_
 rintro e w2 ⟨x, x2, rfl, hx, hx2, hb2⟩
 have Hx := Lib.hid (hx.trans (Hq.out sg))
 have hbb := hb1.trans (hb2.mono hb1.size)
 clear hx hx2 hb1 hb2
 go_wp2_with fail
 refine (HDn.out _ _ hg2.out).mono ?_
 rintro e w3 ⟨y, y2, rfl, hy, hy2, hb3⟩
 have hyy := hy.trans (Hr.out false)
 have hbz := hbb.trans (hb3.mono hbb.size)
 have Hy := Lib.hid hyy
 have ey : (y.toList == [49]) = false := ne_lit (fun e => H1.out ((istr_one r).1 (by rw [← hyy]; exact e)))
 have hun := hy2
 have hxs : x.size ≤ 1002 := istr_size Hx.out Hql.out
 have hys : y.size ≤ 1002 := istr_size hyy Hrl.out
 clear hy hy2 hyy hbb hb3 HN HDn hun
 go_wp2
 go_ret2
 exact ⟨_, rfl, by rw [bl_append, bl_append, Hx.out, Hy.out]; rfl, hbz⟩
theorem make_ok (a b : ByteArray) (w : World) (ha : a.size ≤ 1100000) (hb : b.size ≤ 1100000) (h0 : intErr (bl a) = 0) (h : intErr (bl b) = 0) (hd0 : dval (body (bl b)) ≠ 0) :
  Calls Tryz.prog 126 #[.string a, .string b] w (MakeOk w (ratTxt (!(isNeg (bl a) == isNeg (bl b))) (dval (body (bl a))) (dval (body (bl b))))) := by
 by_cases h1 : dval (body (bl b)) / Nat.gcd (dval (body (bl a))) (dval (body (bl b))) = 1
 ·cases hn : isNeg (bl b)
  ·exact make_pos_one a b w ha hb h0 h hd0 hn h1
  ·exact make_neg_one a b w ha hb h0 h hd0 hn h1
 ·cases hn : isNeg (bl b)
  ·exact make_pos_frac a b w ha hb h0 h hd0 hn h1
  ·exact make_neg_frac a b w ha hb h0 h hd0 hn h1
end Go.Proofs.YtknpnhodpgajbaaGreatDoor

namespace Go.Proofs.YtknpnhodpgajbaaGreatDoor
open Go.RowKit
def Pair5 (W : World) (P : Nat) (n0 n1 d0 d1 : ByteArray) (e : Int) : Prop := W.heap[P]? = some (.cells #[.string n0, .string n1, .string d0, .string d1, .int .i64 e] 111 (0, 0))
theorem Pair5.lt {W : World} {P : Nat} {n0 n1 d0 d1 : ByteArray} {e : Int} (h : Pair5 W P n0 n1 d0 d1 e) : P < W.heap.size := (Array.getElem?_eq_some_iff.1 h).1
theorem Pair5.cells {W : World} {P : Nat} {n0 n1 d0 d1 : ByteArray} {e : Int} (h : Pair5 W P n0 n1 d0 d1 e) :
  W.cell? ⟨P, 0, none⟩ = some (.string n0) ∧ W.cell? ⟨P, 1, none⟩ = some (.string n1) ∧ W.cell? ⟨P, 2, none⟩ = some (.string d0) ∧ W.cell? ⟨P, 3, none⟩ = some (.string d1) ∧ W.cell? ⟨P, 4, none⟩ = some (.int .i64 e) := by
 simp [World.cell?, show W.heap[P]? = _ from h]
theorem Pair5.frozen {W : World} {P : Nat} {n0 n1 d0 d1 : ByteArray} {e : Int} (h : Pair5 W P n0 n1 d0 d1 e) (o : Nat) : W.frozen? ⟨P, o, none⟩ = false := by simp [World.frozen?, show W.heap[P]? = _ from h]
theorem Pair5.of_block {W W' : World} {P : Nat} {n0 n1 d0 d1 : ByteArray} {e : Int} (h : Pair5 W P n0 n1 d0 d1 e) (k : W'.heap[P]? = W.heap[P]?) : Pair5 W' P n0 n1 d0 d1 e := k.trans h
theorem Pair5.below {W W' : World} {P : Nat} {n0 n1 d0 d1 : ByteArray} {e : Int} (h : Pair5 W P n0 n1 d0 d1 e) (hb : Below W.heap.size W W') : Pair5 W' P n0 n1 d0 d1 e := h.of_block (hb.block _ h.lt)
theorem Pair5.setE {W : World} {P : Nat} {n0 n1 d0 d1 : ByteArray} {e : Int} (h : Pair5 W P n0 n1 d0 d1 e) (x : Int) : Pair5 (W.setCell ⟨P, 4, none⟩ (.int .i64 x)) P n0 n1 d0 d1 x := heap_set_same h 4 (.int .i64 x)
theorem Pair5.set0 {W : World} {P : Nat} {n0 n1 d0 d1 : ByteArray} {e : Int} (h : Pair5 W P n0 n1 d0 d1 e) (x y : ByteArray) (z : Int) :
  Pair5 (((W.setCell ⟨P, 0, none⟩ (.string x)).setCell ⟨P, 2, none⟩ (.string y)).setCell ⟨P, 4, none⟩ (.int .i64 z)) P x n1 y d1 z :=
 heap_set_same (heap_set_same (heap_set_same h 0 (.string x)) 2 (.string y)) 4 (.int .i64 z)
theorem Pair5.set1 {W : World} {P : Nat} {n0 n1 d0 d1 : ByteArray} {e : Int} (h : Pair5 W P n0 n1 d0 d1 e) (x y : ByteArray) (z : Int) :
  Pair5 (((W.setCell ⟨P, 1, none⟩ (.string x)).setCell ⟨P, 3, none⟩ (.string y)).setCell ⟨P, 4, none⟩ (.int .i64 z)) P n0 x d0 y z :=
 heap_set_same (heap_set_same (heap_set_same h 1 (.string x)) 3 (.string y)) 4 (.int .i64 z)
def bN1 (a b : ByteArray) : ByteArray := if ratErr a = 0 then pN b else ⟨#[]⟩
def bD1 (a b : ByteArray) : ByteArray := if ratErr a = 0 then pD b else ⟨#[]⟩
def bE (a b : ByteArray) : Int := if ratErr a = 0 then ratErr b else ratErr a
def BothPost (w : World) (a b : ByteArray) (e : Ending) (w' : World) : Prop :=
 ∃ P, e = .returned (.pointer (some ⟨P, 0, none⟩)) ∧ w.heap.size ≤ P ∧ Pair5 w' P (pN a) (bN1 a b) (pD a) (bD1 a b) (bE a b) ∧ Below w.heap.size w w'
def BothSt (a b : ByteArray) (k : Nat) (n0 n1 d0 d1 : ByteArray) (e : Int) : Prop :=
 match k with
 | 0 => n0 = ⟨#[]⟩ ∧ n1 = ⟨#[]⟩ ∧ d0 = ⟨#[]⟩ ∧ d1 = ⟨#[]⟩ ∧ e = 0
 | 1 => n0 = pN a ∧ n1 = ⟨#[]⟩ ∧ d0 = pD a ∧ d1 = ⟨#[]⟩ ∧ e = ratErr a
 | _ => n0 = pN a ∧ n1 = bN1 a b ∧ d0 = pD a ∧ d1 = bD1 a b ∧ e = bE a b
theorem index_two (a b : ByteArray) (W : World) : (Instr.index 165 (.agg #[.string a, .string b]) (.int .i64 0)).run Tryz.prog W = .ok (.string a) W ∧ (Instr.index 165 (.agg #[.string a, .string b]) (.int .i64 1)).run Tryz.prog W = .ok (.string b) W := by
 constructor <;> simp [Instr.index, run_underlying Tryz.underlying165, asIntOf, go_sem]
set_option maxHeartbeats 2000000 in
set_option maxRecDepth 100000 in
theorem both_ab (a b : ByteArray) (w : World) (ha : a.size ≤ 4611686018427387904) (hb : b.size ≤ 4611686018427387904) :
  Calls Tryz.prog 61 #[.string a, .string b] w (BothPost w a b) := by
 have HPa := Lib.hid (fun W => parts_any a W ha)
 have HPb := Lib.hid (fun W => parts_any b W hb)
 clear ha hb
 have HP0 : Hid (Pair5 (w.alloc (.cells #[.string ⟨#[]⟩, .string ⟨#[]⟩, .string ⟨#[]⟩, .string ⟨#[]⟩, .int .i64 0] 111)) w.heap.size ⟨#[]⟩ ⟨#[]⟩ ⟨#[]⟩ ⟨#[]⟩ 0) := by
  show (w.heap.push _)[w.heap.size]? = _
  simp
 have hb0 := below_a1 w (.cells #[.string ⟨#[]⟩, .string ⟨#[]⟩, .string ⟨#[]⟩, .string ⟨#[]⟩, .int .i64 0] 111)
 have HB0 := Lib.hid hb0
 clear hb0
 have hx0 := fun W => (index_two a b W).1
 have hx1 := fun W => (index_two a b W).2
 go_enter Tryz.func61, Tryz.ntmps61
 go_wp2_with fail
 go_loopw [13] (fun i wr => ∃ (k : Nat) (ki : Int) (n0 n1 d0 d1 : ByteArray) (er : Int), k ≤ 2 ∧ ki = (k : Int) ∧ i = .int .i64 ki ∧ Hid (BothSt a b k n0 n1 d0 d1 er) ∧ Pair5 wr w.heap.size n0 n1 d0 d1 er ∧ Below w.heap.size w wr) (fun i _ => 2 - (intOf i).toNat)
 case atStart => exact ⟨0, 0, _, _, _, _, _, by omega, rfl, rfl, Lib.hid ⟨rfl, rfl, rfl, rfl, rfl⟩, HP0.out, HB0.out⟩
 case round =>
  obtain ⟨k, ki, n0, n1, d0, d1, er, hk, hki, rfl, HS, hp, hbel⟩ := hrel
  have hk3 : k = 0 ∨ k = 1 ∨ k = 2 := by omega
  clear hk
  rcases hk3 with rfl | rfl | rfl
  ·obtain rfl : ki = 0 := by omega
   clear hki
   obtain ⟨rfl, rfl, rfl, rfl, rfl⟩ := HS.out
   have c := hp.cells
   have cc := fun W (hb : Below wr.heap.size wr W) => (hp.below hb).cells
   have ff := fun W (hb : Below wr.heap.size wr W) o => (hp.below hb).frozen o
   have HC := Lib.hid (And.intro cc ff)
   have q4 := c.2.2.2.2
   have Hp := Lib.hid hp
   clear c cc ff hp
   go_wp2_with fail
   go_region_held3 (fun _ => True) (exact trivial)
    (first | (go_at_call 122; refine (HPa.out _).mono ?_; rintro e w2 ⟨rfl, hb2⟩; have hb3 : Below wr.heap.size wr w2 := (Below.drew (Below.refl _ _)).trans hb2; obtain ⟨p0, p1, p2, p3, p4⟩ := HC.out.1 _ hb3; have f0 := HC.out.2 _ hb3 0; have f2 := HC.out.2 _ hb3 2; have f4 := HC.out.2 _ hb3 4))
   have hp3 := Lib.hid ((Hp.out.below hb3).set0 (pN a) (pD a) (ratErr a))
   have hbl3 := Lib.hid ((((hbel.trans (hb3.mono hbel.size)).setCell (p := ⟨w.heap.size, 0, none⟩) (Nat.le_refl _) (.string (pN a))).setCell (p := ⟨w.heap.size, 2, none⟩) (Nat.le_refl _) (.string (pD a))).setCell (p := ⟨w.heap.size, 4, none⟩) (Nat.le_refl _) (.int .i64 (ratErr a)))
   clear p0 p1 p2 p3 p4 f0 f2 f4 hbel hb2 hb3
   go_wp2
   go_roundw
   case rel => exact ⟨1, 1, _, _, _, _, _, by omega, rfl, by go_num, Lib.hid ⟨rfl, rfl, rfl, rfl, rfl⟩, hp3.out, hbl3.out⟩
   case measure => simp [intOf]
  ·obtain rfl : ki = 1 := by omega
   clear hki
   obtain ⟨rfl, rfl, rfl, rfl, rfl⟩ := HS.out
   by_cases he : ratErr a = 0
   ·have t0 : (ratErr a == 0) = true := by rw [beq_iff_eq]; exact he
    have HE : Hid (BothSt a b 2 (pN a) (pN b) (pD a) (pD b) (ratErr b)) := ⟨rfl, by rw [bN1, if_pos he], rfl, by rw [bD1, if_pos he], by rw [bE, if_pos he]⟩
    clear he
    have c := hp.cells
    have cc := fun W (hb : Below wr.heap.size wr W) => (hp.below hb).cells
    have ff := fun W (hb : Below wr.heap.size wr W) o => (hp.below hb).frozen o
    have HC := Lib.hid (And.intro cc ff)
    have q4 := c.2.2.2.2
    have Hp := Lib.hid hp
    clear c cc ff hp
    go_wp2_with fail
    go_region_held3 (fun _ => True) (exact trivial)
     (first | (go_at_call 122; refine (HPb.out _).mono ?_; rintro e w2 ⟨rfl, hb2⟩; have hb3 : Below wr.heap.size wr w2 := (Below.drew (Below.refl _ _)).trans hb2; obtain ⟨p0, p1, p2, p3, p4⟩ := HC.out.1 _ hb3; have f1 := HC.out.2 _ hb3 1; have f3 := HC.out.2 _ hb3 3; have f4 := HC.out.2 _ hb3 4))
    have hp3 := Lib.hid ((Hp.out.below hb3).set1 (pN b) (pD b) (ratErr b))
    have hbl3 := Lib.hid ((((hbel.trans (hb3.mono hbel.size)).setCell (p := ⟨w.heap.size, 1, none⟩) (Nat.le_refl _) (.string (pN b))).setCell (p := ⟨w.heap.size, 3, none⟩) (Nat.le_refl _) (.string (pD b))).setCell (p := ⟨w.heap.size, 4, none⟩) (Nat.le_refl _) (.int .i64 (ratErr b)))
    clear p0 p1 p2 p3 p4 f1 f3 f4 hbel hb2 hb3
    go_wp2
    go_roundw
    case rel => exact ⟨2, 2, _, _, _, _, _, by omega, rfl, by go_num, HE, hp3.out, hbl3.out⟩
    case measure => simp [intOf]
   ·have t0 : (ratErr a == 0) = false := by rw [beq_eq_false_iff_ne]; exact he
    have HE : Hid (BothSt a b 2 (pN a) ⟨#[]⟩ (pD a) ⟨#[]⟩ (ratErr a)) := ⟨rfl, by rw [bN1, if_neg he], rfl, by rw [bD1, if_neg he], by rw [bE, if_neg he]⟩
    clear he
    have q4 := hp.cells.2.2.2.2
    have hp3 := Lib.hid hp
    have hbl3 := Lib.hid hbel
    clear hp hbel
    go_wp2
    go_roundw
    case rel => exact ⟨2, 2, _, _, _, _, _, by omega, rfl, by go_num, HE, hp3.out, hbl3.out⟩
    case measure => simp [intOf]
  ·obtain rfl : ki = 2 := by omega
   clear hki
   obtain ⟨rfl, rfl, rfl, rfl, rfl⟩ := HS.out
   have HF : Hid (BothPost w a b (.returned (.pointer (some ⟨w.heap.size, 0, none⟩))) wr) := ⟨_, rfl, Nat.le_refl _, hp, hbel⟩
   clear hp hbel
   go_wp2
   go_ret
   exact HF.out
end Go.Proofs.YtknpnhodpgajbaaGreatDoor

namespace Go.Proofs.YtknpnhodpgajbaaGreatDoor
open Go.RowKit
def Cap (W : World) (P B f : Nat) : Prop :=
 W.heap[B]? = some (.cells #[.pointer (some ⟨P, 0, none⟩)] 105 (0, 0)) ∧ W.heap[B + 1]? = some (.cells #[.func (.func f) #[] #[]] 104 (0, 0))
def KPost (w : World) (P : Nat) (Q : ByteArray → Int → Prop) (e : Ending) (w' : World) : Prop := ∃ t er w2, e = .returned (.string t) ∧ Hid (Q t er) ∧ Below w.heap.size w w2 ∧ w' = w2.setCell ⟨P, 4, none⟩ (.int .i64 er)
theorem Cap.below {W W' : World} {P B f : Nat} (h : Cap W P B f) (hb : Below W.heap.size W W') : Cap W' P B f :=
 ⟨(hb.block _ (Array.getElem?_eq_some_iff.1 h.1).1).trans h.1, (hb.block _ (Array.getElem?_eq_some_iff.1 h.2).1).trans h.2⟩
theorem Cap.lt {W : World} {P B f : Nat} (h : Cap W P B f) : B + 1 < W.heap.size := (Array.getElem?_eq_some_iff.1 h.2).1
theorem Cap.setCell {W : World} {P B f : Nat} (h : Cap W P B f) {a : Addr} (h1 : a.block ≠ B) (h2 : a.block ≠ B + 1) (u : Value) : Cap (W.setCell a u) P B f :=
 ⟨(Below.heap_setCell _ _ _ _ h1.symm).trans h.1, (Below.heap_setCell _ _ _ _ h2.symm).trans h.2⟩
theorem Cap.ne {W : World} {P B f : Nat} (h : Cap W P B f) {n0 n1 d0 d1 : ByteArray} {e : Int} (hp : Pair5 W P n0 n1 d0 d1 e) : P ≠ B ∧ P ≠ B + 1 := by
 constructor
 ·rintro rfl
  have := h.1.symm.trans hp
  simp at this
 ·rintro rfl
  have := h.2.symm.trans hp
  simp at this
theorem Cap.cells {W : World} {P B f : Nat} (h : Cap W P B f) : W.cell? ⟨B, 0, none⟩ = some (.pointer (some ⟨P, 0, none⟩)) ∧ W.cell? ⟨B + 1, 0, none⟩ = some (.func (.func f) #[] #[]) := by
 simp [World.cell?, h.1, h.2]
set_option maxHeartbeats 1000000 in
set_option maxRecDepth 100000 in
theorem keepr_any (P f : Nat) (w : World) :
  Calls Tryz.prog 62 #[.pointer (some ⟨P, 0, none⟩), .func (.func f) #[] #[]] w fun e w' => e = .returned (.func (.func 123) #[] #[.pointer (some ⟨w.heap.size, 0, none⟩), .pointer (some ⟨w.heap.size + 1, 0, none⟩)]) ∧ Cap w' P w.heap.size f ∧ Below w.heap.size w w' := by
 have hc : Hid (Cap ((w.alloc (.cells #[.pointer (some ⟨P, 0, none⟩)] 105)).alloc (.cells #[.func (.func f) #[] #[]] 104)) P w.heap.size f) := by
  constructor
  ·show ((w.heap.push _).push _)[w.heap.size]? = _
   rw [Array.getElem?_push, if_neg (by simp), Array.getElem?_push, if_pos rfl]
  ·show ((w.heap.push _).push _)[w.heap.size + 1]? = _
   rw [Array.getElem?_push, if_pos (by simp)]
 have hb := Lib.hid (below_a2 w (.cells #[.pointer (some ⟨P, 0, none⟩)] 105) (.cells #[.func (.func f) #[] #[]] 104))
 go_enter Tryz.func62, Tryz.ntmps62
 go_wp2
 go_ret
 exact ⟨rfl, hc.out, hb.out⟩
set_option maxHeartbeats 1000000 in
set_option maxRecDepth 100000 in
theorem keep1_err (a b : ByteArray) (P B f : Nat) (n0 n1 d0 d1 : ByteArray) (er : Int) (w : World) (hc : Cap w P B f) (hp : Pair5 w P n0 n1 d0 d1 er) (he : er ≠ 0) :
  Calls Tryz.prog 123 #[.string a, .string b, .pointer (some ⟨B, 0, none⟩), .pointer (some ⟨B + 1, 0, none⟩)] w fun e w' => e = .returned (.string ⟨#[]⟩) ∧ w = w' := by
 have c1 := hc.cells.1
 have q4 := hp.cells.2.2.2.2
 have t1 : (er != 0) = true := by rw [bne_iff_ne]; exact he
 clear hc hp he
 go_enter Tryz.func123, Tryz.ntmps123
 go_wp2
 go_ret
 exact ⟨rfl, rfl⟩
set_option maxHeartbeats 2000000 in
set_option maxRecDepth 100000 in
theorem keep1_mul (a b : ByteArray) (P B : Nat) (n0 n1 d0 d1 : ByteArray) (w : World) (hc : Cap w P B 63) (hp : Pair5 w P n0 n1 d0 d1 0) (Q : ByteArray → Int → Prop)
  (HO : Hid (∀ W, Calls Tryz.prog 63 #[.string a, .string b] W fun e w' => ∃ t er, e = .returned (.tuple #[.string t, .int .i64 er]) ∧ Hid (Q t er) ∧ Below W.heap.size W w')) :
  Calls Tryz.prog 123 #[.string a, .string b, .pointer (some ⟨B, 0, none⟩), .pointer (some ⟨B + 1, 0, none⟩)] w (KPost w P Q) := by
 obtain ⟨c1, c2⟩ := hc.cells
 have q4 := hp.cells.2.2.2.2
 have HZ : Hid (∀ W, Below w.heap.size w W → W.cell? ⟨B, 0, none⟩ = some (.pointer (some ⟨P, 0, none⟩)) ∧ W.cell? ⟨B + 1, 0, none⟩ = some (.func (.func 63) #[] #[]) ∧ W.cell? ⟨P, 4, none⟩ = some (.int .i64 0) ∧ W.frozen? ⟨P, 4, none⟩ = false) :=
  fun W hb => ⟨(hc.below hb).cells.1, (hc.below hb).cells.2, (hp.below hb).cells.2.2.2.2, (hp.below hb).frozen 4⟩
 have hne := hc.ne hp
 have Hne := Lib.hid hne
 clear hne
 clear hc hp
 go_enter Tryz.func123, Tryz.ntmps123
 go_wp2_with fail
 have hne := Hne.out
 have hb0 : Below w.heap.size w w.drew := Below.drew (Below.refl _ _)
 go_region_held3 (fun w' => w'.cell? ⟨B, 0, none⟩ = some (.pointer (some ⟨P, 0, none⟩)) ∧ w'.cell? ⟨B + 1, 0, none⟩ = some (.func (.func 63) #[] #[]))
  (first | assumption | exact ⟨by assumption, by assumption⟩ | (refine ⟨?_, ?_⟩ <;> (rw [World.cell?_setCell_far _ _ _ _ (by first | exact hne.1 | exact hne.2)]; assumption)) | go_keep)
  (first | (go_at_call 63; refine (HO.out _).mono ?_; rintro e w2 ⟨t, er, rfl, hq, hb2⟩; have hb3 := hb0.trans hb2; obtain ⟨p1, p2, p3, p4⟩ := HZ.out _ hb3))
 have HF : Hid (KPost w P Q (.returned (.string t)) (w2.setCell ⟨P, 4, none⟩ (.int .i64 er))) := ⟨t, er, w2, rfl, hq, hb3, rfl⟩
 clear hq hb3 hb2 p1 p2 p3 p4
 go_wp2
 go_ret
 exact HF.out
set_option maxHeartbeats 2000000 in
set_option maxRecDepth 100000 in
theorem keep1_add (a b : ByteArray) (P B : Nat) (n0 n1 d0 d1 : ByteArray) (w : World) (hc : Cap w P B 134) (hp : Pair5 w P n0 n1 d0 d1 0) (Q : ByteArray → Int → Prop)
  (HO : Hid (∀ W, Calls Tryz.prog 134 #[.string a, .string b] W fun e w' => ∃ t er, e = .returned (.tuple #[.string t, .int .i64 er]) ∧ Hid (Q t er) ∧ Below W.heap.size W w')) :
  Calls Tryz.prog 123 #[.string a, .string b, .pointer (some ⟨B, 0, none⟩), .pointer (some ⟨B + 1, 0, none⟩)] w (KPost w P Q) := by
 obtain ⟨c1, c2⟩ := hc.cells
 have q4 := hp.cells.2.2.2.2
 have HZ : Hid (∀ W, Below w.heap.size w W → W.cell? ⟨B, 0, none⟩ = some (.pointer (some ⟨P, 0, none⟩)) ∧ W.cell? ⟨B + 1, 0, none⟩ = some (.func (.func 134) #[] #[]) ∧ W.cell? ⟨P, 4, none⟩ = some (.int .i64 0) ∧ W.frozen? ⟨P, 4, none⟩ = false) :=
  fun W hb => ⟨(hc.below hb).cells.1, (hc.below hb).cells.2, (hp.below hb).cells.2.2.2.2, (hp.below hb).frozen 4⟩
 have hne := hc.ne hp
 have Hne := Lib.hid hne
 clear hne
 clear hc hp
 go_enter Tryz.func123, Tryz.ntmps123
 go_wp2_with fail
 have hne := Hne.out
 have hb0 : Below w.heap.size w w.drew := Below.drew (Below.refl _ _)
 go_region_held3 (fun w' => w'.cell? ⟨B, 0, none⟩ = some (.pointer (some ⟨P, 0, none⟩)) ∧ w'.cell? ⟨B + 1, 0, none⟩ = some (.func (.func 134) #[] #[]))
  (first | assumption | exact ⟨by assumption, by assumption⟩ | (refine ⟨?_, ?_⟩ <;> (rw [World.cell?_setCell_far _ _ _ _ (by first | exact hne.1 | exact hne.2)]; assumption)) | go_keep)
  (first | (go_at_call 134; refine (HO.out _).mono ?_; rintro e w2 ⟨t, er, rfl, hq, hb2⟩; have hb3 := hb0.trans hb2; obtain ⟨p1, p2, p3, p4⟩ := HZ.out _ hb3))
 have HF : Hid (KPost w P Q (.returned (.string t)) (w2.setCell ⟨P, 4, none⟩ (.int .i64 er))) := ⟨t, er, w2, rfl, hq, hb3, rfl⟩
 clear hq hb3 hb2 p1 p2 p3 p4
 go_wp2
 go_ret
 exact HF.out
set_option maxHeartbeats 1000000 in
set_option maxRecDepth 100000 in
theorem made_err (x y : ByteArray) (P : Nat) (n0 n1 d0 d1 : ByteArray) (er : Int) (w : World) (hp : Pair5 w P n0 n1 d0 d1 er) (he : er ≠ 0) :
  Calls Tryz.prog 65 #[.pointer (some ⟨P, 0, none⟩), .string x, .string y] w (GcdErr w er) := by
 have q4 := hp.cells.2.2.2.2
 have t1 : (er != 0) = true := by rw [bne_iff_ne]; exact he
 clear hp he
 go_enter Tryz.func65, Tryz.ntmps65
 go_wp2_with fail
 go_quiet (fail)
 go_wp2
 go_ret2
 exact ⟨rfl, below_drewN (Below.refl _ _) _⟩
set_option maxHeartbeats 1000000 in
set_option maxRecDepth 100000 in
theorem made_ok (x y : ByteArray) (P : Nat) (n0 n1 d0 d1 : ByteArray) (w : World) (hp : Pair5 w P n0 n1 d0 d1 0) (l : List UInt8) (HM : Hid (∀ W, Calls Tryz.prog 126 #[.string x, .string y] W (MakeOk W l))) :
  Calls Tryz.prog 65 #[.pointer (some ⟨P, 0, none⟩), .string x, .string y] w (MakeOk w l) := by
 have q4 := hp.cells.2.2.2.2
 clear hp
 go_enter Tryz.func65, Tryz.ntmps65
 go_wp2_with fail
 refine (HM.out _).mono ?_
 rintro e w1 ⟨t, rfl, ht, hb⟩
 have Ht := Lib.hid ht
 clear ht
 go_wp2
 go_ret2
 exact ⟨t, rfl, Ht.out, hb⟩
end Go.Proofs.YtknpnhodpgajbaaGreatDoor

namespace Go.Proofs.YtknpnhodpgajbaaGreatDoor
open Go.RowKit
theorem wErr_cases (n : Nat) : (wErr n = 0 ∧ ∀ neg, wStr neg n = istr neg n) ∨ (wErr n = 14 ∧ ∀ neg, wStr neg n = []) := by
 by_cases h : 1000 < (dig10 n).length
 ·right; simp [wErr, wStr, h]
 ·left; simp [wErr, wStr, h]
end Go.Proofs.YtknpnhodpgajbaaGreatDoor
