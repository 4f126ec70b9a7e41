/-
  rational.Make.  Printed by tools/genmake.py. rational.both.  Printed by tools/genboth.py. rational's pair: keep, its closure, made.  Printed by tools/genkeepr.py. novationref01: at, Greater, Zero; novationref02: Slash. novationref01.Minus.
-/
import Derived.Test.YtofbngpckllkoacGreatPart08
import Derived.Test.YtofbngpckllkoacGreatPart02
import Derived.Test.YtofbngpckllkoacGreatPart06
namespace Go.Proofs.YtofbngpckllkoacGreat
open Go.RowKit

/-- The text of a fraction in lowest terms. -/
def ratTxt (sg : Bool) (N D : Nat) : List UInt8 :=
  if D / Nat.gcd N D = 1 then istr sg (N / Nat.gcd N D) else istr sg (N / Nat.gcd N D) ++ [47] ++ istr false (D / Nat.gcd N D)
def MakeOk (w : World) (l : List UInt8) (e : Ending) (w' : World) : Prop := ∃ t, e = .returned (.tuple #[.string t, .int .i64 0]) ∧ bl t = l ∧ Below w.heap.size w w'
theorem canon_zero {l : List UInt8} (h : canonI l = true) : l = [48] ↔ dval (body l) = 0 := by
  constructor
  · rintro rfl; decide
  · intro e
    rw [← canon_text h, e, isNeg]
    rfl
theorem bl_append (a b : ByteArray) : bl (a ++ b) = bl a ++ bl b := by simp [bl]
theorem istr_size {t : ByteArray} {sg : Bool} {n k : Nat} (h : bl t = istr sg n) (hn : n < ten k) : t.size ≤ k + 2 := by
  rw [← bl_length, h]
  by_cases h0 : n = 0
  · subst h0; simp [istr]
  · rw [istr_ne sg h0]
    have := dig10_ten hn
    cases sg <;> simp [asc] <;> omega
theorem intErr_small {sg : Bool} {n : Nat} (h : n < ten 1000) : intErr (istr sg n) = 0 := by rw [intErr_istr]; exact (wErr_zero h sg).1

set_option maxHeartbeats 1000000 in
set_option maxRecDepth 100000 in
theorem make_err (a b : ByteArray) (w : World) (er : Int) (h : er ≠ 0) (C : Hid (∀ W, Calls Tryz.prog 58 #[.string a, .string b] W (GcdErr W er))) :
    Calls Tryz.prog 73 #[.string a, .string b] w (GcdErr w er) := by
  have h2 : (er != 0) = true := by rw [bne_iff_ne]; exact h
  clear h
  go_enter Tryz.func73, Tryz.ntmps73
  go_wp2_with fail
  refine (C.out _).mono ?_
  rintro e w1 ⟨rfl, hb1⟩
  go_wp2
  go_ret2
  exact ⟨rfl, hb1⟩

set_option maxHeartbeats 2000000 in
set_option maxRecDepth 100000 in
theorem make_neg_one (a b : ByteArray) (w : World) (ha : a.size ≤ 1100000) (hb : b.size ≤ 1100000) (h0 : intErr (bl a) = 0) (h : intErr (bl b) = 0) (hd0 : dval (body (bl b)) ≠ 0) (hn : isNeg (bl b) = true) (h1 : dval (body (bl b)) / Nat.gcd (dval (body (bl a))) (dval (body (bl b))) = 1) :
    Calls Tryz.prog 73 #[.string a, .string b] w (MakeOk w (ratTxt (!(isNeg (bl a) == true)) (dval (body (bl a))) (dval (body (bl b))))) := by
  have HG := Lib.hid (fun W => gcd_ok a b W (by omega) (by omega) h0 h)
  have HA := Lib.hid (dval_body_lt h0)
  have HB := Lib.hid (dval_body_lt h)
  have hcb := (intErr_zero h).1
  have hp := canonI_pos hcb
  have hne : bl b ≠ [48] := fun e => hd0 ((canon_zero hcb).1 e)
  have tz := ne_lit hne
  have hbc := bl_cons b hp
  obtain ⟨c, hc⟩ : ∃ c, b[0] = c := ⟨_, rfl⟩
  rw [hc] at hbc
  have t4 : ((c.toNat : Int) == 45) = true := by
    rw [hbc] at hn
    simp [isNeg] at hn
    rw [hn]; rfl
  have HN : Hid (∀ W (g : ByteArray), bl g = istr true (Nat.gcd (dval (body (bl a))) (dval (body (bl b)))) → Calls Tryz.prog 91 #[.string a, .string g] W (DivOk W (sgnv (!(isNeg (bl a) == true)) (dval (body (bl a)) / Nat.gcd (dval (body (bl a))) (dval (body (bl b))))))) := by
    intro W g hg
    have hg0 : Nat.gcd (dval (body (bl a))) (dval (body (bl b))) ≠ 0 := fun e => hd0 (Nat.eq_zero_of_gcd_eq_zero_right e)
    have hglt := gcd_lt (dval_body_lt h0) (dval_body_lt h)
    have hs := istr_size hg hglt
    have := divmod_ok a g W (by omega) (by omega) h0 (by rw [hg]; exact intErr_small hglt) (by rw [hg, dval_istr]; exact hg0) (by rw [hg, dval_istr]; exact Nat.gcd_dvd_left _ _)
    rw [hg, dval_istr, isNeg_istr, decide_eq_true hg0, Bool.and_true] at this
    exact this
  have HDn : Hid (∀ W (g : ByteArray), bl g = istr true (Nat.gcd (dval (body (bl a))) (dval (body (bl b)))) → Calls Tryz.prog 91 #[.string b, .string g] W (DivOk W (sgnv false (dval (body (bl b)) / Nat.gcd (dval (body (bl a))) (dval (body (bl b))))))) := by
    intro W g hg
    have hg0 : Nat.gcd (dval (body (bl a))) (dval (body (bl b))) ≠ 0 := fun e => hd0 (Nat.eq_zero_of_gcd_eq_zero_right e)
    have hglt := gcd_lt (dval_body_lt h0) (dval_body_lt h)
    have hs := istr_size hg hglt
    have := divmod_ok b g W (by omega) (by omega) h (by rw [hg]; exact intErr_small hglt) (by rw [hg, dval_istr]; exact hg0) (by rw [hg, dval_istr]; exact Nat.gcd_dvd_right _ _)
    rw [hg, dval_istr, isNeg_istr, decide_eq_true hg0, Bool.and_true, hn] at this
    exact this
  have Hlt : Hid (Nat.gcd (dval (body (bl a))) (dval (body (bl b))) < ten 1000) := gcd_lt (dval_body_lt h0) (dval_body_lt h)
  have hg00 : Nat.gcd (dval (body (bl a))) (dval (body (bl b))) ≠ 0 := fun e => hd0 (Nat.eq_zero_of_gcd_eq_zero_right e)
  clear ha hb h0 h hd0 hcb hne hbc hn
  have HL : ratTxt (!(isNeg (bl a) == true)) (dval (body (bl a))) (dval (body (bl b))) = istr (!(isNeg (bl a) == true)) (dval (body (bl a)) / Nat.gcd (dval (body (bl a))) (dval (body (bl b)))) := by rw [ratTxt, if_pos h1]
  rw [HL]
  clear HL
  have HG0 := Lib.hid hg00
  clear hg00
  generalize dval (body (bl a)) = N at *
  generalize dval (body (bl b)) = D at *
  generalize isNeg (bl a) = na at *
  generalize Nat.gcd N D = G at *
  obtain ⟨q, hq⟩ : ∃ q, q = N / G := ⟨_, rfl⟩
  obtain ⟨r, hr⟩ : ∃ r, r = D / G := ⟨_, rfl⟩
  have hqlt : q < ten 1000 := by rw [hq]; exact Nat.lt_of_le_of_lt (Nat.div_le_self _ _) HA.out
  have hrlt : r < ten 1000 := by rw [hr]; exact Nat.lt_of_le_of_lt (Nat.div_le_self _ _) HB.out
  rw [← hq] at HN ⊢
  rw [← hr] at HDn h1
  have Hq : Hid (∀ sg, zStr (sgnv sg q) = istr sg q) := fun sg => by rw [← wStr_sgnv]; exact (wErr_zero hqlt sg).2
  have Hr : Hid (∀ sg, zStr (sgnv sg r) = istr sg r) := fun sg => by rw [← wStr_sgnv]; exact (wErr_zero hrlt sg).2
  have H1 := Lib.hid h1
  generalize hsg : (!(na == true)) = sg at HN ⊢
  have Hql := Lib.hid hqlt
  have Hrl := Lib.hid hrlt
  clear hq hr hqlt hrlt HA HB h1 hsg
  go_enter Tryz.func73, Tryz.ntmps73
  go_wp2_with fail
  refine (HG.out _).mono ?_
  rintro e w1 ⟨g, rfl, hg, hb1⟩
  have hg2 : Hid (bl (⟨#[45]⟩ ++ g) = istr true G) := by
    show _ = _
    rw [bl_append, hg, istr_ne true HG0.out, istr_ne false HG0.out]; rfl
  have hgs : g.size ≤ 1002 := istr_size hg Hlt.out
  clear hg HG
  go_wp2_with fail
  refine (HN.out _ _ hg2.out).mono ?_
  rintro e w2 ⟨x, x2, rfl, hx, hx2, hb2⟩
  have Hx := Lib.hid (hx.trans (Hq.out sg))
  have hbb := hb1.trans (hb2.mono hb1.size)
  clear hx hx2 hb1 hb2
  go_wp2_with fail
  refine (HDn.out _ _ hg2.out).mono ?_
  rintro e w3 ⟨y, y2, rfl, hy, hy2, hb3⟩
  have hyy := hy.trans (Hr.out false)
  have hbz := hbb.trans (hb3.mono hbb.size)
  have Hy := Lib.hid hyy
  have ey : y = ⟨#[49]⟩ := eq_lit (by rw [hyy, H1.out]; decide)
  subst ey
  
  
  clear hy hy2 hyy hbb hb3 HN HDn
  go_wp2
  go_ret2
  exact ⟨x, rfl, Hx.out, hbz⟩

set_option maxHeartbeats 2000000 in
set_option maxRecDepth 100000 in
theorem make_neg_frac (a b : ByteArray) (w : World) (ha : a.size ≤ 1100000) (hb : b.size ≤ 1100000) (h0 : intErr (bl a) = 0) (h : intErr (bl b) = 0) (hd0 : dval (body (bl b)) ≠ 0) (hn : isNeg (bl b) = true) (h1 : dval (body (bl b)) / Nat.gcd (dval (body (bl a))) (dval (body (bl b))) ≠ 1) :
    Calls Tryz.prog 73 #[.string a, .string b] w (MakeOk w (ratTxt (!(isNeg (bl a) == true)) (dval (body (bl a))) (dval (body (bl b))))) := by
  have HG := Lib.hid (fun W => gcd_ok a b W (by omega) (by omega) h0 h)
  have HA := Lib.hid (dval_body_lt h0)
  have HB := Lib.hid (dval_body_lt h)
  have hcb := (intErr_zero h).1
  have hp := canonI_pos hcb
  have hne : bl b ≠ [48] := fun e => hd0 ((canon_zero hcb).1 e)
  have tz := ne_lit hne
  have hbc := bl_cons b hp
  obtain ⟨c, hc⟩ : ∃ c, b[0] = c := ⟨_, rfl⟩
  rw [hc] at hbc
  have t4 : ((c.toNat : Int) == 45) = true := by
    rw [hbc] at hn
    simp [isNeg] at hn
    rw [hn]; rfl
  have HN : Hid (∀ W (g : ByteArray), bl g = istr true (Nat.gcd (dval (body (bl a))) (dval (body (bl b)))) → Calls Tryz.prog 91 #[.string a, .string g] W (DivOk W (sgnv (!(isNeg (bl a) == true)) (dval (body (bl a)) / Nat.gcd (dval (body (bl a))) (dval (body (bl b))))))) := by
    intro W g hg
    have hg0 : Nat.gcd (dval (body (bl a))) (dval (body (bl b))) ≠ 0 := fun e => hd0 (Nat.eq_zero_of_gcd_eq_zero_right e)
    have hglt := gcd_lt (dval_body_lt h0) (dval_body_lt h)
    have hs := istr_size hg hglt
    have := divmod_ok a g W (by omega) (by omega) h0 (by rw [hg]; exact intErr_small hglt) (by rw [hg, dval_istr]; exact hg0) (by rw [hg, dval_istr]; exact Nat.gcd_dvd_left _ _)
    rw [hg, dval_istr, isNeg_istr, decide_eq_true hg0, Bool.and_true] at this
    exact this
  have HDn : Hid (∀ W (g : ByteArray), bl g = istr true (Nat.gcd (dval (body (bl a))) (dval (body (bl b)))) → Calls Tryz.prog 91 #[.string b, .string g] W (DivOk W (sgnv false (dval (body (bl b)) / Nat.gcd (dval (body (bl a))) (dval (body (bl b))))))) := by
    intro W g hg
    have hg0 : Nat.gcd (dval (body (bl a))) (dval (body (bl b))) ≠ 0 := fun e => hd0 (Nat.eq_zero_of_gcd_eq_zero_right e)
    have hglt := gcd_lt (dval_body_lt h0) (dval_body_lt h)
    have hs := istr_size hg hglt
    have := divmod_ok b g W (by omega) (by omega) h (by rw [hg]; exact intErr_small hglt) (by rw [hg, dval_istr]; exact hg0) (by rw [hg, dval_istr]; exact Nat.gcd_dvd_right _ _)
    rw [hg, dval_istr, isNeg_istr, decide_eq_true hg0, Bool.and_true, hn] at this
    exact this
  have Hlt : Hid (Nat.gcd (dval (body (bl a))) (dval (body (bl b))) < ten 1000) := gcd_lt (dval_body_lt h0) (dval_body_lt h)
  have hg00 : Nat.gcd (dval (body (bl a))) (dval (body (bl b))) ≠ 0 := fun e => hd0 (Nat.eq_zero_of_gcd_eq_zero_right e)
  clear ha hb h0 h hd0 hcb hne hbc hn
  have HL : ratTxt (!(isNeg (bl a) == true)) (dval (body (bl a))) (dval (body (bl b))) = istr (!(isNeg (bl a) == true)) (dval (body (bl a)) / Nat.gcd (dval (body (bl a))) (dval (body (bl b)))) ++ [47] ++ istr false (dval (body (bl b)) / Nat.gcd (dval (body (bl a))) (dval (body (bl b)))) := by rw [ratTxt, if_neg h1]
  rw [HL]
  clear HL
  have HG0 := Lib.hid hg00
  clear hg00
  generalize dval (body (bl a)) = N at *
  generalize dval (body (bl b)) = D at *
  generalize isNeg (bl a) = na at *
  generalize Nat.gcd N D = G at *
  obtain ⟨q, hq⟩ : ∃ q, q = N / G := ⟨_, rfl⟩
  obtain ⟨r, hr⟩ : ∃ r, r = D / G := ⟨_, rfl⟩
  have hqlt : q < ten 1000 := by rw [hq]; exact Nat.lt_of_le_of_lt (Nat.div_le_self _ _) HA.out
  have hrlt : r < ten 1000 := by rw [hr]; exact Nat.lt_of_le_of_lt (Nat.div_le_self _ _) HB.out
  rw [← hq] at HN ⊢
  rw [← hr] at HDn h1 ⊢
  have Hq : Hid (∀ sg, zStr (sgnv sg q) = istr sg q) := fun sg => by rw [← wStr_sgnv]; exact (wErr_zero hqlt sg).2
  have Hr : Hid (∀ sg, zStr (sgnv sg r) = istr sg r) := fun sg => by rw [← wStr_sgnv]; exact (wErr_zero hrlt sg).2
  have H1 := Lib.hid h1
  generalize hsg : (!(na == true)) = sg at HN ⊢
  have Hql := Lib.hid hqlt
  have Hrl := Lib.hid hrlt
  clear hq hr hqlt hrlt HA HB h1 hsg
  go_enter Tryz.func73, Tryz.ntmps73
  go_wp2_with fail
  refine (HG.out _).mono ?_
  rintro e w1 ⟨g, rfl, hg, hb1⟩
  have hg2 : Hid (bl (⟨#[45]⟩ ++ g) = istr true G) := by
    show _ = _
    rw [bl_append, hg, istr_ne true HG0.out, istr_ne false HG0.out]; rfl
  have hgs : g.size ≤ 1002 := istr_size hg Hlt.out
  clear hg HG
  go_wp2_with fail
  refine (HN.out _ _ hg2.out).mono ?_
  rintro e w2 ⟨x, x2, rfl, hx, hx2, hb2⟩
  have Hx := Lib.hid (hx.trans (Hq.out sg))
  have hbb := hb1.trans (hb2.mono hb1.size)
  clear hx hx2 hb1 hb2
  go_wp2_with fail
  refine (HDn.out _ _ hg2.out).mono ?_
  rintro e w3 ⟨y, y2, rfl, hy, hy2, hb3⟩
  have hyy := hy.trans (Hr.out false)
  have hbz := hbb.trans (hb3.mono hbb.size)
  have Hy := Lib.hid hyy
  have ey : (y.toList == [49]) = false := ne_lit (fun e => H1.out ((istr_one r).1 (by rw [← hyy]; exact e)))
  have hun := hy2
  have hxs : x.size ≤ 1002 := istr_size Hx.out Hql.out
  have hys : y.size ≤ 1002 := istr_size hyy Hrl.out
  clear hy hy2 hyy hbb hb3 HN HDn hun
  go_wp2
  go_ret2
  exact ⟨_, rfl, by rw [bl_append, bl_append, Hx.out, Hy.out]; rfl, hbz⟩

set_option maxHeartbeats 2000000 in
set_option maxRecDepth 100000 in
theorem make_pos_one (a b : ByteArray) (w : World) (ha : a.size ≤ 1100000) (hb : b.size ≤ 1100000) (h0 : intErr (bl a) = 0) (h : intErr (bl b) = 0) (hd0 : dval (body (bl b)) ≠ 0) (hn : isNeg (bl b) = false) (h1 : dval (body (bl b)) / Nat.gcd (dval (body (bl a))) (dval (body (bl b))) = 1) :
    Calls Tryz.prog 73 #[.string a, .string b] w (MakeOk w (ratTxt (!(isNeg (bl a) == false)) (dval (body (bl a))) (dval (body (bl b))))) := by
  have HG := Lib.hid (fun W => gcd_ok a b W (by omega) (by omega) h0 h)
  have HA := Lib.hid (dval_body_lt h0)
  have HB := Lib.hid (dval_body_lt h)
  have hcb := (intErr_zero h).1
  have hp := canonI_pos hcb
  have hne : bl b ≠ [48] := fun e => hd0 ((canon_zero hcb).1 e)
  have tz := ne_lit hne
  have hbc := bl_cons b hp
  obtain ⟨c, hc⟩ : ∃ c, b[0] = c := ⟨_, rfl⟩
  rw [hc] at hbc
  have t4 : ((c.toNat : Int) == 45) = false := by
    rw [hbc] at hn
    simp [isNeg] at hn
    rw [beq_eq_false_iff_ne]; intro e; apply hn; apply UInt8.toNat_inj.1; show c.toNat = 45; omega
  have HN : Hid (∀ W (g : ByteArray), bl g = istr false (Nat.gcd (dval (body (bl a))) (dval (body (bl b)))) → Calls Tryz.prog 91 #[.string a, .string g] W (DivOk W (sgnv (!(isNeg (bl a) == false)) (dval (body (bl a)) / Nat.gcd (dval (body (bl a))) (dval (body (bl b))))))) := by
    intro W g hg
    have hg0 : Nat.gcd (dval (body (bl a))) (dval (body (bl b))) ≠ 0 := fun e => hd0 (Nat.eq_zero_of_gcd_eq_zero_right e)
    have hglt := gcd_lt (dval_body_lt h0) (dval_body_lt h)
    have hs := istr_size hg hglt
    have := divmod_ok a g W (by omega) (by omega) h0 (by rw [hg]; exact intErr_small hglt) (by rw [hg, dval_istr]; exact hg0) (by rw [hg, dval_istr]; exact Nat.gcd_dvd_left _ _)
    rw [hg, dval_istr, isNeg_istr, decide_eq_true hg0, Bool.and_true] at this
    exact this
  have HDn : Hid (∀ W (g : ByteArray), bl g = istr false (Nat.gcd (dval (body (bl a))) (dval (body (bl b)))) → Calls Tryz.prog 91 #[.string b, .string g] W (DivOk W (sgnv false (dval (body (bl b)) / Nat.gcd (dval (body (bl a))) (dval (body (bl b))))))) := by
    intro W g hg
    have hg0 : Nat.gcd (dval (body (bl a))) (dval (body (bl b))) ≠ 0 := fun e => hd0 (Nat.eq_zero_of_gcd_eq_zero_right e)
    have hglt := gcd_lt (dval_body_lt h0) (dval_body_lt h)
    have hs := istr_size hg hglt
    have := divmod_ok b g W (by omega) (by omega) h (by rw [hg]; exact intErr_small hglt) (by rw [hg, dval_istr]; exact hg0) (by rw [hg, dval_istr]; exact Nat.gcd_dvd_right _ _)
    rw [hg, dval_istr, isNeg_istr, decide_eq_true hg0, Bool.and_true, hn] at this
    exact this
  have Hlt : Hid (Nat.gcd (dval (body (bl a))) (dval (body (bl b))) < ten 1000) := gcd_lt (dval_body_lt h0) (dval_body_lt h)
  have hg00 : Nat.gcd (dval (body (bl a))) (dval (body (bl b))) ≠ 0 := fun e => hd0 (Nat.eq_zero_of_gcd_eq_zero_right e)
  clear ha hb h0 h hd0 hcb hne hbc hn
  have HL : ratTxt (!(isNeg (bl a) == false)) (dval (body (bl a))) (dval (body (bl b))) = istr (!(isNeg (bl a) == false)) (dval (body (bl a)) / Nat.gcd (dval (body (bl a))) (dval (body (bl b)))) := by rw [ratTxt, if_pos h1]
  rw [HL]
  clear HL
  have HG0 := Lib.hid hg00
  clear hg00
  generalize dval (body (bl a)) = N at *
  generalize dval (body (bl b)) = D at *
  generalize isNeg (bl a) = na at *
  generalize Nat.gcd N D = G at *
  obtain ⟨q, hq⟩ : ∃ q, q = N / G := ⟨_, rfl⟩
  obtain ⟨r, hr⟩ : ∃ r, r = D / G := ⟨_, rfl⟩
  have hqlt : q < ten 1000 := by rw [hq]; exact Nat.lt_of_le_of_lt (Nat.div_le_self _ _) HA.out
  have hrlt : r < ten 1000 := by rw [hr]; exact Nat.lt_of_le_of_lt (Nat.div_le_self _ _) HB.out
  rw [← hq] at HN ⊢
  rw [← hr] at HDn h1
  have Hq : Hid (∀ sg, zStr (sgnv sg q) = istr sg q) := fun sg => by rw [← wStr_sgnv]; exact (wErr_zero hqlt sg).2
  have Hr : Hid (∀ sg, zStr (sgnv sg r) = istr sg r) := fun sg => by rw [← wStr_sgnv]; exact (wErr_zero hrlt sg).2
  have H1 := Lib.hid h1
  generalize hsg : (!(na == false)) = sg at HN ⊢
  have Hql := Lib.hid hqlt
  have Hrl := Lib.hid hrlt
  clear hq hr hqlt hrlt HA HB h1 hsg
  go_enter Tryz.func73, Tryz.ntmps73
  go_wp2_with fail
  refine (HG.out _).mono ?_
  rintro e w1 ⟨g, rfl, hg, hb1⟩
  have hg2 : Hid (bl g = istr false G) := by
    show _ = _
    exact hg
  have hgs : g.size ≤ 1002 := istr_size hg Hlt.out
  clear hg HG
  go_wp2_with fail
  refine (HN.out _ _ hg2.out).mono ?_
  rintro e w2 ⟨x, x2, rfl, hx, hx2, hb2⟩
  have Hx := Lib.hid (hx.trans (Hq.out sg))
  have hbb := hb1.trans (hb2.mono hb1.size)
  clear hx hx2 hb1 hb2
  go_wp2_with fail
  refine (HDn.out _ _ hg2.out).mono ?_
  rintro e w3 ⟨y, y2, rfl, hy, hy2, hb3⟩
  have hyy := hy.trans (Hr.out false)
  have hbz := hbb.trans (hb3.mono hbb.size)
  have Hy := Lib.hid hyy
  have ey : y = ⟨#[49]⟩ := eq_lit (by rw [hyy, H1.out]; decide)
  subst ey
  
  
  clear hy hy2 hyy hbb hb3 HN HDn
  go_wp2
  go_ret2
  exact ⟨x, rfl, Hx.out, hbz⟩

set_option maxHeartbeats 2000000 in
set_option maxRecDepth 100000 in
theorem make_pos_frac (a b : ByteArray) (w : World) (ha : a.size ≤ 1100000) (hb : b.size ≤ 1100000) (h0 : intErr (bl a) = 0) (h : intErr (bl b) = 0) (hd0 : dval (body (bl b)) ≠ 0) (hn : isNeg (bl b) = false) (h1 : dval (body (bl b)) / Nat.gcd (dval (body (bl a))) (dval (body (bl b))) ≠ 1) :
    Calls Tryz.prog 73 #[.string a, .string b] w (MakeOk w (ratTxt (!(isNeg (bl a) == false)) (dval (body (bl a))) (dval (body (bl b))))) := by
  have HG := Lib.hid (fun W => gcd_ok a b W (by omega) (by omega) h0 h)
  have HA := Lib.hid (dval_body_lt h0)
  have HB := Lib.hid (dval_body_lt h)
  have hcb := (intErr_zero h).1
  have hp := canonI_pos hcb
  have hne : bl b ≠ [48] := fun e => hd0 ((canon_zero hcb).1 e)
  have tz := ne_lit hne
  have hbc := bl_cons b hp
  obtain ⟨c, hc⟩ : ∃ c, b[0] = c := ⟨_, rfl⟩
  rw [hc] at hbc
  have t4 : ((c.toNat : Int) == 45) = false := by
    rw [hbc] at hn
    simp [isNeg] at hn
    rw [beq_eq_false_iff_ne]; intro e; apply hn; apply UInt8.toNat_inj.1; show c.toNat = 45; omega
  have HN : Hid (∀ W (g : ByteArray), bl g = istr false (Nat.gcd (dval (body (bl a))) (dval (body (bl b)))) → Calls Tryz.prog 91 #[.string a, .string g] W (DivOk W (sgnv (!(isNeg (bl a) == false)) (dval (body (bl a)) / Nat.gcd (dval (body (bl a))) (dval (body (bl b))))))) := by
    intro W g hg
    have hg0 : Nat.gcd (dval (body (bl a))) (dval (body (bl b))) ≠ 0 := fun e => hd0 (Nat.eq_zero_of_gcd_eq_zero_right e)
    have hglt := gcd_lt (dval_body_lt h0) (dval_body_lt h)
    have hs := istr_size hg hglt
    have := divmod_ok a g W (by omega) (by omega) h0 (by rw [hg]; exact intErr_small hglt) (by rw [hg, dval_istr]; exact hg0) (by rw [hg, dval_istr]; exact Nat.gcd_dvd_left _ _)
    rw [hg, dval_istr, isNeg_istr, decide_eq_true hg0, Bool.and_true] at this
    exact this
  have HDn : Hid (∀ W (g : ByteArray), bl g = istr false (Nat.gcd (dval (body (bl a))) (dval (body (bl b)))) → Calls Tryz.prog 91 #[.string b, .string g] W (DivOk W (sgnv false (dval (body (bl b)) / Nat.gcd (dval (body (bl a))) (dval (body (bl b))))))) := by
    intro W g hg
    have hg0 : Nat.gcd (dval (body (bl a))) (dval (body (bl b))) ≠ 0 := fun e => hd0 (Nat.eq_zero_of_gcd_eq_zero_right e)
    have hglt := gcd_lt (dval_body_lt h0) (dval_body_lt h)
    have hs := istr_size hg hglt
    have := divmod_ok b g W (by omega) (by omega) h (by rw [hg]; exact intErr_small hglt) (by rw [hg, dval_istr]; exact hg0) (by rw [hg, dval_istr]; exact Nat.gcd_dvd_right _ _)
    rw [hg, dval_istr, isNeg_istr, decide_eq_true hg0, Bool.and_true, hn] at this
    exact this
  have Hlt : Hid (Nat.gcd (dval (body (bl a))) (dval (body (bl b))) < ten 1000) := gcd_lt (dval_body_lt h0) (dval_body_lt h)
  have hg00 : Nat.gcd (dval (body (bl a))) (dval (body (bl b))) ≠ 0 := fun e => hd0 (Nat.eq_zero_of_gcd_eq_zero_right e)
  clear ha hb h0 h hd0 hcb hne hbc hn
  have HL : ratTxt (!(isNeg (bl a) == false)) (dval (body (bl a))) (dval (body (bl b))) = istr (!(isNeg (bl a) == false)) (dval (body (bl a)) / Nat.gcd (dval (body (bl a))) (dval (body (bl b)))) ++ [47] ++ istr false (dval (body (bl b)) / Nat.gcd (dval (body (bl a))) (dval (body (bl b)))) := by rw [ratTxt, if_neg h1]
  rw [HL]
  clear HL
  have HG0 := Lib.hid hg00
  clear hg00
  generalize dval (body (bl a)) = N at *
  generalize dval (body (bl b)) = D at *
  generalize isNeg (bl a) = na at *
  generalize Nat.gcd N D = G at *
  obtain ⟨q, hq⟩ : ∃ q, q = N / G := ⟨_, rfl⟩
  obtain ⟨r, hr⟩ : ∃ r, r = D / G := ⟨_, rfl⟩
  have hqlt : q < ten 1000 := by rw [hq]; exact Nat.lt_of_le_of_lt (Nat.div_le_self _ _) HA.out
  have hrlt : r < ten 1000 := by rw [hr]; exact Nat.lt_of_le_of_lt (Nat.div_le_self _ _) HB.out
  rw [← hq] at HN ⊢
  rw [← hr] at HDn h1 ⊢
  have Hq : Hid (∀ sg, zStr (sgnv sg q) = istr sg q) := fun sg => by rw [← wStr_sgnv]; exact (wErr_zero hqlt sg).2
  have Hr : Hid (∀ sg, zStr (sgnv sg r) = istr sg r) := fun sg => by rw [← wStr_sgnv]; exact (wErr_zero hrlt sg).2
  have H1 := Lib.hid h1
  generalize hsg : (!(na == false)) = sg at HN ⊢
  have Hql := Lib.hid hqlt
  have Hrl := Lib.hid hrlt
  clear hq hr hqlt hrlt HA HB h1 hsg
  go_enter Tryz.func73, Tryz.ntmps73
  go_wp2_with fail
  refine (HG.out _).mono ?_
  rintro e w1 ⟨g, rfl, hg, hb1⟩
  have hg2 : Hid (bl g = istr false G) := by
    show _ = _
    exact hg
  have hgs : g.size ≤ 1002 := istr_size hg Hlt.out
  clear hg HG
  go_wp2_with fail
  refine (HN.out _ _ hg2.out).mono ?_
  rintro e w2 ⟨x, x2, rfl, hx, hx2, hb2⟩
  have Hx := Lib.hid (hx.trans (Hq.out sg))
  have hbb := hb1.trans (hb2.mono hb1.size)
  clear hx hx2 hb1 hb2
  go_wp2_with fail
  refine (HDn.out _ _ hg2.out).mono ?_
  rintro e w3 ⟨y, y2, rfl, hy, hy2, hb3⟩
  have hyy := hy.trans (Hr.out false)
  have hbz := hbb.trans (hb3.mono hbb.size)
  have Hy := Lib.hid hyy
  have ey : (y.toList == [49]) = false := ne_lit (fun e => H1.out ((istr_one r).1 (by rw [← hyy]; exact e)))
  have hun := hy2
  have hxs : x.size ≤ 1002 := istr_size Hx.out Hql.out
  have hys : y.size ≤ 1002 := istr_size hyy Hrl.out
  clear hy hy2 hyy hbb hb3 HN HDn hun
  go_wp2
  go_ret2
  exact ⟨_, rfl, by rw [bl_append, bl_append, Hx.out, Hy.out]; rfl, hbz⟩

theorem make_ok (a b : ByteArray) (w : World) (ha : a.size ≤ 1100000) (hb : b.size ≤ 1100000) (h0 : intErr (bl a) = 0) (h : intErr (bl b) = 0) (hd0 : dval (body (bl b)) ≠ 0) :
    Calls Tryz.prog 73 #[.string a, .string b] w (MakeOk w (ratTxt (!(isNeg (bl a) == isNeg (bl b))) (dval (body (bl a))) (dval (body (bl b))))) := by
  by_cases h1 : dval (body (bl b)) / Nat.gcd (dval (body (bl a))) (dval (body (bl b))) = 1
  · cases hn : isNeg (bl b)
    · exact make_pos_one a b w ha hb h0 h hd0 hn h1
    · exact make_neg_one a b w ha hb h0 h hd0 hn h1
  · cases hn : isNeg (bl b)
    · exact make_pos_frac a b w ha hb h0 h hd0 hn h1
    · exact make_neg_frac a b w ha hb h0 h hd0 hn h1
end Go.Proofs.YtofbngpckllkoacGreat

namespace Go.Proofs.YtofbngpckllkoacGreat
open Go.RowKit

/-- The cells of a pair of rationals. -/
def Pair5 (W : World) (P : Nat) (n0 n1 d0 d1 : ByteArray) (e : Int) : Prop := W.heap[P]? = some (.cells #[.string n0, .string n1, .string d0, .string d1, .int .i64 e] 91 (0, 0))
theorem Pair5.lt {W : World} {P : Nat} {n0 n1 d0 d1 : ByteArray} {e : Int} (h : Pair5 W P n0 n1 d0 d1 e) : P < W.heap.size := (Array.getElem?_eq_some_iff.1 h).1
theorem Pair5.cells {W : World} {P : Nat} {n0 n1 d0 d1 : ByteArray} {e : Int} (h : Pair5 W P n0 n1 d0 d1 e) :
    W.cell? ⟨P, 0, none⟩ = some (.string n0) ∧ W.cell? ⟨P, 1, none⟩ = some (.string n1) ∧ W.cell? ⟨P, 2, none⟩ = some (.string d0) ∧ W.cell? ⟨P, 3, none⟩ = some (.string d1) ∧ W.cell? ⟨P, 4, none⟩ = some (.int .i64 e) := by
  simp [World.cell?, show W.heap[P]? = _ from h]
theorem Pair5.frozen {W : World} {P : Nat} {n0 n1 d0 d1 : ByteArray} {e : Int} (h : Pair5 W P n0 n1 d0 d1 e) (o : Nat) : W.frozen? ⟨P, o, none⟩ = false := by simp [World.frozen?, show W.heap[P]? = _ from h]
theorem Pair5.of_block {W W' : World} {P : Nat} {n0 n1 d0 d1 : ByteArray} {e : Int} (h : Pair5 W P n0 n1 d0 d1 e) (k : W'.heap[P]? = W.heap[P]?) : Pair5 W' P n0 n1 d0 d1 e := k.trans h
theorem Pair5.below {W W' : World} {P : Nat} {n0 n1 d0 d1 : ByteArray} {e : Int} (h : Pair5 W P n0 n1 d0 d1 e) (hb : Below W.heap.size W W') : Pair5 W' P n0 n1 d0 d1 e := h.of_block (hb.block _ h.lt)
theorem Pair5.setE {W : World} {P : Nat} {n0 n1 d0 d1 : ByteArray} {e : Int} (h : Pair5 W P n0 n1 d0 d1 e) (x : Int) : Pair5 (W.setCell ⟨P, 4, none⟩ (.int .i64 x)) P n0 n1 d0 d1 x := heap_set_same h 4 (.int .i64 x)
theorem Pair5.set0 {W : World} {P : Nat} {n0 n1 d0 d1 : ByteArray} {e : Int} (h : Pair5 W P n0 n1 d0 d1 e) (x y : ByteArray) (z : Int) :
    Pair5 (((W.setCell ⟨P, 0, none⟩ (.string x)).setCell ⟨P, 2, none⟩ (.string y)).setCell ⟨P, 4, none⟩ (.int .i64 z)) P x n1 y d1 z :=
  heap_set_same (heap_set_same (heap_set_same h 0 (.string x)) 2 (.string y)) 4 (.int .i64 z)
theorem Pair5.set1 {W : World} {P : Nat} {n0 n1 d0 d1 : ByteArray} {e : Int} (h : Pair5 W P n0 n1 d0 d1 e) (x y : ByteArray) (z : Int) :
    Pair5 (((W.setCell ⟨P, 1, none⟩ (.string x)).setCell ⟨P, 3, none⟩ (.string y)).setCell ⟨P, 4, none⟩ (.int .i64 z)) P n0 x d0 y z :=
  heap_set_same (heap_set_same (heap_set_same h 1 (.string x)) 3 (.string y)) 4 (.int .i64 z)

/-- What both lays. -/
def bN1 (a b : ByteArray) : ByteArray := if ratErr a = 0 then pN b else ⟨#[]⟩
def bD1 (a b : ByteArray) : ByteArray := if ratErr a = 0 then pD b else ⟨#[]⟩
def bE (a b : ByteArray) : Int := if ratErr a = 0 then ratErr b else ratErr a
def BothPost (w : World) (a b : ByteArray) (e : Ending) (w' : World) : Prop :=
  ∃ P, e = .returned (.pointer (some ⟨P, 0, none⟩)) ∧ w.heap.size ≤ P ∧ Pair5 w' P (pN a) (bN1 a b) (pD a) (bD1 a b) (bE a b) ∧ Below w.heap.size w w'

def BothSt (a b : ByteArray) (k : Nat) (n0 n1 d0 d1 : ByteArray) (e : Int) : Prop :=
  match k with
  | 0 => n0 = ⟨#[]⟩ ∧ n1 = ⟨#[]⟩ ∧ d0 = ⟨#[]⟩ ∧ d1 = ⟨#[]⟩ ∧ e = 0
  | 1 => n0 = pN a ∧ n1 = ⟨#[]⟩ ∧ d0 = pD a ∧ d1 = ⟨#[]⟩ ∧ e = ratErr a
  | _ => n0 = pN a ∧ n1 = bN1 a b ∧ d0 = pD a ∧ d1 = bD1 a b ∧ e = bE a b

theorem index_two (a b : ByteArray) (W : World) : (Instr.index 116 (.agg #[.string a, .string b]) (.int .i64 0)).run Tryz.prog W = .ok (.string a) W ∧ (Instr.index 116 (.agg #[.string a, .string b]) (.int .i64 1)).run Tryz.prog W = .ok (.string b) W := by
  constructor <;> simp [Instr.index, run_underlying Tryz.underlying116, asIntOf, go_sem]
set_option maxHeartbeats 2000000 in
set_option maxRecDepth 100000 in
theorem both_ab (a b : ByteArray) (w : World) (ha : a.size ≤ 4611686018427387904) (hb : b.size ≤ 4611686018427387904) :
    Calls Tryz.prog 42 #[.string a, .string b] w (BothPost w a b) := by
  have HPa := Lib.hid (fun W => parts_any a W ha)
  have HPb := Lib.hid (fun W => parts_any b W hb)
  clear ha hb
  have HP0 : Hid (Pair5 (w.alloc (.cells #[.string ⟨#[]⟩, .string ⟨#[]⟩, .string ⟨#[]⟩, .string ⟨#[]⟩, .int .i64 0] 91)) w.heap.size ⟨#[]⟩ ⟨#[]⟩ ⟨#[]⟩ ⟨#[]⟩ 0) := by
    show (w.heap.push _)[w.heap.size]? = _
    simp
  have hb0 := below_a1 w (.cells #[.string ⟨#[]⟩, .string ⟨#[]⟩, .string ⟨#[]⟩, .string ⟨#[]⟩, .int .i64 0] 91)
  have HB0 := Lib.hid hb0
  clear hb0
  have hx0 := fun W => (index_two a b W).1
  have hx1 := fun W => (index_two a b W).2
  go_enter Tryz.func42, Tryz.ntmps42
  go_wp2_with fail
  go_loopw [13] (fun i wr => ∃ (k : Nat) (ki : Int) (n0 n1 d0 d1 : ByteArray) (er : Int), k ≤ 2 ∧ ki = (k : Int) ∧ i = .int .i64 ki ∧ Hid (BothSt a b k n0 n1 d0 d1 er) ∧ Pair5 wr w.heap.size n0 n1 d0 d1 er ∧ Below w.heap.size w wr) (fun i _ => 2 - (intOf i).toNat)
  case atStart => exact ⟨0, 0, _, _, _, _, _, by omega, rfl, rfl, Lib.hid ⟨rfl, rfl, rfl, rfl, rfl⟩, HP0.out, HB0.out⟩
  case round =>
    obtain ⟨k, ki, n0, n1, d0, d1, er, hk, hki, rfl, HS, hp, hbel⟩ := hrel
    have hk3 : k = 0 ∨ k = 1 ∨ k = 2 := by omega
    clear hk
    rcases hk3 with rfl | rfl | rfl
    · obtain rfl : ki = 0 := by omega
      clear hki
      obtain ⟨rfl, rfl, rfl, rfl, rfl⟩ := HS.out
      have c := hp.cells
      have cc := fun W (hb : Below wr.heap.size wr W) => (hp.below hb).cells
      have ff := fun W (hb : Below wr.heap.size wr W) o => (hp.below hb).frozen o
      have HC := Lib.hid (And.intro cc ff)
      have q4 := c.2.2.2.2
      have Hp := Lib.hid hp
      clear c cc ff hp
      go_wp2_with fail
      go_region_held3 (fun _ => True) (exact trivial)
        (first | (go_at_call 68; refine (HPa.out _).mono ?_; rintro e w2 ⟨rfl, hb2⟩; have hb3 : Below wr.heap.size wr w2 := (Below.drew (Below.refl _ _)).trans hb2; obtain ⟨p0, p1, p2, p3, p4⟩ := HC.out.1 _ hb3; have f0 := HC.out.2 _ hb3 0; have f2 := HC.out.2 _ hb3 2; have f4 := HC.out.2 _ hb3 4))
      have hp3 := Lib.hid ((Hp.out.below hb3).set0 (pN a) (pD a) (ratErr a))
      have hbl3 := Lib.hid ((((hbel.trans (hb3.mono hbel.size)).setCell (p := ⟨w.heap.size, 0, none⟩) (Nat.le_refl _) (.string (pN a))).setCell (p := ⟨w.heap.size, 2, none⟩) (Nat.le_refl _) (.string (pD a))).setCell (p := ⟨w.heap.size, 4, none⟩) (Nat.le_refl _) (.int .i64 (ratErr a)))
      clear p0 p1 p2 p3 p4 f0 f2 f4 hbel hb2 hb3
      go_wp2
      go_roundw
      case rel => exact ⟨1, 1, _, _, _, _, _, by omega, rfl, by go_num, Lib.hid ⟨rfl, rfl, rfl, rfl, rfl⟩, hp3.out, hbl3.out⟩
      case measure => simp [intOf]
    · obtain rfl : ki = 1 := by omega
      clear hki
      obtain ⟨rfl, rfl, rfl, rfl, rfl⟩ := HS.out
      by_cases he : ratErr a = 0
      · have t0 : (ratErr a == 0) = true := by rw [beq_iff_eq]; exact he
        have HE : Hid (BothSt a b 2 (pN a) (pN b) (pD a) (pD b) (ratErr b)) := ⟨rfl, by rw [bN1, if_pos he], rfl, by rw [bD1, if_pos he], by rw [bE, if_pos he]⟩
        clear he
        have c := hp.cells
        have cc := fun W (hb : Below wr.heap.size wr W) => (hp.below hb).cells
        have ff := fun W (hb : Below wr.heap.size wr W) o => (hp.below hb).frozen o
        have HC := Lib.hid (And.intro cc ff)
        have q4 := c.2.2.2.2
        have Hp := Lib.hid hp
        clear c cc ff hp
        go_wp2_with fail
        go_region_held3 (fun _ => True) (exact trivial)
          (first | (go_at_call 68; refine (HPb.out _).mono ?_; rintro e w2 ⟨rfl, hb2⟩; have hb3 : Below wr.heap.size wr w2 := (Below.drew (Below.refl _ _)).trans hb2; obtain ⟨p0, p1, p2, p3, p4⟩ := HC.out.1 _ hb3; have f1 := HC.out.2 _ hb3 1; have f3 := HC.out.2 _ hb3 3; have f4 := HC.out.2 _ hb3 4))
        have hp3 := Lib.hid ((Hp.out.below hb3).set1 (pN b) (pD b) (ratErr b))
        have hbl3 := Lib.hid ((((hbel.trans (hb3.mono hbel.size)).setCell (p := ⟨w.heap.size, 1, none⟩) (Nat.le_refl _) (.string (pN b))).setCell (p := ⟨w.heap.size, 3, none⟩) (Nat.le_refl _) (.string (pD b))).setCell (p := ⟨w.heap.size, 4, none⟩) (Nat.le_refl _) (.int .i64 (ratErr b)))
        clear p0 p1 p2 p3 p4 f1 f3 f4 hbel hb2 hb3
        go_wp2
        go_roundw
        case rel => exact ⟨2, 2, _, _, _, _, _, by omega, rfl, by go_num, HE, hp3.out, hbl3.out⟩
        case measure => simp [intOf]
      · have t0 : (ratErr a == 0) = false := by rw [beq_eq_false_iff_ne]; exact he
        have HE : Hid (BothSt a b 2 (pN a) ⟨#[]⟩ (pD a) ⟨#[]⟩ (ratErr a)) := ⟨rfl, by rw [bN1, if_neg he], rfl, by rw [bD1, if_neg he], by rw [bE, if_neg he]⟩
        clear he
        have q4 := hp.cells.2.2.2.2
        have hp3 := Lib.hid hp
        have hbl3 := Lib.hid hbel
        clear hp hbel
        go_wp2
        go_roundw
        case rel => exact ⟨2, 2, _, _, _, _, _, by omega, rfl, by go_num, HE, hp3.out, hbl3.out⟩
        case measure => simp [intOf]
    · obtain rfl : ki = 2 := by omega
      clear hki
      obtain ⟨rfl, rfl, rfl, rfl, rfl⟩ := HS.out
      have HF : Hid (BothPost w a b (.returned (.pointer (some ⟨w.heap.size, 0, none⟩))) wr) := ⟨_, rfl, Nat.le_refl _, hp, hbel⟩
      clear hp hbel
      go_wp2
      go_ret
      exact HF.out
end Go.Proofs.YtofbngpckllkoacGreat

namespace Go.Proofs.YtofbngpckllkoacGreat
open Go.RowKit

/-- What the closure that keep hands back finds. -/
def Cap (W : World) (P B f : Nat) : Prop :=
  W.heap[B]? = some (.cells #[.pointer (some ⟨P, 0, none⟩)] 82 (0, 0)) ∧ W.heap[B + 1]? = some (.cells #[.func (.func f) #[] #[]] 86 (0, 0))
def KPost (w : World) (P : Nat) (Q : ByteArray → Int → Prop) (e : Ending) (w' : World) : Prop := ∃ t er w2, e = .returned (.string t) ∧ Hid (Q t er) ∧ Below w.heap.size w w2 ∧ w' = w2.setCell ⟨P, 4, none⟩ (.int .i64 er)
theorem Cap.below {W W' : World} {P B f : Nat} (h : Cap W P B f) (hb : Below W.heap.size W W') : Cap W' P B f :=
  ⟨(hb.block _ (Array.getElem?_eq_some_iff.1 h.1).1).trans h.1, (hb.block _ (Array.getElem?_eq_some_iff.1 h.2).1).trans h.2⟩
theorem Cap.lt {W : World} {P B f : Nat} (h : Cap W P B f) : B + 1 < W.heap.size := (Array.getElem?_eq_some_iff.1 h.2).1
theorem Cap.setCell {W : World} {P B f : Nat} (h : Cap W P B f) {a : Addr} (h1 : a.block ≠ B) (h2 : a.block ≠ B + 1) (u : Value) : Cap (W.setCell a u) P B f :=
  ⟨(Below.heap_setCell _ _ _ _ h1.symm).trans h.1, (Below.heap_setCell _ _ _ _ h2.symm).trans h.2⟩
theorem Cap.ne {W : World} {P B f : Nat} (h : Cap W P B f) {n0 n1 d0 d1 : ByteArray} {e : Int} (hp : Pair5 W P n0 n1 d0 d1 e) : P ≠ B ∧ P ≠ B + 1 := by
  constructor
  · rintro rfl
    have := h.1.symm.trans hp
    simp at this
  · rintro rfl
    have := h.2.symm.trans hp
    simp at this
theorem Cap.cells {W : World} {P B f : Nat} (h : Cap W P B f) : W.cell? ⟨B, 0, none⟩ = some (.pointer (some ⟨P, 0, none⟩)) ∧ W.cell? ⟨B + 1, 0, none⟩ = some (.func (.func f) #[] #[]) := by
  simp [World.cell?, h.1, h.2]

set_option maxHeartbeats 1000000 in
set_option maxRecDepth 100000 in
theorem keepr_any (P f : Nat) (w : World) :
    Calls Tryz.prog 43 #[.pointer (some ⟨P, 0, none⟩), .func (.func f) #[] #[]] w fun e w' => e = .returned (.func (.func 69) #[] #[.pointer (some ⟨w.heap.size, 0, none⟩), .pointer (some ⟨w.heap.size + 1, 0, none⟩)]) ∧ Cap w' P w.heap.size f ∧ Below w.heap.size w w' := by
  have hc : Hid (Cap ((w.alloc (.cells #[.pointer (some ⟨P, 0, none⟩)] 82)).alloc (.cells #[.func (.func f) #[] #[]] 86)) P w.heap.size f) := by
    constructor
    · show ((w.heap.push _).push _)[w.heap.size]? = _
      rw [Array.getElem?_push, if_neg (by simp), Array.getElem?_push, if_pos rfl]
    · show ((w.heap.push _).push _)[w.heap.size + 1]? = _
      rw [Array.getElem?_push, if_pos (by simp)]
  have hb := Lib.hid (below_a2 w (.cells #[.pointer (some ⟨P, 0, none⟩)] 82) (.cells #[.func (.func f) #[] #[]] 86))
  go_enter Tryz.func43, Tryz.ntmps43
  go_wp2
  go_ret
  exact ⟨rfl, hc.out, hb.out⟩

set_option maxHeartbeats 1000000 in
set_option maxRecDepth 100000 in
theorem keep1_err (a b : ByteArray) (P B f : Nat) (n0 n1 d0 d1 : ByteArray) (er : Int) (w : World) (hc : Cap w P B f) (hp : Pair5 w P n0 n1 d0 d1 er) (he : er ≠ 0) :
    Calls Tryz.prog 69 #[.string a, .string b, .pointer (some ⟨B, 0, none⟩), .pointer (some ⟨B + 1, 0, none⟩)] w fun e w' => e = .returned (.string ⟨#[]⟩) ∧ w = w' := by
  have c1 := hc.cells.1
  have q4 := hp.cells.2.2.2.2
  have t1 : (er != 0) = true := by rw [bne_iff_ne]; exact he
  clear hc hp he
  go_enter Tryz.func69, Tryz.ntmps69
  go_wp2
  go_ret
  exact ⟨rfl, rfl⟩

set_option maxHeartbeats 2000000 in
set_option maxRecDepth 100000 in
theorem keep1_mul (a b : ByteArray) (P B : Nat) (n0 n1 d0 d1 : ByteArray) (w : World) (hc : Cap w P B 44) (hp : Pair5 w P n0 n1 d0 d1 0) (Q : ByteArray → Int → Prop)
    (HO : Hid (∀ W, Calls Tryz.prog 44 #[.string a, .string b] W fun e w' => ∃ t er, e = .returned (.tuple #[.string t, .int .i64 er]) ∧ Hid (Q t er) ∧ Below W.heap.size W w')) :
    Calls Tryz.prog 69 #[.string a, .string b, .pointer (some ⟨B, 0, none⟩), .pointer (some ⟨B + 1, 0, none⟩)] w (KPost w P Q) := by
  obtain ⟨c1, c2⟩ := hc.cells
  have q4 := hp.cells.2.2.2.2
  have HZ : Hid (∀ W, Below w.heap.size w W → W.cell? ⟨B, 0, none⟩ = some (.pointer (some ⟨P, 0, none⟩)) ∧ W.cell? ⟨B + 1, 0, none⟩ = some (.func (.func 44) #[] #[]) ∧ W.cell? ⟨P, 4, none⟩ = some (.int .i64 0) ∧ W.frozen? ⟨P, 4, none⟩ = false) :=
    fun W hb => ⟨(hc.below hb).cells.1, (hc.below hb).cells.2, (hp.below hb).cells.2.2.2.2, (hp.below hb).frozen 4⟩
  have hne := hc.ne hp
  have Hne := Lib.hid hne
  clear hne
  clear hc hp
  go_enter Tryz.func69, Tryz.ntmps69
  go_wp2_with fail
  have hne := Hne.out
  have hb0 : Below w.heap.size w w.drew := Below.drew (Below.refl _ _)
  go_region_held3 (fun w' => w'.cell? ⟨B, 0, none⟩ = some (.pointer (some ⟨P, 0, none⟩)) ∧ w'.cell? ⟨B + 1, 0, none⟩ = some (.func (.func 44) #[] #[]))
    (first | assumption | exact ⟨by assumption, by assumption⟩ | (refine ⟨?_, ?_⟩ <;> (rw [World.cell?_setCell_far _ _ _ _ (by first | exact hne.1 | exact hne.2)]; assumption)) | go_keep)
    (first | (go_at_call 44; refine (HO.out _).mono ?_; rintro e w2 ⟨t, er, rfl, hq, hb2⟩; have hb3 := hb0.trans hb2; obtain ⟨p1, p2, p3, p4⟩ := HZ.out _ hb3))
  have HF : Hid (KPost w P Q (.returned (.string t)) (w2.setCell ⟨P, 4, none⟩ (.int .i64 er))) := ⟨t, er, w2, rfl, hq, hb3, rfl⟩
  clear hq hb3 hb2 p1 p2 p3 p4
  go_wp2
  go_ret
  exact HF.out
set_option maxHeartbeats 2000000 in
set_option maxRecDepth 100000 in
theorem keep1_add (a b : ByteArray) (P B : Nat) (n0 n1 d0 d1 : ByteArray) (w : World) (hc : Cap w P B 46) (hp : Pair5 w P n0 n1 d0 d1 0) (Q : ByteArray → Int → Prop)
    (HO : Hid (∀ W, Calls Tryz.prog 46 #[.string a, .string b] W fun e w' => ∃ t er, e = .returned (.tuple #[.string t, .int .i64 er]) ∧ Hid (Q t er) ∧ Below W.heap.size W w')) :
    Calls Tryz.prog 69 #[.string a, .string b, .pointer (some ⟨B, 0, none⟩), .pointer (some ⟨B + 1, 0, none⟩)] w (KPost w P Q) := by
  obtain ⟨c1, c2⟩ := hc.cells
  have q4 := hp.cells.2.2.2.2
  have HZ : Hid (∀ W, Below w.heap.size w W → W.cell? ⟨B, 0, none⟩ = some (.pointer (some ⟨P, 0, none⟩)) ∧ W.cell? ⟨B + 1, 0, none⟩ = some (.func (.func 46) #[] #[]) ∧ W.cell? ⟨P, 4, none⟩ = some (.int .i64 0) ∧ W.frozen? ⟨P, 4, none⟩ = false) :=
    fun W hb => ⟨(hc.below hb).cells.1, (hc.below hb).cells.2, (hp.below hb).cells.2.2.2.2, (hp.below hb).frozen 4⟩
  have hne := hc.ne hp
  have Hne := Lib.hid hne
  clear hne
  clear hc hp
  go_enter Tryz.func69, Tryz.ntmps69
  go_wp2_with fail
  have hne := Hne.out
  have hb0 : Below w.heap.size w w.drew := Below.drew (Below.refl _ _)
  go_region_held3 (fun w' => w'.cell? ⟨B, 0, none⟩ = some (.pointer (some ⟨P, 0, none⟩)) ∧ w'.cell? ⟨B + 1, 0, none⟩ = some (.func (.func 46) #[] #[]))
    (first | assumption | exact ⟨by assumption, by assumption⟩ | (refine ⟨?_, ?_⟩ <;> (rw [World.cell?_setCell_far _ _ _ _ (by first | exact hne.1 | exact hne.2)]; assumption)) | go_keep)
    (first | (go_at_call 46; refine (HO.out _).mono ?_; rintro e w2 ⟨t, er, rfl, hq, hb2⟩; have hb3 := hb0.trans hb2; obtain ⟨p1, p2, p3, p4⟩ := HZ.out _ hb3))
  have HF : Hid (KPost w P Q (.returned (.string t)) (w2.setCell ⟨P, 4, none⟩ (.int .i64 er))) := ⟨t, er, w2, rfl, hq, hb3, rfl⟩
  clear hq hb3 hb2 p1 p2 p3 p4
  go_wp2
  go_ret
  exact HF.out
set_option maxHeartbeats 1000000 in
set_option maxRecDepth 100000 in
theorem made_err (x y : ByteArray) (P : Nat) (n0 n1 d0 d1 : ByteArray) (er : Int) (w : World) (hp : Pair5 w P n0 n1 d0 d1 er) (he : er ≠ 0) :
    Calls Tryz.prog 45 #[.pointer (some ⟨P, 0, none⟩), .string x, .string y] w (GcdErr w er) := by
  have q4 := hp.cells.2.2.2.2
  have t1 : (er != 0) = true := by rw [bne_iff_ne]; exact he
  clear hp he
  go_enter Tryz.func45, Tryz.ntmps45
  go_wp2_with fail
  go_quiet (fail)
  go_wp2
  go_ret2
  exact ⟨rfl, below_drewN (Below.refl _ _) _⟩
set_option maxHeartbeats 1000000 in
set_option maxRecDepth 100000 in
theorem made_ok (x y : ByteArray) (P : Nat) (n0 n1 d0 d1 : ByteArray) (w : World) (hp : Pair5 w P n0 n1 d0 d1 0) (l : List UInt8) (HM : Hid (∀ W, Calls Tryz.prog 73 #[.string x, .string y] W (MakeOk W l))) :
    Calls Tryz.prog 45 #[.pointer (some ⟨P, 0, none⟩), .string x, .string y] w (MakeOk w l) := by
  have q4 := hp.cells.2.2.2.2
  clear hp
  go_enter Tryz.func45, Tryz.ntmps45
  go_wp2_with fail
  refine (HM.out _).mono ?_
  rintro e w1 ⟨t, rfl, ht, hb⟩
  have Ht := Lib.hid ht
  clear ht
  go_wp2
  go_ret2
  exact ⟨t, rfl, Ht.out, hb⟩
end Go.Proofs.YtofbngpckllkoacGreat

namespace Go.Proofs.YtofbngpckllkoacGreat
open Go.RowKit

set_option maxHeartbeats 400000 in
set_option maxRecDepth 100000 in
theorem at_any (v : Value) (xs : List Nat) (k : Nat) (w : World) (hv : Sl w v 1 xs.length (nums .i64 xs)) (_ : xs.length ≤ 1000000) :
    Calls Tryz.prog 106 #[v, .int .i64 k] w fun e w' => e = .returned (.int .i64 (xs.getD k 0 : Nat)) ∧ w = w' := by
  obtain ⟨ad, cap, rfl, h1, h3⟩ := hv.nums
  clear hv
  by_cases h : k < xs.length
  · obtain ⟨b, off, rfl, hc⟩ := h3.resolve_left (by omega)
    have hck := hc k h
    clear hc h3
    obtain ⟨y, hy⟩ : ∃ y, xs.getD k 0 = y := ⟨_, rfl⟩
    rw [hy] at hck ⊢
    go_enter Tryz.func106, Tryz.ntmps106
    go_wp2
    go_ret
    exact ⟨rfl, rfl⟩
  · have e : xs.getD k 0 = 0 := by simp only [List.getD, List.getElem?_eq_none (by omega : xs.length ≤ k), Option.getD_none]
    rw [e]
    go_enter Tryz.func106, Tryz.ntmps106
    go_wp2
    go_ret
    exact ⟨rfl, rfl⟩

theorem cmpD_max {b : Nat} (hb : 1 < b) {xs ys : List Nat} (hx : Dig b xs) (hy : Dig b ys) (k : Nat) (h1 : xs.length ≤ k) (h2 : ys.length ≤ k) : cmpD k xs ys = sgn (val b xs) (val b ys) := by
  rw [cmpD_eq hb hx hy, List.take_of_length_le h1, List.take_of_length_le h2]

set_option maxHeartbeats 400000 in
set_option maxRecDepth 100000 in
theorem greater_lt (a b : Value) (xs ys : List Nat) (w : World) (ha : Sl w a 1 xs.length (nums .i64 xs)) (hb : Sl w b 1 ys.length (nums .i64 ys)) (dx : Dig 10 xs) (dy : Dig 10 ys) (lx : xs.length ≤ 1000000) (ly : ys.length ≤ 1000000) (hlt : xs.length < ys.length) :
    Calls Tryz.prog 97 #[a, b] w fun e w' => e = .returned (.int .i64 (sgn (val 10 xs) (val 10 ys))) ∧ w = w' := by
  have HA := Lib.hid (fun k => at_any a xs k w ha lx)
  have HB := Lib.hid (fun k => at_any b ys k w hb ly)
  have HS := Lib.hid (cmpD_max (by decide) dx dy ys.length (by omega) (by omega))
  obtain ⟨ad, ca, rfl, _⟩ := id ha
  obtain ⟨bd, cb, rfl, _⟩ := id hb
  clear ha hb dx dy
  go_enter Tryz.func97, Tryz.ntmps97
  go_wp2
  go_loopw [5] (fun i wr => ∃ k : Nat, k ≤ ys.length ∧ i = .int .i64 (k - 1) ∧ Hid (cmpD k xs ys = cmpD ys.length xs ys) ∧ Hid (wr = w))
    (fun i _ => (intOf i + 1).toNat)
  case atStart => exact ⟨ys.length, Nat.le_refl _, by go_num, rfl, rfl⟩
  case round =>
    obtain ⟨k, hk, rfl, Hrel, hw⟩ := hrel
    obtain rfl := hw.out
    by_cases h0 : 0 < k
    · obtain ⟨k, rfl⟩ : ∃ k', k = k' + 1 := ⟨k - 1, by omega⟩
      have e1 : ((k + 1 : Nat) : Int) - 1 = (k : Int) := by omega
      rw [e1]
      obtain ⟨x, hx⟩ : ∃ x, xs.getD k 0 = x := ⟨_, rfl⟩
      obtain ⟨y, hy⟩ : ∃ y, ys.getD k 0 = y := ⟨_, rfl⟩
      have HAk := Lib.hid (HA.out k)
      have HBk := Lib.hid (HB.out k)
      rw [hx] at HAk
      rw [hy] at HBk
      have Hx := Lib.hid hx; clear hx
      have Hy := Lib.hid hy; clear hy
      by_cases he : x = y
      · subst he
        have hq2 : ((x : Int) != (x : Int)) = false := by simp
        go_wp2_with fail
        refine HAk.out.mono ?_
        rintro e w1 ⟨rfl, rfl⟩
        go_wp2_with fail
        refine HBk.out.mono ?_
        rintro e w1 ⟨rfl, rfl⟩
        go_wp2
        go_roundw
        case rel =>
          refine ⟨k, by omega, by go_num, ?_, by first | exact rfl | exact trivial⟩
          have e := Hrel.out
          rw [cmpD, if_pos (by rw [Hx.out, Hy.out])] at e
          exact e
        case measure => simp [intOf]
      · have hne : ((x : Int) != (y : Int)) = true := by rw [bne_iff_ne]; omega
        by_cases hxy : x < y
        · go_wp2_with fail
          refine HAk.out.mono ?_
          rintro e w1 ⟨rfl, rfl⟩
          go_wp2_with fail
          refine HBk.out.mono ?_
          rintro e w1 ⟨rfl, rfl⟩
          go_wp2_with fail
          refine HAk.out.mono ?_
          rintro e w1 ⟨rfl, rfl⟩
          go_wp2_with fail
          refine HBk.out.mono ?_
          rintro e w1 ⟨rfl, rfl⟩
          go_wp2
          go_ret
          refine ⟨ret_int' ?_, rfl⟩
          have e := Hrel.out
          rw [cmpD, if_neg (by rw [Hx.out, Hy.out]; exact he), if_pos (by rw [Hx.out, Hy.out]; exact hxy)] at e
          rw [← HS.out]
          exact e
        · go_wp2_with fail
          refine HAk.out.mono ?_
          rintro e w1 ⟨rfl, rfl⟩
          go_wp2_with fail
          refine HBk.out.mono ?_
          rintro e w1 ⟨rfl, rfl⟩
          go_wp2_with fail
          refine HAk.out.mono ?_
          rintro e w1 ⟨rfl, rfl⟩
          go_wp2_with fail
          refine HBk.out.mono ?_
          rintro e w1 ⟨rfl, rfl⟩
          go_wp2
          go_ret
          refine ⟨ret_int' ?_, rfl⟩
          have e := Hrel.out
          rw [cmpD, if_neg (by rw [Hx.out, Hy.out]; exact he), if_neg (by rw [Hx.out, Hy.out]; exact hxy)] at e
          rw [← HS.out]
          exact e
    · obtain rfl : k = 0 := by omega
      go_wp2
      go_ret
      refine ⟨ret_int' ?_, rfl⟩
      rw [← HS.out]
      exact Hrel.out

set_option maxHeartbeats 400000 in
set_option maxRecDepth 100000 in
theorem greater_ge (a b : Value) (xs ys : List Nat) (w : World) (ha : Sl w a 1 xs.length (nums .i64 xs)) (hb : Sl w b 1 ys.length (nums .i64 ys)) (dx : Dig 10 xs) (dy : Dig 10 ys) (lx : xs.length ≤ 1000000) (ly : ys.length ≤ 1000000) (hlt : ys.length ≤ xs.length) :
    Calls Tryz.prog 97 #[a, b] w fun e w' => e = .returned (.int .i64 (sgn (val 10 xs) (val 10 ys))) ∧ w = w' := by
  have HA := Lib.hid (fun k => at_any a xs k w ha lx)
  have HB := Lib.hid (fun k => at_any b ys k w hb ly)
  have HS := Lib.hid (cmpD_max (by decide) dx dy xs.length (by omega) (by omega))
  obtain ⟨ad, ca, rfl, _⟩ := id ha
  obtain ⟨bd, cb, rfl, _⟩ := id hb
  clear ha hb dx dy
  go_enter Tryz.func97, Tryz.ntmps97
  go_wp2
  go_loopw [5] (fun i wr => ∃ k : Nat, k ≤ xs.length ∧ i = .int .i64 (k - 1) ∧ Hid (cmpD k xs ys = cmpD xs.length xs ys) ∧ Hid (wr = w))
    (fun i _ => (intOf i + 1).toNat)
  case atStart => exact ⟨xs.length, Nat.le_refl _, by go_num, rfl, rfl⟩
  case round =>
    obtain ⟨k, hk, rfl, Hrel, hw⟩ := hrel
    obtain rfl := hw.out
    by_cases h0 : 0 < k
    · obtain ⟨k, rfl⟩ : ∃ k', k = k' + 1 := ⟨k - 1, by omega⟩
      have e1 : ((k + 1 : Nat) : Int) - 1 = (k : Int) := by omega
      rw [e1]
      obtain ⟨x, hx⟩ : ∃ x, xs.getD k 0 = x := ⟨_, rfl⟩
      obtain ⟨y, hy⟩ : ∃ y, ys.getD k 0 = y := ⟨_, rfl⟩
      have HAk := Lib.hid (HA.out k)
      have HBk := Lib.hid (HB.out k)
      rw [hx] at HAk
      rw [hy] at HBk
      have Hx := Lib.hid hx; clear hx
      have Hy := Lib.hid hy; clear hy
      by_cases he : x = y
      · subst he
        have hq2 : ((x : Int) != (x : Int)) = false := by simp
        go_wp2_with fail
        refine HAk.out.mono ?_
        rintro e w1 ⟨rfl, rfl⟩
        go_wp2_with fail
        refine HBk.out.mono ?_
        rintro e w1 ⟨rfl, rfl⟩
        go_wp2
        go_roundw
        case rel =>
          refine ⟨k, by omega, by go_num, ?_, by first | exact rfl | exact trivial⟩
          have e := Hrel.out
          rw [cmpD, if_pos (by rw [Hx.out, Hy.out])] at e
          exact e
        case measure => simp [intOf]
      · have hne : ((x : Int) != (y : Int)) = true := by rw [bne_iff_ne]; omega
        by_cases hxy : x < y
        · go_wp2_with fail
          refine HAk.out.mono ?_
          rintro e w1 ⟨rfl, rfl⟩
          go_wp2_with fail
          refine HBk.out.mono ?_
          rintro e w1 ⟨rfl, rfl⟩
          go_wp2_with fail
          refine HAk.out.mono ?_
          rintro e w1 ⟨rfl, rfl⟩
          go_wp2_with fail
          refine HBk.out.mono ?_
          rintro e w1 ⟨rfl, rfl⟩
          go_wp2
          go_ret
          refine ⟨ret_int' ?_, rfl⟩
          have e := Hrel.out
          rw [cmpD, if_neg (by rw [Hx.out, Hy.out]; exact he), if_pos (by rw [Hx.out, Hy.out]; exact hxy)] at e
          rw [← HS.out]
          exact e
        · go_wp2_with fail
          refine HAk.out.mono ?_
          rintro e w1 ⟨rfl, rfl⟩
          go_wp2_with fail
          refine HBk.out.mono ?_
          rintro e w1 ⟨rfl, rfl⟩
          go_wp2_with fail
          refine HAk.out.mono ?_
          rintro e w1 ⟨rfl, rfl⟩
          go_wp2_with fail
          refine HBk.out.mono ?_
          rintro e w1 ⟨rfl, rfl⟩
          go_wp2
          go_ret
          refine ⟨ret_int' ?_, rfl⟩
          have e := Hrel.out
          rw [cmpD, if_neg (by rw [Hx.out, Hy.out]; exact he), if_neg (by rw [Hx.out, Hy.out]; exact hxy)] at e
          rw [← HS.out]
          exact e
    · obtain rfl : k = 0 := by omega
      go_wp2
      go_ret
      refine ⟨ret_int' ?_, rfl⟩
      rw [← HS.out]
      exact Hrel.out

theorem greater_any (a b : Value) (xs ys : List Nat) (w : World) (ha : Sl w a 1 xs.length (nums .i64 xs)) (hb : Sl w b 1 ys.length (nums .i64 ys)) (dx : Dig 10 xs) (dy : Dig 10 ys) (lx : xs.length ≤ 1000000) (ly : ys.length ≤ 1000000) :
    Calls Tryz.prog 97 #[a, b] w fun e w' => e = .returned (.int .i64 (sgn (val 10 xs) (val 10 ys))) ∧ w = w' := by
  rcases Nat.lt_or_ge xs.length ys.length with h | h
  · exact greater_lt a b xs ys w ha hb dx dy lx ly h
  · exact greater_ge a b xs ys w ha hb dx dy lx ly h

set_option maxHeartbeats 400000 in
set_option maxRecDepth 100000 in
theorem zero_any (a : Value) (xs : List Nat) (w : World) (ha : Sl w a 1 xs.length (nums .i64 xs)) (dx : Dig 10 xs) (lx : xs.length ≤ 1000000) :
    Calls Tryz.prog 84 #[a] w fun e w' => e = .returned (.bool (val 10 xs == 0)) ∧ w = w' := by
  have C := greater_any a (.slice none 0 0) xs [] w ha (Sl.nil _ _) dx (Dig.nil _) lx (by simp)
  have e : (val 10 xs == 0) = (sgn (val 10 xs) (val 10 []) == 0) := by
    show (val 10 xs == 0) = (sgn (val 10 xs) 0 == 0)
    by_cases h : val 10 xs = 0
    · rw [h]; rfl
    · rw [sgn_gt (by omega)]
      have : (val 10 xs == 0) = false := by simpa using h
      rw [this]; rfl
  rw [e]
  obtain ⟨S, hS⟩ : ∃ S, sgn (val 10 xs) (val 10 []) = S := ⟨_, rfl⟩
  rw [hS] at C ⊢
  have HC := Lib.hid C
  clear C hS e ha dx
  go_enter Tryz.func84, Tryz.ntmps84
  go_wp2_with fail
  refine HC.out.mono ?_
  rintro e w' ⟨rfl, rfl⟩
  go_wp2
  go_ret
  exact ⟨rfl, rfl⟩
end Go.Proofs.YtofbngpckllkoacGreat

namespace Go.Proofs.YtofbngpckllkoacGreat
open Go.RowKit

def MInv (xs ys o : List Nat) (k c : Nat) : Prop :=
  o.length = k ∧ Dig 10 o ∧ val 10 (xs.take k) + c * 10 ^ k = val 10 o + val 10 (ys.take k)

theorem MInv.start (xs ys : List Nat) : MInv xs ys [] 0 0 := ⟨rfl, Dig.nil _, by simp [val]⟩

theorem m_step (A Bv O P x y c d r : Nat) (h : A + c * P = O + Bv) (hd : d + y + c = x + r * 10) : (A + P * x) + r * (P * 10) = (O + P * d) + (Bv + P * y) := by
  have e1 : P * (d + y + c) = P * (x + r * 10) := by rw [hd]
  rw [Nat.mul_add, Nat.mul_add, Nat.mul_add] at e1
  have e2 : P * (r * 10) = r * (P * 10) := by rw [← Nat.mul_assoc, ← Nat.mul_assoc, Nat.mul_comm P r]
  rw [e2] at e1
  rw [Nat.mul_comm c P] at h
  omega

theorem MInv.step {xs ys o : List Nat} {k c d r : Nat} (h : MInv xs ys o k c) (hd : d < 10) (e : d + ys.getD k 0 + c = xs.getD k 0 + r * 10) : MInv xs ys (o ++ [d]) (k + 1) r := by
  obtain ⟨h1, h2, h3⟩ := h
  refine ⟨by simp [h1], h2.snoc hd, ?_⟩
  rw [val_take_succ, val_take_succ, val_snoc, h1, Nat.pow_succ]
  exact m_step _ _ _ _ _ _ _ _ _ h3 e

theorem val_take_of_lt {ys : List Nat} {k : Nat} (h : val 10 ys < 10 ^ k) : val 10 (ys.take k) = val 10 ys := by
  by_cases hk : k ≤ ys.length
  · have e := val_split 10 ys k hk
    by_cases h0 : val 10 (ys.drop k) = 0
    · rw [h0] at e; omega
    · have : 10 ^ k * 1 ≤ 10 ^ k * val 10 (ys.drop k) := Nat.mul_le_mul_left _ (by omega)
      omega
  · rw [List.take_of_length_le (by omega)]

theorem MInv.fin {xs ys o : List Nat} {c : Nat} (h : MInv xs ys o xs.length c) (dx : Dig 10 xs) (hle : val 10 ys ≤ val 10 xs) (hc : c ≤ 1) :
    val 10 o = val 10 xs - val 10 ys := by
  obtain ⟨h1, h2, h3⟩ := h
  have hx := val_lt dx
  rw [List.take_of_length_le (Nat.le_refl _), val_take_of_lt (by omega)] at h3
  have h4 := val_lt h2
  rw [h1] at h4
  by_cases h0 : c = 0
  · subst h0; omega
  · obtain rfl : c = 1 := by omega
    omega

/-- Digits of the call's own. -/
def OwnDig (W : World) (w : World) (v : Value) (rs : List Nat) : Prop :=
  w.ownsRow W.heap.size 3 1 v rs.length (nums .i64 rs) ∧ Dig 10 rs ∧ Below W.heap.size W w

set_option maxHeartbeats 1000000 in
set_option maxRecDepth 100000 in
theorem rminus_any (a b : Value) (xs ys : List Nat) (w : World) (ha : Sl w a 1 xs.length (nums .i64 xs)) (hb : Sl w b 1 ys.length (nums .i64 ys))
    (dx : Dig 10 xs) (dy : Dig 10 ys) (hle : val 10 ys ≤ val 10 xs) (lx : xs.length ≤ 1000000) (ly : ys.length ≤ 1000000) :
    Calls Tryz.prog 98 #[a, b] w fun e w' => ∃ v rs, e = .returned v ∧ OwnDig w w' v rs ∧ rs.length = xs.length ∧ val 10 rs = val 10 xs - val 10 ys := by
  obtain ⟨i0, hi, hz0, hz1, hz2⟩ := info_parts Tryz.info_int
  obtain ⟨ad, ca, rfl, h1, h3⟩ := ha.nums
  obtain ⟨bd, cb, rfl, _⟩ := id hb
  have HB := Lib.hid (fun W (hW : Below w.heap.size w W) k m => (at_any _ ys k (W.drewN m) ((hb.below hW).drewN m) ly).mono fun _ _ h => And.intro h.1 h.2.symm)
  have Hle := Lib.hid hle
  have Hdx := Lib.hid dx
  clear ha hb hle
  go_enter Tryz.func98, Tryz.ntmps98
  go_wp2_with fail
  go_loopw [5, 6, 7] (fun o c i wr => ∃ (k b1 : Nat) (os : List Nat) (adb : Option Addr) (capb : Nat), k ≤ xs.length ∧ b1 ≤ 1 ∧ i = .int .i64 k ∧ c = .int .i64 b1 ∧ o = .slice adb k capb ∧
      wr.ownsRow w.heap.size 3 1 (.slice adb k capb) k (nums .i64 os) ∧ Hid (MInv xs ys os k b1) ∧ Below w.heap.size w wr)
    (fun _ _ i _ => xs.length - (intOf i).toNat)
  case atStart => exact ⟨0, 0, [], none, 0, Nat.zero_le _, by omega, rfl, rfl, rfl, World.ownsRow_nil _ _ _ _, MInv.start _ _, Below.refl _ _⟩
  case round =>
    obtain ⟨k, b1, os, adb, capb, hk, hb1, rfl, rfl, rfl, hown, Hinv, hbel⟩ := hrel
    by_cases hlt : k < xs.length
    · obtain ⟨b, off, rfl, hc⟩ := h3.resolve_left (by omega)
      have hck := cell_later hbel (hc k hlt)
      have hx9 := dx.at (by decide) k
      have hy9 := dy.at (by decide) k
      have HBk := Lib.hid (HB.out wr hbel k)
      obtain ⟨x, hx⟩ : ∃ x, x = xs.getD k 0 := ⟨_, rfl⟩
      obtain ⟨y, hy⟩ : ∃ y, y = ys.getD k 0 := ⟨_, rfl⟩
      rw [← hx] at hck hx9
      rw [← hy] at hy9 HBk
      have Hx := Lib.hid hx; clear hx
      have Hy := Lib.hid hy; clear hy
      clear hc h3
      have hsz := hbel.size
      by_cases hxy : x < y + b1
      · have dn : decide ((x : Int) - (y : Int) - (b1 : Int) < 0) = true := by rw [decide_eq_true_eq]; omega
        have dn' : (x : Int) - (y : Int) - (b1 : Int) < 0 := by omega
        go_wp2_with fail
        go_quiet ((go_at_call 106; refine Calls.quiet_of_same (HBk.out _)))
        go_wp2_with (at_builtin; refine wpList_append_own _ rfl _ _ 108 rfl w.heap.size 3 i0 (.int .i64 0) 1 8 Tryz.ul_ints hi hz0 hz1 hz2 rfl (by decide) _ _ _ rfl ((Go.Proofs.YtofbngpckllkoacGreat.ownsRow_kept hown (fun _ _ _ => rfl)).alloc _) ⟨wr.heap.size, 0, none⟩ 1 1 [_] rfl rfl (cell_one_new _ _ _) (int_oneCell _ _) ?d1 ?d2 ?d3 ?_)
        case d1 => unfold maxLen; omega
        case d2 => omega
        case d3 => simp; omega
        intro v2 w2 hown2 hgrow2 _
        have hbel2 : Below w.heap.size w w2 := ((below_drewN hbel _).alloc hsz _).grown hgrow2 (by simp; omega) (fun k hk => (hown.lt k hk).1)
        have ed : (x : Int) - (y : Int) - (b1 : Int) + 10 = ((x + 10 - y - b1 : Nat) : Int) := by omega
        rw [ed, nums_snoc] at hown2
        have HI : Hid (MInv xs ys (os ++ [x + 10 - y - b1]) (k + 1) 1) := Hinv.out.step (by omega) (by rw [← Hx.out, ← Hy.out]; omega)
        obtain ⟨ad3, cap3, rfl, _⟩ := Sl.of_owns hown2
        clear hgrow2 hown hbel ed
        go_wp2
        go_roundw
        case rel => exact ⟨k + 1, 1, _, ad3, cap3, by omega, by omega, by go_num, rfl, rfl, hown2, HI, hbel2⟩
        case measure => simp [intOf]; omega
      · have dn : decide ((x : Int) - (y : Int) - (b1 : Int) < 0) = false := by rw [decide_eq_false_iff_not]; omega
        have dn' : ¬ ((x : Int) - (y : Int) - (b1 : Int) < 0) := by omega
        go_wp2_with fail
        go_quiet ((go_at_call 106; refine Calls.quiet_of_same (HBk.out _)))
        go_wp2_with (at_builtin; refine wpList_append_own _ rfl _ _ 108 rfl w.heap.size 3 i0 (.int .i64 0) 1 8 Tryz.ul_ints hi hz0 hz1 hz2 rfl (by decide) _ _ _ rfl ((Go.Proofs.YtofbngpckllkoacGreat.ownsRow_kept hown (fun _ _ _ => rfl)).alloc _) ⟨wr.heap.size, 0, none⟩ 1 1 [_] rfl rfl (cell_one_new _ _ _) (int_oneCell _ _) ?d1 ?d2 ?d3 ?_)
        case d1 => unfold maxLen; omega
        case d2 => omega
        case d3 => simp; omega
        intro v2 w2 hown2 hgrow2 _
        have hbel2 : Below w.heap.size w w2 := ((below_drewN hbel _).alloc hsz _).grown hgrow2 (by simp; omega) (fun k hk => (hown.lt k hk).1)
        have ed : (x : Int) - (y : Int) - (b1 : Int) = ((x - y - b1 : Nat) : Int) := by omega
        rw [ed, nums_snoc] at hown2
        have HI : Hid (MInv xs ys (os ++ [x - y - b1]) (k + 1) 0) := Hinv.out.step (by omega) (by rw [← Hx.out, ← Hy.out]; omega)
        obtain ⟨ad3, cap3, rfl, _⟩ := Sl.of_owns hown2
        clear hgrow2 hown hbel ed
        go_wp2
        go_roundw
        case rel => exact ⟨k + 1, 0, _, ad3, cap3, by omega, by omega, by go_num, rfl, rfl, hown2, HI, hbel2⟩
        case measure => simp [intOf]; omega
    · obtain rfl : k = xs.length := by omega
      have HF := Lib.hid (Hinv.out.fin Hdx.out Hle.out hb1)
      have hos := Hinv.out.1
      have Hdig := Lib.hid Hinv.out.2.1
      rw [← hos] at hown
      have HO : Hid (OwnDig w wr (.slice adb os.length capb) os) := ⟨hown, Hdig.out, hbel⟩
      rw [hos] at HO
      have Hos := Lib.hid hos
      clear hown hos hbel
      go_wp2
      go_ret
      exact ⟨_, os, rfl, HO.out, Hos.out, HF.out⟩
end Go.Proofs.YtofbngpckllkoacGreat
