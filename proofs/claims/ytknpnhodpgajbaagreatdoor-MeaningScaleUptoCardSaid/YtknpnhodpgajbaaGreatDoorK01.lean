/-
  Texts of rationals: those that Check accepts are those that operations make; values are such texts: plain. Scaling by a constant: plain. Law 10, MeaningChoices: the two contracts that it makes; a contract stored into a variable.  Printed by tools/genchc.py.
-/
import Derived.Test.YtknpnhodpgajbaaGreatDoorC18
import Derived.Test.YtknpnhodpgajbaaGreatDoorL01
import Derived.Test.YtknpnhodpgajbaaGreatDoorC17
import Derived.Test.YtknpnhodpgajbaaGreatDoorC29
import Derived.Test.YtknpnhodpgajbaaGreatDoorC19
namespace Go.Proofs.YtknpnhodpgajbaaGreatDoor
open Go.RowKit
theorem slash_not {l : List UInt8} (h : ∀ k : Nat, l[k]? ≠ some 47) : slashI (mkB l) = -1 := by
 rcases slash_cases (mkB l) with k | ⟨o, k, _⟩
 ·exact k
 ·have := (slash_some k).1
  rw [bl_mkB] at this
  exact absurd this (h o)
theorem slash_is {l m : List UInt8} (h : ∀ k : Nat, l[k]? ≠ some 47) : slashI (mkB (l ++ [47] ++ m)) = l.length := by
 have hl : (l ++ [47] ++ m)[l.length]? = some 47 := by
  rw [List.append_assoc, List.getElem?_append_right (Nat.le_refl _)]; simp
 rcases slash_cases (mkB (l ++ [47] ++ m)) with k | ⟨o, k, _⟩
 ·exact absurd (by rw [bl_mkB]; exact hl) (slash_none k l.length)
 ·rw [k]
  have h2 := slash_some k
  rw [bl_mkB] at h2
  by_cases h3 : o < l.length
  ·have h4 := h2.1
   rw [List.append_assoc, List.getElem?_append_left h3] at h4
   exact absurd h4 (h o)
  ·by_cases h4 : l.length < o
   ·exact absurd hl (h2.2 _ h4)
   ·have : o = l.length := by omega
    rw [this]
theorem dig_not47 {l : List UInt8} (h : l.all isDig = true) (k : Nat) : l[k]? ≠ some 47 := fun e => by
 have := List.all_eq_true.1 h 47 (List.mem_of_getElem? e)
 exact absurd this (by decide)
theorem istr_body (sg : Bool) (n : Nat) : ∃ d, d.all isDig = true ∧ (istr sg n = d ∨ istr sg n = 45 :: d) := by
 by_cases h0 : n = 0
 ·subst h0; exact ⟨[48], by decide, .inl (by simp [istr])⟩
 ·rw [istr_ne sg h0]
  refine ⟨asc (dig10 n).reverse, asc_dig (Dig.rev (dig10_nrm n).1), ?_⟩
  cases sg
  ·exact .inl rfl
  ·exact .inr rfl
theorem istr_not47 (sg : Bool) (n : Nat) (k : Nat) : (istr sg n)[k]? ≠ some 47 := by
 obtain ⟨d, hd, h | h⟩ := istr_body sg n
 ·rw [h]; exact dig_not47 hd k
 ·rw [h]
  cases k with
  | zero => simp
  | succ k => rw [List.getElem?_cons_succ]; exact dig_not47 hd k
theorem ratTxt_low {sg : Bool} {N D : Nat} (h : Nat.gcd N D = 1) : ratTxt sg N D = if D = 1 then istr sg N else istr sg N ++ [47] ++ istr false D := by
 unfold ratTxt; rw [h, Nat.div_one, Nat.div_one]
theorem ratTxt_of (sg : Bool) (N D : Nat) (hD : 0 < D) : ∃ N' D', ratTxt sg N D = ratTxt sg N' D' ∧ Nat.gcd N' D' = 1 ∧ 0 < D' ∧ N' ≤ N ∧ D' ≤ D ∧ (N' = 0 ↔ N = 0) := by
 have hg : 0 < Nat.gcd N D := Nat.gcd_pos_of_pos_right _ hD
 have h1 : Nat.gcd (N / Nat.gcd N D) (D / Nat.gcd N D) = 1 := Nat.gcd_div_gcd_div_gcd_of_pos_right hD
 refine ⟨N / Nat.gcd N D, D / Nat.gcd N D, ?_, h1, Nat.div_pos (Nat.le_of_dvd hD (Nat.gcd_dvd_right _ _)) hg, Nat.div_le_self _ _, Nat.div_le_self _ _, ?_⟩
 ·rw [ratTxt_low h1]; rfl
 ·constructor
  ·intro h
   have := Nat.div_mul_cancel (Nat.gcd_dvd_left N D)
   rw [h] at this; omega
  ·rintro rfl; simp
theorem rat_txt (sg : Bool) {N D : Nat} (hN : N < ten 1000) (hD : D < ten 1000) (h0 : 0 < D) (hg : Nat.gcd N D = 1) :
  ratErr (mkB (ratTxt sg N D)) = 0 ∧ ival (bl (numS (mkB (ratTxt sg N D)))) = sgnv sg N ∧ ival (bl (denS (mkB (ratTxt sg N D)))) = D := by
 rw [ratTxt_low hg]
 by_cases h1 : D = 1
 ·rw [if_pos h1]
  have hs := slash_not (istr_not47 sg N)
  refine ⟨?_, ?_, ?_⟩
  ·rw [ratErr, if_pos hs, bl_mkB]; exact intErr_small hN
  ·rw [numS, if_pos hs, bl_mkB, ival_istr]
  ·rw [denS, if_pos hs, h1]; decide
 ·rw [if_neg h1]
  have hs := slash_is (m := istr false D) (istr_not47 sg N)
  have hne : ¬ ((istr sg N).length : Int) = -1 := by omega
  have e1 : (istr sg N ++ [47] ++ istr false D).take (istr sg N).length = istr sg N := by rw [List.append_assoc, List.take_left']; rfl
  have e2 : (istr sg N ++ [47] ++ istr false D).drop ((istr sg N).length + 1) = istr false D := by
   rw [List.drop_left']; simp
  refine ⟨?_, ?_, ?_⟩
  ·rw [ratErr, hs, if_neg hne, bl_mkB]
   show fracErr (List.take (istr sg N).length _) (List.drop ((istr sg N).length + 1) _) = 0
   rw [e1, e2]
   have hd : (istr false D).head? ≠ some 45 := by
    have := isNeg_istr false D
    rw [isNeg, Bool.false_and] at this
    intro k; rw [k] at this; exact absurd this (by decide)
   have h48 : istr false D ≠ [48] := by
    intro k
    have h2 := (canon_zero (canon_istr false D)).1 k
    rw [dval_istr] at h2; omega
   have h49 : istr false D ≠ [49] := fun k => h1 ((istr_one D).1 k)
   unfold fracErr
   rw [if_neg (by rw [canon_istr]; decide), if_neg (by rw [canon_istr]; decide), if_neg hd, if_neg h48, if_neg h49, if_neg (fun k => k (intErr_small hN)), if_neg (fun k => k (intErr_small hD)), dval_istr, dval_istr, if_pos hg]
  ·rw [numS, hs, if_neg hne]
   show ival (bl ((mkB _).extract 0 (istr sg N).length)) = _
   rw [bl_extract, bl_mkB, List.drop_zero, Nat.sub_zero, e1, ival_istr]
  ·rw [denS, hs, if_neg hne]
   show ival (bl ((mkB _).extract ((istr sg N).length + 1) _)) = _
   rw [bl_extract, bl_mkB, e2, mkB_size, List.take_of_length_le (by simp; omega), ival_istr]; rfl
theorem rat_made (sg : Bool) {N D : Nat} (hN : N < ten 1000) (hD : D < ten 1000) (h0 : 0 < D) : ratErr (mkB (ratTxt sg N D)) = 0 := by
 obtain ⟨N', D', e, hg, h1, h2, h3, _⟩ := ratTxt_of sg N D h0
 rw [e]
 exact (rat_txt sg (Nat.lt_of_le_of_lt h2 hN) (Nat.lt_of_le_of_lt h3 hD) h1 hg).1
theorem int_txt {l : List UInt8} (h : intErr l = 0) : l = istr (isNeg l) (dval (body l)) ∧ dval (body l) < ten 1000 := ⟨(canon_text (intErr_zero h).1).symm, intErr_text h⟩
theorem rat_is {t : ByteArray} (h : ratErr t = 0) : ∃ sg N D, t = mkB (ratTxt sg N D) ∧ N < ten 1000 ∧ D < ten 1000 ∧ 0 < D ∧ Nat.gcd N D = 1 ∧ (sg = true → N ≠ 0) := by
 unfold ratErr at h
 have hneg : ∀ {l : List UInt8}, intErr l = 0 → isNeg l = true → dval (body l) ≠ 0 := fun hl hn => neg_nz (intErr_zero hl).1 hn
 by_cases hs : slashI t = -1
 ·rw [if_pos hs] at h
  obtain ⟨h1, h2⟩ := int_txt h
  refine ⟨isNeg (bl t), dval (body (bl t)), 1, mkB_bl ?_, h2, ?_, by decide, Nat.gcd_one_right _, hneg h⟩
  ·rw [ratTxt_low (Nat.gcd_one_right _), if_pos rfl]; exact h1
  ·have : ten 1 ≤ ten 1000 := ten_mono (by decide)
   exact Nat.lt_of_lt_of_le (by decide) this
 ·rw [if_neg hs] at h
  rcases slash_cases t with k | ⟨o, k, ho⟩
  ·exact absurd k hs
  rw [k] at h
  have h47 := (slash_some k).1
  have et : bl t = (bl t).take o ++ [47] ++ (bl t).drop (o + 1) := by
   obtain ⟨h1, h2⟩ := List.getElem?_eq_some_iff.1 h47
   conv => lhs; rw [← List.take_append_drop o (bl t), List.drop_eq_getElem_cons h1, h2]
   simp
  have h : fracErr ((bl t).take o) ((bl t).drop (o + 1)) = 0 := h
  generalize (bl t).take o = n at h et
  generalize (bl t).drop (o + 1) = d at h et
  unfold fracErr at h
  by_cases c1 : canonI n = false
  ·rw [if_pos c1] at h; cases h
  rw [if_neg c1] at h
  by_cases c2 : canonI d = false
  ·rw [if_pos c2] at h; cases h
  rw [if_neg c2] at h
  by_cases c3 : d.head? = some 45
  ·rw [if_pos c3] at h; cases h
  rw [if_neg c3] at h
  by_cases c4 : d = [48]
  ·rw [if_pos c4] at h; cases h
  rw [if_neg c4] at h
  by_cases c5 : d = [49]
  ·rw [if_pos c5] at h; cases h
  rw [if_neg c5] at h
  by_cases c6 : intErr n ≠ 0
  ·rw [if_pos c6] at h; cases h
  rw [if_neg c6] at h
  by_cases c7 : intErr d ≠ 0
  ·rw [if_pos c7] at h; cases h
  rw [if_neg c7] at h
  by_cases c8 : Nat.gcd (dval (body n)) (dval (body d)) = 1
  ·have k6 : intErr n = 0 := Decidable.not_not.1 c6
   have k7 : intErr d = 0 := Decidable.not_not.1 c7
   obtain ⟨n1, n2⟩ := int_txt k6
   obtain ⟨d1, d2⟩ := int_txt k7
   have hd : isNeg d = false := by rw [isNeg]; simpa using c3
   rw [hd] at d1
   have e1 : dval (body d) ≠ 1 := fun e => c5 (by rw [d1, e]; rfl)
   have e0 : dval (body d) ≠ 0 := fun e => c4 ((canon_zero (intErr_zero k7).1).2 e)
   refine ⟨isNeg n, dval (body n), dval (body d), mkB_bl ?_, n2, d2, by omega, c8, hneg k6⟩
   rw [ratTxt_low c8, if_neg e1, et, ← n1, ← d1]
  ·rw [if_neg c8] at h; cases h
theorem ratTxt_neg (sg : Bool) {N D : Nat} (hD : 0 < D) : isNeg (ratTxt sg N D) = (sg && decide (N ≠ 0)) := by
 obtain ⟨N', D', e, hg, h1, h2, h3, h4⟩ := ratTxt_of sg N D hD
 have hz : decide (N ≠ 0) = decide (N' ≠ 0) := by rw [decide_eq_decide]; exact ⟨fun k q => k (h4.1 q), fun k q => k (h4.2 q)⟩
 rw [e, hz, ratTxt_low hg, ← isNeg_istr]
 split
 ·rfl
 ·have hl := istr_pos sg N'
  cases hi : istr sg N' with
  | nil => rw [hi] at hl; exact absurd hl (by decide)
  | cons c l => rfl
theorem ratTxt_nil (sg : Bool) {N D : Nat} (hD : 0 < D) : ratTxt sg N D = [48] ↔ N = 0 := by
 constructor
 ·intro h
  obtain ⟨N', D', e, hg, h1, h2, h3, h4⟩ := ratTxt_of sg N D hD
  rw [e, ratTxt_low hg] at h
  refine h4.1 ?_
  split at h
  ·have := (canon_zero (canon_istr sg N')).1 h
   rwa [dval_istr] at this
  ·have hl := istr_pos sg N'
   have := congrArg List.length h
   simp at this
   omega
 ·rintro rfl
  unfold ratTxt
  rw [Nat.gcd_zero_left, Nat.div_self hD, if_pos rfl, Nat.zero_div]; rfl
theorem ratTxt_drop {N D : Nat} (hD : 0 < D) (hN : N ≠ 0) : (ratTxt true N D).drop 1 = ratTxt false N D := by
 have key : ∀ n, n ≠ 0 → istr true n = 45 :: istr false n := fun n hn => by rw [istr_ne _ hn, istr_ne _ hn]; rfl
 obtain ⟨N', D', e, hg, h1, h2, h3, h4⟩ := ratTxt_of true N D hD
 have e' : ratTxt false N D = ratTxt false N' D' := by
  have hgn : Nat.gcd N D = Nat.gcd N D := rfl
  unfold ratTxt at e ⊢
  rw [hg, Nat.div_one, Nat.div_one] at e ⊢
  have hN0 : N / Nat.gcd N D ≠ 0 := by
   have := Nat.div_mul_cancel (Nat.gcd_dvd_left N D)
   intro k; rw [k] at this; omega
  have hN' : N' ≠ 0 := fun k => hN (h4.1 k)
  rw [key _ hN0, key _ hN'] at e
  by_cases a1 : D / Nat.gcd N D = 1
  ·by_cases a2 : D' = 1
   ·rw [if_pos a1, if_pos a2] at e ⊢; exact List.cons.inj e |>.2
   ·rw [if_pos a1, if_neg a2] at e; rw [if_pos a1, if_neg a2]; exact (List.cons.inj e).2
  ·by_cases a2 : D' = 1
   ·rw [if_neg a1, if_pos a2] at e; rw [if_neg a1, if_pos a2]; exact (List.cons.inj e).2
   ·rw [if_neg a1, if_neg a2] at e ⊢; exact (List.cons.inj e).2
 rw [e, e', ratTxt_low hg, ratTxt_low hg, key N' (fun k => hN (h4.1 k))]
 split <;> rfl
theorem zpos_lt {z : Int} (h : zErr z = 0) (hz : 0 < z) : z.natAbs < ten 1000 ∧ 0 < z.natAbs := ⟨zErr_lt h, by omega⟩
theorem sumS_rat {a b : ByteArray} {z : Int} (h : sumE a b z = 0) : ratErr (mkB (sumS a b z)) = 0 := by
 rw [sumS, if_pos h]
 unfold sumE at h
 by_cases hb : bE a b ≠ 0
 ·rw [if_pos hb] at h; exact absurd h hb
 ·rw [if_neg hb] at h
  obtain ⟨ra, rb, _, _, _, ea, _, eb⟩ := bE_zero (Decidable.not_not.1 hb)
  split at h
  ·cases h
  ·rename_i h2
   have h3 : zErr z = 0 := Decidable.not_not.1 fun k => h2 (.inr (.inr (.inl k)))
   have h4 : zErr (ival (bl (pD a)) * ival (bl (pD b))) = 0 := Decidable.not_not.1 fun k => h2 (.inr (.inr (.inr k)))
   have hp : 0 < ival (bl (pD a)) * ival (bl (pD b)) := by rw [ea, eb]; exact Int.mul_pos (ival_den ra) (ival_den rb)
   obtain ⟨h5, h6⟩ := zpos_lt h4 hp
   exact rat_made _ (zErr_lt h3) h5 h6
theorem mulE_parts {a b : ByteArray} (h : mulE a b = 0) : ratErr a = 0 ∧ ratErr b = 0 ∧ zErr (ival (bl (numS a)) * ival (bl (numS b))) = 0 ∧ zErr (ival (bl (denS a)) * ival (bl (denS b))) = 0 ∧
  mulS a b = ratTxt (decide (ival (bl (numS a)) * ival (bl (numS b)) < 0)) (ival (bl (numS a)) * ival (bl (numS b))).natAbs (ival (bl (denS a)) * ival (bl (denS b))).natAbs ∧ 0 < ival (bl (denS a)) * ival (bl (denS b)) := by
 have h0 := h
 unfold mulE frE at h
 by_cases hb : bE a b ≠ 0
 ·rw [if_pos hb] at h; exact absurd h hb
 ·rw [if_neg hb] at h
  obtain ⟨ra, rb, _, _, na, ea, nb, eb⟩ := bE_zero (Decidable.not_not.1 hb)
  split at h
  ·cases h
  ·rename_i h2
   have h3 := Decidable.not_not.1 fun k => h2 (.inl k)
   have h4 := Decidable.not_not.1 fun k => h2 (.inr k)
   have hp : 0 < ival (bl (denS a)) * ival (bl (denS b)) := Int.mul_pos (ival_den ra) (ival_den rb)
   rw [na, nb] at h3
   rw [ea, eb] at h4
   refine ⟨ra, rb, h3, h4, ?_, hp⟩
   unfold mulE at h0
   rw [mulS, frS, if_pos h0, na, nb, ea, eb, decide_eq_false (show ¬ ival (bl (denS a)) * ival (bl (denS b)) < 0 by omega)]
   congr 1
   cases decide (ival (bl (numS a)) * ival (bl (numS b)) < 0) <;> rfl
theorem mulS_rat {a b : ByteArray} (h : mulE a b = 0) : ratErr (mkB (mulS a b)) = 0 := by
 obtain ⟨_, _, h3, h4, e, hp⟩ := mulE_parts h
 rw [e]
 obtain ⟨h5, h6⟩ := zpos_lt h4 hp
 exact rat_made _ (zErr_lt h3) h5 h6
theorem op2_rat {k : Nat} {a b : ByteArray} (ha : ratErr a = 0) (hb : ratErr b = 0) (h : (op2 k a b).1 = 0) : ratErr (op2 k a b).2 = 0 := by
 unfold op2 at h ⊢
 by_cases h4 : k = 4
 ·rw [if_pos h4] at h ⊢; exact sumS_rat h
 rw [if_neg h4] at h ⊢
 by_cases h5 : k = 5
 ·rw [if_pos h5] at h ⊢; exact sumS_rat h
 rw [if_neg h5] at h ⊢
 by_cases h6 : k = 6
 ·rw [if_pos h6] at h ⊢; exact mulS_rat h
 rw [if_neg h6]
 by_cases h7 : k = 7
 ·rw [if_pos h7]
  show ratErr (if cmpV a b < 0 then b else a) = 0
  split <;> assumption
 ·rw [if_neg h7]
  show ratErr (if cmpV b a < 0 then b else a) = 0
  split <;> assumption
theorem value_rat {F : List Fx} (hF : ∀ f ∈ F, ratErr f.vl = 0) (day : Int) : ∀ (N : Nat) (x : Ex), x.bulk ≤ N → x.sort = 1 → (x.value F day).1 = 0 → ratErr (x.value F day).2 = 0
 | 0, x, hN, _, _ => by have := x.sub_lt; omega
 | N + 1, .mk k ra nm d l, hN, hs, h0 => by
  have IH : ∀ y ∈ l, y.sort = 1 → (y.value F day).1 = 0 → ratErr (y.value F day).2 = 0 := fun y hy => value_rat hF day N y (by have := Ex.mem_lt (x := .mk k ra nm d l) hy; omega)
  have fk : ∀ nm d, (fixR F nm d).1 = 0 → ratErr (fixR F nm d).2 = 0 := fun nm d h => by
   rw [fixR_eq] at h ⊢
   cases hf : F.find? (fxIs ⟨nm, d, ⟨#[]⟩⟩) with
   | none => rw [hf] at h; cases h
   | some f => exact hF f (List.mem_of_find?_eq_some hf)
  rcases num_cases hs with ⟨rfl, rfl, h3⟩ | ⟨rfl, rfl⟩ | ⟨rfl, rfl⟩ | ⟨rfl, p, y, z, rfl, h1, h2, h3⟩ | ⟨h4, h8, y, z, rfl, h1, h2⟩
  ·have e : (Ex.mk 1 ra nm d []).value F day = (0, ra) := by simp [Ex.value]
   rw [e]; exact h3
  ·have e : (Ex.mk 2 ra nm d []).value F day = fixR F nm d := by simp [Ex.value]
   rw [e] at h0 ⊢; exact fk _ _ h0
  ·have e : (Ex.mk 3 ra nm d []).value F day = fixR F nm day := by simp [Ex.value]
   rw [e] at h0 ⊢; exact fk _ _ h0
  ·have e : (Ex.mk 9 ra nm d [p, y, z]).value F day = andR (p.hold F day) ByteArray.empty fun b => if b = true then y.value F day else z.value F day := by
    rw [Ex.value, if_neg (by decide), if_neg (by decide), if_neg (by decide)]
   rw [e] at h0 ⊢
   obtain ⟨_, e2⟩ := andR_ok h0
   rw [e2] at h0 ⊢
   by_cases hb : (p.hold F day).2 = true
   ·rw [if_pos hb] at h0 ⊢; exact IH y (by simp) h2 h0
   ·rw [if_neg hb] at h0 ⊢; exact IH z (by simp) h3 h0
  ·have e : (Ex.mk k ra nm d [y, z]).value F day = andR (y.value F day) ByteArray.empty fun a => andR (z.value F day) ByteArray.empty fun b => op2 k a b := by
    rw [Ex.value, if_neg (by omega), if_neg (by omega), if_neg (by omega)]
   rw [e] at h0 ⊢
   obtain ⟨k1, e2⟩ := andR_ok h0
   rw [e2] at h0 ⊢
   obtain ⟨k2, e3⟩ := andR_ok h0
   rw [e3] at h0 ⊢
   exact op2_rat (IH y (by simp) h1 k1) (IH z (by simp) h2 k2) h0
def posA (am : ByteArray) : Prop := ratErr am = 0 ∧ 0 < ival (bl (numS am))
theorem ratTxt_pos' {N D : Nat} (hN : N < ten 1000) (hD : D < ten 1000) (h0 : 0 < D) (hg : Nat.gcd N D = 1) (hz : N ≠ 0) : posA (mkB (ratTxt false N D)) := by
 obtain ⟨h1, h2, _⟩ := rat_txt false hN hD h0 hg
 refine ⟨h1, ?_⟩
 rw [h2]; show (0 : Int) < (N : Int); omega
theorem paidS_posA {d : Int} {fr rc cy am : ByteArray} (h : ratErr am = 0) : ∀ f ∈ paidS d fr rc cy am, posA f.am := by
 obtain ⟨sg, N, D, rfl, hN, hD, h0, hg, hsg⟩ := rat_is h
 intro f hf
 unfold paidS at hf
 rw [bl_mkB] at hf
 split at hf
 ·cases hf
 ·rename_i hz'
  have hz : N ≠ 0 := fun k => hz' ((ratTxt_nil sg h0).2 k)
  rw [ratTxt_neg sg h0, decide_eq_true hz, Bool.and_true] at hf
  cases sg with
  | true =>
   rw [if_pos rfl, List.mem_singleton] at hf
   subst hf
   show posA (mkB _)
   rw [ratTxt_drop h0 hz]
   exact ratTxt_pos' hN hD h0 hg hz
  | false =>
   rw [if_neg (by decide), List.mem_singleton] at hf
   subst hf
   exact ratTxt_pos' hN hD h0 hg hz
end Go.Proofs.YtknpnhodpgajbaaGreatDoor

namespace Go.Proofs.YtknpnhodpgajbaaGreatDoor
open Go.RowKit
def conM (k : ByteArray) : Ex := .mk 1 k mE 0 []
def scaleM (k : ByteArray) (c : Con) : Con := .mk 4 mE mE mE (conM k) 0 [] [c]
def kS (k : ByteArray) : Int := ival (bl (numS k))
def mf (k : ByteArray) (f : Fl) : Fl := if kS k < 0 then ⟨f.d, f.rc, f.fr, f.cy, mkB ((mulS f.am k).drop 1)⟩ else ⟨f.d, f.fr, f.rc, f.cy, mkB (mulS f.am k)⟩
theorem mf_d (k : ByteArray) (f : Fl) : (mf k f).d = f.d := by unfold mf; split <;> rfl
theorem andR_posA {α : Type} {a : Int × α} {f : α → Int × List Fl} (h : a.1 = 0 → ∀ g ∈ (f a.2).2, posA g.am) : ∀ g ∈ (andR a [] f).2, posA g.am := andR_all (P := fun g => posA g.am) h
theorem mulAll_posA (k : ByteArray) : ∀ l : List Fl, ∀ f ∈ (mulAll k l).2, posA f.am
 | [] => by intro f hf; cases hf
 | f :: l => by
  unfold mulAll
  refine andR_posA fun h => andR_posA fun _ => ?_
  intro g hg
  rcases List.mem_append.1 hg with hg | hg
  ·exact paidS_posA (mulS_rat h) g hg
  ·exact mulAll_posA k l g hg
theorem flows_posA {F : List Fx} {C : List Ch} (hF : ∀ f ∈ F, ratErr f.vl = 0) : ∀ (N : Nat) (c : Con), c.bulk ≤ N → c.formed = true → ∀ day fin, ∀ f ∈ (c.flows F C day fin).2, posA f.am
 | 0, c, hN, _ => by have := c.sub_lt; omega
 | N + 1, c, hN, hw => fun day fin => by
  have IH : ∀ y ∈ c.sub, ∀ day fin, ∀ f ∈ (y.flows F C day fin).2, posA f.am := fun y hy => flows_posA hF N y (by have := Con.mem_lt hy; omega) (by
   rw [Con.formed_eq, Bool.and_eq_true, Con.formeds_eq] at hw; exact List.all_eq_true.1 hw.2 y hy)
  have hcs := con_cases c hw
  obtain ⟨k, fr, rc, nm, ex, d, ds, l⟩ := c
  simp only [Con.k, Con.sub, Con.ex, Con.d, Con.ds] at hcs IH
  unfold Con.flows
  split
  ·intro f hf; cases hf
  ·rcases hcs with ⟨rfl, rfl⟩ | ⟨rfl, rfl, hA⟩ | ⟨rfl, x, y, rfl⟩ | ⟨rfl, hA, x, rfl⟩ | ⟨rfl, hA, x, y, rfl⟩ | ⟨rfl, hd, x, rfl⟩ | ⟨rfl, x, y, rfl⟩ | ⟨rfl, hd, x, rfl⟩ | ⟨hk, hd, hA, x, rfl⟩
   ·intro f hf; cases hf
   ·dsimp only
    rw [if_pos rfl]
    exact andR_posA fun h => paidS_posA (value_rat hF day ex.bulk ex (Nat.le_refl _) (isA_is hA).2 h)
   ·dsimp only
    rw [if_pos rfl]
    refine andR_posA fun _ => andR_posA fun _ => ?_
    intro f hf
    rcases List.mem_append.1 hf with hf | hf
    ·exact IH x (by simp) _ _ f hf
    ·exact IH y (by simp) _ _ f hf
   ·dsimp only
    rw [if_pos rfl]
    exact andR_posA fun _ => andR_posA fun _ => mulAll_posA _ _
   ·dsimp only
    rw [if_neg (by decide), if_pos rfl]
    refine andR_posA fun _ => ?_
    split
    ·exact IH x (by simp) _ _
    ·exact IH y (by simp) _ _
   ·dsimp only
    rw [if_neg (by decide), if_pos rfl]
    split
    ·exact IH x (by simp) _ _
    ·intro f hf; cases hf
   ·dsimp only
    rw [if_neg (by decide), if_neg (by decide)]
    split
    ·exact IH x (by simp) _ _
    ·exact IH y (by simp) _ _
   ·dsimp only
    rw [if_neg (by decide), if_neg (by decide), if_pos rfl]
    exact IH x (by simp) _ _
   ·dsimp only
    rcases hk with rfl | rfl
    ·rw [if_neg (by decide), if_neg (by decide), if_neg (by decide), if_pos rfl]
     exact andR_posA fun _ => IH x (by simp) _ _
    ·rw [if_neg (by decide), if_neg (by decide), if_neg (by decide), if_neg (by decide)]
     exact andR_posA fun _ => IH x (by simp) _ _
theorem bE_both {a b : ByteArray} (ha : ratErr a = 0) (hb : ratErr b = 0) : bE a b = 0 := by rw [bE, if_pos ha, hb]
theorem mulE_two {a b : ByteArray} (ha : ratErr a = 0) (hb : ratErr b = 0) : mulE a b = 0 ∨ mulE a b = 14 := by
 rw [mulE, frE, if_neg fun k => k (bE_both ha hb)]
 split
 ·exact .inr rfl
 ·exact .inl rfl
theorem mulS_sign {a k : ByteArray} (hp : posA a) (h : mulE a k = 0) : (mulS a k = [48] ↔ kS k = 0) ∧ isNeg (mulS a k) = decide (kS k < 0) ∧ 0 < (mulS a k).length := by
 obtain ⟨_, _, _, _, e, hD⟩ := mulE_parts h
 have hpos := hp.2
 have hD' : 0 < (ival (bl (denS a)) * ival (bl (denS k))).natAbs := by omega
 have hz : (ival (bl (numS a)) * ival (bl (numS k))).natAbs = 0 ↔ kS k = 0 := by
  rw [Int.natAbs_eq_zero, Int.mul_eq_zero]
  constructor
  ·rintro (h | h)
   ·omega
   ·exact h
  ·exact .inr
 have hs : decide (ival (bl (numS a)) * ival (bl (numS k)) < 0) = decide (kS k < 0) := by
  rw [decide_eq_decide]
  constructor
  ·intro h1
   rcases Int.lt_or_le (kS k) 0 with h2 | h2
   ·exact h2
   ·have := Int.mul_nonneg (Int.le_of_lt hpos) h2
    have e : ival (bl (numS a)) * kS k = ival (bl (numS a)) * ival (bl (numS k)) := rfl
    omega
  ·intro h1
   exact Int.mul_neg_of_pos_of_neg hpos h1
 rw [e, hs]
 refine ⟨(ratTxt_nil _ hD').trans hz, ?_, ratTxt_pos _ _ _⟩
 rw [ratTxt_neg _ hD']
 by_cases h1 : kS k < 0
 ·rw [decide_eq_true h1, Bool.true_and, decide_eq_true]
  intro h2; have := hz.1 h2; omega
 ·rw [decide_eq_false h1, Bool.false_and]
theorem mulAll_scale {k : ByteArray} (hk : ratErr k = 0) : ∀ l : List Fl, (∀ f ∈ l, posA f.am) → ((mulAll k l).1 = 0 ∨ (mulAll k l).1 = 14) ∧ ((mulAll k l).1 = 0 → (∀ f ∈ l, mulE f.am k = 0) ∧ (kS k = 0 → (mulAll k l).2 = []) ∧ (kS k ≠ 0 → (mulAll k l).2 = l.map (mf k)))
 | [], _ => ⟨.inl rfl, fun _ => ⟨fun f hf => (by cases hf), fun _ => rfl, fun _ => rfl⟩⟩
 | f :: l, hp => by
  have hf := hp f (List.mem_cons_self ..)
  obtain ⟨i1, i2⟩ := mulAll_scale hk l fun g hg => hp g (List.mem_cons_of_mem _ hg)
  rcases mulE_two hf.1 hk with h1 | h1
  ·obtain ⟨s1, s2, s3⟩ := mulS_sign hf h1
   have e1 : mulAll k (f :: l) = andR (mulAll k l) [] fun r => (0, paidS f.d f.fr f.rc f.cy (mkB (mulS f.am k)) ++ r) := by rw [mulAll, andR_go h1]
   rw [e1]
   rcases i1 with h2 | h2
   ·obtain ⟨j1, j2, j3⟩ := i2 h2
    rw [andR_go h2]
    refine ⟨.inl rfl, fun _ => ⟨fun g hg => ?_, fun h0 => ?_, fun h0 => ?_⟩⟩
    ·rcases List.mem_cons.1 hg with rfl | hg
     ·exact h1
     ·exact j1 g hg
    ·show _ ++ _ = _
     rw [j2 h0, List.append_nil, paidS, if_pos (by rw [bl_mkB]; exact s1.2 h0)]
    ·show _ ++ _ = _
     rw [j3 h0, List.map_cons, paidS, if_neg (by rw [bl_mkB]; exact fun q => h0 (s1.1 q)), bl_mkB, s2, mf]
     by_cases hn : kS k < 0
     ·rw [decide_eq_true hn, if_pos rfl, if_pos hn]; rfl
     ·rw [decide_eq_false hn, if_neg (by decide), if_neg hn]; rfl
   ·have h3 : (mulAll k l).1 ≠ 0 := by rw [h2]; decide
    rw [andR_err h3]
    exact ⟨.inr h2, fun q => absurd q h3⟩
  ·have h3 : (mulE f.am k, mkB (mulS f.am k)).1 ≠ 0 := by show mulE f.am k ≠ 0; rw [h1]; decide
   have e1 : mulAll k (f :: l) = (mulE f.am k, []) := by rw [mulAll, andR_err h3]
   rw [e1]
   exact ⟨.inr h1, fun q => absurd q h3⟩
theorem insFl_map (g : Fl → Fl) (hg : ∀ f, (g f).d = f.d) (x : Fl) : ∀ l : List Fl, insFl (g x) (l.map g) = (insFl x l).map g
 | [] => rfl
 | y :: l => by
  rw [List.map_cons, insFl, insFl, hg, hg]
  by_cases h : x.d ≤ y.d
  ·rw [if_pos h, if_pos h]; rfl
  ·rw [if_neg h, if_neg h, insFl_map g hg x l]; rfl
theorem srtFl_map (g : Fl → Fl) (hg : ∀ f, (g f).d = f.d) : ∀ l : List Fl, srtFl (l.map g) = (srtFl l).map g
 | [] => rfl
 | x :: l => by rw [List.map_cons, srtFl, srtFl, srtFl_map g hg l, insFl_map g hg]
theorem scale_err {k : ByteArray} {a : Con} (h : (scaleM k a).err = 0) : a.err = 0 := by
 obtain ⟨hs, hf⟩ := err_formed h
 have e1 : (scaleM k a).size = 1 + (if (conM k).bare = true then 0 else (conM k).size) + (a.size + 0) := by rw [scaleM, Con.size, Con.sizes, Con.sizes]
 have e2 : a.depth < (scaleM k a).depth := by
  rw [scaleM, Con.depth, Con.depths, Con.depths]; omega
 rw [Con.formed_eq, Bool.and_eq_true, Con.formeds_eq] at hf
 have hl := List.all_eq_true.1 hf.2
 exact err_of (by omega) (hl a (by simp [scaleM, Con.sub]))
theorem scale_flows (k : ByteArray) (a : Con) (F : List Fx) (C : List Ch) (day fin : Int) : (scaleM k a).flows F C day fin = if fin ≤ day then (0, []) else andR (a.flows F C day fin) [] fun l => mulAll k l := by
 rw [scaleM, Con.flows]
 by_cases h : fin ≤ day
 ·rw [if_pos h, if_pos h]
 ·rw [if_neg h, if_neg h]
  (try dsimp only)
  rw [if_pos rfl]
  have : (conM k).value F day = (0, k) := by rw [conM]; simp [Ex.value]
  rw [this, andR_go rfl]
theorem befR_scaleM (k : ByteArray) (a : Con) (day fin : Int) (F : List Fx) (C : List Ch) (h : (scaleM k a).err = 0) (hk : ratErr k = 0) :
  ((befR a day fin F C).1 ≠ 0 → befR (scaleM k a) day fin F C = ((befR a day fin F C).1, [])) ∧
  ((befR a day fin F C).1 = 0 → (befR (scaleM k a) day fin F C).1 = 0 ∨ befR (scaleM k a) day fin F C = (14, [])) ∧
  ((befR a day fin F C).1 = 0 → (befR (scaleM k a) day fin F C).1 = 0 → (∀ f ∈ (befR a day fin F C).2, mulE f.am k = 0 ∧ posA f.am) ∧ (kS k = 0 → (befR (scaleM k a) day fin F C).2 = []) ∧ (kS k ≠ 0 → (befR (scaleM k a) day fin F C).2 = (befR a day fin F C).2.map (mf k))) := by
 have ha := scale_err h
 rw [befR_ok h, befR_ok ha]
 by_cases he : envErr F C = 0
 ·simp only [if_neg (show ¬ (envErr F C ≠ 0) from fun k => k he)]
  by_cases hd : day < 0 ∨ 99999 < day ∨ fin < 0 ∨ 100000 < fin
  ·simp only [if_pos hd]; simp
  ·simp only [if_neg hd]
   rw [scale_flows]
   by_cases hl : fin ≤ day
   ·rw [if_pos hl, flows_late a _ _ _ _ hl]
    exact ⟨fun q => absurd rfl q, fun _ => .inl rfl, fun _ _ => ⟨fun f hf => (by cases hf), fun _ => rfl, fun _ => rfl⟩⟩
   ·rw [if_neg hl]
    have hp := flows_posA (F := F) (C := C) (env_rat he) a.bulk a (Nat.le_refl _) (err_formed ha).2 day fin
    generalize a.flows F C day fin = A at hp ⊢
    by_cases h1 : A.1 = 0
    ·rw [andR_go h1, andR_go h1]
     obtain ⟨i1, i2⟩ := mulAll_scale hk A.2 hp
     refine ⟨fun q => absurd rfl q, fun _ => ?_, fun _ q => ?_⟩
     ·rcases i1 with h2 | h2
      ·rw [andR_go h2]; exact .inl rfl
      ·have h3 : (mulAll k A.2).1 ≠ 0 := by rw [h2]; decide
       rw [andR_err h3, h2]; exact .inr rfl
     ·obtain ⟨q1, q2⟩ := andR_ok q
      obtain ⟨j1, j2, j3⟩ := i2 q1
      rw [q2]
      refine ⟨fun f hf => ?_, fun h0 => ?_, fun h0 => ?_⟩
      ·have := (srtFl_mem f A.2).1 hf
       exact ⟨j1 f this, hp f this⟩
      ·show srtFl _ = _
       rw [j2 h0]; rfl
      ·show srtFl _ = _
       rw [j3 h0, srtFl_map _ (mf_d k)]
    ·rw [andR_err h1, andR_err h1]
     exact ⟨fun _ => andR_err h1, fun q => absurd q h1, fun q => absurd q h1⟩
 ·simp only [if_pos (show envErr F C ≠ 0 from he)]; simp [he]
def m0T : ByteArray := ⟨#[48]⟩
theorem zErr_small {z : Int} (h : z.natAbs < ten 1000) : zErr z = 0 := (wErr_zero h true).1
theorem cmp_zero {k : ByteArray} (h : ratErr k = 0) : cmpE k m0T = 0 ∧ cmpV k m0T = sgnZ (kS k) 0 := by
 have r0 : ratErr m0T = 0 := by decide +kernel
 have n0 : ival (bl (numS m0T)) = 0 := by decide +kernel
 have d0 : ival (bl (denS m0T)) = 1 := by decide +kernel
 have hb : bE k m0T = 0 := bE_both h r0
 obtain ⟨_, _, _, _, nk, dk, nz, dz⟩ := bE_zero hb
 have eL : cmpL k m0T = kS k := by rw [cmpL, nk, dz, d0, Int.mul_one]; rfl
 have eR : cmpR k m0T = 0 := by rw [cmpR, nz, n0, Int.zero_mul]
 have hs : (kS k).natAbs < ten 1000 := by
  obtain ⟨sg, N, D, rfl, hN, hD, h0, hg, _⟩ := rat_is h
  rw [kS, (rat_txt sg hN hD h0 hg).2.1]
  cases sg <;> simp [sgnv] <;> exact hN
 have e : cmpE k m0T = 0 := by
  rw [cmpE, if_neg fun q => q hb, eL, eR, if_neg]
  rintro (q | q)
  ·exact q (zErr_small hs)
  ·exact q (by decide +kernel)
 exact ⟨e, by rw [cmpV, if_neg fun q => q e, eL, eR]⟩
end Go.Proofs.YtknpnhodpgajbaaGreatDoor

namespace Go.Proofs.YtknpnhodpgajbaaGreatDoor
open Go.RowKit
theorem call_world (w : World) (a : Con) (es dd ss : Value) (who what : ByteArray) (ds : List Int) (vd : Value) (hr : RdN w a es dd ss) (hi : RdI w ds vd) :
  ∃ W, (w.alloc (.cells (a.cells es dd ss).toArray 29)).alloc (.cells ((callM who what ds a).cells (.slice none 0 0) vd (.slice (some ⟨w.heap.size, 0, none⟩) 1 1)).toArray 29) = W ∧ Below w.heap.size w W ∧ W.heap.size = w.heap.size + 2 ∧
   RdN W (callM who what ds a) (.slice none 0 0) vd (.slice (some ⟨w.heap.size, 0, none⟩) 1 1) ∧ BoxN W (w.heap.size + 1) 29 ((callM who what ds a).cells (.slice none 0 0) vd (.slice (some ⟨w.heap.size, 0, none⟩) 1 1)) := by
 have b1 := below_a1 w (.cells (a.cells es dd ss).toArray 29)
 have b2 := below_a1 (w.alloc (.cells (a.cells es dd ss).toArray 29)) (.cells ((callM who what ds a).cells (.slice none 0 0) vd (.slice (some ⟨w.heap.size, 0, none⟩) 1 1)).toArray 29)
 refine ⟨_, rfl, below_a2 _ _ _, by simp, ⟨rdE_nil _, (hi.frame b1).frame b2, (rdC_one (es := es) (dd := dd) (ss := ss) (fun i u h => cell_new w _ _ h) (hr.frame b1)).frame b2, by show 8 < 256; decide, by show 0 < 256; decide⟩, ?_⟩
 have := BoxN.new (w.alloc (.cells (a.cells es dd ss).toArray 29)) ((callM who what ds a).cells (.slice none 0 0) vd (.slice (some ⟨w.heap.size, 0, none⟩) 1 1)) 29
 rw [World.size_alloc] at this
 exact this
theorem pick_world (w : World) (a b : Con) (es dd ss es2 dd2 ss2 : Value) (who what : ByteArray) (hr : RdN w a es dd ss) (hr2 : RdN w b es2 dd2 ss2) :
  ∃ W, (w.alloc (.cells (a.cells es dd ss ++ b.cells es2 dd2 ss2).toArray 29)).alloc (.cells ((pickM who what a b).cells (.slice none 0 0) (.slice none 0 0) (.slice (some ⟨w.heap.size, 0, none⟩) 2 2)).toArray 29) = W ∧ Below w.heap.size w W ∧ W.heap.size = w.heap.size + 2 ∧
   RdN W (pickM who what a b) (.slice none 0 0) (.slice none 0 0) (.slice (some ⟨w.heap.size, 0, none⟩) 2 2) ∧ BoxN W (w.heap.size + 1) 29 ((pickM who what a b).cells (.slice none 0 0) (.slice none 0 0) (.slice (some ⟨w.heap.size, 0, none⟩) 2 2)) := by
 have b1 := below_a1 w (.cells (a.cells es dd ss ++ b.cells es2 dd2 ss2).toArray 29)
 have b2 := below_a1 (w.alloc (.cells (a.cells es dd ss ++ b.cells es2 dd2 ss2).toArray 29)) (.cells ((pickM who what a b).cells (.slice none 0 0) (.slice none 0 0) (.slice (some ⟨w.heap.size, 0, none⟩) 2 2)).toArray 29)
 refine ⟨_, rfl, below_a2 _ _ _, by simp, ⟨rdE_nil _, rdI_nil _, (rdC_two (es := es) (dd := dd) (ss := ss) (es2 := es2) (dd2 := dd2) (ss2 := ss2) (fun i u h => cell_new w _ _ h) (hr.frame b1) (hr2.frame b1)).frame b2, by show 7 < 256; decide, by show 0 < 256; decide⟩, ?_⟩
 have := BoxN.new (w.alloc (.cells (a.cells es dd ss ++ b.cells es2 dd2 ss2).toArray 29)) ((pickM who what a b).cells (.slice none 0 0) (.slice none 0 0) (.slice (some ⟨w.heap.size, 0, none⟩) 2 2)) 29
 rw [World.size_alloc] at this
 exact this
theorem RdI.elem {w : World} {l : List Int} {ad : Option Addr} {n cap : Nat} (h : RdI w l (.slice ad n cap)) {j : Nat} {d : Int} (hj : l[j]? = some d) : ∃ b off, ad = some ⟨b, off, none⟩ ∧ w.cell? ⟨b, off + j, none⟩ = some (.int .i64 d) := by
 obtain ⟨ad', cap', e, _, h2⟩ := h
 injection e with e1 e2 e3
 subst e1
 exact h2 j d hj
theorem store12 {B0 B : Nat} {w : World} {v0 v1 v2 v3 v4 v5 v6 v7 v8 v9 v10 v11 : Value} {x0 x1 x2 x3 x4 x5 x6 x7 x8 x9 x10 x11 : Value} (h : BoxN w B 29 [x0, x1, x2, x3, x4, x5, x6, x7, x8, x9, x10, x11]) (hB : B0 ≤ B) (W0 : World) (hb : Below B0 W0 w) :
  ∃ W, (((((((((((w.setCell ⟨B, 0, none⟩ v0).setCell ⟨B, 1, none⟩ v1).setCell ⟨B, 2, none⟩ v2).setCell ⟨B, 3, none⟩ v3).setCell ⟨B, 4, none⟩ v4).setCell ⟨B, 5, none⟩ v5).setCell ⟨B, 6, none⟩ v6).setCell ⟨B, 7, none⟩ v7).setCell ⟨B, 8, none⟩ v8).setCell ⟨B, 9, none⟩ v9).setCell ⟨B, 10, none⟩ v10).setCell ⟨B, 11, none⟩ v11 = W ∧ Below B0 W0 W ∧ W.heap.size = w.heap.size ∧ BoxN W B 29 [v0, v1, v2, v3, v4, v5, v6, v7, v8, v9, v10, v11] := by
 refine ⟨_, rfl, ?_, by simp, ((((((((((((h.set 0 v0).set 1 v1).set 2 v2).set 3 v3).set 4 v4).set 5 v5).set 6 v6).set 7 v7).set 8 v8).set 9 v9).set 10 v10).set 11 v11)⟩
 repeat refine Below.setCell ?_ (show B0 ≤ B from hB) _
 exact hb
theorem VInv.other {W0 w : World} {vals vals' cur : List Value} {L : Nat → Bool} (h : VInv W0 vals cur L w) (hl : vals'.length = vals.length) (he : ∀ (i : Nat) (v : Value), L i = true → vals'[i]? = some v → vals[i]? = some v) : VInv W0 vals' cur L w :=
 ⟨h.b, by rw [h.len, hl], fun i v hi hv => h.f i v hi (he i v hi hv)⟩
theorem call_bulk (who what : ByteArray) (ds : List Int) (a : Con) : (callM who what ds a).bulk ≤ a.bulk + who.size + what.size + ds.length + 100 := by
 rw [Con.bulk_eq]
 show who.size + 0 + what.size + xZ.bulk + ds.length + 8 + Con.bulks [a] ≤ _
 have e1 : xZ.bulk = 6 := by decide
 have e2 : Con.bulks [a] = a.bulk + 0 := by rw [Con.bulks, Con.bulks]
 omega
theorem pick_bulk (who what : ByteArray) (a b : Con) : (pickM who what a b).bulk ≤ a.bulk + b.bulk + who.size + what.size + 100 := by
 rw [Con.bulk_eq]
 show who.size + 0 + what.size + xZ.bulk + 0 + 8 + Con.bulks [a, b] ≤ _
 have e1 : xZ.bulk = 6 := by decide
 have e2 : Con.bulks [a, b] = a.bulk + (b.bulk + 0) := by rw [Con.bulks, Con.bulks, Con.bulks]
 omega
end Go.Proofs.YtknpnhodpgajbaaGreatDoor
