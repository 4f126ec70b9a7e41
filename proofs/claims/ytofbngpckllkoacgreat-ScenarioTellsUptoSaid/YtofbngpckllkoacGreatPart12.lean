/-
  The chain of steps of a sum of rationals.  Printed by tools/genratops.py. Bytes as a string; how long the texts of sums are. What a product and a quotient of rationals answer.  Printed by tools/genratmd.py. append onto an empty slice, from a slice that reads as a list, nil or not. Shifts as records; novationref32.Great, Same; slices.Clone.  Printed by tools/genshift.py.
-/
import Derived.Test.YtofbngpckllkoacGreatPart09
import Derived.Test.YtofbngpckllkoacGreatPart11
import Derived.Test.YtofbngpckllkoacGreatPart01
import Derived.Laws.OwnMore
import Derived.Deep.RegionLaw
import Derived.Test.YtofbngpckllkoacGreatPart06
import Derived.Test.YtofbngpckllkoacGreatPart02
import Derived.Laws.StructEq
import Derived.Lib.SliceRun
namespace Go.Proofs.YtofbngpckllkoacGreat
open Go.RowKit

/-- What one step of a chain of integer operations does. -/
def StepR (a b : List UInt8) (z er : Int) (t : List UInt8) (er' : Int) : Prop :=
  (er ≠ 0 ∧ t = [] ∧ er' = er) ∨ (er = 0 ∧ pairErr a b ≠ 0 ∧ t = [] ∧ er' = pairErr a b) ∨ (er = 0 ∧ pairErr a b = 0 ∧ er' = zErr z ∧ t = zStr z)
theorem zStr_len (z : Int) : (zStr z).length ≤ 1002 := by
  rw [zStr, wStr]
  split
  · simp
  · rename_i h
    by_cases h0 : z.natAbs = 0
    · rw [h0]; simp [istr]
    · rw [istr_ne _ h0]
      split <;> simp [asc] <;> omega
theorem StepR.len {a b t : List UInt8} {z er er' : Int} (h : StepR a b z er t er') : t.length ≤ 1002 := by
  rcases h with ⟨_, rfl, _⟩ | ⟨_, _, rfl, _⟩ | ⟨_, _, _, rfl⟩
  · simp
  · simp
  · exact zStr_len z
theorem StepR.zero {a b t : List UInt8} {z er er' : Int} (h : StepR a b z er t er') (h0 : er' = 0) : er = 0 ∧ zErr z = 0 ∧ t = istr (decide (z < 0)) z.natAbs := by
  rcases h with ⟨h1, _, h2⟩ | ⟨_, h1, _, h2⟩ | ⟨h1, _, h2, rfl⟩
  · exact absurd (h2.symm.trans h0) h1
  · exact absurd (h2.symm.trans h0) h1
  · have h3 : zErr z = 0 := h2.symm.trans h0
    refine ⟨h1, h3, ?_⟩
    rcases wErr_cases z.natAbs with ⟨_, k⟩ | ⟨k, _⟩
    · exact k _
    · rw [zErr, k] at h3; cases h3
theorem opPost_step {w w' : World} {a b : List UInt8} {z : Int} {e : Ending} (h : OpPost w a b z e w') : ∃ t er, e = .returned (.tuple #[.string t, .int .i64 er]) ∧ StepR a b z 0 (bl t) er ∧ Below w.heap.size w w' := by
  unfold OpPost at h
  split at h
  · rename_i h0
    obtain ⟨t, rfl, ht, hb⟩ := h
    exact ⟨t, _, rfl, .inr (.inr ⟨rfl, h0, rfl, ht⟩), hb⟩
  · rename_i h0
    obtain ⟨rfl, hb⟩ := h
    exact ⟨_, _, rfl, .inr (.inl ⟨rfl, h0, rfl, rfl⟩), hb⟩

/-- The worlds in which a chain runs. -/
structure PSt (w W : World) (P Bm Ba fm fa : Nat) (n0 n1 d0 d1 : ByteArray) (er : Int) : Prop where
  p : Pair5 W P n0 n1 d0 d1 er
  m : Cap W P Bm fm
  k : Cap W P Ba fa
  b : Below w.heap.size w W
  hP : w.heap.size ≤ P
theorem PSt.step {w W W2 : World} {P Bm Ba fm fa : Nat} {n0 n1 d0 d1 : ByteArray} {er : Int} (h : PSt w W P Bm Ba fm fa n0 n1 d0 d1 er) (hb : Below W.heap.size W W2) (x : Int) : PSt w (W2.setCell ⟨P, 4, none⟩ (.int .i64 x)) P Bm Ba fm fa n0 n1 d0 d1 x :=
  ⟨(h.p.below hb).setE x, (h.m.below hb).setCell (h.m.ne h.p).1 (h.m.ne h.p).2 _, (h.k.below hb).setCell (h.k.ne h.p).1 (h.k.ne h.p).2 _, (h.b.trans (hb.mono h.b.size)).setCell h.hP _, h.hP⟩
theorem PSt.drew {w W : World} {P Bm Ba fm fa : Nat} {n0 n1 d0 d1 : ByteArray} {er : Int} (h : PSt w W P Bm Ba fm fa n0 n1 d0 d1 er) : PSt w W.drew P Bm Ba fm fa n0 n1 d0 d1 er :=
  ⟨h.p.of_block rfl, h.m, h.k, h.b.drew, h.hP⟩
theorem pst_mul {w W : World} {P Bm Ba fa : Nat} {n0 n1 d0 d1 : ByteArray} {er : Int} (h : PSt w W P Bm Ba 44 fa n0 n1 d0 d1 er) (a b : ByteArray) (ha : a.size ≤ 1100000) (hb : b.size ≤ 1100000) :
    Calls Tryz.prog 69 #[.string a, .string b, .pointer (some ⟨Bm, 0, none⟩), .pointer (some ⟨Bm + 1, 0, none⟩)] W fun e w' => ∃ t er', e = .returned (.string t) ∧ Hid (StepR (bl a) (bl b) (ival (bl a) * ival (bl b)) er (bl t) er') ∧ PSt w w' P Bm Ba 44 fa n0 n1 d0 d1 er' := by
  by_cases he : er = 0
  · subst he
    refine (keep1_mul a b P Bm n0 n1 d0 d1 W h.m h.p (fun t er => StepR (bl a) (bl b) (ival (bl a) * ival (bl b)) 0 (bl t) er) (Lib.hid fun W' => ?_)).mono ?_
    · refine (imul_any a b W' (by omega) (by omega)).mono fun e w' k => ?_
      obtain ⟨t, er, h1, h2, h3⟩ := opPost_step k
      exact ⟨t, er, h1, h2, h3⟩
    · rintro e w' ⟨t, er', w2, rfl, hq, hb2, rfl⟩
      exact ⟨t, er', rfl, hq, h.step hb2 er'⟩
  · refine (keep1_err a b P Bm 44 n0 n1 d0 d1 er W h.m h.p he).mono ?_
    rintro e w' ⟨rfl, rfl⟩
    exact ⟨_, er, rfl, .inl ⟨he, rfl, rfl⟩, h⟩
theorem pst_add {w W : World} {P Bm Ba fm : Nat} {n0 n1 d0 d1 : ByteArray} {er : Int} (h : PSt w W P Bm Ba fm 46 n0 n1 d0 d1 er) (a b : ByteArray) (ha : a.size ≤ 1100000) (hb : b.size ≤ 1100000) :
    Calls Tryz.prog 69 #[.string a, .string b, .pointer (some ⟨Ba, 0, none⟩), .pointer (some ⟨Ba + 1, 0, none⟩)] W fun e w' => ∃ t er', e = .returned (.string t) ∧ Hid (StepR (bl a) (bl b) (ival (bl a) + ival (bl b)) er (bl t) er') ∧ PSt w w' P Bm Ba fm 46 n0 n1 d0 d1 er' := by
  by_cases he : er = 0
  · subst he
    refine (keep1_add a b P Ba n0 n1 d0 d1 W h.k h.p (fun t er => StepR (bl a) (bl b) (ival (bl a) + ival (bl b)) 0 (bl t) er) (Lib.hid fun W' => ?_)).mono ?_
    · refine (iadd_any a b W' (by omega) (by omega)).mono fun e w' k => ?_
      obtain ⟨t, er, h1, h2, h3⟩ := opPost_step k
      exact ⟨t, er, h1, h2, h3⟩
    · rintro e w' ⟨t, er', w2, rfl, hq, hb2, rfl⟩
      exact ⟨t, er', rfl, hq, h.step hb2 er'⟩
  · refine (keep1_err a b P Ba 46 n0 n1 d0 d1 er W h.k h.p he).mono ?_
    rintro e w' ⟨rfl, rfl⟩
    exact ⟨_, er, rfl, .inl ⟨he, rfl, rfl⟩, h⟩

def MadeR (x y : List UInt8) (er : Int) (s : List UInt8) (er2 : Int) : Prop := (er ≠ 0 ∧ s = [] ∧ er2 = er) ∨ (er = 0 ∧ er2 = 0 ∧ s = ratTxt (!(isNeg x == isNeg y)) (dval (body x)) (dval (body y)))
/-- What a chain with the sum z hands back. -/
def sumE (a b : ByteArray) (z : Int) : Int :=
  if bE a b ≠ 0 then bE a b
  else if zErr (ival (bl (pN a)) * ival (bl (pD b))) ≠ 0 ∨ zErr (ival (bl (pN b)) * ival (bl (pD a))) ≠ 0 ∨ zErr z ≠ 0 ∨ zErr (ival (bl (pD a)) * ival (bl (pD b))) ≠ 0 then 14 else 0
def sumS (a b : ByteArray) (z : Int) : List UInt8 := if sumE a b z = 0 then ratTxt (decide (z < 0)) z.natAbs (ival (bl (pD a)) * ival (bl (pD b))).natAbs else []
def RatPost2 (w : World) (l : List UInt8) (er : Int) (e : Ending) (w' : World) : Prop := ∃ t, e = .returned (.tuple #[.string t, .int .i64 er]) ∧ bl t = l ∧ Below w.heap.size w w'
theorem zErr_cases (z : Int) : zErr z = 0 ∨ zErr z = 14 := by
  rcases wErr_cases z.natAbs with ⟨h, _⟩ | ⟨h, _⟩
  · exact .inl h
  · exact .inr h
theorem bE_zero {a b : ByteArray} (h : bE a b = 0) : ratErr a = 0 ∧ ratErr b = 0 ∧ bN1 a b = pN b ∧ bD1 a b = pD b ∧ pN a = numS a ∧ pD a = denS a ∧ pN b = numS b ∧ pD b = denS b := by
  unfold bE at h
  by_cases h0 : ratErr a = 0
  · rw [if_pos h0] at h
    exact ⟨h0, h, by rw [bN1, if_pos h0], by rw [bD1, if_pos h0], by rw [pN, if_pos h0], by rw [pD, if_pos h0], by rw [pN, if_pos h], by rw [pD, if_pos h]⟩
  · rw [if_neg h0] at h; exact absurd h h0
theorem pairErr_ok {a b : List UInt8} (h0 : intErr a = 0) (h : intErr b = 0) : pairErr a b = 0 := by rw [pairErr_b h0]; exact h
theorem StepR.of_ok {a b t : List UInt8} {z er' : Int} (h : StepR a b z 0 t er') (hp : pairErr a b = 0) : er' = zErr z ∧ t = zStr z := by
  rcases h with ⟨h1, _, _⟩ | ⟨_, h1, _, _⟩ | ⟨_, _, h2, h3⟩
  · exact absurd rfl h1
  · exact absurd hp h1
  · exact ⟨h2, h3⟩
theorem StepR.of_err {a b t : List UInt8} {z er er' : Int} (h : StepR a b z er t er') (he : er ≠ 0) : er' = er ∧ t = [] := by
  rcases h with ⟨_, h1, h2⟩ | ⟨h1, _⟩ | ⟨h1, _⟩
  · exact ⟨h2, h1⟩
  · exact absurd h1 he
  · exact absurd h1 he
theorem zStr_ok {z : Int} (h : zErr z = 0) : zStr z = istr (decide (z < 0)) z.natAbs ∧ intErr (zStr z) = 0 ∧ ival (zStr z) = z := by
  have e : zStr z = istr (decide (z < 0)) z.natAbs := by
    rcases wErr_cases z.natAbs with ⟨_, k⟩ | ⟨k, _⟩
    · exact k _
    · rw [zErr, k] at h; cases h
  refine ⟨e, by rw [e, intErr_istr]; exact h, ?_⟩
  rw [e, ival_istr]
  by_cases hz : z < 0
  · rw [decide_eq_true hz]; simp [sgnv]; omega
  · rw [decide_eq_false hz]; simp [sgnv]; omega
/-- The four steps of a sum. -/
structure Chain (a b : ByteArray) (op : Int → Int → Int) (t1 t2 t3 t4 : List UInt8) (e1 e2 e3 e4 : Int) : Prop where
  r1 : StepR (bl (pN a)) (bl (bD1 a b)) (ival (bl (pN a)) * ival (bl (bD1 a b))) (bE a b) t1 e1
  r2 : StepR (bl (bN1 a b)) (bl (pD a)) (ival (bl (bN1 a b)) * ival (bl (pD a))) e1 t2 e2
  r3 : StepR t1 t2 (op (ival t1) (ival t2)) e2 t3 e3
  r4 : StepR (bl (pD a)) (bl (bD1 a b)) (ival (bl (pD a)) * ival (bl (bD1 a b))) e3 t4 e4
theorem Chain.done {a b : ByteArray} {op : Int → Int → Int} {t1 t2 t3 t4 : List UInt8} {e1 e2 e3 e4 : Int} (h : Chain a b op t1 t2 t3 t4 e1 e2 e3 e4) :
    e4 = sumE a b (op (ival (bl (pN a)) * ival (bl (pD b))) (ival (bl (pN b)) * ival (bl (pD a)))) ∧
    (e4 = 0 → intErr t3 = 0 ∧ intErr t4 = 0 ∧ dval (body t4) ≠ 0 ∧ isNeg t4 = false ∧ ratTxt (!(isNeg t3 == isNeg t4)) (dval (body t3)) (dval (body t4)) = sumS a b (op (ival (bl (pN a)) * ival (bl (pD b))) (ival (bl (pN b)) * ival (bl (pD a))))) := by
  obtain ⟨r1, r2, r3, r4⟩ := h
  by_cases h0 : bE a b = 0
  · obtain ⟨ra, rb, eN, eD, ea, ea', eb, eb'⟩ := bE_zero h0
    rw [eN] at r2
    rw [eD] at r1 r4
    rw [h0] at r1
    obtain ⟨na, da, sa, za⟩ := rat_parts ra
    obtain ⟨nb, db, sb, zb⟩ := rat_parts rb
    rw [← ea] at na
    rw [← ea'] at da sa za
    rw [← eb] at nb
    rw [← eb'] at db sb zb
    obtain ⟨f1, g1⟩ := r1.of_ok (pairErr_ok na db)
    generalize hz1 : ival (bl (pN a)) * ival (bl (pD b)) = z1 at f1 g1 ⊢
    rcases zErr_cases z1 with k1 | k1
    · obtain ⟨_, i1, v1⟩ := zStr_ok k1
      rw [← g1] at i1 v1
      rw [f1, k1] at r2
      obtain ⟨f2, g2⟩ := r2.of_ok (pairErr_ok nb da)
      generalize hz2 : ival (bl (pN b)) * ival (bl (pD a)) = z2 at f2 g2 ⊢
      rcases zErr_cases z2 with k2 | k2
      · obtain ⟨_, i2, v2⟩ := zStr_ok k2
        rw [← g2] at i2 v2
        rw [f2, k2, v1, v2] at r3
        obtain ⟨f3, g3⟩ := r3.of_ok (pairErr_ok i1 i2)
        generalize op z1 z2 = z3 at f3 g3 ⊢
        rcases zErr_cases z3 with k3 | k3
        · obtain ⟨j3, i3, v3⟩ := zStr_ok k3
          rw [f3, k3] at r4
          obtain ⟨f4, g4⟩ := r4.of_ok (pairErr_ok da db)
          have hE : sumE a b z3 = zErr (ival (bl (pD a)) * ival (bl (pD b))) := by
            rw [sumE, if_neg (fun h => h h0), hz1, hz2]
            rcases zErr_cases (ival (bl (pD a)) * ival (bl (pD b))) with k4 | k4
            · rw [if_neg (by rintro (h | h | h | h) <;> exact h (by assumption)), k4]
            · rw [if_pos (.inr (.inr (.inr (by rw [k4]; decide)))), k4]
          refine ⟨f4.trans hE.symm, fun h4 => ?_⟩
          have k4 : zErr (ival (bl (pD a)) * ival (bl (pD b))) = 0 := f4.symm.trans h4
          obtain ⟨j4, i4, v4⟩ := zStr_ok k4
          have hpos : 0 < ival (bl (pD a)) * ival (bl (pD b)) := by
            rw [ival, ival, sa, sb]
            simp only [sgnv]
            have := Nat.mul_pos (Nat.pos_of_ne_zero za) (Nat.pos_of_ne_zero zb)
            simp only [Bool.false_eq_true, if_false]
            exact_mod_cast this
          have hne : (ival (bl (pD a)) * ival (bl (pD b))).natAbs ≠ 0 := by omega
          rw [g3, g4, sumS, hE, if_pos k4]
          rw [j3] at i3 ⊢
          rw [j4] at i4 ⊢
          rw [decide_eq_false (show ¬ ival (bl (pD a)) * ival (bl (pD b)) < 0 by omega)] at i4 ⊢
          rw [dval_istr, dval_istr, isNeg_istr, isNeg_istr]
          refine ⟨i3, i4, hne, by simp, ?_⟩
          by_cases hz3 : z3.natAbs = 0
          · have : z3 = 0 := by omega
            subst this
            simp
          · simp [hz3]
        · rw [f3, k3] at r4
          obtain ⟨f4, g4⟩ := r4.of_err (by decide)
          have hE : sumE a b z3 = 14 := by
            rw [sumE, if_neg (fun h => h h0), hz1, hz2, if_pos (.inr (.inr (.inl (by rw [k3]; decide))))]
          exact ⟨f4.trans hE.symm, fun h4 => by rw [f4] at h4; cases h4⟩
      · rw [f2, k2] at r3
        obtain ⟨f3, g3⟩ := r3.of_err (by decide)
        rw [f3] at r4
        obtain ⟨f4, g4⟩ := r4.of_err (by decide)
        have hE : sumE a b (op z1 z2) = 14 := by
          rw [sumE, if_neg (fun h => h h0), hz1, hz2, if_pos (.inr (.inl (by rw [k2]; decide)))]
        exact ⟨f4.trans hE.symm, fun h4 => by rw [f4] at h4; cases h4⟩
    · rw [f1, k1] at r2
      obtain ⟨f2, g2⟩ := r2.of_err (by decide)
      rw [f2] at r3
      obtain ⟨f3, g3⟩ := r3.of_err (by decide)
      rw [f3] at r4
      obtain ⟨f4, g4⟩ := r4.of_err (by decide)
      have hE : sumE a b (op z1 (ival (bl (pN b)) * ival (bl (pD a)))) = 14 := by
        rw [sumE, if_neg (fun h => h h0), hz1, if_pos (.inl (by rw [k1]; decide))]
      exact ⟨f4.trans hE.symm, fun h4 => by rw [f4] at h4; cases h4⟩
  · obtain ⟨f1, g1⟩ := r1.of_err h0
    rw [f1] at r2
    obtain ⟨f2, g2⟩ := r2.of_err h0
    rw [f2] at r3
    obtain ⟨f3, g3⟩ := r3.of_err h0
    rw [f3] at r4
    obtain ⟨f4, g4⟩ := r4.of_err h0
    exact ⟨by rw [f4, sumE, if_pos h0], fun h4 => absurd (f4.symm.trans h4) h0⟩
theorem part_sizes (a b : ByteArray) (ha : a.size ≤ 1000000) (hb : b.size ≤ 1000000) : (pN a).size ≤ 1100000 ∧ (bN1 a b).size ≤ 1100000 ∧ (pD a).size ≤ 1100000 ∧ (bD1 a b).size ≤ 1100000 := by
  have e : (⟨#[]⟩ : ByteArray).size = 0 := rfl
  have s1 := numS_size a
  have s2 := numS_size b
  have s3 := denS_size a
  have s4 := denS_size b
  have q1 : (pN a).size ≤ 1100000 := by unfold pN; split <;> omega
  have q2 : (pN b).size ≤ 1100000 := by unfold pN; split <;> omega
  have q3 : (pD a).size ≤ 1100000 := by unfold pD; split <;> omega
  have q4 : (pD b).size ≤ 1100000 := by unfold pD; split <;> omega
  refine ⟨q1, ?_, q3, ?_⟩
  · unfold bN1; split <;> omega
  · unfold bD1; split <;> omega
end Go.Proofs.YtofbngpckllkoacGreat

namespace Go.Proofs.YtofbngpckllkoacGreat
open Go.RowKit

def mkB (l : List UInt8) : ByteArray := ⟨l.toArray⟩
theorem bl_mkB (l : List UInt8) : bl (mkB l) = l := by simp [bl, mkB]
theorem mkB_bl {t : ByteArray} {l : List UInt8} (h : bl t = l) : t = mkB l := bl_inj (by rw [bl_mkB]; exact h)
def addZ (s am : ByteArray) : Int := ival (bl (pN s)) * ival (bl (pD am)) + ival (bl (pN am)) * ival (bl (pD s))
def subZ (s am : ByteArray) : Int := ival (bl (pN s)) * ival (bl (pD am)) - ival (bl (pN am)) * ival (bl (pD s))
theorem ratTxt_len {sg : Bool} {N D : Nat} (hN : N < ten 1000) (hD : D < ten 1000) : (ratTxt sg N D).length ≤ 2010 := by
  have h1 : ∀ (g : Bool) (n : Nat), n < ten 1000 → (istr g n).length ≤ 1002 := fun g n h => by
    by_cases h0 : n = 0
    · subst h0; simp [istr]
    · rw [istr_ne g h0]
      have := dig10_ten h
      cases g <;> simp [asc] <;> omega
  have a := h1 sg (N / Nat.gcd N D) (Nat.lt_of_le_of_lt (Nat.div_le_self _ _) hN)
  have b := h1 false (D / Nat.gcd N D) (Nat.lt_of_le_of_lt (Nat.div_le_self _ _) hD)
  unfold ratTxt
  split
  · omega
  · simp only [List.length_append, List.length_singleton]; omega
theorem zErr_lt {z : Int} (h : zErr z = 0) : z.natAbs < ten 1000 := by
  rw [zErr, wErr] at h
  split at h
  · cases h
  · rename_i hl
    have h1 : z.natAbs < ten (dig10 z.natAbs).length := by
      have h2 := val_lt (dig10_nrm z.natAbs).1
      rw [dig10_val] at h2
      exact h2
    exact Nat.lt_of_lt_of_le h1 (ten_mono (by omega))
theorem sumS_len (a b : ByteArray) (z : Int) : (sumS a b z).length ≤ 2010 := by
  unfold sumS
  split
  · rename_i h
    unfold sumE at h
    split at h
    · rename_i h0; exact absurd h h0
    · split at h
      · cases h
      · rename_i h2
        have h3 : zErr z = 0 := by
          rcases Int.decEq (zErr z) 0 with k | k
          · exact absurd (.inr (.inr (.inl k))) h2
          · exact k
        have h4 : zErr (ival (bl (pD a)) * ival (bl (pD b))) = 0 := by
          rcases Int.decEq (zErr (ival (bl (pD a)) * ival (bl (pD b)))) 0 with k | k
          · exact absurd (.inr (.inr (.inr k))) h2
          · exact k
        exact ratTxt_len (zErr_lt h3) (zErr_lt h4)
  · simp
theorem mkB_size (l : List UInt8) : (mkB l).size = l.length := by rw [← bl_length, bl_mkB]
theorem sumS_err {a b : ByteArray} {z : Int} (h : sumE a b z ≠ 0) : sumS a b z = [] := by rw [sumS, if_neg h]
end Go.Proofs.YtofbngpckllkoacGreat

namespace Go.Proofs.YtofbngpckllkoacGreat
open Go.RowKit

/-- The fraction of two numbers, where both fit. -/
def frE (a b : ByteArray) (z y : Int) : Int := if bE a b ≠ 0 then bE a b else if zErr z ≠ 0 ∨ zErr y ≠ 0 then 14 else 0
def frS (a b : ByteArray) (z y : Int) : List UInt8 := if frE a b z y = 0 then ratTxt (!(decide (z < 0) == decide (y < 0))) z.natAbs y.natAbs else []
theorem frE_bad {a b : ByteArray} {z y : Int} (h : bE a b ≠ 0) : frE a b z y = bE a b := by rw [frE, if_pos h]
theorem frE_big {a b : ByteArray} {z y : Int} (h : bE a b = 0) (k : zErr z ≠ 0 ∨ zErr y ≠ 0) : frE a b z y = 14 := by rw [frE, if_neg (fun k => k h), if_pos k]
theorem frE_ok {a b : ByteArray} {z y : Int} (h : bE a b = 0) (h1 : zErr z = 0) (h2 : zErr y = 0) : frE a b z y = 0 := by
  rw [frE, if_neg (fun k => k h), if_neg (by rintro (k | k); exact k h1; exact k h2)]
theorem frS_err {a b : ByteArray} {z y : Int} (h : frE a b z y ≠ 0) : frS a b z y = [] := by rw [frS, if_neg h]
theorem istr_zero (b c : Bool) : istr b 0 = istr c 0 := rfl
theorem ratTxt_zero (b c : Bool) (D : Nat) : ratTxt b 0 D = ratTxt c 0 D := by
  unfold ratTxt
  rw [Nat.zero_div, istr_zero b c]
/-- The two steps of a product or a quotient. -/
structure Chain2 (a b : ByteArray) (u1 u2 v1 v2 t1 t2 : List UInt8) (e1 e2 : Int) : Prop where
  r1 : StepR u1 u2 (ival u1 * ival u2) (bE a b) t1 e1
  r2 : StepR v1 v2 (ival v1 * ival v2) e1 t2 e2
theorem Chain2.done {a b : ByteArray} {u1 u2 v1 v2 t1 t2 : List UInt8} {e1 e2 : Int} (h : Chain2 a b u1 u2 v1 v2 t1 t2 e1 e2) (hu : bE a b = 0 → pairErr u1 u2 = 0) (hv : bE a b = 0 → pairErr v1 v2 = 0) (hy : bE a b = 0 → ival v1 * ival v2 ≠ 0) :
    e2 = frE a b (ival u1 * ival u2) (ival v1 * ival v2) ∧
    (e2 = 0 → intErr t1 = 0 ∧ intErr t2 = 0 ∧ dval (body t2) ≠ 0 ∧ ratTxt (!(isNeg t1 == isNeg t2)) (dval (body t1)) (dval (body t2)) = frS a b (ival u1 * ival u2) (ival v1 * ival v2)) := by
  obtain ⟨r1, r2⟩ := h
  by_cases h0 : bE a b = 0
  · rw [h0] at r1
    obtain ⟨f1, g1⟩ := r1.of_ok (hu h0)
    replace hy := hy h0
    generalize ival u1 * ival u2 = z at *
    rcases zErr_cases z with k1 | k1
    · obtain ⟨j1, i1, v1'⟩ := zStr_ok k1
      rw [f1, k1] at r2
      obtain ⟨f2, g2⟩ := r2.of_ok (hv h0)
      generalize ival v1 * ival v2 = y at *
      rcases zErr_cases y with k2 | k2
      · obtain ⟨j2, i2, v2'⟩ := zStr_ok k2
        have hE := frE_ok h0 k1 k2
        refine ⟨by rw [f2, k2, hE], fun _ => ?_⟩
        rw [g1, g2, frS, if_pos hE]
        rw [j1] at i1 ⊢
        rw [j2] at i2 ⊢
        rw [dval_istr, dval_istr, isNeg_istr, isNeg_istr]
        have hyn : y.natAbs ≠ 0 := by omega
        refine ⟨i1, i2, hyn, ?_⟩
        rw [decide_eq_true hyn, Bool.and_true]
        by_cases hz : z.natAbs = 0
        · rw [hz]; exact ratTxt_zero _ _ _
        · rw [decide_eq_true hz, Bool.and_true]
      · have hE := frE_big (z := z) h0 (.inr (show zErr y ≠ 0 by rw [k2]; decide))
        exact ⟨by rw [f2, k2, hE], fun h4 => by rw [f2, k2] at h4; cases h4⟩
    · rw [f1, k1] at r2
      obtain ⟨f2, g2⟩ := r2.of_err (by decide)
      have hE := frE_big (y := ival v1 * ival v2) h0 (.inl (show zErr z ≠ 0 by rw [k1]; decide))
      exact ⟨f2.trans hE.symm, fun h4 => by rw [f2] at h4; cases h4⟩
  · obtain ⟨f1, g1⟩ := r1.of_err h0
    rw [f1] at r2
    obtain ⟨f2, g2⟩ := r2.of_err h0
    exact ⟨by rw [f2, frE_bad h0], fun h4 => absurd (f2.symm.trans h4) h0⟩
def mulE (a b : ByteArray) : Int := frE a b (ival (bl (pN a)) * ival (bl (pN b))) (ival (bl (pD a)) * ival (bl (pD b)))
def mulS (a b : ByteArray) : List UInt8 := frS a b (ival (bl (pN a)) * ival (bl (pN b))) (ival (bl (pD a)) * ival (bl (pD b)))
def divE (a b : ByteArray) : Int := if bE a b = 0 ∧ bl (pN b) = [48] then 16 else frE a b (ival (bl (pN a)) * ival (bl (pD b))) (ival (bl (pD a)) * ival (bl (pN b)))
def divS (a b : ByteArray) : List UInt8 := if bE a b = 0 ∧ bl (pN b) = [48] then [] else frS a b (ival (bl (pN a)) * ival (bl (pD b))) (ival (bl (pD a)) * ival (bl (pN b)))
theorem bN1_bad {a b : ByteArray} (h : bE a b ≠ 0) (z y z' y' : Int) : frE a b z y = frE a b z' y' ∧ frS a b z y = frS a b z' y' := by
  have e1 := frE_bad (z := z) (y := y) h
  have e2 := frE_bad (z := z') (y := y') h
  refine ⟨e1.trans e2.symm, ?_⟩
  rw [frS_err (by rw [e1]; exact h), frS_err (by rw [e2]; exact h)]
theorem ival_den {s : ByteArray} (h : ratErr s = 0) : 0 < ival (bl (denS s)) := by
  obtain ⟨_, _, sg, z⟩ := rat_parts h
  rw [ival, sg]
  show (0 : Int) < (dval (body (bl (denS s))) : Int)
  omega
theorem ival_num {s : ByteArray} (h : ratErr s = 0) (h0 : bl (numS s) ≠ [48]) : ival (bl (numS s)) ≠ 0 := by
  obtain ⟨na, _, _, _⟩ := rat_parts h
  have hne : dval (body (bl (numS s))) ≠ 0 := fun e => h0 ((canon_zero (intErr_zero na).1).2 e)
  rw [ival]
  cases isNeg (bl (numS s)) <;> simp [sgnv] <;> omega
/-- The chain of a product. -/
theorem mul_done {a b : ByteArray} {t1 t2 : List UInt8} {e1 e2 : Int} (h : Chain2 a b (bl (pN a)) (bl (bN1 a b)) (bl (pD a)) (bl (bD1 a b)) t1 t2 e1 e2) :
    e2 = mulE a b ∧ (e2 = 0 → intErr t1 = 0 ∧ intErr t2 = 0 ∧ dval (body t2) ≠ 0 ∧ ratTxt (!(isNeg t1 == isNeg t2)) (dval (body t1)) (dval (body t2)) = mulS a b) := by
  by_cases h0 : bE a b = 0
  · obtain ⟨ra, rb, eN, eD, ea, ea', eb, eb'⟩ := bE_zero h0
    obtain ⟨na, da, _, _⟩ := rat_parts ra
    obtain ⟨nb, db, _, _⟩ := rat_parts rb
    have pa := ival_den ra
    have pb := ival_den rb
    have k := h.done (fun _ => by rw [eN, ea, eb]; exact pairErr_ok na nb) (fun _ => by rw [eD, ea', eb']; exact pairErr_ok da db)
      (fun _ => by rw [eD, ea', eb']; exact Int.mul_ne_zero (by omega) (by omega))
    rw [eN, eD] at k
    exact k
  · have k := h.done (fun k => absurd k h0) (fun k => absurd k h0) (fun k => absurd k h0)
    obtain ⟨q1, q2⟩ := bN1_bad h0 (ival (bl (pN a)) * ival (bl (bN1 a b))) (ival (bl (pD a)) * ival (bl (bD1 a b))) (ival (bl (pN a)) * ival (bl (pN b))) (ival (bl (pD a)) * ival (bl (pD b)))
    rw [q1, q2] at k
    exact k
/-- The chain of a quotient. -/
theorem div_done {a b : ByteArray} {t1 t2 : List UInt8} {e1 e2 : Int} (h : Chain2 a b (bl (pN a)) (bl (bD1 a b)) (bl (pD a)) (bl (bN1 a b)) t1 t2 e1 e2) (hz : ¬ (bE a b = 0 ∧ bl (pN b) = [48])) :
    e2 = divE a b ∧ (e2 = 0 → intErr t1 = 0 ∧ intErr t2 = 0 ∧ dval (body t2) ≠ 0 ∧ ratTxt (!(isNeg t1 == isNeg t2)) (dval (body t1)) (dval (body t2)) = divS a b) := by
  rw [divE, divS, if_neg hz, if_neg hz]
  by_cases h0 : bE a b = 0
  · obtain ⟨ra, rb, eN, eD, ea, ea', eb, eb'⟩ := bE_zero h0
    obtain ⟨na, da, _, _⟩ := rat_parts ra
    obtain ⟨nb, db, _, _⟩ := rat_parts rb
    have pa := ival_den ra
    have pb := ival_num rb (by rw [← eb]; exact fun k => hz ⟨h0, k⟩)
    have k := h.done (fun _ => by rw [eD, ea, eb']; exact pairErr_ok na db) (fun _ => by rw [eN, ea', eb]; exact pairErr_ok da nb)
      (fun _ => by rw [eN, ea', eb]; exact Int.mul_ne_zero (by omega) pb)
    rw [eN, eD] at k
    exact k
  · have k := h.done (fun k => absurd k h0) (fun k => absurd k h0) (fun k => absurd k h0)
    obtain ⟨q1, q2⟩ := bN1_bad h0 (ival (bl (pN a)) * ival (bl (bD1 a b))) (ival (bl (pD a)) * ival (bl (bN1 a b))) (ival (bl (pN a)) * ival (bl (pD b))) (ival (bl (pD a)) * ival (bl (pN b)))
    rw [q1, q2] at k
    exact k
end Go.Proofs.YtofbngpckllkoacGreat

namespace Go.Proofs.YtofbngpckllkoacGreat
open Go.RowKit

theorem run_append_empty {P : Program} {w : World} (t ty e : TypeId) (i : TypeInfo) (z : Value) (size bytes : Nat) (ht : P.underlying t = some (.slice e)) (hi : P.info? e = some i) (hz : i.zero = some z)
    (hsize : i.size = size) (hby : i.bytes = bytes) (hsz : 0 < size) (a0 : Addr) (A : Option Addr) (m c : Nat) (news : List Value) (hs : Sl w (.slice A m c) size m news) (hA : A = none → c = 0)
    (h63 : m ≤ 9223372036854775807) (hbytes : m * bytes ≤ 140737488355328) :
    ∃ ad cap w', (Builtin.append_ #[t, t] ty #[.slice (some a0) 0 0, .slice A m c]).run P w = .ok (.slice ad m cap) w' ∧ Sl w' (.slice ad m cap) size m news ∧ (m = 0 ∨ ∃ g, ad = some ⟨g, 0, none⟩ ∧ w.heap.size ≤ g) ∧ w.grownBy w' none := by
  subst hsize
  subst hby
  obtain ⟨ad', cap', he, h1, h2, h3⟩ := hs
  obtain ⟨rfl, _, rfl⟩ := Value.slice.inj he
  rcases Nat.eq_zero_or_pos m with h0 | h0
  · subst h0
    have hn : news = [] := List.eq_nil_of_length_eq_zero (by simpa using h2)
    subst hn
    refine ⟨some a0, 0, w, ?_, ⟨_, _, rfl, Nat.le_refl _, by simp, .inl rfl⟩, .inl rfl, ⟨rfl, rfl, rfl, Nat.le_refl _, fun _ _ _ => rfl⟩⟩
    cases A with
    | none =>
      obtain rfl := hA rfl
      simp [Builtin.append_, run_underlying ht, sizeOf, typeInfo, hi, Builtin.lenOf, Builtin.firstCells, storeCells]
    | some a => simp [Builtin.append_, run_underlying ht, sizeOf, typeInfo, hi, Builtin.lenOf, Builtin.firstCells, storeCells, loadCells, loadCellsFrom]
  · rcases h3 with h3 | ⟨b, off, rfl, h3⟩
    · exfalso; rw [h3] at h2; have := Nat.mul_pos h0 hsz; omega
    · have hr := run_append_grow (P := P) w t ty e i z ht hi hz a0 0 0 [] (by simp) (by simp) ⟨b, off, none⟩ m c news h2 (fun j v hj => by
          have h := h3 j v hj
          by_cases h0 : j = 0
          · subst h0; simpa [Addr.add] using h
          · simpa [Addr.add, h0] using h) (by omega) (by omega)
        (by rw [Nat.zero_add]; exact growslice_fits (by omega) (by omega))
      simp only [Nat.zero_add] at hr
      refine ⟨_, _, _, hr, ?_, .inr ⟨_, rfl, Nat.le_refl _⟩, ⟨rfl, rfl, rfl, by simp, fun k hk _ => Below.heap_alloc w.drew _ k hk⟩⟩
      refine ⟨_, _, rfl, grownCap_ge w m 0 e, h2, .inr ⟨w.heap.size, 0, rfl, fun j u hj => ?_⟩⟩
      rw [Nat.zero_add, cell_of_row _ w.heap.size j _ e (0, 0) (heap_alloc_new w.drew _)]
      have hjl := (List.getElem?_eq_some_iff.1 hj).1
      show (([] : List Value).toArray ++ news.toArray ++ _)[j]? = some u
      rw [Array.getElem?_append_left (by simpa using hjl)]
      simpa using hj

theorem step_append_empty {P : Program} {w : World} {ops : Array Oper} {o : Oper} {a : Act} {K : Act → World → Prop} {Q : Exit → Act → World → Prop} {E : Prop} (hgd : o.guard = none) (s x : Operand) (t : TypeId)
    (ho : o.op = .call { callee := .builtin .append, args := #[s, x], argTypes := #[t, t] }) (e : TypeId) (i : TypeInfo) (z : Value) (size bytes : Nat) (ht : P.underlying t = some (.slice e)) (hi : P.info? e = some i) (hz : i.zero = some z)
    (hsize : i.size = size) (hby : i.bytes = bytes) (hsz : 0 < size) (a0 : Addr) (A : Option Addr) (m c : Nat) (news : List Value) (hs : a.eval s = .slice (some a0) 0 0) (hx : a.eval x = .slice A m c) (hl : Sl w (.slice A m c) size m news) (hA : A = none → c = 0)
    (h63 : m ≤ 9223372036854775807) (hbytes : m * bytes ≤ 140737488355328)
    (h : ∀ ad cap w', Sl w' (.slice ad m cap) size m news → (m = 0 ∨ ∃ g, ad = some ⟨g, 0, none⟩ ∧ w.heap.size ≤ g) → Below w.heap.size w w' → K (a.put o.dst (.slice ad m cap)) w') :
    if Region.wanted o (yielded ops a.tmps) = true then Oper.wp P o a w K Q else E := by
  have hw : Region.wanted o (yielded ops a.tmps) = true := by simp [Region.wanted, hgd]
  rw [if_pos hw]
  obtain ⟨ad, cap, w', hr, h2, h4, h3⟩ := run_append_empty (P := P) (w := w) t o.type e i z size bytes ht hi hz hsize hby hsz a0 A m c news hl hA h63 hbytes
  unfold Oper.wp execOp
  simp only [ho, resolve, invoke, builtin, Sem.run_bind, Sem.run_pure, Result.andThen_ok, List.map_toArray, List.map_cons, List.map_nil, hs, hx, hr]
  exact h ad cap w' h2 h4 ((Below.refl _ _).grown h3 (Nat.le_refl _) (by simp))
theorem Sl.stored {w : World} {ad : Option Addr} {m cap size B : Nat} {cs : List Value} (h : Sl w (.slice ad m cap) size m cs) (hg : m = 0 ∨ ∃ g, ad = some ⟨g, 0, none⟩ ∧ B < g) (x y : Value) :
    Sl ((w.setCell ⟨B, 0, none⟩ x).setCell ⟨B, 1, none⟩ y) (.slice ad m cap) size m cs := by
  rcases hg with rfl | ⟨g, rfl, hB⟩
  · obtain ⟨_, _, _, h1, h2, _⟩ := h
    have : cs = [] := List.eq_nil_of_length_eq_zero (by simpa using h2)
    subst this
    exact Sl.empty _ _ _ _
  · refine h.kept fun k hk _ => ?_
    obtain rfl : g = k := by simpa [Value.ownBlock] using hk
    exact (Below.heap_setCell _ _ _ _ (by simp; omega)).trans (Below.heap_setCell _ _ _ _ (by simp; omega))
theorem wpList_append_empty {P : Program} {w : World} {ops : Array Oper} {rest : List Oper} {o : Oper} {a : Act} {Q : Exit → Act → World → Prop} (hgd : o.guard = none) (s x : Operand) (t : TypeId)
    (ho : o.op = .call { callee := .builtin .append, args := #[s, x], argTypes := #[t, t] }) (e : TypeId) (i : TypeInfo) (z : Value) (size bytes : Nat) (ht : P.underlying t = some (.slice e)) (hi : P.info? e = some i) (hz : i.zero = some z)
    (hsize : i.size = size) (hby : i.bytes = bytes) (hsz : 0 < size) (a0 : Addr) (A : Option Addr) (m c : Nat) (news : List Value) (hs : a.eval s = .slice (some a0) 0 0) (hx : a.eval x = .slice A m c) (hl : Sl w (.slice A m c) size m news) (hA : A = none → c = 0)
    (h63 : m ≤ 9223372036854775807) (hbytes : m * bytes ≤ 140737488355328)
    (h : ∀ ad cap w', Sl w' (.slice ad m cap) size m news → (m = 0 ∨ ∃ g, ad = some ⟨g, 0, none⟩ ∧ w.heap.size ≤ g) → Below w.heap.size w w' → wpList P ops Q rest (a.put o.dst (.slice ad m cap)) w') :
    wpList P ops Q (o :: rest) a w := by
  refine wpList_plain hgd fun K hK => ?_
  obtain ⟨ad, cap, w', hr, h2, h4, h3⟩ := run_append_empty (P := P) (w := w) t o.type e i z size bytes ht hi hz hsize hby hsz a0 A m c news hl hA h63 hbytes
  unfold Oper.wp execOp
  simp only [ho, resolve, invoke, builtin, Sem.run_bind, Sem.run_pure, Result.andThen_ok, List.map_toArray, List.map_cons, List.map_nil, hs, hx, hr]
  exact hK _ _ (h ad cap w' h2 h4 ((Below.refl _ _).grown h3 (Nat.le_refl _) (by simp)))
end Go.Proofs.YtofbngpckllkoacGreat

namespace Go.Proofs.YtofbngpckllkoacGreat
open Go.RowKit

structure Sh where
  nm : ByteArray
  fr : Int
  ra : ByteArray
  ex : ByteArray
def Sh.cells (f : Sh) : List Value := [.string f.nm, .int .i64 f.fr, .string f.ra, .string f.ex]
def Sh.small (f : Sh) : Prop := f.nm.size ≤ 1100000 ∧ f.ra.size ≤ 1100000 ∧ f.ex.size ≤ 1100000
def Sh.fits (f : Sh) : Prop := (Lit.int .i64 f.fr).wf = true
theorem sh_oneCell (f : Sh) : ∀ u ∈ f.cells, u.oneCell' = true := by
  intro u hu
  simp [Sh.cells] at hu
  rcases hu with rfl | rfl | rfl | rfl <;> rfl
theorem Rd.sh {w : World} {ad : Option Addr} {l : List Sh} (h : Rd Sh.cells 4 w ad l) {j : Nat} {f : Sh} (hj : l[j]? = some f) :
    ∃ b off, ad = some ⟨b, off, none⟩ ∧ w.cell? ⟨b, off + j * 4, none⟩ = some (.string f.nm) ∧ w.cell? ⟨b, off + j * 4 + 1, none⟩ = some (.int .i64 f.fr) ∧ w.cell? ⟨b, off + j * 4 + 2, none⟩ = some (.string f.ra) ∧ w.cell? ⟨b, off + j * 4 + 3, none⟩ = some (.string f.ex) := by
  obtain ⟨b, off, rfl, h3⟩ := h j f hj
  exact ⟨b, off, rfl, h3 0 _ rfl, h3 1 _ rfl, h3 2 _ rfl, h3 3 _ rfl⟩
theorem ul_shifts : Tryz.prog.underlying 22 = some (.slice 50) := by kernel_rfl
theorem info_shift : (Tryz.prog.info? 50).map (fun i => (i.zero, i.size, i.bytes)) = some (some (.agg #[.string ⟨#[]⟩, .int .i64 0, .string ⟨#[]⟩, .string ⟨#[]⟩]), 4, 56) := by kernel_rfl

def shGreat (f : Sh) : Bool := decide (1000 < f.nm.size ∨ 1000 < f.ra.size ∨ 1000 < f.ex.size)
def scnGreat (l : List Sh) : Bool := decide (110 < l.length) || l.any shGreat

set_option maxHeartbeats 2000000 in
set_option maxRecDepth 100000 in
theorem scnGreat_any (l : List Sh) (ad : Option Addr) (cap : Nat) (w : World) (_hn : l.length ≤ 1100000) (hr : Rd Sh.cells 4 w ad l) (hs : ∀ f ∈ l, f.small) :
    Calls Tryz.prog 4 #[.agg #[.slice ad l.length cap]] w fun e w' => e = .returned (.bool (scnGreat l)) ∧ Below w.heap.size w w' := by
  have HR := Lib.hid hr
  have HS := Lib.hid hs
  clear hr hs
  have hb0 := below_a1 w (.cells #[.slice ad l.length cap] 24)
  by_cases h1 : 110 < l.length
  · have HE : Hid (scnGreat l = true) := by show _ = _; rw [scnGreat, decide_eq_true h1]; rfl
    have t1 : decide ((110 : Int) < (l.length : Int)) = true := by rw [decide_eq_true_eq]; omega
    clear h1
    go_enter Tryz.func4, Tryz.ntmps4
    go_wp2
    go_ret
    exact ⟨ret_bool' HE.out.symm, hb0⟩
  · have t1 : decide ((110 : Int) < (l.length : Int)) = false := by rw [decide_eq_false_iff_not]; omega
    have HL : Hid (scnGreat l = l.any shGreat) := by show _ = _; rw [scnGreat, decide_eq_false h1]; rfl
    go_enter Tryz.func4, Tryz.ntmps4
    go_wp2_with fail
    go_loopw [3] (fun i wr => ∃ k : Nat, k ≤ l.length ∧ i = .int .i64 k ∧ Hid (∀ y ∈ l.take k, shGreat y = false) ∧ Below w.heap.size w wr ∧ wr.cell? ⟨w.heap.size, 0, none⟩ = some (.slice ad l.length cap)) (fun i _ => l.length - (intOf i).toNat)
    case atStart => exact ⟨0, Nat.zero_le _, rfl, Lib.hid (by simp), hb0, by go_simp⟩
    case round =>
      clear hb0
      obtain ⟨k, hk, rfl, Hall, hbel, q0⟩ := hrel
      by_cases hlt : k < l.length
      · obtain ⟨f, hf⟩ : ∃ f, l[k]? = some f := ⟨_, List.getElem?_eq_getElem hlt⟩
        obtain ⟨b, off, rfl, c0, c1, c2, c3⟩ := (HR.out.below hbel).sh hf
        obtain ⟨s1, s2, s3⟩ := HS.out f (List.mem_of_getElem? hf)
        have HF := Lib.hid hf
        clear hf
        have hsz := hbel.size
        have hblk : b < wr.heap.size := World.block_lt_of_cell? wr _ c0
        have hbx : w.heap.size < wr.heap.size := World.block_lt_of_cell? wr _ q0
        have hk1 : (0 : Int) ≤ (k : Int) := by omega
        have hk2 : (k : Int) < (l.length : Int) := by omega
        have hb1 := hbel.alloc hsz (.cells #[.string f.nm, .int .i64 f.fr, .string f.ra, .string f.ex] 50)
        have HB1 := Lib.hid hb1
        clear hb1
        have HG : Hid (∀ c1 c2 c3, decide ((1000 : Int) < (f.nm.size : Int)) = c1 → decide ((1000 : Int) < (f.ra.size : Int)) = c2 → decide ((1000 : Int) < (f.ex.size : Int)) = c3 → shGreat f = (c1 || (c2 || c3))) := by
          rintro c1 c2 c3 rfl rfl rfl
          rw [shGreat, Bool.eq_iff_iff]
          simp only [Bool.or_eq_true, decide_eq_true_eq]
          omega
        obtain ⟨x1, h1⟩ : ∃ c, decide ((1000 : Int) < (f.nm.size : Int)) = c := ⟨_, rfl⟩
        obtain ⟨x2, h2⟩ : ∃ c, decide ((1000 : Int) < (f.ra.size : Int)) = c := ⟨_, rfl⟩
        obtain ⟨x3, h3⟩ : ∃ c, decide ((1000 : Int) < (f.ex.size : Int)) = c := ⟨_, rfl⟩
        have HX := Lib.hid (HG.out x1 x2 x3 h1 h2 h3)
        clear HG
        cases x1
        · cases x2
          · cases x3
            · have Hall2 : Hid (∀ y ∈ l.take (k + 1), shGreat y = false) := all_take_succ HF.out HX.out Hall.out
              clear HX
              go_wp2
              go_roundw
              case rel => exact ⟨k + 1, by omega, by go_num, Hall2, HB1.out, by first | assumption | go_simp⟩
              case measure => simp [intOf]; omega
            all_goals
              have HE : Hid (scnGreat l = true) := by show _ = _; rw [HL.out, List.any_eq_true]; exact ⟨f, List.mem_of_getElem? HF.out, HX.out⟩
              clear HX
              go_wp2
              go_ret
              exact ⟨ret_bool' HE.out.symm, HB1.out⟩
          · have HE : Hid (scnGreat l = true) := by show _ = _; rw [HL.out, List.any_eq_true]; exact ⟨f, List.mem_of_getElem? HF.out, HX.out⟩
            clear HX
            go_wp2
            go_ret
            exact ⟨ret_bool' HE.out.symm, HB1.out⟩
        · have HE : Hid (scnGreat l = true) := by show _ = _; rw [HL.out, List.any_eq_true]; exact ⟨f, List.mem_of_getElem? HF.out, HX.out⟩
          clear HX
          go_wp2
          go_ret
          exact ⟨ret_bool' HE.out.symm, HB1.out⟩
      · obtain rfl : k = l.length := by omega
        have HE : Hid (scnGreat l = false) := by
          show _ = _
          rw [HL.out, List.any_eq_false]
          intro y hy
          have := Hall.out y (by rw [List.take_of_length_le (Nat.le_refl _)]; exact hy)
          rw [this]; simp
        go_wp2
        go_ret
        exact ⟨ret_bool' HE.out.symm, hbel⟩

/-- A shift equals itself, as the program compares. -/
theorem eqv_sh (f : Sh) (w : World) : (Op.equalIn 10000 50 (.agg #[.string f.nm, .int .i64 f.fr, .string f.ra, .string f.ex]) (.agg #[.string f.nm, .int .i64 f.fr, .string f.ra, .string f.ex])).run Tryz.prog w = .ok true w := by
  have hS : Tryz.prog.underlying 50 = some (.struct (Tryz.prog.fieldsOf 50)) := by kernel_rfl
  have hp : Tryz.prog.stoodInHeld 50 = false := by kernel_rfl
  rw [show (10000 : Nat) = 9999 + 1 from rfl, run_equalIn_agg w 9999 _ _ _ hS hp]
  simp only [Program.fieldsOf, Tryz.underlying50]
  go_simp

set_option maxHeartbeats 1000000 in
set_option maxRecDepth 100000 in
theorem sameSh_any (l : List Sh) (a b : Option Addr) (c d : Nat) (w : World) (_hn : l.length ≤ 1100000) (ha : Rd Sh.cells 4 w a l) (hb : Rd Sh.cells 4 w b l) :
    Calls Tryz.prog 12 #[.agg #[.slice a l.length c], .agg #[.slice b l.length d]] w fun e w' => e = .returned (.bool true) ∧ Below w.heap.size w w' := by
  have hb0 := below_a2 w (.cells #[.slice a l.length c] 24) (.cells #[.slice b l.length d] 24)
  have HA := Lib.hid (ha.below hb0)
  have HB := Lib.hid (hb.below hb0)
  clear ha hb
  have t0 : ((l.length : Int) != (l.length : Int)) = false := by simp
  go_enter Tryz.func12, Tryz.ntmps12
  go_wp2_with fail
  obtain ⟨W0, hW0⟩ : ∃ W0, W0 = ((w.alloc (.cells #[.slice a l.length c] 24)).alloc (.cells #[.slice b l.length d] 24)) := ⟨_, rfl⟩
  have x0 : W0.cell? ⟨w.heap.size, 0, none⟩ = some (.slice a l.length c) := by rw [hW0]; go_simp
  have x1 : W0.cell? ⟨w.heap.size + 1, 0, none⟩ = some (.slice b l.length d) := by rw [hW0]; go_simp
  rw [← hW0] at hb0 HA HB ⊢
  clear hW0
  go_loopw [5] (fun i wr => ∃ (k nq : Nat), k ≤ l.length ∧ i = .int .i64 k ∧ wr = W0.drewN nq) (fun i _ => l.length - (intOf i).toNat)
  case atStart => exact ⟨0, 0, by omega, rfl, rfl⟩
  case round =>
    obtain ⟨k, mq, hk, rfl, rfl⟩ := hrel
    by_cases hlt : k < l.length
    · obtain ⟨f, hf⟩ : ∃ f, l[k]? = some f := ⟨_, List.getElem?_eq_getElem hlt⟩
      obtain ⟨b1, off, rfl, c0, c1, c2, c3⟩ := HA.out.sh hf
      obtain ⟨b2, off2, rfl, d0, d1, d2, d3⟩ := HB.out.sh hf
      have hq : ∀ W, (Op.equalIn 10000 50 (.agg #[.string f.nm, .int .i64 f.fr, .string f.ra, .string f.ex]) (.agg #[.string f.nm, .int .i64 f.fr, .string f.ra, .string f.ex])).run Tryz.prog W = .ok true W := fun W => eqv_sh f W
      have hk1 : (0 : Int) ≤ (k : Int) := by omega
      have hk2 : (k : Int) < (l.length : Int) := by omega
      clear hf
      go_wp2
      go_quiet (fail)
      go_wp2
      go_roundw
      case rel => exact ⟨k + 1, _, by omega, by go_num, rfl⟩
      case measure => simp [intOf]; omega
    · obtain rfl : k = l.length := by omega
      go_wp2
      go_ret
      exact ⟨rfl, below_drewN hb0 _⟩

/-- A clone: a row of its own, or nil. -/
def ClonePost {α : Type} (enc : α → List Value) (E : TypeId) (m : Nat) (w : World) (l : List α) (e : Ending) (w' : World) : Prop := ∃ ad cap, e = .returned (.slice ad l.length cap) ∧ w'.ownsRow w.heap.size E m (.slice ad l.length cap) l.length (l.flatMap enc) ∧ Below w.heap.size w w'
theorem flat_oneCell {α : Type} (enc : α → List Value) (h : ∀ x, ∀ u ∈ enc x, u.oneCell' = true) (l : List α) : ∀ u ∈ l.flatMap enc, u.oneCell' = true := by
  intro u hu
  obtain ⟨x, _, hx⟩ := List.mem_flatMap.1 hu
  exact h x u hx
theorem Below.cellq {w W : World} (h : Below w.heap.size w W) {a : Addr} {v : Value} (hc : w.cell? a = some v) : W.cell? a = some v := by
  have hb := h.block a.block (World.block_lt_of_cell? w a hc)
  have e : W.cell? a = w.cell? a := by simp only [World.cell?, hb]
  exact e.trans hc

set_option maxHeartbeats 1000000 in
set_option maxRecDepth 100000 in
theorem cloneFx_any (l : List Fx) (A : Option Addr) (c : Nat) (w : World) (hn : l.length ≤ 1100000) (hs : Sl w (.slice A l.length c) 3 l.length (l.flatMap Fx.cells)) (hA : A = none → c = 0) :
    Calls Tryz.prog 16 #[.slice A l.length c] w (ClonePost Fx.cells 46 3 w l) := by
  have qn : ∀ (w : World) (a : Option Addr) (n c n' c' : Nat), (binOp .eql 25 (.slice a n c) (.slice none n' c')).run Tryz.prog w = .ok (.bool a.isNone) w := fun w a n c n' c' => Lib.run_eql_slice_nil w _ _ a n c n' c' ul_fixings
  cases A with
  | none =>
    obtain rfl := hA rfl
    obtain rfl : l = [] := by
      obtain ⟨ad, cap, he, h1, h2, h3⟩ := hs
      obtain ⟨_, _, rfl⟩ := Value.slice.inj he
      exact List.length_eq_zero_iff.1 (by omega)
    clear hs hA hn
    go_enter Tryz.func16, Tryz.ntmps16
    go_wp2
    go_ret
    exact ⟨none, 0, rfl, World.ownsRow_nil _ _ _ _, Below.refl _ _⟩
  | some ad =>
    obtain ⟨i0, hi, hz0, hz1, hz2⟩ := info_parts info_fixing
    have hnews : ∀ j u, (l.flatMap Fx.cells)[j]? = some u → w.cell? (ad.add j) = some u := by
      intro j u hj
      obtain ⟨ad', cap', he, h1, h2, h3⟩ := hs
      obtain ⟨rfl, _, _⟩ := Value.slice.inj he
      rcases h3 with h3 | ⟨b, off, e, h3⟩
      · exfalso
        have := (List.getElem?_eq_some_iff.1 hj).1
        rw [flat_length Fx.cells 3 (fun _ => rfl)] at this
        omega
      · obtain rfl := Option.some.inj e
        have h := h3 j u hj
        by_cases h0 : j = 0
        · subst h0; simpa [Addr.add] using h
        · simpa [Addr.add, h0] using h
    have Hnews := Lib.hid hnews
    have hb0 := below_a1 w (.cells #[] 46)
    have h0 : (w.alloc (.cells #[] 46)).ownsRow w.heap.size 46 3 (.slice (some ⟨w.heap.size, 0, none⟩) 0 0) 0 [] :=
      ⟨rfl, .inr ⟨w.heap.size, 0, #[], rfl, Nat.le_refl _, heap_alloc_new w _, Nat.le_refl _, by unfold maxLen; omega, rfl, rfl⟩⟩
    clear hs hA hnews
    go_enter Tryz.func16, Tryz.ntmps16
    go_wp2_with (at_builtin; refine wpList_append_own _ rfl _ _ 25 rfl w.heap.size 46 i0 (.agg #[.string ⟨#[]⟩, .int .i64 0, .string ⟨#[]⟩]) 3 40 ul_fixings hi hz0 hz1 hz2 rfl (by decide) _ _ _ rfl h0 ad l.length c (l.flatMap Fx.cells) rfl (flat_length Fx.cells 3 (fun _ => rfl) l) (fun j u hj => Below.cellq hb0 (Hnews.out j u hj)) (flat_oneCell Fx.cells fx_oneCell l) ?d1 ?d2 ?d3 ?_)
    case d1 => unfold maxLen; omega
    case d2 => omega
    case d3 => simp
    intro v2 w2 hown2 hgrow2 _
    have hbel2 : Below w.heap.size w w2 := hb0.grown hgrow2 (by simp) (fun k hk => by simp [Value.ownBlock] at hk; omega)
    obtain ⟨ad3, cap3, rfl, _⟩ := Sl.of_owns hown2
    have HF : Hid (ClonePost Fx.cells 46 3 w l (.returned (.slice ad3 l.length cap3)) w2) := ⟨ad3, cap3, rfl, hown2, hbel2⟩
    clear hgrow2 hown2 hbel2 hb0 h0
    go_wp2
    go_ret
    exact HF.out

set_option maxHeartbeats 1000000 in
set_option maxRecDepth 100000 in
theorem cloneCh_any (l : List Ch) (A : Option Addr) (c : Nat) (w : World) (hn : l.length ≤ 1100000) (hs : Sl w (.slice A l.length c) 4 l.length (l.flatMap Ch.cells)) (hA : A = none → c = 0) :
    Calls Tryz.prog 17 #[.slice A l.length c] w (ClonePost Ch.cells 48 4 w l) := by
  have qn : ∀ (w : World) (a : Option Addr) (n c n' c' : Nat), (binOp .eql 26 (.slice a n c) (.slice none n' c')).run Tryz.prog w = .ok (.bool a.isNone) w := fun w a n c n' c' => Lib.run_eql_slice_nil w _ _ a n c n' c' ul_choices
  cases A with
  | none =>
    obtain rfl := hA rfl
    obtain rfl : l = [] := by
      obtain ⟨ad, cap, he, h1, h2, h3⟩ := hs
      obtain ⟨_, _, rfl⟩ := Value.slice.inj he
      exact List.length_eq_zero_iff.1 (by omega)
    clear hs hA hn
    go_enter Tryz.func17, Tryz.ntmps17
    go_wp2
    go_ret
    exact ⟨none, 0, rfl, World.ownsRow_nil _ _ _ _, Below.refl _ _⟩
  | some ad =>
    obtain ⟨i0, hi, hz0, hz1, hz2⟩ := info_parts info_choice
    have hnews : ∀ j u, (l.flatMap Ch.cells)[j]? = some u → w.cell? (ad.add j) = some u := by
      intro j u hj
      obtain ⟨ad', cap', he, h1, h2, h3⟩ := hs
      obtain ⟨rfl, _, _⟩ := Value.slice.inj he
      rcases h3 with h3 | ⟨b, off, e, h3⟩
      · exfalso
        have := (List.getElem?_eq_some_iff.1 hj).1
        rw [flat_length Ch.cells 4 (fun _ => rfl)] at this
        omega
      · obtain rfl := Option.some.inj e
        have h := h3 j u hj
        by_cases h0 : j = 0
        · subst h0; simpa [Addr.add] using h
        · simpa [Addr.add, h0] using h
    have Hnews := Lib.hid hnews
    have hb0 := below_a1 w (.cells #[] 48)
    have h0 : (w.alloc (.cells #[] 48)).ownsRow w.heap.size 48 4 (.slice (some ⟨w.heap.size, 0, none⟩) 0 0) 0 [] :=
      ⟨rfl, .inr ⟨w.heap.size, 0, #[], rfl, Nat.le_refl _, heap_alloc_new w _, Nat.le_refl _, by unfold maxLen; omega, rfl, rfl⟩⟩
    clear hs hA hnews
    go_enter Tryz.func17, Tryz.ntmps17
    go_wp2_with (at_builtin; refine wpList_append_own _ rfl _ _ 26 rfl w.heap.size 48 i0 (.agg #[.string ⟨#[]⟩, .string ⟨#[]⟩, .int .i64 0, .bool false]) 4 48 ul_choices hi hz0 hz1 hz2 rfl (by decide) _ _ _ rfl h0 ad l.length c (l.flatMap Ch.cells) rfl (flat_length Ch.cells 4 (fun _ => rfl) l) (fun j u hj => Below.cellq hb0 (Hnews.out j u hj)) (flat_oneCell Ch.cells ch_oneCell l) ?d1 ?d2 ?d3 ?_)
    case d1 => unfold maxLen; omega
    case d2 => omega
    case d3 => simp
    intro v2 w2 hown2 hgrow2 _
    have hbel2 : Below w.heap.size w w2 := hb0.grown hgrow2 (by simp) (fun k hk => by simp [Value.ownBlock] at hk; omega)
    obtain ⟨ad3, cap3, rfl, _⟩ := Sl.of_owns hown2
    have HF : Hid (ClonePost Ch.cells 48 4 w l (.returned (.slice ad3 l.length cap3)) w2) := ⟨ad3, cap3, rfl, hown2, hbel2⟩
    clear hgrow2 hown2 hbel2 hb0 h0
    go_wp2
    go_ret
    exact HF.out

set_option maxHeartbeats 1000000 in
set_option maxRecDepth 100000 in
theorem cloneSh_any (l : List Sh) (A : Option Addr) (c : Nat) (w : World) (hn : l.length ≤ 1100000) (hs : Sl w (.slice A l.length c) 4 l.length (l.flatMap Sh.cells)) (hA : A = none → c = 0) :
    Calls Tryz.prog 22 #[.slice A l.length c] w (ClonePost Sh.cells 50 4 w l) := by
  have qn : ∀ (w : World) (a : Option Addr) (n c n' c' : Nat), (binOp .eql 22 (.slice a n c) (.slice none n' c')).run Tryz.prog w = .ok (.bool a.isNone) w := fun w a n c n' c' => Lib.run_eql_slice_nil w _ _ a n c n' c' ul_shifts
  cases A with
  | none =>
    obtain rfl := hA rfl
    obtain rfl : l = [] := by
      obtain ⟨ad, cap, he, h1, h2, h3⟩ := hs
      obtain ⟨_, _, rfl⟩ := Value.slice.inj he
      exact List.length_eq_zero_iff.1 (by omega)
    clear hs hA hn
    go_enter Tryz.func22, Tryz.ntmps22
    go_wp2
    go_ret
    exact ⟨none, 0, rfl, World.ownsRow_nil _ _ _ _, Below.refl _ _⟩
  | some ad =>
    obtain ⟨i0, hi, hz0, hz1, hz2⟩ := info_parts info_shift
    have hnews : ∀ j u, (l.flatMap Sh.cells)[j]? = some u → w.cell? (ad.add j) = some u := by
      intro j u hj
      obtain ⟨ad', cap', he, h1, h2, h3⟩ := hs
      obtain ⟨rfl, _, _⟩ := Value.slice.inj he
      rcases h3 with h3 | ⟨b, off, e, h3⟩
      · exfalso
        have := (List.getElem?_eq_some_iff.1 hj).1
        rw [flat_length Sh.cells 4 (fun _ => rfl)] at this
        omega
      · obtain rfl := Option.some.inj e
        have h := h3 j u hj
        by_cases h0 : j = 0
        · subst h0; simpa [Addr.add] using h
        · simpa [Addr.add, h0] using h
    have Hnews := Lib.hid hnews
    have hb0 := below_a1 w (.cells #[] 50)
    have h0 : (w.alloc (.cells #[] 50)).ownsRow w.heap.size 50 4 (.slice (some ⟨w.heap.size, 0, none⟩) 0 0) 0 [] :=
      ⟨rfl, .inr ⟨w.heap.size, 0, #[], rfl, Nat.le_refl _, heap_alloc_new w _, Nat.le_refl _, by unfold maxLen; omega, rfl, rfl⟩⟩
    clear hs hA hnews
    go_enter Tryz.func22, Tryz.ntmps22
    go_wp2_with (at_builtin; refine wpList_append_own _ rfl _ _ 22 rfl w.heap.size 50 i0 (.agg #[.string ⟨#[]⟩, .int .i64 0, .string ⟨#[]⟩, .string ⟨#[]⟩]) 4 56 ul_shifts hi hz0 hz1 hz2 rfl (by decide) _ _ _ rfl h0 ad l.length c (l.flatMap Sh.cells) rfl (flat_length Sh.cells 4 (fun _ => rfl) l) (fun j u hj => Below.cellq hb0 (Hnews.out j u hj)) (flat_oneCell Sh.cells sh_oneCell l) ?d1 ?d2 ?d3 ?_)
    case d1 => unfold maxLen; omega
    case d2 => omega
    case d3 => simp
    intro v2 w2 hown2 hgrow2 _
    have hbel2 : Below w.heap.size w w2 := hb0.grown hgrow2 (by simp) (fun k hk => by simp [Value.ownBlock] at hk; omega)
    obtain ⟨ad3, cap3, rfl, _⟩ := Sl.of_owns hown2
    have HF : Hid (ClonePost Sh.cells 50 4 w l (.returned (.slice ad3 l.length cap3)) w2) := ⟨ad3, cap3, rfl, hown2, hbel2⟩
    clear hgrow2 hown2 hbel2 hb0 h0
    go_wp2
    go_ret
    exact HF.out
end Go.Proofs.YtofbngpckllkoacGreat
