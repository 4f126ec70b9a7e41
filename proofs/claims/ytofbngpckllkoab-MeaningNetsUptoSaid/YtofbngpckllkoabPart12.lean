/-
  The chain of steps of a sum of rationals.  Printed by tools/genratops.py. What a party nets.  Printed by tools/gennet.py. rational.Add.  Printed by tools/genratops.py. rational.Sub.  Printed by tools/genratops.py. meaning.Net.  Printed by tools/gennet.py.
-/
import Derived.Test.YtofbngpckllkoabPart09
import Derived.Test.YtofbngpckllkoabPart11
import Derived.Test.YtofbngpckllkoabPart08
import Derived.Test.YtofbngpckllkoabPart03
namespace Go.Proofs.Ytofbngpckllkoab
open Go.RowKit

/-- What one step of a chain of integer operations does. -/
def StepR (a b : List UInt8) (z er : Int) (t : List UInt8) (er' : Int) : Prop :=
  (er ≠ 0 ∧ t = [] ∧ er' = er) ∨ (er = 0 ∧ pairErr a b ≠ 0 ∧ t = [] ∧ er' = pairErr a b) ∨ (er = 0 ∧ pairErr a b = 0 ∧ er' = zErr z ∧ t = zStr z)
theorem zStr_len (z : Int) : (zStr z).length ≤ 1002 := by
  rw [zStr, wStr]
  split
  · simp
  · rename_i h
    by_cases h0 : z.natAbs = 0
    · rw [h0]; simp [istr]
    · rw [istr_ne _ h0]
      split <;> simp [asc] <;> omega
theorem StepR.len {a b t : List UInt8} {z er er' : Int} (h : StepR a b z er t er') : t.length ≤ 1002 := by
  rcases h with ⟨_, rfl, _⟩ | ⟨_, _, rfl, _⟩ | ⟨_, _, _, rfl⟩
  · simp
  · simp
  · exact zStr_len z
theorem StepR.zero {a b t : List UInt8} {z er er' : Int} (h : StepR a b z er t er') (h0 : er' = 0) : er = 0 ∧ zErr z = 0 ∧ t = istr (decide (z < 0)) z.natAbs := by
  rcases h with ⟨h1, _, h2⟩ | ⟨_, h1, _, h2⟩ | ⟨h1, _, h2, rfl⟩
  · exact absurd (h2.symm.trans h0) h1
  · exact absurd (h2.symm.trans h0) h1
  · have h3 : zErr z = 0 := h2.symm.trans h0
    refine ⟨h1, h3, ?_⟩
    rcases wErr_cases z.natAbs with ⟨_, k⟩ | ⟨k, _⟩
    · exact k _
    · rw [zErr, k] at h3; cases h3
theorem opPost_step {w w' : World} {a b : List UInt8} {z : Int} {e : Ending} (h : OpPost w a b z e w') : ∃ t er, e = .returned (.tuple #[.string t, .int .i64 er]) ∧ StepR a b z 0 (bl t) er ∧ Below w.heap.size w w' := by
  unfold OpPost at h
  split at h
  · rename_i h0
    obtain ⟨t, rfl, ht, hb⟩ := h
    exact ⟨t, _, rfl, .inr (.inr ⟨rfl, h0, rfl, ht⟩), hb⟩
  · rename_i h0
    obtain ⟨rfl, hb⟩ := h
    exact ⟨_, _, rfl, .inr (.inl ⟨rfl, h0, rfl, rfl⟩), hb⟩

/-- The worlds in which a chain runs. -/
structure PSt (w W : World) (P Bm Ba fm fa : Nat) (n0 n1 d0 d1 : ByteArray) (er : Int) : Prop where
  p : Pair5 W P n0 n1 d0 d1 er
  m : Cap W P Bm fm
  k : Cap W P Ba fa
  b : Below w.heap.size w W
  hP : w.heap.size ≤ P
theorem PSt.step {w W W2 : World} {P Bm Ba fm fa : Nat} {n0 n1 d0 d1 : ByteArray} {er : Int} (h : PSt w W P Bm Ba fm fa n0 n1 d0 d1 er) (hb : Below W.heap.size W W2) (x : Int) : PSt w (W2.setCell ⟨P, 4, none⟩ (.int .i64 x)) P Bm Ba fm fa n0 n1 d0 d1 x :=
  ⟨(h.p.below hb).setE x, (h.m.below hb).setCell (h.m.ne h.p).1 (h.m.ne h.p).2 _, (h.k.below hb).setCell (h.k.ne h.p).1 (h.k.ne h.p).2 _, (h.b.trans (hb.mono h.b.size)).setCell h.hP _, h.hP⟩
theorem PSt.drew {w W : World} {P Bm Ba fm fa : Nat} {n0 n1 d0 d1 : ByteArray} {er : Int} (h : PSt w W P Bm Ba fm fa n0 n1 d0 d1 er) : PSt w W.drew P Bm Ba fm fa n0 n1 d0 d1 er :=
  ⟨h.p.of_block rfl, h.m, h.k, h.b.drew, h.hP⟩
theorem pst_mul {w W : World} {P Bm Ba fa : Nat} {n0 n1 d0 d1 : ByteArray} {er : Int} (h : PSt w W P Bm Ba 22 fa n0 n1 d0 d1 er) (a b : ByteArray) (ha : a.size ≤ 1100000) (hb : b.size ≤ 1100000) :
    Calls Try.prog 40 #[.string a, .string b, .pointer (some ⟨Bm, 0, none⟩), .pointer (some ⟨Bm + 1, 0, none⟩)] W fun e w' => ∃ t er', e = .returned (.string t) ∧ Hid (StepR (bl a) (bl b) (ival (bl a) * ival (bl b)) er (bl t) er') ∧ PSt w w' P Bm Ba 22 fa n0 n1 d0 d1 er' := by
  by_cases he : er = 0
  · subst he
    refine (keep1_mul a b P Bm n0 n1 d0 d1 W h.m h.p (fun t er => StepR (bl a) (bl b) (ival (bl a) * ival (bl b)) 0 (bl t) er) (Lib.hid fun W' => ?_)).mono ?_
    · refine (imul_any a b W' (by omega) (by omega)).mono fun e w' k => ?_
      obtain ⟨t, er, h1, h2, h3⟩ := opPost_step k
      exact ⟨t, er, h1, h2, h3⟩
    · rintro e w' ⟨t, er', w2, rfl, hq, hb2, rfl⟩
      exact ⟨t, er', rfl, hq, h.step hb2 er'⟩
  · refine (keep1_err a b P Bm 22 n0 n1 d0 d1 er W h.m h.p he).mono ?_
    rintro e w' ⟨rfl, rfl⟩
    exact ⟨_, er, rfl, .inl ⟨he, rfl, rfl⟩, h⟩
theorem pst_add {w W : World} {P Bm Ba fm : Nat} {n0 n1 d0 d1 : ByteArray} {er : Int} (h : PSt w W P Bm Ba fm 23 n0 n1 d0 d1 er) (a b : ByteArray) (ha : a.size ≤ 1100000) (hb : b.size ≤ 1100000) :
    Calls Try.prog 40 #[.string a, .string b, .pointer (some ⟨Ba, 0, none⟩), .pointer (some ⟨Ba + 1, 0, none⟩)] W fun e w' => ∃ t er', e = .returned (.string t) ∧ Hid (StepR (bl a) (bl b) (ival (bl a) + ival (bl b)) er (bl t) er') ∧ PSt w w' P Bm Ba fm 23 n0 n1 d0 d1 er' := by
  by_cases he : er = 0
  · subst he
    refine (keep1_add a b P Ba n0 n1 d0 d1 W h.k h.p (fun t er => StepR (bl a) (bl b) (ival (bl a) + ival (bl b)) 0 (bl t) er) (Lib.hid fun W' => ?_)).mono ?_
    · refine (iadd_any a b W' (by omega) (by omega)).mono fun e w' k => ?_
      obtain ⟨t, er, h1, h2, h3⟩ := opPost_step k
      exact ⟨t, er, h1, h2, h3⟩
    · rintro e w' ⟨t, er', w2, rfl, hq, hb2, rfl⟩
      exact ⟨t, er', rfl, hq, h.step hb2 er'⟩
  · refine (keep1_err a b P Ba 23 n0 n1 d0 d1 er W h.k h.p he).mono ?_
    rintro e w' ⟨rfl, rfl⟩
    exact ⟨_, er, rfl, .inl ⟨he, rfl, rfl⟩, h⟩
theorem pst_sub {w W : World} {P Bm Ba fm : Nat} {n0 n1 d0 d1 : ByteArray} {er : Int} (h : PSt w W P Bm Ba fm 25 n0 n1 d0 d1 er) (a b : ByteArray) (ha : a.size ≤ 1100000) (hb : b.size ≤ 1100000) :
    Calls Try.prog 40 #[.string a, .string b, .pointer (some ⟨Ba, 0, none⟩), .pointer (some ⟨Ba + 1, 0, none⟩)] W fun e w' => ∃ t er', e = .returned (.string t) ∧ Hid (StepR (bl a) (bl b) (ival (bl a) - ival (bl b)) er (bl t) er') ∧ PSt w w' P Bm Ba fm 25 n0 n1 d0 d1 er' := by
  by_cases he : er = 0
  · subst he
    refine (keep1_sub a b P Ba n0 n1 d0 d1 W h.k h.p (fun t er => StepR (bl a) (bl b) (ival (bl a) - ival (bl b)) 0 (bl t) er) (Lib.hid fun W' => ?_)).mono ?_
    · refine (isub_any a b W' (by omega) (by omega)).mono fun e w' k => ?_
      obtain ⟨t, er, h1, h2, h3⟩ := opPost_step k
      exact ⟨t, er, h1, h2, h3⟩
    · rintro e w' ⟨t, er', w2, rfl, hq, hb2, rfl⟩
      exact ⟨t, er', rfl, hq, h.step hb2 er'⟩
  · refine (keep1_err a b P Ba 25 n0 n1 d0 d1 er W h.k h.p he).mono ?_
    rintro e w' ⟨rfl, rfl⟩
    exact ⟨_, er, rfl, .inl ⟨he, rfl, rfl⟩, h⟩

def MadeR (x y : List UInt8) (er : Int) (s : List UInt8) (er2 : Int) : Prop := (er ≠ 0 ∧ s = [] ∧ er2 = er) ∨ (er = 0 ∧ er2 = 0 ∧ s = ratTxt (!(isNeg x == isNeg y)) (dval (body x)) (dval (body y)))
/-- What a chain with the sum z hands back. -/
def sumE (a b : ByteArray) (z : Int) : Int :=
  if bE a b ≠ 0 then bE a b
  else if zErr (ival (bl (pN a)) * ival (bl (pD b))) ≠ 0 ∨ zErr (ival (bl (pN b)) * ival (bl (pD a))) ≠ 0 ∨ zErr z ≠ 0 ∨ zErr (ival (bl (pD a)) * ival (bl (pD b))) ≠ 0 then 14 else 0
def sumS (a b : ByteArray) (z : Int) : List UInt8 := if sumE a b z = 0 then ratTxt (decide (z < 0)) z.natAbs (ival (bl (pD a)) * ival (bl (pD b))).natAbs else []
def RatPost2 (w : World) (l : List UInt8) (er : Int) (e : Ending) (w' : World) : Prop := ∃ t, e = .returned (.tuple #[.string t, .int .i64 er]) ∧ bl t = l ∧ Below w.heap.size w w'
theorem zErr_cases (z : Int) : zErr z = 0 ∨ zErr z = 14 := by
  rcases wErr_cases z.natAbs with ⟨h, _⟩ | ⟨h, _⟩
  · exact .inl h
  · exact .inr h
theorem bE_zero {a b : ByteArray} (h : bE a b = 0) : ratErr a = 0 ∧ ratErr b = 0 ∧ bN1 a b = pN b ∧ bD1 a b = pD b ∧ pN a = numS a ∧ pD a = denS a ∧ pN b = numS b ∧ pD b = denS b := by
  unfold bE at h
  by_cases h0 : ratErr a = 0
  · rw [if_pos h0] at h
    exact ⟨h0, h, by rw [bN1, if_pos h0], by rw [bD1, if_pos h0], by rw [pN, if_pos h0], by rw [pD, if_pos h0], by rw [pN, if_pos h], by rw [pD, if_pos h]⟩
  · rw [if_neg h0] at h; exact absurd h h0
theorem pairErr_ok {a b : List UInt8} (h0 : intErr a = 0) (h : intErr b = 0) : pairErr a b = 0 := by rw [pairErr_b h0]; exact h
theorem StepR.of_ok {a b t : List UInt8} {z er' : Int} (h : StepR a b z 0 t er') (hp : pairErr a b = 0) : er' = zErr z ∧ t = zStr z := by
  rcases h with ⟨h1, _, _⟩ | ⟨_, h1, _, _⟩ | ⟨_, _, h2, h3⟩
  · exact absurd rfl h1
  · exact absurd hp h1
  · exact ⟨h2, h3⟩
theorem StepR.of_err {a b t : List UInt8} {z er er' : Int} (h : StepR a b z er t er') (he : er ≠ 0) : er' = er ∧ t = [] := by
  rcases h with ⟨_, h1, h2⟩ | ⟨h1, _⟩ | ⟨h1, _⟩
  · exact ⟨h2, h1⟩
  · exact absurd h1 he
  · exact absurd h1 he
theorem zStr_ok {z : Int} (h : zErr z = 0) : zStr z = istr (decide (z < 0)) z.natAbs ∧ intErr (zStr z) = 0 ∧ ival (zStr z) = z := by
  have e : zStr z = istr (decide (z < 0)) z.natAbs := by
    rcases wErr_cases z.natAbs with ⟨_, k⟩ | ⟨k, _⟩
    · exact k _
    · rw [zErr, k] at h; cases h
  refine ⟨e, by rw [e, intErr_istr]; exact h, ?_⟩
  rw [e, ival_istr]
  by_cases hz : z < 0
  · rw [decide_eq_true hz]; simp [sgnv]; omega
  · rw [decide_eq_false hz]; simp [sgnv]; omega
/-- The four steps of a sum. -/
structure Chain (a b : ByteArray) (op : Int → Int → Int) (t1 t2 t3 t4 : List UInt8) (e1 e2 e3 e4 : Int) : Prop where
  r1 : StepR (bl (pN a)) (bl (bD1 a b)) (ival (bl (pN a)) * ival (bl (bD1 a b))) (bE a b) t1 e1
  r2 : StepR (bl (bN1 a b)) (bl (pD a)) (ival (bl (bN1 a b)) * ival (bl (pD a))) e1 t2 e2
  r3 : StepR t1 t2 (op (ival t1) (ival t2)) e2 t3 e3
  r4 : StepR (bl (pD a)) (bl (bD1 a b)) (ival (bl (pD a)) * ival (bl (bD1 a b))) e3 t4 e4
theorem Chain.done {a b : ByteArray} {op : Int → Int → Int} {t1 t2 t3 t4 : List UInt8} {e1 e2 e3 e4 : Int} (h : Chain a b op t1 t2 t3 t4 e1 e2 e3 e4) :
    e4 = sumE a b (op (ival (bl (pN a)) * ival (bl (pD b))) (ival (bl (pN b)) * ival (bl (pD a)))) ∧
    (e4 = 0 → intErr t3 = 0 ∧ intErr t4 = 0 ∧ dval (body t4) ≠ 0 ∧ isNeg t4 = false ∧ ratTxt (!(isNeg t3 == isNeg t4)) (dval (body t3)) (dval (body t4)) = sumS a b (op (ival (bl (pN a)) * ival (bl (pD b))) (ival (bl (pN b)) * ival (bl (pD a))))) := by
  obtain ⟨r1, r2, r3, r4⟩ := h
  by_cases h0 : bE a b = 0
  · obtain ⟨ra, rb, eN, eD, ea, ea', eb, eb'⟩ := bE_zero h0
    rw [eN] at r2
    rw [eD] at r1 r4
    rw [h0] at r1
    obtain ⟨na, da, sa, za⟩ := rat_parts ra
    obtain ⟨nb, db, sb, zb⟩ := rat_parts rb
    rw [← ea] at na
    rw [← ea'] at da sa za
    rw [← eb] at nb
    rw [← eb'] at db sb zb
    obtain ⟨f1, g1⟩ := r1.of_ok (pairErr_ok na db)
    generalize hz1 : ival (bl (pN a)) * ival (bl (pD b)) = z1 at f1 g1 ⊢
    rcases zErr_cases z1 with k1 | k1
    · obtain ⟨_, i1, v1⟩ := zStr_ok k1
      rw [← g1] at i1 v1
      rw [f1, k1] at r2
      obtain ⟨f2, g2⟩ := r2.of_ok (pairErr_ok nb da)
      generalize hz2 : ival (bl (pN b)) * ival (bl (pD a)) = z2 at f2 g2 ⊢
      rcases zErr_cases z2 with k2 | k2
      · obtain ⟨_, i2, v2⟩ := zStr_ok k2
        rw [← g2] at i2 v2
        rw [f2, k2, v1, v2] at r3
        obtain ⟨f3, g3⟩ := r3.of_ok (pairErr_ok i1 i2)
        generalize op z1 z2 = z3 at f3 g3 ⊢
        rcases zErr_cases z3 with k3 | k3
        · obtain ⟨j3, i3, v3⟩ := zStr_ok k3
          rw [f3, k3] at r4
          obtain ⟨f4, g4⟩ := r4.of_ok (pairErr_ok da db)
          have hE : sumE a b z3 = zErr (ival (bl (pD a)) * ival (bl (pD b))) := by
            rw [sumE, if_neg (fun h => h h0), hz1, hz2]
            rcases zErr_cases (ival (bl (pD a)) * ival (bl (pD b))) with k4 | k4
            · rw [if_neg (by rintro (h | h | h | h) <;> exact h (by assumption)), k4]
            · rw [if_pos (.inr (.inr (.inr (by rw [k4]; decide)))), k4]
          refine ⟨f4.trans hE.symm, fun h4 => ?_⟩
          have k4 : zErr (ival (bl (pD a)) * ival (bl (pD b))) = 0 := f4.symm.trans h4
          obtain ⟨j4, i4, v4⟩ := zStr_ok k4
          have hpos : 0 < ival (bl (pD a)) * ival (bl (pD b)) := by
            rw [ival, ival, sa, sb]
            simp only [sgnv]
            have := Nat.mul_pos (Nat.pos_of_ne_zero za) (Nat.pos_of_ne_zero zb)
            simp only [Bool.false_eq_true, if_false]
            exact_mod_cast this
          have hne : (ival (bl (pD a)) * ival (bl (pD b))).natAbs ≠ 0 := by omega
          rw [g3, g4, sumS, hE, if_pos k4]
          rw [j3] at i3 ⊢
          rw [j4] at i4 ⊢
          rw [decide_eq_false (show ¬ ival (bl (pD a)) * ival (bl (pD b)) < 0 by omega)] at i4 ⊢
          rw [dval_istr, dval_istr, isNeg_istr, isNeg_istr]
          refine ⟨i3, i4, hne, by simp, ?_⟩
          by_cases hz3 : z3.natAbs = 0
          · have : z3 = 0 := by omega
            subst this
            simp
          · simp [hz3]
        · rw [f3, k3] at r4
          obtain ⟨f4, g4⟩ := r4.of_err (by decide)
          have hE : sumE a b z3 = 14 := by
            rw [sumE, if_neg (fun h => h h0), hz1, hz2, if_pos (.inr (.inr (.inl (by rw [k3]; decide))))]
          exact ⟨f4.trans hE.symm, fun h4 => by rw [f4] at h4; cases h4⟩
      · rw [f2, k2] at r3
        obtain ⟨f3, g3⟩ := r3.of_err (by decide)
        rw [f3] at r4
        obtain ⟨f4, g4⟩ := r4.of_err (by decide)
        have hE : sumE a b (op z1 z2) = 14 := by
          rw [sumE, if_neg (fun h => h h0), hz1, hz2, if_pos (.inr (.inl (by rw [k2]; decide)))]
        exact ⟨f4.trans hE.symm, fun h4 => by rw [f4] at h4; cases h4⟩
    · rw [f1, k1] at r2
      obtain ⟨f2, g2⟩ := r2.of_err (by decide)
      rw [f2] at r3
      obtain ⟨f3, g3⟩ := r3.of_err (by decide)
      rw [f3] at r4
      obtain ⟨f4, g4⟩ := r4.of_err (by decide)
      have hE : sumE a b (op z1 (ival (bl (pN b)) * ival (bl (pD a)))) = 14 := by
        rw [sumE, if_neg (fun h => h h0), hz1, if_pos (.inl (by rw [k1]; decide))]
      exact ⟨f4.trans hE.symm, fun h4 => by rw [f4] at h4; cases h4⟩
  · obtain ⟨f1, g1⟩ := r1.of_err h0
    rw [f1] at r2
    obtain ⟨f2, g2⟩ := r2.of_err h0
    rw [f2] at r3
    obtain ⟨f3, g3⟩ := r3.of_err h0
    rw [f3] at r4
    obtain ⟨f4, g4⟩ := r4.of_err h0
    exact ⟨by rw [f4, sumE, if_pos h0], fun h4 => absurd (f4.symm.trans h4) h0⟩
theorem part_sizes (a b : ByteArray) (ha : a.size ≤ 1000000) (hb : b.size ≤ 1000000) : (pN a).size ≤ 1100000 ∧ (bN1 a b).size ≤ 1100000 ∧ (pD a).size ≤ 1100000 ∧ (bD1 a b).size ≤ 1100000 := by
  have e : (⟨#[]⟩ : ByteArray).size = 0 := rfl
  have s1 := numS_size a
  have s2 := numS_size b
  have s3 := denS_size a
  have s4 := denS_size b
  have q1 : (pN a).size ≤ 1100000 := by unfold pN; split <;> omega
  have q2 : (pN b).size ≤ 1100000 := by unfold pN; split <;> omega
  have q3 : (pD a).size ≤ 1100000 := by unfold pD; split <;> omega
  have q4 : (pD b).size ≤ 1100000 := by unfold pD; split <;> omega
  refine ⟨q1, ?_, q3, ?_⟩
  · unfold bN1; split <;> omega
  · unfold bD1; split <;> omega
end Go.Proofs.Ytofbngpckllkoab

namespace Go.Proofs.Ytofbngpckllkoab
open Go.RowKit

def mkB (l : List UInt8) : ByteArray := ⟨l.toArray⟩
theorem bl_mkB (l : List UInt8) : bl (mkB l) = l := by simp [bl, mkB]
theorem mkB_bl {t : ByteArray} {l : List UInt8} (h : bl t = l) : t = mkB l := bl_inj (by rw [bl_mkB]; exact h)
def addZ (s am : ByteArray) : Int := ival (bl (pN s)) * ival (bl (pD am)) + ival (bl (pN am)) * ival (bl (pD s))
def subZ (s am : ByteArray) : Int := ival (bl (pN s)) * ival (bl (pD am)) - ival (bl (pN am)) * ival (bl (pD s))
def netStep (p c : ByteArray) (st : ByteArray × Int) (f : Fl) : ByteArray × Int :=
  if st.2 ≠ 0 then st else if f.cy ≠ c then st else if f.rc = p then (mkB (sumS st.1 f.am (addZ st.1 f.am)), sumE st.1 f.am (addZ st.1 f.am))
  else if f.fr = p then (mkB (sumS st.1 f.am (subZ st.1 f.am)), sumE st.1 f.am (subZ st.1 f.am)) else st
def netAcc (p c : ByteArray) (l : List Fl) (k : Nat) : ByteArray × Int := (l.take k).foldl (netStep p c) (⟨#[48]⟩, 0)
theorem netAcc_zero (p c : ByteArray) (l : List Fl) : netAcc p c l 0 = (⟨#[48]⟩, 0) := rfl
theorem netAcc_succ (p c : ByteArray) {l : List Fl} {k : Nat} {f : Fl} (h : l[k]? = some f) : netAcc p c l (k + 1) = netStep p c (netAcc p c l k) f := by
  rw [netAcc, take_snoc_get h, List.foldl_append]; rfl
theorem netFold_err (p c : ByteArray) (st : ByteArray × Int) (h : st.2 ≠ 0) : ∀ m : List Fl, m.foldl (netStep p c) st = st
  | [] => rfl
  | f :: m => by rw [List.foldl_cons, netStep, if_pos h]; exact netFold_err p c st h m
theorem netAcc_err {p c : ByteArray} {l : List Fl} {k : Nat} (h : (netAcc p c l k).2 ≠ 0) : netAcc p c l l.length = netAcc p c l k := by
  have e : l.take l.length = l.take k ++ l.drop k := by rw [List.take_of_length_le (Nat.le_refl _), List.take_append_drop]
  rw [netAcc, e, List.foldl_append]
  exact netFold_err p c _ h _
theorem ratTxt_len {sg : Bool} {N D : Nat} (hN : N < ten 1000) (hD : D < ten 1000) : (ratTxt sg N D).length ≤ 2010 := by
  have h1 : ∀ (g : Bool) (n : Nat), n < ten 1000 → (istr g n).length ≤ 1002 := fun g n h => by
    by_cases h0 : n = 0
    · subst h0; simp [istr]
    · rw [istr_ne g h0]
      have := dig10_ten h
      cases g <;> simp [asc] <;> omega
  have a := h1 sg (N / Nat.gcd N D) (Nat.lt_of_le_of_lt (Nat.div_le_self _ _) hN)
  have b := h1 false (D / Nat.gcd N D) (Nat.lt_of_le_of_lt (Nat.div_le_self _ _) hD)
  unfold ratTxt
  split
  · omega
  · simp only [List.length_append, List.length_singleton]; omega
theorem zErr_lt {z : Int} (h : zErr z = 0) : z.natAbs < ten 1000 := by
  rw [zErr, wErr] at h
  split at h
  · cases h
  · rename_i hl
    have h1 : z.natAbs < ten (dig10 z.natAbs).length := by
      have h2 := val_lt (dig10_nrm z.natAbs).1
      rw [dig10_val] at h2
      exact h2
    exact Nat.lt_of_lt_of_le h1 (ten_mono (by omega))
theorem sumS_len (a b : ByteArray) (z : Int) : (sumS a b z).length ≤ 2010 := by
  unfold sumS
  split
  · rename_i h
    unfold sumE at h
    split at h
    · rename_i h0; exact absurd h h0
    · split at h
      · cases h
      · rename_i h2
        have h3 : zErr z = 0 := by
          rcases Int.decEq (zErr z) 0 with k | k
          · exact absurd (.inr (.inr (.inl k))) h2
          · exact k
        have h4 : zErr (ival (bl (pD a)) * ival (bl (pD b))) = 0 := by
          rcases Int.decEq (zErr (ival (bl (pD a)) * ival (bl (pD b)))) 0 with k | k
          · exact absurd (.inr (.inr (.inr k))) h2
          · exact k
        exact ratTxt_len (zErr_lt h3) (zErr_lt h4)
  · simp
theorem mkB_size (l : List UInt8) : (mkB l).size = l.length := by rw [← bl_length, bl_mkB]
theorem netStep_size (p c : ByteArray) (st : ByteArray × Int) (f : Fl) (h : st.1.size ≤ 2010) : (netStep p c st f).1.size ≤ 2010 := by
  unfold netStep
  split
  · exact h
  · split
    · exact h
    · split
      · show (mkB _).size ≤ _; rw [mkB_size]; exact sumS_len _ _ _
      · split
        · show (mkB _).size ≤ _; rw [mkB_size]; exact sumS_len _ _ _
        · exact h
theorem netAcc_size (p c : ByteArray) (l : List Fl) : ∀ k, (netAcc p c l k).1.size ≤ 2010
  | 0 => by show 1 ≤ 2010; omega
  | k + 1 => by
    by_cases hk : k < l.length
    · rw [netAcc_succ p c (List.getElem?_eq_getElem hk)]
      exact netStep_size p c _ _ (netAcc_size p c l k)
    · have e : netAcc p c l (k + 1) = netAcc p c l k := by rw [netAcc, netAcc, List.take_of_length_le (by omega), List.take_of_length_le (by omega)]
      rw [e]; exact netAcc_size p c l k
noncomputable def netE (p c : ByteArray) (l : List Fl) : Int := if flowsErr l ≠ 0 then flowsErr l else if isNm (bl p) && isNm (bl c) then (netAcc p c l l.length).2 else 2
noncomputable def netS (p c : ByteArray) (l : List Fl) : ByteArray := if flowsErr l ≠ 0 then ⟨#[]⟩ else if isNm (bl p) && isNm (bl c) then (netAcc p c l l.length).1 else ⟨#[]⟩
theorem netE_bad {p c : ByteArray} {l : List Fl} (h : flowsErr l ≠ 0) : netE p c l = flowsErr l ∧ netS p c l = ⟨#[]⟩ := by rw [netE, netS, if_pos h, if_pos h]; exact ⟨rfl, rfl⟩
theorem netE_arg {p c : ByteArray} {l : List Fl} (h : flowsErr l = 0) (hn : (isNm (bl p) && isNm (bl c)) = false) : netE p c l = 2 ∧ netS p c l = ⟨#[]⟩ := by
  have h' : ¬ flowsErr l ≠ 0 := fun k => k h
  unfold netE netS
  rw [if_neg h', if_neg h', hn]; exact ⟨rfl, rfl⟩
theorem netE_ok {p c : ByteArray} {l : List Fl} (h : flowsErr l = 0) (hn : (isNm (bl p) && isNm (bl c)) = true) : netE p c l = (netAcc p c l l.length).2 ∧ netS p c l = (netAcc p c l l.length).1 := by
  have h' : ¬ flowsErr l ≠ 0 := fun k => k h
  unfold netE netS
  rw [if_neg h', if_neg h', hn]; exact ⟨rfl, rfl⟩
theorem sumS_err {a b : ByteArray} {z : Int} (h : sumE a b z ≠ 0) : sumS a b z = [] := by rw [sumS, if_neg h]
theorem okP_of_err {l : List Fl} (h : flowsErr l = 0) : okP l := by
  unfold flowsErr at h
  split at h
  · cases h
  · rcases Classical.em (okP l) with k | k
    · exact k
    · rw [eqB_false k] at h; cases h
end Go.Proofs.Ytofbngpckllkoab

namespace Go.Proofs.Ytofbngpckllkoab
open Go.RowKit

set_option maxHeartbeats 4000000 in
set_option maxRecDepth 100000 in
theorem ratadd_any (a b : ByteArray) (w : World) (ha : a.size ≤ 1000000) (hb : b.size ≤ 1000000) :
    Calls Try.prog 11 #[.string a, .string b] w (RatPost2 w (sumS a b ((ival (bl (pN a)) * ival (bl (pD b))) + (ival (bl (pN b)) * ival (bl (pD a))))) (sumE a b ((ival (bl (pN a)) * ival (bl (pD b))) + (ival (bl (pN b)) * ival (bl (pD a)))))) := by
  have HB := Lib.hid (both_ab a b w (by omega) (by omega))
  have Hs := Lib.hid (part_sizes a b ha hb)
  clear ha hb
  go_enter Try.func11, Try.ntmps11
  go_wp2_with fail
  refine HB.out.mono ?_
  rintro e w1 ⟨P, rfl, hP, hp, hb1⟩
  go_wp2_with fail
  refine (keepr_any P 22 w1).mono ?_
  rintro e w2 ⟨rfl, hm, hb2⟩
  go_wp2_with fail
  refine (keepr_any P 23 w2).mono ?_
  rintro e w3 ⟨rfl, hk, hb3⟩
  obtain ⟨Bm, hBm⟩ : ∃ B, B = w1.heap.size := ⟨_, rfl⟩
  obtain ⟨Ba, hBa⟩ : ∃ B, B = w2.heap.size := ⟨_, rfl⟩
  rw [← hBm] at hm ⊢
  rw [← hBa] at hk ⊢
  obtain ⟨n0, hn0⟩ : ∃ n, n = pN a := ⟨_, rfl⟩
  obtain ⟨n1, hn1⟩ : ∃ n, n = bN1 a b := ⟨_, rfl⟩
  obtain ⟨d0, hd0⟩ : ∃ n, n = pD a := ⟨_, rfl⟩
  obtain ⟨d1, hd1⟩ : ∃ n, n = bD1 a b := ⟨_, rfl⟩
  rw [← hn0, ← hn1, ← hd0, ← hd1] at hp Hs
  have HN := Lib.hid (And.intro hn0 (And.intro hn1 (And.intro hd0 hd1)))
  clear hn0 hn1 hd0 hd1
  obtain ⟨z0, z1, z2, z3⟩ := Hs.out
  have st0 : PSt w w3.drew P Bm Ba 22 23 n0 n1 d0 d1 (bE a b) := PSt.drew ⟨(hp.below hb2).below hb3, hm.below hb3, hk, (hb1.trans (hb2.mono hb1.size)).trans (hb3.mono (Nat.le_trans hb1.size hb2.size)), hP⟩
  have p := (hp.below hb2).below hb3
  obtain ⟨h0, h1, h2, h3, _⟩ := p.cells
  clear p hp hm hk hb1 hb2 hb3 hBm hBa hP HB Hs
  obtain ⟨e0, he0⟩ : ∃ e, e = bE a b := ⟨_, rfl⟩
  rw [← he0] at st0
  have HE0 := Lib.hid he0
  clear he0
  have HM : Hid (∀ W er x y, PSt w W P Bm Ba 22 23 n0 n1 d0 d1 er → x.size ≤ 1100000 → y.size ≤ 1100000 → Calls Try.prog 40 #[.string x, .string y, .pointer (some ⟨Bm, 0, none⟩), .pointer (some ⟨Bm + 1, 0, none⟩)] W fun e w' => ∃ t er', e = .returned (.string t) ∧ Hid (StepR (bl x) (bl y) (ival (bl x) * ival (bl y)) er (bl t) er') ∧ PSt w w' P Bm Ba 22 23 n0 n1 d0 d1 er' ∧ t.size ≤ 1100000 ∧ w'.cell? ⟨P, 0, none⟩ = some (.string n0) ∧ w'.cell? ⟨P, 1, none⟩ = some (.string n1) ∧ w'.cell? ⟨P, 2, none⟩ = some (.string d0) ∧ w'.cell? ⟨P, 3, none⟩ = some (.string d1)) := by
    intro W er x y hst hx hy
    refine (pst_mul hst x y hx hy).mono ?_
    rintro e w' ⟨t, er', rfl, hr, hst'⟩
    obtain ⟨c0, c1, c2, c3, _⟩ := hst'.p.cells
    exact ⟨t, er', rfl, hr, hst', by have := hr.out.len; rw [← bl_length]; omega, c0, c1, c2, c3⟩
  have HO : Hid (∀ W er x y, PSt w W P Bm Ba 22 23 n0 n1 d0 d1 er → x.size ≤ 1100000 → y.size ≤ 1100000 → Calls Try.prog 40 #[.string x, .string y, .pointer (some ⟨Ba, 0, none⟩), .pointer (some ⟨Ba + 1, 0, none⟩)] W fun e w' => ∃ t er', e = .returned (.string t) ∧ Hid (StepR (bl x) (bl y) (ival (bl x) + ival (bl y)) er (bl t) er') ∧ PSt w w' P Bm Ba 22 23 n0 n1 d0 d1 er' ∧ t.size ≤ 1100000 ∧ w'.cell? ⟨P, 0, none⟩ = some (.string n0) ∧ w'.cell? ⟨P, 1, none⟩ = some (.string n1) ∧ w'.cell? ⟨P, 2, none⟩ = some (.string d0) ∧ w'.cell? ⟨P, 3, none⟩ = some (.string d1)) := by
    intro W er x y hst hx hy
    refine (pst_add hst x y hx hy).mono ?_
    rintro e w' ⟨t, er', rfl, hr, hst'⟩
    obtain ⟨c0, c1, c2, c3, _⟩ := hst'.p.cells
    exact ⟨t, er', rfl, hr, hst', by have := hr.out.len; rw [← bl_length]; omega, c0, c1, c2, c3⟩
  have HD : Hid (∀ W er x y, PSt w W P Bm Ba 22 23 n0 n1 d0 d1 er → x.size ≤ 1100000 → y.size ≤ 1100000 → (er = 0 → intErr (bl x) = 0 ∧ intErr (bl y) = 0 ∧ dval (body (bl y)) ≠ 0) → Calls Try.prog 24 #[.pointer (some ⟨P, 0, none⟩), .string x, .string y] W fun e w' => ∃ s er2, e = .returned (.tuple #[.string s, .int .i64 er2]) ∧ Hid (MadeR (bl x) (bl y) er (bl s) er2) ∧ Below w.heap.size w w' ∧ w'.cell? ⟨P, 0, none⟩ = some (.string n0) ∧ w'.cell? ⟨P, 1, none⟩ = some (.string n1) ∧ w'.cell? ⟨P, 2, none⟩ = some (.string d0) ∧ w'.cell? ⟨P, 3, none⟩ = some (.string d1)) := by
    intro W er x y hst hx hy hpre
    have hcc := fun W' (hb : Below W.heap.size W W') => (hst.p.below hb).cells
    by_cases he : er = 0
    · subst he
      obtain ⟨i1, i2, i3⟩ := hpre rfl
      refine (made_ok x y P n0 n1 d0 d1 W hst.p _ (Lib.hid fun W' => make_ok x y W' hx hy i1 i2 i3)).mono ?_
      rintro e w' ⟨s, rfl, hs, hb⟩
      obtain ⟨c0, c1, c2, c3, _⟩ := hcc _ hb
      exact ⟨s, 0, rfl, .inr ⟨rfl, rfl, hs⟩, hst.b.trans (hb.mono hst.b.size), c0, c1, c2, c3⟩
    · refine (made_err x y P n0 n1 d0 d1 er W hst.p he).mono ?_
      rintro e w' ⟨rfl, hb⟩
      obtain ⟨c0, c1, c2, c3, _⟩ := hcc _ hb
      exact ⟨_, er, rfl, .inl ⟨he, rfl, rfl⟩, hst.b.trans (hb.mono hst.b.size), c0, c1, c2, c3⟩
  have HC : Hid (∀ t1 t2 t3 t4 e1 e2 e3 e4, StepR (bl n0) (bl d1) (ival (bl n0) * ival (bl d1)) e0 t1 e1 → StepR (bl n1) (bl d0) (ival (bl n1) * ival (bl d0)) e1 t2 e2 → StepR t1 t2 (ival t1 + ival t2) e2 t3 e3 → StepR (bl d0) (bl d1) (ival (bl d0) * ival (bl d1)) e3 t4 e4 → Chain a b (fun x y => x + y) t1 t2 t3 t4 e1 e2 e3 e4) := by
    obtain ⟨q1, q2, q3, q4⟩ := HN.out
    have q5 := HE0.out
    subst q1 q2 q3 q4 q5
    exact fun _ _ _ _ _ _ _ _ r1 r2 r3 r4 => ⟨r1, r2, r3, r4⟩
  clear HN HE0
  go_wp2_with fail
  go_region_held3 (fun w' => w'.cell? ⟨P, 0, none⟩ = some (.string n0) ∧ w'.cell? ⟨P, 1, none⟩ = some (.string n1) ∧ w'.cell? ⟨P, 2, none⟩ = some (.string d0) ∧ w'.cell? ⟨P, 3, none⟩ = some (.string d1))
    (first | assumption | exact ⟨by assumption, by assumption, by assumption, by assumption⟩ | go_keep)
    (first | (go_at_call 40; first | (refine (HM.out _ _ _ _ st3 z2 z3).mono ?_; rintro e w7 ⟨t4, e4, rfl, r4, st4, l4, p0, p1, p2, p3⟩) | (refine (HO.out _ _ _ _ st2 l1 l2).mono ?_; rintro e w6 ⟨t3, e3, rfl, r3, st3, l3, p0, p1, p2, p3⟩) | (refine (HM.out _ _ _ _ st1 z1 z2).mono ?_; rintro e w5 ⟨t2, e2, rfl, r2, st2, l2, p0, p1, p2, p3⟩) | (refine (HM.out _ _ _ _ st0 z0 z3).mono ?_; rintro e w4 ⟨t1, e1, rfl, r1, st1, l1, p0, p1, p2, p3⟩)) | (go_at_call 24; refine (HD.out _ _ _ _ st4 l3 l4 (fun h => by obtain ⟨h1, h2, h3, _⟩ := ((HC.out _ _ _ _ _ _ _ _ r1.out r2.out r3.out r4.out).done).2 h; exact ⟨h1, h2, h3⟩)).mono ?_; rintro e w8 ⟨s, e5, rfl, r5, hbz, p0, p1, p2, p3⟩))
  have HF : Hid (RatPost2 w (sumS a b ((ival (bl (pN a)) * ival (bl (pD b))) + (ival (bl (pN b)) * ival (bl (pD a))))) (sumE a b ((ival (bl (pN a)) * ival (bl (pD b))) + (ival (bl (pN b)) * ival (bl (pD a))))) (.returned (.tuple #[.string s, .int .i64 e5])) w8) := by
    have hc := (HC.out _ _ _ _ _ _ _ _ r1.out r2.out r3.out r4.out).done
    rcases r5.out with ⟨h1, h2, rfl⟩ | ⟨h1, rfl, h2⟩
    · have hne : sumE a b ((ival (bl (pN a)) * ival (bl (pD b))) + (ival (bl (pN b)) * ival (bl (pD a)))) ≠ 0 := by rw [← hc.1]; exact h1
      refine ⟨s, ?_, ?_, hbz⟩
      · rw [hc.1]
      · rw [sumS, if_neg hne]; exact h2
    · refine ⟨s, ?_, ?_, hbz⟩
      · rw [← hc.1, h1]
      · rw [h2]; exact (hc.2 h1).2.2.2.2
  clear HC HD HO HM r1 r2 r3 r4 r5 st0 st1 st2 st3 st4
  go_wp2
  go_ret2
  exact HF.out
end Go.Proofs.Ytofbngpckllkoab

namespace Go.Proofs.Ytofbngpckllkoab
open Go.RowKit

set_option maxHeartbeats 4000000 in
set_option maxRecDepth 100000 in
theorem ratsub_any (a b : ByteArray) (w : World) (ha : a.size ≤ 1000000) (hb : b.size ≤ 1000000) :
    Calls Try.prog 12 #[.string a, .string b] w (RatPost2 w (sumS a b ((ival (bl (pN a)) * ival (bl (pD b))) - (ival (bl (pN b)) * ival (bl (pD a))))) (sumE a b ((ival (bl (pN a)) * ival (bl (pD b))) - (ival (bl (pN b)) * ival (bl (pD a)))))) := by
  have HB := Lib.hid (both_ab a b w (by omega) (by omega))
  have Hs := Lib.hid (part_sizes a b ha hb)
  clear ha hb
  go_enter Try.func12, Try.ntmps12
  go_wp2_with fail
  refine HB.out.mono ?_
  rintro e w1 ⟨P, rfl, hP, hp, hb1⟩
  go_wp2_with fail
  refine (keepr_any P 22 w1).mono ?_
  rintro e w2 ⟨rfl, hm, hb2⟩
  go_wp2_with fail
  refine (keepr_any P 25 w2).mono ?_
  rintro e w3 ⟨rfl, hk, hb3⟩
  obtain ⟨Bm, hBm⟩ : ∃ B, B = w1.heap.size := ⟨_, rfl⟩
  obtain ⟨Ba, hBa⟩ : ∃ B, B = w2.heap.size := ⟨_, rfl⟩
  rw [← hBm] at hm ⊢
  rw [← hBa] at hk ⊢
  obtain ⟨n0, hn0⟩ : ∃ n, n = pN a := ⟨_, rfl⟩
  obtain ⟨n1, hn1⟩ : ∃ n, n = bN1 a b := ⟨_, rfl⟩
  obtain ⟨d0, hd0⟩ : ∃ n, n = pD a := ⟨_, rfl⟩
  obtain ⟨d1, hd1⟩ : ∃ n, n = bD1 a b := ⟨_, rfl⟩
  rw [← hn0, ← hn1, ← hd0, ← hd1] at hp Hs
  have HN := Lib.hid (And.intro hn0 (And.intro hn1 (And.intro hd0 hd1)))
  clear hn0 hn1 hd0 hd1
  obtain ⟨z0, z1, z2, z3⟩ := Hs.out
  have st0 : PSt w w3.drew P Bm Ba 22 25 n0 n1 d0 d1 (bE a b) := PSt.drew ⟨(hp.below hb2).below hb3, hm.below hb3, hk, (hb1.trans (hb2.mono hb1.size)).trans (hb3.mono (Nat.le_trans hb1.size hb2.size)), hP⟩
  have p := (hp.below hb2).below hb3
  obtain ⟨h0, h1, h2, h3, _⟩ := p.cells
  clear p hp hm hk hb1 hb2 hb3 hBm hBa hP HB Hs
  obtain ⟨e0, he0⟩ : ∃ e, e = bE a b := ⟨_, rfl⟩
  rw [← he0] at st0
  have HE0 := Lib.hid he0
  clear he0
  have HM : Hid (∀ W er x y, PSt w W P Bm Ba 22 25 n0 n1 d0 d1 er → x.size ≤ 1100000 → y.size ≤ 1100000 → Calls Try.prog 40 #[.string x, .string y, .pointer (some ⟨Bm, 0, none⟩), .pointer (some ⟨Bm + 1, 0, none⟩)] W fun e w' => ∃ t er', e = .returned (.string t) ∧ Hid (StepR (bl x) (bl y) (ival (bl x) * ival (bl y)) er (bl t) er') ∧ PSt w w' P Bm Ba 22 25 n0 n1 d0 d1 er' ∧ t.size ≤ 1100000 ∧ w'.cell? ⟨P, 0, none⟩ = some (.string n0) ∧ w'.cell? ⟨P, 1, none⟩ = some (.string n1) ∧ w'.cell? ⟨P, 2, none⟩ = some (.string d0) ∧ w'.cell? ⟨P, 3, none⟩ = some (.string d1)) := by
    intro W er x y hst hx hy
    refine (pst_mul hst x y hx hy).mono ?_
    rintro e w' ⟨t, er', rfl, hr, hst'⟩
    obtain ⟨c0, c1, c2, c3, _⟩ := hst'.p.cells
    exact ⟨t, er', rfl, hr, hst', by have := hr.out.len; rw [← bl_length]; omega, c0, c1, c2, c3⟩
  have HO : Hid (∀ W er x y, PSt w W P Bm Ba 22 25 n0 n1 d0 d1 er → x.size ≤ 1100000 → y.size ≤ 1100000 → Calls Try.prog 40 #[.string x, .string y, .pointer (some ⟨Ba, 0, none⟩), .pointer (some ⟨Ba + 1, 0, none⟩)] W fun e w' => ∃ t er', e = .returned (.string t) ∧ Hid (StepR (bl x) (bl y) (ival (bl x) - ival (bl y)) er (bl t) er') ∧ PSt w w' P Bm Ba 22 25 n0 n1 d0 d1 er' ∧ t.size ≤ 1100000 ∧ w'.cell? ⟨P, 0, none⟩ = some (.string n0) ∧ w'.cell? ⟨P, 1, none⟩ = some (.string n1) ∧ w'.cell? ⟨P, 2, none⟩ = some (.string d0) ∧ w'.cell? ⟨P, 3, none⟩ = some (.string d1)) := by
    intro W er x y hst hx hy
    refine (pst_sub hst x y hx hy).mono ?_
    rintro e w' ⟨t, er', rfl, hr, hst'⟩
    obtain ⟨c0, c1, c2, c3, _⟩ := hst'.p.cells
    exact ⟨t, er', rfl, hr, hst', by have := hr.out.len; rw [← bl_length]; omega, c0, c1, c2, c3⟩
  have HD : Hid (∀ W er x y, PSt w W P Bm Ba 22 25 n0 n1 d0 d1 er → x.size ≤ 1100000 → y.size ≤ 1100000 → (er = 0 → intErr (bl x) = 0 ∧ intErr (bl y) = 0 ∧ dval (body (bl y)) ≠ 0) → Calls Try.prog 24 #[.pointer (some ⟨P, 0, none⟩), .string x, .string y] W fun e w' => ∃ s er2, e = .returned (.tuple #[.string s, .int .i64 er2]) ∧ Hid (MadeR (bl x) (bl y) er (bl s) er2) ∧ Below w.heap.size w w' ∧ w'.cell? ⟨P, 0, none⟩ = some (.string n0) ∧ w'.cell? ⟨P, 1, none⟩ = some (.string n1) ∧ w'.cell? ⟨P, 2, none⟩ = some (.string d0) ∧ w'.cell? ⟨P, 3, none⟩ = some (.string d1)) := by
    intro W er x y hst hx hy hpre
    have hcc := fun W' (hb : Below W.heap.size W W') => (hst.p.below hb).cells
    by_cases he : er = 0
    · subst he
      obtain ⟨i1, i2, i3⟩ := hpre rfl
      refine (made_ok x y P n0 n1 d0 d1 W hst.p _ (Lib.hid fun W' => make_ok x y W' hx hy i1 i2 i3)).mono ?_
      rintro e w' ⟨s, rfl, hs, hb⟩
      obtain ⟨c0, c1, c2, c3, _⟩ := hcc _ hb
      exact ⟨s, 0, rfl, .inr ⟨rfl, rfl, hs⟩, hst.b.trans (hb.mono hst.b.size), c0, c1, c2, c3⟩
    · refine (made_err x y P n0 n1 d0 d1 er W hst.p he).mono ?_
      rintro e w' ⟨rfl, hb⟩
      obtain ⟨c0, c1, c2, c3, _⟩ := hcc _ hb
      exact ⟨_, er, rfl, .inl ⟨he, rfl, rfl⟩, hst.b.trans (hb.mono hst.b.size), c0, c1, c2, c3⟩
  have HC : Hid (∀ t1 t2 t3 t4 e1 e2 e3 e4, StepR (bl n0) (bl d1) (ival (bl n0) * ival (bl d1)) e0 t1 e1 → StepR (bl n1) (bl d0) (ival (bl n1) * ival (bl d0)) e1 t2 e2 → StepR t1 t2 (ival t1 - ival t2) e2 t3 e3 → StepR (bl d0) (bl d1) (ival (bl d0) * ival (bl d1)) e3 t4 e4 → Chain a b (fun x y => x - y) t1 t2 t3 t4 e1 e2 e3 e4) := by
    obtain ⟨q1, q2, q3, q4⟩ := HN.out
    have q5 := HE0.out
    subst q1 q2 q3 q4 q5
    exact fun _ _ _ _ _ _ _ _ r1 r2 r3 r4 => ⟨r1, r2, r3, r4⟩
  clear HN HE0
  go_wp2_with fail
  go_region_held3 (fun w' => w'.cell? ⟨P, 0, none⟩ = some (.string n0) ∧ w'.cell? ⟨P, 1, none⟩ = some (.string n1) ∧ w'.cell? ⟨P, 2, none⟩ = some (.string d0) ∧ w'.cell? ⟨P, 3, none⟩ = some (.string d1))
    (first | assumption | exact ⟨by assumption, by assumption, by assumption, by assumption⟩ | go_keep)
    (first | (go_at_call 40; first | (refine (HM.out _ _ _ _ st3 z2 z3).mono ?_; rintro e w7 ⟨t4, e4, rfl, r4, st4, l4, p0, p1, p2, p3⟩) | (refine (HO.out _ _ _ _ st2 l1 l2).mono ?_; rintro e w6 ⟨t3, e3, rfl, r3, st3, l3, p0, p1, p2, p3⟩) | (refine (HM.out _ _ _ _ st1 z1 z2).mono ?_; rintro e w5 ⟨t2, e2, rfl, r2, st2, l2, p0, p1, p2, p3⟩) | (refine (HM.out _ _ _ _ st0 z0 z3).mono ?_; rintro e w4 ⟨t1, e1, rfl, r1, st1, l1, p0, p1, p2, p3⟩)) | (go_at_call 24; refine (HD.out _ _ _ _ st4 l3 l4 (fun h => by obtain ⟨h1, h2, h3, _⟩ := ((HC.out _ _ _ _ _ _ _ _ r1.out r2.out r3.out r4.out).done).2 h; exact ⟨h1, h2, h3⟩)).mono ?_; rintro e w8 ⟨s, e5, rfl, r5, hbz, p0, p1, p2, p3⟩))
  have HF : Hid (RatPost2 w (sumS a b ((ival (bl (pN a)) * ival (bl (pD b))) - (ival (bl (pN b)) * ival (bl (pD a))))) (sumE a b ((ival (bl (pN a)) * ival (bl (pD b))) - (ival (bl (pN b)) * ival (bl (pD a))))) (.returned (.tuple #[.string s, .int .i64 e5])) w8) := by
    have hc := (HC.out _ _ _ _ _ _ _ _ r1.out r2.out r3.out r4.out).done
    rcases r5.out with ⟨h1, h2, rfl⟩ | ⟨h1, rfl, h2⟩
    · have hne : sumE a b ((ival (bl (pN a)) * ival (bl (pD b))) - (ival (bl (pN b)) * ival (bl (pD a)))) ≠ 0 := by rw [← hc.1]; exact h1
      refine ⟨s, ?_, ?_, hbz⟩
      · rw [hc.1]
      · rw [sumS, if_neg hne]; exact h2
    · refine ⟨s, ?_, ?_, hbz⟩
      · rw [← hc.1, h1]
      · rw [h2]; exact (hc.2 h1).2.2.2.2
  clear HC HD HO HM r1 r2 r3 r4 r5 st0 st1 st2 st3 st4
  go_wp2
  go_ret2
  exact HF.out
end Go.Proofs.Ytofbngpckllkoab

namespace Go.Proofs.Ytofbngpckllkoab
open Go.RowKit

def netPost (w : World) (p c : ByteArray) (l : List Fl) (e : Ending) (w' : World) : Prop := e = .returned (.tuple #[.string (netS p c l), .int .i64 (netE p c l)]) ∧ Below w.heap.size w w'

set_option maxHeartbeats 4000000 in
set_option maxRecDepth 100000 in
theorem net_any (l : List Fl) (p c : ByteArray) (ad : Option Addr) (cap : Nat) (w : World) (hn : l.length ≤ 1100000) (hr : Rd Fl.cells 5 w ad l) (hs : ∀ f ∈ l, f.small) (hp : p.size ≤ 1100000) (hc : c.size ≤ 1100000) (ham : ∀ f ∈ l, f.am.size ≤ 900000) :
    Calls Try.prog 5 #[.slice ad l.length cap, .string p, .string c] w (netPost w p c l) := by
  have HCk := Lib.hid (fun W (hW : Below w.heap.size w W) => chkFl_any l ad cap W hn (hr.below hW) hs)
  have HNm := Lib.hid (fun W (s : ByteArray) (h : s.size ≤ 1100000) => name_any s W (by omega))
  have HR := Lib.hid hr
  have HS := Lib.hid hs
  have HAm := Lib.hid ham
  clear hr hs ham
  by_cases he : flowsErr l = 0
  · have HOk := Lib.hid (okP_of_err he)
    rw [he] at HCk
    cases h1 : isNm (bl p)
    · have HE := Lib.hid (netE_arg (p := p) (c := c) he (by rw [h1]; rfl))
      clear he
      go_enter Try.func5, Try.ntmps5
      go_wp2_with fail
      refine (HCk.out _ (Below.refl _ _)).mono ?_
      rintro e w1 ⟨rfl, hb1⟩
      go_wp2_with (first | (go_at_call 10; refine (HNm.out _ _ ?_).mono ?_; (assumption); rintro e w' ⟨rfl, rfl⟩))
      go_ret2
      exact ⟨by rw [HE.out.1, HE.out.2]; rfl, hb1⟩
    cases h2 : isNm (bl c)
    · have HE := Lib.hid (netE_arg (p := p) (c := c) he (by rw [h2]; simp))
      clear he
      go_enter Try.func5, Try.ntmps5
      go_wp2_with fail
      refine (HCk.out _ (Below.refl _ _)).mono ?_
      rintro e w1 ⟨rfl, hb1⟩
      go_wp2_with (first | (go_at_call 10; refine (HNm.out _ _ ?_).mono ?_; (assumption); rintro e w' ⟨rfl, rfl⟩))
      go_ret2
      exact ⟨by rw [HE.out.1, HE.out.2]; rfl, hb1⟩
    have HE := Lib.hid (netE_ok (p := p) (c := c) he (by rw [h1, h2]; rfl))
    clear he
    go_enter Try.func5, Try.ntmps5
    go_wp2_with fail
    refine (HCk.out _ (Below.refl _ _)).mono ?_
    rintro e w1 ⟨rfl, hb1⟩
    go_wp2_with (first | (go_at_call 10; refine (HNm.out _ _ ?_).mono ?_; (assumption); rintro e w' ⟨rfl, rfl⟩))
    clear h1 h2
    go_loopw [9, 10, 28] (fun z y i wr => ∃ (k : Nat) (s : ByteArray), k ≤ l.length ∧ i = .int .i64 k ∧ z = .string s ∧ y = .int .i64 0 ∧ Hid (netAcc p c l k = (s, 0)) ∧ Below w.heap.size w wr) (fun _ _ i _ => l.length - (intOf i).toNat)
    case atStart => exact ⟨0, _, Nat.zero_le _, rfl, rfl, rfl, rfl, hb1⟩
    case round =>
      clear hb1
      obtain ⟨k, s, hk, rfl, rfl, rfl, HI, hbel⟩ := hrel
      by_cases hlt : k < l.length
      · obtain ⟨f, hf⟩ : ∃ f, l[k]? = some f := ⟨_, List.getElem?_eq_getElem hlt⟩
        obtain ⟨b, off, rfl, c0, c1, c2, c3, c4⟩ := (HR.out.below hbel).fl hf
        have ham := HAm.out f (List.mem_of_getElem? hf)
        have hgood := (HOk.out k f hf).1
        have HSt : Hid (netAcc p c l (k + 1) = netStep p c (s, 0) f) := by show _ = _; rw [netAcc_succ p c hf, HI.out]
        have hs1 : s.size ≤ 2010 := by have := netAcc_size p c l k; rw [HI.out] at this; exact this
        have hsz := hbel.size
        have hblk : b < wr.heap.size := World.block_lt_of_cell? wr _ c0
        have hk1 : (0 : Int) ≤ (k : Int) := by omega
        have hk2 : (k : Int) < (l.length : Int) := by omega
        have HGd := Lib.hid hgood
        clear hgood hf
        have HA := Lib.hid (fun W => ratadd_any s f.am W (by omega) (by omega))
        have HS_ := Lib.hid (fun W => ratsub_any s f.am W (by omega) (by omega))
        have HBL := Lib.hid (hbel.alloc hsz (.cells #[.int .i64 f.d, .string f.fr, .string f.rc, .string f.cy, .string f.am] 35))
        have hft : f.fr ≠ f.rc := HGd.out.2.2.2.1
        unfold netStep at HSt
        have HSt2 : Hid (netAcc p c l (k + 1) = if f.cy ≠ c then (s, 0) else if f.rc = p then (mkB (sumS s f.am (addZ s f.am)), sumE s f.am (addZ s f.am)) else if f.fr = p then (mkB (sumS s f.am (subZ s f.am)), sumE s f.am (subZ s f.am)) else (s, 0)) := by
          have h := HSt.out
          rw [if_neg (by simp)] at h
          exact h
        unfold RatPost2 at HA HS_
        change Hid (∀ W, Calls Try.prog 11 _ W fun e w' => ∃ t, e = .returned (.tuple #[.string t, .int .i64 (sumE s f.am (addZ s f.am))]) ∧ bl t = sumS s f.am (addZ s f.am) ∧ Below W.heap.size W w') at HA
        change Hid (∀ W, Calls Try.prog 12 _ W fun e w' => ∃ t, e = .returned (.tuple #[.string t, .int .i64 (sumE s f.am (subZ s f.am))]) ∧ bl t = sumS s f.am (subZ s f.am) ∧ Below W.heap.size W w') at HS_
        have HEa := Lib.hid (fun h => sumS_err (a := s) (b := f.am) (z := addZ s f.am) h)
        have HEs := Lib.hid (fun h => sumS_err (a := s) (b := f.am) (z := subZ s f.am) h)
        generalize sumS s f.am (addZ s f.am) = Sa at *
        generalize sumE s f.am (addZ s f.am) = Ea at *
        generalize sumS s f.am (subZ s f.am) = Ss at *
        generalize sumE s f.am (subZ s f.am) = Es at *
        clear HGd HSt
        generalize f.d = d at *
        generalize f.fr = fr at *
        generalize f.rc = rc at *
        generalize f.cy = cy at *
        generalize f.am = am at *
        by_cases hu1 : cy = c
        · have hu1b := hu1
          have u1 : (cy.toList == c.toList) = true := by rw [hu1]; simp
          have u1' : (cy.toList != c.toList) = false := by rw [hu1]; simp
          by_cases hu2 : rc = p
          · have hu3 : fr ≠ p := fun e => hft (e.trans hu2.symm)
            have u2 : (rc.toList == p.toList) = true := by rw [hu2]; simp
            have u2' : (rc.toList != p.toList) = false := by rw [hu2]; simp
            have u3 : (fr.toList == p.toList) = false := by rw [toList_beq, decide_eq_false hu3]
            have u3' : (fr.toList != p.toList) = true := by rw [bne, toList_beq, decide_eq_false hu3]; rfl
            have Hu := Lib.hid (And.intro hu1 hu2)
            clear hu1 hu2 hu3 hu1b
            have HN : Hid (netAcc p c l (k + 1) = (mkB Sa, Ea)) := by show _ = _; rw [HSt2.out, if_neg (fun k => k Hu.out.1), if_pos Hu.out.2]
            clear HSt2 hft
            by_cases hE : Ea = 0
            · subst hE
              go_wp2_with (first | (go_at_call 11; refine (HA.out _).mono ?_; rintro e w4 ⟨t, rfl, ht, hb4⟩))
              have hbz := HBL.out.trans (hb4.mono (by first | exact HBL.out.size | (have := HBL.out.size; simpa using this)))
              have et := mkB_bl ht
              go_roundw
              case rel => exact ⟨k + 1, t, by omega, by go_num, rfl, rfl, by show _ = _; rw [HN.out, et], hbz⟩
              case measure => simp [intOf]; omega
            · have te : (Ea != 0) = true := by rw [bne_iff_ne]; exact hE
              have HF : Hid (netE p c l = Ea ∧ netS p c l = ⟨#[]⟩) := by
                have h := netAcc_err (p := p) (c := c) (l := l) (k := k + 1) (by rw [HN.out]; exact hE)
                exact ⟨by rw [HE.out.1, h, HN.out], by rw [HE.out.2, h, HN.out, HEa.out hE]; rfl⟩
              clear hE
              go_wp2_with (first | (go_at_call 11; refine (HA.out _).mono ?_; rintro e w4 ⟨t, rfl, ht, hb4⟩))
              have hbz := HBL.out.trans (hb4.mono (by first | exact HBL.out.size | (have := HBL.out.size; simpa using this)))
              go_ret2
              exact ⟨by rw [HF.out.1, HF.out.2]; rfl, hbz⟩
          · by_cases hu3 : fr = p
            · have hu2b := hu2
              have u2 : (rc.toList == p.toList) = false := by rw [toList_beq, decide_eq_false hu2]
              have u2' : (rc.toList != p.toList) = true := by rw [bne, toList_beq, decide_eq_false hu2]; rfl
              have u3 : (fr.toList == p.toList) = true := by rw [hu3]; simp
              have u3' : (fr.toList != p.toList) = false := by rw [hu3]; simp
              have Hu := Lib.hid (And.intro hu1 (And.intro hu2 hu3))
              clear hu1 hu2 hu3 hu1b hu2b
              have HN : Hid (netAcc p c l (k + 1) = (mkB Ss, Es)) := by show _ = _; rw [HSt2.out, if_neg (fun k => k Hu.out.1), if_neg Hu.out.2.1, if_pos Hu.out.2.2]
              clear HSt2 hft
              by_cases hE : Es = 0
              · subst hE
                go_wp2_with (first | (go_at_call 12; refine (HS_.out _).mono ?_; rintro e w4 ⟨t, rfl, ht, hb4⟩))
                have hbz := HBL.out.trans (hb4.mono (by first | exact HBL.out.size | (have := HBL.out.size; simpa using this)))
                have et := mkB_bl ht
                go_roundw
                case rel => exact ⟨k + 1, t, by omega, by go_num, rfl, rfl, by show _ = _; rw [HN.out, et], hbz⟩
                case measure => simp [intOf]; omega
              · have te : (Es != 0) = true := by rw [bne_iff_ne]; exact hE
                have HF : Hid (netE p c l = Es ∧ netS p c l = ⟨#[]⟩) := by
                  have h := netAcc_err (p := p) (c := c) (l := l) (k := k + 1) (by rw [HN.out]; exact hE)
                  exact ⟨by rw [HE.out.1, h, HN.out], by rw [HE.out.2, h, HN.out, HEs.out hE]; rfl⟩
                clear hE
                go_wp2_with (first | (go_at_call 12; refine (HS_.out _).mono ?_; rintro e w4 ⟨t, rfl, ht, hb4⟩))
                have hbz := HBL.out.trans (hb4.mono (by first | exact HBL.out.size | (have := HBL.out.size; simpa using this)))
                go_ret2
                exact ⟨by rw [HF.out.1, HF.out.2]; rfl, hbz⟩
            · have hu2b := hu2
              have u2 : (rc.toList == p.toList) = false := by rw [toList_beq, decide_eq_false hu2]
              have u2' : (rc.toList != p.toList) = true := by rw [bne, toList_beq, decide_eq_false hu2]; rfl
              have u3 : (fr.toList == p.toList) = false := by rw [toList_beq, decide_eq_false hu3]
              have u3' : (fr.toList != p.toList) = true := by rw [bne, toList_beq, decide_eq_false hu3]; rfl
              have Hu := Lib.hid (And.intro hu1 (And.intro hu2 hu3))
              clear hu1 hu2 hu3 hu1b hu2b
              have HN : Hid (netAcc p c l (k + 1) = (s, 0)) := by show _ = _; rw [HSt2.out, if_neg (fun k => k Hu.out.1), if_neg Hu.out.2.1, if_neg Hu.out.2.2]
              clear HSt2 hft
              go_wp2
              go_roundw
              case rel => exact ⟨k + 1, s, by omega, by go_num, rfl, rfl, HN, HBL.out⟩
              case measure => simp [intOf]; omega
        · have hu1b := hu1
          have u1 : (cy.toList == c.toList) = false := by rw [toList_beq, decide_eq_false hu1]
          have u1' : (cy.toList != c.toList) = true := by rw [bne, toList_beq, decide_eq_false hu1]; rfl
          have Hu := Lib.hid hu1
          clear hu1 hu1b
          have HN : Hid (netAcc p c l (k + 1) = (s, 0)) := by show _ = _; rw [HSt2.out, if_pos Hu.out]
          clear HSt2 hft
          go_wp2
          go_roundw
          case rel => exact ⟨k + 1, s, by omega, by go_num, rfl, rfl, HN, HBL.out⟩
          case measure => simp [intOf]; omega
      · obtain rfl : k = l.length := by omega
        have HF : Hid (netE p c l = 0 ∧ netS p c l = s) := ⟨by rw [HE.out.1, HI.out], by rw [HE.out.2, HI.out]⟩
        go_wp2
        go_ret2
        exact ⟨by rw [HF.out.1, HF.out.2]; rfl, hbel⟩
  · have HE := Lib.hid (netE_bad (p := p) (c := c) he)
    generalize flowsErr l = er at *
    have te : (er != 0) = true := by rw [bne_iff_ne]; exact he
    clear he
    go_enter Try.func5, Try.ntmps5
    go_wp2_with fail
    refine (HCk.out _ (Below.refl _ _)).mono ?_
    rintro e w1 ⟨rfl, hb1⟩
    skip
    skip
    skip
    skip
    go_wp2
    go_ret2
    exact ⟨by rw [HE.out.1, HE.out.2]; rfl, hb1⟩
end Go.Proofs.Ytofbngpckllkoab
