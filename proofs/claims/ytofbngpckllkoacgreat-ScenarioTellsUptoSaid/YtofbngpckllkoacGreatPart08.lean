/-
  integer.Add and Mul.  Printed by tools/geniops.py. novationref01.Digits.  Printed by tools/genrefdig.py. Texts of numbers: plain facts. rational.Parts; the parts of a rational.  Printed by tools/genparts.py. integer.DivMod where the division comes out even.  Printed by tools/gendivmod.py.
-/
import Derived.Test.YtofbngpckllkoacGreatPart07
import Derived.Test.YtofbngpckllkoacGreatPart05
import Derived.Test.YtofbngpckllkoacGreatPart06
import Derived.Test.YtofbngpckllkoacGreatPart01
import Derived.Test.YtofbngpckllkoacGreatPart02
import Derived.Test.YtofbngpckllkoacGreatPart03
namespace Go.Proofs.YtofbngpckllkoacGreat
open Go.RowKit

/-- The number that a text stands for. -/
def ival (l : List UInt8) : Int := sgnv (isNeg l) (dval (body l))
/-- What an operation answers whose result is z. -/
def zStr (z : Int) : List UInt8 := wStr (decide (z < 0)) z.natAbs
def zErr (z : Int) : Int := wErr z.natAbs
theorem sgnv_abs (b : Bool) (n : Nat) : (sgnv b n).natAbs = n := by cases b <;> simp [sgnv]
theorem sgnv_neg {b : Bool} {n : Nat} (h : n ≠ 0) : decide (sgnv b n < 0) = b := by cases b <;> simp [sgnv] <;> omega
theorem wErr_sgnv (b : Bool) (n : Nat) : wErr n = zErr (sgnv b n) := by rw [zErr, sgnv_abs]
theorem wStr_zero (b c : Bool) : wStr b 0 = wStr c 0 := by simp [wStr, istr]
theorem wStr_sgnv (b : Bool) (n : Nat) : wStr b n = zStr (sgnv b n) := by
  rw [zStr, sgnv_abs]
  by_cases h : n = 0
  · subst h; exact wStr_zero _ _
  · rw [sgnv_neg h]
def IntPost (w : World) (z : Int) (e : Ending) (w' : World) : Prop := ∃ t, e = .returned (.tuple #[.string t, .int .i64 (zErr z)]) ∧ bl t = zStr z ∧ Below w.heap.size w w'

theorem sgnv_mul (a b : Bool) (x y : Nat) : sgnv (!(a == b)) (x * y) = sgnv a x * sgnv b y := by
  cases a <;> cases b <;> simp [sgnv, Int.neg_mul, Int.mul_neg]
theorem ten_succ (k : Nat) : ten (k + 1) = 10 * ten k := by rw [ten, ten, Nat.pow_succ, Nat.mul_comm]
theorem ten_add (j k : Nat) : ten j * ten k = ten (j + k) := by rw [ten, ten, ten, Nat.pow_add]
theorem mul_len {rs xs ys : List Nat} (hv : val 1000000000 rs = val 1000000000 xs * val 1000000000 ys) (hn : Nrm 1000000000 rs) (hx : val 1000000000 xs < ten 1000) (hy : val 1000000000 ys < ten 1000) : rs.length ≤ 100000 := by
  refine Nat.le_trans (grp_ten (k := 223) hn ?_) (by decide)
  rw [hv]
  refine Nat.lt_of_lt_of_le (Nat.mul_lt_mul'' hx hy) ?_
  rw [ten_add]
  exact ten_mono (by decide)
theorem sum_len {neg na nb : Bool} {rs xs ys : List Nat} (hv : sgnv neg (val 1000000000 rs) = sgnv na (val 1000000000 xs) + sgnv nb (val 1000000000 ys)) (hn : Nrm 1000000000 rs) (hx : val 1000000000 xs < ten 1000) (hy : val 1000000000 ys < ten 1000) : rs.length ≤ 113 := by
  refine grp_ten hn ?_
  have h1 : val 1000000000 rs ≤ val 1000000000 xs + val 1000000000 ys := by
    generalize val 1000000000 rs = r at hv ⊢
    generalize val 1000000000 xs = x at hv ⊢
    generalize val 1000000000 ys = y at hv ⊢
    cases neg <;> cases na <;> cases nb <;> simp [sgnv] at hv <;> omega
  have h2 : ten 1001 = 10 * ten 1000 := ten_succ 1000
  have h3 := ten_mono (show 1001 ≤ 9 * 113 by decide)
  omega

set_option maxHeartbeats 1000000 in
set_option maxRecDepth 100000 in
theorem iadd_err (a b : ByteArray) (w : World) (er : Int) (h : er ≠ 0) (C : ∀ W, Calls Tryz.prog 70 #[.string a, .string b] W (PairErr W er)) :
    Calls Tryz.prog 46 #[.string a, .string b] w (GcdErr w er) := by
  have HC := Lib.hid C
  have h2 : (er != 0) = true := by rw [bne_iff_ne]; exact h
  clear C h
  go_enter Tryz.func46, Tryz.ntmps46
  go_wp2_with fail
  refine (HC.out _).mono ?_
  rintro e w' ⟨rfl, hbel⟩
  go_wp2
  go_ret2
  exact ⟨rfl, (hbel.alloc hbel.size _).alloc (by have := hbel.size; simp; omega) _⟩

set_option maxHeartbeats 2000000 in
set_option maxRecDepth 100000 in
theorem iadd_ok (a b : ByteArray) (w : World) (ha : a.size ≤ 9223372036854775807) (hb : b.size ≤ 9223372036854775807) (h0 : intErr (bl a) = 0) (h : intErr (bl b) = 0) :
    Calls Tryz.prog 46 #[.string a, .string b] w (IntPost w (ival (bl a) + ival (bl b))) := by
  have HC := Lib.hid (fun W => pair_ok a b W ha hb h0 h)
  have HA := Lib.hid (dval_body_lt h0)
  have HB := Lib.hid (dval_body_lt h)
  clear ha hb h0 h
  go_enter Tryz.func46, Tryz.ntmps46
  go_wp2_with fail
  refine (HC.out _).mono ?_
  rintro e w1 ⟨va, vb, xs, ys, rfl, sa, sb, nx, ny, vx, vy, hb1⟩
  rw [← vx] at HA
  rw [← vy] at HB
  have HVa : Hid (ival (bl a) = sgnv (isNeg (bl a)) (val 1000000000 xs)) := by show _ = _; rw [ival, vx]
  have HVb : Hid (ival (bl b) = sgnv (isNeg (bl b)) (val 1000000000 ys)) := by show _ = _; rw [ival, vy]
  clear vx vy HC
  generalize isNeg (bl a) = na at *
  generalize isNeg (bl b) = nb at *
  obtain ⟨aa, ca, rfl, _⟩ := id sa
  obtain ⟨ab, cb, rfl, _⟩ := id sb
  have hb0 : Below w1.heap.size w1 ((w1.alloc (.cells #[.bool na, .slice aa xs.length ca] 121)).alloc (.cells #[.bool nb, .slice ab ys.length cb] 121)) := below_a2 _ _ _
  have bx : Boxed2 ((w1.alloc (.cells #[.bool na, .slice aa xs.length ca] 121)).alloc (.cells #[.bool nb, .slice ab ys.length cb] 121)) w1.heap.size 121 (.bool na) (.slice aa xs.length ca) := (Boxed2.new _ _ _ _).alloc _
  have by1 : Boxed2 ((w1.alloc (.cells #[.bool na, .slice aa xs.length ca] 121)).alloc (.cells #[.bool nb, .slice ab ys.length cb] 121)) (w1.heap.size + 1) 121 (.bool nb) (.slice ab ys.length cb) := by
    have h := Boxed2.new (w1.alloc (.cells #[.bool na, .slice aa xs.length ca] 121)) (.bool nb) (.slice ab ys.length cb) 121
    simp at h
    exact h
  have hbW := hb1.trans (hb0.mono hb1.size)
  have sa0 := Lib.hid (sa.below hb0)
  have sb0 := Lib.hid (sb.below hb0)
  have lx := grp_len nx HA.out
  have ly := grp_len ny HB.out
  have x0 := bx.cell0
  have x1 := bx.cell1
  have y0 := by1.cell0
  have y1 := by1.cell1
  have BY := Lib.hid by1
  clear bx by1 hb0 hb1 sa sb
  have HS := Lib.hid (sum_any na nb _ _ xs ys _ sa0.out sb0.out nx ny (by omega) (by omega))
  clear nx ny
  go_wp2_with fail
  refine HS.out.mono ?_
  rintro e w2 ⟨neg, v, rs, rfl, sv, hn, hv, hb2⟩
  have hlen : rs.length ≤ 100000 := by
    have := sum_len hv hn HA.out HB.out; omega
  have HW := Lib.hid (write_any neg v rs w2 sv hn hlen)
  clear HS x0 x1 y0 y1 sv hlen
  go_wp2_with fail
  refine HW.out.mono ?_
  rintro e w3 ⟨t, rfl, ht, hb3⟩
  have hE : Hid (wErr (val 1000000000 rs) = zErr (sgnv na (val 1000000000 xs) + sgnv nb (val 1000000000 ys))) := by show _ = _; rw [← hv]; exact wErr_sgnv _ _
  have hS : Hid (wStr neg (val 1000000000 rs) = zStr (sgnv na (val 1000000000 xs) + sgnv nb (val 1000000000 ys))) := by show _ = _; rw [← hv]; exact wStr_sgnv _ _
  have hbz := hbW.trans ((hb2.mono hbW.size).trans (hb3.mono (Nat.le_trans hbW.size hb2.size)))
  rw [hE.out]
  rw [hS.out] at ht
  have Ht := Lib.hid ht
  clear hE hS ht hv
  go_wp2
  go_ret2
  rw [HVa.out, HVb.out]
  exact ⟨t, rfl, Ht.out, hbz⟩

set_option maxHeartbeats 1000000 in
set_option maxRecDepth 100000 in
theorem imul_err (a b : ByteArray) (w : World) (er : Int) (h : er ≠ 0) (C : ∀ W, Calls Tryz.prog 70 #[.string a, .string b] W (PairErr W er)) :
    Calls Tryz.prog 44 #[.string a, .string b] w (GcdErr w er) := by
  have HC := Lib.hid C
  have h2 : (er != 0) = true := by rw [bne_iff_ne]; exact h
  clear C h
  go_enter Tryz.func44, Tryz.ntmps44
  go_wp2_with fail
  refine (HC.out _).mono ?_
  rintro e w' ⟨rfl, hbel⟩
  go_wp2
  go_ret2
  exact ⟨rfl, (hbel.alloc hbel.size _).alloc (by have := hbel.size; simp; omega) _⟩

set_option maxHeartbeats 2000000 in
set_option maxRecDepth 100000 in
theorem imul_ok (a b : ByteArray) (w : World) (ha : a.size ≤ 9223372036854775807) (hb : b.size ≤ 9223372036854775807) (h0 : intErr (bl a) = 0) (h : intErr (bl b) = 0) :
    Calls Tryz.prog 44 #[.string a, .string b] w (IntPost w (ival (bl a) * ival (bl b))) := by
  have HC := Lib.hid (fun W => pair_ok a b W ha hb h0 h)
  have HA := Lib.hid (dval_body_lt h0)
  have HB := Lib.hid (dval_body_lt h)
  clear ha hb h0 h
  go_enter Tryz.func44, Tryz.ntmps44
  go_wp2_with fail
  refine (HC.out _).mono ?_
  rintro e w1 ⟨va, vb, xs, ys, rfl, sa, sb, nx, ny, vx, vy, hb1⟩
  rw [← vx] at HA
  rw [← vy] at HB
  have HVa : Hid (ival (bl a) = sgnv (isNeg (bl a)) (val 1000000000 xs)) := by show _ = _; rw [ival, vx]
  have HVb : Hid (ival (bl b) = sgnv (isNeg (bl b)) (val 1000000000 ys)) := by show _ = _; rw [ival, vy]
  clear vx vy HC
  generalize isNeg (bl a) = na at *
  generalize isNeg (bl b) = nb at *
  obtain ⟨aa, ca, rfl, _⟩ := id sa
  obtain ⟨ab, cb, rfl, _⟩ := id sb
  have hb0 : Below w1.heap.size w1 ((w1.alloc (.cells #[.bool na, .slice aa xs.length ca] 121)).alloc (.cells #[.bool nb, .slice ab ys.length cb] 121)) := below_a2 _ _ _
  have bx : Boxed2 ((w1.alloc (.cells #[.bool na, .slice aa xs.length ca] 121)).alloc (.cells #[.bool nb, .slice ab ys.length cb] 121)) w1.heap.size 121 (.bool na) (.slice aa xs.length ca) := (Boxed2.new _ _ _ _).alloc _
  have by1 : Boxed2 ((w1.alloc (.cells #[.bool na, .slice aa xs.length ca] 121)).alloc (.cells #[.bool nb, .slice ab ys.length cb] 121)) (w1.heap.size + 1) 121 (.bool nb) (.slice ab ys.length cb) := by
    have h := Boxed2.new (w1.alloc (.cells #[.bool na, .slice aa xs.length ca] 121)) (.bool nb) (.slice ab ys.length cb) 121
    simp at h
    exact h
  have hbW := hb1.trans (hb0.mono hb1.size)
  have sa0 := Lib.hid (sa.below hb0)
  have sb0 := Lib.hid (sb.below hb0)
  have lx := grp_len nx HA.out
  have ly := grp_len ny HB.out
  have x0 := bx.cell0
  have x1 := bx.cell1
  have y0 := by1.cell0
  have y1 := by1.cell1
  have BY := Lib.hid by1
  clear bx by1 hb0 hb1 sa sb
  go_wp2_with fail
  obtain ⟨W0, hW0⟩ : ∃ W0, W0 = ((w1.alloc (.cells #[.bool na, .slice aa xs.length ca] 121)).alloc (.cells #[.bool nb, .slice ab ys.length cb] 121)) := ⟨_, rfl⟩
  rw [← hW0] at x0 x1 y0 y1 hbW sa0 sb0 ⊢
  clear hW0 BY
  have HP : Hid (∀ W, Ext W0 W → Calls Tryz.prog 72 #[.slice aa xs.length ca, .slice ab ys.length cb] W fun e w' => ∃ ad c rs, e = .returned (.slice ad rs.length c) ∧ Hid (Sl w' (.slice ad rs.length c) 1 rs.length (nums .u32 rs) ∧ Nrm 1000000000 rs ∧ rs.length ≤ 100000 ∧ val 1000000000 rs = val 1000000000 xs * val 1000000000 ys) ∧ Ext W0 w' ∧ Below W.heap.size W w') := by
    intro W hx
    refine (times_any _ _ xs ys W (sa0.out.below hx) (sb0.out.below hx) nx.1 ny.1 (by omega) (by omega)).mono ?_
    rintro e w' ⟨v, rs, rfl, ⟨own, hn, hb1⟩, hv⟩
    have sl := Sl.of_owns own
    obtain ⟨ad, c, rfl, _⟩ := id sl
    exact ⟨ad, c, rs, rfl, ⟨sl, hn, mul_len hv hn HA.out HB.out, hv⟩, Below.trans hx (hb1.mono (Below.size hx)), hb1⟩
  have HZ : Hid (∀ W, Ext W0 W → W.cell? ⟨w1.heap.size, 0, none⟩ = some (.bool na) ∧ W.cell? ⟨w1.heap.size, 1, none⟩ = some (.slice aa xs.length ca) ∧ W.cell? ⟨w1.heap.size + 1, 0, none⟩ = some (.bool nb) ∧ W.cell? ⟨w1.heap.size + 1, 1, none⟩ = some (.slice ab ys.length cb)) := fun W hx => ⟨Ext.cell hx x0, Ext.cell hx x1, Ext.cell hx y0, Ext.cell hx y1⟩
  have hx0 : Ext W0 W0.drew := Below.drew (Below.refl _ _)
  clear nx ny
  go_region_held3 (fun w' => w'.cell? ⟨w1.heap.size, 0, none⟩ = some (.bool na) ∧ w'.cell? ⟨w1.heap.size, 1, none⟩ = some (.slice aa xs.length ca) ∧ w'.cell? ⟨w1.heap.size + 1, 0, none⟩ = some (.bool nb) ∧ w'.cell? ⟨w1.heap.size + 1, 1, none⟩ = some (.slice ab ys.length cb))
    (first | assumption | exact ⟨by assumption, by assumption, by assumption, by assumption⟩ | go_keep)
    (first | (go_at_call 72; refine (HP.out _ hx0).mono ?_; rintro e w2 ⟨ad2, cap2, rs2, rfl, own2, hx2, hb2⟩; obtain ⟨p1, p2, p3, p4⟩ := HZ.out _ hx2) | (go_at_call 71; refine (write_any _ _ rs2 _ own2.out.1 own2.out.2.1 own2.out.2.2.1).mono ?_; rintro e w3 ⟨t, rfl, ht, hb3⟩; have hx3 := Below.trans hx2 (hb3.mono (Below.size hx2)); obtain ⟨p1, p2, p3, p4⟩ := HZ.out _ hx3))
  have hv := own2.out.2.2.2
  have hE : Hid (wErr (val 1000000000 rs2) = zErr (sgnv na (val 1000000000 xs) * sgnv nb (val 1000000000 ys))) := by show _ = _; rw [← sgnv_mul, ← hv]; exact wErr_sgnv _ _
  have hS : Hid (wStr (!(na == nb)) (val 1000000000 rs2) = zStr (sgnv na (val 1000000000 xs) * sgnv nb (val 1000000000 ys))) := by show _ = _; rw [← sgnv_mul, ← hv]; exact wStr_sgnv _ _
  have hbz := hbW.trans (Below.mono hx3 hbW.size)
  rw [hE.out]
  rw [hS.out] at ht
  have Ht := Lib.hid ht
  clear hE hS ht hv
  go_wp2
  go_ret2
  rw [HVa.out, HVb.out]
  exact ⟨t, rfl, Ht.out, hbz⟩

/-- The error of two arguments. -/
def pairErr (a b : List UInt8) : Int := if intErr a ≠ 0 then intErr a else intErr b
def OpPost (w : World) (a b : List UInt8) (z : Int) (e : Ending) (w' : World) : Prop := if pairErr a b = 0 then IntPost w z e w' else GcdErr w (pairErr a b) e w'
theorem pairErr_a {a b : List UInt8} (h0 : intErr a ≠ 0) : pairErr a b = intErr a := by rw [pairErr, if_pos h0]
theorem pairErr_b {a b : List UInt8} (h0 : intErr a = 0) : pairErr a b = intErr b := by rw [pairErr, if_neg (fun h => h h0)]
theorem opPost_ok {w : World} {a b : List UInt8} {z : Int} {e : Ending} {w' : World} (h0 : intErr a = 0) (h : intErr b = 0) (k : IntPost w z e w') : OpPost w a b z e w' := by
  rw [OpPost, pairErr_b h0, if_pos h]; exact k
theorem opPost_err2 {w : World} {a b : List UInt8} {z : Int} {e : Ending} {w' : World} (h0 : intErr a = 0) (h : intErr b ≠ 0) (k : GcdErr w (intErr b) e w') : OpPost w a b z e w' := by
  rw [OpPost, pairErr_b h0, if_neg h]; exact k
theorem opPost_err1 {w : World} {a b : List UInt8} {z : Int} {e : Ending} {w' : World} (h0 : intErr a ≠ 0) (k : GcdErr w (intErr a) e w') : OpPost w a b z e w' := by
  rw [OpPost, pairErr_a h0, if_neg h0]; exact k
theorem iadd_any (a b : ByteArray) (w : World) (ha : a.size ≤ 9223372036854775807) (hb : b.size ≤ 9223372036854775807) :
    Calls Tryz.prog 46 #[.string a, .string b] w (OpPost w (bl a) (bl b) (ival (bl a) + ival (bl b))) := by
  by_cases h0 : intErr (bl a) = 0
  · by_cases h : intErr (bl b) = 0
    · exact (iadd_ok a b w ha hb h0 h).mono fun e w' k => opPost_ok h0 h k
    · exact (iadd_err a b w _ h (fun W => pair_err2 a b W ha hb h0 h)).mono fun e w' k => opPost_err2 h0 h k
  · exact (iadd_err a b w _ h0 (fun W => pair_err1 a b W ha h0)).mono fun e w' k => opPost_err1 h0 k
theorem imul_any (a b : ByteArray) (w : World) (ha : a.size ≤ 9223372036854775807) (hb : b.size ≤ 9223372036854775807) :
    Calls Tryz.prog 44 #[.string a, .string b] w (OpPost w (bl a) (bl b) (ival (bl a) * ival (bl b))) := by
  by_cases h0 : intErr (bl a) = 0
  · by_cases h : intErr (bl b) = 0
    · exact (imul_ok a b w ha hb h0 h).mono fun e w' k => opPost_ok h0 h k
    · exact (imul_err a b w _ h (fun W => pair_err2 a b W ha hb h0 h)).mono fun e w' k => opPost_err2 h0 h k
  · exact (imul_err a b w _ h0 (fun W => pair_err1 a b W ha h0)).mono fun e w' k => opPost_err1 h0 k
end Go.Proofs.YtofbngpckllkoacGreat

namespace Go.Proofs.YtofbngpckllkoacGreat
open Go.RowKit

theorem Tryz.ul_ints : Tryz.prog.underlying 108 = some (.slice 3) := by kernel_rfl
theorem Tryz.info_int : (Tryz.prog.info? 3).map (fun i => (i.zero, i.size, i.bytes)) = some (some (.int .i64 0), 1, 8) := by kernel_rfl

/-- Decimal digits, the last first. -/
def rdig (l : List UInt8) : List Nat := (l.map fun c => c.toNat - 48).reverse
theorem rdig_cons (c : UInt8) (l : List UInt8) : rdig (c :: l) = rdig l ++ [c.toNat - 48] := by simp [rdig]
theorem rdig_length (l : List UInt8) : (rdig l).length = l.length := by simp [rdig]
theorem rdig_val (l : List UInt8) : val 10 (rdig l) = dval l := by
  refine Nat.rec (motive := fun n => ∀ m : List UInt8, m.length = n → val 10 (rdig m) = dval m) ?_ ?_ l.length l rfl
  · intro m hm; rw [List.eq_nil_of_length_eq_zero hm]; rfl
  · intro n ih m hm
    rcases List.eq_nil_or_concat m with rfl | ⟨m, c, rfl⟩
    · rfl
    · rw [List.concat_eq_append] at hm ⊢
      have e : rdig (m ++ [c]) = (c.toNat - 48) :: rdig m := by simp [rdig]
      rw [e, dval_snoc, val, ih m (by simp at hm; exact hm)]
      omega
theorem rdig_dig {l : List UInt8} (h : l.all isDig = true) : Dig 10 (rdig l) := by
  intro x hx
  simp only [rdig, List.mem_reverse, List.mem_map] at hx
  obtain ⟨c, hc, rfl⟩ := hx
  have := List.all_eq_true.1 h c hc
  simp [isDig] at this
  omega
theorem body_neg (d : List UInt8) : body (45 :: d) = d := by simp [body]
theorem isNeg_neg (d : List UInt8) : isNeg (45 :: d) = true := by simp [isNeg]
theorem bl_drop_cons (s : ByteArray) (k : Nat) (h : k < s.size) : (bl s).drop k = s[k] :: (bl s).drop (k + 1) := by
  have hl : k < (bl s).length := by rw [bl_length]; exact h
  rw [List.drop_eq_getElem_cons hl]
  have e := bl_get s k h
  rw [List.getElem?_eq_getElem hl] at e
  rw [Option.some.inj e]
theorem all_drop_of_all (f : UInt8 → Bool) (l : List UInt8) (k : Nat) (h : l.all f = true) : (l.drop k).all f = true := by
  rw [List.all_eq_true] at h ⊢
  exact fun x hx => h x (List.mem_of_mem_drop hx)

def DigBad (w : World) (e : Ending) (w' : World) : Prop := e = .returned (.tuple #[.slice none 0 0, .bool false, .bool false]) ∧ Below w.heap.size w w'
def DigOk (w : World) (neg : Bool) (xs : List Nat) (e : Ending) (w' : World) : Prop :=
  ∃ v, e = .returned (.tuple #[v, .bool neg, .bool true]) ∧ Sl w' v 1 xs.length (nums .i64 xs) ∧ Below w.heap.size w w'
def DigPost (w : World) (s : ByteArray) (e : Ending) (w' : World) : Prop :=
  if canonI (bl s) = true then DigOk w (isNeg (bl s)) (rdig (body (bl s))) e w' else DigBad w e w'

theorem digPost_bad {w : World} {s : ByteArray} {e : Ending} {w' : World} (h : canonI (bl s) = false) (k : DigBad w e w') : DigPost w s e w' := by
  rw [DigPost, if_neg (by rw [h]; simp)]; exact k

set_option maxHeartbeats 400000 in
set_option maxRecDepth 100000 in
theorem digits_empty (s : ByteArray) (w : World) (h0 : s.size = 0) :
    Calls Tryz.prog 60 #[.string s] w (DigBad w) := by
  have h1 : s.toList = [] := by rw [Lib.toList_data]; exact List.eq_nil_of_length_eq_zero (by rw [← bl_length] at h0; exact h0)
  have h2 : ¬ 0 < s.size := by omega
  have h3 : ((s.size : Int) == 0) = true := by rw [h0]; rfl
  go_enter Tryz.func60, Tryz.ntmps60
  go_wp2
  go_ret3
  exact ⟨rfl, Below.refl _ _⟩

set_option maxHeartbeats 400000 in
set_option maxRecDepth 100000 in
theorem digits_zero (s : ByteArray) (w : World) (hl : s.size ≤ 1100000) (h1 : 1 < s.size) (h0 : s[0] = 48) :
    Calls Tryz.prog 60 #[.string s] w (DigBad w) := by
  have h4 : (0 : Nat) < s.size := by omega
  have h3 : ((s.size : Int) == 0) = false := by rw [beq_eq_false_iff_ne]; omega
  go_enter Tryz.func60, Tryz.ntmps60
  go_wp2
  go_ret3
  exact ⟨rfl, Below.refl _ _⟩

set_option maxHeartbeats 400000 in
set_option maxRecDepth 100000 in
theorem digits_neg0 (s : ByteArray) (w : World) (hl : s.size ≤ 1100000) (h1 : 0 < s.size) (h0 : s[0] = 45) (t : ByteArray) (ht : s.extract 1 s.size = t) (h2 : t.size = 0) :
    Calls Tryz.prog 60 #[.string s] w (DigBad w) := by
  have h3 : ((t.size : Int) == 0) = true := by rw [h2]; rfl
  go_enter Tryz.func60, Tryz.ntmps60
  go_wp2
  go_ret3
  exact ⟨rfl, Below.refl _ _⟩

set_option maxHeartbeats 400000 in
set_option maxRecDepth 100000 in
theorem digits_neg48 (s : ByteArray) (w : World) (hl : s.size ≤ 1100000) (h1 : 0 < s.size) (h0 : s[0] = 45) (t : ByteArray) (ht : s.extract 1 s.size = t) (h2 : 0 < t.size) (h5 : t[0] = 48) :
    Calls Tryz.prog 60 #[.string s] w (DigBad w) := by
  have h3 : ((t.size : Int) == 0) = false := by rw [beq_eq_false_iff_ne]; omega
  have hme : t.size ≤ 1100000 := by
    have et := congrArg List.length (bl_tail s h1)
    rw [ht, bl_length, List.length_tail, bl_length] at et
    omega
  by_cases h6 : 1 < t.size
  · go_enter Tryz.func60, Tryz.ntmps60
    go_wp2
    go_ret3
    exact ⟨rfl, Below.refl _ _⟩
  · go_enter Tryz.func60, Tryz.ntmps60
    go_wp2
    go_ret3
    exact ⟨rfl, Below.refl _ _⟩

set_option maxHeartbeats 1000000 in
set_option maxRecDepth 100000 in
theorem digits_pos_a (s : ByteArray) (w : World) (hl : s.size ≤ 1100000) (h1 : 0 < s.size) (hm : s[0] ≠ 45) (h0 : s[0] ≠ 48) :
    Calls Tryz.prog 60 #[.string s] w (DigPost w s) := by
  obtain ⟨i0, hi, hz0, hz1, hz2⟩ := info_parts Tryz.info_int
  have e := bl_cons s h1
  have HC : Hid (canonI (bl s) = (bl s).all isDig) := by
    show _ = _
    have hh : (bl s).head? ≠ some 45 := by rw [e]; simpa using hm
    have hb : ((bl s).head? == some 45) = false := by simpa using hh
    rw [canonI, body, if_neg hh, isNeg, hb, canonD]
    have a1 : (bl s).isEmpty = false := by rw [e]; rfl
    have a2 : ((bl s).head? == some 48 && (decide (1 < (bl s).length) || false)) = false := by
      rw [e]; simp; intro hh; exact absurd hh h0
    rw [a1, a2]; simp
  have HB : Hid (body (bl s) = bl s) := by show _ = _; rw [body, if_neg (by rw [e]; simpa using hm)]
  have HNg : Hid (isNeg (bl s) = false) := by show _ = _; rw [isNeg, e]; simpa using hm
  obtain ⟨c0, hc0⟩ : ∃ c, s[0] = c := ⟨_, rfl⟩
  rw [hc0] at hm h0
  have hm1 : ((c0.toNat : Int) == 45) = false := by simpa using fun hh : (c0.toNat : Int) = 45 => hm (UInt8.toNat_inj.1 (by simpa using (by omega : c0.toNat = 45)))
  have hne : ((s.size : Int) == 0) = false := by rw [beq_eq_false_iff_ne]; omega
  clear e hm
  have hp : ((c0.toNat : Int) == 48) = false := by simpa using fun hh : (c0.toNat : Int) = 48 => h0 (UInt8.toNat_inj.1 (by simpa using (by omega : c0.toNat = 48)))
  clear h0
  go_enter Tryz.func60, Tryz.ntmps60
  go_wp2_with fail
  go_loopw [7, 8] (fun ds i wr => ∃ (k : Nat) (adb : Option Addr) (capb : Nat), k ≤ s.size ∧ i = .int .i64 (k - 1) ∧ ds = .slice adb (s.size - k) capb ∧
      wr.ownsRow w.heap.size 3 1 (.slice adb (s.size - k) capb) (s.size - k) (nums .i64 (rdig ((bl s).drop k))) ∧ Hid (((bl s).drop k).all isDig = true) ∧ Below w.heap.size w wr)
    (fun _ i _ => (intOf i + 1).toNat)
  case atStart => exact ⟨s.size, none, 0, Nat.le_refl _, by go_num, by rw [Nat.sub_self], by rw [Nat.sub_self, List.drop_of_length_le (by rw [bl_length]; exact Nat.le_refl _)]; exact World.ownsRow_nil _ _ _ _, by show _ = _; rw [List.drop_of_length_le (by rw [bl_length]; exact Nat.le_refl _)]; rfl, Below.refl _ _⟩
  case round =>
    obtain ⟨k, adb, capb, hk, rfl, rfl, hown, Hall, hbel⟩ := hrel
    by_cases h0 : 0 < k
    · obtain ⟨k, rfl⟩ : ∃ k', k = k' + 1 := ⟨k - 1, by omega⟩
      have e1 : ((k + 1 : Nat) : Int) - 1 = (k : Int) := by omega
      rw [e1]
      have Hcons := Lib.hid (bl_drop_cons s k (by omega))
      have hkl : k < s.size := by omega
      obtain ⟨c, hc⟩ : ∃ c, s[k] = c := ⟨_, rfl⟩
      rw [hc] at Hcons
      have hcb : c.toNat < 256 := c.toNat_lt
      by_cases h1 : c.toNat < 48
      · have HF : Hid (canonI (bl s) = false) := by
          show _ = _
          rw [HC.out, Bool.eq_false_iff]
          intro hall
          have := all_drop_of_all isDig (bl s) k hall
          rw [Hcons.out] at this
          simp [isDig] at this
          omega
        have d1 : decide (((c.toNat : Nat) : Int) < 48) = true := by rw [decide_eq_true_eq]; omega
        have d1' : ¬ ((48 : Int) ≤ ((c.toNat : Nat) : Int)) := by omega
        go_wp2
        go_ret3
        exact digPost_bad HF.out ⟨rfl, hbel⟩
      · have d1 : decide (((c.toNat : Nat) : Int) < 48) = false := by rw [decide_eq_false_iff_not]; omega
        by_cases h2 : c.toNat ≤ 57
        · have d2 : decide ((57 : Int) < ((c.toNat : Nat) : Int)) = false := by rw [decide_eq_false_iff_not]; omega
          have Hall2 : Hid (((bl s).drop k).all isDig = true) := by
            show _ = true
            rw [Hcons.out, List.all_cons, Hall.out]
            simp [isDig]; omega
          have hsz := hbel.size
          have x1 : IntKind.u8.wrap ((c.toNat : Int) - 48) = ((c.toNat - 48 : Nat) : Int) := by
            rw [IntWalk.u8_in _ (by omega)]; omega
          obtain ⟨N, hN⟩ : ∃ N, s.size - (k + 1) = N := ⟨_, rfl⟩
          have hN1 : s.size - k = N + 1 := by omega
          have hNb : N ≤ 1100000 := by omega
          have HN1 := Lib.hid hN1
          rw [hN] at hown ⊢
          clear hN hN1
          go_wp2_with (at_builtin; refine wpList_append_own _ rfl _ _ 108 rfl w.heap.size 3 i0 (.int .i64 0) 1 8 Tryz.ul_ints hi hz0 hz1 hz2 rfl (by decide) _ _ _ rfl (hown.alloc _) ⟨wr.heap.size, 0, none⟩ 1 1 [_] rfl rfl (cell_one_new _ _ _) (int_oneCell _ _) ?d1 ?d2 ?d3 ?_)
          case d1 => unfold maxLen; omega
          case d2 => omega
          case d3 => simp; omega
          intro v2 w2 hown2 hgrow2 _
          have hbel2 : Below w.heap.size w w2 := (hbel.alloc hsz _).grown hgrow2 (by simp; omega) (fun k hk => (hown.lt k hk).1)
          have ed : ((c.toNat : Int) - 48) = ((c.toNat - 48 : Nat) : Int) := by omega
          try rw [ed] at hown2
          rw [nums_snoc, ← rdig_cons, ← Hcons.out, ← HN1.out] at hown2
          obtain ⟨ad3, cap3, rfl, _⟩ := Sl.of_owns hown2
          clear hgrow2 hown hbel
          go_wp2
          go_roundw
          case rel => exact ⟨k, ad3, cap3, by omega, by go_num, rfl, hown2, Hall2, hbel2⟩
          case measure => simp [intOf]
        · have d2 : decide ((57 : Int) < ((c.toNat : Nat) : Int)) = true := by rw [decide_eq_true_eq]; omega
          have d2' : ¬ (((c.toNat : Nat) : Int) ≤ 57) := by omega
          have HF : Hid (canonI (bl s) = false) := by
            show _ = _
            rw [HC.out, Bool.eq_false_iff]
            intro hall
            have := all_drop_of_all isDig (bl s) k hall
            rw [Hcons.out] at this
            simp [isDig] at this
            omega
          go_wp2
          go_ret3
          exact digPost_bad HF.out ⟨rfl, hbel⟩
    · obtain rfl : k = 0 := by omega
      rw [Nat.sub_zero] at hown ⊢
      have HF : Hid (DigOk w false (rdig (bl s)) (.returned (.tuple #[.slice adb s.size capb, .bool false, .bool true])) wr) := by
        refine ⟨_, rfl, ?_, hbel⟩
        rw [rdig_length, bl_length]
        exact Sl.of_owns hown
      have HP : Hid (DigPost w s (.returned (.tuple #[.slice adb s.size capb, .bool false, .bool true])) wr) := by
        show DigPost _ _ _ _
        rw [DigPost, if_pos (by rw [HC.out]; exact Hall.out), HB.out, HNg.out]
        exact HF.out
      go_wp2
      go_ret3
      exact HP.out

set_option maxHeartbeats 1000000 in
set_option maxRecDepth 100000 in
theorem digits_pos_b (s : ByteArray) (w : World) (_hl : s.size ≤ 1100000) (h1 : 0 < s.size) (hm : s[0] ≠ 45) (h0 : s.size = 1) (hz : s[0] = 48) :
    Calls Tryz.prog 60 #[.string s] w (DigPost w s) := by
  obtain ⟨i0, hi, hz0, hz1, hz2⟩ := info_parts Tryz.info_int
  have e := bl_cons s h1
  have HC : Hid (canonI (bl s) = (bl s).all isDig) := by
    show _ = _
    have hh : (bl s).head? ≠ some 45 := by rw [e]; simpa using hm
    have hb : ((bl s).head? == some 45) = false := by simpa using hh
    rw [canonI, body, if_neg hh, isNeg, hb, canonD]
    have a1 : (bl s).isEmpty = false := by rw [e]; rfl
    have a2 : ((bl s).head? == some 48 && (decide (1 < (bl s).length) || false)) = false := by
      rw [bl_length, h0]; simp
    rw [a1, a2]; simp
  have HB : Hid (body (bl s) = bl s) := by show _ = _; rw [body, if_neg (by rw [e]; simpa using hm)]
  have HNg : Hid (isNeg (bl s) = false) := by show _ = _; rw [isNeg, e]; simpa using hm
  obtain ⟨c0, hc0⟩ : ∃ c, s[0] = c := ⟨_, rfl⟩
  rw [hc0] at hm hz
  have hm1 : ((c0.toNat : Int) == 45) = false := by simpa using fun hh : (c0.toNat : Int) = 45 => hm (UInt8.toNat_inj.1 (by simpa using (by omega : c0.toNat = 45)))
  have hne : ((s.size : Int) == 0) = false := by rw [beq_eq_false_iff_ne]; omega
  clear e hm
  have hq : ¬ 1 < s.size := by omega
  have hp : ((c0.toNat : Int) == 48) = true := by rw [hz]; rfl
  clear hz
  go_enter Tryz.func60, Tryz.ntmps60
  go_wp2_with fail
  go_loopw [7, 8] (fun ds i wr => ∃ (k : Nat) (adb : Option Addr) (capb : Nat), k ≤ s.size ∧ i = .int .i64 (k - 1) ∧ ds = .slice adb (s.size - k) capb ∧
      wr.ownsRow w.heap.size 3 1 (.slice adb (s.size - k) capb) (s.size - k) (nums .i64 (rdig ((bl s).drop k))) ∧ Hid (((bl s).drop k).all isDig = true) ∧ Below w.heap.size w wr)
    (fun _ i _ => (intOf i + 1).toNat)
  case atStart => exact ⟨s.size, none, 0, Nat.le_refl _, by go_num, by rw [Nat.sub_self], by rw [Nat.sub_self, List.drop_of_length_le (by rw [bl_length]; exact Nat.le_refl _)]; exact World.ownsRow_nil _ _ _ _, by show _ = _; rw [List.drop_of_length_le (by rw [bl_length]; exact Nat.le_refl _)]; rfl, Below.refl _ _⟩
  case round =>
    obtain ⟨k, adb, capb, hk, rfl, rfl, hown, Hall, hbel⟩ := hrel
    by_cases h0 : 0 < k
    · obtain ⟨k, rfl⟩ : ∃ k', k = k' + 1 := ⟨k - 1, by omega⟩
      have e1 : ((k + 1 : Nat) : Int) - 1 = (k : Int) := by omega
      rw [e1]
      have Hcons := Lib.hid (bl_drop_cons s k (by omega))
      have hkl : k < s.size := by omega
      obtain ⟨c, hc⟩ : ∃ c, s[k] = c := ⟨_, rfl⟩
      rw [hc] at Hcons
      have hcb : c.toNat < 256 := c.toNat_lt
      by_cases h1 : c.toNat < 48
      · have HF : Hid (canonI (bl s) = false) := by
          show _ = _
          rw [HC.out, Bool.eq_false_iff]
          intro hall
          have := all_drop_of_all isDig (bl s) k hall
          rw [Hcons.out] at this
          simp [isDig] at this
          omega
        have d1 : decide (((c.toNat : Nat) : Int) < 48) = true := by rw [decide_eq_true_eq]; omega
        have d1' : ¬ ((48 : Int) ≤ ((c.toNat : Nat) : Int)) := by omega
        go_wp2
        go_ret3
        exact digPost_bad HF.out ⟨rfl, hbel⟩
      · have d1 : decide (((c.toNat : Nat) : Int) < 48) = false := by rw [decide_eq_false_iff_not]; omega
        by_cases h2 : c.toNat ≤ 57
        · have d2 : decide ((57 : Int) < ((c.toNat : Nat) : Int)) = false := by rw [decide_eq_false_iff_not]; omega
          have Hall2 : Hid (((bl s).drop k).all isDig = true) := by
            show _ = true
            rw [Hcons.out, List.all_cons, Hall.out]
            simp [isDig]; omega
          have hsz := hbel.size
          have x1 : IntKind.u8.wrap ((c.toNat : Int) - 48) = ((c.toNat - 48 : Nat) : Int) := by
            rw [IntWalk.u8_in _ (by omega)]; omega
          obtain ⟨N, hN⟩ : ∃ N, s.size - (k + 1) = N := ⟨_, rfl⟩
          have hN1 : s.size - k = N + 1 := by omega
          have hNb : N ≤ 1100000 := by omega
          have HN1 := Lib.hid hN1
          rw [hN] at hown ⊢
          clear hN hN1
          go_wp2_with (at_builtin; refine wpList_append_own _ rfl _ _ 108 rfl w.heap.size 3 i0 (.int .i64 0) 1 8 Tryz.ul_ints hi hz0 hz1 hz2 rfl (by decide) _ _ _ rfl (hown.alloc _) ⟨wr.heap.size, 0, none⟩ 1 1 [_] rfl rfl (cell_one_new _ _ _) (int_oneCell _ _) ?d1 ?d2 ?d3 ?_)
          case d1 => unfold maxLen; omega
          case d2 => omega
          case d3 => simp; omega
          intro v2 w2 hown2 hgrow2 _
          have hbel2 : Below w.heap.size w w2 := (hbel.alloc hsz _).grown hgrow2 (by simp; omega) (fun k hk => (hown.lt k hk).1)
          have ed : ((c.toNat : Int) - 48) = ((c.toNat - 48 : Nat) : Int) := by omega
          try rw [ed] at hown2
          rw [nums_snoc, ← rdig_cons, ← Hcons.out, ← HN1.out] at hown2
          obtain ⟨ad3, cap3, rfl, _⟩ := Sl.of_owns hown2
          clear hgrow2 hown hbel
          go_wp2
          go_roundw
          case rel => exact ⟨k, ad3, cap3, by omega, by go_num, rfl, hown2, Hall2, hbel2⟩
          case measure => simp [intOf]
        · have d2 : decide ((57 : Int) < ((c.toNat : Nat) : Int)) = true := by rw [decide_eq_true_eq]; omega
          have d2' : ¬ (((c.toNat : Nat) : Int) ≤ 57) := by omega
          have HF : Hid (canonI (bl s) = false) := by
            show _ = _
            rw [HC.out, Bool.eq_false_iff]
            intro hall
            have := all_drop_of_all isDig (bl s) k hall
            rw [Hcons.out] at this
            simp [isDig] at this
            omega
          go_wp2
          go_ret3
          exact digPost_bad HF.out ⟨rfl, hbel⟩
    · obtain rfl : k = 0 := by omega
      rw [Nat.sub_zero] at hown ⊢
      have HF : Hid (DigOk w false (rdig (bl s)) (.returned (.tuple #[.slice adb s.size capb, .bool false, .bool true])) wr) := by
        refine ⟨_, rfl, ?_, hbel⟩
        rw [rdig_length, bl_length]
        exact Sl.of_owns hown
      have HP : Hid (DigPost w s (.returned (.tuple #[.slice adb s.size capb, .bool false, .bool true])) wr) := by
        show DigPost _ _ _ _
        rw [DigPost, if_pos (by rw [HC.out]; exact Hall.out), HB.out, HNg.out]
        exact HF.out
      go_wp2
      go_ret3
      exact HP.out

set_option maxHeartbeats 1000000 in
set_option maxRecDepth 100000 in
theorem digits_neg (s : ByteArray) (w : World) (hl : s.size ≤ 1100000) (h1 : 0 < s.size) (hm : s[0] = 45) (t : ByteArray) (ht : s.extract 1 s.size = t) (h2 : 0 < t.size) (h0 : t[0] ≠ 48) :
    Calls Tryz.prog 60 #[.string s] w (DigPost w s) := by
  obtain ⟨i0, hi, hz0, hz1, hz2⟩ := info_parts Tryz.info_int
  have e := bl_cons s h1
  have et := bl_tail s h1
  rw [ht] at et
  rw [hm, ← et] at e
  have HC : Hid (canonI (bl s) = (bl t).all isDig) := by
    show _ = _
    rw [canonI, e, body_neg, isNeg_neg, canonD]
    have a1 : (bl t).isEmpty = false := by rw [bl_cons t h2]; rfl
    have a2 : ((bl t).head? == some 48 && (decide (1 < (bl t).length) || true)) = false := by rw [bl_cons t h2]; simpa using h0
    rw [a1, a2]; simp
  have HB : Hid (body (bl s) = bl t) := by show _ = _; rw [e, body_neg]
  have HNg : Hid (isNeg (bl s) = true) := by show _ = _; rw [e, isNeg_neg]
  have hme : t.size ≤ 1100000 := by
    have := congrArg List.length et
    rw [bl_length, List.length_tail, bl_length] at this
    omega
  obtain ⟨c0, hc0⟩ : ∃ c, t[0] = c := ⟨_, rfl⟩
  rw [hc0] at h0
  have hp : ((c0.toNat : Int) == 48) = false := by simpa using fun hh : (c0.toNat : Int) = 48 => h0 (UInt8.toNat_inj.1 (by simpa using (by omega : c0.toNat = 48)))
  have hne : ((t.size : Int) == 0) = false := by rw [beq_eq_false_iff_ne]; omega
  clear e et h0
  go_enter Tryz.func60, Tryz.ntmps60
  go_wp2_with fail
  go_loopw [7, 8] (fun ds i wr => ∃ (k : Nat) (adb : Option Addr) (capb : Nat), k ≤ t.size ∧ i = .int .i64 (k - 1) ∧ ds = .slice adb (t.size - k) capb ∧
      wr.ownsRow w.heap.size 3 1 (.slice adb (t.size - k) capb) (t.size - k) (nums .i64 (rdig ((bl t).drop k))) ∧ Hid (((bl t).drop k).all isDig = true) ∧ Below w.heap.size w wr)
    (fun _ i _ => (intOf i + 1).toNat)
  case atStart => exact ⟨t.size, none, 0, Nat.le_refl _, by go_num, by rw [Nat.sub_self], by rw [Nat.sub_self, List.drop_of_length_le (by rw [bl_length]; exact Nat.le_refl _)]; exact World.ownsRow_nil _ _ _ _, by show _ = _; rw [List.drop_of_length_le (by rw [bl_length]; exact Nat.le_refl _)]; rfl, Below.refl _ _⟩
  case round =>
    obtain ⟨k, adb, capb, hk, rfl, rfl, hown, Hall, hbel⟩ := hrel
    by_cases h0 : 0 < k
    · obtain ⟨k, rfl⟩ : ∃ k', k = k' + 1 := ⟨k - 1, by omega⟩
      have e1 : ((k + 1 : Nat) : Int) - 1 = (k : Int) := by omega
      rw [e1]
      have Hcons := Lib.hid (bl_drop_cons t k (by omega))
      have hkl : k < t.size := by omega
      obtain ⟨c, hc⟩ : ∃ c, t[k] = c := ⟨_, rfl⟩
      rw [hc] at Hcons
      have hcb : c.toNat < 256 := c.toNat_lt
      by_cases h1 : c.toNat < 48
      · have HF : Hid (canonI (bl s) = false) := by
          show _ = _
          rw [HC.out, Bool.eq_false_iff]
          intro hall
          have := all_drop_of_all isDig (bl t) k hall
          rw [Hcons.out] at this
          simp [isDig] at this
          omega
        have d1 : decide (((c.toNat : Nat) : Int) < 48) = true := by rw [decide_eq_true_eq]; omega
        have d1' : ¬ ((48 : Int) ≤ ((c.toNat : Nat) : Int)) := by omega
        go_wp2
        go_ret3
        exact digPost_bad HF.out ⟨rfl, hbel⟩
      · have d1 : decide (((c.toNat : Nat) : Int) < 48) = false := by rw [decide_eq_false_iff_not]; omega
        by_cases h2 : c.toNat ≤ 57
        · have d2 : decide ((57 : Int) < ((c.toNat : Nat) : Int)) = false := by rw [decide_eq_false_iff_not]; omega
          have Hall2 : Hid (((bl t).drop k).all isDig = true) := by
            show _ = true
            rw [Hcons.out, List.all_cons, Hall.out]
            simp [isDig]; omega
          have hsz := hbel.size
          have x1 : IntKind.u8.wrap ((c.toNat : Int) - 48) = ((c.toNat - 48 : Nat) : Int) := by
            rw [IntWalk.u8_in _ (by omega)]; omega
          obtain ⟨N, hN⟩ : ∃ N, t.size - (k + 1) = N := ⟨_, rfl⟩
          have hN1 : t.size - k = N + 1 := by omega
          have hNb : N ≤ 1100000 := by omega
          have HN1 := Lib.hid hN1
          rw [hN] at hown ⊢
          clear hN hN1
          go_wp2_with (at_builtin; refine wpList_append_own _ rfl _ _ 108 rfl w.heap.size 3 i0 (.int .i64 0) 1 8 Tryz.ul_ints hi hz0 hz1 hz2 rfl (by decide) _ _ _ rfl (hown.alloc _) ⟨wr.heap.size, 0, none⟩ 1 1 [_] rfl rfl (cell_one_new _ _ _) (int_oneCell _ _) ?d1 ?d2 ?d3 ?_)
          case d1 => unfold maxLen; omega
          case d2 => omega
          case d3 => simp; omega
          intro v2 w2 hown2 hgrow2 _
          have hbel2 : Below w.heap.size w w2 := (hbel.alloc hsz _).grown hgrow2 (by simp; omega) (fun k hk => (hown.lt k hk).1)
          have ed : ((c.toNat : Int) - 48) = ((c.toNat - 48 : Nat) : Int) := by omega
          try rw [ed] at hown2
          rw [nums_snoc, ← rdig_cons, ← Hcons.out, ← HN1.out] at hown2
          obtain ⟨ad3, cap3, rfl, _⟩ := Sl.of_owns hown2
          clear hgrow2 hown hbel
          go_wp2
          go_roundw
          case rel => exact ⟨k, ad3, cap3, by omega, by go_num, rfl, hown2, Hall2, hbel2⟩
          case measure => simp [intOf]
        · have d2 : decide ((57 : Int) < ((c.toNat : Nat) : Int)) = true := by rw [decide_eq_true_eq]; omega
          have d2' : ¬ (((c.toNat : Nat) : Int) ≤ 57) := by omega
          have HF : Hid (canonI (bl s) = false) := by
            show _ = _
            rw [HC.out, Bool.eq_false_iff]
            intro hall
            have := all_drop_of_all isDig (bl t) k hall
            rw [Hcons.out] at this
            simp [isDig] at this
            omega
          go_wp2
          go_ret3
          exact digPost_bad HF.out ⟨rfl, hbel⟩
    · obtain rfl : k = 0 := by omega
      rw [Nat.sub_zero] at hown ⊢
      have HF : Hid (DigOk w true (rdig (bl t)) (.returned (.tuple #[.slice adb t.size capb, .bool true, .bool true])) wr) := by
        refine ⟨_, rfl, ?_, hbel⟩
        rw [rdig_length, bl_length]
        exact Sl.of_owns hown
      have HP : Hid (DigPost w s (.returned (.tuple #[.slice adb t.size capb, .bool true, .bool true])) wr) := by
        show DigPost _ _ _ _
        rw [DigPost, if_pos (by rw [HC.out]; exact Hall.out), HB.out, HNg.out]
        exact HF.out
      go_wp2
      go_ret3
      exact HP.out

/-- novationref01.Digits. -/
theorem digits_any (s : ByteArray) (w : World) (hl : s.size ≤ 1100000) :
    Calls Tryz.prog 60 #[.string s] w (DigPost w s) := by
  have bad : canonI (bl s) = false → Calls Tryz.prog 60 #[.string s] w (DigBad w) → Calls Tryz.prog 60 #[.string s] w (DigPost w s) :=
    fun h k => k.mono fun e w' hb => digPost_bad h hb
  by_cases h1 : 0 < s.size
  · have e := bl_cons s h1
    by_cases hm : s[0] = 45
    · have et := bl_tail s h1
      by_cases h2 : 0 < (s.extract 1 s.size).size
      · by_cases h0 : (s.extract 1 s.size)[0] = 48
        · refine bad ?_ (digits_neg48 s w hl h1 hm _ rfl h2 h0)
          have e2 := bl_cons _ h2
          rw [h0] at e2
          rw [e, hm, ← et, e2]; simp [canonI, body, isNeg, canonD]
        · exact digits_neg s w hl h1 hm _ rfl h2 h0
      · refine bad ?_ (digits_neg0 s w hl h1 hm _ rfl (by omega))
        have e2 : bl (s.extract 1 s.size) = [] := List.eq_nil_of_length_eq_zero (by rw [bl_length]; omega)
        rw [e, hm, ← et, e2]; rfl
    · by_cases h0 : s[0] = 48
      · by_cases h2 : 1 < s.size
        · refine bad ?_ (digits_zero s w hl h2 h0)
          have hn : (bl s).tail ≠ [] := fun hh => by have := congrArg List.length e; rw [hh, bl_length] at this; simp at this; omega
          rw [e, h0]
          cases ht : (bl s).tail with
          | nil => exact absurd ht hn
          | cons a b => simp [canonI, body, isNeg, canonD]
        · exact digits_pos_b s w hl h1 hm (by omega) h0
      · exact digits_pos_a s w hl h1 hm h0
  · refine bad ?_ (digits_empty s w (by omega))
    have : bl s = [] := List.eq_nil_of_length_eq_zero (by rw [bl_length]; omega)
    rw [this]; rfl
end Go.Proofs.YtofbngpckllkoacGreat

namespace Go.Proofs.YtofbngpckllkoacGreat
open Go.RowKit

theorem ofNat_dig {d : Nat} (h : d < 10) : (UInt8.ofNat (48 + d)).toNat = 48 + d := by
  rw [UInt8.toNat_ofNat']
  exact Nat.mod_eq_of_lt (by omega)
theorem asc_dig {D : List Nat} (h : Dig 10 D) : (asc D).all isDig = true := by
  rw [List.all_eq_true]
  intro c hc
  obtain ⟨d, hd, rfl⟩ := List.mem_map.1 hc
  have := h d hd
  rw [isDig, ofNat_dig this]; simp; omega
theorem rdig_asc {D : List Nat} (h : Dig 10 D) : rdig (asc D.reverse) = D := by
  have e : (asc D.reverse).map (fun c => c.toNat - 48) = D.reverse := by
    rw [asc, List.map_map]
    conv => rhs; rw [← List.map_id D.reverse]
    apply List.map_congr_left
    intro d hd
    have := h d (List.mem_reverse.1 hd)
    simp only [Function.comp, ofNat_dig this, id]; omega
  rw [rdig, e, List.reverse_reverse]
theorem dval_asc {D : List Nat} (h : Dig 10 D) : dval (asc D.reverse) = val 10 D := by rw [← rdig_val, rdig_asc h]
theorem Dig.rev {D : List Nat} (h : Dig 10 D) : Dig 10 D.reverse := fun x hx => h x (List.mem_reverse.1 hx)
theorem asc_head {D : List Nat} (h : Nrm 10 D) (hne : D ≠ []) : ∃ c l, asc D.reverse = c :: l ∧ c ≠ 48 ∧ c ≠ 45 := by
  obtain ⟨d, hd⟩ : ∃ d, D.getLast? = some d := by
    cases hD : D.getLast? with
    | none => exact absurd (List.getLast?_eq_none_iff.1 hD) hne
    | some d => exact ⟨d, rfl⟩
  have hd0 : d ≠ 0 := fun e => h.2 (by rw [hd, e])
  have hdm := List.mem_of_getLast? hd
  have hd10 := h.1 d hdm
  have hr : D.reverse.head? = some d := by rw [List.head?_reverse]; exact hd
  cases hR : D.reverse with
  | nil => rw [hR] at hr; cases hr
  | cons x t =>
    rw [hR] at hr
    cases hr
    refine ⟨UInt8.ofNat (48 + d), asc t, rfl, ?_, ?_⟩
    · intro e
      have := congrArg UInt8.toNat e
      rw [ofNat_dig hd10] at this
      have h48 : (48 : UInt8).toNat = 48 := rfl
      omega
    · intro e
      have := congrArg UInt8.toNat e
      rw [ofNat_dig hd10] at this
      have h45 : (45 : UInt8).toNat = 45 := rfl
      omega
theorem istr_ne {n : Nat} (neg : Bool) (h : n ≠ 0) : istr neg n = (if neg then [45] else []) ++ asc (dig10 n).reverse := by rw [istr, if_neg h]
theorem body_istr {n : Nat} (neg : Bool) (h : n ≠ 0) : body (istr neg n) = asc (dig10 n).reverse ∧ isNeg (istr neg n) = neg := by
  obtain ⟨c, l, e, h1, h2⟩ := asc_head (dig10_nrm n) (dig10_ne h)
  rw [istr_ne neg h, e]
  cases neg <;> simp [body, isNeg, h2]
theorem dval_istr (neg : Bool) (n : Nat) : dval (body (istr neg n)) = n := by
  by_cases h : n = 0
  · subst h; cases neg <;> decide
  · rw [(body_istr neg h).1, dval_asc (dig10_nrm n).1, dig10_val]
theorem isNeg_istr (neg : Bool) (n : Nat) : isNeg (istr neg n) = (neg && decide (n ≠ 0)) := by
  by_cases h : n = 0
  · subst h; cases neg <;> decide
  · rw [(body_istr neg h).2]; simp [h]
theorem canon_istr (neg : Bool) (n : Nat) : canonI (istr neg n) = true := by
  by_cases h : n = 0
  · subst h; cases neg <;> decide
  · obtain ⟨c, l, e, h1, h2⟩ := asc_head (dig10_nrm n) (dig10_ne h)
    have ha := asc_dig (dig10_nrm n).1.rev
    rw [canonI, (body_istr neg h).1, (body_istr neg h).2, canonD, ha, e]
    simp [h1]
theorem len_istr (neg : Bool) (n : Nat) : (body (istr neg n)).length = if n = 0 then 1 else (dig10 n).length := by
  by_cases h : n = 0
  · subst h; cases neg <;> decide
  · rw [(body_istr neg h).1, if_neg h]; simp [asc]
theorem intErr_istr (neg : Bool) (n : Nat) : intErr (istr neg n) = wErr n := by
  rw [intErr, if_pos (canon_istr neg n), len_istr, wErr]
  by_cases h : n = 0
  · subst h; rfl
  · rw [if_neg h]
theorem ival_istr (neg : Bool) (n : Nat) : ival (istr neg n) = sgnv neg n := by
  rw [ival, dval_istr, isNeg_istr]
  by_cases h : n = 0
  · subst h; cases neg <;> rfl
  · simp [h]
/-- A text without an error is the text of its number. -/
theorem intErr_text {l : List UInt8} (h : intErr l = 0) : dval (body l) < ten 1000 := dval_body_lt h

theorem asc_rdig {d : List UInt8} (h : d.all isDig = true) : asc (rdig d).reverse = d := by
  rw [rdig, List.reverse_reverse, asc, List.map_map]
  conv => rhs; rw [← List.map_id d]
  apply List.map_congr_left
  intro c hc
  have h1 := (List.all_eq_true.1 h) c hc
  simp [isDig] at h1
  simp only [Function.comp, id]
  apply UInt8.toNat_inj.1
  rw [UInt8.toNat_ofNat']
  have := c.toNat_lt
  rw [Nat.mod_eq_of_lt (by omega)]
  omega
theorem canonD_text {d : List UInt8} {neg : Bool} (h : canonD d neg = true) : istr neg (dval d) = (if neg then [45] else []) ++ d := by
  rw [canonD] at h
  simp only [Bool.and_eq_true, Bool.not_eq_true'] at h
  obtain ⟨⟨h1, h2⟩, h3⟩ := h
  cases d with
  | nil => simp at h1
  | cons c t =>
    by_cases hc : c = 48
    · subst hc
      simp at h3
      obtain ⟨h3, rfl⟩ := h3
      obtain rfl : t = [] := h3
      rfl
    · have hN : Nrm 10 (rdig (c :: t)) := by
        refine ⟨rdig_dig h2, ?_⟩
        rw [rdig_cons, List.getLast?_append]
        simp
        have h4 := (List.all_eq_true.1 h2) c (by simp)
        simp [isDig] at h4
        intro e
        apply hc
        apply UInt8.toNat_inj.1
        show c.toNat = 48
        omega
      have hne : rdig (c :: t) ≠ [] := by rw [rdig_cons]; simp
      have hv : dval (c :: t) ≠ 0 := by
        rw [← rdig_val]; exact fun e => hne ((hN.val_zero (by decide)).1 e)
      rw [istr_ne neg hv, ← rdig_val, dig10_of hN, asc_rdig h2]
/-- A canonical text is the text of its number. -/
theorem canon_text {l : List UInt8} (h : canonI l = true) : istr (isNeg l) (dval (body l)) = l := by
  rw [canonI] at h
  rw [canonD_text h]
  cases l with
  | nil => rfl
  | cons c t =>
    by_cases hc : c = 45
    · subst hc; rfl
    · simp [isNeg, body, hc]
end Go.Proofs.YtofbngpckllkoacGreat

namespace Go.Proofs.YtofbngpckllkoacGreat
open Go.RowKit

/-- Numerator and denominator as they are written. -/
def numS (s : ByteArray) : ByteArray := if slashI s = -1 then s else s.extract 0 (slashI s).toNat
def denS (s : ByteArray) : ByteArray := if slashI s = -1 then ⟨#[49]⟩ else s.extract ((slashI s).toNat + 1) s.size
def pN (s : ByteArray) : ByteArray := if ratErr s = 0 then numS s else ⟨#[]⟩
def pD (s : ByteArray) : ByteArray := if ratErr s = 0 then denS s else ⟨#[]⟩
def PartsPost (w : World) (n d : ByteArray) (er : Int) (e : Ending) (w' : World) : Prop := e = .returned (.tuple #[.string n, .string d, .int .i64 er]) ∧ Below w.heap.size w w'

theorem numS_size (s : ByteArray) : (numS s).size ≤ s.size := by
  unfold numS; split
  · exact Nat.le_refl _
  · rw [← bl_length, bl_extract, List.length_take, List.length_drop, bl_length]; omega
theorem denS_size (s : ByteArray) : (denS s).size ≤ s.size + 1 := by
  unfold denS; split
  · show 1 ≤ _; omega
  · rw [← bl_length, bl_drop, List.length_drop, bl_length]; omega
theorem rat_parts {s : ByteArray} (h : ratErr s = 0) : intErr (bl (numS s)) = 0 ∧ intErr (bl (denS s)) = 0 ∧ isNeg (bl (denS s)) = false ∧ dval (body (bl (denS s))) ≠ 0 := by
  rcases slash_cases s with h1 | ⟨o, h1, ho⟩
  · rw [ratErr, if_pos h1] at h
    unfold numS denS
    rw [if_pos h1, if_pos h1]
    exact ⟨h, by decide, by decide, by decide⟩
  · have hne : ¬ slashI s = -1 := by rw [h1]; omega
    rw [ratErr, if_neg hne, h1] at h
    unfold numS denS
    rw [if_neg hne, if_neg hne, h1, bl_extract, bl_drop]
    rw [Int.toNat_natCast] at h ⊢
    rw [List.drop_zero, Nat.sub_zero]
    generalize (bl s).take o = n at h ⊢
    generalize (bl s).drop (o + 1) = d at h ⊢
    unfold fracErr at h
    split at h
    · cases h
    · split at h
      · cases h
      · split at h
        · cases h
        · split at h
          · cases h
          · rename_i c1 c2 c3 c4
            have c5 : d ≠ [49] := fun e => by rw [if_pos e] at h; cases h
            rw [if_neg c5] at h
            have hn : intErr n = 0 := by
              rcases Int.decEq (intErr n) 0 with k | k
              · rw [if_pos k] at h; cases h
              · exact k
            rw [if_neg (fun k => k hn)] at h
            have hd : intErr d = 0 := by
              rcases Int.decEq (intErr d) 0 with k | k
              · rw [if_pos k] at h; cases h
              · exact k
            have hneg : isNeg d = false := by
              simp only [isNeg, beq_eq_false_iff_ne]; exact c3
            refine ⟨hn, hd, hneg, fun e => c4 ?_⟩
            have hc := (intErr_zero hd).1
            have := canon_text hc
            rw [hneg, e] at this
            exact this.symm

set_option maxHeartbeats 1000000 in
set_option maxRecDepth 100000 in
theorem parts_err (s : ByteArray) (w : World) (er : Int) (h : er ≠ 0) (C : Hid (∀ W, Calls Tryz.prog 29 #[.string s] W (RatPost W er))) :
    Calls Tryz.prog 68 #[.string s] w (PartsPost w ⟨#[]⟩ ⟨#[]⟩ er) := by
  have h2 : (er != 0) = true := by rw [bne_iff_ne]; exact h
  clear h
  go_enter Tryz.func68, Tryz.ntmps68
  go_wp2_with fail
  refine (C.out _).mono ?_
  rintro e w1 ⟨rfl, hb1⟩
  go_wp2
  go_ret3
  exact ⟨rfl, hb1⟩

set_option maxHeartbeats 1000000 in
set_option maxRecDepth 100000 in
theorem parts_ok (s a b : ByteArray) (f : Bool) (w : World) (C : Hid (∀ W, Calls Tryz.prog 29 #[.string s] W (RatPost W 0)))
    (HS : Hid (∀ W, Calls Tryz.prog 55 #[.string s] W (CutPost W a b f))) :
    Calls Tryz.prog 68 #[.string s] w (PartsPost w a (if f then b else ⟨#[49]⟩) 0) := by
  cases f
  all_goals
    go_enter Tryz.func68, Tryz.ntmps68
    go_wp2_with fail
    refine (C.out _).mono ?_
    rintro e w1 ⟨rfl, hb1⟩
    go_wp2_with fail
    refine (HS.out _).mono ?_
    rintro e w2 ⟨rfl, n, rfl⟩
    have hb2 := below_drewN hb1 n
    go_wp2
    go_ret3
    exact ⟨rfl, hb2⟩

theorem parts_any (s : ByteArray) (w : World) (hs : s.size ≤ 4611686018427387904) :
    Calls Tryz.prog 68 #[.string s] w (PartsPost w (pN s) (pD s) (ratErr s)) := by
  have C := Lib.hid (fun W => rat_any s W hs)
  unfold pN pD
  by_cases h : ratErr s = 0
  · rw [if_pos h, if_pos h]
    rw [h] at C ⊢
    rcases slash_cases s with h1 | ⟨o, h1, ho⟩
    · have := parts_ok s s ⟨#[]⟩ false w C (Lib.hid fun W => split_none s W h1)
      unfold numS denS
      rw [if_pos h1, if_pos h1]
      exact this
    · have := parts_ok s _ _ true w C (Lib.hid fun W => split_some s W o h1 ho hs)
      unfold numS denS
      have hne : ¬ slashI s = -1 := by rw [h1]; omega
      rw [if_neg hne, if_neg hne, h1]
      exact this
  · rw [if_neg h, if_neg h]
    exact parts_err s w _ h C
end Go.Proofs.YtofbngpckllkoacGreat

namespace Go.Proofs.YtofbngpckllkoacGreat
open Go.RowKit

def DivOk (w : World) (z : Int) (e : Ending) (w' : World) : Prop := ∃ t u, e = .returned (.tuple #[.string t, .string u, .int .i64 0]) ∧ bl t = zStr z ∧ bl u = [48] ∧ Below w.heap.size w w'

set_option maxHeartbeats 2000000 in
set_option maxRecDepth 100000 in
theorem divmod_ok (a b : ByteArray) (w : World) (ha : a.size ≤ 9223372036854775807) (hb : b.size ≤ 9223372036854775807) (h0 : intErr (bl a) = 0) (h : intErr (bl b) = 0) (hy0 : dval (body (bl b)) ≠ 0) (hd : dval (body (bl b)) ∣ dval (body (bl a))) :
    Calls Tryz.prog 91 #[.string a, .string b] w (DivOk w (sgnv (!(isNeg (bl a) == isNeg (bl b))) (dval (body (bl a)) / dval (body (bl b))))) := by
  have HC := Lib.hid (fun W => pair_ok a b W ha hb h0 h)
  have HA := Lib.hid (dval_body_lt h0)
  have HB := Lib.hid (dval_body_lt h)
  clear ha hb h0 h
  go_enter Tryz.func91, Tryz.ntmps91
  go_wp2_with fail
  refine (HC.out _).mono ?_
  rintro e w1 ⟨va, vb, xs, ys, rfl, sa, sb, nx, ny, vx, vy, hb1⟩
  have HZ : Hid (sgnv (!(isNeg (bl a) == isNeg (bl b))) (dval (body (bl a)) / dval (body (bl b))) = sgnv (!(isNeg (bl a) == isNeg (bl b))) (val 1000000000 xs / val 1000000000 ys)) := by show _ = _; rw [vx, vy]
  rw [← vx] at hd
  rw [← vy] at hd hy0
  rw [← vx] at HA
  rw [← vy] at HB
  clear vx vy HC
  generalize isNeg (bl a) = na at *
  generalize isNeg (bl b) = nb at *
  obtain ⟨aa, ca, rfl, _⟩ := id sa
  obtain ⟨ab, cb, rfl, _⟩ := id sb
  have hb0 : Below w1.heap.size w1 ((w1.alloc (.cells #[.bool na, .slice aa xs.length ca] 121)).alloc (.cells #[.bool nb, .slice ab ys.length cb] 121)) := below_a2 _ _ _
  have bx : Boxed2 ((w1.alloc (.cells #[.bool na, .slice aa xs.length ca] 121)).alloc (.cells #[.bool nb, .slice ab ys.length cb] 121)) w1.heap.size 121 (.bool na) (.slice aa xs.length ca) := (Boxed2.new _ _ _ _).alloc _
  have by1 : Boxed2 ((w1.alloc (.cells #[.bool na, .slice aa xs.length ca] 121)).alloc (.cells #[.bool nb, .slice ab ys.length cb] 121)) (w1.heap.size + 1) 121 (.bool nb) (.slice ab ys.length cb) := by
    have h := Boxed2.new (w1.alloc (.cells #[.bool na, .slice aa xs.length ca] 121)) (.bool nb) (.slice ab ys.length cb) 121
    simp at h
    exact h
  have hbW := hb1.trans (hb0.mono hb1.size)
  have sa0 := Lib.hid (sa.below hb0)
  have sb0 := Lib.hid (sb.below hb0)
  have lx := grp_len nx HA.out
  have ly := grp_len ny HB.out
  have x0 := bx.cell0
  have x1 := bx.cell1
  have y0 := by1.cell0
  have y1 := by1.cell1
  have BY := Lib.hid by1
  clear bx by1 hb0 hb1 sa sb
  have hyne : ys ≠ [] := fun e => hy0 ((ny.val_zero (by decide)).2 e)
  have hylen : 0 < ys.length := List.length_pos_iff.2 hyne
  have HD := Lib.hid (divide_any _ _ xs ys _ sa0.out sb0.out nx ny (by omega) (by omega) hyne)
  have Hdv := Lib.hid hd
  have tq : ((ys.length : Int) == 0) = false := by rw [beq_eq_false_iff_ne]; omega
  clear nx ny hyne hy0 hd
  go_wp2_with fail
  refine HD.out.mono ?_
  rintro e w2 ⟨vq, vr, qs, rs, rfl, sq, sr, nq, nr, eq, er, hb2⟩
  obtain rfl : rs = [] := (nr.val_zero (by decide)).1 (by rw [er]; exact Nat.mod_eq_zero_of_dvd Hdv.out)
  obtain ⟨ar, cr, rfl, _⟩ := id sr
  obtain ⟨aq, cq, rfl, _⟩ := id sq
  have hqlt : val 1000000000 qs < ten 1000 := by rw [eq]; exact Nat.lt_of_le_of_lt (Nat.div_le_self _ _) HA.out
  have hz1 : w1.heap.size + 1 < ((w1.alloc (.cells #[.bool na, .slice aa xs.length ca] 121)).alloc (.cells #[.bool nb, .slice ab ys.length cb] 121)).heap.size := BY.out.lt
  have x0' : w2.cell? ⟨w1.heap.size, 0, none⟩ = some (.bool na) := by rw [hb2.cell (Nat.lt_of_succ_lt hz1)]; exact x0
  have y0' : w2.cell? ⟨w1.heap.size + 1, 0, none⟩ = some (.bool nb) := by rw [hb2.cell hz1]; exact y0
  have E0 := wErr_zero hqlt
  have hE : Hid (wErr (val 1000000000 qs) = 0) := (E0 false).1
  have HR := Lib.hid (fun W (h : Below w2.heap.size w2 W) => write_any false _ [] W (sr.below h) nr (by decide))
  have hbz2 := hbW.trans (hb2.mono hbW.size)
  have hE0 : Hid (wErr (val 1000000000 []) = 0) := by show _ = _; decide
  have hS0 : Hid (wStr false (val 1000000000 []) = [48]) := by show _ = _; decide
  have HW := Lib.hid (fun neg => write_any neg _ qs w2 sq nq (by have := grp_len nq hqlt; omega))
  have hS : Hid (∀ neg, wStr neg (val 1000000000 qs) = zStr (sgnv neg (val 1000000000 xs / val 1000000000 ys))) := fun neg => by rw [← eq]; exact wStr_sgnv _ _
  clear eq er sq sr nq nr HD x0 x1 y0 y1 hb2 hqlt E0 HA HB
  cases na
  case false =>
    go_wp2_with fail
    refine (HW.out nb).mono ?_
    rintro e w3 ⟨t, rfl, ht, hb3⟩
    rw [hE.out]
    have Ht : Hid (bl t = zStr (sgnv nb (val 1000000000 xs / val 1000000000 ys))) := ht.trans (hS.out nb)
    have HR3 := Lib.hid (HR.out w3 hb3)
    have hbz3 := hbz2.trans (hb3.mono hbz2.size)
    clear ht HW HR hb3 hbz2
    go_wp2_with fail
    refine HR3.out.mono ?_
    rintro e w4 ⟨u, rfl, hu, hb4⟩
    rw [hE0.out]
    have Hu := Lib.hid (hu.trans hS0.out)
    have hbz4 := hbz3.trans (hb4.mono hbz3.size)
    clear hu hb4 hbz3
    go_wp2
    go_ret3
    rw [HZ.out]
    exact ⟨t, u, rfl, by rw [Ht.out]; simp, Hu.out, hbz4⟩
  case true =>
    go_wp2_with fail
    refine (HW.out (!nb)).mono ?_
    rintro e w3 ⟨t, rfl, ht, hb3⟩
    rw [hE.out]
    have Ht : Hid (bl t = zStr (sgnv (!nb) (val 1000000000 xs / val 1000000000 ys))) := ht.trans (hS.out (!nb))
    have HR3 := Lib.hid (HR.out w3 hb3)
    have hbz3 := hbz2.trans (hb3.mono hbz2.size)
    clear ht HW HR hb3 hbz2
    go_wp2_with fail
    refine HR3.out.mono ?_
    rintro e w4 ⟨u, rfl, hu, hb4⟩
    rw [hE0.out]
    have Hu := Lib.hid (hu.trans hS0.out)
    have hbz4 := hbz3.trans (hb4.mono hbz3.size)
    clear hu hb4 hbz3
    go_wp2
    go_ret3
    rw [HZ.out]
    exact ⟨t, u, rfl, by rw [Ht.out]; simp, Hu.out, hbz4⟩
end Go.Proofs.YtofbngpckllkoacGreat
