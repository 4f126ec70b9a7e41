/-
  novationref08.Name.  Printed by tools/genrefname.py. novationref02: Slash, written. novationref02.Check.  Printed by tools/genrefrat.py.
-/
import Derived.Test.YtofbngpckllkoacGreatPart01
import Derived.Test.YtofbngpckllkoacGreatPart02
import Derived.Test.YtofbngpckllkoacGreatPart11
import Derived.Test.YtofbngpckllkoacGreatPart06
namespace Go.Proofs.YtofbngpckllkoacGreat
open Go.RowKit

theorem isNm_of {l : List UInt8} (h1 : 0 < l.length) (h2 : l.length ≤ 40) (h3 : l.head?.any isLet = true) (h4 : l.all isNmc = true) : isNm l = true := by
  have a1 : decide (1 ≤ l.length) = true := by rw [decide_eq_true_eq]; omega
  have a2 : decide (l.length ≤ 40) = true := by rw [decide_eq_true_eq]; omega
  rw [isNm, a1, a2, h3, h4]; rfl
theorem isNm_no_all {l : List UInt8} (h : l.all isNmc = false) : isNm l = false := by simp [isNm, h]
theorem isNm_no_head {l : List UInt8} (h : l.head?.any isLet = false) : isNm l = false := by simp [isNm, h]
theorem oth_true {c : UInt8} (h : (48 ≤ c.toNat ∧ c.toNat ≤ 57) ∨ c.toNat = 95 ∨ c.toNat = 45) : isOth c = true := by
  rw [isOth, isDig]; simp only [Bool.or_eq_true, decide_eq_true_eq]; exact h
theorem oth_false {c : UInt8} (h : ¬ (48 ≤ c.toNat ∧ c.toNat ≤ 57)) (h1 : c.toNat ≠ 95) (h2 : c.toNat ≠ 45) : isOth c = false := by
  rw [isOth, isDig]; simp only [Bool.or_eq_false_iff, decide_eq_false_iff_not]; exact ⟨h, h1, h2⟩
theorem byte_cases (c : UInt8) : c.toNat < 45 ∨ c.toNat = 45 ∨ (45 < c.toNat ∧ c.toNat < 48) ∨ (48 ≤ c.toNat ∧ c.toNat ≤ 57) ∨ (57 < c.toNat ∧ c.toNat < 65) ∨ (65 ≤ c.toNat ∧ c.toNat ≤ 90) ∨ (90 < c.toNat ∧ c.toNat < 95) ∨ c.toNat = 95 ∨ c.toNat = 96 ∨ (97 ≤ c.toNat ∧ c.toNat ≤ 122) ∨ 122 < c.toNat := by
  have := c.toNat_lt
  omega

set_option maxRecDepth 100000 in
theorem rname_no (s : ByteArray) (w : World) (h : s.size = 0 ∨ 40 < s.size) (hl : s.size ≤ 9223372036854775807) :
    Calls Tryz.prog 30 #[.string s] w fun e w' => e = .returned (.bool (isNm (bl s))) ∧ w = w' := by
  have HR : Hid (isNm (bl s) = false) := by
    show _ = _
    rcases h with h | h
    · exact isNm_short (by rw [bl_length]; exact h)
    · exact isNm_long (by rw [bl_length]; exact h)
  rcases h with h | h
  · have d1 : ((s.size : Int) == 0) = true := by simp [h]
    clear h
    go_enter Tryz.func30, Tryz.ntmps30
    go_wp2
    go_ret
    exact ⟨ret_bool' HR.out.symm, rfl⟩
  · have d1 : ((s.size : Int) == 0) = false := by rw [beq_eq_false_iff_ne]; omega
    have d2 : decide ((40 : Int) < (s.size : Int)) = true := by rw [decide_eq_true_eq]; omega
    clear hl
    go_enter Tryz.func30, Tryz.ntmps30
    go_wp2
    go_ret
    exact ⟨ret_bool' HR.out.symm, rfl⟩

set_option maxHeartbeats 2000000 in
set_option maxRecDepth 100000 in
theorem rname_loop (s : ByteArray) (w : World) (h1 : 0 < s.size) (h2 : s.size ≤ 40) :
    Calls Tryz.prog 30 #[.string s] w fun e w' => e = .returned (.bool (isNm (bl s))) ∧ w = w' := by
  have d1 : ((s.size : Int) == 0) = false := by rw [beq_eq_false_iff_ne]; omega
  have d2 : decide ((40 : Int) < (s.size : Int)) = false := by rw [decide_eq_false_iff_not]; omega
  go_enter Tryz.func30, Tryz.ntmps30
  go_wp2
  go_loop [3] (fun i => ∃ k : Nat, k ≤ s.size ∧ i = .int .i64 k ∧ Hid (((bl s).take k).all isNmc = true ∧ (0 < k → (bl s).head?.any isLet = true))) (fun i => s.size - (intOf i).toNat)
  case atStart => exact ⟨0, Nat.zero_le _, rfl, ⟨rfl, fun h => absurd h (Nat.lt_irrefl _)⟩⟩
  case round =>
    obtain ⟨k, hk, rfl, Hall⟩ := hrel
    clear d1 d2
    by_cases hlt : k < s.size
    · have Hs := Lib.hid (take_succ_all isNmc s k hlt)
      have Hh : Hid (k = 0 → (bl s).head?.any isLet = isLet s[k]) := by
        intro h; subst h; rw [bl_cons s h1]; rfl
      obtain ⟨c, hc⟩ : ∃ c, s[k] = c := ⟨_, rfl⟩
      rw [hc] at Hs Hh
      rcases byte_cases c with h | h | h | h | h | h | h | h | h | h | h
      · have hl : isLet c = false := by rw [isLet]; simp; omega
        have ho : isOth c = false := oth_false (by omega) (by omega) (by omega)
        have t1 : decide ((97 : Int) ≤ ((c.toNat : Nat) : Int)) = false := by rw [decide_eq_false_iff_not]; omega
        have t3 : decide ((65 : Int) ≤ ((c.toNat : Nat) : Int)) = false := by rw [decide_eq_false_iff_not]; omega
        have t5 : decide ((48 : Int) ≤ ((c.toNat : Nat) : Int)) = false := by rw [decide_eq_false_iff_not]; omega
        have t7 : (((c.toNat : Nat) : Int) == 95) = false := by rw [beq_eq_false_iff_ne]; omega
        have t8 : (((c.toNat : Nat) : Int) == 45) = false := by rw [beq_eq_false_iff_ne]; omega
        clear h
        have HL := Lib.hid hl
        have HO := Lib.hid ho
        by_cases hk0 : k = 0
        · have t9 : ((k : Int) == 0) = true := by rw [beq_iff_eq]; omega
          have HK := Lib.hid hk0
          clear hk0
          have Hno : Hid (isNm (bl s) = false) := by show _ = _; exact isNm_no_head (by rw [Hh.out HK.out]; exact HL.out)
          clear hl ho
          go_wp2
          go_ret
          exact ⟨ret_bool' Hno.out.symm, rfl⟩
        · have t9 : ((k : Int) == 0) = false := by rw [beq_eq_false_iff_ne]; omega
          have Hno : Hid (isNm (bl s) = false) := by show _ = _; exact isNm_no_all (all_false_of_take (k := k + 1) (by rw [Hs.out, isNmc, HL.out, HO.out]; simp))
          clear hl ho
          go_wp2
          go_ret
          exact ⟨ret_bool' Hno.out.symm, rfl⟩
      · have hl : isLet c = false := by rw [isLet]; simp; omega
        have ho : isOth c = true := oth_true (by omega)
        have t1 : decide ((97 : Int) ≤ ((c.toNat : Nat) : Int)) = false := by rw [decide_eq_false_iff_not]; omega
        have t3 : decide ((65 : Int) ≤ ((c.toNat : Nat) : Int)) = false := by rw [decide_eq_false_iff_not]; omega
        have t5 : decide ((48 : Int) ≤ ((c.toNat : Nat) : Int)) = false := by rw [decide_eq_false_iff_not]; omega
        have t7 : (((c.toNat : Nat) : Int) == 95) = false := by rw [beq_eq_false_iff_ne]; omega
        have t8 : (((c.toNat : Nat) : Int) == 45) = true := by rw [beq_iff_eq]; omega
        clear h
        have HL := Lib.hid hl
        have HO := Lib.hid ho
        by_cases hk0 : k = 0
        · have t9 : ((k : Int) == 0) = true := by rw [beq_iff_eq]; omega
          have HK := Lib.hid hk0
          clear hk0
          have Hno : Hid (isNm (bl s) = false) := by show _ = _; exact isNm_no_head (by rw [Hh.out HK.out]; exact HL.out)
          clear hl ho
          go_wp2
          go_ret
          exact ⟨ret_bool' Hno.out.symm, rfl⟩
        · have t9 : ((k : Int) == 0) = false := by rw [beq_eq_false_iff_ne]; omega
          clear hl ho
          have Hok : Hid (((bl s).take (k + 1)).all isNmc = true ∧ (0 < k + 1 → (bl s).head?.any isLet = true)) := ⟨by rw [Hs.out, Hall.out.1, isNmc, HL.out, HO.out]; rfl, fun _ => Hall.out.2 (by omega)⟩
          go_wp2
          go_round
          case rel => exact ⟨k + 1, by omega, by go_num, Hok⟩
          case measure => simp [intOf]; omega
      · have hl : isLet c = false := by rw [isLet]; simp; omega
        have ho : isOth c = false := oth_false (by omega) (by omega) (by omega)
        have t1 : decide ((97 : Int) ≤ ((c.toNat : Nat) : Int)) = false := by rw [decide_eq_false_iff_not]; omega
        have t3 : decide ((65 : Int) ≤ ((c.toNat : Nat) : Int)) = false := by rw [decide_eq_false_iff_not]; omega
        have t5 : decide ((48 : Int) ≤ ((c.toNat : Nat) : Int)) = false := by rw [decide_eq_false_iff_not]; omega
        have t7 : (((c.toNat : Nat) : Int) == 95) = false := by rw [beq_eq_false_iff_ne]; omega
        have t8 : (((c.toNat : Nat) : Int) == 45) = false := by rw [beq_eq_false_iff_ne]; omega
        clear h
        have HL := Lib.hid hl
        have HO := Lib.hid ho
        by_cases hk0 : k = 0
        · have t9 : ((k : Int) == 0) = true := by rw [beq_iff_eq]; omega
          have HK := Lib.hid hk0
          clear hk0
          have Hno : Hid (isNm (bl s) = false) := by show _ = _; exact isNm_no_head (by rw [Hh.out HK.out]; exact HL.out)
          clear hl ho
          go_wp2
          go_ret
          exact ⟨ret_bool' Hno.out.symm, rfl⟩
        · have t9 : ((k : Int) == 0) = false := by rw [beq_eq_false_iff_ne]; omega
          have Hno : Hid (isNm (bl s) = false) := by show _ = _; exact isNm_no_all (all_false_of_take (k := k + 1) (by rw [Hs.out, isNmc, HL.out, HO.out]; simp))
          clear hl ho
          go_wp2
          go_ret
          exact ⟨ret_bool' Hno.out.symm, rfl⟩
      · have hl : isLet c = false := by rw [isLet]; simp; omega
        have ho : isOth c = true := oth_true (by omega)
        have t1 : decide ((97 : Int) ≤ ((c.toNat : Nat) : Int)) = false := by rw [decide_eq_false_iff_not]; omega
        have t3 : decide ((65 : Int) ≤ ((c.toNat : Nat) : Int)) = false := by rw [decide_eq_false_iff_not]; omega
        have t5 : decide ((48 : Int) ≤ ((c.toNat : Nat) : Int)) = true := by rw [decide_eq_true_eq]; omega
        have t6 : decide (((c.toNat : Nat) : Int) ≤ 57) = true := by rw [decide_eq_true_eq]; omega
        clear h
        have HL := Lib.hid hl
        have HO := Lib.hid ho
        by_cases hk0 : k = 0
        · have t9 : ((k : Int) == 0) = true := by rw [beq_iff_eq]; omega
          have HK := Lib.hid hk0
          clear hk0
          have Hno : Hid (isNm (bl s) = false) := by show _ = _; exact isNm_no_head (by rw [Hh.out HK.out]; exact HL.out)
          clear hl ho
          go_wp2
          go_ret
          exact ⟨ret_bool' Hno.out.symm, rfl⟩
        · have t9 : ((k : Int) == 0) = false := by rw [beq_eq_false_iff_ne]; omega
          clear hl ho
          have Hok : Hid (((bl s).take (k + 1)).all isNmc = true ∧ (0 < k + 1 → (bl s).head?.any isLet = true)) := ⟨by rw [Hs.out, Hall.out.1, isNmc, HL.out, HO.out]; rfl, fun _ => Hall.out.2 (by omega)⟩
          go_wp2
          go_round
          case rel => exact ⟨k + 1, by omega, by go_num, Hok⟩
          case measure => simp [intOf]; omega
      · have hl : isLet c = false := by rw [isLet]; simp; omega
        have ho : isOth c = false := oth_false (by omega) (by omega) (by omega)
        have t1 : decide ((97 : Int) ≤ ((c.toNat : Nat) : Int)) = false := by rw [decide_eq_false_iff_not]; omega
        have t3 : decide ((65 : Int) ≤ ((c.toNat : Nat) : Int)) = false := by rw [decide_eq_false_iff_not]; omega
        have t5 : decide ((48 : Int) ≤ ((c.toNat : Nat) : Int)) = true := by rw [decide_eq_true_eq]; omega
        have t6 : decide (((c.toNat : Nat) : Int) ≤ 57) = false := by rw [decide_eq_false_iff_not]; omega
        have t7 : (((c.toNat : Nat) : Int) == 95) = false := by rw [beq_eq_false_iff_ne]; omega
        have t8 : (((c.toNat : Nat) : Int) == 45) = false := by rw [beq_eq_false_iff_ne]; omega
        clear h
        have HL := Lib.hid hl
        have HO := Lib.hid ho
        by_cases hk0 : k = 0
        · have t9 : ((k : Int) == 0) = true := by rw [beq_iff_eq]; omega
          have HK := Lib.hid hk0
          clear hk0
          have Hno : Hid (isNm (bl s) = false) := by show _ = _; exact isNm_no_head (by rw [Hh.out HK.out]; exact HL.out)
          clear hl ho
          go_wp2
          go_ret
          exact ⟨ret_bool' Hno.out.symm, rfl⟩
        · have t9 : ((k : Int) == 0) = false := by rw [beq_eq_false_iff_ne]; omega
          have Hno : Hid (isNm (bl s) = false) := by show _ = _; exact isNm_no_all (all_false_of_take (k := k + 1) (by rw [Hs.out, isNmc, HL.out, HO.out]; simp))
          clear hl ho
          go_wp2
          go_ret
          exact ⟨ret_bool' Hno.out.symm, rfl⟩
      · have hl : isLet c = true := by rw [isLet]; simp; omega
        have ho : isOth c = false := oth_false (by omega) (by omega) (by omega)
        have t1 : decide ((97 : Int) ≤ ((c.toNat : Nat) : Int)) = false := by rw [decide_eq_false_iff_not]; omega
        have t3 : decide ((65 : Int) ≤ ((c.toNat : Nat) : Int)) = true := by rw [decide_eq_true_eq]; omega
        have t4 : decide (((c.toNat : Nat) : Int) ≤ 90) = true := by rw [decide_eq_true_eq]; omega
        have t5 : decide ((48 : Int) ≤ ((c.toNat : Nat) : Int)) = true := by rw [decide_eq_true_eq]; omega
        have t6 : decide (((c.toNat : Nat) : Int) ≤ 57) = false := by rw [decide_eq_false_iff_not]; omega
        have t7 : (((c.toNat : Nat) : Int) == 95) = false := by rw [beq_eq_false_iff_ne]; omega
        have t8 : (((c.toNat : Nat) : Int) == 45) = false := by rw [beq_eq_false_iff_ne]; omega
        clear h
        have HL := Lib.hid hl
        clear hl ho
        have Hok : Hid (((bl s).take (k + 1)).all isNmc = true ∧ (0 < k + 1 → (bl s).head?.any isLet = true)) := ⟨by rw [Hs.out, Hall.out.1, isNmc, HL.out]; rfl, fun _ => by
          rcases Nat.eq_zero_or_pos k with h0 | h0
          · rw [Hh.out h0]; exact HL.out
          · exact Hall.out.2 h0⟩
        go_wp2
        go_round
        case rel => exact ⟨k + 1, by omega, by go_num, Hok⟩
        case measure => simp [intOf]; omega
      · have hl : isLet c = false := by rw [isLet]; simp; omega
        have ho : isOth c = false := oth_false (by omega) (by omega) (by omega)
        have t1 : decide ((97 : Int) ≤ ((c.toNat : Nat) : Int)) = false := by rw [decide_eq_false_iff_not]; omega
        have t3 : decide ((65 : Int) ≤ ((c.toNat : Nat) : Int)) = true := by rw [decide_eq_true_eq]; omega
        have t4 : decide (((c.toNat : Nat) : Int) ≤ 90) = false := by rw [decide_eq_false_iff_not]; omega
        have t5 : decide ((48 : Int) ≤ ((c.toNat : Nat) : Int)) = true := by rw [decide_eq_true_eq]; omega
        have t6 : decide (((c.toNat : Nat) : Int) ≤ 57) = false := by rw [decide_eq_false_iff_not]; omega
        have t7 : (((c.toNat : Nat) : Int) == 95) = false := by rw [beq_eq_false_iff_ne]; omega
        have t8 : (((c.toNat : Nat) : Int) == 45) = false := by rw [beq_eq_false_iff_ne]; omega
        clear h
        have HL := Lib.hid hl
        have HO := Lib.hid ho
        by_cases hk0 : k = 0
        · have t9 : ((k : Int) == 0) = true := by rw [beq_iff_eq]; omega
          have HK := Lib.hid hk0
          clear hk0
          have Hno : Hid (isNm (bl s) = false) := by show _ = _; exact isNm_no_head (by rw [Hh.out HK.out]; exact HL.out)
          clear hl ho
          go_wp2
          go_ret
          exact ⟨ret_bool' Hno.out.symm, rfl⟩
        · have t9 : ((k : Int) == 0) = false := by rw [beq_eq_false_iff_ne]; omega
          have Hno : Hid (isNm (bl s) = false) := by show _ = _; exact isNm_no_all (all_false_of_take (k := k + 1) (by rw [Hs.out, isNmc, HL.out, HO.out]; simp))
          clear hl ho
          go_wp2
          go_ret
          exact ⟨ret_bool' Hno.out.symm, rfl⟩
      · have hl : isLet c = false := by rw [isLet]; simp; omega
        have ho : isOth c = true := oth_true (by omega)
        have t1 : decide ((97 : Int) ≤ ((c.toNat : Nat) : Int)) = false := by rw [decide_eq_false_iff_not]; omega
        have t3 : decide ((65 : Int) ≤ ((c.toNat : Nat) : Int)) = true := by rw [decide_eq_true_eq]; omega
        have t4 : decide (((c.toNat : Nat) : Int) ≤ 90) = false := by rw [decide_eq_false_iff_not]; omega
        have t5 : decide ((48 : Int) ≤ ((c.toNat : Nat) : Int)) = true := by rw [decide_eq_true_eq]; omega
        have t6 : decide (((c.toNat : Nat) : Int) ≤ 57) = false := by rw [decide_eq_false_iff_not]; omega
        have t7 : (((c.toNat : Nat) : Int) == 95) = true := by rw [beq_iff_eq]; omega
        clear h
        have HL := Lib.hid hl
        have HO := Lib.hid ho
        by_cases hk0 : k = 0
        · have t9 : ((k : Int) == 0) = true := by rw [beq_iff_eq]; omega
          have HK := Lib.hid hk0
          clear hk0
          have Hno : Hid (isNm (bl s) = false) := by show _ = _; exact isNm_no_head (by rw [Hh.out HK.out]; exact HL.out)
          clear hl ho
          go_wp2
          go_ret
          exact ⟨ret_bool' Hno.out.symm, rfl⟩
        · have t9 : ((k : Int) == 0) = false := by rw [beq_eq_false_iff_ne]; omega
          clear hl ho
          have Hok : Hid (((bl s).take (k + 1)).all isNmc = true ∧ (0 < k + 1 → (bl s).head?.any isLet = true)) := ⟨by rw [Hs.out, Hall.out.1, isNmc, HL.out, HO.out]; rfl, fun _ => Hall.out.2 (by omega)⟩
          go_wp2
          go_round
          case rel => exact ⟨k + 1, by omega, by go_num, Hok⟩
          case measure => simp [intOf]; omega
      · have hl : isLet c = false := by rw [isLet]; simp; omega
        have ho : isOth c = false := oth_false (by omega) (by omega) (by omega)
        have t1 : decide ((97 : Int) ≤ ((c.toNat : Nat) : Int)) = false := by rw [decide_eq_false_iff_not]; omega
        have t3 : decide ((65 : Int) ≤ ((c.toNat : Nat) : Int)) = true := by rw [decide_eq_true_eq]; omega
        have t4 : decide (((c.toNat : Nat) : Int) ≤ 90) = false := by rw [decide_eq_false_iff_not]; omega
        have t5 : decide ((48 : Int) ≤ ((c.toNat : Nat) : Int)) = true := by rw [decide_eq_true_eq]; omega
        have t6 : decide (((c.toNat : Nat) : Int) ≤ 57) = false := by rw [decide_eq_false_iff_not]; omega
        have t7 : (((c.toNat : Nat) : Int) == 95) = false := by rw [beq_eq_false_iff_ne]; omega
        have t8 : (((c.toNat : Nat) : Int) == 45) = false := by rw [beq_eq_false_iff_ne]; omega
        clear h
        have HL := Lib.hid hl
        have HO := Lib.hid ho
        by_cases hk0 : k = 0
        · have t9 : ((k : Int) == 0) = true := by rw [beq_iff_eq]; omega
          have HK := Lib.hid hk0
          clear hk0
          have Hno : Hid (isNm (bl s) = false) := by show _ = _; exact isNm_no_head (by rw [Hh.out HK.out]; exact HL.out)
          clear hl ho
          go_wp2
          go_ret
          exact ⟨ret_bool' Hno.out.symm, rfl⟩
        · have t9 : ((k : Int) == 0) = false := by rw [beq_eq_false_iff_ne]; omega
          have Hno : Hid (isNm (bl s) = false) := by show _ = _; exact isNm_no_all (all_false_of_take (k := k + 1) (by rw [Hs.out, isNmc, HL.out, HO.out]; simp))
          clear hl ho
          go_wp2
          go_ret
          exact ⟨ret_bool' Hno.out.symm, rfl⟩
      · have hl : isLet c = true := by rw [isLet]; simp; omega
        have ho : isOth c = false := oth_false (by omega) (by omega) (by omega)
        have t1 : decide ((97 : Int) ≤ ((c.toNat : Nat) : Int)) = true := by rw [decide_eq_true_eq]; omega
        have t2 : decide (((c.toNat : Nat) : Int) ≤ 122) = true := by rw [decide_eq_true_eq]; omega
        have t5 : decide ((48 : Int) ≤ ((c.toNat : Nat) : Int)) = true := by rw [decide_eq_true_eq]; omega
        have t6 : decide (((c.toNat : Nat) : Int) ≤ 57) = false := by rw [decide_eq_false_iff_not]; omega
        have t7 : (((c.toNat : Nat) : Int) == 95) = false := by rw [beq_eq_false_iff_ne]; omega
        have t8 : (((c.toNat : Nat) : Int) == 45) = false := by rw [beq_eq_false_iff_ne]; omega
        clear h
        have HL := Lib.hid hl
        clear hl ho
        have Hok : Hid (((bl s).take (k + 1)).all isNmc = true ∧ (0 < k + 1 → (bl s).head?.any isLet = true)) := ⟨by rw [Hs.out, Hall.out.1, isNmc, HL.out]; rfl, fun _ => by
          rcases Nat.eq_zero_or_pos k with h0 | h0
          · rw [Hh.out h0]; exact HL.out
          · exact Hall.out.2 h0⟩
        go_wp2
        go_round
        case rel => exact ⟨k + 1, by omega, by go_num, Hok⟩
        case measure => simp [intOf]; omega
      · have hl : isLet c = false := by rw [isLet]; simp; omega
        have ho : isOth c = false := oth_false (by omega) (by omega) (by omega)
        have t1 : decide ((97 : Int) ≤ ((c.toNat : Nat) : Int)) = true := by rw [decide_eq_true_eq]; omega
        have t2 : decide (((c.toNat : Nat) : Int) ≤ 122) = false := by rw [decide_eq_false_iff_not]; omega
        have t3 : decide ((65 : Int) ≤ ((c.toNat : Nat) : Int)) = true := by rw [decide_eq_true_eq]; omega
        have t4 : decide (((c.toNat : Nat) : Int) ≤ 90) = false := by rw [decide_eq_false_iff_not]; omega
        have t5 : decide ((48 : Int) ≤ ((c.toNat : Nat) : Int)) = true := by rw [decide_eq_true_eq]; omega
        have t6 : decide (((c.toNat : Nat) : Int) ≤ 57) = false := by rw [decide_eq_false_iff_not]; omega
        have t7 : (((c.toNat : Nat) : Int) == 95) = false := by rw [beq_eq_false_iff_ne]; omega
        have t8 : (((c.toNat : Nat) : Int) == 45) = false := by rw [beq_eq_false_iff_ne]; omega
        clear h
        have HL := Lib.hid hl
        have HO := Lib.hid ho
        by_cases hk0 : k = 0
        · have t9 : ((k : Int) == 0) = true := by rw [beq_iff_eq]; omega
          have HK := Lib.hid hk0
          clear hk0
          have Hno : Hid (isNm (bl s) = false) := by show _ = _; exact isNm_no_head (by rw [Hh.out HK.out]; exact HL.out)
          clear hl ho
          go_wp2
          go_ret
          exact ⟨ret_bool' Hno.out.symm, rfl⟩
        · have t9 : ((k : Int) == 0) = false := by rw [beq_eq_false_iff_ne]; omega
          have Hno : Hid (isNm (bl s) = false) := by show _ = _; exact isNm_no_all (all_false_of_take (k := k + 1) (by rw [Hs.out, isNmc, HL.out, HO.out]; simp))
          clear hl ho
          go_wp2
          go_ret
          exact ⟨ret_bool' Hno.out.symm, rfl⟩
    · obtain rfl : k = s.size := by omega
      have HY : Hid (isNm (bl s) = true) := by
        show _ = _
        exact isNm_of (by rw [bl_length]; exact h1) (by rw [bl_length]; exact h2) (Hall.out.2 h1) (by rw [← Hall.out.1, List.take_of_length_le (by rw [bl_length]; exact Nat.le_refl _)])
      go_wp2
      go_ret
      exact ⟨ret_bool' HY.out.symm, rfl⟩

theorem rname_any (s : ByteArray) (w : World) (hl : s.size ≤ 9223372036854775807) :
    Calls Tryz.prog 30 #[.string s] w fun e w' => e = .returned (.bool (isNm (bl s))) ∧ w = w' := by
  by_cases h1 : 0 < s.size
  · by_cases h2 : s.size ≤ 40
    · exact rname_loop s w h1 h2
    · exact rname_no s w (.inr (by omega)) hl
  · exact rname_no s w (.inl (by omega)) hl
end Go.Proofs.YtofbngpckllkoacGreat

namespace Go.Proofs.YtofbngpckllkoacGreat
open Go.RowKit

theorem slash_at {s : ByteArray} {k : Nat} (hk : k < s.size) (h : ∀ j : Nat, j < k → (bl s)[j]? ≠ some 47) (hc : s[k] = 47) : slashI s = k := by
  rcases slash_cases s with e | ⟨o, e, ho⟩
  · exact absurd (by rw [bl_get s k hk, hc]) (slash_none e k)
  · obtain ⟨h1, h2⟩ := slash_some e
    rcases Nat.lt_trichotomy o k with h3 | h3 | h3
    · exact absurd h1 (h o h3)
    · rw [e, h3]
    · exact absurd (by rw [bl_get s k hk, hc]) (h2 k h3)

theorem slash_no {s : ByteArray} (h : ∀ j : Nat, j < s.size → (bl s)[j]? ≠ some 47) : slashI s = -1 := by
  rcases slash_cases s with e | ⟨o, e, ho⟩
  · exact e
  · exact absurd (slash_some e).1 (h o ho)

set_option maxHeartbeats 400000 in
set_option maxRecDepth 100000 in
theorem rslash_any (s : ByteArray) (w : World) (hs : s.size ≤ 4611686018427387904) :
    Calls Tryz.prog 61 #[.string s] w fun e w' => e = .returned (.int .i64 (slashI s)) ∧ w = w' := by
  go_enter Tryz.func61, Tryz.ntmps61
  go_wp2
  go_loopw [3] (fun i wr => ∃ k : Nat, k ≤ s.size ∧ i = .int .i64 k ∧ Hid (∀ j : Nat, j < k → (bl s)[j]? ≠ some 47) ∧ Hid (wr = w))
    (fun i _ => s.size - (intOf i).toNat)
  case atStart => exact ⟨0, Nat.zero_le _, rfl, fun j hj => by omega, rfl⟩
  case round =>
    obtain ⟨k, hk, rfl, Hrel, hw⟩ := hrel
    obtain rfl := hw.out
    by_cases hlt : k < s.size
    · obtain ⟨c, hc⟩ : ∃ c, s[k] = c := ⟨_, rfl⟩
      have hcb : c.toNat < 256 := c.toNat_lt
      by_cases h47 : c = 47
      · have HE := Lib.hid (slash_at hlt Hrel.out (by rw [hc, h47]))
        have d : ((c.toNat : Int) == 47) = true := by rw [h47]; rfl
        go_wp2
        go_ret
        exact ⟨ret_int' HE.out.symm, rfl⟩
      · have d : ((c.toNat : Int) == 47) = false := by
          simpa using fun hh : (c.toNat : Int) = 47 => h47 (UInt8.toNat_inj.1 (by simpa using (by omega : c.toNat = 47)))
        have HE : Hid (∀ j : Nat, j < k + 1 → (bl s)[j]? ≠ some 47) := by
          intro j hj
          by_cases he : j = k
          · subst he
            rw [bl_get s j hlt, hc]
            simpa using h47
          · exact Hrel.out j (by omega)
        go_wp2
        go_roundw
        case rel => exact ⟨k + 1, by omega, by go_num, HE, by first | exact rfl | exact trivial⟩
        case measure => simp [intOf]; omega
    · obtain rfl : k = s.size := by omega
      have HE := Lib.hid (slash_no Hrel.out)
      go_wp2
      go_ret
      exact ⟨ret_int' HE.out.symm, rfl⟩

def TwoPost (w : World) (a b : ByteArray) (e : Ending) (w' : World) : Prop := e = .returned (.tuple #[.string a, .string b]) ∧ ∃ n, w' = w.drewN n

set_option maxHeartbeats 400000 in
set_option maxRecDepth 100000 in
theorem written_none (s : ByteArray) (w : World) (hs : s.size ≤ 4611686018427387904) (h : slashI s = -1) :
    Calls Tryz.prog 59 #[.string s] w (TwoPost w s ⟨#[49]⟩) := by
  have C := rslash_any s w hs
  rw [h] at C
  have HC := Lib.hid C
  clear C h
  go_enter Tryz.func59, Tryz.ntmps59
  go_wp2_with fail
  refine HC.out.mono ?_
  rintro e w' ⟨rfl, rfl⟩
  go_wp2
  go_ret2
  exact ⟨rfl, 0, rfl⟩

set_option maxHeartbeats 400000 in
set_option maxRecDepth 100000 in
theorem written_some (s : ByteArray) (w : World) (o : Nat) (h : slashI s = o) (ho : o < s.size) (hs : s.size ≤ 4611686018427387904) :
    Calls Tryz.prog 59 #[.string s] w (TwoPost w (s.extract 0 o) (s.extract (o + 1) s.size)) := by
  have C := rslash_any s w hs
  rw [h] at C
  have HC := Lib.hid C
  clear C h
  have x1 : IntKind.i64.wrap ((o : Int) + 1) = (o : Int) + 1 := IntWalk.i64_in _ (by omega)
  have t1 : ((o : Int) + 1).toNat = o + 1 := by omega
  have k0 : ¬ ((o : Int) < 0) := by omega
  have d0 : decide ((o : Int) < 0) = false := by rw [decide_eq_false_iff_not]; omega
  have k1 : (0 : Int) ≤ (o : Int) + 1 := by omega
  have k2 : (o : Int) + 1 ≤ (s.size : Int) := by omega
  have k3 : (o : Int) ≤ (s.size : Int) := by omega
  go_enter Tryz.func59, Tryz.ntmps59
  go_wp2_with fail
  refine HC.out.mono ?_
  rintro e w' ⟨rfl, rfl⟩
  go_wp2_with fail
  go_quiet (fail)
  go_wp2
  go_ret2
  exact ⟨rfl, _, rfl⟩
end Go.Proofs.YtofbngpckllkoacGreat

namespace Go.Proofs.YtofbngpckllkoacGreat
open Go.RowKit

theorem head_neg {l : List UInt8} : isNeg l = true ↔ l.head? = some 45 := by simp [isNeg]
theorem big_of {l : List UInt8} (h : canonI l = true) (h0 : intErr l ≠ 0) : 1000 < (body l).length := by
  rw [intErr, if_pos h] at h0
  by_cases hb : 1000 < (body l).length
  · exact hb
  · rw [if_neg hb] at h0; exact absurd rfl h0

set_option maxHeartbeats 1000000 in
set_option maxRecDepth 100000 in
theorem rfrac_a_ok (s a b : ByteArray) (w : World) (o : Nat) (HS : Hid (∀ W, Calls Tryz.prog 59 #[.string s] W (TwoPost W a b)))
    (HL : Hid (∀ W, Calls Tryz.prog 61 #[.string s] W fun e w' => e = .returned (.int .i64 (o : Int)) ∧ W = w')) (ha : a.size ≤ 1100000) (hb : b.size ≤ 1100000)
    (hca : canonI (bl a) = false) (hcb : canonI (bl b) = true) :
    Calls Tryz.prog 32 #[.string s] w (RatPost w 12) := by
  have HLo := HL
  have do0 : decide ((0 : Int) ≤ (o : Int)) = true := by rw [decide_eq_true_eq]; omega
  have DA := Lib.hid (fun W => digits_bad a W ha hca)
  obtain ⟨nb, hneg⟩ : ∃ nb, isNeg (bl b) = nb := ⟨_, rfl⟩
  have DB := Lib.hid (fun W => by have k := digits_ok b W hb hcb; rw [show isNeg (bl b) = nb from hneg] at k; exact k)

  go_enter Tryz.func32, Tryz.ntmps32
  go_wp2_with fail
  refine (HS.out _).mono ?_
  rintro e w' ⟨rfl, n, rfl⟩
  have hb0 : Below w.heap.size w (w.drewN n) := below_drewN (Below.refl _ _) _
  go_wp2_with fail
  refine (DA.out _).mono ?_
  rintro e w1 ⟨rfl, hb1⟩
  go_wp2_with fail
  refine (DB.out _).mono ?_
  rintro e w2 ⟨v2, rfl, s2, hb2⟩
  obtain ⟨ad2, cap2, rfl, _⟩ := s2
  have HB : Hid (Below w.heap.size w w2) := hb0.trans ((hb1.trans (hb2.mono hb1.size)).mono hb0.size)
  go_wp2
  go_ret
  exact ⟨rfl, HB.out⟩

set_option maxHeartbeats 1000000 in
set_option maxRecDepth 100000 in
theorem rfrac_a_bad (s a b : ByteArray) (w : World) (o : Nat) (HS : Hid (∀ W, Calls Tryz.prog 59 #[.string s] W (TwoPost W a b)))
    (HL : Hid (∀ W, Calls Tryz.prog 61 #[.string s] W fun e w' => e = .returned (.int .i64 (o : Int)) ∧ W = w')) (ha : a.size ≤ 1100000) (hb : b.size ≤ 1100000)
    (hca : canonI (bl a) = false) (hcb : canonI (bl b) = false) :
    Calls Tryz.prog 32 #[.string s] w (RatPost w 12) := by
  have HLo := HL
  have do0 : decide ((0 : Int) ≤ (o : Int)) = true := by rw [decide_eq_true_eq]; omega
  have DA := Lib.hid (fun W => digits_bad a W ha hca)
  have DB := Lib.hid (fun W => digits_bad b W hb hcb)

  go_enter Tryz.func32, Tryz.ntmps32
  go_wp2_with fail
  refine (HS.out _).mono ?_
  rintro e w' ⟨rfl, n, rfl⟩
  have hb0 : Below w.heap.size w (w.drewN n) := below_drewN (Below.refl _ _) _
  go_wp2_with fail
  refine (DA.out _).mono ?_
  rintro e w1 ⟨rfl, hb1⟩
  go_wp2_with fail
  refine (DB.out _).mono ?_
  rintro e w2 ⟨rfl, hb2⟩
  have HB : Hid (Below w.heap.size w w2) := hb0.trans ((hb1.trans (hb2.mono hb1.size)).mono hb0.size)
  go_wp2
  go_ret
  exact ⟨rfl, HB.out⟩

set_option maxHeartbeats 1000000 in
set_option maxRecDepth 100000 in
theorem rfrac_b (s a b : ByteArray) (w : World) (o : Nat) (HS : Hid (∀ W, Calls Tryz.prog 59 #[.string s] W (TwoPost W a b)))
    (HL : Hid (∀ W, Calls Tryz.prog 61 #[.string s] W fun e w' => e = .returned (.int .i64 (o : Int)) ∧ W = w')) (ha : a.size ≤ 1100000) (hb : b.size ≤ 1100000)
    (hca : canonI (bl a) = true) (hcb : canonI (bl b) = false) :
    Calls Tryz.prog 32 #[.string s] w (RatPost w 12) := by
  have HLo := HL
  have do0 : decide ((0 : Int) ≤ (o : Int)) = true := by rw [decide_eq_true_eq]; omega
  have DA := Lib.hid (fun W => digits_ok a W ha hca)
  have DB := Lib.hid (fun W => digits_bad b W hb hcb)

  go_enter Tryz.func32, Tryz.ntmps32
  go_wp2_with fail
  refine (HS.out _).mono ?_
  rintro e w' ⟨rfl, n, rfl⟩
  have hb0 : Below w.heap.size w (w.drewN n) := below_drewN (Below.refl _ _) _
  go_wp2_with fail
  refine (DA.out _).mono ?_
  rintro e w1 ⟨v1, rfl, s1, hb1⟩
  obtain ⟨ad1, cap1, rfl, _⟩ := s1
  go_wp2_with fail
  refine (DB.out _).mono ?_
  rintro e w2 ⟨rfl, hb2⟩
  have HB : Hid (Below w.heap.size w w2) := hb0.trans ((hb1.trans (hb2.mono hb1.size)).mono hb0.size)
  go_wp2
  go_ret
  exact ⟨rfl, HB.out⟩

set_option maxHeartbeats 1000000 in
set_option maxRecDepth 100000 in
theorem rfrac_neg (s a b : ByteArray) (w : World) (o : Nat) (HS : Hid (∀ W, Calls Tryz.prog 59 #[.string s] W (TwoPost W a b)))
    (HL : Hid (∀ W, Calls Tryz.prog 61 #[.string s] W fun e w' => e = .returned (.int .i64 (o : Int)) ∧ W = w')) (ha : a.size ≤ 1100000) (hb : b.size ≤ 1100000)
    (hca : canonI (bl a) = true) (hcb : canonI (bl b) = true) (h45 : (bl b).head? = some 45) :
    Calls Tryz.prog 32 #[.string s] w (RatPost w 12) := by
  have HLo := HL
  have do0 : decide ((0 : Int) ≤ (o : Int)) = true := by rw [decide_eq_true_eq]; omega
  have hneg := head_neg.2 h45
  have DA := Lib.hid (fun W => digits_ok a W ha hca)
  have DB := Lib.hid (fun W => by have k := digits_ok b W hb hcb; rw [show isNeg (bl b) = true from hneg] at k; exact k)

  go_enter Tryz.func32, Tryz.ntmps32
  go_wp2_with fail
  refine (HS.out _).mono ?_
  rintro e w' ⟨rfl, n, rfl⟩
  have hb0 : Below w.heap.size w (w.drewN n) := below_drewN (Below.refl _ _) _
  go_wp2_with fail
  refine (DA.out _).mono ?_
  rintro e w1 ⟨v1, rfl, s1, hb1⟩
  obtain ⟨ad1, cap1, rfl, _⟩ := s1
  go_wp2_with fail
  refine (DB.out _).mono ?_
  rintro e w2 ⟨v2, rfl, s2, hb2⟩
  obtain ⟨ad2, cap2, rfl, _⟩ := s2
  have HB : Hid (Below w.heap.size w w2) := hb0.trans ((hb1.trans (hb2.mono hb1.size)).mono hb0.size)
  go_wp2
  go_ret
  exact ⟨rfl, HB.out⟩

set_option maxHeartbeats 1000000 in
set_option maxRecDepth 100000 in
theorem rfrac_zero (s a b : ByteArray) (w : World) (o : Nat) (HS : Hid (∀ W, Calls Tryz.prog 59 #[.string s] W (TwoPost W a b)))
    (HL : Hid (∀ W, Calls Tryz.prog 61 #[.string s] W fun e w' => e = .returned (.int .i64 (o : Int)) ∧ W = w')) (ha : a.size ≤ 1100000) (hb : b.size ≤ 1100000)
    (hca : canonI (bl a) = true) (hcb : canonI (bl b) = true) (hl : bl b = [48]) :
    Calls Tryz.prog 32 #[.string s] w (RatPost w 12) := by
  have HLo := HL
  have do0 : decide ((0 : Int) ≤ (o : Int)) = true := by rw [decide_eq_true_eq]; omega
  have hneg : isNeg (bl b) = false := by rw [hl]; rfl
  have DA := Lib.hid (fun W => digits_ok a W ha hca)
  have DB := Lib.hid (fun W => by have k := digits_ok b W hb hcb; rw [show isNeg (bl b) = false from hneg] at k; exact k)
  have e := eq_lit hl
  subst e
  clear hl

  go_enter Tryz.func32, Tryz.ntmps32
  go_wp2_with fail
  refine (HS.out _).mono ?_
  rintro e w' ⟨rfl, n, rfl⟩
  have hb0 : Below w.heap.size w (w.drewN n) := below_drewN (Below.refl _ _) _
  go_wp2_with fail
  refine (DA.out _).mono ?_
  rintro e w1 ⟨v1, rfl, s1, hb1⟩
  obtain ⟨ad1, cap1, rfl, _⟩ := s1
  go_wp2_with fail
  refine (DB.out _).mono ?_
  rintro e w2 ⟨v2, rfl, s2, hb2⟩
  obtain ⟨ad2, cap2, rfl, _⟩ := s2
  have HB : Hid (Below w.heap.size w w2) := hb0.trans ((hb1.trans (hb2.mono hb1.size)).mono hb0.size)
  go_wp2
  go_ret
  exact ⟨rfl, HB.out⟩

set_option maxHeartbeats 1000000 in
set_option maxRecDepth 100000 in
theorem rfrac_one (s a b : ByteArray) (w : World) (o : Nat) (HS : Hid (∀ W, Calls Tryz.prog 59 #[.string s] W (TwoPost W a b)))
    (HL : Hid (∀ W, Calls Tryz.prog 61 #[.string s] W fun e w' => e = .returned (.int .i64 (o : Int)) ∧ W = w')) (ha : a.size ≤ 1100000) (hb : b.size ≤ 1100000)
    (hca : canonI (bl a) = true) (hcb : canonI (bl b) = true) (hl : bl b = [49]) :
    Calls Tryz.prog 32 #[.string s] w (RatPost w 12) := by
  have HLo := HL
  have do0 : decide ((0 : Int) ≤ (o : Int)) = true := by rw [decide_eq_true_eq]; omega
  have hneg : isNeg (bl b) = false := by rw [hl]; rfl
  have DA := Lib.hid (fun W => digits_ok a W ha hca)
  have DB := Lib.hid (fun W => by have k := digits_ok b W hb hcb; rw [show isNeg (bl b) = false from hneg] at k; exact k)
  have e := eq_lit hl
  subst e
  clear hl

  go_enter Tryz.func32, Tryz.ntmps32
  go_wp2_with fail
  refine (HS.out _).mono ?_
  rintro e w' ⟨rfl, n, rfl⟩
  have hb0 : Below w.heap.size w (w.drewN n) := below_drewN (Below.refl _ _) _
  go_wp2_with fail
  refine (DA.out _).mono ?_
  rintro e w1 ⟨v1, rfl, s1, hb1⟩
  obtain ⟨ad1, cap1, rfl, _⟩ := s1
  go_wp2_with fail
  refine (DB.out _).mono ?_
  rintro e w2 ⟨v2, rfl, s2, hb2⟩
  obtain ⟨ad2, cap2, rfl, _⟩ := s2
  go_wp2_with fail
  refine (HL.out _).mono ?_
  rintro e w9 ⟨rfl, rfl⟩
  have HB : Hid (Below w.heap.size w w2) := hb0.trans ((hb1.trans (hb2.mono hb1.size)).mono hb0.size)
  go_wp2
  go_ret
  exact ⟨rfl, HB.out⟩

set_option maxHeartbeats 1000000 in
set_option maxRecDepth 100000 in
theorem rfrac_big_a (s a b : ByteArray) (w : World) (o : Nat) (HS : Hid (∀ W, Calls Tryz.prog 59 #[.string s] W (TwoPost W a b)))
    (HL : Hid (∀ W, Calls Tryz.prog 61 #[.string s] W fun e w' => e = .returned (.int .i64 (o : Int)) ∧ W = w')) (ha : a.size ≤ 1100000) (hb : b.size ≤ 1100000)
    (hca : canonI (bl a) = true) (hcb : canonI (bl b) = true) (h45 : (bl b).head? ≠ some 45) (h0 : bl b ≠ [48]) (h1 : bl b ≠ [49]) (hi : intErr (bl a) ≠ 0) :
    Calls Tryz.prog 32 #[.string s] w (RatPost w 14) := by
  have HLo := HL
  have do0 : decide ((0 : Int) ≤ (o : Int)) = true := by rw [decide_eq_true_eq]; omega
  have hneg : isNeg (bl b) = false := by rw [Bool.eq_false_iff]; exact fun e => h45 (head_neg.1 e)
  have n0 := ne_lit h0
  have n1 := ne_lit h1
  have DA := Lib.hid (fun W => digits_ok a W ha hca)
  have DB := Lib.hid (fun W => by have k := digits_ok b W hb hcb; rw [show isNeg (bl b) = false from hneg] at k; exact k)
  obtain ⟨La, hLa⟩ : ∃ L, (rdig (body (bl a))).length = L := ⟨_, rfl⟩
  have HLa := Lib.hid hLa
  rw [rdig_length] at hLa
  have gLa : 1000 < La := by rw [← hLa]; exact big_of (by assumption) (by assumption)
  have dLa : decide ((1000 : Int) < (La : Int)) = true := by rw [decide_eq_true_eq]; omega
  clear hLa

  go_enter Tryz.func32, Tryz.ntmps32
  go_wp2_with fail
  refine (HS.out _).mono ?_
  rintro e w' ⟨rfl, n, rfl⟩
  have hb0 : Below w.heap.size w (w.drewN n) := below_drewN (Below.refl _ _) _
  go_wp2_with fail
  refine (DA.out _).mono ?_
  rintro e w1 ⟨v1, rfl, s1, hb1⟩
  obtain ⟨ad1, cap1, rfl, _⟩ := s1
  rw [HLa.out]
  go_wp2_with fail
  refine (DB.out _).mono ?_
  rintro e w2 ⟨v2, rfl, s2, hb2⟩
  obtain ⟨ad2, cap2, rfl, _⟩ := s2
  go_wp2_with fail
  refine (HL.out _).mono ?_
  rintro e w9 ⟨rfl, rfl⟩
  have HB : Hid (Below w.heap.size w w2) := hb0.trans ((hb1.trans (hb2.mono hb1.size)).mono hb0.size)
  go_wp2
  go_ret
  exact ⟨rfl, HB.out⟩

set_option maxHeartbeats 1000000 in
set_option maxRecDepth 100000 in
theorem rfrac_big_b (s a b : ByteArray) (w : World) (o : Nat) (HS : Hid (∀ W, Calls Tryz.prog 59 #[.string s] W (TwoPost W a b)))
    (HL : Hid (∀ W, Calls Tryz.prog 61 #[.string s] W fun e w' => e = .returned (.int .i64 (o : Int)) ∧ W = w')) (ha : a.size ≤ 1100000) (hb : b.size ≤ 1100000)
    (hca : canonI (bl a) = true) (hcb : canonI (bl b) = true) (h45 : (bl b).head? ≠ some 45) (h0 : bl b ≠ [48]) (h1 : bl b ≠ [49]) (hi : intErr (bl a) = 0) (hj : intErr (bl b) ≠ 0) :
    Calls Tryz.prog 32 #[.string s] w (RatPost w 14) := by
  have HLo := HL
  have do0 : decide ((0 : Int) ≤ (o : Int)) = true := by rw [decide_eq_true_eq]; omega
  have hneg : isNeg (bl b) = false := by rw [Bool.eq_false_iff]; exact fun e => h45 (head_neg.1 e)
  have n0 := ne_lit h0
  have n1 := ne_lit h1
  have DA := Lib.hid (fun W => digits_ok a W ha hca)
  have DB := Lib.hid (fun W => by have k := digits_ok b W hb hcb; rw [show isNeg (bl b) = false from hneg] at k; exact k)
  obtain ⟨La, hLa⟩ : ∃ L, (rdig (body (bl a))).length = L := ⟨_, rfl⟩
  have HLa := Lib.hid hLa
  rw [rdig_length] at hLa
  have gLa : La ≤ 1000 := by rw [← hLa]; exact (intErr_zero (by assumption)).2
  have dLa : decide ((1000 : Int) < (La : Int)) = false := by rw [decide_eq_false_iff_not]; omega
  clear hLa
  obtain ⟨Lb, hLb⟩ : ∃ L, (rdig (body (bl b))).length = L := ⟨_, rfl⟩
  have HLb := Lib.hid hLb
  rw [rdig_length] at hLb
  have gLb : 1000 < Lb := by rw [← hLb]; exact big_of (by assumption) (by assumption)
  have dLb : decide ((1000 : Int) < (Lb : Int)) = true := by rw [decide_eq_true_eq]; omega
  clear hLb

  go_enter Tryz.func32, Tryz.ntmps32
  go_wp2_with fail
  refine (HS.out _).mono ?_
  rintro e w' ⟨rfl, n, rfl⟩
  have hb0 : Below w.heap.size w (w.drewN n) := below_drewN (Below.refl _ _) _
  go_wp2_with fail
  refine (DA.out _).mono ?_
  rintro e w1 ⟨v1, rfl, s1, hb1⟩
  obtain ⟨ad1, cap1, rfl, _⟩ := s1
  rw [HLa.out]
  go_wp2_with fail
  refine (DB.out _).mono ?_
  rintro e w2 ⟨v2, rfl, s2, hb2⟩
  obtain ⟨ad2, cap2, rfl, _⟩ := s2
  rw [HLb.out]
  go_wp2_with fail
  refine (HL.out _).mono ?_
  rintro e w9 ⟨rfl, rfl⟩
  have HB : Hid (Below w.heap.size w w2) := hb0.trans ((hb1.trans (hb2.mono hb1.size)).mono hb0.size)
  go_wp2
  go_ret
  exact ⟨rfl, HB.out⟩

set_option maxHeartbeats 1000000 in
set_option maxRecDepth 100000 in
theorem rfrac_gcd (s a b : ByteArray) (w : World) (o : Nat) (HS : Hid (∀ W, Calls Tryz.prog 59 #[.string s] W (TwoPost W a b)))
    (HL : Hid (∀ W, Calls Tryz.prog 61 #[.string s] W fun e w' => e = .returned (.int .i64 (o : Int)) ∧ W = w')) (ha : a.size ≤ 1100000) (hb : b.size ≤ 1100000)
    (hca : canonI (bl a) = true) (hcb : canonI (bl b) = true) (h45 : (bl b).head? ≠ some 45) (h0 : bl b ≠ [48]) (h1 : bl b ≠ [49]) (hi : intErr (bl a) = 0) (hj : intErr (bl b) = 0) (hg : Nat.gcd (dval (body (bl a))) (dval (body (bl b))) ≠ 1) :
    Calls Tryz.prog 32 #[.string s] w (RatPost w 12) := by
  have HLo := HL
  have do0 : decide ((0 : Int) ≤ (o : Int)) = true := by rw [decide_eq_true_eq]; omega
  have hneg : isNeg (bl b) = false := by rw [Bool.eq_false_iff]; exact fun e => h45 (head_neg.1 e)
  have n0 := ne_lit h0
  have n1 := ne_lit h1
  have DA := Lib.hid (fun W => digits_ok a W ha hca)
  have DB := Lib.hid (fun W => by have k := digits_ok b W hb hcb; rw [show isNeg (bl b) = false from hneg] at k; exact k)
  have GC := Lib.hid (fun W => rgcd_ok a b W ha hb hi hj)
  have Hg := Lib.hid hg
  obtain ⟨La, hLa⟩ : ∃ L, (rdig (body (bl a))).length = L := ⟨_, rfl⟩
  have HLa := Lib.hid hLa
  rw [rdig_length] at hLa
  have gLa : La ≤ 1000 := by rw [← hLa]; exact (intErr_zero (by assumption)).2
  have dLa : decide ((1000 : Int) < (La : Int)) = false := by rw [decide_eq_false_iff_not]; omega
  clear hLa
  obtain ⟨Lb, hLb⟩ : ∃ L, (rdig (body (bl b))).length = L := ⟨_, rfl⟩
  have HLb := Lib.hid hLb
  rw [rdig_length] at hLb
  have gLb : Lb ≤ 1000 := by rw [← hLb]; exact (intErr_zero (by assumption)).2
  have dLb : decide ((1000 : Int) < (Lb : Int)) = false := by rw [decide_eq_false_iff_not]; omega
  clear hLb

  go_enter Tryz.func32, Tryz.ntmps32
  go_wp2_with fail
  refine (HS.out _).mono ?_
  rintro e w' ⟨rfl, n, rfl⟩
  have hb0 : Below w.heap.size w (w.drewN n) := below_drewN (Below.refl _ _) _
  go_wp2_with fail
  refine (DA.out _).mono ?_
  rintro e w1 ⟨v1, rfl, s1, hb1⟩
  obtain ⟨ad1, cap1, rfl, _⟩ := s1
  rw [HLa.out]
  go_wp2_with fail
  refine (DB.out _).mono ?_
  rintro e w2 ⟨v2, rfl, s2, hb2⟩
  obtain ⟨ad2, cap2, rfl, _⟩ := s2
  rw [HLb.out]
  go_wp2_with fail
  refine (HL.out _).mono ?_
  rintro e w9 ⟨rfl, rfl⟩
  go_wp2_with fail
  refine (GC.out _).mono ?_
  rintro e w3 ⟨t, rfl, ht, hb3⟩
  have nt : (t.toList != [49]) = true := by rw [bne, ne_lit (b := t) (x := 49) (by rw [ht]; exact fun e => Hg.out ((istr_one _).1 e))]; rfl
  have nt2 := ne_lit (b := t) (x := 49) (by rw [ht]; exact fun e => Hg.out ((istr_one _).1 e))
  go_wp2_with fail
  refine (HL.out _).mono ?_
  rintro e w9 ⟨rfl, rfl⟩
  have HB : Hid (Below w.heap.size w w3) := hb0.trans ((hb1.trans ((hb2.trans (hb3.mono hb2.size)).mono hb1.size)).mono hb0.size)
  go_wp2
  go_ret
  exact ⟨rfl, HB.out⟩

set_option maxHeartbeats 1000000 in
set_option maxRecDepth 100000 in
theorem rfrac_good (s a b : ByteArray) (w : World) (o : Nat) (HS : Hid (∀ W, Calls Tryz.prog 59 #[.string s] W (TwoPost W a b)))
    (HL : Hid (∀ W, Calls Tryz.prog 61 #[.string s] W fun e w' => e = .returned (.int .i64 (o : Int)) ∧ W = w')) (ha : a.size ≤ 1100000) (hb : b.size ≤ 1100000)
    (hca : canonI (bl a) = true) (hcb : canonI (bl b) = true) (h45 : (bl b).head? ≠ some 45) (h0 : bl b ≠ [48]) (h1 : bl b ≠ [49]) (hi : intErr (bl a) = 0) (hj : intErr (bl b) = 0) (hg : Nat.gcd (dval (body (bl a))) (dval (body (bl b))) = 1) :
    Calls Tryz.prog 32 #[.string s] w (RatPost w 0) := by
  have HLo := HL
  have do0 : decide ((0 : Int) ≤ (o : Int)) = true := by rw [decide_eq_true_eq]; omega
  have hneg : isNeg (bl b) = false := by rw [Bool.eq_false_iff]; exact fun e => h45 (head_neg.1 e)
  have n0 := ne_lit h0
  have n1 := ne_lit h1
  have DA := Lib.hid (fun W => digits_ok a W ha hca)
  have DB := Lib.hid (fun W => by have k := digits_ok b W hb hcb; rw [show isNeg (bl b) = false from hneg] at k; exact k)
  have GC := Lib.hid (fun W => rgcd_ok a b W ha hb hi hj)
  have Hg := Lib.hid hg
  obtain ⟨La, hLa⟩ : ∃ L, (rdig (body (bl a))).length = L := ⟨_, rfl⟩
  have HLa := Lib.hid hLa
  rw [rdig_length] at hLa
  have gLa : La ≤ 1000 := by rw [← hLa]; exact (intErr_zero (by assumption)).2
  have dLa : decide ((1000 : Int) < (La : Int)) = false := by rw [decide_eq_false_iff_not]; omega
  clear hLa
  obtain ⟨Lb, hLb⟩ : ∃ L, (rdig (body (bl b))).length = L := ⟨_, rfl⟩
  have HLb := Lib.hid hLb
  rw [rdig_length] at hLb
  have gLb : Lb ≤ 1000 := by rw [← hLb]; exact (intErr_zero (by assumption)).2
  have dLb : decide ((1000 : Int) < (Lb : Int)) = false := by rw [decide_eq_false_iff_not]; omega
  clear hLb

  go_enter Tryz.func32, Tryz.ntmps32
  go_wp2_with fail
  refine (HS.out _).mono ?_
  rintro e w' ⟨rfl, n, rfl⟩
  have hb0 : Below w.heap.size w (w.drewN n) := below_drewN (Below.refl _ _) _
  go_wp2_with fail
  refine (DA.out _).mono ?_
  rintro e w1 ⟨v1, rfl, s1, hb1⟩
  obtain ⟨ad1, cap1, rfl, _⟩ := s1
  rw [HLa.out]
  go_wp2_with fail
  refine (DB.out _).mono ?_
  rintro e w2 ⟨v2, rfl, s2, hb2⟩
  obtain ⟨ad2, cap2, rfl, _⟩ := s2
  rw [HLb.out]
  go_wp2_with fail
  refine (HL.out _).mono ?_
  rintro e w9 ⟨rfl, rfl⟩
  go_wp2_with fail
  refine (GC.out _).mono ?_
  rintro e w3 ⟨t, rfl, ht, hb3⟩
  have et := eq_lit (b := t) (x := 49) (by rw [ht]; exact (istr_one _).2 Hg.out)
  subst et
  go_wp2_with fail
  refine (HL.out _).mono ?_
  rintro e w9 ⟨rfl, rfl⟩
  have HB : Hid (Below w.heap.size w w3) := hb0.trans ((hb1.trans ((hb2.trans (hb3.mono hb2.size)).mono hb1.size)).mono hb0.size)
  go_wp2
  go_ret
  exact ⟨rfl, HB.out⟩

set_option maxHeartbeats 1000000 in
set_option maxRecDepth 100000 in
theorem rnone_bad (a : ByteArray) (w : World) (HS : Hid (∀ W, Calls Tryz.prog 59 #[.string a] W (TwoPost W a ⟨#[49]⟩)))
    (HL : Hid (∀ W, Calls Tryz.prog 61 #[.string a] W fun e w' => e = .returned (.int .i64 (-1)) ∧ W = w')) (ha : a.size ≤ 1100000)
    (hca : canonI (bl a) = false) :
    Calls Tryz.prog 32 #[.string a] w (RatPost w 12) := by
  have HLo := HL
  obtain ⟨b, hbe⟩ : ∃ b : ByteArray, b = ⟨#[49]⟩ := ⟨_, rfl⟩
  have hcb : canonI (bl b) = true := by rw [hbe]; rfl
  have hneg : isNeg (bl b) = false := by rw [hbe]; rfl
  have hj : intErr (bl b) = 0 := by rw [hbe]; rfl
  have hb : b.size ≤ 1100000 := by rw [hbe]; decide
  have DA := Lib.hid (fun W => digits_bad a W ha hca)
  have DB := Lib.hid (fun W => by have k := digits_ok b W hb hcb; rw [show isNeg (bl b) = false from hneg] at k; exact k)
  subst hbe

  go_enter Tryz.func32, Tryz.ntmps32
  go_wp2_with fail
  refine (HS.out _).mono ?_
  rintro e w' ⟨rfl, n, rfl⟩
  have hb0 : Below w.heap.size w (w.drewN n) := below_drewN (Below.refl _ _) _
  go_wp2_with fail
  refine (DA.out _).mono ?_
  rintro e w1 ⟨rfl, hb1⟩
  go_wp2_with fail
  refine (DB.out _).mono ?_
  rintro e w2 ⟨v2, rfl, s2, hb2⟩
  obtain ⟨ad2, cap2, rfl, _⟩ := s2
  have HB : Hid (Below w.heap.size w w2) := hb0.trans ((hb1.trans (hb2.mono hb1.size)).mono hb0.size)
  go_wp2
  go_ret
  exact ⟨rfl, HB.out⟩

set_option maxHeartbeats 1000000 in
set_option maxRecDepth 100000 in
theorem rnone_big (a : ByteArray) (w : World) (HS : Hid (∀ W, Calls Tryz.prog 59 #[.string a] W (TwoPost W a ⟨#[49]⟩)))
    (HL : Hid (∀ W, Calls Tryz.prog 61 #[.string a] W fun e w' => e = .returned (.int .i64 (-1)) ∧ W = w')) (ha : a.size ≤ 1100000)
    (hca : canonI (bl a) = true) (hi : intErr (bl a) ≠ 0) :
    Calls Tryz.prog 32 #[.string a] w (RatPost w 14) := by
  have HLo := HL
  obtain ⟨b, hbe⟩ : ∃ b : ByteArray, b = ⟨#[49]⟩ := ⟨_, rfl⟩
  have hcb : canonI (bl b) = true := by rw [hbe]; rfl
  have hneg : isNeg (bl b) = false := by rw [hbe]; rfl
  have hj : intErr (bl b) = 0 := by rw [hbe]; rfl
  have hb : b.size ≤ 1100000 := by rw [hbe]; decide
  have DA := Lib.hid (fun W => digits_ok a W ha hca)
  have DB := Lib.hid (fun W => by have k := digits_ok b W hb hcb; rw [show isNeg (bl b) = false from hneg] at k; exact k)
  obtain ⟨La, hLa⟩ : ∃ L, (rdig (body (bl a))).length = L := ⟨_, rfl⟩
  have HLa := Lib.hid hLa
  rw [rdig_length] at hLa
  have gLa : 1000 < La := by rw [← hLa]; exact big_of (by assumption) (by assumption)
  have dLa : decide ((1000 : Int) < (La : Int)) = true := by rw [decide_eq_true_eq]; omega
  clear hLa
  subst hbe

  go_enter Tryz.func32, Tryz.ntmps32
  go_wp2_with fail
  refine (HS.out _).mono ?_
  rintro e w' ⟨rfl, n, rfl⟩
  have hb0 : Below w.heap.size w (w.drewN n) := below_drewN (Below.refl _ _) _
  go_wp2_with fail
  refine (DA.out _).mono ?_
  rintro e w1 ⟨v1, rfl, s1, hb1⟩
  obtain ⟨ad1, cap1, rfl, _⟩ := s1
  rw [HLa.out]
  go_wp2_with fail
  refine (DB.out _).mono ?_
  rintro e w2 ⟨v2, rfl, s2, hb2⟩
  obtain ⟨ad2, cap2, rfl, _⟩ := s2
  go_wp2_with fail
  refine (HL.out _).mono ?_
  rintro e w9 ⟨rfl, rfl⟩
  have HB : Hid (Below w.heap.size w w2) := hb0.trans ((hb1.trans (hb2.mono hb1.size)).mono hb0.size)
  go_wp2
  go_ret
  exact ⟨rfl, HB.out⟩

set_option maxHeartbeats 1000000 in
set_option maxRecDepth 100000 in
theorem rnone_good (a : ByteArray) (w : World) (HS : Hid (∀ W, Calls Tryz.prog 59 #[.string a] W (TwoPost W a ⟨#[49]⟩)))
    (HL : Hid (∀ W, Calls Tryz.prog 61 #[.string a] W fun e w' => e = .returned (.int .i64 (-1)) ∧ W = w')) (ha : a.size ≤ 1100000)
    (hca : canonI (bl a) = true) (hi : intErr (bl a) = 0) :
    Calls Tryz.prog 32 #[.string a] w (RatPost w 0) := by
  have HLo := HL
  obtain ⟨b, hbe⟩ : ∃ b : ByteArray, b = ⟨#[49]⟩ := ⟨_, rfl⟩
  have hcb : canonI (bl b) = true := by rw [hbe]; rfl
  have hneg : isNeg (bl b) = false := by rw [hbe]; rfl
  have hj : intErr (bl b) = 0 := by rw [hbe]; rfl
  have hb : b.size ≤ 1100000 := by rw [hbe]; decide
  have DA := Lib.hid (fun W => digits_ok a W ha hca)
  have DB := Lib.hid (fun W => by have k := digits_ok b W hb hcb; rw [show isNeg (bl b) = false from hneg] at k; exact k)
  have GC := Lib.hid (fun W => rgcd_ok a b W ha hb hi hj)
  obtain ⟨La, hLa⟩ : ∃ L, (rdig (body (bl a))).length = L := ⟨_, rfl⟩
  have HLa := Lib.hid hLa
  rw [rdig_length] at hLa
  have gLa : La ≤ 1000 := by rw [← hLa]; exact (intErr_zero (by assumption)).2
  have dLa : decide ((1000 : Int) < (La : Int)) = false := by rw [decide_eq_false_iff_not]; omega
  clear hLa
  obtain ⟨Lb, hLb⟩ : ∃ L, (rdig (body (bl b))).length = L := ⟨_, rfl⟩
  have HLb := Lib.hid hLb
  rw [rdig_length] at hLb
  have gLb : Lb ≤ 1000 := by rw [← hLb]; exact (intErr_zero (by assumption)).2
  have dLb : decide ((1000 : Int) < (Lb : Int)) = false := by rw [decide_eq_false_iff_not]; omega
  clear hLb
  subst hbe

  go_enter Tryz.func32, Tryz.ntmps32
  go_wp2_with fail
  refine (HS.out _).mono ?_
  rintro e w' ⟨rfl, n, rfl⟩
  have hb0 : Below w.heap.size w (w.drewN n) := below_drewN (Below.refl _ _) _
  go_wp2_with fail
  refine (DA.out _).mono ?_
  rintro e w1 ⟨v1, rfl, s1, hb1⟩
  obtain ⟨ad1, cap1, rfl, _⟩ := s1
  rw [HLa.out]
  go_wp2_with fail
  refine (DB.out _).mono ?_
  rintro e w2 ⟨v2, rfl, s2, hb2⟩
  obtain ⟨ad2, cap2, rfl, _⟩ := s2
  rw [HLb.out]
  go_wp2_with fail
  refine (HL.out _).mono ?_
  rintro e w9 ⟨rfl, rfl⟩
  go_wp2_with fail
  refine (GC.out _).mono ?_
  rintro e w3 ⟨t, rfl, ht, hb3⟩
  go_wp2_with fail
  refine (HL.out _).mono ?_
  rintro e w9 ⟨rfl, rfl⟩
  have HB : Hid (Below w.heap.size w w3) := hb0.trans ((hb1.trans ((hb2.trans (hb3.mono hb2.size)).mono hb1.size)).mono hb0.size)
  go_wp2
  go_ret
  exact ⟨rfl, HB.out⟩

theorem rfrac_any (s a b : ByteArray) (w : World) (o : Nat) (HS : Hid (∀ W, Calls Tryz.prog 59 #[.string s] W (TwoPost W a b)))
    (HL : Hid (∀ W, Calls Tryz.prog 61 #[.string s] W fun e w' => e = .returned (.int .i64 (o : Int)) ∧ W = w')) (ha : a.size ≤ 1100000) (hb : b.size ≤ 1100000) :
    Calls Tryz.prog 32 #[.string s] w (RatPost w (fracErr (bl a) (bl b))) := by
  unfold fracErr
  split
  · next h =>
    by_cases hcb : canonI (bl b) = true
    · exact rfrac_a_ok s a b w o HS HL ha hb h hcb
    · exact rfrac_a_bad s a b w o HS HL ha hb h (by simpa using hcb)
  next h1 =>
  have hca : canonI (bl a) = true := by simpa using h1
  split
  · next h => exact rfrac_b s a b w o HS HL ha hb hca h
  next h2 =>
  have hcb : canonI (bl b) = true := by simpa using h2
  split
  · next h => exact rfrac_neg s a b w o HS HL ha hb hca hcb h
  next h3 =>
  split
  · next h => exact rfrac_zero s a b w o HS HL ha hb hca hcb h
  next h4 =>
  split
  · next h => exact rfrac_one s a b w o HS HL ha hb hca hcb h
  next h5 =>
  split
  · next h => exact rfrac_big_a s a b w o HS HL ha hb hca hcb h3 h4 h5 h
  next h6 =>
  have hi : intErr (bl a) = 0 := by simpa using h6
  split
  · next h => exact rfrac_big_b s a b w o HS HL ha hb hca hcb h3 h4 h5 hi h
  next h7 =>
  have hj : intErr (bl b) = 0 := by simpa using h7
  split
  · next h => exact rfrac_good s a b w o HS HL ha hb hca hcb h3 h4 h5 hi hj h
  next h8 => exact rfrac_gcd s a b w o HS HL ha hb hca hcb h3 h4 h5 hi hj h8

/-- novationref02.Check. -/
theorem refrat_any (s : ByteArray) (w : World) (hs : s.size ≤ 1100000) :
    Calls Tryz.prog 32 #[.string s] w (RatPost w (ratErr s)) := by
  have hL := fun W => rslash_any s W (by omega)
  rcases slash_cases s with h | ⟨o, h, ho⟩
  · rw [h] at hL
    have HS := Lib.hid (fun W => written_none s W (by omega) h)
    rw [ratErr, if_pos h]
    by_cases hca : canonI (bl s) = true
    · by_cases hi : intErr (bl s) = 0
      · rw [hi]; exact rnone_good s w HS (Lib.hid hL) hs hca hi
      · rw [intErr_of hca hi]; exact rnone_big s w HS (Lib.hid hL) hs hca hi
    · have hf : canonI (bl s) = false := by simpa using hca
      rw [intErr_of_not hf]; exact rnone_bad s w HS (Lib.hid hL) hs hf
  · rw [h] at hL
    have e : ratErr s = fracErr (bl (s.extract 0 o)) (bl (s.extract (o + 1) s.size)) := by
      rw [ratErr, if_neg (by rw [h]; omega), h, bl_drop, bl_extract]
      rfl
    rw [e]
    refine rfrac_any s _ _ w o (Lib.hid (fun W => written_some s W o h ho (by omega))) (Lib.hid hL) ?_ ?_
    · rw [← bl_length, bl_extract, List.length_take]; omega
    · rw [← bl_length, bl_drop, List.length_drop, bl_length]; omega
end Go.Proofs.YtofbngpckllkoacGreat
