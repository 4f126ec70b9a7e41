/-
  novationref08.Name.  Printed by tools/genrefname.py. novationref01: at, Greater, Zero; novationref02: Slash. novationref01.Digits.  Printed by tools/genrefdig.py.
-/
import Derived.Test.YtofbngpckllkoaaPart01
import Derived.Test.YtofbngpckllkoaaPart02
import Derived.Test.YtofbngpckllkoaaPart03
namespace Go.Proofs.Ytofbngpckllkoaa
open Go.RowKit

theorem isNm_of {l : List UInt8} (h1 : 0 < l.length) (h2 : l.length ≤ 40) (h3 : l.head?.any isLet = true) (h4 : l.all isNmc = true) : isNm l = true := by
  have a1 : decide (1 ≤ l.length) = true := by rw [decide_eq_true_eq]; omega
  have a2 : decide (l.length ≤ 40) = true := by rw [decide_eq_true_eq]; omega
  rw [isNm, a1, a2, h3, h4]; rfl
theorem isNm_no_all {l : List UInt8} (h : l.all isNmc = false) : isNm l = false := by simp [isNm, h]
theorem isNm_no_head {l : List UInt8} (h : l.head?.any isLet = false) : isNm l = false := by simp [isNm, h]
theorem oth_true {c : UInt8} (h : (48 ≤ c.toNat ∧ c.toNat ≤ 57) ∨ c.toNat = 95 ∨ c.toNat = 45) : isOth c = true := by
  rw [isOth, isDig]; simp only [Bool.or_eq_true, decide_eq_true_eq]; exact h
theorem oth_false {c : UInt8} (h : ¬ (48 ≤ c.toNat ∧ c.toNat ≤ 57)) (h1 : c.toNat ≠ 95) (h2 : c.toNat ≠ 45) : isOth c = false := by
  rw [isOth, isDig]; simp only [Bool.or_eq_false_iff, decide_eq_false_iff_not]; exact ⟨h, h1, h2⟩
theorem byte_cases (c : UInt8) : c.toNat < 45 ∨ c.toNat = 45 ∨ (45 < c.toNat ∧ c.toNat < 48) ∨ (48 ≤ c.toNat ∧ c.toNat ≤ 57) ∨ (57 < c.toNat ∧ c.toNat < 65) ∨ (65 ≤ c.toNat ∧ c.toNat ≤ 90) ∨ (90 < c.toNat ∧ c.toNat < 95) ∨ c.toNat = 95 ∨ c.toNat = 96 ∨ (97 ≤ c.toNat ∧ c.toNat ≤ 122) ∨ 122 < c.toNat := by
  have := c.toNat_lt
  omega

set_option maxRecDepth 100000 in
theorem rname_no (s : ByteArray) (w : World) (h : s.size = 0 ∨ 40 < s.size) (hl : s.size ≤ 9223372036854775807) :
    Calls Try.prog 31 #[.string s] w fun e w' => e = .returned (.bool (isNm (bl s))) ∧ w = w' := by
  have HR : Hid (isNm (bl s) = false) := by
    show _ = _
    rcases h with h | h
    · exact isNm_short (by rw [bl_length]; exact h)
    · exact isNm_long (by rw [bl_length]; exact h)
  rcases h with h | h
  · have d1 : ((s.size : Int) == 0) = true := by simp [h]
    clear h
    go_enter Try.func31, Try.ntmps31
    go_wp2
    go_ret
    exact ⟨ret_bool' HR.out.symm, rfl⟩
  · have d1 : ((s.size : Int) == 0) = false := by rw [beq_eq_false_iff_ne]; omega
    have d2 : decide ((40 : Int) < (s.size : Int)) = true := by rw [decide_eq_true_eq]; omega
    clear hl
    go_enter Try.func31, Try.ntmps31
    go_wp2
    go_ret
    exact ⟨ret_bool' HR.out.symm, rfl⟩

set_option maxHeartbeats 2000000 in
set_option maxRecDepth 100000 in
theorem rname_loop (s : ByteArray) (w : World) (h1 : 0 < s.size) (h2 : s.size ≤ 40) :
    Calls Try.prog 31 #[.string s] w fun e w' => e = .returned (.bool (isNm (bl s))) ∧ w = w' := by
  have d1 : ((s.size : Int) == 0) = false := by rw [beq_eq_false_iff_ne]; omega
  have d2 : decide ((40 : Int) < (s.size : Int)) = false := by rw [decide_eq_false_iff_not]; omega
  go_enter Try.func31, Try.ntmps31
  go_wp2
  go_loop [3] (fun i => ∃ k : Nat, k ≤ s.size ∧ i = .int .i64 k ∧ Hid (((bl s).take k).all isNmc = true ∧ (0 < k → (bl s).head?.any isLet = true))) (fun i => s.size - (intOf i).toNat)
  case atStart => exact ⟨0, Nat.zero_le _, rfl, ⟨rfl, fun h => absurd h (Nat.lt_irrefl _)⟩⟩
  case round =>
    obtain ⟨k, hk, rfl, Hall⟩ := hrel
    clear d1 d2
    by_cases hlt : k < s.size
    · have Hs := Lib.hid (take_succ_all isNmc s k hlt)
      have Hh : Hid (k = 0 → (bl s).head?.any isLet = isLet s[k]) := by
        intro h; subst h; rw [bl_cons s h1]; rfl
      obtain ⟨c, hc⟩ : ∃ c, s[k] = c := ⟨_, rfl⟩
      rw [hc] at Hs Hh
      rcases byte_cases c with h | h | h | h | h | h | h | h | h | h | h
      · have hl : isLet c = false := by rw [isLet]; simp; omega
        have ho : isOth c = false := oth_false (by omega) (by omega) (by omega)
        have t1 : decide ((97 : Int) ≤ ((c.toNat : Nat) : Int)) = false := by rw [decide_eq_false_iff_not]; omega
        have t3 : decide ((65 : Int) ≤ ((c.toNat : Nat) : Int)) = false := by rw [decide_eq_false_iff_not]; omega
        have t5 : decide ((48 : Int) ≤ ((c.toNat : Nat) : Int)) = false := by rw [decide_eq_false_iff_not]; omega
        have t7 : (((c.toNat : Nat) : Int) == 95) = false := by rw [beq_eq_false_iff_ne]; omega
        have t8 : (((c.toNat : Nat) : Int) == 45) = false := by rw [beq_eq_false_iff_ne]; omega
        clear h
        have HL := Lib.hid hl
        have HO := Lib.hid ho
        by_cases hk0 : k = 0
        · have t9 : ((k : Int) == 0) = true := by rw [beq_iff_eq]; omega
          have HK := Lib.hid hk0
          clear hk0
          have Hno : Hid (isNm (bl s) = false) := by show _ = _; exact isNm_no_head (by rw [Hh.out HK.out]; exact HL.out)
          clear hl ho
          go_wp2
          go_ret
          exact ⟨ret_bool' Hno.out.symm, rfl⟩
        · have t9 : ((k : Int) == 0) = false := by rw [beq_eq_false_iff_ne]; omega
          have Hno : Hid (isNm (bl s) = false) := by show _ = _; exact isNm_no_all (all_false_of_take (k := k + 1) (by rw [Hs.out, isNmc, HL.out, HO.out]; simp))
          clear hl ho
          go_wp2
          go_ret
          exact ⟨ret_bool' Hno.out.symm, rfl⟩
      · have hl : isLet c = false := by rw [isLet]; simp; omega
        have ho : isOth c = true := oth_true (by omega)
        have t1 : decide ((97 : Int) ≤ ((c.toNat : Nat) : Int)) = false := by rw [decide_eq_false_iff_not]; omega
        have t3 : decide ((65 : Int) ≤ ((c.toNat : Nat) : Int)) = false := by rw [decide_eq_false_iff_not]; omega
        have t5 : decide ((48 : Int) ≤ ((c.toNat : Nat) : Int)) = false := by rw [decide_eq_false_iff_not]; omega
        have t7 : (((c.toNat : Nat) : Int) == 95) = false := by rw [beq_eq_false_iff_ne]; omega
        have t8 : (((c.toNat : Nat) : Int) == 45) = true := by rw [beq_iff_eq]; omega
        clear h
        have HL := Lib.hid hl
        have HO := Lib.hid ho
        by_cases hk0 : k = 0
        · have t9 : ((k : Int) == 0) = true := by rw [beq_iff_eq]; omega
          have HK := Lib.hid hk0
          clear hk0
          have Hno : Hid (isNm (bl s) = false) := by show _ = _; exact isNm_no_head (by rw [Hh.out HK.out]; exact HL.out)
          clear hl ho
          go_wp2
          go_ret
          exact ⟨ret_bool' Hno.out.symm, rfl⟩
        · have t9 : ((k : Int) == 0) = false := by rw [beq_eq_false_iff_ne]; omega
          clear hl ho
          have Hok : Hid (((bl s).take (k + 1)).all isNmc = true ∧ (0 < k + 1 → (bl s).head?.any isLet = true)) := ⟨by rw [Hs.out, Hall.out.1, isNmc, HL.out, HO.out]; rfl, fun _ => Hall.out.2 (by omega)⟩
          go_wp2
          go_round
          case rel => exact ⟨k + 1, by omega, by go_num, Hok⟩
          case measure => simp [intOf]; omega
      · have hl : isLet c = false := by rw [isLet]; simp; omega
        have ho : isOth c = false := oth_false (by omega) (by omega) (by omega)
        have t1 : decide ((97 : Int) ≤ ((c.toNat : Nat) : Int)) = false := by rw [decide_eq_false_iff_not]; omega
        have t3 : decide ((65 : Int) ≤ ((c.toNat : Nat) : Int)) = false := by rw [decide_eq_false_iff_not]; omega
        have t5 : decide ((48 : Int) ≤ ((c.toNat : Nat) : Int)) = false := by rw [decide_eq_false_iff_not]; omega
        have t7 : (((c.toNat : Nat) : Int) == 95) = false := by rw [beq_eq_false_iff_ne]; omega
        have t8 : (((c.toNat : Nat) : Int) == 45) = false := by rw [beq_eq_false_iff_ne]; omega
        clear h
        have HL := Lib.hid hl
        have HO := Lib.hid ho
        by_cases hk0 : k = 0
        · have t9 : ((k : Int) == 0) = true := by rw [beq_iff_eq]; omega
          have HK := Lib.hid hk0
          clear hk0
          have Hno : Hid (isNm (bl s) = false) := by show _ = _; exact isNm_no_head (by rw [Hh.out HK.out]; exact HL.out)
          clear hl ho
          go_wp2
          go_ret
          exact ⟨ret_bool' Hno.out.symm, rfl⟩
        · have t9 : ((k : Int) == 0) = false := by rw [beq_eq_false_iff_ne]; omega
          have Hno : Hid (isNm (bl s) = false) := by show _ = _; exact isNm_no_all (all_false_of_take (k := k + 1) (by rw [Hs.out, isNmc, HL.out, HO.out]; simp))
          clear hl ho
          go_wp2
          go_ret
          exact ⟨ret_bool' Hno.out.symm, rfl⟩
      · have hl : isLet c = false := by rw [isLet]; simp; omega
        have ho : isOth c = true := oth_true (by omega)
        have t1 : decide ((97 : Int) ≤ ((c.toNat : Nat) : Int)) = false := by rw [decide_eq_false_iff_not]; omega
        have t3 : decide ((65 : Int) ≤ ((c.toNat : Nat) : Int)) = false := by rw [decide_eq_false_iff_not]; omega
        have t5 : decide ((48 : Int) ≤ ((c.toNat : Nat) : Int)) = true := by rw [decide_eq_true_eq]; omega
        have t6 : decide (((c.toNat : Nat) : Int) ≤ 57) = true := by rw [decide_eq_true_eq]; omega
        clear h
        have HL := Lib.hid hl
        have HO := Lib.hid ho
        by_cases hk0 : k = 0
        · have t9 : ((k : Int) == 0) = true := by rw [beq_iff_eq]; omega
          have HK := Lib.hid hk0
          clear hk0
          have Hno : Hid (isNm (bl s) = false) := by show _ = _; exact isNm_no_head (by rw [Hh.out HK.out]; exact HL.out)
          clear hl ho
          go_wp2
          go_ret
          exact ⟨ret_bool' Hno.out.symm, rfl⟩
        · have t9 : ((k : Int) == 0) = false := by rw [beq_eq_false_iff_ne]; omega
          clear hl ho
          have Hok : Hid (((bl s).take (k + 1)).all isNmc = true ∧ (0 < k + 1 → (bl s).head?.any isLet = true)) := ⟨by rw [Hs.out, Hall.out.1, isNmc, HL.out, HO.out]; rfl, fun _ => Hall.out.2 (by omega)⟩
          go_wp2
          go_round
          case rel => exact ⟨k + 1, by omega, by go_num, Hok⟩
          case measure => simp [intOf]; omega
      · have hl : isLet c = false := by rw [isLet]; simp; omega
        have ho : isOth c = false := oth_false (by omega) (by omega) (by omega)
        have t1 : decide ((97 : Int) ≤ ((c.toNat : Nat) : Int)) = false := by rw [decide_eq_false_iff_not]; omega
        have t3 : decide ((65 : Int) ≤ ((c.toNat : Nat) : Int)) = false := by rw [decide_eq_false_iff_not]; omega
        have t5 : decide ((48 : Int) ≤ ((c.toNat : Nat) : Int)) = true := by rw [decide_eq_true_eq]; omega
        have t6 : decide (((c.toNat : Nat) : Int) ≤ 57) = false := by rw [decide_eq_false_iff_not]; omega
        have t7 : (((c.toNat : Nat) : Int) == 95) = false := by rw [beq_eq_false_iff_ne]; omega
        have t8 : (((c.toNat : Nat) : Int) == 45) = false := by rw [beq_eq_false_iff_ne]; omega
        clear h
        have HL := Lib.hid hl
        have HO := Lib.hid ho
        by_cases hk0 : k = 0
        · have t9 : ((k : Int) == 0) = true := by rw [beq_iff_eq]; omega
          have HK := Lib.hid hk0
          clear hk0
          have Hno : Hid (isNm (bl s) = false) := by show _ = _; exact isNm_no_head (by rw [Hh.out HK.out]; exact HL.out)
          clear hl ho
          go_wp2
          go_ret
          exact ⟨ret_bool' Hno.out.symm, rfl⟩
        · have t9 : ((k : Int) == 0) = false := by rw [beq_eq_false_iff_ne]; omega
          have Hno : Hid (isNm (bl s) = false) := by show _ = _; exact isNm_no_all (all_false_of_take (k := k + 1) (by rw [Hs.out, isNmc, HL.out, HO.out]; simp))
          clear hl ho
          go_wp2
          go_ret
          exact ⟨ret_bool' Hno.out.symm, rfl⟩
      · have hl : isLet c = true := by rw [isLet]; simp; omega
        have ho : isOth c = false := oth_false (by omega) (by omega) (by omega)
        have t1 : decide ((97 : Int) ≤ ((c.toNat : Nat) : Int)) = false := by rw [decide_eq_false_iff_not]; omega
        have t3 : decide ((65 : Int) ≤ ((c.toNat : Nat) : Int)) = true := by rw [decide_eq_true_eq]; omega
        have t4 : decide (((c.toNat : Nat) : Int) ≤ 90) = true := by rw [decide_eq_true_eq]; omega
        have t5 : decide ((48 : Int) ≤ ((c.toNat : Nat) : Int)) = true := by rw [decide_eq_true_eq]; omega
        have t6 : decide (((c.toNat : Nat) : Int) ≤ 57) = false := by rw [decide_eq_false_iff_not]; omega
        have t7 : (((c.toNat : Nat) : Int) == 95) = false := by rw [beq_eq_false_iff_ne]; omega
        have t8 : (((c.toNat : Nat) : Int) == 45) = false := by rw [beq_eq_false_iff_ne]; omega
        clear h
        have HL := Lib.hid hl
        clear hl ho
        have Hok : Hid (((bl s).take (k + 1)).all isNmc = true ∧ (0 < k + 1 → (bl s).head?.any isLet = true)) := ⟨by rw [Hs.out, Hall.out.1, isNmc, HL.out]; rfl, fun _ => by
          rcases Nat.eq_zero_or_pos k with h0 | h0
          · rw [Hh.out h0]; exact HL.out
          · exact Hall.out.2 h0⟩
        go_wp2
        go_round
        case rel => exact ⟨k + 1, by omega, by go_num, Hok⟩
        case measure => simp [intOf]; omega
      · have hl : isLet c = false := by rw [isLet]; simp; omega
        have ho : isOth c = false := oth_false (by omega) (by omega) (by omega)
        have t1 : decide ((97 : Int) ≤ ((c.toNat : Nat) : Int)) = false := by rw [decide_eq_false_iff_not]; omega
        have t3 : decide ((65 : Int) ≤ ((c.toNat : Nat) : Int)) = true := by rw [decide_eq_true_eq]; omega
        have t4 : decide (((c.toNat : Nat) : Int) ≤ 90) = false := by rw [decide_eq_false_iff_not]; omega
        have t5 : decide ((48 : Int) ≤ ((c.toNat : Nat) : Int)) = true := by rw [decide_eq_true_eq]; omega
        have t6 : decide (((c.toNat : Nat) : Int) ≤ 57) = false := by rw [decide_eq_false_iff_not]; omega
        have t7 : (((c.toNat : Nat) : Int) == 95) = false := by rw [beq_eq_false_iff_ne]; omega
        have t8 : (((c.toNat : Nat) : Int) == 45) = false := by rw [beq_eq_false_iff_ne]; omega
        clear h
        have HL := Lib.hid hl
        have HO := Lib.hid ho
        by_cases hk0 : k = 0
        · have t9 : ((k : Int) == 0) = true := by rw [beq_iff_eq]; omega
          have HK := Lib.hid hk0
          clear hk0
          have Hno : Hid (isNm (bl s) = false) := by show _ = _; exact isNm_no_head (by rw [Hh.out HK.out]; exact HL.out)
          clear hl ho
          go_wp2
          go_ret
          exact ⟨ret_bool' Hno.out.symm, rfl⟩
        · have t9 : ((k : Int) == 0) = false := by rw [beq_eq_false_iff_ne]; omega
          have Hno : Hid (isNm (bl s) = false) := by show _ = _; exact isNm_no_all (all_false_of_take (k := k + 1) (by rw [Hs.out, isNmc, HL.out, HO.out]; simp))
          clear hl ho
          go_wp2
          go_ret
          exact ⟨ret_bool' Hno.out.symm, rfl⟩
      · have hl : isLet c = false := by rw [isLet]; simp; omega
        have ho : isOth c = true := oth_true (by omega)
        have t1 : decide ((97 : Int) ≤ ((c.toNat : Nat) : Int)) = false := by rw [decide_eq_false_iff_not]; omega
        have t3 : decide ((65 : Int) ≤ ((c.toNat : Nat) : Int)) = true := by rw [decide_eq_true_eq]; omega
        have t4 : decide (((c.toNat : Nat) : Int) ≤ 90) = false := by rw [decide_eq_false_iff_not]; omega
        have t5 : decide ((48 : Int) ≤ ((c.toNat : Nat) : Int)) = true := by rw [decide_eq_true_eq]; omega
        have t6 : decide (((c.toNat : Nat) : Int) ≤ 57) = false := by rw [decide_eq_false_iff_not]; omega
        have t7 : (((c.toNat : Nat) : Int) == 95) = true := by rw [beq_iff_eq]; omega
        clear h
        have HL := Lib.hid hl
        have HO := Lib.hid ho
        by_cases hk0 : k = 0
        · have t9 : ((k : Int) == 0) = true := by rw [beq_iff_eq]; omega
          have HK := Lib.hid hk0
          clear hk0
          have Hno : Hid (isNm (bl s) = false) := by show _ = _; exact isNm_no_head (by rw [Hh.out HK.out]; exact HL.out)
          clear hl ho
          go_wp2
          go_ret
          exact ⟨ret_bool' Hno.out.symm, rfl⟩
        · have t9 : ((k : Int) == 0) = false := by rw [beq_eq_false_iff_ne]; omega
          clear hl ho
          have Hok : Hid (((bl s).take (k + 1)).all isNmc = true ∧ (0 < k + 1 → (bl s).head?.any isLet = true)) := ⟨by rw [Hs.out, Hall.out.1, isNmc, HL.out, HO.out]; rfl, fun _ => Hall.out.2 (by omega)⟩
          go_wp2
          go_round
          case rel => exact ⟨k + 1, by omega, by go_num, Hok⟩
          case measure => simp [intOf]; omega
      · have hl : isLet c = false := by rw [isLet]; simp; omega
        have ho : isOth c = false := oth_false (by omega) (by omega) (by omega)
        have t1 : decide ((97 : Int) ≤ ((c.toNat : Nat) : Int)) = false := by rw [decide_eq_false_iff_not]; omega
        have t3 : decide ((65 : Int) ≤ ((c.toNat : Nat) : Int)) = true := by rw [decide_eq_true_eq]; omega
        have t4 : decide (((c.toNat : Nat) : Int) ≤ 90) = false := by rw [decide_eq_false_iff_not]; omega
        have t5 : decide ((48 : Int) ≤ ((c.toNat : Nat) : Int)) = true := by rw [decide_eq_true_eq]; omega
        have t6 : decide (((c.toNat : Nat) : Int) ≤ 57) = false := by rw [decide_eq_false_iff_not]; omega
        have t7 : (((c.toNat : Nat) : Int) == 95) = false := by rw [beq_eq_false_iff_ne]; omega
        have t8 : (((c.toNat : Nat) : Int) == 45) = false := by rw [beq_eq_false_iff_ne]; omega
        clear h
        have HL := Lib.hid hl
        have HO := Lib.hid ho
        by_cases hk0 : k = 0
        · have t9 : ((k : Int) == 0) = true := by rw [beq_iff_eq]; omega
          have HK := Lib.hid hk0
          clear hk0
          have Hno : Hid (isNm (bl s) = false) := by show _ = _; exact isNm_no_head (by rw [Hh.out HK.out]; exact HL.out)
          clear hl ho
          go_wp2
          go_ret
          exact ⟨ret_bool' Hno.out.symm, rfl⟩
        · have t9 : ((k : Int) == 0) = false := by rw [beq_eq_false_iff_ne]; omega
          have Hno : Hid (isNm (bl s) = false) := by show _ = _; exact isNm_no_all (all_false_of_take (k := k + 1) (by rw [Hs.out, isNmc, HL.out, HO.out]; simp))
          clear hl ho
          go_wp2
          go_ret
          exact ⟨ret_bool' Hno.out.symm, rfl⟩
      · have hl : isLet c = true := by rw [isLet]; simp; omega
        have ho : isOth c = false := oth_false (by omega) (by omega) (by omega)
        have t1 : decide ((97 : Int) ≤ ((c.toNat : Nat) : Int)) = true := by rw [decide_eq_true_eq]; omega
        have t2 : decide (((c.toNat : Nat) : Int) ≤ 122) = true := by rw [decide_eq_true_eq]; omega
        have t5 : decide ((48 : Int) ≤ ((c.toNat : Nat) : Int)) = true := by rw [decide_eq_true_eq]; omega
        have t6 : decide (((c.toNat : Nat) : Int) ≤ 57) = false := by rw [decide_eq_false_iff_not]; omega
        have t7 : (((c.toNat : Nat) : Int) == 95) = false := by rw [beq_eq_false_iff_ne]; omega
        have t8 : (((c.toNat : Nat) : Int) == 45) = false := by rw [beq_eq_false_iff_ne]; omega
        clear h
        have HL := Lib.hid hl
        clear hl ho
        have Hok : Hid (((bl s).take (k + 1)).all isNmc = true ∧ (0 < k + 1 → (bl s).head?.any isLet = true)) := ⟨by rw [Hs.out, Hall.out.1, isNmc, HL.out]; rfl, fun _ => by
          rcases Nat.eq_zero_or_pos k with h0 | h0
          · rw [Hh.out h0]; exact HL.out
          · exact Hall.out.2 h0⟩
        go_wp2
        go_round
        case rel => exact ⟨k + 1, by omega, by go_num, Hok⟩
        case measure => simp [intOf]; omega
      · have hl : isLet c = false := by rw [isLet]; simp; omega
        have ho : isOth c = false := oth_false (by omega) (by omega) (by omega)
        have t1 : decide ((97 : Int) ≤ ((c.toNat : Nat) : Int)) = true := by rw [decide_eq_true_eq]; omega
        have t2 : decide (((c.toNat : Nat) : Int) ≤ 122) = false := by rw [decide_eq_false_iff_not]; omega
        have t3 : decide ((65 : Int) ≤ ((c.toNat : Nat) : Int)) = true := by rw [decide_eq_true_eq]; omega
        have t4 : decide (((c.toNat : Nat) : Int) ≤ 90) = false := by rw [decide_eq_false_iff_not]; omega
        have t5 : decide ((48 : Int) ≤ ((c.toNat : Nat) : Int)) = true := by rw [decide_eq_true_eq]; omega
        have t6 : decide (((c.toNat : Nat) : Int) ≤ 57) = false := by rw [decide_eq_false_iff_not]; omega
        have t7 : (((c.toNat : Nat) : Int) == 95) = false := by rw [beq_eq_false_iff_ne]; omega
        have t8 : (((c.toNat : Nat) : Int) == 45) = false := by rw [beq_eq_false_iff_ne]; omega
        clear h
        have HL := Lib.hid hl
        have HO := Lib.hid ho
        by_cases hk0 : k = 0
        · have t9 : ((k : Int) == 0) = true := by rw [beq_iff_eq]; omega
          have HK := Lib.hid hk0
          clear hk0
          have Hno : Hid (isNm (bl s) = false) := by show _ = _; exact isNm_no_head (by rw [Hh.out HK.out]; exact HL.out)
          clear hl ho
          go_wp2
          go_ret
          exact ⟨ret_bool' Hno.out.symm, rfl⟩
        · have t9 : ((k : Int) == 0) = false := by rw [beq_eq_false_iff_ne]; omega
          have Hno : Hid (isNm (bl s) = false) := by show _ = _; exact isNm_no_all (all_false_of_take (k := k + 1) (by rw [Hs.out, isNmc, HL.out, HO.out]; simp))
          clear hl ho
          go_wp2
          go_ret
          exact ⟨ret_bool' Hno.out.symm, rfl⟩
    · obtain rfl : k = s.size := by omega
      have HY : Hid (isNm (bl s) = true) := by
        show _ = _
        exact isNm_of (by rw [bl_length]; exact h1) (by rw [bl_length]; exact h2) (Hall.out.2 h1) (by rw [← Hall.out.1, List.take_of_length_le (by rw [bl_length]; exact Nat.le_refl _)])
      go_wp2
      go_ret
      exact ⟨ret_bool' HY.out.symm, rfl⟩

theorem rname_any (s : ByteArray) (w : World) (hl : s.size ≤ 9223372036854775807) :
    Calls Try.prog 31 #[.string s] w fun e w' => e = .returned (.bool (isNm (bl s))) ∧ w = w' := by
  by_cases h1 : 0 < s.size
  · by_cases h2 : s.size ≤ 40
    · exact rname_loop s w h1 h2
    · exact rname_no s w (.inr (by omega)) hl
  · exact rname_no s w (.inl (by omega)) hl
end Go.Proofs.Ytofbngpckllkoaa

namespace Go.Proofs.Ytofbngpckllkoaa
open Go.RowKit

set_option maxHeartbeats 400000 in
set_option maxRecDepth 100000 in
theorem at_any (v : Value) (xs : List Nat) (k : Nat) (w : World) (hv : Sl w v 1 xs.length (nums .i64 xs)) (_ : xs.length ≤ 1000000) :
    Calls Try.prog 73 #[v, .int .i64 k] w fun e w' => e = .returned (.int .i64 (xs.getD k 0 : Nat)) ∧ w = w' := by
  obtain ⟨ad, cap, rfl, h1, h3⟩ := hv.nums
  clear hv
  by_cases h : k < xs.length
  · obtain ⟨b, off, rfl, hc⟩ := h3.resolve_left (by omega)
    have hck := hc k h
    clear hc h3
    obtain ⟨y, hy⟩ : ∃ y, xs.getD k 0 = y := ⟨_, rfl⟩
    rw [hy] at hck ⊢
    go_enter Try.func73, Try.ntmps73
    go_wp2
    go_ret
    exact ⟨rfl, rfl⟩
  · have e : xs.getD k 0 = 0 := by simp only [List.getD, List.getElem?_eq_none (by omega : xs.length ≤ k), Option.getD_none]
    rw [e]
    go_enter Try.func73, Try.ntmps73
    go_wp2
    go_ret
    exact ⟨rfl, rfl⟩

theorem cmpD_max {b : Nat} (hb : 1 < b) {xs ys : List Nat} (hx : Dig b xs) (hy : Dig b ys) (k : Nat) (h1 : xs.length ≤ k) (h2 : ys.length ≤ k) : cmpD k xs ys = sgn (val b xs) (val b ys) := by
  rw [cmpD_eq hb hx hy, List.take_of_length_le h1, List.take_of_length_le h2]

set_option maxHeartbeats 400000 in
set_option maxRecDepth 100000 in
theorem greater_lt (a b : Value) (xs ys : List Nat) (w : World) (ha : Sl w a 1 xs.length (nums .i64 xs)) (hb : Sl w b 1 ys.length (nums .i64 ys)) (dx : Dig 10 xs) (dy : Dig 10 ys) (lx : xs.length ≤ 1000000) (ly : ys.length ≤ 1000000) (hlt : xs.length < ys.length) :
    Calls Try.prog 69 #[a, b] w fun e w' => e = .returned (.int .i64 (sgn (val 10 xs) (val 10 ys))) ∧ w = w' := by
  have HA := Lib.hid (fun k => at_any a xs k w ha lx)
  have HB := Lib.hid (fun k => at_any b ys k w hb ly)
  have HS := Lib.hid (cmpD_max (by decide) dx dy ys.length (by omega) (by omega))
  obtain ⟨ad, ca, rfl, _⟩ := id ha
  obtain ⟨bd, cb, rfl, _⟩ := id hb
  clear ha hb dx dy
  go_enter Try.func69, Try.ntmps69
  go_wp2
  go_loopw [5] (fun i wr => ∃ k : Nat, k ≤ ys.length ∧ i = .int .i64 (k - 1) ∧ Hid (cmpD k xs ys = cmpD ys.length xs ys) ∧ Hid (wr = w))
    (fun i _ => (intOf i + 1).toNat)
  case atStart => exact ⟨ys.length, Nat.le_refl _, by go_num, rfl, rfl⟩
  case round =>
    obtain ⟨k, hk, rfl, Hrel, hw⟩ := hrel
    obtain rfl := hw.out
    by_cases h0 : 0 < k
    · obtain ⟨k, rfl⟩ : ∃ k', k = k' + 1 := ⟨k - 1, by omega⟩
      have e1 : ((k + 1 : Nat) : Int) - 1 = (k : Int) := by omega
      rw [e1]
      obtain ⟨x, hx⟩ : ∃ x, xs.getD k 0 = x := ⟨_, rfl⟩
      obtain ⟨y, hy⟩ : ∃ y, ys.getD k 0 = y := ⟨_, rfl⟩
      have HAk := Lib.hid (HA.out k)
      have HBk := Lib.hid (HB.out k)
      rw [hx] at HAk
      rw [hy] at HBk
      have Hx := Lib.hid hx; clear hx
      have Hy := Lib.hid hy; clear hy
      by_cases he : x = y
      · subst he
        have hq2 : ((x : Int) != (x : Int)) = false := by simp
        go_wp2_with fail
        refine HAk.out.mono ?_
        rintro e w1 ⟨rfl, rfl⟩
        go_wp2_with fail
        refine HBk.out.mono ?_
        rintro e w1 ⟨rfl, rfl⟩
        go_wp2
        go_roundw
        case rel =>
          refine ⟨k, by omega, by go_num, ?_, by first | exact rfl | exact trivial⟩
          have e := Hrel.out
          rw [cmpD, if_pos (by rw [Hx.out, Hy.out])] at e
          exact e
        case measure => simp [intOf]
      · have hne : ((x : Int) != (y : Int)) = true := by rw [bne_iff_ne]; omega
        by_cases hxy : x < y
        · go_wp2_with fail
          refine HAk.out.mono ?_
          rintro e w1 ⟨rfl, rfl⟩
          go_wp2_with fail
          refine HBk.out.mono ?_
          rintro e w1 ⟨rfl, rfl⟩
          go_wp2_with fail
          refine HAk.out.mono ?_
          rintro e w1 ⟨rfl, rfl⟩
          go_wp2_with fail
          refine HBk.out.mono ?_
          rintro e w1 ⟨rfl, rfl⟩
          go_wp2
          go_ret
          refine ⟨ret_int' ?_, rfl⟩
          have e := Hrel.out
          rw [cmpD, if_neg (by rw [Hx.out, Hy.out]; exact he), if_pos (by rw [Hx.out, Hy.out]; exact hxy)] at e
          rw [← HS.out]
          exact e
        · go_wp2_with fail
          refine HAk.out.mono ?_
          rintro e w1 ⟨rfl, rfl⟩
          go_wp2_with fail
          refine HBk.out.mono ?_
          rintro e w1 ⟨rfl, rfl⟩
          go_wp2_with fail
          refine HAk.out.mono ?_
          rintro e w1 ⟨rfl, rfl⟩
          go_wp2_with fail
          refine HBk.out.mono ?_
          rintro e w1 ⟨rfl, rfl⟩
          go_wp2
          go_ret
          refine ⟨ret_int' ?_, rfl⟩
          have e := Hrel.out
          rw [cmpD, if_neg (by rw [Hx.out, Hy.out]; exact he), if_neg (by rw [Hx.out, Hy.out]; exact hxy)] at e
          rw [← HS.out]
          exact e
    · obtain rfl : k = 0 := by omega
      go_wp2
      go_ret
      refine ⟨ret_int' ?_, rfl⟩
      rw [← HS.out]
      exact Hrel.out

set_option maxHeartbeats 400000 in
set_option maxRecDepth 100000 in
theorem greater_ge (a b : Value) (xs ys : List Nat) (w : World) (ha : Sl w a 1 xs.length (nums .i64 xs)) (hb : Sl w b 1 ys.length (nums .i64 ys)) (dx : Dig 10 xs) (dy : Dig 10 ys) (lx : xs.length ≤ 1000000) (ly : ys.length ≤ 1000000) (hlt : ys.length ≤ xs.length) :
    Calls Try.prog 69 #[a, b] w fun e w' => e = .returned (.int .i64 (sgn (val 10 xs) (val 10 ys))) ∧ w = w' := by
  have HA := Lib.hid (fun k => at_any a xs k w ha lx)
  have HB := Lib.hid (fun k => at_any b ys k w hb ly)
  have HS := Lib.hid (cmpD_max (by decide) dx dy xs.length (by omega) (by omega))
  obtain ⟨ad, ca, rfl, _⟩ := id ha
  obtain ⟨bd, cb, rfl, _⟩ := id hb
  clear ha hb dx dy
  go_enter Try.func69, Try.ntmps69
  go_wp2
  go_loopw [5] (fun i wr => ∃ k : Nat, k ≤ xs.length ∧ i = .int .i64 (k - 1) ∧ Hid (cmpD k xs ys = cmpD xs.length xs ys) ∧ Hid (wr = w))
    (fun i _ => (intOf i + 1).toNat)
  case atStart => exact ⟨xs.length, Nat.le_refl _, by go_num, rfl, rfl⟩
  case round =>
    obtain ⟨k, hk, rfl, Hrel, hw⟩ := hrel
    obtain rfl := hw.out
    by_cases h0 : 0 < k
    · obtain ⟨k, rfl⟩ : ∃ k', k = k' + 1 := ⟨k - 1, by omega⟩
      have e1 : ((k + 1 : Nat) : Int) - 1 = (k : Int) := by omega
      rw [e1]
      obtain ⟨x, hx⟩ : ∃ x, xs.getD k 0 = x := ⟨_, rfl⟩
      obtain ⟨y, hy⟩ : ∃ y, ys.getD k 0 = y := ⟨_, rfl⟩
      have HAk := Lib.hid (HA.out k)
      have HBk := Lib.hid (HB.out k)
      rw [hx] at HAk
      rw [hy] at HBk
      have Hx := Lib.hid hx; clear hx
      have Hy := Lib.hid hy; clear hy
      by_cases he : x = y
      · subst he
        have hq2 : ((x : Int) != (x : Int)) = false := by simp
        go_wp2_with fail
        refine HAk.out.mono ?_
        rintro e w1 ⟨rfl, rfl⟩
        go_wp2_with fail
        refine HBk.out.mono ?_
        rintro e w1 ⟨rfl, rfl⟩
        go_wp2
        go_roundw
        case rel =>
          refine ⟨k, by omega, by go_num, ?_, by first | exact rfl | exact trivial⟩
          have e := Hrel.out
          rw [cmpD, if_pos (by rw [Hx.out, Hy.out])] at e
          exact e
        case measure => simp [intOf]
      · have hne : ((x : Int) != (y : Int)) = true := by rw [bne_iff_ne]; omega
        by_cases hxy : x < y
        · go_wp2_with fail
          refine HAk.out.mono ?_
          rintro e w1 ⟨rfl, rfl⟩
          go_wp2_with fail
          refine HBk.out.mono ?_
          rintro e w1 ⟨rfl, rfl⟩
          go_wp2_with fail
          refine HAk.out.mono ?_
          rintro e w1 ⟨rfl, rfl⟩
          go_wp2_with fail
          refine HBk.out.mono ?_
          rintro e w1 ⟨rfl, rfl⟩
          go_wp2
          go_ret
          refine ⟨ret_int' ?_, rfl⟩
          have e := Hrel.out
          rw [cmpD, if_neg (by rw [Hx.out, Hy.out]; exact he), if_pos (by rw [Hx.out, Hy.out]; exact hxy)] at e
          rw [← HS.out]
          exact e
        · go_wp2_with fail
          refine HAk.out.mono ?_
          rintro e w1 ⟨rfl, rfl⟩
          go_wp2_with fail
          refine HBk.out.mono ?_
          rintro e w1 ⟨rfl, rfl⟩
          go_wp2_with fail
          refine HAk.out.mono ?_
          rintro e w1 ⟨rfl, rfl⟩
          go_wp2_with fail
          refine HBk.out.mono ?_
          rintro e w1 ⟨rfl, rfl⟩
          go_wp2
          go_ret
          refine ⟨ret_int' ?_, rfl⟩
          have e := Hrel.out
          rw [cmpD, if_neg (by rw [Hx.out, Hy.out]; exact he), if_neg (by rw [Hx.out, Hy.out]; exact hxy)] at e
          rw [← HS.out]
          exact e
    · obtain rfl : k = 0 := by omega
      go_wp2
      go_ret
      refine ⟨ret_int' ?_, rfl⟩
      rw [← HS.out]
      exact Hrel.out

theorem greater_any (a b : Value) (xs ys : List Nat) (w : World) (ha : Sl w a 1 xs.length (nums .i64 xs)) (hb : Sl w b 1 ys.length (nums .i64 ys)) (dx : Dig 10 xs) (dy : Dig 10 ys) (lx : xs.length ≤ 1000000) (ly : ys.length ≤ 1000000) :
    Calls Try.prog 69 #[a, b] w fun e w' => e = .returned (.int .i64 (sgn (val 10 xs) (val 10 ys))) ∧ w = w' := by
  rcases Nat.lt_or_ge xs.length ys.length with h | h
  · exact greater_lt a b xs ys w ha hb dx dy lx ly h
  · exact greater_ge a b xs ys w ha hb dx dy lx ly h

set_option maxHeartbeats 400000 in
set_option maxRecDepth 100000 in
theorem zero_any (a : Value) (xs : List Nat) (w : World) (ha : Sl w a 1 xs.length (nums .i64 xs)) (dx : Dig 10 xs) (lx : xs.length ≤ 1000000) :
    Calls Try.prog 56 #[a] w fun e w' => e = .returned (.bool (val 10 xs == 0)) ∧ w = w' := by
  have C := greater_any a (.slice none 0 0) xs [] w ha (Sl.nil _ _) dx (Dig.nil _) lx (by simp)
  have e : (val 10 xs == 0) = (sgn (val 10 xs) (val 10 []) == 0) := by
    show (val 10 xs == 0) = (sgn (val 10 xs) 0 == 0)
    by_cases h : val 10 xs = 0
    · rw [h]; rfl
    · rw [sgn_gt (by omega)]
      have : (val 10 xs == 0) = false := by simpa using h
      rw [this]; rfl
  rw [e]
  obtain ⟨S, hS⟩ : ∃ S, sgn (val 10 xs) (val 10 []) = S := ⟨_, rfl⟩
  rw [hS] at C ⊢
  have HC := Lib.hid C
  clear C hS e ha dx
  go_enter Try.func56, Try.ntmps56
  go_wp2_with fail
  refine HC.out.mono ?_
  rintro e w' ⟨rfl, rfl⟩
  go_wp2
  go_ret
  exact ⟨rfl, rfl⟩
end Go.Proofs.Ytofbngpckllkoaa

namespace Go.Proofs.Ytofbngpckllkoaa
open Go.RowKit

theorem Try.ul_ints : Try.prog.underlying 81 = some (.slice 3) := by kernel_rfl
theorem Try.info_int : (Try.prog.info? 3).map (fun i => (i.zero, i.size, i.bytes)) = some (some (.int .i64 0), 1, 8) := by kernel_rfl

/-- Decimal digits, the last first. -/
def rdig (l : List UInt8) : List Nat := (l.map fun c => c.toNat - 48).reverse
theorem rdig_cons (c : UInt8) (l : List UInt8) : rdig (c :: l) = rdig l ++ [c.toNat - 48] := by simp [rdig]
theorem rdig_length (l : List UInt8) : (rdig l).length = l.length := by simp [rdig]
theorem rdig_val (l : List UInt8) : val 10 (rdig l) = dval l := by
  refine Nat.rec (motive := fun n => ∀ m : List UInt8, m.length = n → val 10 (rdig m) = dval m) ?_ ?_ l.length l rfl
  · intro m hm; rw [List.eq_nil_of_length_eq_zero hm]; rfl
  · intro n ih m hm
    rcases List.eq_nil_or_concat m with rfl | ⟨m, c, rfl⟩
    · rfl
    · rw [List.concat_eq_append] at hm ⊢
      have e : rdig (m ++ [c]) = (c.toNat - 48) :: rdig m := by simp [rdig]
      rw [e, dval_snoc, val, ih m (by simp at hm; exact hm)]
      omega
theorem rdig_dig {l : List UInt8} (h : l.all isDig = true) : Dig 10 (rdig l) := by
  intro x hx
  simp only [rdig, List.mem_reverse, List.mem_map] at hx
  obtain ⟨c, hc, rfl⟩ := hx
  have := List.all_eq_true.1 h c hc
  simp [isDig] at this
  omega
theorem body_neg (d : List UInt8) : body (45 :: d) = d := by simp [body]
theorem isNeg_neg (d : List UInt8) : isNeg (45 :: d) = true := by simp [isNeg]
theorem bl_drop_cons (s : ByteArray) (k : Nat) (h : k < s.size) : (bl s).drop k = s[k] :: (bl s).drop (k + 1) := by
  have hl : k < (bl s).length := by rw [bl_length]; exact h
  rw [List.drop_eq_getElem_cons hl]
  have e := bl_get s k h
  rw [List.getElem?_eq_getElem hl] at e
  rw [Option.some.inj e]
theorem all_drop_of_all (f : UInt8 → Bool) (l : List UInt8) (k : Nat) (h : l.all f = true) : (l.drop k).all f = true := by
  rw [List.all_eq_true] at h ⊢
  exact fun x hx => h x (List.mem_of_mem_drop hx)

def DigBad (w : World) (e : Ending) (w' : World) : Prop := e = .returned (.tuple #[.slice none 0 0, .bool false, .bool false]) ∧ Below w.heap.size w w'
def DigOk (w : World) (neg : Bool) (xs : List Nat) (e : Ending) (w' : World) : Prop :=
  ∃ v, e = .returned (.tuple #[v, .bool neg, .bool true]) ∧ Sl w' v 1 xs.length (nums .i64 xs) ∧ Below w.heap.size w w'
def DigPost (w : World) (s : ByteArray) (e : Ending) (w' : World) : Prop :=
  if canonI (bl s) = true then DigOk w (isNeg (bl s)) (rdig (body (bl s))) e w' else DigBad w e w'

theorem digPost_bad {w : World} {s : ByteArray} {e : Ending} {w' : World} (h : canonI (bl s) = false) (k : DigBad w e w') : DigPost w s e w' := by
  rw [DigPost, if_neg (by rw [h]; simp)]; exact k

set_option maxHeartbeats 400000 in
set_option maxRecDepth 100000 in
theorem digits_empty (s : ByteArray) (w : World) (h0 : s.size = 0) :
    Calls Try.prog 46 #[.string s] w (DigBad w) := by
  have h1 : s.toList = [] := by rw [Lib.toList_data]; exact List.eq_nil_of_length_eq_zero (by rw [← bl_length] at h0; exact h0)
  have h2 : ¬ 0 < s.size := by omega
  have h3 : ((s.size : Int) == 0) = true := by rw [h0]; rfl
  go_enter Try.func46, Try.ntmps46
  go_wp2
  go_ret3
  exact ⟨rfl, Below.refl _ _⟩

set_option maxHeartbeats 400000 in
set_option maxRecDepth 100000 in
theorem digits_zero (s : ByteArray) (w : World) (hl : s.size ≤ 1100000) (h1 : 1 < s.size) (h0 : s[0] = 48) :
    Calls Try.prog 46 #[.string s] w (DigBad w) := by
  have h4 : (0 : Nat) < s.size := by omega
  have h3 : ((s.size : Int) == 0) = false := by rw [beq_eq_false_iff_ne]; omega
  go_enter Try.func46, Try.ntmps46
  go_wp2
  go_ret3
  exact ⟨rfl, Below.refl _ _⟩

set_option maxHeartbeats 400000 in
set_option maxRecDepth 100000 in
theorem digits_neg0 (s : ByteArray) (w : World) (hl : s.size ≤ 1100000) (h1 : 0 < s.size) (h0 : s[0] = 45) (t : ByteArray) (ht : s.extract 1 s.size = t) (h2 : t.size = 0) :
    Calls Try.prog 46 #[.string s] w (DigBad w) := by
  have h3 : ((t.size : Int) == 0) = true := by rw [h2]; rfl
  go_enter Try.func46, Try.ntmps46
  go_wp2
  go_ret3
  exact ⟨rfl, Below.refl _ _⟩

set_option maxHeartbeats 400000 in
set_option maxRecDepth 100000 in
theorem digits_neg48 (s : ByteArray) (w : World) (hl : s.size ≤ 1100000) (h1 : 0 < s.size) (h0 : s[0] = 45) (t : ByteArray) (ht : s.extract 1 s.size = t) (h2 : 0 < t.size) (h5 : t[0] = 48) :
    Calls Try.prog 46 #[.string s] w (DigBad w) := by
  have h3 : ((t.size : Int) == 0) = false := by rw [beq_eq_false_iff_ne]; omega
  have hme : t.size ≤ 1100000 := by
    have et := congrArg List.length (bl_tail s h1)
    rw [ht, bl_length, List.length_tail, bl_length] at et
    omega
  by_cases h6 : 1 < t.size
  · go_enter Try.func46, Try.ntmps46
    go_wp2
    go_ret3
    exact ⟨rfl, Below.refl _ _⟩
  · go_enter Try.func46, Try.ntmps46
    go_wp2
    go_ret3
    exact ⟨rfl, Below.refl _ _⟩

set_option maxHeartbeats 1000000 in
set_option maxRecDepth 100000 in
theorem digits_pos_a (s : ByteArray) (w : World) (hl : s.size ≤ 1100000) (h1 : 0 < s.size) (hm : s[0] ≠ 45) (h0 : s[0] ≠ 48) :
    Calls Try.prog 46 #[.string s] w (DigPost w s) := by
  obtain ⟨i0, hi, hz0, hz1, hz2⟩ := info_parts Try.info_int
  have e := bl_cons s h1
  have HC : Hid (canonI (bl s) = (bl s).all isDig) := by
    show _ = _
    have hh : (bl s).head? ≠ some 45 := by rw [e]; simpa using hm
    have hb : ((bl s).head? == some 45) = false := by simpa using hh
    rw [canonI, body, if_neg hh, isNeg, hb, canonD]
    have a1 : (bl s).isEmpty = false := by rw [e]; rfl
    have a2 : ((bl s).head? == some 48 && (decide (1 < (bl s).length) || false)) = false := by
      rw [e]; simp; intro hh; exact absurd hh h0
    rw [a1, a2]; simp
  have HB : Hid (body (bl s) = bl s) := by show _ = _; rw [body, if_neg (by rw [e]; simpa using hm)]
  have HNg : Hid (isNeg (bl s) = false) := by show _ = _; rw [isNeg, e]; simpa using hm
  obtain ⟨c0, hc0⟩ : ∃ c, s[0] = c := ⟨_, rfl⟩
  rw [hc0] at hm h0
  have hm1 : ((c0.toNat : Int) == 45) = false := by simpa using fun hh : (c0.toNat : Int) = 45 => hm (UInt8.toNat_inj.1 (by simpa using (by omega : c0.toNat = 45)))
  have hne : ((s.size : Int) == 0) = false := by rw [beq_eq_false_iff_ne]; omega
  clear e hm
  have hp : ((c0.toNat : Int) == 48) = false := by simpa using fun hh : (c0.toNat : Int) = 48 => h0 (UInt8.toNat_inj.1 (by simpa using (by omega : c0.toNat = 48)))
  clear h0
  go_enter Try.func46, Try.ntmps46
  go_wp2_with fail
  go_loopw [7, 8] (fun ds i wr => ∃ (k : Nat) (adb : Option Addr) (capb : Nat), k ≤ s.size ∧ i = .int .i64 (k - 1) ∧ ds = .slice adb (s.size - k) capb ∧
      wr.ownsRow w.heap.size 3 1 (.slice adb (s.size - k) capb) (s.size - k) (nums .i64 (rdig ((bl s).drop k))) ∧ Hid (((bl s).drop k).all isDig = true) ∧ Below w.heap.size w wr)
    (fun _ i _ => (intOf i + 1).toNat)
  case atStart => exact ⟨s.size, none, 0, Nat.le_refl _, by go_num, by rw [Nat.sub_self], by rw [Nat.sub_self, List.drop_of_length_le (by rw [bl_length]; exact Nat.le_refl _)]; exact World.ownsRow_nil _ _ _ _, by show _ = _; rw [List.drop_of_length_le (by rw [bl_length]; exact Nat.le_refl _)]; rfl, Below.refl _ _⟩
  case round =>
    obtain ⟨k, adb, capb, hk, rfl, rfl, hown, Hall, hbel⟩ := hrel
    by_cases h0 : 0 < k
    · obtain ⟨k, rfl⟩ : ∃ k', k = k' + 1 := ⟨k - 1, by omega⟩
      have e1 : ((k + 1 : Nat) : Int) - 1 = (k : Int) := by omega
      rw [e1]
      have Hcons := Lib.hid (bl_drop_cons s k (by omega))
      have hkl : k < s.size := by omega
      obtain ⟨c, hc⟩ : ∃ c, s[k] = c := ⟨_, rfl⟩
      rw [hc] at Hcons
      have hcb : c.toNat < 256 := c.toNat_lt
      by_cases h1 : c.toNat < 48
      · have HF : Hid (canonI (bl s) = false) := by
          show _ = _
          rw [HC.out, Bool.eq_false_iff]
          intro hall
          have := all_drop_of_all isDig (bl s) k hall
          rw [Hcons.out] at this
          simp [isDig] at this
          omega
        have d1 : decide (((c.toNat : Nat) : Int) < 48) = true := by rw [decide_eq_true_eq]; omega
        have d1' : ¬ ((48 : Int) ≤ ((c.toNat : Nat) : Int)) := by omega
        go_wp2
        go_ret3
        exact digPost_bad HF.out ⟨rfl, hbel⟩
      · have d1 : decide (((c.toNat : Nat) : Int) < 48) = false := by rw [decide_eq_false_iff_not]; omega
        by_cases h2 : c.toNat ≤ 57
        · have d2 : decide ((57 : Int) < ((c.toNat : Nat) : Int)) = false := by rw [decide_eq_false_iff_not]; omega
          have Hall2 : Hid (((bl s).drop k).all isDig = true) := by
            show _ = true
            rw [Hcons.out, List.all_cons, Hall.out]
            simp [isDig]; omega
          have hsz := hbel.size
          have x1 : IntKind.u8.wrap ((c.toNat : Int) - 48) = ((c.toNat - 48 : Nat) : Int) := by
            rw [IntWalk.u8_in _ (by omega)]; omega
          obtain ⟨N, hN⟩ : ∃ N, s.size - (k + 1) = N := ⟨_, rfl⟩
          have hN1 : s.size - k = N + 1 := by omega
          have hNb : N ≤ 1100000 := by omega
          have HN1 := Lib.hid hN1
          rw [hN] at hown ⊢
          clear hN hN1
          go_wp2_with (at_builtin; refine wpList_append_own _ rfl _ _ 81 rfl w.heap.size 3 i0 (.int .i64 0) 1 8 Try.ul_ints hi hz0 hz1 hz2 rfl (by decide) _ _ _ rfl (hown.alloc _) ⟨wr.heap.size, 0, none⟩ 1 1 [_] rfl rfl (cell_one_new _ _ _) (int_oneCell _ _) ?d1 ?d2 ?d3 ?_)
          case d1 => unfold maxLen; omega
          case d2 => omega
          case d3 => simp; omega
          intro v2 w2 hown2 hgrow2 _
          have hbel2 : Below w.heap.size w w2 := (hbel.alloc hsz _).grown hgrow2 (by simp; omega) (fun k hk => (hown.lt k hk).1)
          have ed : ((c.toNat : Int) - 48) = ((c.toNat - 48 : Nat) : Int) := by omega
          try rw [ed] at hown2
          rw [nums_snoc, ← rdig_cons, ← Hcons.out, ← HN1.out] at hown2
          obtain ⟨ad3, cap3, rfl, _⟩ := Sl.of_owns hown2
          clear hgrow2 hown hbel
          go_wp2
          go_roundw
          case rel => exact ⟨k, ad3, cap3, by omega, by go_num, rfl, hown2, Hall2, hbel2⟩
          case measure => simp [intOf]
        · have d2 : decide ((57 : Int) < ((c.toNat : Nat) : Int)) = true := by rw [decide_eq_true_eq]; omega
          have d2' : ¬ (((c.toNat : Nat) : Int) ≤ 57) := by omega
          have HF : Hid (canonI (bl s) = false) := by
            show _ = _
            rw [HC.out, Bool.eq_false_iff]
            intro hall
            have := all_drop_of_all isDig (bl s) k hall
            rw [Hcons.out] at this
            simp [isDig] at this
            omega
          go_wp2
          go_ret3
          exact digPost_bad HF.out ⟨rfl, hbel⟩
    · obtain rfl : k = 0 := by omega
      rw [Nat.sub_zero] at hown ⊢
      have HF : Hid (DigOk w false (rdig (bl s)) (.returned (.tuple #[.slice adb s.size capb, .bool false, .bool true])) wr) := by
        refine ⟨_, rfl, ?_, hbel⟩
        rw [rdig_length, bl_length]
        exact Sl.of_owns hown
      have HP : Hid (DigPost w s (.returned (.tuple #[.slice adb s.size capb, .bool false, .bool true])) wr) := by
        show DigPost _ _ _ _
        rw [DigPost, if_pos (by rw [HC.out]; exact Hall.out), HB.out, HNg.out]
        exact HF.out
      go_wp2
      go_ret3
      exact HP.out

set_option maxHeartbeats 1000000 in
set_option maxRecDepth 100000 in
theorem digits_pos_b (s : ByteArray) (w : World) (_hl : s.size ≤ 1100000) (h1 : 0 < s.size) (hm : s[0] ≠ 45) (h0 : s.size = 1) (hz : s[0] = 48) :
    Calls Try.prog 46 #[.string s] w (DigPost w s) := by
  obtain ⟨i0, hi, hz0, hz1, hz2⟩ := info_parts Try.info_int
  have e := bl_cons s h1
  have HC : Hid (canonI (bl s) = (bl s).all isDig) := by
    show _ = _
    have hh : (bl s).head? ≠ some 45 := by rw [e]; simpa using hm
    have hb : ((bl s).head? == some 45) = false := by simpa using hh
    rw [canonI, body, if_neg hh, isNeg, hb, canonD]
    have a1 : (bl s).isEmpty = false := by rw [e]; rfl
    have a2 : ((bl s).head? == some 48 && (decide (1 < (bl s).length) || false)) = false := by
      rw [bl_length, h0]; simp
    rw [a1, a2]; simp
  have HB : Hid (body (bl s) = bl s) := by show _ = _; rw [body, if_neg (by rw [e]; simpa using hm)]
  have HNg : Hid (isNeg (bl s) = false) := by show _ = _; rw [isNeg, e]; simpa using hm
  obtain ⟨c0, hc0⟩ : ∃ c, s[0] = c := ⟨_, rfl⟩
  rw [hc0] at hm hz
  have hm1 : ((c0.toNat : Int) == 45) = false := by simpa using fun hh : (c0.toNat : Int) = 45 => hm (UInt8.toNat_inj.1 (by simpa using (by omega : c0.toNat = 45)))
  have hne : ((s.size : Int) == 0) = false := by rw [beq_eq_false_iff_ne]; omega
  clear e hm
  have hq : ¬ 1 < s.size := by omega
  have hp : ((c0.toNat : Int) == 48) = true := by rw [hz]; rfl
  clear hz
  go_enter Try.func46, Try.ntmps46
  go_wp2_with fail
  go_loopw [7, 8] (fun ds i wr => ∃ (k : Nat) (adb : Option Addr) (capb : Nat), k ≤ s.size ∧ i = .int .i64 (k - 1) ∧ ds = .slice adb (s.size - k) capb ∧
      wr.ownsRow w.heap.size 3 1 (.slice adb (s.size - k) capb) (s.size - k) (nums .i64 (rdig ((bl s).drop k))) ∧ Hid (((bl s).drop k).all isDig = true) ∧ Below w.heap.size w wr)
    (fun _ i _ => (intOf i + 1).toNat)
  case atStart => exact ⟨s.size, none, 0, Nat.le_refl _, by go_num, by rw [Nat.sub_self], by rw [Nat.sub_self, List.drop_of_length_le (by rw [bl_length]; exact Nat.le_refl _)]; exact World.ownsRow_nil _ _ _ _, by show _ = _; rw [List.drop_of_length_le (by rw [bl_length]; exact Nat.le_refl _)]; rfl, Below.refl _ _⟩
  case round =>
    obtain ⟨k, adb, capb, hk, rfl, rfl, hown, Hall, hbel⟩ := hrel
    by_cases h0 : 0 < k
    · obtain ⟨k, rfl⟩ : ∃ k', k = k' + 1 := ⟨k - 1, by omega⟩
      have e1 : ((k + 1 : Nat) : Int) - 1 = (k : Int) := by omega
      rw [e1]
      have Hcons := Lib.hid (bl_drop_cons s k (by omega))
      have hkl : k < s.size := by omega
      obtain ⟨c, hc⟩ : ∃ c, s[k] = c := ⟨_, rfl⟩
      rw [hc] at Hcons
      have hcb : c.toNat < 256 := c.toNat_lt
      by_cases h1 : c.toNat < 48
      · have HF : Hid (canonI (bl s) = false) := by
          show _ = _
          rw [HC.out, Bool.eq_false_iff]
          intro hall
          have := all_drop_of_all isDig (bl s) k hall
          rw [Hcons.out] at this
          simp [isDig] at this
          omega
        have d1 : decide (((c.toNat : Nat) : Int) < 48) = true := by rw [decide_eq_true_eq]; omega
        have d1' : ¬ ((48 : Int) ≤ ((c.toNat : Nat) : Int)) := by omega
        go_wp2
        go_ret3
        exact digPost_bad HF.out ⟨rfl, hbel⟩
      · have d1 : decide (((c.toNat : Nat) : Int) < 48) = false := by rw [decide_eq_false_iff_not]; omega
        by_cases h2 : c.toNat ≤ 57
        · have d2 : decide ((57 : Int) < ((c.toNat : Nat) : Int)) = false := by rw [decide_eq_false_iff_not]; omega
          have Hall2 : Hid (((bl s).drop k).all isDig = true) := by
            show _ = true
            rw [Hcons.out, List.all_cons, Hall.out]
            simp [isDig]; omega
          have hsz := hbel.size
          have x1 : IntKind.u8.wrap ((c.toNat : Int) - 48) = ((c.toNat - 48 : Nat) : Int) := by
            rw [IntWalk.u8_in _ (by omega)]; omega
          obtain ⟨N, hN⟩ : ∃ N, s.size - (k + 1) = N := ⟨_, rfl⟩
          have hN1 : s.size - k = N + 1 := by omega
          have hNb : N ≤ 1100000 := by omega
          have HN1 := Lib.hid hN1
          rw [hN] at hown ⊢
          clear hN hN1
          go_wp2_with (at_builtin; refine wpList_append_own _ rfl _ _ 81 rfl w.heap.size 3 i0 (.int .i64 0) 1 8 Try.ul_ints hi hz0 hz1 hz2 rfl (by decide) _ _ _ rfl (hown.alloc _) ⟨wr.heap.size, 0, none⟩ 1 1 [_] rfl rfl (cell_one_new _ _ _) (int_oneCell _ _) ?d1 ?d2 ?d3 ?_)
          case d1 => unfold maxLen; omega
          case d2 => omega
          case d3 => simp; omega
          intro v2 w2 hown2 hgrow2 _
          have hbel2 : Below w.heap.size w w2 := (hbel.alloc hsz _).grown hgrow2 (by simp; omega) (fun k hk => (hown.lt k hk).1)
          have ed : ((c.toNat : Int) - 48) = ((c.toNat - 48 : Nat) : Int) := by omega
          try rw [ed] at hown2
          rw [nums_snoc, ← rdig_cons, ← Hcons.out, ← HN1.out] at hown2
          obtain ⟨ad3, cap3, rfl, _⟩ := Sl.of_owns hown2
          clear hgrow2 hown hbel
          go_wp2
          go_roundw
          case rel => exact ⟨k, ad3, cap3, by omega, by go_num, rfl, hown2, Hall2, hbel2⟩
          case measure => simp [intOf]
        · have d2 : decide ((57 : Int) < ((c.toNat : Nat) : Int)) = true := by rw [decide_eq_true_eq]; omega
          have d2' : ¬ (((c.toNat : Nat) : Int) ≤ 57) := by omega
          have HF : Hid (canonI (bl s) = false) := by
            show _ = _
            rw [HC.out, Bool.eq_false_iff]
            intro hall
            have := all_drop_of_all isDig (bl s) k hall
            rw [Hcons.out] at this
            simp [isDig] at this
            omega
          go_wp2
          go_ret3
          exact digPost_bad HF.out ⟨rfl, hbel⟩
    · obtain rfl : k = 0 := by omega
      rw [Nat.sub_zero] at hown ⊢
      have HF : Hid (DigOk w false (rdig (bl s)) (.returned (.tuple #[.slice adb s.size capb, .bool false, .bool true])) wr) := by
        refine ⟨_, rfl, ?_, hbel⟩
        rw [rdig_length, bl_length]
        exact Sl.of_owns hown
      have HP : Hid (DigPost w s (.returned (.tuple #[.slice adb s.size capb, .bool false, .bool true])) wr) := by
        show DigPost _ _ _ _
        rw [DigPost, if_pos (by rw [HC.out]; exact Hall.out), HB.out, HNg.out]
        exact HF.out
      go_wp2
      go_ret3
      exact HP.out

set_option maxHeartbeats 1000000 in
set_option maxRecDepth 100000 in
theorem digits_neg (s : ByteArray) (w : World) (hl : s.size ≤ 1100000) (h1 : 0 < s.size) (hm : s[0] = 45) (t : ByteArray) (ht : s.extract 1 s.size = t) (h2 : 0 < t.size) (h0 : t[0] ≠ 48) :
    Calls Try.prog 46 #[.string s] w (DigPost w s) := by
  obtain ⟨i0, hi, hz0, hz1, hz2⟩ := info_parts Try.info_int
  have e := bl_cons s h1
  have et := bl_tail s h1
  rw [ht] at et
  rw [hm, ← et] at e
  have HC : Hid (canonI (bl s) = (bl t).all isDig) := by
    show _ = _
    rw [canonI, e, body_neg, isNeg_neg, canonD]
    have a1 : (bl t).isEmpty = false := by rw [bl_cons t h2]; rfl
    have a2 : ((bl t).head? == some 48 && (decide (1 < (bl t).length) || true)) = false := by rw [bl_cons t h2]; simpa using h0
    rw [a1, a2]; simp
  have HB : Hid (body (bl s) = bl t) := by show _ = _; rw [e, body_neg]
  have HNg : Hid (isNeg (bl s) = true) := by show _ = _; rw [e, isNeg_neg]
  have hme : t.size ≤ 1100000 := by
    have := congrArg List.length et
    rw [bl_length, List.length_tail, bl_length] at this
    omega
  obtain ⟨c0, hc0⟩ : ∃ c, t[0] = c := ⟨_, rfl⟩
  rw [hc0] at h0
  have hp : ((c0.toNat : Int) == 48) = false := by simpa using fun hh : (c0.toNat : Int) = 48 => h0 (UInt8.toNat_inj.1 (by simpa using (by omega : c0.toNat = 48)))
  have hne : ((t.size : Int) == 0) = false := by rw [beq_eq_false_iff_ne]; omega
  clear e et h0
  go_enter Try.func46, Try.ntmps46
  go_wp2_with fail
  go_loopw [7, 8] (fun ds i wr => ∃ (k : Nat) (adb : Option Addr) (capb : Nat), k ≤ t.size ∧ i = .int .i64 (k - 1) ∧ ds = .slice adb (t.size - k) capb ∧
      wr.ownsRow w.heap.size 3 1 (.slice adb (t.size - k) capb) (t.size - k) (nums .i64 (rdig ((bl t).drop k))) ∧ Hid (((bl t).drop k).all isDig = true) ∧ Below w.heap.size w wr)
    (fun _ i _ => (intOf i + 1).toNat)
  case atStart => exact ⟨t.size, none, 0, Nat.le_refl _, by go_num, by rw [Nat.sub_self], by rw [Nat.sub_self, List.drop_of_length_le (by rw [bl_length]; exact Nat.le_refl _)]; exact World.ownsRow_nil _ _ _ _, by show _ = _; rw [List.drop_of_length_le (by rw [bl_length]; exact Nat.le_refl _)]; rfl, Below.refl _ _⟩
  case round =>
    obtain ⟨k, adb, capb, hk, rfl, rfl, hown, Hall, hbel⟩ := hrel
    by_cases h0 : 0 < k
    · obtain ⟨k, rfl⟩ : ∃ k', k = k' + 1 := ⟨k - 1, by omega⟩
      have e1 : ((k + 1 : Nat) : Int) - 1 = (k : Int) := by omega
      rw [e1]
      have Hcons := Lib.hid (bl_drop_cons t k (by omega))
      have hkl : k < t.size := by omega
      obtain ⟨c, hc⟩ : ∃ c, t[k] = c := ⟨_, rfl⟩
      rw [hc] at Hcons
      have hcb : c.toNat < 256 := c.toNat_lt
      by_cases h1 : c.toNat < 48
      · have HF : Hid (canonI (bl s) = false) := by
          show _ = _
          rw [HC.out, Bool.eq_false_iff]
          intro hall
          have := all_drop_of_all isDig (bl t) k hall
          rw [Hcons.out] at this
          simp [isDig] at this
          omega
        have d1 : decide (((c.toNat : Nat) : Int) < 48) = true := by rw [decide_eq_true_eq]; omega
        have d1' : ¬ ((48 : Int) ≤ ((c.toNat : Nat) : Int)) := by omega
        go_wp2
        go_ret3
        exact digPost_bad HF.out ⟨rfl, hbel⟩
      · have d1 : decide (((c.toNat : Nat) : Int) < 48) = false := by rw [decide_eq_false_iff_not]; omega
        by_cases h2 : c.toNat ≤ 57
        · have d2 : decide ((57 : Int) < ((c.toNat : Nat) : Int)) = false := by rw [decide_eq_false_iff_not]; omega
          have Hall2 : Hid (((bl t).drop k).all isDig = true) := by
            show _ = true
            rw [Hcons.out, List.all_cons, Hall.out]
            simp [isDig]; omega
          have hsz := hbel.size
          have x1 : IntKind.u8.wrap ((c.toNat : Int) - 48) = ((c.toNat - 48 : Nat) : Int) := by
            rw [IntWalk.u8_in _ (by omega)]; omega
          obtain ⟨N, hN⟩ : ∃ N, t.size - (k + 1) = N := ⟨_, rfl⟩
          have hN1 : t.size - k = N + 1 := by omega
          have hNb : N ≤ 1100000 := by omega
          have HN1 := Lib.hid hN1
          rw [hN] at hown ⊢
          clear hN hN1
          go_wp2_with (at_builtin; refine wpList_append_own _ rfl _ _ 81 rfl w.heap.size 3 i0 (.int .i64 0) 1 8 Try.ul_ints hi hz0 hz1 hz2 rfl (by decide) _ _ _ rfl (hown.alloc _) ⟨wr.heap.size, 0, none⟩ 1 1 [_] rfl rfl (cell_one_new _ _ _) (int_oneCell _ _) ?d1 ?d2 ?d3 ?_)
          case d1 => unfold maxLen; omega
          case d2 => omega
          case d3 => simp; omega
          intro v2 w2 hown2 hgrow2 _
          have hbel2 : Below w.heap.size w w2 := (hbel.alloc hsz _).grown hgrow2 (by simp; omega) (fun k hk => (hown.lt k hk).1)
          have ed : ((c.toNat : Int) - 48) = ((c.toNat - 48 : Nat) : Int) := by omega
          try rw [ed] at hown2
          rw [nums_snoc, ← rdig_cons, ← Hcons.out, ← HN1.out] at hown2
          obtain ⟨ad3, cap3, rfl, _⟩ := Sl.of_owns hown2
          clear hgrow2 hown hbel
          go_wp2
          go_roundw
          case rel => exact ⟨k, ad3, cap3, by omega, by go_num, rfl, hown2, Hall2, hbel2⟩
          case measure => simp [intOf]
        · have d2 : decide ((57 : Int) < ((c.toNat : Nat) : Int)) = true := by rw [decide_eq_true_eq]; omega
          have d2' : ¬ (((c.toNat : Nat) : Int) ≤ 57) := by omega
          have HF : Hid (canonI (bl s) = false) := by
            show _ = _
            rw [HC.out, Bool.eq_false_iff]
            intro hall
            have := all_drop_of_all isDig (bl t) k hall
            rw [Hcons.out] at this
            simp [isDig] at this
            omega
          go_wp2
          go_ret3
          exact digPost_bad HF.out ⟨rfl, hbel⟩
    · obtain rfl : k = 0 := by omega
      rw [Nat.sub_zero] at hown ⊢
      have HF : Hid (DigOk w true (rdig (bl t)) (.returned (.tuple #[.slice adb t.size capb, .bool true, .bool true])) wr) := by
        refine ⟨_, rfl, ?_, hbel⟩
        rw [rdig_length, bl_length]
        exact Sl.of_owns hown
      have HP : Hid (DigPost w s (.returned (.tuple #[.slice adb t.size capb, .bool true, .bool true])) wr) := by
        show DigPost _ _ _ _
        rw [DigPost, if_pos (by rw [HC.out]; exact Hall.out), HB.out, HNg.out]
        exact HF.out
      go_wp2
      go_ret3
      exact HP.out

/-- novationref01.Digits. -/
theorem digits_any (s : ByteArray) (w : World) (hl : s.size ≤ 1100000) :
    Calls Try.prog 46 #[.string s] w (DigPost w s) := by
  have bad : canonI (bl s) = false → Calls Try.prog 46 #[.string s] w (DigBad w) → Calls Try.prog 46 #[.string s] w (DigPost w s) :=
    fun h k => k.mono fun e w' hb => digPost_bad h hb
  by_cases h1 : 0 < s.size
  · have e := bl_cons s h1
    by_cases hm : s[0] = 45
    · have et := bl_tail s h1
      by_cases h2 : 0 < (s.extract 1 s.size).size
      · by_cases h0 : (s.extract 1 s.size)[0] = 48
        · refine bad ?_ (digits_neg48 s w hl h1 hm _ rfl h2 h0)
          have e2 := bl_cons _ h2
          rw [h0] at e2
          rw [e, hm, ← et, e2]; simp [canonI, body, isNeg, canonD]
        · exact digits_neg s w hl h1 hm _ rfl h2 h0
      · refine bad ?_ (digits_neg0 s w hl h1 hm _ rfl (by omega))
        have e2 : bl (s.extract 1 s.size) = [] := List.eq_nil_of_length_eq_zero (by rw [bl_length]; omega)
        rw [e, hm, ← et, e2]; rfl
    · by_cases h0 : s[0] = 48
      · by_cases h2 : 1 < s.size
        · refine bad ?_ (digits_zero s w hl h2 h0)
          have hn : (bl s).tail ≠ [] := fun hh => by have := congrArg List.length e; rw [hh, bl_length] at this; simp at this; omega
          rw [e, h0]
          cases ht : (bl s).tail with
          | nil => exact absurd ht hn
          | cons a b => simp [canonI, body, isNeg, canonD]
        · exact digits_pos_b s w hl h1 hm (by omega) h0
      · exact digits_pos_a s w hl h1 hm h0
  · refine bad ?_ (digits_empty s w (by omega))
    have : bl s = [] := List.eq_nil_of_length_eq_zero (by rw [bl_length]; omega)
    rw [this]; rfl
end Go.Proofs.Ytofbngpckllkoaa
