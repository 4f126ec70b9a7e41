/-
  Canonical integers as bytes: plain facts. Names and days: what observable.letter, Name, within and novationref08.Name, Day compute. observable.within. integer.groups: the iterator over the groups of digits. Decimal digits and their value. integer.trim and integer.compare. integer.minus and integer.plus.
-/
import Derived.Test.YtknpnhodpgajbaaGreatDoorC01
import Derived.RangeFuncNested
import Derived.RangeFuncBound
import Derived.RangeFuncCalls
import Derived.RangeFuncLeaves
import Derived.RangeFuncBox
import Derived.Shelf.Abstract
import Derived.Shelf.RegionOpen
import Derived.OwnWalkIn
import Derived.TacticsInMore
import Derived.LoopNIn
import Derived.LoopIn
import Derived.Maps.AppendAt
namespace Go.Proofs.YtknpnhodpgajbaaGreatDoor
def isDig (c : UInt8) : Bool := decide (48 ≤ c.toNat ∧ c.toNat ≤ 57)
def body (l : List UInt8) : List UInt8 := if l.head? = some 45 then l.tail else l
def isNeg (l : List UInt8) : Bool := l.head? == some 45
def canonD (d : List UInt8) (neg : Bool) : Bool := !d.isEmpty && d.all isDig && !(d.head? == some 48 && (decide (1 < d.length) || neg))
def canonI (l : List UInt8) : Bool := canonD (body l) (isNeg l)
def intErr (l : List UInt8) : Int := if canonI l then (if 1000 < (body l).length then 14 else 0) else 12
theorem intErr_cons_neg (d : List UInt8) : intErr (45 :: d) = if canonD d true then (if 1000 < d.length then 14 else 0) else 12 := by
 simp [intErr, canonI, body, isNeg]
theorem intErr_pos {d : List UInt8} (h : d.head? ≠ some 45) : intErr d = if canonD d false then (if 1000 < d.length then 14 else 0) else 12 := by
 have e : (d.head? == some 45) = false := by simpa using h
 simp [intErr, canonI, body, isNeg, h, e]
end Go.Proofs.YtknpnhodpgajbaaGreatDoor

namespace Go.Proofs.YtknpnhodpgajbaaGreatDoor
open Go.RowKit
def isLet (c : UInt8) : Bool := (decide (97 ≤ c.toNat) && decide (c.toNat ≤ 122)) || (decide (65 ≤ c.toNat) && decide (c.toNat ≤ 90))
def isOth (c : UInt8) : Bool := isDig c || (decide (c.toNat = 95) || decide (c.toNat = 45))
def isNmc (c : UInt8) : Bool := isLet c || isOth c
def isNm (l : List UInt8) : Bool := decide (1 ≤ l.length) && (decide (l.length ≤ 40) && (l.head?.any isLet && l.all isNmc))
def isDay (d : Int) : Bool := decide (0 ≤ d) && decide (d ≤ 99999)
set_option maxRecDepth 100000 in
theorem letter_any (c : UInt8) (w : World) : Calls Tryz.prog 127 #[.int .u8 c.toNat] w fun e w' => e = .returned (.bool (isLet c)) ∧ w = w' := by
 have hc : c.toNat < 256 := c.toNat_lt
 go_enter Tryz.func127, Tryz.ntmps127
 go_wp2
 all_goals
  go_ret
  refine ⟨ret_bool' ?_, rfl⟩
  rw [Bool.eq_iff_iff]; simp [isLet]; omega
theorem isNm_short {l : List UInt8} (h : l.length = 0) : isNm l = false := by simp [isNm, h]
theorem isNm_long {l : List UInt8} (h : 40 < l.length) : isNm l = false := by
 have : decide (l.length ≤ 40) = false := by simpa using h
 simp [isNm, this]
theorem isNm_eq (s : ByteArray) (h1 : 0 < s.size) (h2 : s.size ≤ 40) : isNm (bl s) = (isLet s[0] && (bl s).all isNmc) := by
 have e := bl_cons s h1
 have a1 : decide (1 ≤ (bl s).length) = true := by rw [bl_length, decide_eq_true_eq]; omega
 have a2 : decide ((bl s).length ≤ 40) = true := by rw [bl_length, decide_eq_true_eq]; omega
 have a3 : (bl s).head?.any isLet = isLet s[0] := by rw [e]; rfl
 rw [isNm, a1, a2, a3]; rfl
theorem all_false_of_take {f : UInt8 → Bool} {l : List UInt8} {k : Nat} (h : (l.take k).all f = false) : l.all f = false := by
 rw [Bool.eq_false_iff] at h ⊢
 exact fun hh => h (all_take_of_all f l k hh)
set_option maxRecDepth 100000 in
theorem name_no (s : ByteArray) (w : World) (h : s.size = 0 ∨ 40 < s.size) (hl : s.size ≤ 9223372036854775807) :
  Calls Tryz.prog 67 #[.string s] w fun e w' => e = .returned (.bool (isNm (bl s))) ∧ w = w' := by
 have HR : Hid (isNm (bl s) = false) := by
  show _ = _
  rcases h with h | h
  ·exact isNm_short (by rw [bl_length]; exact h)
  ·exact isNm_long (by rw [bl_length]; exact h)
 rcases h with h | h
 ·have d1 : decide ((s.size : Int) < 1) = true := by simp [h]
  clear h
  go_enter Tryz.func67, Tryz.ntmps67
  go_wp2
  go_ret
  exact ⟨ret_bool' HR.out.symm, rfl⟩
 ·have d1 : decide ((s.size : Int) < 1) = false := by rw [decide_eq_false_iff_not]; omega
  have d2 : decide ((40 : Int) < (s.size : Int)) = true := by rw [decide_eq_true_eq]; omega
  clear hl
  go_enter Tryz.func67, Tryz.ntmps67
  go_wp2
  go_ret
  exact ⟨ret_bool' HR.out.symm, rfl⟩
set_option maxRecDepth 100000 in
theorem name_head (s : ByteArray) (w : World) (h1 : 0 < s.size) (h2 : s.size ≤ 40) (h3 : isLet s[0] = false) :
  Calls Tryz.prog 67 #[.string s] w fun e w' => e = .returned (.bool (isNm (bl s))) ∧ w = w' := by
 have HR : Hid (isNm (bl s) = false) := by show _ = _; rw [isNm_eq s h1 h2, h3]; rfl
 have d1 : decide ((s.size : Int) < 1) = false := by rw [decide_eq_false_iff_not]; omega
 have d2 : decide ((40 : Int) < (s.size : Int)) = false := by rw [decide_eq_false_iff_not]; omega
 go_enter Tryz.func67, Tryz.ntmps67
 go_wp2_with (go_at_call 127; refine (letter_any _ _).mono ?_; rintro e w' ⟨rfl, rfl⟩)
 go_ret
 exact ⟨ret_bool' HR.out.symm, rfl⟩
set_option maxHeartbeats 1000000 in
set_option maxRecDepth 100000 in
theorem name_loop (s : ByteArray) (w : World) (h1 : 0 < s.size) (h2 : s.size ≤ 40) (h3 : isLet s[0] = true) :
  Calls Tryz.prog 67 #[.string s] w fun e w' => e = .returned (.bool (isNm (bl s))) ∧ w = w' := by
 have HR : Hid (isNm (bl s) = (bl s).all isNmc) := by show _ = _; rw [isNm_eq s h1 h2, h3]; rfl
 have d1 : decide ((s.size : Int) < 1) = false := by rw [decide_eq_false_iff_not]; omega
 have d2 : decide ((40 : Int) < (s.size : Int)) = false := by rw [decide_eq_false_iff_not]; omega
 go_enter Tryz.func67, Tryz.ntmps67
 go_wp2_with (go_at_call 127; refine (letter_any _ _).mono ?_; rintro e w' ⟨rfl, rfl⟩)
 go_loop [21] (fun i => ∃ k : Nat, k ≤ s.size ∧ i = .int .i64 k ∧ Hid (((bl s).take k).all isNmc = true)) (fun i => s.size - (intOf i).toNat)
 case atStart => exact ⟨0, Nat.zero_le _, rfl, Lib.hid (by rfl)⟩
 case round =>
  obtain ⟨k, hk, rfl, Hall⟩ := hrel
  clear h3 d1 d2
  by_cases hlt : k < s.size
  ·have Hs := Lib.hid (take_succ_all isNmc s k hlt)
   obtain ⟨c, hc⟩ : ∃ c, s[k] = c := ⟨_, rfl⟩
   rw [hc] at Hs
   have hcb : c.toNat < 256 := c.toNat_lt
   cases hl : isLet c with
   | true =>
    have Hok : Hid (((bl s).take (k + 1)).all isNmc = true) := by show _ = _; rw [Hs.out, Hall.out, isNmc, hl]; rfl
    go_wp2_with (go_at_call 127; refine (letter_any _ _).mono ?_; rintro e w' ⟨rfl, rfl⟩)
    go_round
    case rel => exact ⟨k + 1, by omega, by go_num, Hok⟩
    case measure => simp [intOf]; omega
   | false =>
    cases ho : isOth c with
    | true =>
     have Hok : Hid (((bl s).take (k + 1)).all isNmc = true) := by show _ = _; rw [Hs.out, Hall.out, isNmc, ho]; simp
     have ho' := ho
     simp only [isOth, isDig, Bool.or_eq_true, decide_eq_true_eq] at ho'
     clear ho
     rcases ho' with h | h | h
     ·have t1 : decide (((c.toNat : Nat) : Int) < 48) = false := by rw [decide_eq_false_iff_not]; omega
      have t2 : decide ((57 : Int) < ((c.toNat : Nat) : Int)) = false := by rw [decide_eq_false_iff_not]; omega
      clear h
      go_wp2_with (go_at_call 127; refine (letter_any _ _).mono ?_; rintro e w' ⟨rfl, rfl⟩)
      go_round
      case rel => exact ⟨k + 1, by omega, by go_num, Hok⟩
      case measure => simp [intOf]; omega
     ·have t1 : decide (((c.toNat : Nat) : Int) < 48) = false := by rw [decide_eq_false_iff_not]; omega
      have t2 : decide ((57 : Int) < ((c.toNat : Nat) : Int)) = true := by rw [decide_eq_true_eq]; omega
      have t3 : (((c.toNat : Nat) : Int) != 95) = false := by rw [bne_eq_false_iff_eq]; omega
      have t5 : (((c.toNat : Nat) : Int) == 95) = true := by rw [beq_iff_eq]; omega
      clear h
      go_wp2_with (go_at_call 127; refine (letter_any _ _).mono ?_; rintro e w' ⟨rfl, rfl⟩)
      go_round
      case rel => exact ⟨k + 1, by omega, by go_num, Hok⟩
      case measure => simp [intOf]; omega
     ·have t1 : decide (((c.toNat : Nat) : Int) < 48) = true := by rw [decide_eq_true_eq]; omega
      have t3 : (((c.toNat : Nat) : Int) != 95) = true := by rw [bne_iff_ne]; omega
      have t5 : (((c.toNat : Nat) : Int) == 95) = false := by rw [beq_eq_false_iff_ne]; omega
      have t4 : (((c.toNat : Nat) : Int) != 45) = false := by rw [bne_eq_false_iff_eq]; omega
      have t6 : (((c.toNat : Nat) : Int) == 45) = true := by rw [beq_iff_eq]; omega
      clear h
      go_wp2_with (go_at_call 127; refine (letter_any _ _).mono ?_; rintro e w' ⟨rfl, rfl⟩)
      go_round
      case rel => exact ⟨k + 1, by omega, by go_num, Hok⟩
      case measure => simp [intOf]; omega
    | false =>
     have Hno : Hid (isNm (bl s) = false) := by
      show _ = _
      rw [HR.out]
      exact all_false_of_take (k := k + 1) (by rw [Hs.out, isNmc, hl, ho]; simp)
     have ho' := ho
     simp only [isOth, isDig, Bool.or_eq_false_iff, decide_eq_false_iff_not] at ho'
     obtain ⟨h0, h95, h45⟩ := ho'
     have t3 : (((c.toNat : Nat) : Int) != 95) = true := by rw [bne_iff_ne]; omega
     have t4 : (((c.toNat : Nat) : Int) != 45) = true := by rw [bne_iff_ne]; omega
     have t5 : (((c.toNat : Nat) : Int) == 95) = false := by rw [beq_eq_false_iff_ne]; omega
     have t6 : (((c.toNat : Nat) : Int) == 45) = false := by rw [beq_eq_false_iff_ne]; omega
     clear ho h95 h45
     by_cases h48 : c.toNat < 48
     ·have t1 : decide (((c.toNat : Nat) : Int) < 48) = true := by rw [decide_eq_true_eq]; omega
      clear h0 h48
      go_wp2_with (go_at_call 127; refine (letter_any _ _).mono ?_; rintro e w' ⟨rfl, rfl⟩)
      go_ret
      exact ⟨ret_bool' Hno.out.symm, rfl⟩
     ·have t1 : decide (((c.toNat : Nat) : Int) < 48) = false := by rw [decide_eq_false_iff_not]; omega
      have t2 : decide ((57 : Int) < ((c.toNat : Nat) : Int)) = true := by rw [decide_eq_true_eq]; omega
      clear h0 h48
      go_wp2_with (go_at_call 127; refine (letter_any _ _).mono ?_; rintro e w' ⟨rfl, rfl⟩)
      go_ret
      exact ⟨ret_bool' Hno.out.symm, rfl⟩
  ·obtain rfl : k = s.size := by omega
   have HY : Hid (isNm (bl s) = true) := by
    show _ = _
    rw [HR.out, ← Hall.out, List.take_of_length_le (by rw [bl_length]; exact Nat.le_refl _)]
   go_wp2
   go_ret
   exact ⟨ret_bool' HY.out.symm, rfl⟩
theorem name_any (s : ByteArray) (w : World) (hl : s.size ≤ 9223372036854775807) :
  Calls Tryz.prog 67 #[.string s] w fun e w' => e = .returned (.bool (isNm (bl s))) ∧ w = w' := by
 by_cases h1 : 0 < s.size
 ·by_cases h2 : s.size ≤ 40
  ·cases h3 : isLet s[0] with
   | true => exact name_loop s w h1 h2 h3
   | false => exact name_head s w h1 h2 h3
  ·exact name_no s w (.inr (by omega)) hl
 ·exact name_no s w (.inl (by omega)) hl
end Go.Proofs.YtknpnhodpgajbaaGreatDoor

namespace Go.Proofs.YtknpnhodpgajbaaGreatDoor
open Go.RowKit
set_option maxRecDepth 100000 in
theorem within_any (d : Int) (w : World) : Calls Tryz.prog 68 #[.int .i64 d] w fun e w' => e = .returned (.bool (isDay d)) ∧ w = w' := by
 go_enter Tryz.func68, Tryz.ntmps68
 go_wp2
 all_goals
  go_ret
  refine ⟨ret_bool' ?_, rfl⟩
  rw [Bool.eq_iff_iff]; simp [isDay]; omega
end Go.Proofs.YtknpnhodpgajbaaGreatDoor

namespace Go.Proofs.YtknpnhodpgajbaaGreatDoor
open Go.RowKit Go.Shelf
attribute [local go_sem] Oper.semAt_some
abbrev Grp := { g : ByteArray // g.size ≤ 9 ∧ (bl g).all isDig = true }
def grpB (s : ByteArray) (k : Nat) : ByteArray := s.extract (s.size - 9 * (k + 1)) (s.size - 9 * k)
theorem grpB_size (s : ByteArray) (k : Nat) : (grpB s k).size ≤ 9 := by
 rw [← bl_length, grpB, bl_extract, List.length_take, List.length_drop]; omega
theorem grpB_dig (s : ByteArray) (h : (bl s).all isDig = true) (k : Nat) : (bl (grpB s k)).all isDig = true := by
 rw [grpB, bl_extract]
 rw [List.all_eq_true] at h ⊢
 exact fun x hx => h x (List.mem_of_mem_drop (List.mem_of_mem_take hx))
def grp (s : ByteArray) (h : (bl s).all isDig = true) (k : Nat) : Grp := ⟨grpB s k, grpB_size s k, grpB_dig s h k⟩
def grps (s : ByteArray) (h : (bl s).all isDig = true) (k : Nat) : List Grp := (List.range k).map (grp s h)
theorem grps_succ (s : ByteArray) (h : (bl s).all isDig = true) (k : Nat) : grps s h (k + 1) = grps s h k ++ [grp s h k] := by
 simp [grps, List.range_succ]
theorem grps_length (s : ByteArray) (h : (bl s).all isDig = true) (k : Nat) : (grps s h k).length = k := by simp [grps]
def KeepsAt (B : Nat) (W W' : World) : Prop := W'.heap[B]? = W.heap[B]?
set_option maxRecDepth 100000 in
set_option maxHeartbeats 1000000 in
theorem groups1_in (F : Fence) (n : Nat) (hf : F.fn 207) (hro : F.round = none) (hn : 1 ≤ n) (l Bn : Nat) (s : ByteArray) (hd : (bl s).all isDig = true) (hs : s.size ≤ 100000) (J Jx : List Grp → World → Prop)
  (hY : ∀ pre x W, J pre W → pre.length < (s.size + 8) / 9 → YieldAt F (n - 1) Tryz.prog l #[.string x.1] W fun e W' =>
   (e = .returned (.bool true) ∧ J (pre ++ [x]) W' ∧ KeepsAt Bn W W') ∨ (e = .returned (.bool false) ∧ Jx (pre ++ [x]) W'))
  (W : World) (hBn : W.heap[Bn]? = some (.cells #[.string s] 9 (0, 0))) (h0 : J [] W) :
  CallsIn F n Tryz.prog 207 #[.func (.yield l) #[] #[], .pointer (some ⟨Bn, 0, none⟩)] W fun e W' => (∃ v, e = .returned v) ∧
   ((∃ ys, ys = grps s hd ((s.size + 8) / 9) ∧ J ys W') ∨ (∃ pre, True ∧ Jx pre W')) := by
 have hc0 := cell_of_one hBn
 refine callsIn_of_wp Tryz.func207 rfl hf ?_ hro
 simp only [Tryz.ntmps207, List.size_toArray, List.length_cons, List.length_nil, Nat.reduceAdd, Nat.reduceSub, Array.replicate_succ, Array.replicate_zero, List.push_toArray, List.append_toArray, List.nil_append, List.cons_append]
 gi_wp2
 gi_loopw [3] (fun p wr => ∃ (k : Nat), p = .int .i64 ((s.size : Int) - 9 * (k : Int)) ∧ 9 * k ≤ s.size + 8 ∧ wr.heap[Bn]? = some (.cells #[.string s] 9 (0, 0)) ∧ Hid (J (grps s hd k) wr))
  (fun p wr => (intOf p).toNat)
 case atStart =>
  exact ⟨0, by simp, by omega, hBn, h0⟩
 case round =>
  obtain ⟨k, rfl, hk, hb, hJs⟩ := hrel
  by_cases hlt : 9 * k < s.size
  ·have hcr := cell_of_one hb
   by_cases h9 : 9 * (k + 1) < s.size
   ·have e1 : ((s.size : Int) - 9 * (k : Int) - 9).toNat = s.size - 9 * (k + 1) := by omega
    have m1 : (0 : Int) < (s.size : Int) - 9 * (k : Int) - 9 := by omega
    obtain ⟨fn, tmps, assign, body, hy, hR⟩ := hY (grps s hd k) (grp s hd k) wr hJs.out (by rw [grps_length]; omega)
    have hy2 : (Instr.yield l #[.string (s.extract (s.size - 9 * (k + 1)) (s.size - 9 * k))]).run Tryz.prog wr = .ok (.round l fn tmps assign body) wr := hy
    clear hy
    gi_wp2
    refine hR.mono ?_
    rintro e W3 (⟨rfl, hJ3, hk3⟩ | ⟨rfl, hJx3⟩)
    ·rw [← grps_succ] at hJ3
     have hb3 : W3.heap[Bn]? = some (.cells #[.string s] 9 (0, 0)) := Eq.trans hk3 hb
     have HJ3 := Lib.hid hJ3
     clear hJ3 hk3 hJs hy2 e1
     gi_wp2
     go_roundw
     case rel => exact ⟨k + 1, by go_num, by omega, hb3, HJ3⟩
     case measure => simp [intOf]; omega
    ·have HJx := Lib.hid hJx3
     clear hJx3 hJs hy2 e1
     gi_wp2
     refine bodyPost_ret (results_none rfl _ _ _) rfl ?_
     exact ⟨⟨_, rfl⟩, .inr ⟨_, trivial, HJx.out⟩⟩
   ·have e1 : s.size - 9 * (k + 1) = 0 := by omega
    have m1 : ¬ (0 : Int) < (s.size : Int) - 9 * (k : Int) - 9 := by omega
    obtain ⟨fn, tmps, assign, body, hy, hR⟩ := hY (grps s hd k) (grp s hd k) wr hJs.out (by rw [grps_length]; omega)
    have hy2 : (Instr.yield l #[.string (s.extract 0 (s.size - 9 * k))]).run Tryz.prog wr = .ok (.round l fn tmps assign body) wr := by rw [← e1]; exact hy
    clear hy
    gi_wp2
    refine hR.mono ?_
    rintro e W3 (⟨rfl, hJ3, hk3⟩ | ⟨rfl, hJx3⟩)
    ·rw [← grps_succ] at hJ3
     have hb3 : W3.heap[Bn]? = some (.cells #[.string s] 9 (0, 0)) := Eq.trans hk3 hb
     have HJ3 := Lib.hid hJ3
     clear hJ3 hk3 hJs hy2 e1
     gi_wp2
     go_roundw
     case rel => exact ⟨k + 1, by go_num, by omega, hb3, HJ3⟩
     case measure => simp [intOf]; omega
    ·have HJx := Lib.hid hJx3
     clear hJx3 hJs hy2 e1
     gi_wp2
     refine bodyPost_ret (results_none rfl _ _ _) rfl ?_
     exact ⟨⟨_, rfl⟩, .inr ⟨_, trivial, HJx.out⟩⟩
  ·have hkk : (s.size + 8) / 9 = k := by omega
   have HF : Hid ((∃ ys, ys = grps s hd ((s.size + 8) / 9) ∧ J ys wr) ∨ (∃ pre, True ∧ Jx pre wr)) := by
    show _ ∨ _
    rw [hkk]; exact .inl ⟨_, rfl, hJs.out⟩
   clear hkk hJs
   gi_wp2
   go_end0
   exact ⟨⟨_, rfl⟩, HF.out⟩
set_option maxHeartbeats 1000000 in
theorem groups_in (F : Fence) (n : Nat) (hf : F.fn 192) (hro : F.round = none) (s : ByteArray) (w : World) :
  CallsIn F n Tryz.prog 192 #[.string s] w fun e w' => e = .returned (.func (.func 207) #[] #[.pointer (some ⟨w.heap.size, 0, none⟩)]) ∧ w' = w.alloc (.cells #[.string s] 9) := by
 refine callsIn_of_wp Tryz.func192 rfl hf ?_ hro
 simp only [Tryz.ntmps192, List.size_toArray, List.length_cons, List.length_nil, Nat.reduceAdd, Nat.reduceSub, Array.replicate_succ, Array.replicate_zero, List.push_toArray, List.append_toArray, List.nil_append, List.cons_append]
 gi_wp2
 go_ret
 exact ⟨rfl, rfl⟩
theorem groups_stops (F : Fence) (n : Nat) (hf : F.fn 207) (hro : F.round = none) (hn : 1 ≤ n) (Bn : Nat) (s : ByteArray) (hd : (bl s).all isDig = true) (hs : s.size ≤ 100000) (w : World)
  (hBn : w.heap[Bn]? = some (.cells #[.string s] 9 (0, 0))) :
  SeqStopsK F n Tryz.prog 207 #[.pointer (some ⟨Bn, 0, none⟩)] (fun x : Grp => #[Value.string x.1]) (KeepsAt Bn) (fun ys => ys = grps s hd ((s.size + 8) / 9)) (fun _ => True) ((s.size + 8) / 9) w := fun l J Jx W hW _ _ hY h0 =>
 groups1_in F n hf hro hn l Bn s hd hs J Jx hY W ((hW.block Bn (Array.getElem?_eq_some_iff.1 hBn).1).trans hBn) h0
end Go.Proofs.YtknpnhodpgajbaaGreatDoor

namespace Go.Proofs.YtknpnhodpgajbaaGreatDoor
open Go.RowKit
def dval (l : List UInt8) : Nat := l.foldl (fun a c => a * 10 + (c.toNat - 48)) 0
theorem dval_nil : dval [] = 0 := rfl
theorem dval_snoc (l : List UInt8) (c : UInt8) : dval (l ++ [c]) = dval l * 10 + (c.toNat - 48) := by simp [dval]
theorem dval_append (l m : List UInt8) : dval (l ++ m) = dval l * 10 ^ m.length + dval m := by
 refine Nat.rec (motive := fun n => ∀ m : List UInt8, m.length = n → dval (l ++ m) = dval l * 10 ^ m.length + dval m) ?_ ?_ m.length m rfl
 ·intro m hm
  rw [List.eq_nil_of_length_eq_zero hm]; simp [dval_nil]
 ·intro n ih m hm
  rcases List.eq_nil_or_concat m with rfl | ⟨m, c, rfl⟩
  ·simp at hm
  ·rw [List.concat_eq_append] at hm ⊢
   rw [← List.append_assoc, dval_snoc, dval_snoc, ih m (by simp at hm; exact hm)]
   simp only [List.length_append, List.length_singleton, Nat.pow_succ]
   rw [Nat.add_mul, Nat.mul_assoc]; omega
theorem dval_lt (l : List UInt8) (h : l.all isDig = true) : dval l < 10 ^ l.length := by
 refine Nat.rec (motive := fun n => ∀ m : List UInt8, m.length = n → m.all isDig = true → dval m < 10 ^ m.length) ?_ ?_ l.length l rfl h
 ·intro m hm _
  rw [List.eq_nil_of_length_eq_zero hm]; decide
 ·intro n ih m hm hd
  rcases List.eq_nil_or_concat m with rfl | ⟨m, c, rfl⟩
  ·simp at hm
  ·rw [List.concat_eq_append] at hm hd ⊢
   rw [List.all_append] at hd
   simp only [Bool.and_eq_true] at hd
   have h1 := ih m (by simp at hm; exact hm) hd.1
   have h2 : isDig c = true := by simpa using hd.2
   simp [isDig] at h2
   rw [dval_snoc]
   simp only [List.length_append, List.length_singleton, Nat.pow_succ]
   omega
theorem dval_take_succ (s : ByteArray) (k : Nat) (h : k < s.size) : dval ((bl s).take (k + 1)) = dval ((bl s).take k) * 10 + (s[k].toNat - 48) := by
 rw [List.take_add_one, bl_get s k h]
 exact dval_snoc _ _
theorem isDig_at (s : ByteArray) (h : (bl s).all isDig = true) (k : Nat) (hk : k < s.size) : 48 ≤ s[k].toNat ∧ s[k].toNat ≤ 57 := by
 have := (List.all_eq_true.1 h) s[k] (List.mem_of_getElem? (bl_get s k hk))
 simpa [isDig] using this
def gval (g : Grp) : Nat := dval (bl g.1)
theorem gval_lt (g : Grp) : gval g < 1000000000 := by
 have h := dval_lt _ g.2.2
 have h2 : (bl g.1).length ≤ 9 := by rw [bl_length]; exact g.2.1
 exact Nat.lt_of_lt_of_le h (Nat.pow_le_pow_right (by decide) h2)
theorem grps_val (s : ByteArray) (hd : (bl s).all isDig = true) (k : Nat) (hk : 9 * k ≤ s.size + 8) : Go.Proofs.YtknpnhodpgajbaaGreatDoor.val 1000000000 ((grps s hd k).map gval) = dval ((bl s).drop (s.size - 9 * k)) := by
 induction k with
 | zero => simp [grps, Go.Proofs.YtknpnhodpgajbaaGreatDoor.val, dval_nil, ← bl_length]
 | succ k ih =>
  rw [grps_succ, List.map_append, List.map_singleton, val_snoc, ih (by omega), List.length_map, grps_length]
  have e : (bl s).drop (s.size - 9 * (k + 1)) = bl (grpB s k) ++ (bl s).drop (s.size - 9 * k) := by
   rw [grpB, bl_extract]
   have h1 : (bl s).drop (s.size - 9 * k) = ((bl s).drop (s.size - 9 * (k + 1))).drop (s.size - 9 * k - (s.size - 9 * (k + 1))) := by
    rw [List.drop_drop]; congr 1; omega
   rw [h1, List.take_append_drop]
  rw [e, dval_append, List.length_drop, bl_length]
  have h2 : s.size - (s.size - 9 * k) = 9 * k := by omega
  rw [h2, Nat.add_comm, Nat.mul_comm (1000000000 ^ k)]
  congr 1
  rw [show (1000000000 : Nat) = 10 ^ 9 from rfl, ← Nat.pow_mul]
  rfl
theorem grps_full (s : ByteArray) (hd : (bl s).all isDig = true) : Go.Proofs.YtknpnhodpgajbaaGreatDoor.val 1000000000 ((grps s hd ((s.size + 8) / 9)).map gval) = dval (bl s) := by
 rw [grps_val s hd _ (by omega), show s.size - 9 * ((s.size + 8) / 9) = 0 by omega, List.drop_zero]
theorem grps_dig (l : List Grp) : Dig 1000000000 (l.map gval) := fun x hx => by
 obtain ⟨g, _, rfl⟩ := List.mem_map.1 hx; exact gval_lt g
end Go.Proofs.YtknpnhodpgajbaaGreatDoor

namespace Go.Proofs.YtknpnhodpgajbaaGreatDoor
open Go.RowKit
theorem trimL_take_zero (xs : List Nat) (k : Nat) (h : k < xs.length) (hz : xs.getD k 0 = 0) : trimL (xs.take (k + 1)) = trimL (xs.take k) := by
 rw [take_succ_getD _ _ h, hz, trimL_snoc_zero]
theorem trimL_take_ne (xs : List Nat) (k : Nat) (h : k < xs.length) (hz : xs.getD k 0 ≠ 0) : trimL (xs.take (k + 1)) = xs.take (k + 1) := by
 rw [take_succ_getD _ _ h, trimL_snoc _ _ hz]
set_option maxHeartbeats 400000 in
theorem trim_any (v : Value) (xs : List Nat) (w : World) (hv : Sl w v 1 xs.length (nums .u32 xs)) (hl : xs.length ≤ 1000000) :
  Calls Tryz.prog 163 #[v] w fun e w' => ∃ v', e = .returned v' ∧ Hid (v' = cutTo v (trimL xs).length) ∧ w = w' := by
 obtain ⟨ad, cap, rfl, h1, h3⟩ := hv.nums
 clear hv
 go_enter Tryz.func163, Tryz.ntmps163
 go_wp2
 go_loop [0] (fun m => ∃ k : Nat, k ≤ xs.length ∧ m = .slice ad k cap ∧ Hid (trimL (xs.take k) = trimL xs))
  (fun m => match m with | .slice _ n _ => n | _ => 0)
 case atStart => exact ⟨xs.length, Nat.le_refl _, rfl, by rw [List.take_of_length_le (Nat.le_refl _)]; rfl⟩
 case round =>
  obtain ⟨k, hk, rfl, Hrel⟩ := hrel
  by_cases h0 : 0 < k
  ·obtain ⟨b, off, rfl, hc⟩ := h3.resolve_left (by omega)
   obtain ⟨k, rfl⟩ : ∃ k', k = k' + 1 := ⟨k - 1, by omega⟩
   have hck := hc k (by omega)
   clear hc h3
   by_cases hz : xs.getD k 0 = 0
   ·rw [hz] at hck
    have Hz := Lib.hid hz; clear hz
    go_wp2
    go_round
    case rel => exact ⟨k, by omega, rfl, by rw [← trimL_take_zero xs k (by omega) Hz.out]; exact Hrel⟩
    case measure => simp
   ·obtain ⟨y, hy⟩ : ∃ y, y = xs.getD k 0 := ⟨_, rfl⟩
    rw [← hy] at hck hz
    have Hy := Lib.hid hy; clear hy
    have hz' : ((y : Int) == 0) = false := by simp; omega
    go_wp2
    go_ret
    refine ⟨_, rfl, ?_, rfl⟩
    have hz2 : xs.getD k 0 ≠ 0 := by rw [← Hy.out]; exact hz
    have e := Hrel.out
    rw [trimL_take_ne xs k (by omega) hz2] at e
    show _ = Value.slice _ _ _
    rw [← e, List.length_take, Nat.min_eq_left hk]
    rfl
  ·obtain rfl : k = 0 := by omega
   go_wp2
   go_ret
   refine ⟨_, rfl, ?_, rfl⟩
   have e := Hrel.out
   show _ = Value.slice _ _ _
   rw [← e]
   rfl
theorem drewN_3 (w : World) (a b c : Nat) : ∃ n, ((w.drewN a).drewN b).drewN c = w.drewN n := ⟨a + b + c, by rw [World.drewN_drewN, World.drewN_drewN, Nat.add_assoc]⟩
set_option maxHeartbeats 400000 in
theorem compare_len (ad bd : Option Addr) (m n ca cb : Nat) (w : World) (hm : m ≤ 1000000) (hn : n ≤ 1000000) (hne : m ≠ n) :
  Calls Tryz.prog 125 #[.slice ad m ca, .slice bd n cb] w fun e w' =>
   e = .returned (.int .i64 (if m < n then -1 else 1)) ∧ w = w' := by
 by_cases hlt : m < n
 ·have hb : ((m : Int) != (n : Int)) = true := by rw [bne_iff_ne]; omega
  go_enter Tryz.func125, Tryz.ntmps125
  go_wp2
  go_ret
  exact ⟨rfl, rfl⟩
 ·have hb : ((m : Int) != (n : Int)) = true := by rw [bne_iff_ne]; omega
  go_enter Tryz.func125, Tryz.ntmps125
  go_wp2
  go_ret
  exact ⟨rfl, rfl⟩
set_option maxHeartbeats 400000 in
theorem compare_eq (ad ad' : Option Addr) (ca cb : Nat) (xs ys : List Nat) (w : World) (hn : xs.length = ys.length) (hb : xs.length ≤ 1000000)
  (hc : xs.length = 0 ∨ ∃ b off, ad = some ⟨b, off, none⟩ ∧ ∀ j, j < xs.length → w.cell? ⟨b, off + j, none⟩ = some (.int .u32 ((xs.getD j 0 : Nat) : Int)))
  (hd : ys.length = 0 ∨ ∃ b off, ad' = some ⟨b, off, none⟩ ∧ ∀ j, j < ys.length → w.cell? ⟨b, off + j, none⟩ = some (.int .u32 ((ys.getD j 0 : Nat) : Int))) :
  Calls Tryz.prog 125 #[.slice ad xs.length ca, .slice ad' ys.length cb] w fun e w' =>
   e = .returned (.int .i64 (cmpD xs.length xs ys)) ∧ ∃ n, w' = w.drewN n := by
 rw [← hn] at hd ⊢
 clear hn
 have hq : ((xs.length : Int) != (xs.length : Int)) = false := by simp
 go_enter Tryz.func125, Tryz.ntmps125
 go_wp2
 go_loopw [5] (fun i wr => ∃ k : Nat, k ≤ xs.length ∧ i = .int .i64 (k - 1) ∧ Hid (cmpD k xs ys = cmpD xs.length xs ys) ∧ ∃ n, wr = w.drewN n)
  (fun i _ => (intOf i + 1).toNat)
 case atStart => exact ⟨xs.length, Nat.le_refl _, by go_num, rfl, 0, rfl⟩
 case round =>
  obtain ⟨k, hk, rfl, Hrel, n, rfl⟩ := hrel
  by_cases h0 : 0 < k
  ·obtain ⟨k, rfl⟩ : ∃ k', k = k' + 1 := ⟨k - 1, by omega⟩
   obtain ⟨b, off, rfl, hc2⟩ := hc.resolve_left (by omega)
   obtain ⟨b', off', rfl, hd2⟩ := hd.resolve_left (by omega)
   have h1 := hc2 k (by omega)
   have h2 := hd2 k (by omega)
   clear hc2 hd2
   obtain ⟨x, hx⟩ : ∃ x, x = xs.getD k 0 := ⟨_, rfl⟩
   obtain ⟨y, hy⟩ : ∃ y, y = ys.getD k 0 := ⟨_, rfl⟩
   rw [← hx] at h1
   rw [← hy] at h2
   have Hx := Lib.hid hx; clear hx
   have Hy := Lib.hid hy; clear hy
   clear hc hd
   by_cases he : x = y
   ·subst he
    have hq2 : ((x : Int) != (x : Int)) = false := by simp
    go_wp2_with fail
    go_quiet (fail)
    go_wp2
    go_roundw
    case rel =>
     refine ⟨k, by omega, by go_num, ?_, n + nq, rfl⟩
     have e := Hrel.out
     rw [cmpD, if_pos (by rw [← Hx.out, ← Hy.out])] at e
     exact e
    case measure => simp [intOf]
   ·have hne : ((x : Int) != (y : Int)) = true := by rw [bne_iff_ne]; omega
    by_cases hlt : x < y
    ·go_wp2_with fail
     go_quiet (fail)
     go_wp2_with fail
     go_quiet (fail)
     go_wp2
     go_ret
     refine ⟨ret_int' ?_, drewN_3 _ _ _ _⟩
     have e := Hrel.out
     rw [cmpD, if_neg (by rw [← Hx.out, ← Hy.out]; exact he), if_pos (by rw [← Hx.out, ← Hy.out]; exact hlt)] at e
     exact e
    ·go_wp2_with fail
     go_quiet (fail)
     go_wp2_with fail
     go_quiet (fail)
     go_wp2
     go_ret
     refine ⟨ret_int' ?_, drewN_3 _ _ _ _⟩
     have e := Hrel.out
     rw [cmpD, if_neg (by rw [← Hx.out, ← Hy.out]; exact he), if_neg (by rw [← Hx.out, ← Hy.out]; exact hlt)] at e
     exact e
  ·obtain rfl : k = 0 := by omega
   go_wp2
   go_ret
   refine ⟨ret_int' ?_, _, rfl⟩
   exact Hrel.out
theorem compare_any (a b : Value) (xs ys : List Nat) (w : World) (ha : Sl w a 1 xs.length (nums .u32 xs)) (hb : Sl w b 1 ys.length (nums .u32 ys))
  (hx : Nrm 1000000000 xs) (hy : Nrm 1000000000 ys) (lx : xs.length ≤ 1000000) (ly : ys.length ≤ 1000000) :
  Calls Tryz.prog 125 #[a, b] w fun e w' =>
   e = .returned (.int .i64 (sgn (val 1000000000 xs) (val 1000000000 ys))) ∧ ∃ n, w' = w.drewN n := by
 obtain ⟨ad, ca, rfl, h1, h3⟩ := ha.nums
 obtain ⟨bd, cb, rfl, h1', h3'⟩ := hb.nums
 by_cases hl : xs.length = ys.length
 ·rw [← cmpD_nrm (by decide) hx hy hl]
  exact compare_eq ad bd ca cb xs ys w hl lx h3 h3'
 ·refine (compare_len ad bd _ _ ca cb w lx ly hl).mono ?_
  rintro e w' ⟨rfl, rfl⟩
  refine ⟨ret_int' ?_, 0, rfl⟩
  by_cases hlt : xs.length < ys.length
  ·rw [if_pos hlt, sgn_lt (hx.length_lt_of (by decide) hy hlt)]
  ·rw [if_neg hlt, sgn_gt (hy.length_lt_of (by decide) hx (by omega))]
end Go.Proofs.YtknpnhodpgajbaaGreatDoor

namespace Go.Proofs.YtknpnhodpgajbaaGreatDoor
open Go.RowKit
theorem Tryz.ul_u32s : Tryz.prog.underlying 157 = some (.slice 197) := by kernel_rfl
theorem Tryz.info_u32 : (Tryz.prog.info? 197).map (fun i => (i.zero, i.size, i.bytes)) = some (some (.int .u32 0), 1, 4) := by kernel_rfl
def OwnMag (W : World) (w : World) (v : Value) (rs : List Nat) : Prop :=
 w.ownsRow W.heap.size 197 1 v rs.length (nums .u32 rs) ∧ Nrm 1000000000 rs ∧ Below W.heap.size W w
theorem own_trim {w : World} {base : Nat} {e : TypeId} {v v' : Value} {xs : List Nat} {k : IntKind} (h : w.ownsRow base e 1 v xs.length (nums k xs)) (hv : v' = cutTo v (trimL xs).length) :
  w.ownsRow base e 1 v' (trimL xs).length (nums k (trimL xs)) := by
 subst hv
 have h2 := ownsRow_cut h (trimL xs).length (trimL_prefix xs).2
 rw [Nat.mul_one, nums_take, ← (trimL_prefix xs).1] at h2
 exact h2
theorem int_oneCell (k : IntKind) (n : Int) : ∀ u ∈ [Value.int k n], u.oneCell' = true := by
 intro u hu; rw [List.mem_singleton] at hu; subst hu; rfl
theorem minus_step (A Bv O P x y c d r : Nat) (h : A + c * P = O + Bv) (hd : d + y + c = x + r * 1000000000) : (A + P * x) + r * (P * 1000000000) = (O + P * d) + (Bv + P * y) := by
 have e1 : P * (d + y + c) = P * (x + r * 1000000000) := by rw [hd]
 rw [Nat.mul_add, Nat.mul_add, Nat.mul_add] at e1
 have e2 : P * (r * 1000000000) = r * (P * 1000000000) := by rw [← Nat.mul_assoc, ← Nat.mul_assoc, Nat.mul_comm P r]
 rw [e2] at e1
 rw [Nat.mul_comm c P] at h
 omega
theorem nrm_len_le {xs ys : List Nat} (hx : Dig 1000000000 xs) (hy : Nrm 1000000000 ys) (h : val 1000000000 ys ≤ val 1000000000 xs) : ys.length ≤ xs.length := by
 by_cases hne : ys = []
 ·subst hne; simp
 ·have h1 := hy.pos hne
  have h2 := val_lt hx
  have h3 := (Nat.pow_lt_pow_iff_right (show 1 < 1000000000 by decide)).1 (Nat.lt_of_le_of_lt (Nat.le_trans h1 h) h2)
  omega
def MinusInv (xs ys o : List Nat) (k c : Nat) : Prop :=
 o.length = k ∧ Dig 1000000000 o ∧ val 1000000000 (xs.take k) + c * 1000000000 ^ k = val 1000000000 o + val 1000000000 (ys.take k)
theorem MinusInv.start (xs ys : List Nat) : MinusInv xs ys [] 0 0 := ⟨rfl, Dig.nil _, by simp [val]⟩
theorem MinusInv.step {xs ys o : List Nat} {k c d r : Nat} (h : MinusInv xs ys o k c) (hd : d < 1000000000) (e : d + ys.getD k 0 + c = xs.getD k 0 + r * 1000000000) : MinusInv xs ys (o ++ [d]) (k + 1) r := by
 obtain ⟨h1, h2, h3⟩ := h
 refine ⟨by simp [h1], h2.snoc hd, ?_⟩
 rw [val_take_succ, val_take_succ, val_snoc, h1, Nat.pow_succ]
 exact minus_step _ _ _ _ _ _ _ _ _ h3 e
theorem MinusInv.fin {xs ys o : List Nat} {c : Nat} (h : MinusInv xs ys o xs.length c) (hl : ys.length ≤ xs.length) (hle : val 1000000000 ys ≤ val 1000000000 xs) (hc : c ≤ 1) :
  val 1000000000 (trimL o) = val 1000000000 xs - val 1000000000 ys := by
 obtain ⟨h1, h2, h3⟩ := h
 rw [List.take_of_length_le (Nat.le_refl _), List.take_of_length_le hl] at h3
 rw [trimL_val]
 have h4 := val_lt h2
 rw [h1] at h4
 by_cases h0 : c = 0
 ·subst h0; omega
 ·obtain rfl : c = 1 := by omega
  omega
set_option maxHeartbeats 1000000 in
set_option maxRecDepth 100000 in
theorem minus_any (a b : Value) (xs ys : List Nat) (w : World) (ha : Sl w a 1 xs.length (nums .u32 xs)) (hb : Sl w b 1 ys.length (nums .u32 ys))
  (dx : Dig 1000000000 xs) (dy : Nrm 1000000000 ys) (hle : val 1000000000 ys ≤ val 1000000000 xs) (lx : xs.length ≤ 100000) :
  Calls Tryz.prog 165 #[a, b] w fun e w' => ∃ v rs, e = .returned v ∧ OwnMag w w' v rs ∧ val 1000000000 rs = val 1000000000 xs - val 1000000000 ys := by
 have hlen := nrm_len_le dx dy hle
 obtain ⟨ad, ca, rfl, h1, h3⟩ := ha.nums
 obtain ⟨bd, cb, rfl, h1', h3'⟩ := hb.nums
 obtain ⟨i0, hi, hz0, hz1, hz2⟩ := info_parts Tryz.info_u32
 have Hle := Lib.hid hle; clear hle ha hb
 go_enter Tryz.func165, Tryz.ntmps165
 go_wp2_with (at_make; refine wpList_make_own _ rfl _ _ 157 rfl w.heap.size 197 i0 (.int .u32 0) 1 Tryz.ul_u32s hi hz0 hz1 _ _ _ xs.length rfl rfl rfl ?b1 ?b2 ?b3 ?_)
 case b1 => rw [hz2]; omega
 case b2 => unfold maxLen; omega
 case b3 => exact Nat.le_refl _
 intro w1 hown hgrow
 have hbel : Below w.heap.size w w1 := (Below.refl _ _).grown hgrow (Nat.le_refl _) (by simp)
 clear hgrow
 go_wp2
 go_loopw [5, 6, 15] (fun o c i wr => ∃ (k b1 : Nat) (os : List Nat), k ≤ xs.length ∧ b1 ≤ 1 ∧ i = .int .i64 k ∧ c = .int .u32 b1 ∧ o = .slice (some ⟨w.heap.size, 0, none⟩) k xs.length ∧
   wr.ownsRow w.heap.size 197 1 (.slice (some ⟨w.heap.size, 0, none⟩) k xs.length) k (nums .u32 os) ∧ Hid (MinusInv xs ys os k b1) ∧ Below w.heap.size w wr)
  (fun _ _ i _ => xs.length - (intOf i).toNat)
 case atStart => exact ⟨0, 0, [], Nat.zero_le _, by omega, rfl, rfl, rfl, hown, MinusInv.start _ _, hbel⟩
 case round =>
  clear hown hbel
  obtain ⟨k, b1, os, hk, hb1, rfl, rfl, rfl, hown, Hinv, hbel⟩ := hrel
  by_cases hlt : k < xs.length
  ·obtain ⟨b, off, rfl, hc⟩ := h3.resolve_left (by omega)
   have hck := cell_later hbel (hc k hlt)
   have hx9 := dx.at (by decide) k
   have hy9 := dy.1.at (by decide) k
   obtain ⟨x, hx⟩ : ∃ x, x = xs.getD k 0 := ⟨_, rfl⟩
   obtain ⟨y, hy⟩ : ∃ y, y = ys.getD k 0 := ⟨_, rfl⟩
   rw [← hx] at hck hx9
   rw [← hy] at hy9
   have Hx := Lib.hid hx; clear hx
   have Hy := Lib.hid hy; clear hy
   clear hc h3
   have hsz := hbel.size
   by_cases hly : k < ys.length
   ·obtain ⟨b', off', rfl, hd⟩ := h3'.resolve_left (by omega)
    have hdk := cell_later hbel (hd k hly)
    rw [← Hy.out] at hdk
    clear hd h3'
    by_cases hxy : x < b1 + y
    ·go_wp2_with (at_builtin; refine wpList_append_fits _ rfl _ _ 157 rfl w.heap.size 197 i0 1 Tryz.ul_u32s hi hz1 w.heap.size k xs.length (nums .u32 os) rfl (hown.alloc _) ⟨wr.heap.size, 0, none⟩ 1 1 [_] rfl rfl (cell_one_new _ _ _) (int_oneCell _ _) (by omega) ?_)
     intro w2 hown2 hgrow2
     have ed : ((x : Int) + 1000000000 - ((b1 : Int) + (y : Int)) : Int) = ((x + 1000000000 - (b1 + y) : Nat) : Int) := by omega
     rw [ed, nums_snoc] at hown2
     have hbel2 : Below w.heap.size w w2 := (hbel.alloc hsz _).grown hgrow2 (by simp; omega) (by intro k hk; simp at hk; omega)
     have HR : Hid (MinusInv xs ys (os ++ [x + 1000000000 - (b1 + y)]) (k + 1) 1) := Hinv.out.step (by omega) (by rw [← Hx.out, ← Hy.out]; omega)
     clear ed hgrow2 hown hbel
     go_wp2
     go_roundw
     case rel => exact ⟨k + 1, 1, os ++ [x + 1000000000 - (b1 + y)], by omega, by omega, by go_num, rfl, rfl, hown2, HR, hbel2⟩
     case measure => simp [intOf]; omega
    ·go_wp2_with (at_builtin; refine wpList_append_fits _ rfl _ _ 157 rfl w.heap.size 197 i0 1 Tryz.ul_u32s hi hz1 w.heap.size k xs.length (nums .u32 os) rfl (hown.alloc _) ⟨wr.heap.size, 0, none⟩ 1 1 [_] rfl rfl (cell_one_new _ _ _) (int_oneCell _ _) (by omega) ?_)
     intro w2 hown2 hgrow2
     have ed : ((x : Int) - ((b1 : Int) + (y : Int)) : Int) = ((x - (b1 + y) : Nat) : Int) := by omega
     rw [ed, nums_snoc] at hown2
     have hbel2 : Below w.heap.size w w2 := (hbel.alloc hsz _).grown hgrow2 (by simp; omega) (by intro k hk; simp at hk; omega)
     have HR : Hid (MinusInv xs ys (os ++ [x - (b1 + y)]) (k + 1) 0) := Hinv.out.step (by omega) (by rw [← Hx.out, ← Hy.out]; omega)
     clear ed hgrow2 hown hbel
     go_wp2
     go_roundw
     case rel => exact ⟨k + 1, 0, os ++ [x - (b1 + y)], by omega, by omega, by go_num, rfl, rfl, hown2, HR, hbel2⟩
     case measure => simp [intOf]; omega
   ·have hy0 : ys.getD k 0 = 0 := by simp only [List.getD, List.getElem?_eq_none (by omega : ys.length ≤ k), Option.getD_none]
    have Hy0 := Lib.hid hy0; clear hy0
    by_cases hxy : x < b1
    ·go_wp2_with (at_builtin; refine wpList_append_fits _ rfl _ _ 157 rfl w.heap.size 197 i0 1 Tryz.ul_u32s hi hz1 w.heap.size k xs.length (nums .u32 os) rfl (hown.alloc _) ⟨wr.heap.size, 0, none⟩ 1 1 [_] rfl rfl (cell_one_new _ _ _) (int_oneCell _ _) (by omega) ?_)
     intro w2 hown2 hgrow2
     have ed : ((x : Int) + 1000000000 - (b1 : Int) : Int) = ((x + 1000000000 - b1 : Nat) : Int) := by omega
     rw [ed, nums_snoc] at hown2
     have hbel2 : Below w.heap.size w w2 := (hbel.alloc hsz _).grown hgrow2 (by simp; omega) (by intro k hk; simp at hk; omega)
     have HR : Hid (MinusInv xs ys (os ++ [x + 1000000000 - b1]) (k + 1) 1) := Hinv.out.step (by omega) (by rw [← Hx.out, Hy0.out]; omega)
     clear ed hgrow2 hown hbel
     go_wp2
     go_roundw
     case rel => exact ⟨k + 1, 1, os ++ [x + 1000000000 - b1], by omega, by omega, by go_num, rfl, rfl, hown2, HR, hbel2⟩
     case measure => simp [intOf]; omega
    ·go_wp2_with (at_builtin; refine wpList_append_fits _ rfl _ _ 157 rfl w.heap.size 197 i0 1 Tryz.ul_u32s hi hz1 w.heap.size k xs.length (nums .u32 os) rfl (hown.alloc _) ⟨wr.heap.size, 0, none⟩ 1 1 [_] rfl rfl (cell_one_new _ _ _) (int_oneCell _ _) (by omega) ?_)
     intro w2 hown2 hgrow2
     have ed : ((x : Int) - (b1 : Int) : Int) = ((x - b1 : Nat) : Int) := by omega
     rw [ed, nums_snoc] at hown2
     have hbel2 : Below w.heap.size w w2 := (hbel.alloc hsz _).grown hgrow2 (by simp; omega) (by intro k hk; simp at hk; omega)
     have HR : Hid (MinusInv xs ys (os ++ [x - b1]) (k + 1) 0) := Hinv.out.step (by omega) (by rw [← Hx.out, Hy0.out]; omega)
     clear ed hgrow2 hown hbel
     go_wp2
     go_roundw
     case rel => exact ⟨k + 1, 0, os ++ [x - b1], by omega, by omega, by go_num, rfl, rfl, hown2, HR, hbel2⟩
     case measure => simp [intOf]; omega
  ·obtain rfl : k = xs.length := by omega
   have HF := Hinv.out.fin hlen Hle.out hb1
   have hos : os.length = xs.length := Hinv.out.1
   have hdg := Hinv.out.2.1
   have hsl := Sl.of_owns hown
   rw [← hos] at hsl hown
   have HF' := Lib.hid HF; clear HF
   have Hos := Lib.hid hos; clear hos
   rw [show xs.length = os.length from Hos.out.symm]
   go_wp2_with fail
   refine (trim_any _ os _ hsl (by have := Hos.out; omega)).mono ?_
   rintro e w' ⟨v', rfl, Hv, rfl⟩
   go_wp2
   go_ret
   exact ⟨_, _, rfl, ⟨own_trim hown Hv.out, trimL_nrm hdg, hbel⟩, HF'.out⟩
end Go.Proofs.YtknpnhodpgajbaaGreatDoor
