/-
  The first slash of a string: internal/stringslite.Index, Cut, strings.Cut at one byte; rational.split. Canonical integers as bytes: plain facts. integer.groups: the iterator over the groups of digits. Decimal digits and their value. The text of an integer. The error of a rational: plain. Names and days: what observable.letter, Name, within and novationref08.Name, Day compute. The sorts of expressions; well-formed contracts: plain.
-/
import Derived.Test.YtkonookacfmfgaaGreatDoorC01
import Derived.Lib.Bytealg
import Derived.Lib.IndexLaws
import Derived.RangeFuncNested
import Derived.RangeFuncBound
import Derived.RangeFuncCalls
import Derived.RangeFuncLeaves
import Derived.RangeFuncBox
import Derived.Shelf.Abstract
import Derived.Shelf.RegionOpen
import Derived.OwnWalkIn
import Derived.TacticsInMore
import Derived.LoopNIn
import Derived.LoopIn
import Derived.Maps.AppendAt
namespace Go.Proofs.YtkonookacfmfgaaGreatDoor
open Go.RowKit
def slashI (s : ByteArray) : Int := Lib.indexByte (bl s) 47
set_option maxHeartbeats 400000 in
set_option maxRecDepth 100000 in
theorem indexByte_slash (s : ByteArray) (w : World) :
  Calls Tryz.prog 188 #[.string s, .int .u8 47] w fun e w' => e = .returned (.int .i64 (slashI s)) ∧ w = w' := by
 have hr := fun w => Lib.run_indexByteString (P := Tryz.prog) s 47 w
 have e : Lib.indexByte s.data.toList (47 : Int).toNat.toUInt8 = slashI s := rfl
 rw [e] at hr
 clear e
 go_enter Tryz.func188, Tryz.ntmps188
 go_wp2
 rw [run_callFunc_extern Tryz.func193 (by kernel_rfl) (by kernel_rfl) (by kernel_rfl) (e := Extern.BytealgIndexByte.indexByte) (by kernel_rfl), hr]
 simp only [Result.andThen]
 rw [Oper.upon_value]
 go_wp2
 go_ret
 exact ⟨rfl, rfl⟩
set_option maxHeartbeats 400000 in
set_option maxRecDepth 200000 in
theorem index_slash (s : ByteArray) (w : World) :
  Calls Tryz.prog 186 #[.string s, .string ⟨#[47]⟩] w fun e w' => e = .returned (.int .i64 (slashI s)) ∧ w = w' := by
 have hs : (⟨#[47]⟩ : ByteArray).size = 1 := rfl
 have h0 : (⟨#[47]⟩ : ByteArray)[0] = 47 := rfl
 go_enter Tryz.func186, Tryz.ntmps186
 go_wp2_with fail
 ·have h1 : ([47] == s.toList) = true := by assumption
  have h2 : slashI s = 0 := by
   have e : [47] = bl s := by show [47] = s.data.toList; rw [← Lib.toList_data]; exact eq_of_beq h1
   rw [slashI, ← e]; rfl
  go_ret
  exact ⟨by rw [h2]; rfl, rfl⟩
 ·refine (indexByte_slash s _).mono ?_
  rintro e w' ⟨rfl, rfl⟩
  go_wp2
  go_ret
  exact ⟨rfl, rfl⟩
theorem slash_none {s : ByteArray} (h : slashI s = -1) : ∀ k : Nat, (bl s)[k]? ≠ some 47 := Lib.indexByte_none h
theorem slash_some {s : ByteArray} {o : Nat} (h : slashI s = o) : (bl s)[o]? = some 47 ∧ ∀ k : Nat, k < o → (bl s)[k]? ≠ some 47 := Lib.indexByte_some h
theorem slash_cases (s : ByteArray) : slashI s = -1 ∨ ∃ o : Nat, slashI s = o ∧ o < s.size := by
 have h := Lib.indexByte_ge (bl s) 47
 by_cases h0 : slashI s = -1
 ·exact .inl h0
 ·refine .inr ⟨(slashI s).toNat, ?_, ?_⟩
  ·have : -1 ≤ slashI s := h
   omega
  ·have e : slashI s = ((slashI s).toNat : Int) := by have : -1 ≤ slashI s := h; omega
   have h2 := (slash_some e).1
   have := (List.getElem?_eq_some_iff.1 h2).1
   rw [bl_length] at this
   exact this
def CutPost (w : World) (a b : ByteArray) (f : Bool) (e : Ending) (w' : World) : Prop := e = .returned (.tuple #[.string a, .string b, .bool f]) ∧ ∃ n, w' = w.drewN n
set_option maxHeartbeats 400000 in
set_option maxRecDepth 100000 in
theorem cut0_none (s : ByteArray) (w : World) (h : slashI s = -1) :
  Calls Tryz.prog 176 #[.string s, .string ⟨#[47]⟩] w (CutPost w s ⟨#[]⟩ false) := by
 have C := index_slash s w
 rw [h] at C
 have HC := Lib.hid C
 clear C h
 go_enter Tryz.func176, Tryz.ntmps176
 go_wp2_with fail
 refine HC.out.mono ?_
 rintro e w' ⟨rfl, rfl⟩
 go_wp2
 go_ret3
 exact ⟨rfl, 0, rfl⟩
set_option maxHeartbeats 400000 in
set_option maxRecDepth 100000 in
theorem cut0_some (s : ByteArray) (w : World) (o : Nat) (h : slashI s = o) (ho : o < s.size) (hs : s.size ≤ 4611686018427387904) :
  Calls Tryz.prog 176 #[.string s, .string ⟨#[47]⟩] w (CutPost w (s.extract 0 o) (s.extract (o + 1) s.size) true) := by
 have C := index_slash s w
 rw [h] at C
 have HC := Lib.hid C
 clear C h
 have hb : (⟨#[47]⟩ : ByteArray).size = 1 := rfl
 have x1 : IntKind.i64.wrap ((o : Int) + 1) = (o : Int) + 1 := IntWalk.i64_in _ (by omega)
 have t1 : ((o : Int) + 1).toNat = o + 1 := by omega
 have k1 : (0 : Int) ≤ (o : Int) + 1 := by omega
 have k2 : (o : Int) + 1 ≤ (s.size : Int) := by omega
 have k3 : (o : Int) ≤ (s.size : Int) := by omega
 go_enter Tryz.func176, Tryz.ntmps176
 go_wp2_with fail
 refine HC.out.mono ?_
 rintro e w' ⟨rfl, rfl⟩
 go_wp2_with fail
 go_quiet (fail)
 go_wp2
 go_ret3
 exact ⟨rfl, _, rfl⟩
set_option maxHeartbeats 400000 in
set_option maxRecDepth 100000 in
theorem cut_of (s a b : ByteArray) (f : Bool) (w : World) (C : ∀ W, Calls Tryz.prog 176 #[.string s, .string ⟨#[47]⟩] W (CutPost W a b f)) :
  Calls Tryz.prog 169 #[.string s, .string ⟨#[47]⟩] w (CutPost w a b f) := by
 have HC := Lib.hid C
 clear C
 go_enter Tryz.func169, Tryz.ntmps169
 go_wp2_with fail
 refine (HC.out _).mono ?_
 rintro e w' ⟨rfl, n, rfl⟩
 go_wp2
 go_ret3
 exact ⟨rfl, n, rfl⟩
set_option maxHeartbeats 400000 in
set_option maxRecDepth 100000 in
theorem split_of (s a b : ByteArray) (f : Bool) (w : World) (C : ∀ W, Calls Tryz.prog 169 #[.string s, .string ⟨#[47]⟩] W (CutPost W a b f)) :
  Calls Tryz.prog 161 #[.string s] w (CutPost w a b f) := by
 have HC := Lib.hid C
 clear C
 go_enter Tryz.func161, Tryz.ntmps161
 go_wp2_with fail
 refine (HC.out _).mono ?_
 rintro e w' ⟨rfl, n, rfl⟩
 go_wp2
 go_ret3
 exact ⟨rfl, n, rfl⟩
theorem split_none (s : ByteArray) (w : World) (h : slashI s = -1) : Calls Tryz.prog 161 #[.string s] w (CutPost w s ⟨#[]⟩ false) :=
 split_of s _ _ _ w fun W => cut_of s _ _ _ W fun W' => cut0_none s W' h
theorem split_some (s : ByteArray) (w : World) (o : Nat) (h : slashI s = o) (ho : o < s.size) (hs : s.size ≤ 4611686018427387904) : Calls Tryz.prog 161 #[.string s] w (CutPost w (s.extract 0 o) (s.extract (o + 1) s.size) true) :=
 split_of s _ _ _ w fun W => cut_of s _ _ _ W fun W' => cut0_some s W' o h ho hs
end Go.Proofs.YtkonookacfmfgaaGreatDoor

namespace Go.Proofs.YtkonookacfmfgaaGreatDoor
def isDig (c : UInt8) : Bool := decide (48 ≤ c.toNat ∧ c.toNat ≤ 57)
def body (l : List UInt8) : List UInt8 := if l.head? = some 45 then l.tail else l
def isNeg (l : List UInt8) : Bool := l.head? == some 45
def canonD (d : List UInt8) (neg : Bool) : Bool := !d.isEmpty && d.all isDig && !(d.head? == some 48 && (decide (1 < d.length) || neg))
def canonI (l : List UInt8) : Bool := canonD (body l) (isNeg l)
def intErr (l : List UInt8) : Int := if canonI l then (if 1000 < (body l).length then 14 else 0) else 12
theorem intErr_cons_neg (d : List UInt8) : intErr (45 :: d) = if canonD d true then (if 1000 < d.length then 14 else 0) else 12 := by
 simp [intErr, canonI, body, isNeg]
theorem intErr_pos {d : List UInt8} (h : d.head? ≠ some 45) : intErr d = if canonD d false then (if 1000 < d.length then 14 else 0) else 12 := by
 have e : (d.head? == some 45) = false := by simpa using h
 simp [intErr, canonI, body, isNeg, h, e]
end Go.Proofs.YtkonookacfmfgaaGreatDoor

namespace Go.Proofs.YtkonookacfmfgaaGreatDoor
open Go.RowKit Go.Shelf
attribute [local go_sem] Oper.semAt_some
abbrev Grp := { g : ByteArray // g.size ≤ 9 ∧ (bl g).all isDig = true }
def grpB (s : ByteArray) (k : Nat) : ByteArray := s.extract (s.size - 9 * (k + 1)) (s.size - 9 * k)
theorem grpB_size (s : ByteArray) (k : Nat) : (grpB s k).size ≤ 9 := by
 rw [← bl_length, grpB, bl_extract, List.length_take, List.length_drop]; omega
theorem grpB_dig (s : ByteArray) (h : (bl s).all isDig = true) (k : Nat) : (bl (grpB s k)).all isDig = true := by
 rw [grpB, bl_extract]
 rw [List.all_eq_true] at h ⊢
 exact fun x hx => h x (List.mem_of_mem_drop (List.mem_of_mem_take hx))
def grp (s : ByteArray) (h : (bl s).all isDig = true) (k : Nat) : Grp := ⟨grpB s k, grpB_size s k, grpB_dig s h k⟩
def grps (s : ByteArray) (h : (bl s).all isDig = true) (k : Nat) : List Grp := (List.range k).map (grp s h)
theorem grps_succ (s : ByteArray) (h : (bl s).all isDig = true) (k : Nat) : grps s h (k + 1) = grps s h k ++ [grp s h k] := by
 simp [grps, List.range_succ]
theorem grps_length (s : ByteArray) (h : (bl s).all isDig = true) (k : Nat) : (grps s h k).length = k := by simp [grps]
def KeepsAt (B : Nat) (W W' : World) : Prop := W'.heap[B]? = W.heap[B]?
set_option maxRecDepth 100000 in
set_option maxHeartbeats 1000000 in
theorem groups1_in (F : Fence) (n : Nat) (hf : F.fn 192) (hro : F.round = none) (hn : 1 ≤ n) (l Bn : Nat) (s : ByteArray) (hd : (bl s).all isDig = true) (hs : s.size ≤ 100000) (J Jx : List Grp → World → Prop)
  (hY : ∀ pre x W, J pre W → pre.length < (s.size + 8) / 9 → YieldAt F (n - 1) Tryz.prog l #[.string x.1] W fun e W' =>
   (e = .returned (.bool true) ∧ J (pre ++ [x]) W' ∧ KeepsAt Bn W W') ∨ (e = .returned (.bool false) ∧ Jx (pre ++ [x]) W'))
  (W : World) (hBn : W.heap[Bn]? = some (.cells #[.string s] 9 (0, 0))) (h0 : J [] W) :
  CallsIn F n Tryz.prog 192 #[.func (.yield l) #[] #[], .pointer (some ⟨Bn, 0, none⟩)] W fun e W' => (∃ v, e = .returned v) ∧
   ((∃ ys, ys = grps s hd ((s.size + 8) / 9) ∧ J ys W') ∨ (∃ pre, True ∧ Jx pre W')) := by
 have hc0 := cell_of_one hBn
 refine callsIn_of_wp Tryz.func192 rfl hf ?_ hro
 simp only [Tryz.ntmps192, List.size_toArray, List.length_cons, List.length_nil, Nat.reduceAdd, Nat.reduceSub, Array.replicate_succ, Array.replicate_zero, List.push_toArray, List.append_toArray, List.nil_append, List.cons_append]
 gi_wp2
 gi_loopw [3] (fun p wr => ∃ (k : Nat), p = .int .i64 ((s.size : Int) - 9 * (k : Int)) ∧ 9 * k ≤ s.size + 8 ∧ wr.heap[Bn]? = some (.cells #[.string s] 9 (0, 0)) ∧ Hid (J (grps s hd k) wr))
  (fun p wr => (intOf p).toNat)
 case atStart =>
  exact ⟨0, by simp, by omega, hBn, h0⟩
 case round =>
  obtain ⟨k, rfl, hk, hb, hJs⟩ := hrel
  by_cases hlt : 9 * k < s.size
  ·have hcr := cell_of_one hb
   by_cases h9 : 9 * (k + 1) < s.size
   ·have e1 : ((s.size : Int) - 9 * (k : Int) - 9).toNat = s.size - 9 * (k + 1) := by omega
    have m1 : (0 : Int) < (s.size : Int) - 9 * (k : Int) - 9 := by omega
    obtain ⟨fn, tmps, assign, body, hy, hR⟩ := hY (grps s hd k) (grp s hd k) wr hJs.out (by rw [grps_length]; omega)
    have hy2 : (Instr.yield l #[.string (s.extract (s.size - 9 * (k + 1)) (s.size - 9 * k))]).run Tryz.prog wr = .ok (.round l fn tmps assign body) wr := hy
    clear hy
    gi_wp2
    refine hR.mono ?_
    rintro e W3 (⟨rfl, hJ3, hk3⟩ | ⟨rfl, hJx3⟩)
    ·rw [← grps_succ] at hJ3
     have hb3 : W3.heap[Bn]? = some (.cells #[.string s] 9 (0, 0)) := Eq.trans hk3 hb
     have HJ3 := Lib.hid hJ3
     clear hJ3 hk3 hJs hy2 e1
     gi_wp2
     go_roundw
     case rel => exact ⟨k + 1, by go_num, by omega, hb3, HJ3⟩
     case measure => simp [intOf]; omega
    ·have HJx := Lib.hid hJx3
     clear hJx3 hJs hy2 e1
     gi_wp2
     refine bodyPost_ret (results_none rfl _ _ _) rfl ?_
     exact ⟨⟨_, rfl⟩, .inr ⟨_, trivial, HJx.out⟩⟩
   ·have e1 : s.size - 9 * (k + 1) = 0 := by omega
    have m1 : ¬ (0 : Int) < (s.size : Int) - 9 * (k : Int) - 9 := by omega
    obtain ⟨fn, tmps, assign, body, hy, hR⟩ := hY (grps s hd k) (grp s hd k) wr hJs.out (by rw [grps_length]; omega)
    have hy2 : (Instr.yield l #[.string (s.extract 0 (s.size - 9 * k))]).run Tryz.prog wr = .ok (.round l fn tmps assign body) wr := by rw [← e1]; exact hy
    clear hy
    gi_wp2
    refine hR.mono ?_
    rintro e W3 (⟨rfl, hJ3, hk3⟩ | ⟨rfl, hJx3⟩)
    ·rw [← grps_succ] at hJ3
     have hb3 : W3.heap[Bn]? = some (.cells #[.string s] 9 (0, 0)) := Eq.trans hk3 hb
     have HJ3 := Lib.hid hJ3
     clear hJ3 hk3 hJs hy2 e1
     gi_wp2
     go_roundw
     case rel => exact ⟨k + 1, by go_num, by omega, hb3, HJ3⟩
     case measure => simp [intOf]; omega
    ·have HJx := Lib.hid hJx3
     clear hJx3 hJs hy2 e1
     gi_wp2
     refine bodyPost_ret (results_none rfl _ _ _) rfl ?_
     exact ⟨⟨_, rfl⟩, .inr ⟨_, trivial, HJx.out⟩⟩
  ·have hkk : (s.size + 8) / 9 = k := by omega
   have HF : Hid ((∃ ys, ys = grps s hd ((s.size + 8) / 9) ∧ J ys wr) ∨ (∃ pre, True ∧ Jx pre wr)) := by
    show _ ∨ _
    rw [hkk]; exact .inl ⟨_, rfl, hJs.out⟩
   clear hkk hJs
   gi_wp2
   go_end0
   exact ⟨⟨_, rfl⟩, HF.out⟩
set_option maxHeartbeats 1000000 in
theorem groups_in (F : Fence) (n : Nat) (hf : F.fn 187) (hro : F.round = none) (s : ByteArray) (w : World) :
  CallsIn F n Tryz.prog 187 #[.string s] w fun e w' => e = .returned (.func (.func 192) #[] #[.pointer (some ⟨w.heap.size, 0, none⟩)]) ∧ w' = w.alloc (.cells #[.string s] 9) := by
 refine callsIn_of_wp Tryz.func187 rfl hf ?_ hro
 simp only [Tryz.ntmps187, List.size_toArray, List.length_cons, List.length_nil, Nat.reduceAdd, Nat.reduceSub, Array.replicate_succ, Array.replicate_zero, List.push_toArray, List.append_toArray, List.nil_append, List.cons_append]
 gi_wp2
 go_ret
 exact ⟨rfl, rfl⟩
theorem groups_stops (F : Fence) (n : Nat) (hf : F.fn 192) (hro : F.round = none) (hn : 1 ≤ n) (Bn : Nat) (s : ByteArray) (hd : (bl s).all isDig = true) (hs : s.size ≤ 100000) (w : World)
  (hBn : w.heap[Bn]? = some (.cells #[.string s] 9 (0, 0))) :
  SeqStopsK F n Tryz.prog 192 #[.pointer (some ⟨Bn, 0, none⟩)] (fun x : Grp => #[Value.string x.1]) (KeepsAt Bn) (fun ys => ys = grps s hd ((s.size + 8) / 9)) (fun _ => True) ((s.size + 8) / 9) w := fun l J Jx W hW _ _ hY h0 =>
 groups1_in F n hf hro hn l Bn s hd hs J Jx hY W ((hW.block Bn (Array.getElem?_eq_some_iff.1 hBn).1).trans hBn) h0
end Go.Proofs.YtkonookacfmfgaaGreatDoor

namespace Go.Proofs.YtkonookacfmfgaaGreatDoor
open Go.RowKit
def dval (l : List UInt8) : Nat := l.foldl (fun a c => a * 10 + (c.toNat - 48)) 0
theorem dval_nil : dval [] = 0 := rfl
theorem dval_snoc (l : List UInt8) (c : UInt8) : dval (l ++ [c]) = dval l * 10 + (c.toNat - 48) := by simp [dval]
theorem dval_append (l m : List UInt8) : dval (l ++ m) = dval l * 10 ^ m.length + dval m := by
 refine Nat.rec (motive := fun n => ∀ m : List UInt8, m.length = n → dval (l ++ m) = dval l * 10 ^ m.length + dval m) ?_ ?_ m.length m rfl
 ·intro m hm
  rw [List.eq_nil_of_length_eq_zero hm]; simp [dval_nil]
 ·intro n ih m hm
  rcases List.eq_nil_or_concat m with rfl | ⟨m, c, rfl⟩
  ·simp at hm
  ·rw [List.concat_eq_append] at hm ⊢
   rw [← List.append_assoc, dval_snoc, dval_snoc, ih m (by simp at hm; exact hm)]
   simp only [List.length_append, List.length_singleton, Nat.pow_succ]
   rw [Nat.add_mul, Nat.mul_assoc]; omega
theorem dval_lt (l : List UInt8) (h : l.all isDig = true) : dval l < 10 ^ l.length := by
 refine Nat.rec (motive := fun n => ∀ m : List UInt8, m.length = n → m.all isDig = true → dval m < 10 ^ m.length) ?_ ?_ l.length l rfl h
 ·intro m hm _
  rw [List.eq_nil_of_length_eq_zero hm]; decide
 ·intro n ih m hm hd
  rcases List.eq_nil_or_concat m with rfl | ⟨m, c, rfl⟩
  ·simp at hm
  ·rw [List.concat_eq_append] at hm hd ⊢
   rw [List.all_append] at hd
   simp only [Bool.and_eq_true] at hd
   have h1 := ih m (by simp at hm; exact hm) hd.1
   have h2 : isDig c = true := by simpa using hd.2
   simp [isDig] at h2
   rw [dval_snoc]
   simp only [List.length_append, List.length_singleton, Nat.pow_succ]
   omega
theorem dval_take_succ (s : ByteArray) (k : Nat) (h : k < s.size) : dval ((bl s).take (k + 1)) = dval ((bl s).take k) * 10 + (s[k].toNat - 48) := by
 rw [List.take_add_one, bl_get s k h]
 exact dval_snoc _ _
theorem isDig_at (s : ByteArray) (h : (bl s).all isDig = true) (k : Nat) (hk : k < s.size) : 48 ≤ s[k].toNat ∧ s[k].toNat ≤ 57 := by
 have := (List.all_eq_true.1 h) s[k] (List.mem_of_getElem? (bl_get s k hk))
 simpa [isDig] using this
def gval (g : Grp) : Nat := dval (bl g.1)
theorem gval_lt (g : Grp) : gval g < 1000000000 := by
 have h := dval_lt _ g.2.2
 have h2 : (bl g.1).length ≤ 9 := by rw [bl_length]; exact g.2.1
 exact Nat.lt_of_lt_of_le h (Nat.pow_le_pow_right (by decide) h2)
theorem grps_val (s : ByteArray) (hd : (bl s).all isDig = true) (k : Nat) (hk : 9 * k ≤ s.size + 8) : Go.Proofs.YtkonookacfmfgaaGreatDoor.val 1000000000 ((grps s hd k).map gval) = dval ((bl s).drop (s.size - 9 * k)) := by
 induction k with
 | zero => simp [grps, Go.Proofs.YtkonookacfmfgaaGreatDoor.val, dval_nil, ← bl_length]
 | succ k ih =>
  rw [grps_succ, List.map_append, List.map_singleton, val_snoc, ih (by omega), List.length_map, grps_length]
  have e : (bl s).drop (s.size - 9 * (k + 1)) = bl (grpB s k) ++ (bl s).drop (s.size - 9 * k) := by
   rw [grpB, bl_extract]
   have h1 : (bl s).drop (s.size - 9 * k) = ((bl s).drop (s.size - 9 * (k + 1))).drop (s.size - 9 * k - (s.size - 9 * (k + 1))) := by
    rw [List.drop_drop]; congr 1; omega
   rw [h1, List.take_append_drop]
  rw [e, dval_append, List.length_drop, bl_length]
  have h2 : s.size - (s.size - 9 * k) = 9 * k := by omega
  rw [h2, Nat.add_comm, Nat.mul_comm (1000000000 ^ k)]
  congr 1
  rw [show (1000000000 : Nat) = 10 ^ 9 from rfl, ← Nat.pow_mul]
  rfl
theorem grps_full (s : ByteArray) (hd : (bl s).all isDig = true) : Go.Proofs.YtkonookacfmfgaaGreatDoor.val 1000000000 ((grps s hd ((s.size + 8) / 9)).map gval) = dval (bl s) := by
 rw [grps_val s hd _ (by omega), show s.size - 9 * ((s.size + 8) / 9) = 0 by omega, List.drop_zero]
theorem grps_dig (l : List Grp) : Dig 1000000000 (l.map gval) := fun x hx => by
 obtain ⟨g, _, rfl⟩ := List.mem_map.1 hx; exact gval_lt g
end Go.Proofs.YtkonookacfmfgaaGreatDoor

namespace Go.Proofs.YtkonookacfmfgaaGreatDoor
def dig10F : Nat → Nat → List Nat
 | 0, _ => []
 | k + 1, n => if n = 0 then [] else n % 10 :: dig10F k (n / 10)
def dig10 (n : Nat) : List Nat := dig10F n n
theorem dig10F_ok (k : Nat) : ∀ n, n ≤ k → Nrm 10 (dig10F k n) ∧ val 10 (dig10F k n) = n := by
 induction k with
 | zero => intro n h; obtain rfl : n = 0 := by omega
           exact ⟨Nrm.nil _, rfl⟩
 | succ k ih =>
  intro n h
  rw [dig10F]
  by_cases h0 : n = 0
  ·rw [if_pos h0, h0]; exact ⟨Nrm.nil _, rfl⟩
  ·rw [if_neg h0]
   obtain ⟨i1, i2⟩ := ih (n / 10) (by omega)
   refine ⟨⟨fun x hx => ?_, ?_⟩, by simp only [val, i2]; omega⟩
   ·rcases List.mem_cons.1 hx with rfl | hx
    ·omega
    ·exact i1.1 x hx
   ·cases hd : dig10F k (n / 10) with
    | nil =>
     rw [hd] at i2
     simp [val] at i2
     simp; omega
    | cons y ys =>
     have := i1.2
     rw [hd] at this
     simpa [List.getLast?_cons_cons] using this
theorem dig10_nrm (n : Nat) : Nrm 10 (dig10 n) := (dig10F_ok n n (Nat.le_refl _)).1
theorem dig10_val (n : Nat) : val 10 (dig10 n) = n := (dig10F_ok n n (Nat.le_refl _)).2
theorem dig10_of {D : List Nat} (h : Nrm 10 D) : dig10 (val 10 D) = D := Nrm.inj (by decide) (dig10_nrm _) h (dig10_val _)
theorem dig10_zero : dig10 0 = [] := rfl
theorem dig10_ne {n : Nat} (h : n ≠ 0) : dig10 n ≠ [] := fun e => by have := dig10_val n; rw [e] at this; exact h this.symm
theorem dig10_le {n k : Nat} (h : n < 10 ^ k) : (dig10 n).length ≤ k := (dig10_nrm n).length_le (by decide) k (by rw [dig10_val]; exact h)
def asc (ds : List Nat) : List UInt8 := ds.map fun d => UInt8.ofNat (48 + d)
def istr (neg : Bool) (n : Nat) : List UInt8 := if n = 0 then [48] else (if neg then [45] else []) ++ asc (dig10 n).reverse
def wStr (neg : Bool) (n : Nat) : List UInt8 := if 1000 < (dig10 n).length then [] else istr neg n
def wErr (n : Nat) : Int := if 1000 < (dig10 n).length then 14 else 0
def GInv (D : List Nat) (b : Nat) (xs : List Nat) (k : Nat) : Prop := D.length = 9 * k ∧ Dig 10 D ∧ val 10 D = val b (xs.take k)
theorem asc_snoc (ds : List Nat) (d : Nat) : asc (ds ++ [d]) = asc ds ++ [UInt8.ofNat (48 + d)] := by simp [asc]
end Go.Proofs.YtkonookacfmfgaaGreatDoor

namespace Go.Proofs.YtkonookacfmfgaaGreatDoor
def formErr (l : List UInt8) : Int := if canonI l then 0 else 12
def fracErr (n d : List UInt8) : Int :=
 if canonI n = false then 12 else if canonI d = false then 12 else if d.head? = some 45 then 12 else if d = [48] then 12 else if d = [49] then 12
 else if intErr n ≠ 0 then 14 else if intErr d ≠ 0 then 14 else if Nat.gcd (dval (body n)) (dval (body d)) = 1 then 0 else 12
def ratErr (s : ByteArray) : Int := if slashI s = -1 then intErr (bl s) else fracErr ((bl s).take (slashI s).toNat) ((bl s).drop ((slashI s).toNat + 1))
theorem intErr_of_not {l : List UInt8} (h : canonI l = false) : intErr l = 12 := by rw [intErr, if_neg (by rw [h]; simp)]
theorem intErr_of {l : List UInt8} (h : canonI l = true) (h0 : intErr l ≠ 0) : intErr l = 14 := by
 rw [intErr, if_pos h] at h0 ⊢
 by_cases hb : 1000 < (body l).length
 ·rw [if_pos hb]
 ·rw [if_neg hb] at h0; exact absurd rfl h0
theorem istr_one (n : Nat) : istr false n = [49] ↔ n = 1 := by
 constructor
 ·intro h
  unfold istr at h
  by_cases h0 : n = 0
  ·rw [if_pos h0] at h; simp at h
  ·rw [if_neg h0] at h
   simp only [Bool.false_eq_true, if_false, List.nil_append] at h
   have hl := congrArg List.length h
   simp [asc] at hl
   match hd : dig10 n, hl with
   | [x], _ =>
    rw [hd] at h
    simp [asc] at h
    have hx : x < 10 := (dig10_nrm n).1 x (by rw [hd]; simp)
    have hv := dig10_val n
    rw [hd] at hv
    simp [val] at hv
    have e := congrArg UInt8.toNat h
    rw [UInt8.toNat_add, UInt8.toNat_ofNat'] at e
    have e48 : (48 : UInt8).toNat = 48 := rfl
    have e49 : (49 : UInt8).toNat = 49 := rfl
    rw [e48, e49] at e
    omega
 ·rintro rfl; rfl
end Go.Proofs.YtkonookacfmfgaaGreatDoor

namespace Go.Proofs.YtkonookacfmfgaaGreatDoor
open Go.RowKit
def isLet (c : UInt8) : Bool := (decide (97 ≤ c.toNat) && decide (c.toNat ≤ 122)) || (decide (65 ≤ c.toNat) && decide (c.toNat ≤ 90))
def isOth (c : UInt8) : Bool := isDig c || (decide (c.toNat = 95) || decide (c.toNat = 45))
def isNmc (c : UInt8) : Bool := isLet c || isOth c
def isNm (l : List UInt8) : Bool := decide (1 ≤ l.length) && (decide (l.length ≤ 40) && (l.head?.any isLet && l.all isNmc))
def isDay (d : Int) : Bool := decide (0 ≤ d) && decide (d ≤ 99999)
set_option maxRecDepth 100000 in
theorem letter_any (c : UInt8) (w : World) : Calls Tryz.prog 131 #[.int .u8 c.toNat] w fun e w' => e = .returned (.bool (isLet c)) ∧ w = w' := by
 have hc : c.toNat < 256 := c.toNat_lt
 go_enter Tryz.func131, Tryz.ntmps131
 go_wp2
 all_goals
  go_ret
  refine ⟨ret_bool' ?_, rfl⟩
  rw [Bool.eq_iff_iff]; simp [isLet]; omega
set_option maxRecDepth 100000 in
theorem rday_any (d : Int) (w : World) : Calls Tryz.prog 56 #[.int .i64 d] w fun e w' => e = .returned (.bool (isDay d)) ∧ w = w' := by
 go_enter Tryz.func56, Tryz.ntmps56
 go_wp2
 all_goals
  go_ret
  refine ⟨ret_bool' ?_, rfl⟩
  rw [Bool.eq_iff_iff]; simp [isDay]; omega
theorem isNm_short {l : List UInt8} (h : l.length = 0) : isNm l = false := by simp [isNm, h]
theorem isNm_long {l : List UInt8} (h : 40 < l.length) : isNm l = false := by
 have : decide (l.length ≤ 40) = false := by simpa using h
 simp [isNm, this]
theorem isNm_eq (s : ByteArray) (h1 : 0 < s.size) (h2 : s.size ≤ 40) : isNm (bl s) = (isLet s[0] && (bl s).all isNmc) := by
 have e := bl_cons s h1
 have a1 : decide (1 ≤ (bl s).length) = true := by rw [bl_length, decide_eq_true_eq]; omega
 have a2 : decide ((bl s).length ≤ 40) = true := by rw [bl_length, decide_eq_true_eq]; omega
 have a3 : (bl s).head?.any isLet = isLet s[0] := by rw [e]; rfl
 rw [isNm, a1, a2, a3]; rfl
theorem all_false_of_take {f : UInt8 → Bool} {l : List UInt8} {k : Nat} (h : (l.take k).all f = false) : l.all f = false := by
 rw [Bool.eq_false_iff] at h ⊢
 exact fun hh => h (all_take_of_all f l k hh)
set_option maxRecDepth 100000 in
theorem name_no (s : ByteArray) (w : World) (h : s.size = 0 ∨ 40 < s.size) (hl : s.size ≤ 9223372036854775807) :
  Calls Tryz.prog 90 #[.string s] w fun e w' => e = .returned (.bool (isNm (bl s))) ∧ w = w' := by
 have HR : Hid (isNm (bl s) = false) := by
  show _ = _
  rcases h with h | h
  ·exact isNm_short (by rw [bl_length]; exact h)
  ·exact isNm_long (by rw [bl_length]; exact h)
 rcases h with h | h
 ·have d1 : decide ((s.size : Int) < 1) = true := by simp [h]
  clear h
  go_enter Tryz.func90, Tryz.ntmps90
  go_wp2
  go_ret
  exact ⟨ret_bool' HR.out.symm, rfl⟩
 ·have d1 : decide ((s.size : Int) < 1) = false := by rw [decide_eq_false_iff_not]; omega
  have d2 : decide ((40 : Int) < (s.size : Int)) = true := by rw [decide_eq_true_eq]; omega
  clear hl
  go_enter Tryz.func90, Tryz.ntmps90
  go_wp2
  go_ret
  exact ⟨ret_bool' HR.out.symm, rfl⟩
set_option maxRecDepth 100000 in
theorem name_head (s : ByteArray) (w : World) (h1 : 0 < s.size) (h2 : s.size ≤ 40) (h3 : isLet s[0] = false) :
  Calls Tryz.prog 90 #[.string s] w fun e w' => e = .returned (.bool (isNm (bl s))) ∧ w = w' := by
 have HR : Hid (isNm (bl s) = false) := by show _ = _; rw [isNm_eq s h1 h2, h3]; rfl
 have d1 : decide ((s.size : Int) < 1) = false := by rw [decide_eq_false_iff_not]; omega
 have d2 : decide ((40 : Int) < (s.size : Int)) = false := by rw [decide_eq_false_iff_not]; omega
 go_enter Tryz.func90, Tryz.ntmps90
 go_wp2_with (go_at_call 131; refine (letter_any _ _).mono ?_; rintro e w' ⟨rfl, rfl⟩)
 go_ret
 exact ⟨ret_bool' HR.out.symm, rfl⟩
set_option maxHeartbeats 1000000 in
set_option maxRecDepth 100000 in
theorem name_loop (s : ByteArray) (w : World) (h1 : 0 < s.size) (h2 : s.size ≤ 40) (h3 : isLet s[0] = true) :
  Calls Tryz.prog 90 #[.string s] w fun e w' => e = .returned (.bool (isNm (bl s))) ∧ w = w' := by
 have HR : Hid (isNm (bl s) = (bl s).all isNmc) := by show _ = _; rw [isNm_eq s h1 h2, h3]; rfl
 have d1 : decide ((s.size : Int) < 1) = false := by rw [decide_eq_false_iff_not]; omega
 have d2 : decide ((40 : Int) < (s.size : Int)) = false := by rw [decide_eq_false_iff_not]; omega
 go_enter Tryz.func90, Tryz.ntmps90
 go_wp2_with (go_at_call 131; refine (letter_any _ _).mono ?_; rintro e w' ⟨rfl, rfl⟩)
 go_loop [21] (fun i => ∃ k : Nat, k ≤ s.size ∧ i = .int .i64 k ∧ Hid (((bl s).take k).all isNmc = true)) (fun i => s.size - (intOf i).toNat)
 case atStart => exact ⟨0, Nat.zero_le _, rfl, Lib.hid (by rfl)⟩
 case round =>
  obtain ⟨k, hk, rfl, Hall⟩ := hrel
  clear h3 d1 d2
  by_cases hlt : k < s.size
  ·have Hs := Lib.hid (take_succ_all isNmc s k hlt)
   obtain ⟨c, hc⟩ : ∃ c, s[k] = c := ⟨_, rfl⟩
   rw [hc] at Hs
   have hcb : c.toNat < 256 := c.toNat_lt
   cases hl : isLet c with
   | true =>
    have Hok : Hid (((bl s).take (k + 1)).all isNmc = true) := by show _ = _; rw [Hs.out, Hall.out, isNmc, hl]; rfl
    go_wp2_with (go_at_call 131; refine (letter_any _ _).mono ?_; rintro e w' ⟨rfl, rfl⟩)
    go_round
    case rel => exact ⟨k + 1, by omega, by go_num, Hok⟩
    case measure => simp [intOf]; omega
   | false =>
    cases ho : isOth c with
    | true =>
     have Hok : Hid (((bl s).take (k + 1)).all isNmc = true) := by show _ = _; rw [Hs.out, Hall.out, isNmc, ho]; simp
     have ho' := ho
     simp only [isOth, isDig, Bool.or_eq_true, decide_eq_true_eq] at ho'
     clear ho
     rcases ho' with h | h | h
     ·have t1 : decide (((c.toNat : Nat) : Int) < 48) = false := by rw [decide_eq_false_iff_not]; omega
      have t2 : decide ((57 : Int) < ((c.toNat : Nat) : Int)) = false := by rw [decide_eq_false_iff_not]; omega
      clear h
      go_wp2_with (go_at_call 131; refine (letter_any _ _).mono ?_; rintro e w' ⟨rfl, rfl⟩)
      go_round
      case rel => exact ⟨k + 1, by omega, by go_num, Hok⟩
      case measure => simp [intOf]; omega
     ·have t1 : decide (((c.toNat : Nat) : Int) < 48) = false := by rw [decide_eq_false_iff_not]; omega
      have t2 : decide ((57 : Int) < ((c.toNat : Nat) : Int)) = true := by rw [decide_eq_true_eq]; omega
      have t3 : (((c.toNat : Nat) : Int) != 95) = false := by rw [bne_eq_false_iff_eq]; omega
      have t5 : (((c.toNat : Nat) : Int) == 95) = true := by rw [beq_iff_eq]; omega
      clear h
      go_wp2_with (go_at_call 131; refine (letter_any _ _).mono ?_; rintro e w' ⟨rfl, rfl⟩)
      go_round
      case rel => exact ⟨k + 1, by omega, by go_num, Hok⟩
      case measure => simp [intOf]; omega
     ·have t1 : decide (((c.toNat : Nat) : Int) < 48) = true := by rw [decide_eq_true_eq]; omega
      have t3 : (((c.toNat : Nat) : Int) != 95) = true := by rw [bne_iff_ne]; omega
      have t5 : (((c.toNat : Nat) : Int) == 95) = false := by rw [beq_eq_false_iff_ne]; omega
      have t4 : (((c.toNat : Nat) : Int) != 45) = false := by rw [bne_eq_false_iff_eq]; omega
      have t6 : (((c.toNat : Nat) : Int) == 45) = true := by rw [beq_iff_eq]; omega
      clear h
      go_wp2_with (go_at_call 131; refine (letter_any _ _).mono ?_; rintro e w' ⟨rfl, rfl⟩)
      go_round
      case rel => exact ⟨k + 1, by omega, by go_num, Hok⟩
      case measure => simp [intOf]; omega
    | false =>
     have Hno : Hid (isNm (bl s) = false) := by
      show _ = _
      rw [HR.out]
      exact all_false_of_take (k := k + 1) (by rw [Hs.out, isNmc, hl, ho]; simp)
     have ho' := ho
     simp only [isOth, isDig, Bool.or_eq_false_iff, decide_eq_false_iff_not] at ho'
     obtain ⟨h0, h95, h45⟩ := ho'
     have t3 : (((c.toNat : Nat) : Int) != 95) = true := by rw [bne_iff_ne]; omega
     have t4 : (((c.toNat : Nat) : Int) != 45) = true := by rw [bne_iff_ne]; omega
     have t5 : (((c.toNat : Nat) : Int) == 95) = false := by rw [beq_eq_false_iff_ne]; omega
     have t6 : (((c.toNat : Nat) : Int) == 45) = false := by rw [beq_eq_false_iff_ne]; omega
     clear ho h95 h45
     by_cases h48 : c.toNat < 48
     ·have t1 : decide (((c.toNat : Nat) : Int) < 48) = true := by rw [decide_eq_true_eq]; omega
      clear h0 h48
      go_wp2_with (go_at_call 131; refine (letter_any _ _).mono ?_; rintro e w' ⟨rfl, rfl⟩)
      go_ret
      exact ⟨ret_bool' Hno.out.symm, rfl⟩
     ·have t1 : decide (((c.toNat : Nat) : Int) < 48) = false := by rw [decide_eq_false_iff_not]; omega
      have t2 : decide ((57 : Int) < ((c.toNat : Nat) : Int)) = true := by rw [decide_eq_true_eq]; omega
      clear h0 h48
      go_wp2_with (go_at_call 131; refine (letter_any _ _).mono ?_; rintro e w' ⟨rfl, rfl⟩)
      go_ret
      exact ⟨ret_bool' Hno.out.symm, rfl⟩
  ·obtain rfl : k = s.size := by omega
   have HY : Hid (isNm (bl s) = true) := by
    show _ = _
    rw [HR.out, ← Hall.out, List.take_of_length_le (by rw [bl_length]; exact Nat.le_refl _)]
   go_wp2
   go_ret
   exact ⟨ret_bool' HY.out.symm, rfl⟩
theorem name_any (s : ByteArray) (w : World) (hl : s.size ≤ 9223372036854775807) :
  Calls Tryz.prog 90 #[.string s] w fun e w' => e = .returned (.bool (isNm (bl s))) ∧ w = w' := by
 by_cases h1 : 0 < s.size
 ·by_cases h2 : s.size ≤ 40
  ·cases h3 : isLet s[0] with
   | true => exact name_loop s w h1 h2 h3
   | false => exact name_head s w h1 h2 h3
  ·exact name_no s w (.inr (by omega)) hl
 ·exact name_no s w (.inl (by omega)) hl
end Go.Proofs.YtkonookacfmfgaaGreatDoor

namespace Go.Proofs.YtkonookacfmfgaaGreatDoor
open Go.RowKit
def shapeOf (k : Nat) : Option (List Nat × Nat) :=
 if 4 ≤ k ∧ k ≤ 8 then some ([1, 1], 1) else if k = 9 then some ([2, 1, 1], 1) else if k = 11 ∨ k = 12 then some ([1, 1], 2)
 else if k = 13 ∨ k = 14 then some ([2, 2], 2) else if k = 15 then some ([2], 2) else none
def leafOk (k : Nat) (ra nm : ByteArray) (d : Int) (n : Nat) : Prop :=
 n = 0 ∧ ((k = 1 ∧ ratErr ra = 0 ∧ nm.size = 0 ∧ d = 0) ∨ (k = 2 ∧ ra.size = 0 ∧ isNm (bl nm) = true ∧ isDay d = true) ∨ (k = 3 ∧ ra.size = 0 ∧ isNm (bl nm) = true ∧ d = 0))
noncomputable def leafSort (k : Nat) (ra nm : ByteArray) (d : Int) (n : Nat) : Nat := @ite _ (leafOk k ra nm d n) (Classical.propDecidable _) 1 0
noncomputable def partSort (ra nm : ByteArray) (d : Int) (l ps : List Nat) (own : Nat) : Nat := if ra.size = 0 ∧ nm.size = 0 ∧ d = 0 ∧ l = ps then own else 0
noncomputable def sortOf (k : Nat) (ra nm : ByteArray) (d : Int) (l : List Nat) : Nat :=
 match shapeOf k with
 | none => leafSort k ra nm d l.length
 | some (ps, own) => partSort ra nm d l ps own
mutual
noncomputable def Ex.sort : Ex → Nat
 | .mk k r n d l => sortOf k r n d (Ex.sorts l)
noncomputable def Ex.sorts : List Ex → List Nat
 | [] => []
 | x :: l => Ex.sort x :: Ex.sorts l
end
theorem Ex.sort_eq (x : Ex) : x.sort = sortOf x.k x.ra x.nm x.d (Ex.sorts x.sub) := by cases x; rw [Ex.sort]; rfl
theorem Ex.sorts_eq (l : List Ex) : Ex.sorts l = l.map Ex.sort := by
 induction l with
 | nil => rw [Ex.sorts]; rfl
 | cons x l ih => rw [Ex.sorts, ih]; rfl
theorem Ex.sorts_length (l : List Ex) : (Ex.sorts l).length = l.length := by rw [Ex.sorts_eq, List.length_map]
theorem shapeOf_own {k : Nat} {ps : List Nat} {own : Nat} (h : shapeOf k = some (ps, own)) : own = 1 ∨ own = 2 := by
 unfold shapeOf at h
 repeat' split at h
 all_goals first
  | (cases h; done)
  | (cases h; decide)
theorem sortOf_le (k : Nat) (ra nm : ByteArray) (d : Int) (l : List Nat) : sortOf k ra nm d l ≤ 2 := by
 unfold sortOf leafSort partSort
 split
 ·split <;> omega
 ·next h =>
  have := shapeOf_own h
  split <;> omega
theorem Ex.sort_le (x : Ex) : x.sort ≤ 2 := by rw [Ex.sort_eq]; exact sortOf_le _ _ _ _ _
noncomputable def Ex.err (x : Ex) : Int := if 500 < x.size ∨ 60 < x.depth then 4 else if x.sort = 0 then 8 else 0
noncomputable def Ex.isA (x : Ex) (t : Nat) : Bool := decide (x.err = 0) && decide (x.sort = t)
def Ex.bare (x : Ex) : Bool := decide (x.k = 0) && (decide (x.ra.size = 0) && (decide (x.nm.size = 0) && (decide (x.d = 0) && decide (x.sub.length = 0))))
def isDays (l : List Int) : Bool := decide (1 ≤ l.length) && (decide (l.length ≤ 100) && (l.all isDay && decide (l.Pairwise (· < ·))))
mutual
def Con.size : Con → Nat
 | .mk _ _ _ _ x _ _ l => 1 + (if x.bare = true then 0 else x.size) + Con.sizes l
def Con.sizes : List Con → Nat
 | [] => 0
 | x :: l => Con.size x + Con.sizes l
end
mutual
def Con.depth : Con → Nat
 | .mk _ _ _ _ x _ _ l => max (if x.bare = true then 0 else x.depth) (Con.depths l) + 1
def Con.depths : List Con → Nat
 | [] => 0
 | x :: l => max (Con.depth x) (Con.depths l)
end
theorem Con.size_eq (x : Con) : x.size = 1 + (if x.ex.bare = true then 0 else x.ex.size) + Con.sizes x.sub := by cases x; rw [Con.size]; rfl
theorem Con.depth_eq (x : Con) : x.depth = max (if x.ex.bare = true then 0 else x.ex.depth) (Con.depths x.sub) + 1 := by cases x; rw [Con.depth]; rfl
theorem Con.sizes_append (l m : List Con) : Con.sizes (l ++ m) = Con.sizes l + Con.sizes m := by
 induction l with
 | nil => simp [Con.sizes]
 | cons x l ih => rw [List.cons_append, Con.sizes, Con.sizes, ih]; omega
theorem Con.sizes_snoc {l : List Con} {k : Nat} {x : Con} (h : l[k]? = some x) : Con.sizes (l.take (k + 1)) = Con.sizes (l.take k) + x.size := by
 rw [take_snoc_get h, Con.sizes_append, Con.sizes, Con.sizes]; omega
theorem Con.depths_append (l m : List Con) : Con.depths (l ++ m) = max (Con.depths l) (Con.depths m) := by
 induction l with
 | nil => simp [Con.depths]
 | cons x l ih => rw [List.cons_append, Con.depths, Con.depths, ih]; omega
theorem Con.depths_snoc {l : List Con} {k : Nat} {x : Con} (h : l[k]? = some x) : Con.depths (l.take (k + 1)) = max (Con.depths (l.take k)) x.depth := by
 rw [take_snoc_get h, Con.depths_append, Con.depths, Con.depths]; omega
mutual
theorem Con.size_le : ∀ x : Con, x.size ≤ x.bulk
 | .mk _ _ _ _ x _ _ l => by
  rw [Con.size, Con.bulk]
  have := Con.sizes_le l
  have := x.size_le
  split <;> omega
theorem Con.sizes_le : ∀ l : List Con, Con.sizes l ≤ Con.bulks l
 | [] => by simp [Con.sizes]
 | x :: l => by rw [Con.sizes, Con.bulks]; have := Con.size_le x; have := Con.sizes_le l; omega
end
mutual
theorem Con.depth_le : ∀ x : Con, x.depth ≤ x.size
 | .mk _ _ _ _ x _ _ l => by
  rw [Con.depth, Con.size]
  have := Con.depths_le l
  have := x.depth_le
  split <;> omega
theorem Con.depths_le : ∀ l : List Con, Con.depths l ≤ Con.sizes l
 | [] => by simp [Con.depths]
 | x :: l => by rw [Con.depths, Con.sizes]; have := Con.depth_le x; have := Con.depths_le l; omega
end
theorem Con.sizes_take (l : List Con) (k : Nat) : Con.sizes (l.take k) ≤ Con.sizes l := by
 have h := Con.sizes_append (l.take k) (l.drop k)
 rw [List.take_append_drop] at h
 omega
theorem Con.depths_take (l : List Con) (k : Nat) : Con.depths (l.take k) ≤ Con.depths l := by
 have h := Con.depths_append (l.take k) (l.drop k)
 rw [List.take_append_drop] at h
 omega
theorem Con.bulks_append (l m : List Con) : Con.bulks (l ++ m) = Con.bulks l + Con.bulks m := by
 induction l with
 | nil => simp [Con.bulks]
 | cons x l ih => rw [List.cons_append, Con.bulks, Con.bulks, ih]; omega
theorem Con.bulks_snoc {l : List Con} {k : Nat} {x : Con} (h : l[k]? = some x) : Con.bulks (l.take (k + 1)) = Con.bulks (l.take k) + x.bulk := by
 rw [take_snoc_get h, Con.bulks_append, Con.bulks, Con.bulks]; omega
theorem Con.bulks_take (l : List Con) (k : Nat) : Con.bulks (l.take k) ≤ Con.bulks l := by
 have h := Con.bulks_append (l.take k) (l.drop k)
 rw [List.take_append_drop] at h
 omega
noncomputable def nodeOk (c : Con) : Bool :=
 let nobody := decide (c.fr.size = 0)
 let noTo := decide (c.rc.size = 0)
 let noName := decide (c.nm.size = 0)
 let noDate := decide (c.d = 0)
 let noDays := decide (c.ds.length = 0)
 let n := c.sub.length
 if c.k = 1 then decide (n = 0) && (nobody && (noTo && (noName && (noDate && (noDays && c.ex.bare)))))
 else if c.k = 2 then decide (n = 0) && (isNm (bl c.fr) && (isNm (bl c.rc) && (!decide (c.fr = c.rc) && (isNm (bl c.nm) && (c.ex.isA 1 && (noDate && noDays))))))
 else if c.k = 3 then decide (n = 2) && (nobody && (noTo && (noName && (noDate && (noDays && c.ex.bare)))))
 else if c.k = 4 then decide (n = 1) && (nobody && (noTo && (noName && (noDate && (noDays && c.ex.isA 1)))))
 else if c.k = 5 then decide (n = 2) && (nobody && (noTo && (noName && (noDate && (noDays && c.ex.isA 2)))))
 else if c.k = 6 then decide (n = 1) && (nobody && (noTo && (noName && (isDay c.d && (noDays && c.ex.bare)))))
 else if c.k = 7 then decide (n = 2) && (isNm (bl c.fr) && (noTo && (isNm (bl c.nm) && (noDate && (noDays && c.ex.bare)))))
 else if c.k = 8 then decide (n = 1) && (isNm (bl c.fr) && (noTo && (isNm (bl c.nm) && (noDate && (isDays c.ds && c.ex.bare)))))
 else if c.k = 9 ∨ c.k = 10 then decide (n = 1) && (nobody && (noTo && (noName && (noDate && (isDays c.ds && c.ex.isA 2)))))
 else false
mutual
noncomputable def Con.formed : Con → Bool
 | .mk k fr rc nm ex d ds l => nodeOk (.mk k fr rc nm ex d ds l) && Con.formeds l
noncomputable def Con.formeds : List Con → Bool
 | [] => true
 | x :: l => Con.formed x && Con.formeds l
end
theorem Con.formed_eq (x : Con) : x.formed = (nodeOk x && Con.formeds x.sub) := by cases x; rw [Con.formed]; rfl
theorem Con.formeds_eq (l : List Con) : Con.formeds l = l.all Con.formed := by
 induction l with
 | nil => rw [Con.formeds]; rfl
 | cons x l ih => rw [Con.formeds, ih]; rfl
noncomputable def Con.err (x : Con) : Int := if 500 < x.size ∨ 60 < x.depth then 4 else if x.formed = true then 0 else 8
end Go.Proofs.YtkonookacfmfgaaGreatDoor
