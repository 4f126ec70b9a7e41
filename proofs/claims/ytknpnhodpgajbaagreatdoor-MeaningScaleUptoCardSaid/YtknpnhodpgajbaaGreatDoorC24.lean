/-
  contract.node at a mask.  Printed by tools/gennode.py. contract.node at a mask.  Printed by tools/gennode.py. contract.node at a mask.  Printed by tools/gennode.py. contract.node at a mask.  Printed by tools/gennode.py. contract.node at a mask.  Printed by tools/gennode.py. contract.node at a mask.  Printed by tools/gennode.py. contract.node at a mask.  Printed by tools/gennode.py. contract.node at a mask.  Printed by tools/gennode.py. contract.node at a mask.  Printed by tools/gennode.py.
-/
import Derived.Test.YtknpnhodpgajbaaGreatDoorC10
namespace Go.Proofs.YtknpnhodpgajbaaGreatDoor
open Go.RowKit
set_option maxHeartbeats 4000000 in
set_option maxRecDepth 100000 in
theorem node_m0 (c : Con) (w : World) (bm : Nat) (ad ad1 ad2 : Option Addr) (cap cap1 cap2 : Nat) (hB : c.bulk ≤ 2000000) (hm : w.cell? ⟨0, 0, none⟩ = some (.map (some bm)))
  (hr : RdN w c (.slice ad1 c.ex.sub.length cap1) (.slice ad2 c.ds.length cap2) (.slice ad c.sub.length cap)) (_HLS : Hid (LookS w))
  (hlk : ∀ W, Below w.heap.size w W → (Instr.lookup 152 (.map (some bm)) (.int .u8 (c.k : Int)) true).run Tryz.prog W = .ok (.tuple #[.int .i64 0, .bool true]) W) :
  Calls Tryz.prog 56 #[c.val (.slice ad1 c.ex.sub.length cap1) (.slice ad2 c.ds.length cap2) (.slice ad c.sub.length cap)] w fun e w' => e = .returned (.bool (nodeP false false false false false false false 0 c)) ∧ Below w.heap.size w w' := by
 have hmb : 0 < w.heap.size := World.block_lt_of_cell? w _ hm
 have hlk1 := hlk _ (below_a1 w (.cells #[.int .u8 c.k, .string c.fr, .string c.rc, .string c.nm, .int .u8 c.ex.k, .string c.ex.ra, .string c.ex.nm, .int .i64 c.ex.d, .slice ad1 c.ex.sub.length cap1, .int .i64 c.d, .slice ad2 c.ds.length cap2, .slice ad c.sub.length cap] 29))
 have hbq := c.bulk_eq
 have hl1 := Con.bulks_len c.sub
 have hk8 := hr.2.2.2.2
 have hB2 : c.ex.bulk ≤ 2000000 := by omega
 have hn1 : c.sub.length ≤ 2000000 := by omega
 have hn2 : c.ds.length ≤ 2000000 := by omega
 have hf1 : c.fr.size ≤ 2000000 := by omega
 have hf2 : c.rc.size ≤ 2000000 := by omega
 have hf3 : c.nm.size ≤ 2000000 := by omega
 have HE : Hid (∀ W, Below w.heap.size w W → RdE W c.ex.sub (.slice ad1 c.ex.sub.length cap1)) := Lib.hid fun W hb => hr.1.frame hb
 have HX : Hid (∀ W, Below w.heap.size w W → Calls Tryz.prog 107 #[.agg #[.int .u8 c.ex.k, .string c.ex.ra, .string c.ex.nm, .int .i64 c.ex.d, .slice ad1 c.ex.sub.length cap1]] W fun e w' => e = .returned (.bool (c.ex.bare)) ∧ Below W.heap.size W w') := Lib.hid fun W hb => bare_any c.ex _ W (HE.out W hb)
 have HD : Hid (∀ W, Below w.heap.size w W → Calls Tryz.prog 117 #[.slice ad2 c.ds.length cap2] W fun e w' => e = .returned (.bool (isDays c.ds)) ∧ W = w') := Lib.hid fun W hb => days_any c.ds _ W hn2 (hr.2.1.frame hb)
 have HY : Hid (∀ W, Calls Tryz.prog 116 #[.int .i64 c.d] W fun e w' => e = .returned (.bool (isDay c.d)) ∧ W = w') := Lib.hid fun W => cwithin_any c.d W
 clear hlk hbq hl1 hr
 have hh1 : (bits BinOp.and IntKind.i64 0 1 != 0) = false := by decide
 have hh2 : (bits BinOp.and IntKind.i64 0 2 != 0) = false := by decide
 have hh4 : (bits BinOp.and IntKind.i64 0 4 != 0) = false := by decide
 have hh8 : (bits BinOp.and IntKind.i64 0 8 != 0) = false := by decide
 have hh16 : (bits BinOp.and IntKind.i64 0 16 != 0) = false := by decide
 have hh32 : (bits BinOp.and IntKind.i64 0 32 != 0) = false := by decide
 have hh64 : (bits BinOp.and IntKind.i64 0 64 != 0) = false := by decide
 have hh128 : (bits BinOp.and IntKind.i64 0 128 != 0) = false := by decide
 have hh256 : (bits BinOp.and IntKind.i64 0 256 != 0) = false := by decide
 have HR : Hid (nodeP false false false false false false false 0 c = (wordB false c.fr && (wordB false c.rc && (wordB false c.nm && (!(false && (c.fr.toList == c.rc.toList)) && ((c.ex.bare) && ((decide (c.d = 0)) && ((decide (c.ds.length = 0)) && decide (c.sub.length = 0))))))))) := Lib.hid (by unfold nodeP; rw [toList_beq]; rfl)
 generalize nodeP false false false false false false false 0 c = R at *
 unfold Con.val
 go_enter Tryz.func56, Tryz.ntmps56
 go_wp2_with fail
 obtain ⟨W, hW, hbW, hzW, q1, q2, q3, q4, q5, q6, q7, q8, q9, q10, q11, q12, q13⟩ := node_world w c ad ad1 ad2 cap cap1 cap2 0
 rw [hW]
 clear hW hlk1
 have HW1 := Lib.hid (word_any 0 1 _ hh1 c.fr hf1 _ _ W q12 q13)
 have HW2 := Lib.hid (word_any 0 2 _ hh2 c.rc hf2 _ _ W q12 q13)
 have HW4 := Lib.hid (word_any 0 4 _ hh4 c.nm hf3 _ _ W q12 q13)
 have HH : Hid (∀ (part : Int) (r : Bool), (bits BinOp.and IntKind.i64 0 part != 0) = r → ∀ W', W'.cell? ⟨w.heap.size + 1, 0, none⟩ = some (.int .i64 0) → Calls Tryz.prog 112 #[.int .i64 part, .pointer (some ⟨w.heap.size + 1, 0, none⟩)] W' fun e w' => e = .returned (.bool r) ∧ W' = w') := Lib.hid fun part r h W' hc => has_any 0 part r h _ W' hc
 have HK := Lib.hid (node_keep hbW hzW q9 q10 q11 q12 q13)
 have hx0 : w.heap.size < W.heap.size := by omega
 have hx1 : w.heap.size + 1 < W.heap.size := by omega
 have hx2 : w.heap.size + 1 + 1 < W.heap.size := by omega
 clear hzW hm hmb
 generalize wordB false c.fr = B1 at *
 generalize wordB false c.rc = B2 at *
 generalize wordB false c.nm = B3 at *
 generalize c.ex.bare = E at *
 generalize isDay c.d = DY at *
 generalize isDays c.ds = DS at *
 go_wp2_with (first
  | (go_at_call 113; (first | with_reducible refine HW1.out.mono ?_ | with_reducible refine HW2.out.mono ?_ | with_reducible refine HW4.out.mono ?_); rintro e w1 ⟨rfl, rfl⟩)
  | (go_at_call 112; refine (HH.out _ _ (by assumption) _ (by assumption)).mono ?_; rintro e w1 ⟨rfl, rfl⟩)
  | (go_at_call 107; refine (HX.out _ (by assumption)).mono ?_; rintro e W2 ⟨rfl, hb2⟩; obtain ⟨r9, r10, r11, r12, r13, hbW2⟩ := HK.out W2 hb2; clear hb2)
  | (go_at_call 116; refine (HY.out _).mono ?_; rintro e w1 ⟨rfl, rfl⟩)
  | (go_at_call 117; refine (HD.out _ (by assumption)).mono ?_; rintro e w1 ⟨rfl, rfl⟩))
 all_goals
  go_ret
  first
   | exact ⟨ret_bool' (by rw [HR.out]; simp [*, len_nil]), hbW2⟩
   | exact ⟨ret_bool' (by rw [HR.out]; simp [*]), hbW⟩
end Go.Proofs.YtknpnhodpgajbaaGreatDoor

namespace Go.Proofs.YtknpnhodpgajbaaGreatDoor
open Go.RowKit
set_option maxHeartbeats 4000000 in
set_option maxRecDepth 100000 in
theorem node_m15 (c : Con) (w : World) (bm : Nat) (ad ad1 ad2 : Option Addr) (cap cap1 cap2 : Nat) (hB : c.bulk ≤ 2000000) (hm : w.cell? ⟨0, 0, none⟩ = some (.map (some bm)))
  (hr : RdN w c (.slice ad1 c.ex.sub.length cap1) (.slice ad2 c.ds.length cap2) (.slice ad c.sub.length cap)) (HLS : Hid (LookS w))
  (hlk : ∀ W, Below w.heap.size w W → (Instr.lookup 152 (.map (some bm)) (.int .u8 (c.k : Int)) true).run Tryz.prog W = .ok (.tuple #[.int .i64 15, .bool true]) W) :
  Calls Tryz.prog 56 #[c.val (.slice ad1 c.ex.sub.length cap1) (.slice ad2 c.ds.length cap2) (.slice ad c.sub.length cap)] w fun e w' => e = .returned (.bool (nodeP true true true true false false false 0 c)) ∧ Below w.heap.size w w' := by
 have hmb : 0 < w.heap.size := World.block_lt_of_cell? w _ hm
 have hlk1 := hlk _ (below_a1 w (.cells #[.int .u8 c.k, .string c.fr, .string c.rc, .string c.nm, .int .u8 c.ex.k, .string c.ex.ra, .string c.ex.nm, .int .i64 c.ex.d, .slice ad1 c.ex.sub.length cap1, .int .i64 c.d, .slice ad2 c.ds.length cap2, .slice ad c.sub.length cap] 29))
 have hbq := c.bulk_eq
 have hl1 := Con.bulks_len c.sub
 have hk8 := hr.2.2.2.2
 have hB2 : c.ex.bulk ≤ 2000000 := by omega
 have hn1 : c.sub.length ≤ 2000000 := by omega
 have hn2 : c.ds.length ≤ 2000000 := by omega
 have hf1 : c.fr.size ≤ 2000000 := by omega
 have hf2 : c.rc.size ≤ 2000000 := by omega
 have hf3 : c.nm.size ≤ 2000000 := by omega
 have HE : Hid (∀ W, Below w.heap.size w W → RdE W c.ex.sub (.slice ad1 c.ex.sub.length cap1)) := Lib.hid fun W hb => hr.1.frame hb
 have HX : Hid (∀ W, Below w.heap.size w W → Calls Tryz.prog 114 #[.agg #[.int .u8 c.ex.k, .string c.ex.ra, .string c.ex.nm, .int .i64 c.ex.d, .slice ad1 c.ex.sub.length cap1]] W fun e w' => e = .returned (.bool (c.ex.isA 1)) ∧ Below W.heap.size W w') := Lib.hid fun W hb => onum_any c.ex _ W hB2 (HE.out W hb) hk8 (HLS.out.frame hb)
 have HD : Hid (∀ W, Below w.heap.size w W → Calls Tryz.prog 117 #[.slice ad2 c.ds.length cap2] W fun e w' => e = .returned (.bool (isDays c.ds)) ∧ W = w') := Lib.hid fun W hb => days_any c.ds _ W hn2 (hr.2.1.frame hb)
 have HY : Hid (∀ W, Calls Tryz.prog 116 #[.int .i64 c.d] W fun e w' => e = .returned (.bool (isDay c.d)) ∧ W = w') := Lib.hid fun W => cwithin_any c.d W
 clear hlk hbq hl1 hr
 have hh1 : (bits BinOp.and IntKind.i64 15 1 != 0) = true := by decide
 have hh2 : (bits BinOp.and IntKind.i64 15 2 != 0) = true := by decide
 have hh4 : (bits BinOp.and IntKind.i64 15 4 != 0) = true := by decide
 have hh8 : (bits BinOp.and IntKind.i64 15 8 != 0) = true := by decide
 have hh16 : (bits BinOp.and IntKind.i64 15 16 != 0) = false := by decide
 have hh32 : (bits BinOp.and IntKind.i64 15 32 != 0) = false := by decide
 have hh64 : (bits BinOp.and IntKind.i64 15 64 != 0) = false := by decide
 have hh128 : (bits BinOp.and IntKind.i64 15 128 != 0) = false := by decide
 have hh256 : (bits BinOp.and IntKind.i64 15 256 != 0) = false := by decide
 have HR : Hid (nodeP true true true true false false false 0 c = (wordB true c.fr && (wordB true c.rc && (wordB true c.nm && (!(true && (c.fr.toList == c.rc.toList)) && ((c.ex.isA 1) && ((decide (c.d = 0)) && ((decide (c.ds.length = 0)) && decide (c.sub.length = 0))))))))) := Lib.hid (by unfold nodeP; rw [toList_beq]; rfl)
 generalize nodeP true true true true false false false 0 c = R at *
 unfold Con.val
 go_enter Tryz.func56, Tryz.ntmps56
 go_wp2_with fail
 obtain ⟨W, hW, hbW, hzW, q1, q2, q3, q4, q5, q6, q7, q8, q9, q10, q11, q12, q13⟩ := node_world w c ad ad1 ad2 cap cap1 cap2 15
 rw [hW]
 clear hW hlk1
 have HW1 := Lib.hid (word_any 15 1 _ hh1 c.fr hf1 _ _ W q12 q13)
 have HW2 := Lib.hid (word_any 15 2 _ hh2 c.rc hf2 _ _ W q12 q13)
 have HW4 := Lib.hid (word_any 15 4 _ hh4 c.nm hf3 _ _ W q12 q13)
 have HH : Hid (∀ (part : Int) (r : Bool), (bits BinOp.and IntKind.i64 15 part != 0) = r → ∀ W', W'.cell? ⟨w.heap.size + 1, 0, none⟩ = some (.int .i64 15) → Calls Tryz.prog 112 #[.int .i64 part, .pointer (some ⟨w.heap.size + 1, 0, none⟩)] W' fun e w' => e = .returned (.bool r) ∧ W' = w') := Lib.hid fun part r h W' hc => has_any 15 part r h _ W' hc
 have HK := Lib.hid (node_keep hbW hzW q9 q10 q11 q12 q13)
 have hx0 : w.heap.size < W.heap.size := by omega
 have hx1 : w.heap.size + 1 < W.heap.size := by omega
 have hx2 : w.heap.size + 1 + 1 < W.heap.size := by omega
 clear hzW hm hmb
 generalize wordB true c.fr = B1 at *
 generalize wordB true c.rc = B2 at *
 generalize wordB true c.nm = B3 at *
 generalize c.ex.isA 1 = E at *
 generalize isDay c.d = DY at *
 generalize isDays c.ds = DS at *
 go_wp2_with (first
  | (go_at_call 113; (first | with_reducible refine HW1.out.mono ?_ | with_reducible refine HW2.out.mono ?_ | with_reducible refine HW4.out.mono ?_); rintro e w1 ⟨rfl, rfl⟩)
  | (go_at_call 112; refine (HH.out _ _ (by assumption) _ (by assumption)).mono ?_; rintro e w1 ⟨rfl, rfl⟩)
  | (go_at_call 114; refine (HX.out _ (by assumption)).mono ?_; rintro e W2 ⟨rfl, hb2⟩; obtain ⟨r9, r10, r11, r12, r13, hbW2⟩ := HK.out W2 hb2; clear hb2)
  | (go_at_call 116; refine (HY.out _).mono ?_; rintro e w1 ⟨rfl, rfl⟩)
  | (go_at_call 117; refine (HD.out _ (by assumption)).mono ?_; rintro e w1 ⟨rfl, rfl⟩))
 all_goals
  go_ret
  first
   | exact ⟨ret_bool' (by rw [HR.out]; simp [*, len_nil]), hbW2⟩
   | exact ⟨ret_bool' (by rw [HR.out]; simp [*]), hbW⟩
end Go.Proofs.YtknpnhodpgajbaaGreatDoor

namespace Go.Proofs.YtknpnhodpgajbaaGreatDoor
open Go.RowKit
set_option maxHeartbeats 4000000 in
set_option maxRecDepth 100000 in
theorem node_m256 (c : Con) (w : World) (bm : Nat) (ad ad1 ad2 : Option Addr) (cap cap1 cap2 : Nat) (hB : c.bulk ≤ 2000000) (hm : w.cell? ⟨0, 0, none⟩ = some (.map (some bm)))
  (hr : RdN w c (.slice ad1 c.ex.sub.length cap1) (.slice ad2 c.ds.length cap2) (.slice ad c.sub.length cap)) (_HLS : Hid (LookS w))
  (hlk : ∀ W, Below w.heap.size w W → (Instr.lookup 152 (.map (some bm)) (.int .u8 (c.k : Int)) true).run Tryz.prog W = .ok (.tuple #[.int .i64 256, .bool true]) W) :
  Calls Tryz.prog 56 #[c.val (.slice ad1 c.ex.sub.length cap1) (.slice ad2 c.ds.length cap2) (.slice ad c.sub.length cap)] w fun e w' => e = .returned (.bool (nodeP false false false false false false false 2 c)) ∧ Below w.heap.size w w' := by
 have hmb : 0 < w.heap.size := World.block_lt_of_cell? w _ hm
 have hlk1 := hlk _ (below_a1 w (.cells #[.int .u8 c.k, .string c.fr, .string c.rc, .string c.nm, .int .u8 c.ex.k, .string c.ex.ra, .string c.ex.nm, .int .i64 c.ex.d, .slice ad1 c.ex.sub.length cap1, .int .i64 c.d, .slice ad2 c.ds.length cap2, .slice ad c.sub.length cap] 29))
 have hbq := c.bulk_eq
 have hl1 := Con.bulks_len c.sub
 have hk8 := hr.2.2.2.2
 have hB2 : c.ex.bulk ≤ 2000000 := by omega
 have hn1 : c.sub.length ≤ 2000000 := by omega
 have hn2 : c.ds.length ≤ 2000000 := by omega
 have hf1 : c.fr.size ≤ 2000000 := by omega
 have hf2 : c.rc.size ≤ 2000000 := by omega
 have hf3 : c.nm.size ≤ 2000000 := by omega
 have HE : Hid (∀ W, Below w.heap.size w W → RdE W c.ex.sub (.slice ad1 c.ex.sub.length cap1)) := Lib.hid fun W hb => hr.1.frame hb
 have HX : Hid (∀ W, Below w.heap.size w W → Calls Tryz.prog 107 #[.agg #[.int .u8 c.ex.k, .string c.ex.ra, .string c.ex.nm, .int .i64 c.ex.d, .slice ad1 c.ex.sub.length cap1]] W fun e w' => e = .returned (.bool (c.ex.bare)) ∧ Below W.heap.size W w') := Lib.hid fun W hb => bare_any c.ex _ W (HE.out W hb)
 have HD : Hid (∀ W, Below w.heap.size w W → Calls Tryz.prog 117 #[.slice ad2 c.ds.length cap2] W fun e w' => e = .returned (.bool (isDays c.ds)) ∧ W = w') := Lib.hid fun W hb => days_any c.ds _ W hn2 (hr.2.1.frame hb)
 have HY : Hid (∀ W, Calls Tryz.prog 116 #[.int .i64 c.d] W fun e w' => e = .returned (.bool (isDay c.d)) ∧ W = w') := Lib.hid fun W => cwithin_any c.d W
 clear hlk hbq hl1 hr
 have hh1 : (bits BinOp.and IntKind.i64 256 1 != 0) = false := by decide
 have hh2 : (bits BinOp.and IntKind.i64 256 2 != 0) = false := by decide
 have hh4 : (bits BinOp.and IntKind.i64 256 4 != 0) = false := by decide
 have hh8 : (bits BinOp.and IntKind.i64 256 8 != 0) = false := by decide
 have hh16 : (bits BinOp.and IntKind.i64 256 16 != 0) = false := by decide
 have hh32 : (bits BinOp.and IntKind.i64 256 32 != 0) = false := by decide
 have hh64 : (bits BinOp.and IntKind.i64 256 64 != 0) = false := by decide
 have hh128 : (bits BinOp.and IntKind.i64 256 128 != 0) = false := by decide
 have hh256 : (bits BinOp.and IntKind.i64 256 256 != 0) = true := by decide
 have HR : Hid (nodeP false false false false false false false 2 c = (wordB false c.fr && (wordB false c.rc && (wordB false c.nm && (!(false && (c.fr.toList == c.rc.toList)) && ((c.ex.bare) && ((decide (c.d = 0)) && ((decide (c.ds.length = 0)) && decide (c.sub.length = 2))))))))) := Lib.hid (by unfold nodeP; rw [toList_beq]; rfl)
 generalize nodeP false false false false false false false 2 c = R at *
 unfold Con.val
 go_enter Tryz.func56, Tryz.ntmps56
 go_wp2_with fail
 obtain ⟨W, hW, hbW, hzW, q1, q2, q3, q4, q5, q6, q7, q8, q9, q10, q11, q12, q13⟩ := node_world w c ad ad1 ad2 cap cap1 cap2 256
 rw [hW]
 clear hW hlk1
 have HW1 := Lib.hid (word_any 256 1 _ hh1 c.fr hf1 _ _ W q12 q13)
 have HW2 := Lib.hid (word_any 256 2 _ hh2 c.rc hf2 _ _ W q12 q13)
 have HW4 := Lib.hid (word_any 256 4 _ hh4 c.nm hf3 _ _ W q12 q13)
 have HH : Hid (∀ (part : Int) (r : Bool), (bits BinOp.and IntKind.i64 256 part != 0) = r → ∀ W', W'.cell? ⟨w.heap.size + 1, 0, none⟩ = some (.int .i64 256) → Calls Tryz.prog 112 #[.int .i64 part, .pointer (some ⟨w.heap.size + 1, 0, none⟩)] W' fun e w' => e = .returned (.bool r) ∧ W' = w') := Lib.hid fun part r h W' hc => has_any 256 part r h _ W' hc
 have HK := Lib.hid (node_keep hbW hzW q9 q10 q11 q12 q13)
 have hx0 : w.heap.size < W.heap.size := by omega
 have hx1 : w.heap.size + 1 < W.heap.size := by omega
 have hx2 : w.heap.size + 1 + 1 < W.heap.size := by omega
 clear hzW hm hmb
 generalize wordB false c.fr = B1 at *
 generalize wordB false c.rc = B2 at *
 generalize wordB false c.nm = B3 at *
 generalize c.ex.bare = E at *
 generalize isDay c.d = DY at *
 generalize isDays c.ds = DS at *
 go_wp2_with (first
  | (go_at_call 113; (first | with_reducible refine HW1.out.mono ?_ | with_reducible refine HW2.out.mono ?_ | with_reducible refine HW4.out.mono ?_); rintro e w1 ⟨rfl, rfl⟩)
  | (go_at_call 112; refine (HH.out _ _ (by assumption) _ (by assumption)).mono ?_; rintro e w1 ⟨rfl, rfl⟩)
  | (go_at_call 107; refine (HX.out _ (by assumption)).mono ?_; rintro e W2 ⟨rfl, hb2⟩; obtain ⟨r9, r10, r11, r12, r13, hbW2⟩ := HK.out W2 hb2; clear hb2)
  | (go_at_call 116; refine (HY.out _).mono ?_; rintro e w1 ⟨rfl, rfl⟩)
  | (go_at_call 117; refine (HD.out _ (by assumption)).mono ?_; rintro e w1 ⟨rfl, rfl⟩))
 all_goals
  go_ret
  first
   | exact ⟨ret_bool' (by rw [HR.out]; simp [*, len_two]), hbW2⟩
   | exact ⟨ret_bool' (by rw [HR.out]; simp [*]), hbW⟩
end Go.Proofs.YtknpnhodpgajbaaGreatDoor

namespace Go.Proofs.YtknpnhodpgajbaaGreatDoor
open Go.RowKit
set_option maxHeartbeats 4000000 in
set_option maxRecDepth 100000 in
theorem node_m136 (c : Con) (w : World) (bm : Nat) (ad ad1 ad2 : Option Addr) (cap cap1 cap2 : Nat) (hB : c.bulk ≤ 2000000) (hm : w.cell? ⟨0, 0, none⟩ = some (.map (some bm)))
  (hr : RdN w c (.slice ad1 c.ex.sub.length cap1) (.slice ad2 c.ds.length cap2) (.slice ad c.sub.length cap)) (HLS : Hid (LookS w))
  (hlk : ∀ W, Below w.heap.size w W → (Instr.lookup 152 (.map (some bm)) (.int .u8 (c.k : Int)) true).run Tryz.prog W = .ok (.tuple #[.int .i64 136, .bool true]) W) :
  Calls Tryz.prog 56 #[c.val (.slice ad1 c.ex.sub.length cap1) (.slice ad2 c.ds.length cap2) (.slice ad c.sub.length cap)] w fun e w' => e = .returned (.bool (nodeP false false false true false false false 1 c)) ∧ Below w.heap.size w w' := by
 have hmb : 0 < w.heap.size := World.block_lt_of_cell? w _ hm
 have hlk1 := hlk _ (below_a1 w (.cells #[.int .u8 c.k, .string c.fr, .string c.rc, .string c.nm, .int .u8 c.ex.k, .string c.ex.ra, .string c.ex.nm, .int .i64 c.ex.d, .slice ad1 c.ex.sub.length cap1, .int .i64 c.d, .slice ad2 c.ds.length cap2, .slice ad c.sub.length cap] 29))
 have hbq := c.bulk_eq
 have hl1 := Con.bulks_len c.sub
 have hk8 := hr.2.2.2.2
 have hB2 : c.ex.bulk ≤ 2000000 := by omega
 have hn1 : c.sub.length ≤ 2000000 := by omega
 have hn2 : c.ds.length ≤ 2000000 := by omega
 have hf1 : c.fr.size ≤ 2000000 := by omega
 have hf2 : c.rc.size ≤ 2000000 := by omega
 have hf3 : c.nm.size ≤ 2000000 := by omega
 have HE : Hid (∀ W, Below w.heap.size w W → RdE W c.ex.sub (.slice ad1 c.ex.sub.length cap1)) := Lib.hid fun W hb => hr.1.frame hb
 have HX : Hid (∀ W, Below w.heap.size w W → Calls Tryz.prog 114 #[.agg #[.int .u8 c.ex.k, .string c.ex.ra, .string c.ex.nm, .int .i64 c.ex.d, .slice ad1 c.ex.sub.length cap1]] W fun e w' => e = .returned (.bool (c.ex.isA 1)) ∧ Below W.heap.size W w') := Lib.hid fun W hb => onum_any c.ex _ W hB2 (HE.out W hb) hk8 (HLS.out.frame hb)
 have HD : Hid (∀ W, Below w.heap.size w W → Calls Tryz.prog 117 #[.slice ad2 c.ds.length cap2] W fun e w' => e = .returned (.bool (isDays c.ds)) ∧ W = w') := Lib.hid fun W hb => days_any c.ds _ W hn2 (hr.2.1.frame hb)
 have HY : Hid (∀ W, Calls Tryz.prog 116 #[.int .i64 c.d] W fun e w' => e = .returned (.bool (isDay c.d)) ∧ W = w') := Lib.hid fun W => cwithin_any c.d W
 clear hlk hbq hl1 hr
 have hh1 : (bits BinOp.and IntKind.i64 136 1 != 0) = false := by decide
 have hh2 : (bits BinOp.and IntKind.i64 136 2 != 0) = false := by decide
 have hh4 : (bits BinOp.and IntKind.i64 136 4 != 0) = false := by decide
 have hh8 : (bits BinOp.and IntKind.i64 136 8 != 0) = true := by decide
 have hh16 : (bits BinOp.and IntKind.i64 136 16 != 0) = false := by decide
 have hh32 : (bits BinOp.and IntKind.i64 136 32 != 0) = false := by decide
 have hh64 : (bits BinOp.and IntKind.i64 136 64 != 0) = false := by decide
 have hh128 : (bits BinOp.and IntKind.i64 136 128 != 0) = true := by decide
 have hh256 : (bits BinOp.and IntKind.i64 136 256 != 0) = false := by decide
 have HR : Hid (nodeP false false false true false false false 1 c = (wordB false c.fr && (wordB false c.rc && (wordB false c.nm && (!(false && (c.fr.toList == c.rc.toList)) && ((c.ex.isA 1) && ((decide (c.d = 0)) && ((decide (c.ds.length = 0)) && decide (c.sub.length = 1))))))))) := Lib.hid (by unfold nodeP; rw [toList_beq]; rfl)
 generalize nodeP false false false true false false false 1 c = R at *
 unfold Con.val
 go_enter Tryz.func56, Tryz.ntmps56
 go_wp2_with fail
 obtain ⟨W, hW, hbW, hzW, q1, q2, q3, q4, q5, q6, q7, q8, q9, q10, q11, q12, q13⟩ := node_world w c ad ad1 ad2 cap cap1 cap2 136
 rw [hW]
 clear hW hlk1
 have HW1 := Lib.hid (word_any 136 1 _ hh1 c.fr hf1 _ _ W q12 q13)
 have HW2 := Lib.hid (word_any 136 2 _ hh2 c.rc hf2 _ _ W q12 q13)
 have HW4 := Lib.hid (word_any 136 4 _ hh4 c.nm hf3 _ _ W q12 q13)
 have HH : Hid (∀ (part : Int) (r : Bool), (bits BinOp.and IntKind.i64 136 part != 0) = r → ∀ W', W'.cell? ⟨w.heap.size + 1, 0, none⟩ = some (.int .i64 136) → Calls Tryz.prog 112 #[.int .i64 part, .pointer (some ⟨w.heap.size + 1, 0, none⟩)] W' fun e w' => e = .returned (.bool r) ∧ W' = w') := Lib.hid fun part r h W' hc => has_any 136 part r h _ W' hc
 have HK := Lib.hid (node_keep hbW hzW q9 q10 q11 q12 q13)
 have hx0 : w.heap.size < W.heap.size := by omega
 have hx1 : w.heap.size + 1 < W.heap.size := by omega
 have hx2 : w.heap.size + 1 + 1 < W.heap.size := by omega
 clear hzW hm hmb
 generalize wordB false c.fr = B1 at *
 generalize wordB false c.rc = B2 at *
 generalize wordB false c.nm = B3 at *
 generalize c.ex.isA 1 = E at *
 generalize isDay c.d = DY at *
 generalize isDays c.ds = DS at *
 go_wp2_with (first
  | (go_at_call 113; (first | with_reducible refine HW1.out.mono ?_ | with_reducible refine HW2.out.mono ?_ | with_reducible refine HW4.out.mono ?_); rintro e w1 ⟨rfl, rfl⟩)
  | (go_at_call 112; refine (HH.out _ _ (by assumption) _ (by assumption)).mono ?_; rintro e w1 ⟨rfl, rfl⟩)
  | (go_at_call 114; refine (HX.out _ (by assumption)).mono ?_; rintro e W2 ⟨rfl, hb2⟩; obtain ⟨r9, r10, r11, r12, r13, hbW2⟩ := HK.out W2 hb2; clear hb2)
  | (go_at_call 116; refine (HY.out _).mono ?_; rintro e w1 ⟨rfl, rfl⟩)
  | (go_at_call 117; refine (HD.out _ (by assumption)).mono ?_; rintro e w1 ⟨rfl, rfl⟩))
 all_goals
  go_ret
  first
   | exact ⟨ret_bool' (by rw [HR.out]; simp [*, len_one]), hbW2⟩
   | exact ⟨ret_bool' (by rw [HR.out]; simp [*]), hbW⟩
end Go.Proofs.YtknpnhodpgajbaaGreatDoor

namespace Go.Proofs.YtknpnhodpgajbaaGreatDoor
open Go.RowKit
set_option maxHeartbeats 4000000 in
set_option maxRecDepth 100000 in
theorem node_m272 (c : Con) (w : World) (bm : Nat) (ad ad1 ad2 : Option Addr) (cap cap1 cap2 : Nat) (hB : c.bulk ≤ 2000000) (hm : w.cell? ⟨0, 0, none⟩ = some (.map (some bm)))
  (hr : RdN w c (.slice ad1 c.ex.sub.length cap1) (.slice ad2 c.ds.length cap2) (.slice ad c.sub.length cap)) (HLS : Hid (LookS w))
  (hlk : ∀ W, Below w.heap.size w W → (Instr.lookup 152 (.map (some bm)) (.int .u8 (c.k : Int)) true).run Tryz.prog W = .ok (.tuple #[.int .i64 272, .bool true]) W) :
  Calls Tryz.prog 56 #[c.val (.slice ad1 c.ex.sub.length cap1) (.slice ad2 c.ds.length cap2) (.slice ad c.sub.length cap)] w fun e w' => e = .returned (.bool (nodeP false false false false true false false 2 c)) ∧ Below w.heap.size w w' := by
 have hmb : 0 < w.heap.size := World.block_lt_of_cell? w _ hm
 have hlk1 := hlk _ (below_a1 w (.cells #[.int .u8 c.k, .string c.fr, .string c.rc, .string c.nm, .int .u8 c.ex.k, .string c.ex.ra, .string c.ex.nm, .int .i64 c.ex.d, .slice ad1 c.ex.sub.length cap1, .int .i64 c.d, .slice ad2 c.ds.length cap2, .slice ad c.sub.length cap] 29))
 have hbq := c.bulk_eq
 have hl1 := Con.bulks_len c.sub
 have hk8 := hr.2.2.2.2
 have hB2 : c.ex.bulk ≤ 2000000 := by omega
 have hn1 : c.sub.length ≤ 2000000 := by omega
 have hn2 : c.ds.length ≤ 2000000 := by omega
 have hf1 : c.fr.size ≤ 2000000 := by omega
 have hf2 : c.rc.size ≤ 2000000 := by omega
 have hf3 : c.nm.size ≤ 2000000 := by omega
 have HE : Hid (∀ W, Below w.heap.size w W → RdE W c.ex.sub (.slice ad1 c.ex.sub.length cap1)) := Lib.hid fun W hb => hr.1.frame hb
 have HX : Hid (∀ W, Below w.heap.size w W → Calls Tryz.prog 115 #[.agg #[.int .u8 c.ex.k, .string c.ex.ra, .string c.ex.nm, .int .i64 c.ex.d, .slice ad1 c.ex.sub.length cap1]] W fun e w' => e = .returned (.bool (c.ex.isA 2)) ∧ Below W.heap.size W w') := Lib.hid fun W hb => otruth_any c.ex _ W hB2 (HE.out W hb) hk8 (HLS.out.frame hb)
 have HD : Hid (∀ W, Below w.heap.size w W → Calls Tryz.prog 117 #[.slice ad2 c.ds.length cap2] W fun e w' => e = .returned (.bool (isDays c.ds)) ∧ W = w') := Lib.hid fun W hb => days_any c.ds _ W hn2 (hr.2.1.frame hb)
 have HY : Hid (∀ W, Calls Tryz.prog 116 #[.int .i64 c.d] W fun e w' => e = .returned (.bool (isDay c.d)) ∧ W = w') := Lib.hid fun W => cwithin_any c.d W
 clear hlk hbq hl1 hr
 have hh1 : (bits BinOp.and IntKind.i64 272 1 != 0) = false := by decide
 have hh2 : (bits BinOp.and IntKind.i64 272 2 != 0) = false := by decide
 have hh4 : (bits BinOp.and IntKind.i64 272 4 != 0) = false := by decide
 have hh8 : (bits BinOp.and IntKind.i64 272 8 != 0) = false := by decide
 have hh16 : (bits BinOp.and IntKind.i64 272 16 != 0) = true := by decide
 have hh32 : (bits BinOp.and IntKind.i64 272 32 != 0) = false := by decide
 have hh64 : (bits BinOp.and IntKind.i64 272 64 != 0) = false := by decide
 have hh128 : (bits BinOp.and IntKind.i64 272 128 != 0) = false := by decide
 have hh256 : (bits BinOp.and IntKind.i64 272 256 != 0) = true := by decide
 have HR : Hid (nodeP false false false false true false false 2 c = (wordB false c.fr && (wordB false c.rc && (wordB false c.nm && (!(false && (c.fr.toList == c.rc.toList)) && ((c.ex.isA 2) && ((decide (c.d = 0)) && ((decide (c.ds.length = 0)) && decide (c.sub.length = 2))))))))) := Lib.hid (by unfold nodeP; rw [toList_beq]; rfl)
 generalize nodeP false false false false true false false 2 c = R at *
 unfold Con.val
 go_enter Tryz.func56, Tryz.ntmps56
 go_wp2_with fail
 obtain ⟨W, hW, hbW, hzW, q1, q2, q3, q4, q5, q6, q7, q8, q9, q10, q11, q12, q13⟩ := node_world w c ad ad1 ad2 cap cap1 cap2 272
 rw [hW]
 clear hW hlk1
 have HW1 := Lib.hid (word_any 272 1 _ hh1 c.fr hf1 _ _ W q12 q13)
 have HW2 := Lib.hid (word_any 272 2 _ hh2 c.rc hf2 _ _ W q12 q13)
 have HW4 := Lib.hid (word_any 272 4 _ hh4 c.nm hf3 _ _ W q12 q13)
 have HH : Hid (∀ (part : Int) (r : Bool), (bits BinOp.and IntKind.i64 272 part != 0) = r → ∀ W', W'.cell? ⟨w.heap.size + 1, 0, none⟩ = some (.int .i64 272) → Calls Tryz.prog 112 #[.int .i64 part, .pointer (some ⟨w.heap.size + 1, 0, none⟩)] W' fun e w' => e = .returned (.bool r) ∧ W' = w') := Lib.hid fun part r h W' hc => has_any 272 part r h _ W' hc
 have HK := Lib.hid (node_keep hbW hzW q9 q10 q11 q12 q13)
 have hx0 : w.heap.size < W.heap.size := by omega
 have hx1 : w.heap.size + 1 < W.heap.size := by omega
 have hx2 : w.heap.size + 1 + 1 < W.heap.size := by omega
 clear hzW hm hmb
 generalize wordB false c.fr = B1 at *
 generalize wordB false c.rc = B2 at *
 generalize wordB false c.nm = B3 at *
 generalize c.ex.isA 2 = E at *
 generalize isDay c.d = DY at *
 generalize isDays c.ds = DS at *
 go_wp2_with (first
  | (go_at_call 113; (first | with_reducible refine HW1.out.mono ?_ | with_reducible refine HW2.out.mono ?_ | with_reducible refine HW4.out.mono ?_); rintro e w1 ⟨rfl, rfl⟩)
  | (go_at_call 112; refine (HH.out _ _ (by assumption) _ (by assumption)).mono ?_; rintro e w1 ⟨rfl, rfl⟩)
  | (go_at_call 115; refine (HX.out _ (by assumption)).mono ?_; rintro e W2 ⟨rfl, hb2⟩; obtain ⟨r9, r10, r11, r12, r13, hbW2⟩ := HK.out W2 hb2; clear hb2)
  | (go_at_call 116; refine (HY.out _).mono ?_; rintro e w1 ⟨rfl, rfl⟩)
  | (go_at_call 117; refine (HD.out _ (by assumption)).mono ?_; rintro e w1 ⟨rfl, rfl⟩))
 all_goals
  go_ret
  first
   | exact ⟨ret_bool' (by rw [HR.out]; simp [*, len_two]), hbW2⟩
   | exact ⟨ret_bool' (by rw [HR.out]; simp [*]), hbW⟩
end Go.Proofs.YtknpnhodpgajbaaGreatDoor

namespace Go.Proofs.YtknpnhodpgajbaaGreatDoor
open Go.RowKit
set_option maxHeartbeats 4000000 in
set_option maxRecDepth 100000 in
theorem node_m160 (c : Con) (w : World) (bm : Nat) (ad ad1 ad2 : Option Addr) (cap cap1 cap2 : Nat) (hB : c.bulk ≤ 2000000) (hm : w.cell? ⟨0, 0, none⟩ = some (.map (some bm)))
  (hr : RdN w c (.slice ad1 c.ex.sub.length cap1) (.slice ad2 c.ds.length cap2) (.slice ad c.sub.length cap)) (_HLS : Hid (LookS w))
  (hlk : ∀ W, Below w.heap.size w W → (Instr.lookup 152 (.map (some bm)) (.int .u8 (c.k : Int)) true).run Tryz.prog W = .ok (.tuple #[.int .i64 160, .bool true]) W) :
  Calls Tryz.prog 56 #[c.val (.slice ad1 c.ex.sub.length cap1) (.slice ad2 c.ds.length cap2) (.slice ad c.sub.length cap)] w fun e w' => e = .returned (.bool (nodeP false false false false false true false 1 c)) ∧ Below w.heap.size w w' := by
 have hmb : 0 < w.heap.size := World.block_lt_of_cell? w _ hm
 have hlk1 := hlk _ (below_a1 w (.cells #[.int .u8 c.k, .string c.fr, .string c.rc, .string c.nm, .int .u8 c.ex.k, .string c.ex.ra, .string c.ex.nm, .int .i64 c.ex.d, .slice ad1 c.ex.sub.length cap1, .int .i64 c.d, .slice ad2 c.ds.length cap2, .slice ad c.sub.length cap] 29))
 have hbq := c.bulk_eq
 have hl1 := Con.bulks_len c.sub
 have hk8 := hr.2.2.2.2
 have hB2 : c.ex.bulk ≤ 2000000 := by omega
 have hn1 : c.sub.length ≤ 2000000 := by omega
 have hn2 : c.ds.length ≤ 2000000 := by omega
 have hf1 : c.fr.size ≤ 2000000 := by omega
 have hf2 : c.rc.size ≤ 2000000 := by omega
 have hf3 : c.nm.size ≤ 2000000 := by omega
 have HE : Hid (∀ W, Below w.heap.size w W → RdE W c.ex.sub (.slice ad1 c.ex.sub.length cap1)) := Lib.hid fun W hb => hr.1.frame hb
 have HX : Hid (∀ W, Below w.heap.size w W → Calls Tryz.prog 107 #[.agg #[.int .u8 c.ex.k, .string c.ex.ra, .string c.ex.nm, .int .i64 c.ex.d, .slice ad1 c.ex.sub.length cap1]] W fun e w' => e = .returned (.bool (c.ex.bare)) ∧ Below W.heap.size W w') := Lib.hid fun W hb => bare_any c.ex _ W (HE.out W hb)
 have HD : Hid (∀ W, Below w.heap.size w W → Calls Tryz.prog 117 #[.slice ad2 c.ds.length cap2] W fun e w' => e = .returned (.bool (isDays c.ds)) ∧ W = w') := Lib.hid fun W hb => days_any c.ds _ W hn2 (hr.2.1.frame hb)
 have HY : Hid (∀ W, Calls Tryz.prog 116 #[.int .i64 c.d] W fun e w' => e = .returned (.bool (isDay c.d)) ∧ W = w') := Lib.hid fun W => cwithin_any c.d W
 clear hlk hbq hl1 hr
 have hh1 : (bits BinOp.and IntKind.i64 160 1 != 0) = false := by decide
 have hh2 : (bits BinOp.and IntKind.i64 160 2 != 0) = false := by decide
 have hh4 : (bits BinOp.and IntKind.i64 160 4 != 0) = false := by decide
 have hh8 : (bits BinOp.and IntKind.i64 160 8 != 0) = false := by decide
 have hh16 : (bits BinOp.and IntKind.i64 160 16 != 0) = false := by decide
 have hh32 : (bits BinOp.and IntKind.i64 160 32 != 0) = true := by decide
 have hh64 : (bits BinOp.and IntKind.i64 160 64 != 0) = false := by decide
 have hh128 : (bits BinOp.and IntKind.i64 160 128 != 0) = true := by decide
 have hh256 : (bits BinOp.and IntKind.i64 160 256 != 0) = false := by decide
 have HR : Hid (nodeP false false false false false true false 1 c = (wordB false c.fr && (wordB false c.rc && (wordB false c.nm && (!(false && (c.fr.toList == c.rc.toList)) && ((c.ex.bare) && ((isDay c.d) && ((decide (c.ds.length = 0)) && decide (c.sub.length = 1))))))))) := Lib.hid (by unfold nodeP; rw [toList_beq]; rfl)
 generalize nodeP false false false false false true false 1 c = R at *
 unfold Con.val
 go_enter Tryz.func56, Tryz.ntmps56
 go_wp2_with fail
 obtain ⟨W, hW, hbW, hzW, q1, q2, q3, q4, q5, q6, q7, q8, q9, q10, q11, q12, q13⟩ := node_world w c ad ad1 ad2 cap cap1 cap2 160
 rw [hW]
 clear hW hlk1
 have HW1 := Lib.hid (word_any 160 1 _ hh1 c.fr hf1 _ _ W q12 q13)
 have HW2 := Lib.hid (word_any 160 2 _ hh2 c.rc hf2 _ _ W q12 q13)
 have HW4 := Lib.hid (word_any 160 4 _ hh4 c.nm hf3 _ _ W q12 q13)
 have HH : Hid (∀ (part : Int) (r : Bool), (bits BinOp.and IntKind.i64 160 part != 0) = r → ∀ W', W'.cell? ⟨w.heap.size + 1, 0, none⟩ = some (.int .i64 160) → Calls Tryz.prog 112 #[.int .i64 part, .pointer (some ⟨w.heap.size + 1, 0, none⟩)] W' fun e w' => e = .returned (.bool r) ∧ W' = w') := Lib.hid fun part r h W' hc => has_any 160 part r h _ W' hc
 have HK := Lib.hid (node_keep hbW hzW q9 q10 q11 q12 q13)
 have hx0 : w.heap.size < W.heap.size := by omega
 have hx1 : w.heap.size + 1 < W.heap.size := by omega
 have hx2 : w.heap.size + 1 + 1 < W.heap.size := by omega
 clear hzW hm hmb
 generalize wordB false c.fr = B1 at *
 generalize wordB false c.rc = B2 at *
 generalize wordB false c.nm = B3 at *
 generalize c.ex.bare = E at *
 generalize isDay c.d = DY at *
 generalize isDays c.ds = DS at *
 go_wp2_with (first
  | (go_at_call 113; (first | with_reducible refine HW1.out.mono ?_ | with_reducible refine HW2.out.mono ?_ | with_reducible refine HW4.out.mono ?_); rintro e w1 ⟨rfl, rfl⟩)
  | (go_at_call 112; refine (HH.out _ _ (by assumption) _ (by assumption)).mono ?_; rintro e w1 ⟨rfl, rfl⟩)
  | (go_at_call 107; refine (HX.out _ (by assumption)).mono ?_; rintro e W2 ⟨rfl, hb2⟩; obtain ⟨r9, r10, r11, r12, r13, hbW2⟩ := HK.out W2 hb2; clear hb2)
  | (go_at_call 116; refine (HY.out _).mono ?_; rintro e w1 ⟨rfl, rfl⟩)
  | (go_at_call 117; refine (HD.out _ (by assumption)).mono ?_; rintro e w1 ⟨rfl, rfl⟩))
 all_goals
  go_ret
  first
   | exact ⟨ret_bool' (by rw [HR.out]; simp [*, len_one]), hbW2⟩
   | exact ⟨ret_bool' (by rw [HR.out]; simp [*]), hbW⟩
end Go.Proofs.YtknpnhodpgajbaaGreatDoor

namespace Go.Proofs.YtknpnhodpgajbaaGreatDoor
open Go.RowKit
set_option maxHeartbeats 4000000 in
set_option maxRecDepth 100000 in
theorem node_m261 (c : Con) (w : World) (bm : Nat) (ad ad1 ad2 : Option Addr) (cap cap1 cap2 : Nat) (hB : c.bulk ≤ 2000000) (hm : w.cell? ⟨0, 0, none⟩ = some (.map (some bm)))
  (hr : RdN w c (.slice ad1 c.ex.sub.length cap1) (.slice ad2 c.ds.length cap2) (.slice ad c.sub.length cap)) (_HLS : Hid (LookS w))
  (hlk : ∀ W, Below w.heap.size w W → (Instr.lookup 152 (.map (some bm)) (.int .u8 (c.k : Int)) true).run Tryz.prog W = .ok (.tuple #[.int .i64 261, .bool true]) W) :
  Calls Tryz.prog 56 #[c.val (.slice ad1 c.ex.sub.length cap1) (.slice ad2 c.ds.length cap2) (.slice ad c.sub.length cap)] w fun e w' => e = .returned (.bool (nodeP true false true false false false false 2 c)) ∧ Below w.heap.size w w' := by
 have hmb : 0 < w.heap.size := World.block_lt_of_cell? w _ hm
 have hlk1 := hlk _ (below_a1 w (.cells #[.int .u8 c.k, .string c.fr, .string c.rc, .string c.nm, .int .u8 c.ex.k, .string c.ex.ra, .string c.ex.nm, .int .i64 c.ex.d, .slice ad1 c.ex.sub.length cap1, .int .i64 c.d, .slice ad2 c.ds.length cap2, .slice ad c.sub.length cap] 29))
 have hbq := c.bulk_eq
 have hl1 := Con.bulks_len c.sub
 have hk8 := hr.2.2.2.2
 have hB2 : c.ex.bulk ≤ 2000000 := by omega
 have hn1 : c.sub.length ≤ 2000000 := by omega
 have hn2 : c.ds.length ≤ 2000000 := by omega
 have hf1 : c.fr.size ≤ 2000000 := by omega
 have hf2 : c.rc.size ≤ 2000000 := by omega
 have hf3 : c.nm.size ≤ 2000000 := by omega
 have HE : Hid (∀ W, Below w.heap.size w W → RdE W c.ex.sub (.slice ad1 c.ex.sub.length cap1)) := Lib.hid fun W hb => hr.1.frame hb
 have HX : Hid (∀ W, Below w.heap.size w W → Calls Tryz.prog 107 #[.agg #[.int .u8 c.ex.k, .string c.ex.ra, .string c.ex.nm, .int .i64 c.ex.d, .slice ad1 c.ex.sub.length cap1]] W fun e w' => e = .returned (.bool (c.ex.bare)) ∧ Below W.heap.size W w') := Lib.hid fun W hb => bare_any c.ex _ W (HE.out W hb)
 have HD : Hid (∀ W, Below w.heap.size w W → Calls Tryz.prog 117 #[.slice ad2 c.ds.length cap2] W fun e w' => e = .returned (.bool (isDays c.ds)) ∧ W = w') := Lib.hid fun W hb => days_any c.ds _ W hn2 (hr.2.1.frame hb)
 have HY : Hid (∀ W, Calls Tryz.prog 116 #[.int .i64 c.d] W fun e w' => e = .returned (.bool (isDay c.d)) ∧ W = w') := Lib.hid fun W => cwithin_any c.d W
 clear hlk hbq hl1 hr
 have hh1 : (bits BinOp.and IntKind.i64 261 1 != 0) = true := by decide
 have hh2 : (bits BinOp.and IntKind.i64 261 2 != 0) = false := by decide
 have hh4 : (bits BinOp.and IntKind.i64 261 4 != 0) = true := by decide
 have hh8 : (bits BinOp.and IntKind.i64 261 8 != 0) = false := by decide
 have hh16 : (bits BinOp.and IntKind.i64 261 16 != 0) = false := by decide
 have hh32 : (bits BinOp.and IntKind.i64 261 32 != 0) = false := by decide
 have hh64 : (bits BinOp.and IntKind.i64 261 64 != 0) = false := by decide
 have hh128 : (bits BinOp.and IntKind.i64 261 128 != 0) = false := by decide
 have hh256 : (bits BinOp.and IntKind.i64 261 256 != 0) = true := by decide
 have HR : Hid (nodeP true false true false false false false 2 c = (wordB true c.fr && (wordB false c.rc && (wordB true c.nm && (!(false && (c.fr.toList == c.rc.toList)) && ((c.ex.bare) && ((decide (c.d = 0)) && ((decide (c.ds.length = 0)) && decide (c.sub.length = 2))))))))) := Lib.hid (by unfold nodeP; rw [toList_beq]; rfl)
 generalize nodeP true false true false false false false 2 c = R at *
 unfold Con.val
 go_enter Tryz.func56, Tryz.ntmps56
 go_wp2_with fail
 obtain ⟨W, hW, hbW, hzW, q1, q2, q3, q4, q5, q6, q7, q8, q9, q10, q11, q12, q13⟩ := node_world w c ad ad1 ad2 cap cap1 cap2 261
 rw [hW]
 clear hW hlk1
 have HW1 := Lib.hid (word_any 261 1 _ hh1 c.fr hf1 _ _ W q12 q13)
 have HW2 := Lib.hid (word_any 261 2 _ hh2 c.rc hf2 _ _ W q12 q13)
 have HW4 := Lib.hid (word_any 261 4 _ hh4 c.nm hf3 _ _ W q12 q13)
 have HH : Hid (∀ (part : Int) (r : Bool), (bits BinOp.and IntKind.i64 261 part != 0) = r → ∀ W', W'.cell? ⟨w.heap.size + 1, 0, none⟩ = some (.int .i64 261) → Calls Tryz.prog 112 #[.int .i64 part, .pointer (some ⟨w.heap.size + 1, 0, none⟩)] W' fun e w' => e = .returned (.bool r) ∧ W' = w') := Lib.hid fun part r h W' hc => has_any 261 part r h _ W' hc
 have HK := Lib.hid (node_keep hbW hzW q9 q10 q11 q12 q13)
 have hx0 : w.heap.size < W.heap.size := by omega
 have hx1 : w.heap.size + 1 < W.heap.size := by omega
 have hx2 : w.heap.size + 1 + 1 < W.heap.size := by omega
 clear hzW hm hmb
 generalize wordB true c.fr = B1 at *
 generalize wordB false c.rc = B2 at *
 generalize wordB true c.nm = B3 at *
 generalize c.ex.bare = E at *
 generalize isDay c.d = DY at *
 generalize isDays c.ds = DS at *
 go_wp2_with (first
  | (go_at_call 113; (first | with_reducible refine HW1.out.mono ?_ | with_reducible refine HW2.out.mono ?_ | with_reducible refine HW4.out.mono ?_); rintro e w1 ⟨rfl, rfl⟩)
  | (go_at_call 112; refine (HH.out _ _ (by assumption) _ (by assumption)).mono ?_; rintro e w1 ⟨rfl, rfl⟩)
  | (go_at_call 107; refine (HX.out _ (by assumption)).mono ?_; rintro e W2 ⟨rfl, hb2⟩; obtain ⟨r9, r10, r11, r12, r13, hbW2⟩ := HK.out W2 hb2; clear hb2)
  | (go_at_call 116; refine (HY.out _).mono ?_; rintro e w1 ⟨rfl, rfl⟩)
  | (go_at_call 117; refine (HD.out _ (by assumption)).mono ?_; rintro e w1 ⟨rfl, rfl⟩))
 all_goals
  go_ret
  first
   | exact ⟨ret_bool' (by rw [HR.out]; simp [*, len_two]), hbW2⟩
   | exact ⟨ret_bool' (by rw [HR.out]; simp [*]), hbW⟩
end Go.Proofs.YtknpnhodpgajbaaGreatDoor

namespace Go.Proofs.YtknpnhodpgajbaaGreatDoor
open Go.RowKit
set_option maxHeartbeats 4000000 in
set_option maxRecDepth 100000 in
theorem node_m197 (c : Con) (w : World) (bm : Nat) (ad ad1 ad2 : Option Addr) (cap cap1 cap2 : Nat) (hB : c.bulk ≤ 2000000) (hm : w.cell? ⟨0, 0, none⟩ = some (.map (some bm)))
  (hr : RdN w c (.slice ad1 c.ex.sub.length cap1) (.slice ad2 c.ds.length cap2) (.slice ad c.sub.length cap)) (_HLS : Hid (LookS w))
  (hlk : ∀ W, Below w.heap.size w W → (Instr.lookup 152 (.map (some bm)) (.int .u8 (c.k : Int)) true).run Tryz.prog W = .ok (.tuple #[.int .i64 197, .bool true]) W) :
  Calls Tryz.prog 56 #[c.val (.slice ad1 c.ex.sub.length cap1) (.slice ad2 c.ds.length cap2) (.slice ad c.sub.length cap)] w fun e w' => e = .returned (.bool (nodeP true false true false false false true 1 c)) ∧ Below w.heap.size w w' := by
 have hmb : 0 < w.heap.size := World.block_lt_of_cell? w _ hm
 have hlk1 := hlk _ (below_a1 w (.cells #[.int .u8 c.k, .string c.fr, .string c.rc, .string c.nm, .int .u8 c.ex.k, .string c.ex.ra, .string c.ex.nm, .int .i64 c.ex.d, .slice ad1 c.ex.sub.length cap1, .int .i64 c.d, .slice ad2 c.ds.length cap2, .slice ad c.sub.length cap] 29))
 have hbq := c.bulk_eq
 have hl1 := Con.bulks_len c.sub
 have hk8 := hr.2.2.2.2
 have hB2 : c.ex.bulk ≤ 2000000 := by omega
 have hn1 : c.sub.length ≤ 2000000 := by omega
 have hn2 : c.ds.length ≤ 2000000 := by omega
 have hf1 : c.fr.size ≤ 2000000 := by omega
 have hf2 : c.rc.size ≤ 2000000 := by omega
 have hf3 : c.nm.size ≤ 2000000 := by omega
 have HE : Hid (∀ W, Below w.heap.size w W → RdE W c.ex.sub (.slice ad1 c.ex.sub.length cap1)) := Lib.hid fun W hb => hr.1.frame hb
 have HX : Hid (∀ W, Below w.heap.size w W → Calls Tryz.prog 107 #[.agg #[.int .u8 c.ex.k, .string c.ex.ra, .string c.ex.nm, .int .i64 c.ex.d, .slice ad1 c.ex.sub.length cap1]] W fun e w' => e = .returned (.bool (c.ex.bare)) ∧ Below W.heap.size W w') := Lib.hid fun W hb => bare_any c.ex _ W (HE.out W hb)
 have HD : Hid (∀ W, Below w.heap.size w W → Calls Tryz.prog 117 #[.slice ad2 c.ds.length cap2] W fun e w' => e = .returned (.bool (isDays c.ds)) ∧ W = w') := Lib.hid fun W hb => days_any c.ds _ W hn2 (hr.2.1.frame hb)
 have HY : Hid (∀ W, Calls Tryz.prog 116 #[.int .i64 c.d] W fun e w' => e = .returned (.bool (isDay c.d)) ∧ W = w') := Lib.hid fun W => cwithin_any c.d W
 clear hlk hbq hl1 hr
 have hh1 : (bits BinOp.and IntKind.i64 197 1 != 0) = true := by decide
 have hh2 : (bits BinOp.and IntKind.i64 197 2 != 0) = false := by decide
 have hh4 : (bits BinOp.and IntKind.i64 197 4 != 0) = true := by decide
 have hh8 : (bits BinOp.and IntKind.i64 197 8 != 0) = false := by decide
 have hh16 : (bits BinOp.and IntKind.i64 197 16 != 0) = false := by decide
 have hh32 : (bits BinOp.and IntKind.i64 197 32 != 0) = false := by decide
 have hh64 : (bits BinOp.and IntKind.i64 197 64 != 0) = true := by decide
 have hh128 : (bits BinOp.and IntKind.i64 197 128 != 0) = true := by decide
 have hh256 : (bits BinOp.and IntKind.i64 197 256 != 0) = false := by decide
 have HR : Hid (nodeP true false true false false false true 1 c = (wordB true c.fr && (wordB false c.rc && (wordB true c.nm && (!(false && (c.fr.toList == c.rc.toList)) && ((c.ex.bare) && ((decide (c.d = 0)) && ((isDays c.ds) && decide (c.sub.length = 1))))))))) := Lib.hid (by unfold nodeP; rw [toList_beq]; rfl)
 generalize nodeP true false true false false false true 1 c = R at *
 unfold Con.val
 go_enter Tryz.func56, Tryz.ntmps56
 go_wp2_with fail
 obtain ⟨W, hW, hbW, hzW, q1, q2, q3, q4, q5, q6, q7, q8, q9, q10, q11, q12, q13⟩ := node_world w c ad ad1 ad2 cap cap1 cap2 197
 rw [hW]
 clear hW hlk1
 have HW1 := Lib.hid (word_any 197 1 _ hh1 c.fr hf1 _ _ W q12 q13)
 have HW2 := Lib.hid (word_any 197 2 _ hh2 c.rc hf2 _ _ W q12 q13)
 have HW4 := Lib.hid (word_any 197 4 _ hh4 c.nm hf3 _ _ W q12 q13)
 have HH : Hid (∀ (part : Int) (r : Bool), (bits BinOp.and IntKind.i64 197 part != 0) = r → ∀ W', W'.cell? ⟨w.heap.size + 1, 0, none⟩ = some (.int .i64 197) → Calls Tryz.prog 112 #[.int .i64 part, .pointer (some ⟨w.heap.size + 1, 0, none⟩)] W' fun e w' => e = .returned (.bool r) ∧ W' = w') := Lib.hid fun part r h W' hc => has_any 197 part r h _ W' hc
 have HK := Lib.hid (node_keep hbW hzW q9 q10 q11 q12 q13)
 have hx0 : w.heap.size < W.heap.size := by omega
 have hx1 : w.heap.size + 1 < W.heap.size := by omega
 have hx2 : w.heap.size + 1 + 1 < W.heap.size := by omega
 clear hzW hm hmb
 generalize wordB true c.fr = B1 at *
 generalize wordB false c.rc = B2 at *
 generalize wordB true c.nm = B3 at *
 generalize c.ex.bare = E at *
 generalize isDay c.d = DY at *
 generalize isDays c.ds = DS at *
 go_wp2_with (first
  | (go_at_call 113; (first | with_reducible refine HW1.out.mono ?_ | with_reducible refine HW2.out.mono ?_ | with_reducible refine HW4.out.mono ?_); rintro e w1 ⟨rfl, rfl⟩)
  | (go_at_call 112; refine (HH.out _ _ (by assumption) _ (by assumption)).mono ?_; rintro e w1 ⟨rfl, rfl⟩)
  | (go_at_call 107; refine (HX.out _ (by assumption)).mono ?_; rintro e W2 ⟨rfl, hb2⟩; obtain ⟨r9, r10, r11, r12, r13, hbW2⟩ := HK.out W2 hb2; clear hb2)
  | (go_at_call 116; refine (HY.out _).mono ?_; rintro e w1 ⟨rfl, rfl⟩)
  | (go_at_call 117; refine (HD.out _ (by assumption)).mono ?_; rintro e w1 ⟨rfl, rfl⟩))
 all_goals
  go_ret
  first
   | exact ⟨ret_bool' (by rw [HR.out]; simp [*, len_one]), hbW2⟩
   | exact ⟨ret_bool' (by rw [HR.out]; simp [*]), hbW⟩
end Go.Proofs.YtknpnhodpgajbaaGreatDoor

namespace Go.Proofs.YtknpnhodpgajbaaGreatDoor
open Go.RowKit
set_option maxHeartbeats 4000000 in
set_option maxRecDepth 100000 in
theorem node_m208 (c : Con) (w : World) (bm : Nat) (ad ad1 ad2 : Option Addr) (cap cap1 cap2 : Nat) (hB : c.bulk ≤ 2000000) (hm : w.cell? ⟨0, 0, none⟩ = some (.map (some bm)))
  (hr : RdN w c (.slice ad1 c.ex.sub.length cap1) (.slice ad2 c.ds.length cap2) (.slice ad c.sub.length cap)) (HLS : Hid (LookS w))
  (hlk : ∀ W, Below w.heap.size w W → (Instr.lookup 152 (.map (some bm)) (.int .u8 (c.k : Int)) true).run Tryz.prog W = .ok (.tuple #[.int .i64 208, .bool true]) W) :
  Calls Tryz.prog 56 #[c.val (.slice ad1 c.ex.sub.length cap1) (.slice ad2 c.ds.length cap2) (.slice ad c.sub.length cap)] w fun e w' => e = .returned (.bool (nodeP false false false false true false true 1 c)) ∧ Below w.heap.size w w' := by
 have hmb : 0 < w.heap.size := World.block_lt_of_cell? w _ hm
 have hlk1 := hlk _ (below_a1 w (.cells #[.int .u8 c.k, .string c.fr, .string c.rc, .string c.nm, .int .u8 c.ex.k, .string c.ex.ra, .string c.ex.nm, .int .i64 c.ex.d, .slice ad1 c.ex.sub.length cap1, .int .i64 c.d, .slice ad2 c.ds.length cap2, .slice ad c.sub.length cap] 29))
 have hbq := c.bulk_eq
 have hl1 := Con.bulks_len c.sub
 have hk8 := hr.2.2.2.2
 have hB2 : c.ex.bulk ≤ 2000000 := by omega
 have hn1 : c.sub.length ≤ 2000000 := by omega
 have hn2 : c.ds.length ≤ 2000000 := by omega
 have hf1 : c.fr.size ≤ 2000000 := by omega
 have hf2 : c.rc.size ≤ 2000000 := by omega
 have hf3 : c.nm.size ≤ 2000000 := by omega
 have HE : Hid (∀ W, Below w.heap.size w W → RdE W c.ex.sub (.slice ad1 c.ex.sub.length cap1)) := Lib.hid fun W hb => hr.1.frame hb
 have HX : Hid (∀ W, Below w.heap.size w W → Calls Tryz.prog 115 #[.agg #[.int .u8 c.ex.k, .string c.ex.ra, .string c.ex.nm, .int .i64 c.ex.d, .slice ad1 c.ex.sub.length cap1]] W fun e w' => e = .returned (.bool (c.ex.isA 2)) ∧ Below W.heap.size W w') := Lib.hid fun W hb => otruth_any c.ex _ W hB2 (HE.out W hb) hk8 (HLS.out.frame hb)
 have HD : Hid (∀ W, Below w.heap.size w W → Calls Tryz.prog 117 #[.slice ad2 c.ds.length cap2] W fun e w' => e = .returned (.bool (isDays c.ds)) ∧ W = w') := Lib.hid fun W hb => days_any c.ds _ W hn2 (hr.2.1.frame hb)
 have HY : Hid (∀ W, Calls Tryz.prog 116 #[.int .i64 c.d] W fun e w' => e = .returned (.bool (isDay c.d)) ∧ W = w') := Lib.hid fun W => cwithin_any c.d W
 clear hlk hbq hl1 hr
 have hh1 : (bits BinOp.and IntKind.i64 208 1 != 0) = false := by decide
 have hh2 : (bits BinOp.and IntKind.i64 208 2 != 0) = false := by decide
 have hh4 : (bits BinOp.and IntKind.i64 208 4 != 0) = false := by decide
 have hh8 : (bits BinOp.and IntKind.i64 208 8 != 0) = false := by decide
 have hh16 : (bits BinOp.and IntKind.i64 208 16 != 0) = true := by decide
 have hh32 : (bits BinOp.and IntKind.i64 208 32 != 0) = false := by decide
 have hh64 : (bits BinOp.and IntKind.i64 208 64 != 0) = true := by decide
 have hh128 : (bits BinOp.and IntKind.i64 208 128 != 0) = true := by decide
 have hh256 : (bits BinOp.and IntKind.i64 208 256 != 0) = false := by decide
 have HR : Hid (nodeP false false false false true false true 1 c = (wordB false c.fr && (wordB false c.rc && (wordB false c.nm && (!(false && (c.fr.toList == c.rc.toList)) && ((c.ex.isA 2) && ((decide (c.d = 0)) && ((isDays c.ds) && decide (c.sub.length = 1))))))))) := Lib.hid (by unfold nodeP; rw [toList_beq]; rfl)
 generalize nodeP false false false false true false true 1 c = R at *
 unfold Con.val
 go_enter Tryz.func56, Tryz.ntmps56
 go_wp2_with fail
 obtain ⟨W, hW, hbW, hzW, q1, q2, q3, q4, q5, q6, q7, q8, q9, q10, q11, q12, q13⟩ := node_world w c ad ad1 ad2 cap cap1 cap2 208
 rw [hW]
 clear hW hlk1
 have HW1 := Lib.hid (word_any 208 1 _ hh1 c.fr hf1 _ _ W q12 q13)
 have HW2 := Lib.hid (word_any 208 2 _ hh2 c.rc hf2 _ _ W q12 q13)
 have HW4 := Lib.hid (word_any 208 4 _ hh4 c.nm hf3 _ _ W q12 q13)
 have HH : Hid (∀ (part : Int) (r : Bool), (bits BinOp.and IntKind.i64 208 part != 0) = r → ∀ W', W'.cell? ⟨w.heap.size + 1, 0, none⟩ = some (.int .i64 208) → Calls Tryz.prog 112 #[.int .i64 part, .pointer (some ⟨w.heap.size + 1, 0, none⟩)] W' fun e w' => e = .returned (.bool r) ∧ W' = w') := Lib.hid fun part r h W' hc => has_any 208 part r h _ W' hc
 have HK := Lib.hid (node_keep hbW hzW q9 q10 q11 q12 q13)
 have hx0 : w.heap.size < W.heap.size := by omega
 have hx1 : w.heap.size + 1 < W.heap.size := by omega
 have hx2 : w.heap.size + 1 + 1 < W.heap.size := by omega
 clear hzW hm hmb
 generalize wordB false c.fr = B1 at *
 generalize wordB false c.rc = B2 at *
 generalize wordB false c.nm = B3 at *
 generalize c.ex.isA 2 = E at *
 generalize isDay c.d = DY at *
 generalize isDays c.ds = DS at *
 go_wp2_with (first
  | (go_at_call 113; (first | with_reducible refine HW1.out.mono ?_ | with_reducible refine HW2.out.mono ?_ | with_reducible refine HW4.out.mono ?_); rintro e w1 ⟨rfl, rfl⟩)
  | (go_at_call 112; refine (HH.out _ _ (by assumption) _ (by assumption)).mono ?_; rintro e w1 ⟨rfl, rfl⟩)
  | (go_at_call 115; refine (HX.out _ (by assumption)).mono ?_; rintro e W2 ⟨rfl, hb2⟩; obtain ⟨r9, r10, r11, r12, r13, hbW2⟩ := HK.out W2 hb2; clear hb2)
  | (go_at_call 116; refine (HY.out _).mono ?_; rintro e w1 ⟨rfl, rfl⟩)
  | (go_at_call 117; refine (HD.out _ (by assumption)).mono ?_; rintro e w1 ⟨rfl, rfl⟩))
 all_goals
  go_ret
  first
   | exact ⟨ret_bool' (by rw [HR.out]; simp [*, len_one]), hbW2⟩
   | exact ⟨ret_bool' (by rw [HR.out]; simp [*]), hbW⟩
end Go.Proofs.YtknpnhodpgajbaaGreatDoor
