/-
  contract.node at a mask.  Printed by tools/gennode.py. contract.node at a mask.  Printed by tools/gennode.py. contract.node at a mask.  Printed by tools/gennode.py.
-/
import Derived.Test.YtflddbgadkndlaaGreatDoorC20
namespace Go.Proofs.YtflddbgadkndlaaGreatDoor
open Go.RowKit

set_option maxHeartbeats 4000000 in
set_option maxRecDepth 100000 in
theorem node_m256 (c : Con) (w : World) (bm : Nat) (ad ad1 ad2 : Option Addr) (cap cap1 cap2 : Nat) (hB : c.bulk ≤ 2000000) (hm : w.cell? ⟨0, 0, none⟩ = some (.map (some bm)))
    (hr : RdN w c (.slice ad1 c.ex.sub.length cap1) (.slice ad2 c.ds.length cap2) (.slice ad c.sub.length cap)) (_HLS : Hid (LookS w))
    (hlk : ∀ W, Below w.heap.size w W → (Instr.lookup 159 (.map (some bm)) (.int .u8 (c.k : Int)) true).run Tryz.prog W = .ok (.tuple #[.int .i64 256, .bool true]) W) :
    Calls Tryz.prog 96 #[c.val (.slice ad1 c.ex.sub.length cap1) (.slice ad2 c.ds.length cap2) (.slice ad c.sub.length cap)] w fun e w' => e = .returned (.bool (nodeP false false false false false false false 2 c)) ∧ Below w.heap.size w w' := by
  have hmb : 0 < w.heap.size := World.block_lt_of_cell? w _ hm
  have hlk1 := hlk _ (below_a1 w (.cells #[.int .u8 c.k, .string c.fr, .string c.rc, .string c.nm, .int .u8 c.ex.k, .string c.ex.ra, .string c.ex.nm, .int .i64 c.ex.d, .slice ad1 c.ex.sub.length cap1, .int .i64 c.d, .slice ad2 c.ds.length cap2, .slice ad c.sub.length cap] 29))
  have hbq := c.bulk_eq
  have hl1 := Con.bulks_len c.sub
  have hk8 := hr.2.2.2.2
  have hB2 : c.ex.bulk ≤ 2000000 := by omega
  have hn1 : c.sub.length ≤ 2000000 := by omega
  have hn2 : c.ds.length ≤ 2000000 := by omega
  have hf1 : c.fr.size ≤ 2000000 := by omega
  have hf2 : c.rc.size ≤ 2000000 := by omega
  have hf3 : c.nm.size ≤ 2000000 := by omega
  have HE : Hid (∀ W, Below w.heap.size w W → RdE W c.ex.sub (.slice ad1 c.ex.sub.length cap1)) := Lib.hid fun W hb => hr.1.frame hb
  have HX : Hid (∀ W, Below w.heap.size w W → Calls Tryz.prog 118 #[.agg #[.int .u8 c.ex.k, .string c.ex.ra, .string c.ex.nm, .int .i64 c.ex.d, .slice ad1 c.ex.sub.length cap1]] W fun e w' => e = .returned (.bool (c.ex.bare)) ∧ Below W.heap.size W w') := Lib.hid fun W hb => bare_any c.ex _ W (HE.out W hb)
  have HD : Hid (∀ W, Below w.heap.size w W → Calls Tryz.prog 128 #[.slice ad2 c.ds.length cap2] W fun e w' => e = .returned (.bool (isDays c.ds)) ∧ W = w') := Lib.hid fun W hb => days_any c.ds _ W hn2 (hr.2.1.frame hb)
  have HY : Hid (∀ W, Calls Tryz.prog 127 #[.int .i64 c.d] W fun e w' => e = .returned (.bool (isDay c.d)) ∧ W = w') := Lib.hid fun W => cwithin_any c.d W
  clear hlk hbq hl1 hr
  have hh1 : (bits BinOp.and IntKind.i64 256 1 != 0) = false := by decide
  have hh2 : (bits BinOp.and IntKind.i64 256 2 != 0) = false := by decide
  have hh4 : (bits BinOp.and IntKind.i64 256 4 != 0) = false := by decide
  have hh8 : (bits BinOp.and IntKind.i64 256 8 != 0) = false := by decide
  have hh16 : (bits BinOp.and IntKind.i64 256 16 != 0) = false := by decide
  have hh32 : (bits BinOp.and IntKind.i64 256 32 != 0) = false := by decide
  have hh64 : (bits BinOp.and IntKind.i64 256 64 != 0) = false := by decide
  have hh128 : (bits BinOp.and IntKind.i64 256 128 != 0) = false := by decide
  have hh256 : (bits BinOp.and IntKind.i64 256 256 != 0) = true := by decide
  have HR : Hid (nodeP false false false false false false false 2 c = (wordB false c.fr && (wordB false c.rc && (wordB false c.nm && (!(false && (c.fr.toList == c.rc.toList)) && ((c.ex.bare) && ((decide (c.d = 0)) && ((decide (c.ds.length = 0)) && decide (c.sub.length = 2))))))))) := Lib.hid (by unfold nodeP; rw [toList_beq]; rfl)
  generalize nodeP false false false false false false false 2 c = R at *
  unfold Con.val
  go_enter Tryz.func96, Tryz.ntmps96
  go_wp2_with fail
  have hbW := below_a3 w (.cells #[.int .u8 c.k, .string c.fr, .string c.rc, .string c.nm, .int .u8 c.ex.k, .string c.ex.ra, .string c.ex.nm, .int .i64 c.ex.d, .slice ad1 c.ex.sub.length cap1, .int .i64 c.d, .slice ad2 c.ds.length cap2, .slice ad c.sub.length cap] 29) (.cells #[.int .i64 256] 3) (.cells #[.func (.func 123) #[] #[.pointer (some ⟨w.heap.size + 1, 0, none⟩)]] 125)
  have hzW : w.heap.size + 3 ≤ (((w.alloc (.cells #[.int .u8 c.k, .string c.fr, .string c.rc, .string c.nm, .int .u8 c.ex.k, .string c.ex.ra, .string c.ex.nm, .int .i64 c.ex.d, .slice ad1 c.ex.sub.length cap1, .int .i64 c.d, .slice ad2 c.ds.length cap2, .slice ad c.sub.length cap] 29)).alloc (.cells #[.int .i64 256] 3)).alloc (.cells #[.func (.func 123) #[] #[.pointer (some ⟨w.heap.size + 1, 0, none⟩)]] 125)).heap.size := by simp
  have q1 : (((w.alloc (.cells #[.int .u8 c.k, .string c.fr, .string c.rc, .string c.nm, .int .u8 c.ex.k, .string c.ex.ra, .string c.ex.nm, .int .i64 c.ex.d, .slice ad1 c.ex.sub.length cap1, .int .i64 c.d, .slice ad2 c.ds.length cap2, .slice ad c.sub.length cap] 29)).alloc (.cells #[.int .i64 256] 3)).alloc (.cells #[.func (.func 123) #[] #[.pointer (some ⟨w.heap.size + 1, 0, none⟩)]] 125)).cell? ⟨w.heap.size, 1, none⟩ = some (.string c.fr) := by go_simp
  have q2 : (((w.alloc (.cells #[.int .u8 c.k, .string c.fr, .string c.rc, .string c.nm, .int .u8 c.ex.k, .string c.ex.ra, .string c.ex.nm, .int .i64 c.ex.d, .slice ad1 c.ex.sub.length cap1, .int .i64 c.d, .slice ad2 c.ds.length cap2, .slice ad c.sub.length cap] 29)).alloc (.cells #[.int .i64 256] 3)).alloc (.cells #[.func (.func 123) #[] #[.pointer (some ⟨w.heap.size + 1, 0, none⟩)]] 125)).cell? ⟨w.heap.size, 2, none⟩ = some (.string c.rc) := by go_simp
  have q3 : (((w.alloc (.cells #[.int .u8 c.k, .string c.fr, .string c.rc, .string c.nm, .int .u8 c.ex.k, .string c.ex.ra, .string c.ex.nm, .int .i64 c.ex.d, .slice ad1 c.ex.sub.length cap1, .int .i64 c.d, .slice ad2 c.ds.length cap2, .slice ad c.sub.length cap] 29)).alloc (.cells #[.int .i64 256] 3)).alloc (.cells #[.func (.func 123) #[] #[.pointer (some ⟨w.heap.size + 1, 0, none⟩)]] 125)).cell? ⟨w.heap.size, 3, none⟩ = some (.string c.nm) := by go_simp
  have q4 : (((w.alloc (.cells #[.int .u8 c.k, .string c.fr, .string c.rc, .string c.nm, .int .u8 c.ex.k, .string c.ex.ra, .string c.ex.nm, .int .i64 c.ex.d, .slice ad1 c.ex.sub.length cap1, .int .i64 c.d, .slice ad2 c.ds.length cap2, .slice ad c.sub.length cap] 29)).alloc (.cells #[.int .i64 256] 3)).alloc (.cells #[.func (.func 123) #[] #[.pointer (some ⟨w.heap.size + 1, 0, none⟩)]] 125)).cell? ⟨w.heap.size, 4, none⟩ = some (.int .u8 c.ex.k) := by go_simp
  have q5 : (((w.alloc (.cells #[.int .u8 c.k, .string c.fr, .string c.rc, .string c.nm, .int .u8 c.ex.k, .string c.ex.ra, .string c.ex.nm, .int .i64 c.ex.d, .slice ad1 c.ex.sub.length cap1, .int .i64 c.d, .slice ad2 c.ds.length cap2, .slice ad c.sub.length cap] 29)).alloc (.cells #[.int .i64 256] 3)).alloc (.cells #[.func (.func 123) #[] #[.pointer (some ⟨w.heap.size + 1, 0, none⟩)]] 125)).cell? ⟨w.heap.size, 5, none⟩ = some (.string c.ex.ra) := by go_simp
  have q6 : (((w.alloc (.cells #[.int .u8 c.k, .string c.fr, .string c.rc, .string c.nm, .int .u8 c.ex.k, .string c.ex.ra, .string c.ex.nm, .int .i64 c.ex.d, .slice ad1 c.ex.sub.length cap1, .int .i64 c.d, .slice ad2 c.ds.length cap2, .slice ad c.sub.length cap] 29)).alloc (.cells #[.int .i64 256] 3)).alloc (.cells #[.func (.func 123) #[] #[.pointer (some ⟨w.heap.size + 1, 0, none⟩)]] 125)).cell? ⟨w.heap.size, 6, none⟩ = some (.string c.ex.nm) := by go_simp
  have q7 : (((w.alloc (.cells #[.int .u8 c.k, .string c.fr, .string c.rc, .string c.nm, .int .u8 c.ex.k, .string c.ex.ra, .string c.ex.nm, .int .i64 c.ex.d, .slice ad1 c.ex.sub.length cap1, .int .i64 c.d, .slice ad2 c.ds.length cap2, .slice ad c.sub.length cap] 29)).alloc (.cells #[.int .i64 256] 3)).alloc (.cells #[.func (.func 123) #[] #[.pointer (some ⟨w.heap.size + 1, 0, none⟩)]] 125)).cell? ⟨w.heap.size, 7, none⟩ = some (.int .i64 c.ex.d) := by go_simp
  have q8 : (((w.alloc (.cells #[.int .u8 c.k, .string c.fr, .string c.rc, .string c.nm, .int .u8 c.ex.k, .string c.ex.ra, .string c.ex.nm, .int .i64 c.ex.d, .slice ad1 c.ex.sub.length cap1, .int .i64 c.d, .slice ad2 c.ds.length cap2, .slice ad c.sub.length cap] 29)).alloc (.cells #[.int .i64 256] 3)).alloc (.cells #[.func (.func 123) #[] #[.pointer (some ⟨w.heap.size + 1, 0, none⟩)]] 125)).cell? ⟨w.heap.size, 8, none⟩ = some (.slice ad1 c.ex.sub.length cap1) := by go_simp
  have q9 : (((w.alloc (.cells #[.int .u8 c.k, .string c.fr, .string c.rc, .string c.nm, .int .u8 c.ex.k, .string c.ex.ra, .string c.ex.nm, .int .i64 c.ex.d, .slice ad1 c.ex.sub.length cap1, .int .i64 c.d, .slice ad2 c.ds.length cap2, .slice ad c.sub.length cap] 29)).alloc (.cells #[.int .i64 256] 3)).alloc (.cells #[.func (.func 123) #[] #[.pointer (some ⟨w.heap.size + 1, 0, none⟩)]] 125)).cell? ⟨w.heap.size, 9, none⟩ = some (.int .i64 c.d) := by go_simp
  have q10 : (((w.alloc (.cells #[.int .u8 c.k, .string c.fr, .string c.rc, .string c.nm, .int .u8 c.ex.k, .string c.ex.ra, .string c.ex.nm, .int .i64 c.ex.d, .slice ad1 c.ex.sub.length cap1, .int .i64 c.d, .slice ad2 c.ds.length cap2, .slice ad c.sub.length cap] 29)).alloc (.cells #[.int .i64 256] 3)).alloc (.cells #[.func (.func 123) #[] #[.pointer (some ⟨w.heap.size + 1, 0, none⟩)]] 125)).cell? ⟨w.heap.size, 10, none⟩ = some (.slice ad2 c.ds.length cap2) := by go_simp
  have q11 : (((w.alloc (.cells #[.int .u8 c.k, .string c.fr, .string c.rc, .string c.nm, .int .u8 c.ex.k, .string c.ex.ra, .string c.ex.nm, .int .i64 c.ex.d, .slice ad1 c.ex.sub.length cap1, .int .i64 c.d, .slice ad2 c.ds.length cap2, .slice ad c.sub.length cap] 29)).alloc (.cells #[.int .i64 256] 3)).alloc (.cells #[.func (.func 123) #[] #[.pointer (some ⟨w.heap.size + 1, 0, none⟩)]] 125)).cell? ⟨w.heap.size, 11, none⟩ = some (.slice ad c.sub.length cap) := by go_simp
  have q12 : (((w.alloc (.cells #[.int .u8 c.k, .string c.fr, .string c.rc, .string c.nm, .int .u8 c.ex.k, .string c.ex.ra, .string c.ex.nm, .int .i64 c.ex.d, .slice ad1 c.ex.sub.length cap1, .int .i64 c.d, .slice ad2 c.ds.length cap2, .slice ad c.sub.length cap] 29)).alloc (.cells #[.int .i64 256] 3)).alloc (.cells #[.func (.func 123) #[] #[.pointer (some ⟨w.heap.size + 1, 0, none⟩)]] 125)).cell? ⟨w.heap.size + 1, 0, none⟩ = some (.int .i64 256) := by go_simp
  have q13 : (((w.alloc (.cells #[.int .u8 c.k, .string c.fr, .string c.rc, .string c.nm, .int .u8 c.ex.k, .string c.ex.ra, .string c.ex.nm, .int .i64 c.ex.d, .slice ad1 c.ex.sub.length cap1, .int .i64 c.d, .slice ad2 c.ds.length cap2, .slice ad c.sub.length cap] 29)).alloc (.cells #[.int .i64 256] 3)).alloc (.cells #[.func (.func 123) #[] #[.pointer (some ⟨w.heap.size + 1, 0, none⟩)]] 125)).cell? ⟨w.heap.size + 1 + 1, 0, none⟩ = some (.func (.func 123) #[] #[.pointer (some ⟨w.heap.size + 1, 0, none⟩)]) := by go_simp
  obtain ⟨W, hW⟩ : ∃ W, (((w.alloc (.cells #[.int .u8 c.k, .string c.fr, .string c.rc, .string c.nm, .int .u8 c.ex.k, .string c.ex.ra, .string c.ex.nm, .int .i64 c.ex.d, .slice ad1 c.ex.sub.length cap1, .int .i64 c.d, .slice ad2 c.ds.length cap2, .slice ad c.sub.length cap] 29)).alloc (.cells #[.int .i64 256] 3)).alloc (.cells #[.func (.func 123) #[] #[.pointer (some ⟨w.heap.size + 1, 0, none⟩)]] 125)) = W := ⟨_, rfl⟩
  rw [hW] at hbW hzW q1 q2 q3 q4 q5 q6 q7 q8 q9 q10 q11 q12 q13 ⊢
  clear hW hlk1
  have HW1 := Lib.hid (word_any 256 1 _ hh1 c.fr hf1 _ _ W q12 q13)
  have HW2 := Lib.hid (word_any 256 2 _ hh2 c.rc hf2 _ _ W q12 q13)
  have HW4 := Lib.hid (word_any 256 4 _ hh4 c.nm hf3 _ _ W q12 q13)
  have HH : Hid (∀ (part : Int) (r : Bool), (bits BinOp.and IntKind.i64 256 part != 0) = r → ∀ W', W'.cell? ⟨w.heap.size + 1, 0, none⟩ = some (.int .i64 256) → Calls Tryz.prog 123 #[.int .i64 part, .pointer (some ⟨w.heap.size + 1, 0, none⟩)] W' fun e w' => e = .returned (.bool r) ∧ W' = w') := Lib.hid fun part r h W' hc => has_any 256 part r h _ W' hc
  have HK : Hid (∀ W2, Below W.heap.size W W2 → W2.cell? ⟨w.heap.size, 9, none⟩ = some (.int .i64 c.d) ∧ W2.cell? ⟨w.heap.size, 10, none⟩ = some (.slice ad2 c.ds.length cap2) ∧ W2.cell? ⟨w.heap.size, 11, none⟩ = some (.slice ad c.sub.length cap) ∧ W2.cell? ⟨w.heap.size + 1, 0, none⟩ = some (.int .i64 256) ∧
      W2.cell? ⟨w.heap.size + 1 + 1, 0, none⟩ = some (.func (.func 123) #[] #[.pointer (some ⟨w.heap.size + 1, 0, none⟩)]) ∧ Below w.heap.size w W2) := Lib.hid fun W2 h =>
    ⟨by rw [h.cell (p := ⟨w.heap.size, 9, none⟩) (by show w.heap.size < _; omega)]; exact q9, by rw [h.cell (p := ⟨w.heap.size, 10, none⟩) (by show w.heap.size < _; omega)]; exact q10, by rw [h.cell (p := ⟨w.heap.size, 11, none⟩) (by show w.heap.size < _; omega)]; exact q11,
      by rw [h.cell (p := ⟨w.heap.size + 1, 0, none⟩) (by show w.heap.size + 1 < _; omega)]; exact q12, by rw [h.cell (p := ⟨w.heap.size + 1 + 1, 0, none⟩) (by show w.heap.size + 1 + 1 < _; omega)]; exact q13, hbW.trans (h.mono (by omega))⟩
  have hx0 : w.heap.size < W.heap.size := by omega
  have hx1 : w.heap.size + 1 < W.heap.size := by omega
  have hx2 : w.heap.size + 1 + 1 < W.heap.size := by omega
  clear hzW hm hmb
  generalize wordB false c.fr = B1 at *
  generalize wordB false c.rc = B2 at *
  generalize wordB false c.nm = B3 at *
  generalize c.ex.bare = E at *
  generalize isDay c.d = DY at *
  generalize isDays c.ds = DS at *
  go_wp2_with (first
    | (go_at_call 124; (first | with_reducible refine HW1.out.mono ?_ | with_reducible refine HW2.out.mono ?_ | with_reducible refine HW4.out.mono ?_); rintro e w1 ⟨rfl, rfl⟩)
    | (go_at_call 123; refine (HH.out _ _ (by assumption) _ (by assumption)).mono ?_; rintro e w1 ⟨rfl, rfl⟩)
    | (go_at_call 118; refine (HX.out _ (by assumption)).mono ?_; rintro e W2 ⟨rfl, hb2⟩; obtain ⟨r9, r10, r11, r12, r13, hbW2⟩ := HK.out W2 hb2; clear hb2)
    | (go_at_call 127; refine (HY.out _).mono ?_; rintro e w1 ⟨rfl, rfl⟩)
    | (go_at_call 128; refine (HD.out _ (by assumption)).mono ?_; rintro e w1 ⟨rfl, rfl⟩))
  all_goals
    go_ret
    first
      | exact ⟨ret_bool' (by rw [HR.out]; simp [*, len_two]), hbW2⟩
      | exact ⟨ret_bool' (by rw [HR.out]; simp [*]), hbW⟩
end Go.Proofs.YtflddbgadkndlaaGreatDoor

namespace Go.Proofs.YtflddbgadkndlaaGreatDoor
open Go.RowKit

set_option maxHeartbeats 4000000 in
set_option maxRecDepth 100000 in
theorem node_m136 (c : Con) (w : World) (bm : Nat) (ad ad1 ad2 : Option Addr) (cap cap1 cap2 : Nat) (hB : c.bulk ≤ 2000000) (hm : w.cell? ⟨0, 0, none⟩ = some (.map (some bm)))
    (hr : RdN w c (.slice ad1 c.ex.sub.length cap1) (.slice ad2 c.ds.length cap2) (.slice ad c.sub.length cap)) (HLS : Hid (LookS w))
    (hlk : ∀ W, Below w.heap.size w W → (Instr.lookup 159 (.map (some bm)) (.int .u8 (c.k : Int)) true).run Tryz.prog W = .ok (.tuple #[.int .i64 136, .bool true]) W) :
    Calls Tryz.prog 96 #[c.val (.slice ad1 c.ex.sub.length cap1) (.slice ad2 c.ds.length cap2) (.slice ad c.sub.length cap)] w fun e w' => e = .returned (.bool (nodeP false false false true false false false 1 c)) ∧ Below w.heap.size w w' := by
  have hmb : 0 < w.heap.size := World.block_lt_of_cell? w _ hm
  have hlk1 := hlk _ (below_a1 w (.cells #[.int .u8 c.k, .string c.fr, .string c.rc, .string c.nm, .int .u8 c.ex.k, .string c.ex.ra, .string c.ex.nm, .int .i64 c.ex.d, .slice ad1 c.ex.sub.length cap1, .int .i64 c.d, .slice ad2 c.ds.length cap2, .slice ad c.sub.length cap] 29))
  have hbq := c.bulk_eq
  have hl1 := Con.bulks_len c.sub
  have hk8 := hr.2.2.2.2
  have hB2 : c.ex.bulk ≤ 2000000 := by omega
  have hn1 : c.sub.length ≤ 2000000 := by omega
  have hn2 : c.ds.length ≤ 2000000 := by omega
  have hf1 : c.fr.size ≤ 2000000 := by omega
  have hf2 : c.rc.size ≤ 2000000 := by omega
  have hf3 : c.nm.size ≤ 2000000 := by omega
  have HE : Hid (∀ W, Below w.heap.size w W → RdE W c.ex.sub (.slice ad1 c.ex.sub.length cap1)) := Lib.hid fun W hb => hr.1.frame hb
  have HX : Hid (∀ W, Below w.heap.size w W → Calls Tryz.prog 125 #[.agg #[.int .u8 c.ex.k, .string c.ex.ra, .string c.ex.nm, .int .i64 c.ex.d, .slice ad1 c.ex.sub.length cap1]] W fun e w' => e = .returned (.bool (c.ex.isA 1)) ∧ Below W.heap.size W w') := Lib.hid fun W hb => onum_any c.ex _ W hB2 (HE.out W hb) hk8 (HLS.out.frame hb)
  have HD : Hid (∀ W, Below w.heap.size w W → Calls Tryz.prog 128 #[.slice ad2 c.ds.length cap2] W fun e w' => e = .returned (.bool (isDays c.ds)) ∧ W = w') := Lib.hid fun W hb => days_any c.ds _ W hn2 (hr.2.1.frame hb)
  have HY : Hid (∀ W, Calls Tryz.prog 127 #[.int .i64 c.d] W fun e w' => e = .returned (.bool (isDay c.d)) ∧ W = w') := Lib.hid fun W => cwithin_any c.d W
  clear hlk hbq hl1 hr
  have hh1 : (bits BinOp.and IntKind.i64 136 1 != 0) = false := by decide
  have hh2 : (bits BinOp.and IntKind.i64 136 2 != 0) = false := by decide
  have hh4 : (bits BinOp.and IntKind.i64 136 4 != 0) = false := by decide
  have hh8 : (bits BinOp.and IntKind.i64 136 8 != 0) = true := by decide
  have hh16 : (bits BinOp.and IntKind.i64 136 16 != 0) = false := by decide
  have hh32 : (bits BinOp.and IntKind.i64 136 32 != 0) = false := by decide
  have hh64 : (bits BinOp.and IntKind.i64 136 64 != 0) = false := by decide
  have hh128 : (bits BinOp.and IntKind.i64 136 128 != 0) = true := by decide
  have hh256 : (bits BinOp.and IntKind.i64 136 256 != 0) = false := by decide
  have HR : Hid (nodeP false false false true false false false 1 c = (wordB false c.fr && (wordB false c.rc && (wordB false c.nm && (!(false && (c.fr.toList == c.rc.toList)) && ((c.ex.isA 1) && ((decide (c.d = 0)) && ((decide (c.ds.length = 0)) && decide (c.sub.length = 1))))))))) := Lib.hid (by unfold nodeP; rw [toList_beq]; rfl)
  generalize nodeP false false false true false false false 1 c = R at *
  unfold Con.val
  go_enter Tryz.func96, Tryz.ntmps96
  go_wp2_with fail
  have hbW := below_a3 w (.cells #[.int .u8 c.k, .string c.fr, .string c.rc, .string c.nm, .int .u8 c.ex.k, .string c.ex.ra, .string c.ex.nm, .int .i64 c.ex.d, .slice ad1 c.ex.sub.length cap1, .int .i64 c.d, .slice ad2 c.ds.length cap2, .slice ad c.sub.length cap] 29) (.cells #[.int .i64 136] 3) (.cells #[.func (.func 123) #[] #[.pointer (some ⟨w.heap.size + 1, 0, none⟩)]] 125)
  have hzW : w.heap.size + 3 ≤ (((w.alloc (.cells #[.int .u8 c.k, .string c.fr, .string c.rc, .string c.nm, .int .u8 c.ex.k, .string c.ex.ra, .string c.ex.nm, .int .i64 c.ex.d, .slice ad1 c.ex.sub.length cap1, .int .i64 c.d, .slice ad2 c.ds.length cap2, .slice ad c.sub.length cap] 29)).alloc (.cells #[.int .i64 136] 3)).alloc (.cells #[.func (.func 123) #[] #[.pointer (some ⟨w.heap.size + 1, 0, none⟩)]] 125)).heap.size := by simp
  have q1 : (((w.alloc (.cells #[.int .u8 c.k, .string c.fr, .string c.rc, .string c.nm, .int .u8 c.ex.k, .string c.ex.ra, .string c.ex.nm, .int .i64 c.ex.d, .slice ad1 c.ex.sub.length cap1, .int .i64 c.d, .slice ad2 c.ds.length cap2, .slice ad c.sub.length cap] 29)).alloc (.cells #[.int .i64 136] 3)).alloc (.cells #[.func (.func 123) #[] #[.pointer (some ⟨w.heap.size + 1, 0, none⟩)]] 125)).cell? ⟨w.heap.size, 1, none⟩ = some (.string c.fr) := by go_simp
  have q2 : (((w.alloc (.cells #[.int .u8 c.k, .string c.fr, .string c.rc, .string c.nm, .int .u8 c.ex.k, .string c.ex.ra, .string c.ex.nm, .int .i64 c.ex.d, .slice ad1 c.ex.sub.length cap1, .int .i64 c.d, .slice ad2 c.ds.length cap2, .slice ad c.sub.length cap] 29)).alloc (.cells #[.int .i64 136] 3)).alloc (.cells #[.func (.func 123) #[] #[.pointer (some ⟨w.heap.size + 1, 0, none⟩)]] 125)).cell? ⟨w.heap.size, 2, none⟩ = some (.string c.rc) := by go_simp
  have q3 : (((w.alloc (.cells #[.int .u8 c.k, .string c.fr, .string c.rc, .string c.nm, .int .u8 c.ex.k, .string c.ex.ra, .string c.ex.nm, .int .i64 c.ex.d, .slice ad1 c.ex.sub.length cap1, .int .i64 c.d, .slice ad2 c.ds.length cap2, .slice ad c.sub.length cap] 29)).alloc (.cells #[.int .i64 136] 3)).alloc (.cells #[.func (.func 123) #[] #[.pointer (some ⟨w.heap.size + 1, 0, none⟩)]] 125)).cell? ⟨w.heap.size, 3, none⟩ = some (.string c.nm) := by go_simp
  have q4 : (((w.alloc (.cells #[.int .u8 c.k, .string c.fr, .string c.rc, .string c.nm, .int .u8 c.ex.k, .string c.ex.ra, .string c.ex.nm, .int .i64 c.ex.d, .slice ad1 c.ex.sub.length cap1, .int .i64 c.d, .slice ad2 c.ds.length cap2, .slice ad c.sub.length cap] 29)).alloc (.cells #[.int .i64 136] 3)).alloc (.cells #[.func (.func 123) #[] #[.pointer (some ⟨w.heap.size + 1, 0, none⟩)]] 125)).cell? ⟨w.heap.size, 4, none⟩ = some (.int .u8 c.ex.k) := by go_simp
  have q5 : (((w.alloc (.cells #[.int .u8 c.k, .string c.fr, .string c.rc, .string c.nm, .int .u8 c.ex.k, .string c.ex.ra, .string c.ex.nm, .int .i64 c.ex.d, .slice ad1 c.ex.sub.length cap1, .int .i64 c.d, .slice ad2 c.ds.length cap2, .slice ad c.sub.length cap] 29)).alloc (.cells #[.int .i64 136] 3)).alloc (.cells #[.func (.func 123) #[] #[.pointer (some ⟨w.heap.size + 1, 0, none⟩)]] 125)).cell? ⟨w.heap.size, 5, none⟩ = some (.string c.ex.ra) := by go_simp
  have q6 : (((w.alloc (.cells #[.int .u8 c.k, .string c.fr, .string c.rc, .string c.nm, .int .u8 c.ex.k, .string c.ex.ra, .string c.ex.nm, .int .i64 c.ex.d, .slice ad1 c.ex.sub.length cap1, .int .i64 c.d, .slice ad2 c.ds.length cap2, .slice ad c.sub.length cap] 29)).alloc (.cells #[.int .i64 136] 3)).alloc (.cells #[.func (.func 123) #[] #[.pointer (some ⟨w.heap.size + 1, 0, none⟩)]] 125)).cell? ⟨w.heap.size, 6, none⟩ = some (.string c.ex.nm) := by go_simp
  have q7 : (((w.alloc (.cells #[.int .u8 c.k, .string c.fr, .string c.rc, .string c.nm, .int .u8 c.ex.k, .string c.ex.ra, .string c.ex.nm, .int .i64 c.ex.d, .slice ad1 c.ex.sub.length cap1, .int .i64 c.d, .slice ad2 c.ds.length cap2, .slice ad c.sub.length cap] 29)).alloc (.cells #[.int .i64 136] 3)).alloc (.cells #[.func (.func 123) #[] #[.pointer (some ⟨w.heap.size + 1, 0, none⟩)]] 125)).cell? ⟨w.heap.size, 7, none⟩ = some (.int .i64 c.ex.d) := by go_simp
  have q8 : (((w.alloc (.cells #[.int .u8 c.k, .string c.fr, .string c.rc, .string c.nm, .int .u8 c.ex.k, .string c.ex.ra, .string c.ex.nm, .int .i64 c.ex.d, .slice ad1 c.ex.sub.length cap1, .int .i64 c.d, .slice ad2 c.ds.length cap2, .slice ad c.sub.length cap] 29)).alloc (.cells #[.int .i64 136] 3)).alloc (.cells #[.func (.func 123) #[] #[.pointer (some ⟨w.heap.size + 1, 0, none⟩)]] 125)).cell? ⟨w.heap.size, 8, none⟩ = some (.slice ad1 c.ex.sub.length cap1) := by go_simp
  have q9 : (((w.alloc (.cells #[.int .u8 c.k, .string c.fr, .string c.rc, .string c.nm, .int .u8 c.ex.k, .string c.ex.ra, .string c.ex.nm, .int .i64 c.ex.d, .slice ad1 c.ex.sub.length cap1, .int .i64 c.d, .slice ad2 c.ds.length cap2, .slice ad c.sub.length cap] 29)).alloc (.cells #[.int .i64 136] 3)).alloc (.cells #[.func (.func 123) #[] #[.pointer (some ⟨w.heap.size + 1, 0, none⟩)]] 125)).cell? ⟨w.heap.size, 9, none⟩ = some (.int .i64 c.d) := by go_simp
  have q10 : (((w.alloc (.cells #[.int .u8 c.k, .string c.fr, .string c.rc, .string c.nm, .int .u8 c.ex.k, .string c.ex.ra, .string c.ex.nm, .int .i64 c.ex.d, .slice ad1 c.ex.sub.length cap1, .int .i64 c.d, .slice ad2 c.ds.length cap2, .slice ad c.sub.length cap] 29)).alloc (.cells #[.int .i64 136] 3)).alloc (.cells #[.func (.func 123) #[] #[.pointer (some ⟨w.heap.size + 1, 0, none⟩)]] 125)).cell? ⟨w.heap.size, 10, none⟩ = some (.slice ad2 c.ds.length cap2) := by go_simp
  have q11 : (((w.alloc (.cells #[.int .u8 c.k, .string c.fr, .string c.rc, .string c.nm, .int .u8 c.ex.k, .string c.ex.ra, .string c.ex.nm, .int .i64 c.ex.d, .slice ad1 c.ex.sub.length cap1, .int .i64 c.d, .slice ad2 c.ds.length cap2, .slice ad c.sub.length cap] 29)).alloc (.cells #[.int .i64 136] 3)).alloc (.cells #[.func (.func 123) #[] #[.pointer (some ⟨w.heap.size + 1, 0, none⟩)]] 125)).cell? ⟨w.heap.size, 11, none⟩ = some (.slice ad c.sub.length cap) := by go_simp
  have q12 : (((w.alloc (.cells #[.int .u8 c.k, .string c.fr, .string c.rc, .string c.nm, .int .u8 c.ex.k, .string c.ex.ra, .string c.ex.nm, .int .i64 c.ex.d, .slice ad1 c.ex.sub.length cap1, .int .i64 c.d, .slice ad2 c.ds.length cap2, .slice ad c.sub.length cap] 29)).alloc (.cells #[.int .i64 136] 3)).alloc (.cells #[.func (.func 123) #[] #[.pointer (some ⟨w.heap.size + 1, 0, none⟩)]] 125)).cell? ⟨w.heap.size + 1, 0, none⟩ = some (.int .i64 136) := by go_simp
  have q13 : (((w.alloc (.cells #[.int .u8 c.k, .string c.fr, .string c.rc, .string c.nm, .int .u8 c.ex.k, .string c.ex.ra, .string c.ex.nm, .int .i64 c.ex.d, .slice ad1 c.ex.sub.length cap1, .int .i64 c.d, .slice ad2 c.ds.length cap2, .slice ad c.sub.length cap] 29)).alloc (.cells #[.int .i64 136] 3)).alloc (.cells #[.func (.func 123) #[] #[.pointer (some ⟨w.heap.size + 1, 0, none⟩)]] 125)).cell? ⟨w.heap.size + 1 + 1, 0, none⟩ = some (.func (.func 123) #[] #[.pointer (some ⟨w.heap.size + 1, 0, none⟩)]) := by go_simp
  obtain ⟨W, hW⟩ : ∃ W, (((w.alloc (.cells #[.int .u8 c.k, .string c.fr, .string c.rc, .string c.nm, .int .u8 c.ex.k, .string c.ex.ra, .string c.ex.nm, .int .i64 c.ex.d, .slice ad1 c.ex.sub.length cap1, .int .i64 c.d, .slice ad2 c.ds.length cap2, .slice ad c.sub.length cap] 29)).alloc (.cells #[.int .i64 136] 3)).alloc (.cells #[.func (.func 123) #[] #[.pointer (some ⟨w.heap.size + 1, 0, none⟩)]] 125)) = W := ⟨_, rfl⟩
  rw [hW] at hbW hzW q1 q2 q3 q4 q5 q6 q7 q8 q9 q10 q11 q12 q13 ⊢
  clear hW hlk1
  have HW1 := Lib.hid (word_any 136 1 _ hh1 c.fr hf1 _ _ W q12 q13)
  have HW2 := Lib.hid (word_any 136 2 _ hh2 c.rc hf2 _ _ W q12 q13)
  have HW4 := Lib.hid (word_any 136 4 _ hh4 c.nm hf3 _ _ W q12 q13)
  have HH : Hid (∀ (part : Int) (r : Bool), (bits BinOp.and IntKind.i64 136 part != 0) = r → ∀ W', W'.cell? ⟨w.heap.size + 1, 0, none⟩ = some (.int .i64 136) → Calls Tryz.prog 123 #[.int .i64 part, .pointer (some ⟨w.heap.size + 1, 0, none⟩)] W' fun e w' => e = .returned (.bool r) ∧ W' = w') := Lib.hid fun part r h W' hc => has_any 136 part r h _ W' hc
  have HK : Hid (∀ W2, Below W.heap.size W W2 → W2.cell? ⟨w.heap.size, 9, none⟩ = some (.int .i64 c.d) ∧ W2.cell? ⟨w.heap.size, 10, none⟩ = some (.slice ad2 c.ds.length cap2) ∧ W2.cell? ⟨w.heap.size, 11, none⟩ = some (.slice ad c.sub.length cap) ∧ W2.cell? ⟨w.heap.size + 1, 0, none⟩ = some (.int .i64 136) ∧
      W2.cell? ⟨w.heap.size + 1 + 1, 0, none⟩ = some (.func (.func 123) #[] #[.pointer (some ⟨w.heap.size + 1, 0, none⟩)]) ∧ Below w.heap.size w W2) := Lib.hid fun W2 h =>
    ⟨by rw [h.cell (p := ⟨w.heap.size, 9, none⟩) (by show w.heap.size < _; omega)]; exact q9, by rw [h.cell (p := ⟨w.heap.size, 10, none⟩) (by show w.heap.size < _; omega)]; exact q10, by rw [h.cell (p := ⟨w.heap.size, 11, none⟩) (by show w.heap.size < _; omega)]; exact q11,
      by rw [h.cell (p := ⟨w.heap.size + 1, 0, none⟩) (by show w.heap.size + 1 < _; omega)]; exact q12, by rw [h.cell (p := ⟨w.heap.size + 1 + 1, 0, none⟩) (by show w.heap.size + 1 + 1 < _; omega)]; exact q13, hbW.trans (h.mono (by omega))⟩
  have hx0 : w.heap.size < W.heap.size := by omega
  have hx1 : w.heap.size + 1 < W.heap.size := by omega
  have hx2 : w.heap.size + 1 + 1 < W.heap.size := by omega
  clear hzW hm hmb
  generalize wordB false c.fr = B1 at *
  generalize wordB false c.rc = B2 at *
  generalize wordB false c.nm = B3 at *
  generalize c.ex.isA 1 = E at *
  generalize isDay c.d = DY at *
  generalize isDays c.ds = DS at *
  go_wp2_with (first
    | (go_at_call 124; (first | with_reducible refine HW1.out.mono ?_ | with_reducible refine HW2.out.mono ?_ | with_reducible refine HW4.out.mono ?_); rintro e w1 ⟨rfl, rfl⟩)
    | (go_at_call 123; refine (HH.out _ _ (by assumption) _ (by assumption)).mono ?_; rintro e w1 ⟨rfl, rfl⟩)
    | (go_at_call 125; refine (HX.out _ (by assumption)).mono ?_; rintro e W2 ⟨rfl, hb2⟩; obtain ⟨r9, r10, r11, r12, r13, hbW2⟩ := HK.out W2 hb2; clear hb2)
    | (go_at_call 127; refine (HY.out _).mono ?_; rintro e w1 ⟨rfl, rfl⟩)
    | (go_at_call 128; refine (HD.out _ (by assumption)).mono ?_; rintro e w1 ⟨rfl, rfl⟩))
  all_goals
    go_ret
    first
      | exact ⟨ret_bool' (by rw [HR.out]; simp [*, len_one]), hbW2⟩
      | exact ⟨ret_bool' (by rw [HR.out]; simp [*]), hbW⟩
end Go.Proofs.YtflddbgadkndlaaGreatDoor

namespace Go.Proofs.YtflddbgadkndlaaGreatDoor
open Go.RowKit

set_option maxHeartbeats 4000000 in
set_option maxRecDepth 100000 in
theorem node_m272 (c : Con) (w : World) (bm : Nat) (ad ad1 ad2 : Option Addr) (cap cap1 cap2 : Nat) (hB : c.bulk ≤ 2000000) (hm : w.cell? ⟨0, 0, none⟩ = some (.map (some bm)))
    (hr : RdN w c (.slice ad1 c.ex.sub.length cap1) (.slice ad2 c.ds.length cap2) (.slice ad c.sub.length cap)) (HLS : Hid (LookS w))
    (hlk : ∀ W, Below w.heap.size w W → (Instr.lookup 159 (.map (some bm)) (.int .u8 (c.k : Int)) true).run Tryz.prog W = .ok (.tuple #[.int .i64 272, .bool true]) W) :
    Calls Tryz.prog 96 #[c.val (.slice ad1 c.ex.sub.length cap1) (.slice ad2 c.ds.length cap2) (.slice ad c.sub.length cap)] w fun e w' => e = .returned (.bool (nodeP false false false false true false false 2 c)) ∧ Below w.heap.size w w' := by
  have hmb : 0 < w.heap.size := World.block_lt_of_cell? w _ hm
  have hlk1 := hlk _ (below_a1 w (.cells #[.int .u8 c.k, .string c.fr, .string c.rc, .string c.nm, .int .u8 c.ex.k, .string c.ex.ra, .string c.ex.nm, .int .i64 c.ex.d, .slice ad1 c.ex.sub.length cap1, .int .i64 c.d, .slice ad2 c.ds.length cap2, .slice ad c.sub.length cap] 29))
  have hbq := c.bulk_eq
  have hl1 := Con.bulks_len c.sub
  have hk8 := hr.2.2.2.2
  have hB2 : c.ex.bulk ≤ 2000000 := by omega
  have hn1 : c.sub.length ≤ 2000000 := by omega
  have hn2 : c.ds.length ≤ 2000000 := by omega
  have hf1 : c.fr.size ≤ 2000000 := by omega
  have hf2 : c.rc.size ≤ 2000000 := by omega
  have hf3 : c.nm.size ≤ 2000000 := by omega
  have HE : Hid (∀ W, Below w.heap.size w W → RdE W c.ex.sub (.slice ad1 c.ex.sub.length cap1)) := Lib.hid fun W hb => hr.1.frame hb
  have HX : Hid (∀ W, Below w.heap.size w W → Calls Tryz.prog 126 #[.agg #[.int .u8 c.ex.k, .string c.ex.ra, .string c.ex.nm, .int .i64 c.ex.d, .slice ad1 c.ex.sub.length cap1]] W fun e w' => e = .returned (.bool (c.ex.isA 2)) ∧ Below W.heap.size W w') := Lib.hid fun W hb => otruth_any c.ex _ W hB2 (HE.out W hb) hk8 (HLS.out.frame hb)
  have HD : Hid (∀ W, Below w.heap.size w W → Calls Tryz.prog 128 #[.slice ad2 c.ds.length cap2] W fun e w' => e = .returned (.bool (isDays c.ds)) ∧ W = w') := Lib.hid fun W hb => days_any c.ds _ W hn2 (hr.2.1.frame hb)
  have HY : Hid (∀ W, Calls Tryz.prog 127 #[.int .i64 c.d] W fun e w' => e = .returned (.bool (isDay c.d)) ∧ W = w') := Lib.hid fun W => cwithin_any c.d W
  clear hlk hbq hl1 hr
  have hh1 : (bits BinOp.and IntKind.i64 272 1 != 0) = false := by decide
  have hh2 : (bits BinOp.and IntKind.i64 272 2 != 0) = false := by decide
  have hh4 : (bits BinOp.and IntKind.i64 272 4 != 0) = false := by decide
  have hh8 : (bits BinOp.and IntKind.i64 272 8 != 0) = false := by decide
  have hh16 : (bits BinOp.and IntKind.i64 272 16 != 0) = true := by decide
  have hh32 : (bits BinOp.and IntKind.i64 272 32 != 0) = false := by decide
  have hh64 : (bits BinOp.and IntKind.i64 272 64 != 0) = false := by decide
  have hh128 : (bits BinOp.and IntKind.i64 272 128 != 0) = false := by decide
  have hh256 : (bits BinOp.and IntKind.i64 272 256 != 0) = true := by decide
  have HR : Hid (nodeP false false false false true false false 2 c = (wordB false c.fr && (wordB false c.rc && (wordB false c.nm && (!(false && (c.fr.toList == c.rc.toList)) && ((c.ex.isA 2) && ((decide (c.d = 0)) && ((decide (c.ds.length = 0)) && decide (c.sub.length = 2))))))))) := Lib.hid (by unfold nodeP; rw [toList_beq]; rfl)
  generalize nodeP false false false false true false false 2 c = R at *
  unfold Con.val
  go_enter Tryz.func96, Tryz.ntmps96
  go_wp2_with fail
  have hbW := below_a3 w (.cells #[.int .u8 c.k, .string c.fr, .string c.rc, .string c.nm, .int .u8 c.ex.k, .string c.ex.ra, .string c.ex.nm, .int .i64 c.ex.d, .slice ad1 c.ex.sub.length cap1, .int .i64 c.d, .slice ad2 c.ds.length cap2, .slice ad c.sub.length cap] 29) (.cells #[.int .i64 272] 3) (.cells #[.func (.func 123) #[] #[.pointer (some ⟨w.heap.size + 1, 0, none⟩)]] 125)
  have hzW : w.heap.size + 3 ≤ (((w.alloc (.cells #[.int .u8 c.k, .string c.fr, .string c.rc, .string c.nm, .int .u8 c.ex.k, .string c.ex.ra, .string c.ex.nm, .int .i64 c.ex.d, .slice ad1 c.ex.sub.length cap1, .int .i64 c.d, .slice ad2 c.ds.length cap2, .slice ad c.sub.length cap] 29)).alloc (.cells #[.int .i64 272] 3)).alloc (.cells #[.func (.func 123) #[] #[.pointer (some ⟨w.heap.size + 1, 0, none⟩)]] 125)).heap.size := by simp
  have q1 : (((w.alloc (.cells #[.int .u8 c.k, .string c.fr, .string c.rc, .string c.nm, .int .u8 c.ex.k, .string c.ex.ra, .string c.ex.nm, .int .i64 c.ex.d, .slice ad1 c.ex.sub.length cap1, .int .i64 c.d, .slice ad2 c.ds.length cap2, .slice ad c.sub.length cap] 29)).alloc (.cells #[.int .i64 272] 3)).alloc (.cells #[.func (.func 123) #[] #[.pointer (some ⟨w.heap.size + 1, 0, none⟩)]] 125)).cell? ⟨w.heap.size, 1, none⟩ = some (.string c.fr) := by go_simp
  have q2 : (((w.alloc (.cells #[.int .u8 c.k, .string c.fr, .string c.rc, .string c.nm, .int .u8 c.ex.k, .string c.ex.ra, .string c.ex.nm, .int .i64 c.ex.d, .slice ad1 c.ex.sub.length cap1, .int .i64 c.d, .slice ad2 c.ds.length cap2, .slice ad c.sub.length cap] 29)).alloc (.cells #[.int .i64 272] 3)).alloc (.cells #[.func (.func 123) #[] #[.pointer (some ⟨w.heap.size + 1, 0, none⟩)]] 125)).cell? ⟨w.heap.size, 2, none⟩ = some (.string c.rc) := by go_simp
  have q3 : (((w.alloc (.cells #[.int .u8 c.k, .string c.fr, .string c.rc, .string c.nm, .int .u8 c.ex.k, .string c.ex.ra, .string c.ex.nm, .int .i64 c.ex.d, .slice ad1 c.ex.sub.length cap1, .int .i64 c.d, .slice ad2 c.ds.length cap2, .slice ad c.sub.length cap] 29)).alloc (.cells #[.int .i64 272] 3)).alloc (.cells #[.func (.func 123) #[] #[.pointer (some ⟨w.heap.size + 1, 0, none⟩)]] 125)).cell? ⟨w.heap.size, 3, none⟩ = some (.string c.nm) := by go_simp
  have q4 : (((w.alloc (.cells #[.int .u8 c.k, .string c.fr, .string c.rc, .string c.nm, .int .u8 c.ex.k, .string c.ex.ra, .string c.ex.nm, .int .i64 c.ex.d, .slice ad1 c.ex.sub.length cap1, .int .i64 c.d, .slice ad2 c.ds.length cap2, .slice ad c.sub.length cap] 29)).alloc (.cells #[.int .i64 272] 3)).alloc (.cells #[.func (.func 123) #[] #[.pointer (some ⟨w.heap.size + 1, 0, none⟩)]] 125)).cell? ⟨w.heap.size, 4, none⟩ = some (.int .u8 c.ex.k) := by go_simp
  have q5 : (((w.alloc (.cells #[.int .u8 c.k, .string c.fr, .string c.rc, .string c.nm, .int .u8 c.ex.k, .string c.ex.ra, .string c.ex.nm, .int .i64 c.ex.d, .slice ad1 c.ex.sub.length cap1, .int .i64 c.d, .slice ad2 c.ds.length cap2, .slice ad c.sub.length cap] 29)).alloc (.cells #[.int .i64 272] 3)).alloc (.cells #[.func (.func 123) #[] #[.pointer (some ⟨w.heap.size + 1, 0, none⟩)]] 125)).cell? ⟨w.heap.size, 5, none⟩ = some (.string c.ex.ra) := by go_simp
  have q6 : (((w.alloc (.cells #[.int .u8 c.k, .string c.fr, .string c.rc, .string c.nm, .int .u8 c.ex.k, .string c.ex.ra, .string c.ex.nm, .int .i64 c.ex.d, .slice ad1 c.ex.sub.length cap1, .int .i64 c.d, .slice ad2 c.ds.length cap2, .slice ad c.sub.length cap] 29)).alloc (.cells #[.int .i64 272] 3)).alloc (.cells #[.func (.func 123) #[] #[.pointer (some ⟨w.heap.size + 1, 0, none⟩)]] 125)).cell? ⟨w.heap.size, 6, none⟩ = some (.string c.ex.nm) := by go_simp
  have q7 : (((w.alloc (.cells #[.int .u8 c.k, .string c.fr, .string c.rc, .string c.nm, .int .u8 c.ex.k, .string c.ex.ra, .string c.ex.nm, .int .i64 c.ex.d, .slice ad1 c.ex.sub.length cap1, .int .i64 c.d, .slice ad2 c.ds.length cap2, .slice ad c.sub.length cap] 29)).alloc (.cells #[.int .i64 272] 3)).alloc (.cells #[.func (.func 123) #[] #[.pointer (some ⟨w.heap.size + 1, 0, none⟩)]] 125)).cell? ⟨w.heap.size, 7, none⟩ = some (.int .i64 c.ex.d) := by go_simp
  have q8 : (((w.alloc (.cells #[.int .u8 c.k, .string c.fr, .string c.rc, .string c.nm, .int .u8 c.ex.k, .string c.ex.ra, .string c.ex.nm, .int .i64 c.ex.d, .slice ad1 c.ex.sub.length cap1, .int .i64 c.d, .slice ad2 c.ds.length cap2, .slice ad c.sub.length cap] 29)).alloc (.cells #[.int .i64 272] 3)).alloc (.cells #[.func (.func 123) #[] #[.pointer (some ⟨w.heap.size + 1, 0, none⟩)]] 125)).cell? ⟨w.heap.size, 8, none⟩ = some (.slice ad1 c.ex.sub.length cap1) := by go_simp
  have q9 : (((w.alloc (.cells #[.int .u8 c.k, .string c.fr, .string c.rc, .string c.nm, .int .u8 c.ex.k, .string c.ex.ra, .string c.ex.nm, .int .i64 c.ex.d, .slice ad1 c.ex.sub.length cap1, .int .i64 c.d, .slice ad2 c.ds.length cap2, .slice ad c.sub.length cap] 29)).alloc (.cells #[.int .i64 272] 3)).alloc (.cells #[.func (.func 123) #[] #[.pointer (some ⟨w.heap.size + 1, 0, none⟩)]] 125)).cell? ⟨w.heap.size, 9, none⟩ = some (.int .i64 c.d) := by go_simp
  have q10 : (((w.alloc (.cells #[.int .u8 c.k, .string c.fr, .string c.rc, .string c.nm, .int .u8 c.ex.k, .string c.ex.ra, .string c.ex.nm, .int .i64 c.ex.d, .slice ad1 c.ex.sub.length cap1, .int .i64 c.d, .slice ad2 c.ds.length cap2, .slice ad c.sub.length cap] 29)).alloc (.cells #[.int .i64 272] 3)).alloc (.cells #[.func (.func 123) #[] #[.pointer (some ⟨w.heap.size + 1, 0, none⟩)]] 125)).cell? ⟨w.heap.size, 10, none⟩ = some (.slice ad2 c.ds.length cap2) := by go_simp
  have q11 : (((w.alloc (.cells #[.int .u8 c.k, .string c.fr, .string c.rc, .string c.nm, .int .u8 c.ex.k, .string c.ex.ra, .string c.ex.nm, .int .i64 c.ex.d, .slice ad1 c.ex.sub.length cap1, .int .i64 c.d, .slice ad2 c.ds.length cap2, .slice ad c.sub.length cap] 29)).alloc (.cells #[.int .i64 272] 3)).alloc (.cells #[.func (.func 123) #[] #[.pointer (some ⟨w.heap.size + 1, 0, none⟩)]] 125)).cell? ⟨w.heap.size, 11, none⟩ = some (.slice ad c.sub.length cap) := by go_simp
  have q12 : (((w.alloc (.cells #[.int .u8 c.k, .string c.fr, .string c.rc, .string c.nm, .int .u8 c.ex.k, .string c.ex.ra, .string c.ex.nm, .int .i64 c.ex.d, .slice ad1 c.ex.sub.length cap1, .int .i64 c.d, .slice ad2 c.ds.length cap2, .slice ad c.sub.length cap] 29)).alloc (.cells #[.int .i64 272] 3)).alloc (.cells #[.func (.func 123) #[] #[.pointer (some ⟨w.heap.size + 1, 0, none⟩)]] 125)).cell? ⟨w.heap.size + 1, 0, none⟩ = some (.int .i64 272) := by go_simp
  have q13 : (((w.alloc (.cells #[.int .u8 c.k, .string c.fr, .string c.rc, .string c.nm, .int .u8 c.ex.k, .string c.ex.ra, .string c.ex.nm, .int .i64 c.ex.d, .slice ad1 c.ex.sub.length cap1, .int .i64 c.d, .slice ad2 c.ds.length cap2, .slice ad c.sub.length cap] 29)).alloc (.cells #[.int .i64 272] 3)).alloc (.cells #[.func (.func 123) #[] #[.pointer (some ⟨w.heap.size + 1, 0, none⟩)]] 125)).cell? ⟨w.heap.size + 1 + 1, 0, none⟩ = some (.func (.func 123) #[] #[.pointer (some ⟨w.heap.size + 1, 0, none⟩)]) := by go_simp
  obtain ⟨W, hW⟩ : ∃ W, (((w.alloc (.cells #[.int .u8 c.k, .string c.fr, .string c.rc, .string c.nm, .int .u8 c.ex.k, .string c.ex.ra, .string c.ex.nm, .int .i64 c.ex.d, .slice ad1 c.ex.sub.length cap1, .int .i64 c.d, .slice ad2 c.ds.length cap2, .slice ad c.sub.length cap] 29)).alloc (.cells #[.int .i64 272] 3)).alloc (.cells #[.func (.func 123) #[] #[.pointer (some ⟨w.heap.size + 1, 0, none⟩)]] 125)) = W := ⟨_, rfl⟩
  rw [hW] at hbW hzW q1 q2 q3 q4 q5 q6 q7 q8 q9 q10 q11 q12 q13 ⊢
  clear hW hlk1
  have HW1 := Lib.hid (word_any 272 1 _ hh1 c.fr hf1 _ _ W q12 q13)
  have HW2 := Lib.hid (word_any 272 2 _ hh2 c.rc hf2 _ _ W q12 q13)
  have HW4 := Lib.hid (word_any 272 4 _ hh4 c.nm hf3 _ _ W q12 q13)
  have HH : Hid (∀ (part : Int) (r : Bool), (bits BinOp.and IntKind.i64 272 part != 0) = r → ∀ W', W'.cell? ⟨w.heap.size + 1, 0, none⟩ = some (.int .i64 272) → Calls Tryz.prog 123 #[.int .i64 part, .pointer (some ⟨w.heap.size + 1, 0, none⟩)] W' fun e w' => e = .returned (.bool r) ∧ W' = w') := Lib.hid fun part r h W' hc => has_any 272 part r h _ W' hc
  have HK : Hid (∀ W2, Below W.heap.size W W2 → W2.cell? ⟨w.heap.size, 9, none⟩ = some (.int .i64 c.d) ∧ W2.cell? ⟨w.heap.size, 10, none⟩ = some (.slice ad2 c.ds.length cap2) ∧ W2.cell? ⟨w.heap.size, 11, none⟩ = some (.slice ad c.sub.length cap) ∧ W2.cell? ⟨w.heap.size + 1, 0, none⟩ = some (.int .i64 272) ∧
      W2.cell? ⟨w.heap.size + 1 + 1, 0, none⟩ = some (.func (.func 123) #[] #[.pointer (some ⟨w.heap.size + 1, 0, none⟩)]) ∧ Below w.heap.size w W2) := Lib.hid fun W2 h =>
    ⟨by rw [h.cell (p := ⟨w.heap.size, 9, none⟩) (by show w.heap.size < _; omega)]; exact q9, by rw [h.cell (p := ⟨w.heap.size, 10, none⟩) (by show w.heap.size < _; omega)]; exact q10, by rw [h.cell (p := ⟨w.heap.size, 11, none⟩) (by show w.heap.size < _; omega)]; exact q11,
      by rw [h.cell (p := ⟨w.heap.size + 1, 0, none⟩) (by show w.heap.size + 1 < _; omega)]; exact q12, by rw [h.cell (p := ⟨w.heap.size + 1 + 1, 0, none⟩) (by show w.heap.size + 1 + 1 < _; omega)]; exact q13, hbW.trans (h.mono (by omega))⟩
  have hx0 : w.heap.size < W.heap.size := by omega
  have hx1 : w.heap.size + 1 < W.heap.size := by omega
  have hx2 : w.heap.size + 1 + 1 < W.heap.size := by omega
  clear hzW hm hmb
  generalize wordB false c.fr = B1 at *
  generalize wordB false c.rc = B2 at *
  generalize wordB false c.nm = B3 at *
  generalize c.ex.isA 2 = E at *
  generalize isDay c.d = DY at *
  generalize isDays c.ds = DS at *
  go_wp2_with (first
    | (go_at_call 124; (first | with_reducible refine HW1.out.mono ?_ | with_reducible refine HW2.out.mono ?_ | with_reducible refine HW4.out.mono ?_); rintro e w1 ⟨rfl, rfl⟩)
    | (go_at_call 123; refine (HH.out _ _ (by assumption) _ (by assumption)).mono ?_; rintro e w1 ⟨rfl, rfl⟩)
    | (go_at_call 126; refine (HX.out _ (by assumption)).mono ?_; rintro e W2 ⟨rfl, hb2⟩; obtain ⟨r9, r10, r11, r12, r13, hbW2⟩ := HK.out W2 hb2; clear hb2)
    | (go_at_call 127; refine (HY.out _).mono ?_; rintro e w1 ⟨rfl, rfl⟩)
    | (go_at_call 128; refine (HD.out _ (by assumption)).mono ?_; rintro e w1 ⟨rfl, rfl⟩))
  all_goals
    go_ret
    first
      | exact ⟨ret_bool' (by rw [HR.out]; simp [*, len_two]), hbW2⟩
      | exact ⟨ret_bool' (by rw [HR.out]; simp [*]), hbW⟩
end Go.Proofs.YtflddbgadkndlaaGreatDoor
