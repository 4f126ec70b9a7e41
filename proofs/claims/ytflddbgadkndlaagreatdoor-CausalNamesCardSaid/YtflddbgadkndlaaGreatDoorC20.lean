/-
  observable.Check, Number, Truth. The closures of contract.node. contract.node. contract.node at a mask.  Printed by tools/gennode.py. contract.node at a mask.  Printed by tools/gennode.py.
-/
import Derived.Test.YtflddbgadkndlaaGreatDoorC19
import Derived.Laws.EntriesVeiled
namespace Go.Proofs.YtflddbgadkndlaaGreatDoor
open Go.RowKit

theorem Ex.err_many {x : Ex} (h : 500 < x.size ∨ 60 < x.depth) : x.err = 4 := by unfold Ex.err; rw [if_pos h]
theorem Ex.err_bad {x : Ex} (h : ¬ (500 < x.size ∨ 60 < x.depth)) (h1 : x.sort = 0) : x.err = 8 := by unfold Ex.err; rw [if_neg h, if_pos h1]
theorem Ex.err_ok {x : Ex} (h : ¬ (500 < x.size ∨ 60 < x.depth)) (h1 : x.sort ≠ 0) : x.err = 0 := by unfold Ex.err; rw [if_neg h, if_neg h1]

set_option maxHeartbeats 1000000 in
set_option maxRecDepth 100000 in
theorem ochk_any (x : Ex) (s : Value) (w : World) (hB : x.bulk ≤ 2000000) (hs : RdE w x.sub s) (hk8 : x.k < 256) (hL : LookS w) :
    Calls Tryz.prog 169 #[x.val s] w fun e w' => e = .returned (.int .i64 x.err) ∧ Below w.heap.size w w' := by
  obtain ⟨ad, cap, rfl⟩ := hs.len
  have hb0 := below_a1 w (.cells #[.int .u8 x.k, .string x.ra, .string x.nm, .int .i64 x.d, .slice ad x.sub.length cap] 25)
  have HE : Hid (∀ W, Below w.heap.size w W → RdE W x.sub (.slice ad x.sub.length cap) ∧ LookS W) := Lib.hid fun W hW => ⟨hs.frame hW, hL.frame hW⟩
  have H1 := Lib.hid (osize_any x.bulk x _ _ (Nat.le_refl _) hB (HE.out _ hb0).1)
  have hsz := x.size_le
  have hdp := x.depth_le
  clear hs hL
  have hkeep : ∀ (A B : World), Below A.heap.size A B → (∀ (j : Nat) (u : Value), A.cell? ⟨w.heap.size, j, none⟩ = some u → B.cell? ⟨w.heap.size, j, none⟩ = some u) := fun A B hb j u h => by
    rw [hb.cell (p := ⟨w.heap.size, j, none⟩) (World.block_lt_of_cell? A _ h)]; exact h
  have HK := Lib.hid hkeep
  clear hkeep
  have HM := Lib.hid (Ex.err_many (x := x))
  have HB := Lib.hid (Ex.err_bad (x := x))
  have HO := Lib.hid (Ex.err_ok (x := x))
  generalize x.err = R at *
  unfold Ex.val at H1 ⊢
  go_enter Tryz.func169, Tryz.ntmps169
  go_wp2_with fail
  refine H1.out.mono ?_
  rintro e w1 ⟨rfl, hb1⟩
  have hb2 : Below w.heap.size w w1 := hb0.trans (hb1.mono (by simp))
  have c0 := HK.out _ _ hb1 0 (.int .u8 x.k) (by go_simp)
  have c1 := HK.out _ _ hb1 1 (.string x.ra) (by go_simp)
  have c2 := HK.out _ _ hb1 2 (.string x.nm) (by go_simp)
  have c3 := HK.out _ _ hb1 3 (.int .i64 x.d) (by go_simp)
  have c4 := HK.out _ _ hb1 4 (.slice ad x.sub.length cap) (by go_simp)
  clear hb1 H1 hb0
  have H2 := Lib.hid (odepth_any x.bulk x _ 60 w1 (Nat.le_refl _) hB (by omega) (HE.out _ hb2).1)
  unfold Ex.val at H2
  by_cases hsz5 : 500 < x.size
  · have HF := Lib.hid (HM.out (.inl hsz5))
    have t1 : (500 : Int) < (x.size : Int) := by omega
    go_wp2
    go_ret
    exact ⟨by rw [HF.out]; rfl, hb2⟩
  · have t1 : decide ((500 : Int) < (x.size : Int)) = false := by rw [decide_eq_false_iff_not]; omega
    have t1' : decide (500 < x.size) = false := by rw [decide_eq_false_iff_not]; omega
    obtain ⟨m, hm, hmd⟩ : ∃ m : Nat, min (60 + 1) x.depth = m ∧ (60 < m ↔ 60 < x.depth) := ⟨_, rfl, by omega⟩
    rw [hm] at H2
    go_wp2_with fail
    refine H2.out.mono ?_
    rintro e w2 ⟨rfl, hb3⟩
    have hb4 : Below w.heap.size w w2 := hb2.trans (hb3.mono hb2.size)
    have d0 := HK.out _ _ hb3 0 _ c0
    have d1 := HK.out _ _ hb3 1 _ c1
    have d2 := HK.out _ _ hb3 2 _ c2
    have d3 := HK.out _ _ hb3 3 _ c3
    have d4 := HK.out _ _ hb3 4 _ c4
    clear hb3 H2 hb2 c0 c1 c2 c3 c4
    have H3 := Lib.hid (sorted_any x.bulk x _ w2 (Nat.le_refl _) hB (HE.out _ hb4).1 hk8 (HE.out _ hb4).2)
    unfold Ex.val at H3
    by_cases hdp6 : 60 < x.depth
    · have HF := Lib.hid (HM.out (.inr hdp6))
      have t2 : (60 : Int) < (m : Int) := by omega
      go_wp2
      go_ret
      exact ⟨by rw [HF.out]; rfl, hb4⟩
    · have t2 : decide ((60 : Int) < (m : Int)) = false := by rw [decide_eq_false_iff_not]; omega
      have t2' : decide (60 < m) = false := by rw [decide_eq_false_iff_not]; omega
      go_wp2_with fail
      refine H3.out.mono ?_
      rintro e w3 ⟨rfl, hb5⟩
      have hb6 : Below w.heap.size w w3 := hb4.trans (hb5.mono hb4.size)
      clear hb5 H3 hb4 d0 d1 d2 d3 d4
      by_cases hT : x.sort = 0
      · have HF := Lib.hid (HB.out (by omega) hT)
        have t3 : ((x.sort : Int) == 0) = true := by rw [hT]; rfl
        go_wp2
        go_ret
        exact ⟨by rw [HF.out]; rfl, hb6⟩
      · have HF := Lib.hid (HO.out (by omega) hT)
        have t3 : ((x.sort : Int) == 0) = false := by simpa using hT
        go_wp2
        go_ret
        exact ⟨by rw [HF.out]; rfl, hb6⟩

set_option maxHeartbeats 1000000 in
set_option maxRecDepth 100000 in
theorem onum_any (x : Ex) (s : Value) (w : World) (hB : x.bulk ≤ 2000000) (hs : RdE w x.sub s) (hk8 : x.k < 256) (hL : LookS w) :
    Calls Tryz.prog 125 #[x.val s] w fun e w' => e = .returned (.bool (x.isA 1)) ∧ Below w.heap.size w w' := by
  obtain ⟨ad, cap, rfl⟩ := hs.len
  have hb0 := below_a1 w (.cells #[.int .u8 x.k, .string x.ra, .string x.nm, .int .i64 x.d, .slice ad x.sub.length cap] 25)
  have HE : Hid (∀ W, Below w.heap.size w W → RdE W x.sub (.slice ad x.sub.length cap) ∧ LookS W) := Lib.hid fun W hW => ⟨hs.frame hW, hL.frame hW⟩
  have H1 := Lib.hid (ochk_any x _ _ hB (HE.out _ hb0).1 hk8 (HE.out _ hb0).2)
  clear hs hL
  have HA : Hid (x.isA 1 = (decide (x.err = 0) && decide (x.sort = 1))) := Lib.hid rfl
  unfold Ex.val at H1 ⊢
  generalize x.isA 1 = R at *
  generalize x.err = E at *
  go_enter Tryz.func125, Tryz.ntmps125
  go_wp2_with fail
  refine H1.out.mono ?_
  rintro e w1 ⟨rfl, hb1⟩
  have hb2 : Below w.heap.size w w1 := hb0.trans (hb1.mono (by simp))
  have c0 : w1.cell? ⟨w.heap.size, 0, none⟩ = some (.int .u8 x.k) := by rw [hb1.cell (p := ⟨w.heap.size, 0, none⟩) (by simp)]; go_simp
  have c1 : w1.cell? ⟨w.heap.size, 1, none⟩ = some (.string x.ra) := by rw [hb1.cell (p := ⟨w.heap.size, 1, none⟩) (by simp)]; go_simp
  have c2 : w1.cell? ⟨w.heap.size, 2, none⟩ = some (.string x.nm) := by rw [hb1.cell (p := ⟨w.heap.size, 2, none⟩) (by simp)]; go_simp
  have c3 : w1.cell? ⟨w.heap.size, 3, none⟩ = some (.int .i64 x.d) := by rw [hb1.cell (p := ⟨w.heap.size, 3, none⟩) (by simp)]; go_simp
  have c4 : w1.cell? ⟨w.heap.size, 4, none⟩ = some (.slice ad x.sub.length cap) := by rw [hb1.cell (p := ⟨w.heap.size, 4, none⟩) (by simp)]; go_simp
  clear hb1 H1 hb0
  have H3 := Lib.hid (sorted_any x.bulk x _ w1 (Nat.le_refl _) hB (HE.out _ hb2).1 hk8 (HE.out _ hb2).2)
  unfold Ex.val at H3
  generalize x.sort = T at *
  by_cases hE : E = 0
  · have t0 : (E == 0) = true := by rw [hE]; rfl
    go_wp2_with fail
    refine H3.out.mono ?_
    rintro e w3 ⟨rfl, hb5⟩
    have hb6 : Below w.heap.size w w3 := hb2.trans (hb5.mono hb2.size)
    clear hb5 H3 hb2 c0 c1 c2 c3 c4
    by_cases hT : T = 1
    · have HF : Hid (R = true) := Lib.hid (by rw [HA.out, hE, hT]; rfl)
      have t3 : ((T : Int) == 1) = true := by rw [hT]; rfl
      go_wp2
      go_ret
      exact ⟨ret_bool' HF.out.symm, hb6⟩
    · have HF : Hid (R = false) := Lib.hid (by rw [HA.out, hE]; simpa using hT)
      have t3 : ((T : Int) == 1) = false := by simp; omega
      go_wp2
      go_ret
      exact ⟨ret_bool' HF.out.symm, hb6⟩
  · have HF : Hid (R = false) := Lib.hid (by rw [HA.out]; simp [hE])
    have t0 : (E == 0) = false := by simpa using hE
    go_wp2
    go_ret
    exact ⟨ret_bool' HF.out.symm, hb2⟩

set_option maxHeartbeats 1000000 in
set_option maxRecDepth 100000 in
theorem otruth_any (x : Ex) (s : Value) (w : World) (hB : x.bulk ≤ 2000000) (hs : RdE w x.sub s) (hk8 : x.k < 256) (hL : LookS w) :
    Calls Tryz.prog 126 #[x.val s] w fun e w' => e = .returned (.bool (x.isA 2)) ∧ Below w.heap.size w w' := by
  obtain ⟨ad, cap, rfl⟩ := hs.len
  have hb0 := below_a1 w (.cells #[.int .u8 x.k, .string x.ra, .string x.nm, .int .i64 x.d, .slice ad x.sub.length cap] 25)
  have HE : Hid (∀ W, Below w.heap.size w W → RdE W x.sub (.slice ad x.sub.length cap) ∧ LookS W) := Lib.hid fun W hW => ⟨hs.frame hW, hL.frame hW⟩
  have H1 := Lib.hid (ochk_any x _ _ hB (HE.out _ hb0).1 hk8 (HE.out _ hb0).2)
  clear hs hL
  have HA : Hid (x.isA 2 = (decide (x.err = 0) && decide (x.sort = 2))) := Lib.hid rfl
  unfold Ex.val at H1 ⊢
  generalize x.isA 2 = R at *
  generalize x.err = E at *
  go_enter Tryz.func126, Tryz.ntmps126
  go_wp2_with fail
  refine H1.out.mono ?_
  rintro e w1 ⟨rfl, hb1⟩
  have hb2 : Below w.heap.size w w1 := hb0.trans (hb1.mono (by simp))
  have c0 : w1.cell? ⟨w.heap.size, 0, none⟩ = some (.int .u8 x.k) := by rw [hb1.cell (p := ⟨w.heap.size, 0, none⟩) (by simp)]; go_simp
  have c1 : w1.cell? ⟨w.heap.size, 1, none⟩ = some (.string x.ra) := by rw [hb1.cell (p := ⟨w.heap.size, 1, none⟩) (by simp)]; go_simp
  have c2 : w1.cell? ⟨w.heap.size, 2, none⟩ = some (.string x.nm) := by rw [hb1.cell (p := ⟨w.heap.size, 2, none⟩) (by simp)]; go_simp
  have c3 : w1.cell? ⟨w.heap.size, 3, none⟩ = some (.int .i64 x.d) := by rw [hb1.cell (p := ⟨w.heap.size, 3, none⟩) (by simp)]; go_simp
  have c4 : w1.cell? ⟨w.heap.size, 4, none⟩ = some (.slice ad x.sub.length cap) := by rw [hb1.cell (p := ⟨w.heap.size, 4, none⟩) (by simp)]; go_simp
  clear hb1 H1 hb0
  have H3 := Lib.hid (sorted_any x.bulk x _ w1 (Nat.le_refl _) hB (HE.out _ hb2).1 hk8 (HE.out _ hb2).2)
  unfold Ex.val at H3
  generalize x.sort = T at *
  by_cases hE : E = 0
  · have t0 : (E == 0) = true := by rw [hE]; rfl
    go_wp2_with fail
    refine H3.out.mono ?_
    rintro e w3 ⟨rfl, hb5⟩
    have hb6 : Below w.heap.size w w3 := hb2.trans (hb5.mono hb2.size)
    clear hb5 H3 hb2 c0 c1 c2 c3 c4
    by_cases hT : T = 2
    · have HF : Hid (R = true) := Lib.hid (by rw [HA.out, hE, hT]; rfl)
      have t3 : ((T : Int) == 2) = true := by rw [hT]; rfl
      go_wp2
      go_ret
      exact ⟨ret_bool' HF.out.symm, hb6⟩
    · have HF : Hid (R = false) := Lib.hid (by rw [HA.out, hE]; simpa using hT)
      have t3 : ((T : Int) == 2) = false := by simp; omega
      go_wp2
      go_ret
      exact ⟨ret_bool' HF.out.symm, hb6⟩
  · have HF : Hid (R = false) := Lib.hid (by rw [HA.out]; simp [hE])
    have t0 : (E == 0) = false := by simpa using hE
    go_wp2
    go_ret
    exact ⟨ret_bool' HF.out.symm, hb2⟩
end Go.Proofs.YtflddbgadkndlaaGreatDoor

namespace Go.Proofs.YtflddbgadkndlaaGreatDoor
open Go.RowKit

set_option maxRecDepth 100000 in
theorem has_any (p part : Int) (r : Bool) (hr : (bits BinOp.and IntKind.i64 p part != 0) = r) (B : Nat) (w : World) (hc : w.cell? ⟨B, 0, none⟩ = some (.int .i64 p)) :
    Calls Tryz.prog 123 #[.int .i64 part, .pointer (some ⟨B, 0, none⟩)] w fun e w' => e = .returned (.bool r) ∧ w = w' := by
  have hB : B < w.heap.size := World.block_lt_of_cell? w _ hc
  go_enter Tryz.func123, Tryz.ntmps123
  go_wp2
  go_ret
  exact ⟨rfl, rfl⟩

/-- What 'word' answers. -/
def wordB (r : Bool) (s : ByteArray) : Bool := if r = true then isNm (bl s) else decide (s.size = 0)
set_option maxRecDepth 100000 in
theorem word_any (p part : Int) (r : Bool) (hr : (bits BinOp.and IntKind.i64 p part != 0) = r) (s : ByteArray) (hl : s.size ≤ 2000000) (B B2 : Nat) (w : World) (hc : w.cell? ⟨B, 0, none⟩ = some (.int .i64 p))
    (hc2 : w.cell? ⟨B2, 0, none⟩ = some (.func (.func 123) #[] #[.pointer (some ⟨B, 0, none⟩)])) :
    Calls Tryz.prog 124 #[.int .i64 part, .string s, .pointer (some ⟨B2, 0, none⟩)] w fun e w' => e = .returned (.bool (wordB r s)) ∧ w = w' := by
  have hB : B < w.heap.size := World.block_lt_of_cell? w _ hc
  have hB2 : B2 < w.heap.size := World.block_lt_of_cell? w _ hc2
  have HH := Lib.hid (has_any p part r hr B w hc)
  have HN := Lib.hid (name_any s w (by omega))
  clear hr
  cases r with
  | true =>
    have HF : Hid (wordB true s = isNm (bl s)) := Lib.hid rfl
    generalize wordB true s = R at *
    cases hnm : isNm (bl s) <;> rw [hnm] at HN HF
    all_goals
      go_enter Tryz.func124, Tryz.ntmps124
      go_wp2_with (first | (go_at_call 123; refine HH.out.mono ?_; rintro e w1 ⟨rfl, rfl⟩) | (go_at_call 81; refine HN.out.mono ?_; rintro e w1 ⟨rfl, rfl⟩))
      go_ret
      exact ⟨ret_bool' HF.out.symm, rfl⟩
  | false =>
    have HF : Hid (wordB false s = decide (s.size = 0)) := Lib.hid rfl
    generalize wordB false s = R at *
    go_enter Tryz.func124, Tryz.ntmps124
    go_wp2_with (first | (go_at_call 123; refine HH.out.mono ?_; rintro e w1 ⟨rfl, rfl⟩))
    all_goals
      go_ret
      exact ⟨ret_bool' (by rw [HF.out]; cases hq : s.toList <;> simp_all [emp_nil]), rfl⟩
end Go.Proofs.YtflddbgadkndlaaGreatDoor

namespace Go.Proofs.YtflddbgadkndlaaGreatDoor
open Go.RowKit

theorem len_one {α : Type} (l : List α) : ((l.length : Int) == 1) = decide (l.length = 1) := by rw [Bool.eq_iff_iff]; simp; omega
theorem len_two {α : Type} (l : List α) : ((l.length : Int) == 2) = decide (l.length = 2) := by rw [Bool.eq_iff_iff]; simp; omega
/-- The parts of a kind. -/
def partOf (k : Nat) : Option Nat :=
  if k = 1 then some 0 else if k = 2 then some 15 else if k = 3 then some 256 else if k = 4 then some 136 else if k = 5 then some 272 else if k = 6 then some 160
  else if k = 7 then some 261 else if k = 8 then some 197 else if k = 9 ∨ k = 10 then some 208 else none
/-- What a look-up among the parts answers. -/
def PartAt (bm : Nat) (W : World) (k : Nat) : Option Nat → Prop
  | none => (Instr.lookup 159 (.map (some bm)) (.int .u8 (k : Int)) true).run Tryz.prog W = .ok (.tuple #[.int .i64 0, .bool false]) W
  | some m => (Instr.lookup 159 (.map (some bm)) (.int .u8 (k : Int)) true).run Tryz.prog W = .ok (.tuple #[.int .i64 (m : Int), .bool true]) W
/-- The variable 'parts' holds its table, and every later world reads it so. -/
def LookP (w : World) : Prop := ∃ bm, w.cell? ⟨0, 0, none⟩ = some (.map (some bm)) ∧ ∀ W, Below w.heap.size w W → ∀ k, k < 256 → PartAt bm W k (partOf k)
theorem LookP.frame {w w' : World} (h : LookP w) (hb : Below w.heap.size w w') : LookP w' := by
  obtain ⟨bm, hc, h2⟩ := h
  exact ⟨bm, by rw [hb.cell (p := ⟨0, 0, none⟩) (World.block_lt_of_cell? w _ hc)]; exact hc, fun W hW k hk => h2 W (hb.trans (hW.mono hb.size)) k hk⟩

/-- What 'node' asks, by its parts. -/
noncomputable def nodeP (b1 b2 b4 b8 b16 b32 b64 : Bool) (n : Nat) (c : Con) : Bool :=
  wordB b1 c.fr && (wordB b2 c.rc && (wordB b4 c.nm && (!(b2 && decide (c.fr = c.rc)) && ((if b8 = true then c.ex.isA 1 else if b16 = true then c.ex.isA 2 else c.ex.bare) &&
    ((if b32 = true then isDay c.d else decide (c.d = 0)) && ((if b64 = true then isDays c.ds else decide (c.ds.length = 0)) && decide (c.sub.length = n)))))))

end Go.Proofs.YtflddbgadkndlaaGreatDoor

namespace Go.Proofs.YtflddbgadkndlaaGreatDoor
open Go.RowKit

set_option maxHeartbeats 4000000 in
set_option maxRecDepth 100000 in
theorem node_m0 (c : Con) (w : World) (bm : Nat) (ad ad1 ad2 : Option Addr) (cap cap1 cap2 : Nat) (hB : c.bulk ≤ 2000000) (hm : w.cell? ⟨0, 0, none⟩ = some (.map (some bm)))
    (hr : RdN w c (.slice ad1 c.ex.sub.length cap1) (.slice ad2 c.ds.length cap2) (.slice ad c.sub.length cap)) (_HLS : Hid (LookS w))
    (hlk : ∀ W, Below w.heap.size w W → (Instr.lookup 159 (.map (some bm)) (.int .u8 (c.k : Int)) true).run Tryz.prog W = .ok (.tuple #[.int .i64 0, .bool true]) W) :
    Calls Tryz.prog 96 #[c.val (.slice ad1 c.ex.sub.length cap1) (.slice ad2 c.ds.length cap2) (.slice ad c.sub.length cap)] w fun e w' => e = .returned (.bool (nodeP false false false false false false false 0 c)) ∧ Below w.heap.size w w' := by
  have hmb : 0 < w.heap.size := World.block_lt_of_cell? w _ hm
  have hlk1 := hlk _ (below_a1 w (.cells #[.int .u8 c.k, .string c.fr, .string c.rc, .string c.nm, .int .u8 c.ex.k, .string c.ex.ra, .string c.ex.nm, .int .i64 c.ex.d, .slice ad1 c.ex.sub.length cap1, .int .i64 c.d, .slice ad2 c.ds.length cap2, .slice ad c.sub.length cap] 29))
  have hbq := c.bulk_eq
  have hl1 := Con.bulks_len c.sub
  have hk8 := hr.2.2.2.2
  have hB2 : c.ex.bulk ≤ 2000000 := by omega
  have hn1 : c.sub.length ≤ 2000000 := by omega
  have hn2 : c.ds.length ≤ 2000000 := by omega
  have hf1 : c.fr.size ≤ 2000000 := by omega
  have hf2 : c.rc.size ≤ 2000000 := by omega
  have hf3 : c.nm.size ≤ 2000000 := by omega
  have HE : Hid (∀ W, Below w.heap.size w W → RdE W c.ex.sub (.slice ad1 c.ex.sub.length cap1)) := Lib.hid fun W hb => hr.1.frame hb
  have HX : Hid (∀ W, Below w.heap.size w W → Calls Tryz.prog 118 #[.agg #[.int .u8 c.ex.k, .string c.ex.ra, .string c.ex.nm, .int .i64 c.ex.d, .slice ad1 c.ex.sub.length cap1]] W fun e w' => e = .returned (.bool (c.ex.bare)) ∧ Below W.heap.size W w') := Lib.hid fun W hb => bare_any c.ex _ W (HE.out W hb)
  have HD : Hid (∀ W, Below w.heap.size w W → Calls Tryz.prog 128 #[.slice ad2 c.ds.length cap2] W fun e w' => e = .returned (.bool (isDays c.ds)) ∧ W = w') := Lib.hid fun W hb => days_any c.ds _ W hn2 (hr.2.1.frame hb)
  have HY : Hid (∀ W, Calls Tryz.prog 127 #[.int .i64 c.d] W fun e w' => e = .returned (.bool (isDay c.d)) ∧ W = w') := Lib.hid fun W => cwithin_any c.d W
  clear hlk hbq hl1 hr
  have hh1 : (bits BinOp.and IntKind.i64 0 1 != 0) = false := by decide
  have hh2 : (bits BinOp.and IntKind.i64 0 2 != 0) = false := by decide
  have hh4 : (bits BinOp.and IntKind.i64 0 4 != 0) = false := by decide
  have hh8 : (bits BinOp.and IntKind.i64 0 8 != 0) = false := by decide
  have hh16 : (bits BinOp.and IntKind.i64 0 16 != 0) = false := by decide
  have hh32 : (bits BinOp.and IntKind.i64 0 32 != 0) = false := by decide
  have hh64 : (bits BinOp.and IntKind.i64 0 64 != 0) = false := by decide
  have hh128 : (bits BinOp.and IntKind.i64 0 128 != 0) = false := by decide
  have hh256 : (bits BinOp.and IntKind.i64 0 256 != 0) = false := by decide
  have HR : Hid (nodeP false false false false false false false 0 c = (wordB false c.fr && (wordB false c.rc && (wordB false c.nm && (!(false && (c.fr.toList == c.rc.toList)) && ((c.ex.bare) && ((decide (c.d = 0)) && ((decide (c.ds.length = 0)) && decide (c.sub.length = 0))))))))) := Lib.hid (by unfold nodeP; rw [toList_beq]; rfl)
  generalize nodeP false false false false false false false 0 c = R at *
  unfold Con.val
  go_enter Tryz.func96, Tryz.ntmps96
  go_wp2_with fail
  have hbW := below_a3 w (.cells #[.int .u8 c.k, .string c.fr, .string c.rc, .string c.nm, .int .u8 c.ex.k, .string c.ex.ra, .string c.ex.nm, .int .i64 c.ex.d, .slice ad1 c.ex.sub.length cap1, .int .i64 c.d, .slice ad2 c.ds.length cap2, .slice ad c.sub.length cap] 29) (.cells #[.int .i64 0] 3) (.cells #[.func (.func 123) #[] #[.pointer (some ⟨w.heap.size + 1, 0, none⟩)]] 125)
  have hzW : w.heap.size + 3 ≤ (((w.alloc (.cells #[.int .u8 c.k, .string c.fr, .string c.rc, .string c.nm, .int .u8 c.ex.k, .string c.ex.ra, .string c.ex.nm, .int .i64 c.ex.d, .slice ad1 c.ex.sub.length cap1, .int .i64 c.d, .slice ad2 c.ds.length cap2, .slice ad c.sub.length cap] 29)).alloc (.cells #[.int .i64 0] 3)).alloc (.cells #[.func (.func 123) #[] #[.pointer (some ⟨w.heap.size + 1, 0, none⟩)]] 125)).heap.size := by simp
  have q1 : (((w.alloc (.cells #[.int .u8 c.k, .string c.fr, .string c.rc, .string c.nm, .int .u8 c.ex.k, .string c.ex.ra, .string c.ex.nm, .int .i64 c.ex.d, .slice ad1 c.ex.sub.length cap1, .int .i64 c.d, .slice ad2 c.ds.length cap2, .slice ad c.sub.length cap] 29)).alloc (.cells #[.int .i64 0] 3)).alloc (.cells #[.func (.func 123) #[] #[.pointer (some ⟨w.heap.size + 1, 0, none⟩)]] 125)).cell? ⟨w.heap.size, 1, none⟩ = some (.string c.fr) := by go_simp
  have q2 : (((w.alloc (.cells #[.int .u8 c.k, .string c.fr, .string c.rc, .string c.nm, .int .u8 c.ex.k, .string c.ex.ra, .string c.ex.nm, .int .i64 c.ex.d, .slice ad1 c.ex.sub.length cap1, .int .i64 c.d, .slice ad2 c.ds.length cap2, .slice ad c.sub.length cap] 29)).alloc (.cells #[.int .i64 0] 3)).alloc (.cells #[.func (.func 123) #[] #[.pointer (some ⟨w.heap.size + 1, 0, none⟩)]] 125)).cell? ⟨w.heap.size, 2, none⟩ = some (.string c.rc) := by go_simp
  have q3 : (((w.alloc (.cells #[.int .u8 c.k, .string c.fr, .string c.rc, .string c.nm, .int .u8 c.ex.k, .string c.ex.ra, .string c.ex.nm, .int .i64 c.ex.d, .slice ad1 c.ex.sub.length cap1, .int .i64 c.d, .slice ad2 c.ds.length cap2, .slice ad c.sub.length cap] 29)).alloc (.cells #[.int .i64 0] 3)).alloc (.cells #[.func (.func 123) #[] #[.pointer (some ⟨w.heap.size + 1, 0, none⟩)]] 125)).cell? ⟨w.heap.size, 3, none⟩ = some (.string c.nm) := by go_simp
  have q4 : (((w.alloc (.cells #[.int .u8 c.k, .string c.fr, .string c.rc, .string c.nm, .int .u8 c.ex.k, .string c.ex.ra, .string c.ex.nm, .int .i64 c.ex.d, .slice ad1 c.ex.sub.length cap1, .int .i64 c.d, .slice ad2 c.ds.length cap2, .slice ad c.sub.length cap] 29)).alloc (.cells #[.int .i64 0] 3)).alloc (.cells #[.func (.func 123) #[] #[.pointer (some ⟨w.heap.size + 1, 0, none⟩)]] 125)).cell? ⟨w.heap.size, 4, none⟩ = some (.int .u8 c.ex.k) := by go_simp
  have q5 : (((w.alloc (.cells #[.int .u8 c.k, .string c.fr, .string c.rc, .string c.nm, .int .u8 c.ex.k, .string c.ex.ra, .string c.ex.nm, .int .i64 c.ex.d, .slice ad1 c.ex.sub.length cap1, .int .i64 c.d, .slice ad2 c.ds.length cap2, .slice ad c.sub.length cap] 29)).alloc (.cells #[.int .i64 0] 3)).alloc (.cells #[.func (.func 123) #[] #[.pointer (some ⟨w.heap.size + 1, 0, none⟩)]] 125)).cell? ⟨w.heap.size, 5, none⟩ = some (.string c.ex.ra) := by go_simp
  have q6 : (((w.alloc (.cells #[.int .u8 c.k, .string c.fr, .string c.rc, .string c.nm, .int .u8 c.ex.k, .string c.ex.ra, .string c.ex.nm, .int .i64 c.ex.d, .slice ad1 c.ex.sub.length cap1, .int .i64 c.d, .slice ad2 c.ds.length cap2, .slice ad c.sub.length cap] 29)).alloc (.cells #[.int .i64 0] 3)).alloc (.cells #[.func (.func 123) #[] #[.pointer (some ⟨w.heap.size + 1, 0, none⟩)]] 125)).cell? ⟨w.heap.size, 6, none⟩ = some (.string c.ex.nm) := by go_simp
  have q7 : (((w.alloc (.cells #[.int .u8 c.k, .string c.fr, .string c.rc, .string c.nm, .int .u8 c.ex.k, .string c.ex.ra, .string c.ex.nm, .int .i64 c.ex.d, .slice ad1 c.ex.sub.length cap1, .int .i64 c.d, .slice ad2 c.ds.length cap2, .slice ad c.sub.length cap] 29)).alloc (.cells #[.int .i64 0] 3)).alloc (.cells #[.func (.func 123) #[] #[.pointer (some ⟨w.heap.size + 1, 0, none⟩)]] 125)).cell? ⟨w.heap.size, 7, none⟩ = some (.int .i64 c.ex.d) := by go_simp
  have q8 : (((w.alloc (.cells #[.int .u8 c.k, .string c.fr, .string c.rc, .string c.nm, .int .u8 c.ex.k, .string c.ex.ra, .string c.ex.nm, .int .i64 c.ex.d, .slice ad1 c.ex.sub.length cap1, .int .i64 c.d, .slice ad2 c.ds.length cap2, .slice ad c.sub.length cap] 29)).alloc (.cells #[.int .i64 0] 3)).alloc (.cells #[.func (.func 123) #[] #[.pointer (some ⟨w.heap.size + 1, 0, none⟩)]] 125)).cell? ⟨w.heap.size, 8, none⟩ = some (.slice ad1 c.ex.sub.length cap1) := by go_simp
  have q9 : (((w.alloc (.cells #[.int .u8 c.k, .string c.fr, .string c.rc, .string c.nm, .int .u8 c.ex.k, .string c.ex.ra, .string c.ex.nm, .int .i64 c.ex.d, .slice ad1 c.ex.sub.length cap1, .int .i64 c.d, .slice ad2 c.ds.length cap2, .slice ad c.sub.length cap] 29)).alloc (.cells #[.int .i64 0] 3)).alloc (.cells #[.func (.func 123) #[] #[.pointer (some ⟨w.heap.size + 1, 0, none⟩)]] 125)).cell? ⟨w.heap.size, 9, none⟩ = some (.int .i64 c.d) := by go_simp
  have q10 : (((w.alloc (.cells #[.int .u8 c.k, .string c.fr, .string c.rc, .string c.nm, .int .u8 c.ex.k, .string c.ex.ra, .string c.ex.nm, .int .i64 c.ex.d, .slice ad1 c.ex.sub.length cap1, .int .i64 c.d, .slice ad2 c.ds.length cap2, .slice ad c.sub.length cap] 29)).alloc (.cells #[.int .i64 0] 3)).alloc (.cells #[.func (.func 123) #[] #[.pointer (some ⟨w.heap.size + 1, 0, none⟩)]] 125)).cell? ⟨w.heap.size, 10, none⟩ = some (.slice ad2 c.ds.length cap2) := by go_simp
  have q11 : (((w.alloc (.cells #[.int .u8 c.k, .string c.fr, .string c.rc, .string c.nm, .int .u8 c.ex.k, .string c.ex.ra, .string c.ex.nm, .int .i64 c.ex.d, .slice ad1 c.ex.sub.length cap1, .int .i64 c.d, .slice ad2 c.ds.length cap2, .slice ad c.sub.length cap] 29)).alloc (.cells #[.int .i64 0] 3)).alloc (.cells #[.func (.func 123) #[] #[.pointer (some ⟨w.heap.size + 1, 0, none⟩)]] 125)).cell? ⟨w.heap.size, 11, none⟩ = some (.slice ad c.sub.length cap) := by go_simp
  have q12 : (((w.alloc (.cells #[.int .u8 c.k, .string c.fr, .string c.rc, .string c.nm, .int .u8 c.ex.k, .string c.ex.ra, .string c.ex.nm, .int .i64 c.ex.d, .slice ad1 c.ex.sub.length cap1, .int .i64 c.d, .slice ad2 c.ds.length cap2, .slice ad c.sub.length cap] 29)).alloc (.cells #[.int .i64 0] 3)).alloc (.cells #[.func (.func 123) #[] #[.pointer (some ⟨w.heap.size + 1, 0, none⟩)]] 125)).cell? ⟨w.heap.size + 1, 0, none⟩ = some (.int .i64 0) := by go_simp
  have q13 : (((w.alloc (.cells #[.int .u8 c.k, .string c.fr, .string c.rc, .string c.nm, .int .u8 c.ex.k, .string c.ex.ra, .string c.ex.nm, .int .i64 c.ex.d, .slice ad1 c.ex.sub.length cap1, .int .i64 c.d, .slice ad2 c.ds.length cap2, .slice ad c.sub.length cap] 29)).alloc (.cells #[.int .i64 0] 3)).alloc (.cells #[.func (.func 123) #[] #[.pointer (some ⟨w.heap.size + 1, 0, none⟩)]] 125)).cell? ⟨w.heap.size + 1 + 1, 0, none⟩ = some (.func (.func 123) #[] #[.pointer (some ⟨w.heap.size + 1, 0, none⟩)]) := by go_simp
  obtain ⟨W, hW⟩ : ∃ W, (((w.alloc (.cells #[.int .u8 c.k, .string c.fr, .string c.rc, .string c.nm, .int .u8 c.ex.k, .string c.ex.ra, .string c.ex.nm, .int .i64 c.ex.d, .slice ad1 c.ex.sub.length cap1, .int .i64 c.d, .slice ad2 c.ds.length cap2, .slice ad c.sub.length cap] 29)).alloc (.cells #[.int .i64 0] 3)).alloc (.cells #[.func (.func 123) #[] #[.pointer (some ⟨w.heap.size + 1, 0, none⟩)]] 125)) = W := ⟨_, rfl⟩
  rw [hW] at hbW hzW q1 q2 q3 q4 q5 q6 q7 q8 q9 q10 q11 q12 q13 ⊢
  clear hW hlk1
  have HW1 := Lib.hid (word_any 0 1 _ hh1 c.fr hf1 _ _ W q12 q13)
  have HW2 := Lib.hid (word_any 0 2 _ hh2 c.rc hf2 _ _ W q12 q13)
  have HW4 := Lib.hid (word_any 0 4 _ hh4 c.nm hf3 _ _ W q12 q13)
  have HH : Hid (∀ (part : Int) (r : Bool), (bits BinOp.and IntKind.i64 0 part != 0) = r → ∀ W', W'.cell? ⟨w.heap.size + 1, 0, none⟩ = some (.int .i64 0) → Calls Tryz.prog 123 #[.int .i64 part, .pointer (some ⟨w.heap.size + 1, 0, none⟩)] W' fun e w' => e = .returned (.bool r) ∧ W' = w') := Lib.hid fun part r h W' hc => has_any 0 part r h _ W' hc
  have HK : Hid (∀ W2, Below W.heap.size W W2 → W2.cell? ⟨w.heap.size, 9, none⟩ = some (.int .i64 c.d) ∧ W2.cell? ⟨w.heap.size, 10, none⟩ = some (.slice ad2 c.ds.length cap2) ∧ W2.cell? ⟨w.heap.size, 11, none⟩ = some (.slice ad c.sub.length cap) ∧ W2.cell? ⟨w.heap.size + 1, 0, none⟩ = some (.int .i64 0) ∧
      W2.cell? ⟨w.heap.size + 1 + 1, 0, none⟩ = some (.func (.func 123) #[] #[.pointer (some ⟨w.heap.size + 1, 0, none⟩)]) ∧ Below w.heap.size w W2) := Lib.hid fun W2 h =>
    ⟨by rw [h.cell (p := ⟨w.heap.size, 9, none⟩) (by show w.heap.size < _; omega)]; exact q9, by rw [h.cell (p := ⟨w.heap.size, 10, none⟩) (by show w.heap.size < _; omega)]; exact q10, by rw [h.cell (p := ⟨w.heap.size, 11, none⟩) (by show w.heap.size < _; omega)]; exact q11,
      by rw [h.cell (p := ⟨w.heap.size + 1, 0, none⟩) (by show w.heap.size + 1 < _; omega)]; exact q12, by rw [h.cell (p := ⟨w.heap.size + 1 + 1, 0, none⟩) (by show w.heap.size + 1 + 1 < _; omega)]; exact q13, hbW.trans (h.mono (by omega))⟩
  have hx0 : w.heap.size < W.heap.size := by omega
  have hx1 : w.heap.size + 1 < W.heap.size := by omega
  have hx2 : w.heap.size + 1 + 1 < W.heap.size := by omega
  clear hzW hm hmb
  generalize wordB false c.fr = B1 at *
  generalize wordB false c.rc = B2 at *
  generalize wordB false c.nm = B3 at *
  generalize c.ex.bare = E at *
  generalize isDay c.d = DY at *
  generalize isDays c.ds = DS at *
  go_wp2_with (first
    | (go_at_call 124; (first | with_reducible refine HW1.out.mono ?_ | with_reducible refine HW2.out.mono ?_ | with_reducible refine HW4.out.mono ?_); rintro e w1 ⟨rfl, rfl⟩)
    | (go_at_call 123; refine (HH.out _ _ (by assumption) _ (by assumption)).mono ?_; rintro e w1 ⟨rfl, rfl⟩)
    | (go_at_call 118; refine (HX.out _ (by assumption)).mono ?_; rintro e W2 ⟨rfl, hb2⟩; obtain ⟨r9, r10, r11, r12, r13, hbW2⟩ := HK.out W2 hb2; clear hb2)
    | (go_at_call 127; refine (HY.out _).mono ?_; rintro e w1 ⟨rfl, rfl⟩)
    | (go_at_call 128; refine (HD.out _ (by assumption)).mono ?_; rintro e w1 ⟨rfl, rfl⟩))
  all_goals
    go_ret
    first
      | exact ⟨ret_bool' (by rw [HR.out]; simp [*, len_nil]), hbW2⟩
      | exact ⟨ret_bool' (by rw [HR.out]; simp [*]), hbW⟩
end Go.Proofs.YtflddbgadkndlaaGreatDoor

namespace Go.Proofs.YtflddbgadkndlaaGreatDoor
open Go.RowKit

set_option maxHeartbeats 4000000 in
set_option maxRecDepth 100000 in
theorem node_m15 (c : Con) (w : World) (bm : Nat) (ad ad1 ad2 : Option Addr) (cap cap1 cap2 : Nat) (hB : c.bulk ≤ 2000000) (hm : w.cell? ⟨0, 0, none⟩ = some (.map (some bm)))
    (hr : RdN w c (.slice ad1 c.ex.sub.length cap1) (.slice ad2 c.ds.length cap2) (.slice ad c.sub.length cap)) (HLS : Hid (LookS w))
    (hlk : ∀ W, Below w.heap.size w W → (Instr.lookup 159 (.map (some bm)) (.int .u8 (c.k : Int)) true).run Tryz.prog W = .ok (.tuple #[.int .i64 15, .bool true]) W) :
    Calls Tryz.prog 96 #[c.val (.slice ad1 c.ex.sub.length cap1) (.slice ad2 c.ds.length cap2) (.slice ad c.sub.length cap)] w fun e w' => e = .returned (.bool (nodeP true true true true false false false 0 c)) ∧ Below w.heap.size w w' := by
  have hmb : 0 < w.heap.size := World.block_lt_of_cell? w _ hm
  have hlk1 := hlk _ (below_a1 w (.cells #[.int .u8 c.k, .string c.fr, .string c.rc, .string c.nm, .int .u8 c.ex.k, .string c.ex.ra, .string c.ex.nm, .int .i64 c.ex.d, .slice ad1 c.ex.sub.length cap1, .int .i64 c.d, .slice ad2 c.ds.length cap2, .slice ad c.sub.length cap] 29))
  have hbq := c.bulk_eq
  have hl1 := Con.bulks_len c.sub
  have hk8 := hr.2.2.2.2
  have hB2 : c.ex.bulk ≤ 2000000 := by omega
  have hn1 : c.sub.length ≤ 2000000 := by omega
  have hn2 : c.ds.length ≤ 2000000 := by omega
  have hf1 : c.fr.size ≤ 2000000 := by omega
  have hf2 : c.rc.size ≤ 2000000 := by omega
  have hf3 : c.nm.size ≤ 2000000 := by omega
  have HE : Hid (∀ W, Below w.heap.size w W → RdE W c.ex.sub (.slice ad1 c.ex.sub.length cap1)) := Lib.hid fun W hb => hr.1.frame hb
  have HX : Hid (∀ W, Below w.heap.size w W → Calls Tryz.prog 125 #[.agg #[.int .u8 c.ex.k, .string c.ex.ra, .string c.ex.nm, .int .i64 c.ex.d, .slice ad1 c.ex.sub.length cap1]] W fun e w' => e = .returned (.bool (c.ex.isA 1)) ∧ Below W.heap.size W w') := Lib.hid fun W hb => onum_any c.ex _ W hB2 (HE.out W hb) hk8 (HLS.out.frame hb)
  have HD : Hid (∀ W, Below w.heap.size w W → Calls Tryz.prog 128 #[.slice ad2 c.ds.length cap2] W fun e w' => e = .returned (.bool (isDays c.ds)) ∧ W = w') := Lib.hid fun W hb => days_any c.ds _ W hn2 (hr.2.1.frame hb)
  have HY : Hid (∀ W, Calls Tryz.prog 127 #[.int .i64 c.d] W fun e w' => e = .returned (.bool (isDay c.d)) ∧ W = w') := Lib.hid fun W => cwithin_any c.d W
  clear hlk hbq hl1 hr
  have hh1 : (bits BinOp.and IntKind.i64 15 1 != 0) = true := by decide
  have hh2 : (bits BinOp.and IntKind.i64 15 2 != 0) = true := by decide
  have hh4 : (bits BinOp.and IntKind.i64 15 4 != 0) = true := by decide
  have hh8 : (bits BinOp.and IntKind.i64 15 8 != 0) = true := by decide
  have hh16 : (bits BinOp.and IntKind.i64 15 16 != 0) = false := by decide
  have hh32 : (bits BinOp.and IntKind.i64 15 32 != 0) = false := by decide
  have hh64 : (bits BinOp.and IntKind.i64 15 64 != 0) = false := by decide
  have hh128 : (bits BinOp.and IntKind.i64 15 128 != 0) = false := by decide
  have hh256 : (bits BinOp.and IntKind.i64 15 256 != 0) = false := by decide
  have HR : Hid (nodeP true true true true false false false 0 c = (wordB true c.fr && (wordB true c.rc && (wordB true c.nm && (!(true && (c.fr.toList == c.rc.toList)) && ((c.ex.isA 1) && ((decide (c.d = 0)) && ((decide (c.ds.length = 0)) && decide (c.sub.length = 0))))))))) := Lib.hid (by unfold nodeP; rw [toList_beq]; rfl)
  generalize nodeP true true true true false false false 0 c = R at *
  unfold Con.val
  go_enter Tryz.func96, Tryz.ntmps96
  go_wp2_with fail
  have hbW := below_a3 w (.cells #[.int .u8 c.k, .string c.fr, .string c.rc, .string c.nm, .int .u8 c.ex.k, .string c.ex.ra, .string c.ex.nm, .int .i64 c.ex.d, .slice ad1 c.ex.sub.length cap1, .int .i64 c.d, .slice ad2 c.ds.length cap2, .slice ad c.sub.length cap] 29) (.cells #[.int .i64 15] 3) (.cells #[.func (.func 123) #[] #[.pointer (some ⟨w.heap.size + 1, 0, none⟩)]] 125)
  have hzW : w.heap.size + 3 ≤ (((w.alloc (.cells #[.int .u8 c.k, .string c.fr, .string c.rc, .string c.nm, .int .u8 c.ex.k, .string c.ex.ra, .string c.ex.nm, .int .i64 c.ex.d, .slice ad1 c.ex.sub.length cap1, .int .i64 c.d, .slice ad2 c.ds.length cap2, .slice ad c.sub.length cap] 29)).alloc (.cells #[.int .i64 15] 3)).alloc (.cells #[.func (.func 123) #[] #[.pointer (some ⟨w.heap.size + 1, 0, none⟩)]] 125)).heap.size := by simp
  have q1 : (((w.alloc (.cells #[.int .u8 c.k, .string c.fr, .string c.rc, .string c.nm, .int .u8 c.ex.k, .string c.ex.ra, .string c.ex.nm, .int .i64 c.ex.d, .slice ad1 c.ex.sub.length cap1, .int .i64 c.d, .slice ad2 c.ds.length cap2, .slice ad c.sub.length cap] 29)).alloc (.cells #[.int .i64 15] 3)).alloc (.cells #[.func (.func 123) #[] #[.pointer (some ⟨w.heap.size + 1, 0, none⟩)]] 125)).cell? ⟨w.heap.size, 1, none⟩ = some (.string c.fr) := by go_simp
  have q2 : (((w.alloc (.cells #[.int .u8 c.k, .string c.fr, .string c.rc, .string c.nm, .int .u8 c.ex.k, .string c.ex.ra, .string c.ex.nm, .int .i64 c.ex.d, .slice ad1 c.ex.sub.length cap1, .int .i64 c.d, .slice ad2 c.ds.length cap2, .slice ad c.sub.length cap] 29)).alloc (.cells #[.int .i64 15] 3)).alloc (.cells #[.func (.func 123) #[] #[.pointer (some ⟨w.heap.size + 1, 0, none⟩)]] 125)).cell? ⟨w.heap.size, 2, none⟩ = some (.string c.rc) := by go_simp
  have q3 : (((w.alloc (.cells #[.int .u8 c.k, .string c.fr, .string c.rc, .string c.nm, .int .u8 c.ex.k, .string c.ex.ra, .string c.ex.nm, .int .i64 c.ex.d, .slice ad1 c.ex.sub.length cap1, .int .i64 c.d, .slice ad2 c.ds.length cap2, .slice ad c.sub.length cap] 29)).alloc (.cells #[.int .i64 15] 3)).alloc (.cells #[.func (.func 123) #[] #[.pointer (some ⟨w.heap.size + 1, 0, none⟩)]] 125)).cell? ⟨w.heap.size, 3, none⟩ = some (.string c.nm) := by go_simp
  have q4 : (((w.alloc (.cells #[.int .u8 c.k, .string c.fr, .string c.rc, .string c.nm, .int .u8 c.ex.k, .string c.ex.ra, .string c.ex.nm, .int .i64 c.ex.d, .slice ad1 c.ex.sub.length cap1, .int .i64 c.d, .slice ad2 c.ds.length cap2, .slice ad c.sub.length cap] 29)).alloc (.cells #[.int .i64 15] 3)).alloc (.cells #[.func (.func 123) #[] #[.pointer (some ⟨w.heap.size + 1, 0, none⟩)]] 125)).cell? ⟨w.heap.size, 4, none⟩ = some (.int .u8 c.ex.k) := by go_simp
  have q5 : (((w.alloc (.cells #[.int .u8 c.k, .string c.fr, .string c.rc, .string c.nm, .int .u8 c.ex.k, .string c.ex.ra, .string c.ex.nm, .int .i64 c.ex.d, .slice ad1 c.ex.sub.length cap1, .int .i64 c.d, .slice ad2 c.ds.length cap2, .slice ad c.sub.length cap] 29)).alloc (.cells #[.int .i64 15] 3)).alloc (.cells #[.func (.func 123) #[] #[.pointer (some ⟨w.heap.size + 1, 0, none⟩)]] 125)).cell? ⟨w.heap.size, 5, none⟩ = some (.string c.ex.ra) := by go_simp
  have q6 : (((w.alloc (.cells #[.int .u8 c.k, .string c.fr, .string c.rc, .string c.nm, .int .u8 c.ex.k, .string c.ex.ra, .string c.ex.nm, .int .i64 c.ex.d, .slice ad1 c.ex.sub.length cap1, .int .i64 c.d, .slice ad2 c.ds.length cap2, .slice ad c.sub.length cap] 29)).alloc (.cells #[.int .i64 15] 3)).alloc (.cells #[.func (.func 123) #[] #[.pointer (some ⟨w.heap.size + 1, 0, none⟩)]] 125)).cell? ⟨w.heap.size, 6, none⟩ = some (.string c.ex.nm) := by go_simp
  have q7 : (((w.alloc (.cells #[.int .u8 c.k, .string c.fr, .string c.rc, .string c.nm, .int .u8 c.ex.k, .string c.ex.ra, .string c.ex.nm, .int .i64 c.ex.d, .slice ad1 c.ex.sub.length cap1, .int .i64 c.d, .slice ad2 c.ds.length cap2, .slice ad c.sub.length cap] 29)).alloc (.cells #[.int .i64 15] 3)).alloc (.cells #[.func (.func 123) #[] #[.pointer (some ⟨w.heap.size + 1, 0, none⟩)]] 125)).cell? ⟨w.heap.size, 7, none⟩ = some (.int .i64 c.ex.d) := by go_simp
  have q8 : (((w.alloc (.cells #[.int .u8 c.k, .string c.fr, .string c.rc, .string c.nm, .int .u8 c.ex.k, .string c.ex.ra, .string c.ex.nm, .int .i64 c.ex.d, .slice ad1 c.ex.sub.length cap1, .int .i64 c.d, .slice ad2 c.ds.length cap2, .slice ad c.sub.length cap] 29)).alloc (.cells #[.int .i64 15] 3)).alloc (.cells #[.func (.func 123) #[] #[.pointer (some ⟨w.heap.size + 1, 0, none⟩)]] 125)).cell? ⟨w.heap.size, 8, none⟩ = some (.slice ad1 c.ex.sub.length cap1) := by go_simp
  have q9 : (((w.alloc (.cells #[.int .u8 c.k, .string c.fr, .string c.rc, .string c.nm, .int .u8 c.ex.k, .string c.ex.ra, .string c.ex.nm, .int .i64 c.ex.d, .slice ad1 c.ex.sub.length cap1, .int .i64 c.d, .slice ad2 c.ds.length cap2, .slice ad c.sub.length cap] 29)).alloc (.cells #[.int .i64 15] 3)).alloc (.cells #[.func (.func 123) #[] #[.pointer (some ⟨w.heap.size + 1, 0, none⟩)]] 125)).cell? ⟨w.heap.size, 9, none⟩ = some (.int .i64 c.d) := by go_simp
  have q10 : (((w.alloc (.cells #[.int .u8 c.k, .string c.fr, .string c.rc, .string c.nm, .int .u8 c.ex.k, .string c.ex.ra, .string c.ex.nm, .int .i64 c.ex.d, .slice ad1 c.ex.sub.length cap1, .int .i64 c.d, .slice ad2 c.ds.length cap2, .slice ad c.sub.length cap] 29)).alloc (.cells #[.int .i64 15] 3)).alloc (.cells #[.func (.func 123) #[] #[.pointer (some ⟨w.heap.size + 1, 0, none⟩)]] 125)).cell? ⟨w.heap.size, 10, none⟩ = some (.slice ad2 c.ds.length cap2) := by go_simp
  have q11 : (((w.alloc (.cells #[.int .u8 c.k, .string c.fr, .string c.rc, .string c.nm, .int .u8 c.ex.k, .string c.ex.ra, .string c.ex.nm, .int .i64 c.ex.d, .slice ad1 c.ex.sub.length cap1, .int .i64 c.d, .slice ad2 c.ds.length cap2, .slice ad c.sub.length cap] 29)).alloc (.cells #[.int .i64 15] 3)).alloc (.cells #[.func (.func 123) #[] #[.pointer (some ⟨w.heap.size + 1, 0, none⟩)]] 125)).cell? ⟨w.heap.size, 11, none⟩ = some (.slice ad c.sub.length cap) := by go_simp
  have q12 : (((w.alloc (.cells #[.int .u8 c.k, .string c.fr, .string c.rc, .string c.nm, .int .u8 c.ex.k, .string c.ex.ra, .string c.ex.nm, .int .i64 c.ex.d, .slice ad1 c.ex.sub.length cap1, .int .i64 c.d, .slice ad2 c.ds.length cap2, .slice ad c.sub.length cap] 29)).alloc (.cells #[.int .i64 15] 3)).alloc (.cells #[.func (.func 123) #[] #[.pointer (some ⟨w.heap.size + 1, 0, none⟩)]] 125)).cell? ⟨w.heap.size + 1, 0, none⟩ = some (.int .i64 15) := by go_simp
  have q13 : (((w.alloc (.cells #[.int .u8 c.k, .string c.fr, .string c.rc, .string c.nm, .int .u8 c.ex.k, .string c.ex.ra, .string c.ex.nm, .int .i64 c.ex.d, .slice ad1 c.ex.sub.length cap1, .int .i64 c.d, .slice ad2 c.ds.length cap2, .slice ad c.sub.length cap] 29)).alloc (.cells #[.int .i64 15] 3)).alloc (.cells #[.func (.func 123) #[] #[.pointer (some ⟨w.heap.size + 1, 0, none⟩)]] 125)).cell? ⟨w.heap.size + 1 + 1, 0, none⟩ = some (.func (.func 123) #[] #[.pointer (some ⟨w.heap.size + 1, 0, none⟩)]) := by go_simp
  obtain ⟨W, hW⟩ : ∃ W, (((w.alloc (.cells #[.int .u8 c.k, .string c.fr, .string c.rc, .string c.nm, .int .u8 c.ex.k, .string c.ex.ra, .string c.ex.nm, .int .i64 c.ex.d, .slice ad1 c.ex.sub.length cap1, .int .i64 c.d, .slice ad2 c.ds.length cap2, .slice ad c.sub.length cap] 29)).alloc (.cells #[.int .i64 15] 3)).alloc (.cells #[.func (.func 123) #[] #[.pointer (some ⟨w.heap.size + 1, 0, none⟩)]] 125)) = W := ⟨_, rfl⟩
  rw [hW] at hbW hzW q1 q2 q3 q4 q5 q6 q7 q8 q9 q10 q11 q12 q13 ⊢
  clear hW hlk1
  have HW1 := Lib.hid (word_any 15 1 _ hh1 c.fr hf1 _ _ W q12 q13)
  have HW2 := Lib.hid (word_any 15 2 _ hh2 c.rc hf2 _ _ W q12 q13)
  have HW4 := Lib.hid (word_any 15 4 _ hh4 c.nm hf3 _ _ W q12 q13)
  have HH : Hid (∀ (part : Int) (r : Bool), (bits BinOp.and IntKind.i64 15 part != 0) = r → ∀ W', W'.cell? ⟨w.heap.size + 1, 0, none⟩ = some (.int .i64 15) → Calls Tryz.prog 123 #[.int .i64 part, .pointer (some ⟨w.heap.size + 1, 0, none⟩)] W' fun e w' => e = .returned (.bool r) ∧ W' = w') := Lib.hid fun part r h W' hc => has_any 15 part r h _ W' hc
  have HK : Hid (∀ W2, Below W.heap.size W W2 → W2.cell? ⟨w.heap.size, 9, none⟩ = some (.int .i64 c.d) ∧ W2.cell? ⟨w.heap.size, 10, none⟩ = some (.slice ad2 c.ds.length cap2) ∧ W2.cell? ⟨w.heap.size, 11, none⟩ = some (.slice ad c.sub.length cap) ∧ W2.cell? ⟨w.heap.size + 1, 0, none⟩ = some (.int .i64 15) ∧
      W2.cell? ⟨w.heap.size + 1 + 1, 0, none⟩ = some (.func (.func 123) #[] #[.pointer (some ⟨w.heap.size + 1, 0, none⟩)]) ∧ Below w.heap.size w W2) := Lib.hid fun W2 h =>
    ⟨by rw [h.cell (p := ⟨w.heap.size, 9, none⟩) (by show w.heap.size < _; omega)]; exact q9, by rw [h.cell (p := ⟨w.heap.size, 10, none⟩) (by show w.heap.size < _; omega)]; exact q10, by rw [h.cell (p := ⟨w.heap.size, 11, none⟩) (by show w.heap.size < _; omega)]; exact q11,
      by rw [h.cell (p := ⟨w.heap.size + 1, 0, none⟩) (by show w.heap.size + 1 < _; omega)]; exact q12, by rw [h.cell (p := ⟨w.heap.size + 1 + 1, 0, none⟩) (by show w.heap.size + 1 + 1 < _; omega)]; exact q13, hbW.trans (h.mono (by omega))⟩
  have hx0 : w.heap.size < W.heap.size := by omega
  have hx1 : w.heap.size + 1 < W.heap.size := by omega
  have hx2 : w.heap.size + 1 + 1 < W.heap.size := by omega
  clear hzW hm hmb
  generalize wordB true c.fr = B1 at *
  generalize wordB true c.rc = B2 at *
  generalize wordB true c.nm = B3 at *
  generalize c.ex.isA 1 = E at *
  generalize isDay c.d = DY at *
  generalize isDays c.ds = DS at *
  go_wp2_with (first
    | (go_at_call 124; (first | with_reducible refine HW1.out.mono ?_ | with_reducible refine HW2.out.mono ?_ | with_reducible refine HW4.out.mono ?_); rintro e w1 ⟨rfl, rfl⟩)
    | (go_at_call 123; refine (HH.out _ _ (by assumption) _ (by assumption)).mono ?_; rintro e w1 ⟨rfl, rfl⟩)
    | (go_at_call 125; refine (HX.out _ (by assumption)).mono ?_; rintro e W2 ⟨rfl, hb2⟩; obtain ⟨r9, r10, r11, r12, r13, hbW2⟩ := HK.out W2 hb2; clear hb2)
    | (go_at_call 127; refine (HY.out _).mono ?_; rintro e w1 ⟨rfl, rfl⟩)
    | (go_at_call 128; refine (HD.out _ (by assumption)).mono ?_; rintro e w1 ⟨rfl, rfl⟩))
  all_goals
    go_ret
    first
      | exact ⟨ret_bool' (by rw [HR.out]; simp [*, len_nil]), hbW2⟩
      | exact ⟨ret_bool' (by rw [HR.out]; simp [*]), hbW⟩
end Go.Proofs.YtflddbgadkndlaaGreatDoor
