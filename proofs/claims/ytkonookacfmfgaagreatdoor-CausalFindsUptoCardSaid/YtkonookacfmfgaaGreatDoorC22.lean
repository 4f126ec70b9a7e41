/-
  integer.write. novationref01.Text of a number without a sign. novationref01: Check, Both.
-/
import Derived.Test.YtkonookacfmfgaaGreatDoorC04
import Derived.Test.YtkonookacfmfgaaGreatDoorC20
import Derived.Test.YtkonookacfmfgaaGreatDoorC02
import Derived.Test.YtkonookacfmfgaaGreatDoorC21
import Derived.Test.YtkonookacfmfgaaGreatDoorC03
namespace Go.Proofs.YtkonookacfmfgaaGreatDoor
open Go.RowKit
theorem Tryz.ul_bytes : Tryz.prog.underlying 206 = some (.slice 5) := by kernel_rfl
theorem Tryz.ul_u8 : Tryz.prog.underlying 5 = some (.int .u8) := by kernel_rfl
theorem Tryz.ul_Int : Tryz.prog.underlying 177 = some .string := by kernel_rfl
theorem Tryz.info_u8 : (Tryz.prog.info? 5).map (fun i => (i.zero, i.size, i.bytes)) = some (some (.int .u8 0), 1, 1) := by kernel_rfl
def asN (ds : List Nat) : List Nat := ds.map fun d => 48 + d
theorem asN_length (ds : List Nat) : (asN ds).length = ds.length := by simp [asN]
theorem asN_take (ds : List Nat) (k : Nat) : (asN ds).take k = asN (ds.take k) := by simp [asN]
theorem asN_snoc (ds : List Nat) (d : Nat) : asN ds ++ [48 + d] = asN (ds ++ [d]) := by simp [asN]
theorem asN_getD (ds : List Nat) (k : Nat) (h : k < ds.length) : (asN ds).getD k 0 = 48 + ds.getD k 0 := by simp [asN, List.getD, h]
theorem cells_bytes {w : World} {base g n cap : Nat} {e : TypeId} {ns : List Nat} (h : w.ownsRow base e 1 (.slice (some ⟨g, 0, none⟩) n cap) n (nums .u8 ns)) (hn : ns.length = n) (h9 : ∀ x ∈ ns, x < 256) :
  ∀ j (hj : j < (ns.map UInt8.ofNat).length), w.cell? ((⟨g, 0, none⟩ : Addr).add j) = some (.int .u8 ((ns.map UInt8.ofNat)[j].toNat : Int)) := by
 intro j hj
 have hj' : j < ns.length := by simpa using hj
 rw [Addr.add_lit, Nat.zero_add, h.cellAt j (by omega), nums_at .u8 ns j hj']
 have hx := h9 ns[j] (List.getElem_mem hj')
 have e1 : (ns.map UInt8.ofNat)[j].toNat = ns[j] := by
  rw [List.getElem_map]
  show (UInt8.ofNat ns[j]).toNat = _
  rw [UInt8.toNat_ofNat']
  omega
 rw [e1]
 simp [List.getD, hj']
def WritePost (w : World) (neg : Bool) (n : Nat) (e : Ending) (w' : World) : Prop :=
 ∃ t, e = .returned (.tuple #[.string t, .int .i64 (wErr n)]) ∧ bl t = wStr neg n ∧ Below w.heap.size w w'
set_option maxHeartbeats 1000000 in
set_option maxRecDepth 100000 in
theorem write_zero (neg : Bool) (v : Value) (w : World) (hv : Sl w v 1 0 (nums .u32 [])) :
  Calls Tryz.prog 172 #[.agg #[.bool neg, v]] w (WritePost w neg 0) := by
 obtain ⟨ad, cap, rfl, h1, _⟩ := hv
 go_enter Tryz.func172, Tryz.ntmps172
 go_wp2
 go_ret2
 exact ⟨_, rfl, rfl, (Below.refl _ _).alloc (Nat.le_refl _) _⟩
def WIn (E : List Nat) (x g j : Nat) : Prop := E.length = j ∧ Dig 10 E ∧ val 10 E + 10 ^ j * g = x
theorem WIn.step {E : List Nat} {x g j : Nat} (h : WIn E x g j) : WIn (E ++ [g % 10]) x (g / 10) (j + 1) := by
 obtain ⟨h1, h2, h3⟩ := h
 refine ⟨by simp [h1], h2.snoc (Nat.mod_lt _ (by decide)), ?_⟩
 rw [val_snoc, h1, Nat.pow_succ, Nat.mul_assoc, Nat.add_assoc, ← Nat.mul_add, Nat.add_comm (g % 10), Nat.div_add_mod]
 exact h3
theorem WIn.fin {E : List Nat} {x g : Nat} (h : WIn E x g 9) (hx : x < 1000000000) : E.length = 9 ∧ Dig 10 E ∧ val 10 E = x := by
 obtain ⟨h1, h2, h3⟩ := h
 refine ⟨h1, h2, ?_⟩
 by_cases h0 : g = 0
 ·subst h0; simpa using h3
 ·have : 10 ^ 9 * 1 ≤ 10 ^ 9 * g := Nat.mul_le_mul_left _ (by omega)
  omega
theorem GInv.step {D E : List Nat} {xs : List Nat} {k : Nat} (h : GInv D 1000000000 xs k) (he : E.length = 9 ∧ Dig 10 E ∧ val 10 E = xs.getD k 0) : GInv (D ++ E) 1000000000 xs (k + 1) := by
 obtain ⟨h1, h2, h3⟩ := h
 refine ⟨by rw [List.length_append, h1, he.1]; omega, h2.append he.2.1, ?_⟩
 rw [val_append, h3, he.2.2, val_take_succ, h1, show (1000000000 : Nat) = 10 ^ 9 from rfl, ← Nat.pow_mul]
set_option maxHeartbeats 2000000 in
set_option maxRecDepth 100000 in
theorem write_pos (neg : Bool) (v : Value) (xs : List Nat) (w : World) (hv : Sl w v 1 xs.length (nums .u32 xs)) (hx : Nrm 1000000000 xs) (hne : xs ≠ []) (hl : xs.length ≤ 100000) :
  Calls Tryz.prog 172 #[.agg #[.bool neg, v]] w (WritePost w neg (val 1000000000 xs)) := by
 have hpos : 0 < xs.length := List.length_pos_iff.2 hne
 have hv0 : val 1000000000 xs ≠ 0 := fun e => hne ((hx.val_zero (by decide)).1 e)
 have Hv0 := Lib.hid hv0
 clear hv0 hne
 have hlen0 : ((xs.length : Int) == 0) = false := by rw [beq_eq_false_iff_ne]; omega
 obtain ⟨i0, hi, hz0, hz1, hz2⟩ := info_parts Tryz.info_u8
 obtain ⟨ad, cap, rfl, h1, h3⟩ := hv.nums
 obtain ⟨b, off, rfl, hc⟩ := h3.resolve_left (by omega)
 clear h3 hv
 go_enter Tryz.func172, Tryz.ntmps172
 go_wp2_with fail
 obtain ⟨W0, hW0⟩ : ∃ W0, W0 = w.alloc (.cells #[.bool neg, .slice (some ⟨b, off, none⟩) xs.length cap] 197) := ⟨_, rfl⟩
 rw [← hW0]
 have hbx : Boxed2 W0 w.heap.size 197 (.bool neg) (.slice (some ⟨b, off, none⟩) xs.length cap) := by rw [hW0]; exact heap_alloc_new w _
 have hbel0 : Below w.heap.size w W0 := by rw [hW0]; exact (Below.refl _ _).alloc (Nat.le_refl _) _
 clear hW0
 go_loopw [4, 14] (fun bv i wr => ∃ (k : Nat) (D : List Nat) (adb : Option Addr) (capb : Nat), k ≤ xs.length ∧ i = .int .i64 k ∧ bv = .slice adb D.length capb ∧
   wr.ownsRow w.heap.size 5 1 (.slice adb D.length capb) D.length (nums .u8 (asN D)) ∧ Hid (GInv D 1000000000 xs k) ∧
   Boxed2 wr w.heap.size 197 (.bool neg) (.slice (some ⟨b, off, none⟩) xs.length cap) ∧ Below w.heap.size w wr)
  (fun _ i _ => xs.length - (intOf i).toNat)
 case atStart => exact ⟨0, [], none, 0, Nat.zero_le _, rfl, rfl, World.ownsRow_nil _ _ _ _, ⟨rfl, Dig.nil _, by simp [val]⟩, hbx, hbel0⟩
 case round =>
  clear hbx hbel0
  obtain ⟨k, D, adb, capb, hk, rfl, rfl, hown, Hinv, hbx, hbel⟩ := hrel
  by_cases hlt : k < xs.length
  ·have hck := cell_later hbel (hc k hlt)
   have hx9 := hx.1.at (show 0 < 1000000000 by decide) k
   obtain ⟨x, hxe⟩ : ∃ x, xs.getD k 0 = x := ⟨_, rfl⟩
   rw [hxe] at hck hx9
   have Hx := Lib.hid hxe
   clear hxe
   have hDl : D.length = 9 * k := Hinv.out.1
   have HDl := Lib.hid hDl
   have hDb : D.length ≤ 900000 := by omega
   clear hDl
   obtain ⟨wo, hwo⟩ : ∃ wo : World, wo = wr := ⟨_, rfl⟩
   go_wp2_with fail
   go_loopw [4, 6, 18] (fun bv g i wr => ∃ (j gg : Nat) (E : List Nat) (adb : Option Addr) (capb : Nat), j ≤ 9 ∧ i = .int .i64 j ∧ gg < 1000000000 ∧ g = .int .u32 gg ∧ bv = .slice adb (D ++ E).length capb ∧
     wr.ownsRow w.heap.size 5 1 (.slice adb (D ++ E).length capb) (D ++ E).length (nums .u8 (asN (D ++ E))) ∧ Hid (WIn E x gg j) ∧
     Boxed2 wr w.heap.size 197 (.bool neg) (.slice (some ⟨b, off, none⟩) xs.length cap) ∧ Below w.heap.size w wr)
    (fun _ _ i _ => 9 - (intOf i).toNat)
   case atStart => exact ⟨0, x, [], adb, capb, by omega, rfl, hx9, rfl, by rw [List.append_nil], by rw [List.append_nil]; exact hown, ⟨rfl, Dig.nil _, by simp [val]⟩, hbx, hbel⟩
   case round =>
    clear hown hbx hbel hck
    obtain ⟨j, gg, E, adb, capb, hj, rfl, hgg, rfl, rfl, hown, Hin, hbx, hbel⟩ := hrel
    have hEl : (D ++ E).length = D.length + j := by rw [List.length_append, Hin.out.1]
    have hDE : (D ++ E).length ≤ 900009 := by omega
    clear hEl
    by_cases hj9 : j < 9
    ·have hsz := hbel.size
     obtain ⟨N, hN⟩ : ∃ N, (D ++ E).length = N := ⟨_, rfl⟩
     have HN := Lib.hid hN
     rw [hN] at hown hDE ⊢
     clear hN
     go_wp2_with (at_builtin; refine wpList_append_own _ rfl _ _ 206 rfl w.heap.size 5 i0 (.int .u8 0) 1 1 Tryz.ul_bytes hi hz0 hz1 hz2 rfl (by decide) _ _ _ rfl (hown.alloc _) ⟨wr.heap.size, 0, none⟩ 1 1 [_] rfl rfl (cell_one_new _ _ _) (int_oneCell _ _) ?d1 ?d2 ?d3 ?_)
     case d1 => unfold maxLen; omega
     case d2 => omega
     case d3 => simp; omega
     intro v2 w2 hown2 hgrow2 _
     have hbel2 : Below w.heap.size w w2 := (hbel.alloc hsz _).grown hgrow2 (by simp; omega) (fun k hk => (hown.lt k hk).1)
     have ed : (48 : Int) + (gg : Int) % 10 = ((48 + gg % 10 : Nat) : Int) := by omega
     rw [ed, nums_snoc, asN_snoc, List.append_assoc] at hown2
     have e1 : N + 1 = (D ++ (E ++ [gg % 10])).length := by rw [← List.append_assoc, List.length_append, HN.out]; rfl
     rw [e1] at hown2
     obtain ⟨ad3, cap3, rfl, _⟩ := Sl.of_owns hown2
     have hbx2 : Boxed2 w2 w.heap.size 197 (.bool neg) (.slice (some ⟨b, off, none⟩) xs.length cap) := by
      refine hbx.of_block ((hgrow2.block _ (by have := hbx.lt; simp; omega) (Ne.symm (own_not_block hown hbx (by decide)))).trans (Below.heap_alloc _ _ _ hbx.lt))
     have HI2 := Lib.hid Hin.out.step
     clear hgrow2 hown hbel hbx e1 ed
     go_wp2
     go_roundw
     case rel => exact ⟨j + 1, gg / 10, E ++ [gg % 10], ad3, cap3, by omega, by go_num, by omega, by go_num, rfl, hown2, HI2, hbx2, hbel2⟩
     case measure => simp [intOf]; omega
    ·obtain rfl : j = 9 := by omega
     have HG := Lib.hid (Hinv.out.step (by rw [Hx.out]; exact Hin.out.fin hx9))
     go_wp2
     go_roundw
     case rel => exact ⟨k + 1, D ++ E, adb, capb, by omega, by go_num, rfl, hown, HG, hbx, hbel⟩
     case measure => simp [intOf]; omega
  ·obtain rfl : k = xs.length := by omega
   have hT : val 10 (trimL D) = val 1000000000 xs := by
    have e := Hinv.out.2.2
    rw [List.take_of_length_le (Nat.le_refl _)] at e
    rw [trimL_val]; exact e
   have hTn : Nrm 10 (trimL D) := trimL_nrm Hinv.out.2.1
   have hTd : dig10 (val 1000000000 xs) = trimL D := by rw [← hT]; exact dig10_of hTn
   have HT := Lib.hid hTd
   have hTne : 0 < (trimL D).length := by
    rw [← hTd]; exact List.length_pos_iff.2 (dig10_ne Hv0.out)
   have hTD := Lib.hid (trimL_prefix D)
   have hDb : D.length ≤ 900000 := by have := Hinv.out.1; omega
   have hdig := Hinv.out.2.1
   have Hdig := Lib.hid hdig
   clear hT hTn hTd hdig Hinv hlt hk
   obtain ⟨g0, capb2, hform, hg0, _, _⟩ := own_shape hown (by have := hTD.out.2; omega)
   cases hform
   go_wp2_with fail
   go_loopw [4] (fun bv wr2 => ∃ (k : Nat), (trimL D).length ≤ k ∧ k ≤ D.length ∧ bv = .slice (some ⟨g0, 0, none⟩) k capb ∧ Hid (trimL (D.take k) = trimL D) ∧ Hid (wr2 = wr))
    (fun bv _ => match bv with | .slice _ n _ => n | _ => 0)
   case atStart => exact ⟨D.length, hTD.out.2, Nat.le_refl _, rfl, by show _ = _; rw [List.take_of_length_le (Nat.le_refl _)], rfl⟩
   case round =>
    obtain ⟨k, hk1, hk2, rfl, Htr, Hw⟩ := hrel
    have hWeq := Hw.out
    subst hWeq
    clear Hw
    have hk0 : 0 < k := by omega
    have ck := (hown.cellAt (k - 1) (by omega)).trans (nums_at .u8 (asN D) (k - 1) (by rw [asN_length]; omega))
    rw [asN_getD D (k - 1) (by omega)] at ck
    have hd10 := Hdig.out.at (show 0 < 10 by decide) (k - 1)
    obtain ⟨d, hd⟩ : ∃ d, D.getD (k - 1) 0 = d := ⟨_, rfl⟩
    rw [hd] at ck hd10
    have Hd := Lib.hid hd
    clear hd
    have hkk : k - 1 + 1 = k := by omega
    by_cases hz : d = 0
    ·subst hz
     have Htr2 : Hid (trimL (D.take (k - 1)) = trimL D) := by
      show _ = _
      rw [← Htr.out]
      have e := trimL_take_zero D (k - 1) (by omega) Hd.out
      rw [hkk] at e
      exact e.symm
     have hk3 : (trimL D).length ≤ k - 1 := by
      have e := congrArg List.length Htr2.out
      have h2 := (trimL_prefix (D.take (k - 1))).2
      rw [e, List.length_take] at h2
      omega
     clear hkk
     go_wp2
     go_roundw
     case rel => exact ⟨k - 1, hk3, by omega, rfl, Htr2, by first | exact rfl | exact trivial⟩
     case measure => simp; omega
    ·have hfull : D.take k = trimL D := by
      have e := trimL_take_ne D (k - 1) (by omega) (by rw [Hd.out]; exact hz)
      rw [hkk] at e
      rw [← Htr.out, e]
     have hkT : k = (trimL D).length := by
      have e := congrArg List.length hfull
      rw [List.length_take] at e
      omega
     have hownT := ownsRow_cut hown k hk2
     rw [Nat.mul_one, nums_take, asN_take, hfull] at hownT
     have hownT2 : wr.ownsRow w.heap.size 5 1 (.slice (some ⟨g0, 0, none⟩) k capb) k (nums .u8 (asN (trimL D))) := hownT
     have HkT := Lib.hid hkT
     have hzz : ((48 + d : Nat) : Int) ≠ 48 := by omega
     have hzb : (((48 + d : Nat) : Int) == 48) = false := by rw [beq_eq_false_iff_ne]; exact hzz
     have hcx := hbx.cell0
     clear hownT hown hfull hkk hz hkT hk1 Htr
     by_cases hbig : 1000 < k
     ·have hd3 : decide ((1000 : Int) < (k : Int)) = true := by rw [decide_eq_true_eq]; omega
      have hd3' : ¬ ((k : Int) ≤ 1000) := by omega
      have HF : Hid (wErr (val 1000000000 xs) = 14 ∧ wStr neg (val 1000000000 xs) = []) := by
       constructor
       ·rw [wErr, HT.out, if_pos (by rw [← HkT.out]; exact hbig)]
       ·rw [wStr, HT.out, if_pos (by rw [← HkT.out]; exact hbig)]
      go_wp2
      go_ret2
      exact ⟨⟨#[]⟩, by rw [HF.out.1]; rfl, by rw [HF.out.2]; rfl, hbel⟩
     ·have hd3 : decide ((1000 : Int) < (k : Int)) = false := by rw [decide_eq_false_iff_not]; omega
      have HF : Hid (wErr (val 1000000000 xs) = 0 ∧ wStr neg (val 1000000000 xs) = (if neg then [45] else []) ++ asc (trimL D).reverse) := by
       constructor
       ·rw [wErr, HT.out, if_neg (by rw [← HkT.out]; exact hbig)]
       ·rw [wStr, HT.out, if_neg (by rw [← HkT.out]; exact hbig), istr, if_neg Hv0.out, HT.out]
      have hTdig : ∀ x ∈ trimL D, x < 10 := (trimL_nrm Hdig.out).1
      have HTd := Lib.hid hTdig
      clear hTdig
      cases neg with
      | false =>
       have hkA : (asN (trimL D)).length = k := by rw [asN_length, HkT.out]
       have C := reverse_any g0 capb w.heap.size (asN (trimL D)) wr (by rw [hkA]; exact hownT2) (by rw [hkA]; omega)
       rw [hkA] at C
       have HC := Lib.hid C
       have HkA := Lib.hid hkA
       clear C hkA
       go_wp2_with fail
       refine HC.out.mono ?_
       rintro e w2 ⟨rfl, hr, hg⟩
       have hcv := run_convert_bytes_back (P := Tryz.prog) w2 206 177 5 ⟨g0, 0, none⟩ capb ((asN (trimL D)).reverse.map UInt8.ofNat) Tryz.ul_bytes Tryz.ul_u8 Tryz.ul_Int
        (cells_bytes hr (by rw [List.length_reverse, HkA.out]) (fun x hx => by
         obtain ⟨y, hy, rfl⟩ := List.mem_map.1 (List.mem_reverse.1 hx); have := HTd.out y hy; omega))
       rw [List.length_map, List.length_reverse, HkA.out] at hcv
       have hbel2 : Below w.heap.size w w2 := hbel.grown hg hbel.size (fun k hk => by cases hk; exact hg0)
       obtain ⟨ll, hll⟩ : ∃ ll, (asN (trimL D)).reverse.map UInt8.ofNat = ll := ⟨_, rfl⟩
       rw [hll] at hcv
       have HE := Lib.hid (show bl ⟨ll.toArray⟩ = wStr false (val 1000000000 xs) by
        rw [HF.out.2, bl_mk, ← hll]; simp [asN, asc, List.map_reverse])
       clear hll
       clear hr hg hbel HC
       go_wp2
       go_ret2
       exact ⟨_, by rw [HF.out.1]; rfl, HE.out, hbel2⟩
      | true =>
       have hsz := hbel.size
       go_wp2_with (at_builtin; refine wpList_append_own _ rfl _ _ 206 rfl w.heap.size 5 i0 (.int .u8 0) 1 1 Tryz.ul_bytes hi hz0 hz1 hz2 rfl (by decide) _ _ _ rfl (hownT2.alloc _) ⟨wr.heap.size, 0, none⟩ 1 1 [_] rfl rfl (cell_one_new _ _ _) (int_oneCell _ _) ?q1 ?q2 ?q3 ?_)
       case q1 => unfold maxLen; omega
       case q2 => omega
       case q3 => first | omega | (simp; omega)
       intro v3 w3 hown3 hgrow3 _
       have hbel3 : Below w.heap.size w w3 := (hbel.alloc hsz _).grown hgrow3 (by simp; omega) (fun k hk => (hownT2.lt k hk).1)
       rw [show (Value.int IntKind.u8 45) = Value.int IntKind.u8 ((45 : Nat) : Int) from rfl, nums_snoc] at hown3
       obtain ⟨g3, cap3, rfl, hg3, _, _⟩ := own_shape hown3 (by omega)
       have hkA : (asN (trimL D) ++ [45]).length = k + 1 := by rw [List.length_append, asN_length, HkT.out]; rfl
       have C := reverse_any g3 cap3 w.heap.size (asN (trimL D) ++ [45]) w3 (by rw [hkA]; exact hown3) (by rw [hkA]; omega)
       rw [hkA] at C
       have HC := Lib.hid C
       have HkA := Lib.hid hkA
       clear C hkA hgrow3 hbel hown3
       go_wp2_with fail
       refine HC.out.mono ?_
       rintro e w2 ⟨rfl, hr, hg⟩
       have hcv := run_convert_bytes_back (P := Tryz.prog) w2 206 177 5 ⟨g3, 0, none⟩ cap3 ((asN (trimL D) ++ [45]).reverse.map UInt8.ofNat) Tryz.ul_bytes Tryz.ul_u8 Tryz.ul_Int
        (cells_bytes hr (by rw [List.length_reverse, HkA.out]) (fun x hx => by
         rcases List.mem_append.1 (List.mem_reverse.1 hx) with hx | hx
         ·obtain ⟨y, hy, rfl⟩ := List.mem_map.1 hx; have := HTd.out y hy; omega
         ·rw [List.mem_singleton] at hx; omega))
       rw [List.length_map, List.length_reverse, HkA.out] at hcv
       have hbel2 : Below w.heap.size w w2 := hbel3.grown hg hbel3.size (fun k hk => by cases hk; exact hg3)
       obtain ⟨ll, hll⟩ : ∃ ll, (asN (trimL D) ++ [45]).reverse.map UInt8.ofNat = ll := ⟨_, rfl⟩
       rw [hll] at hcv
       have HE := Lib.hid (show bl ⟨ll.toArray⟩ = wStr true (val 1000000000 xs) by
        rw [HF.out.2, bl_mk, ← hll]; simp [asN, asc, List.map_reverse])
       clear hll
       clear hr hg hbel3 HC
       go_wp2
       go_ret2
       exact ⟨_, by rw [HF.out.1]; rfl, HE.out, hbel2⟩
theorem write_any (neg : Bool) (v : Value) (xs : List Nat) (w : World) (hv : Sl w v 1 xs.length (nums .u32 xs)) (hx : Nrm 1000000000 xs) (hl : xs.length ≤ 100000) :
  Calls Tryz.prog 172 #[.agg #[.bool neg, v]] w (WritePost w neg (val 1000000000 xs)) := by
 by_cases hne : xs = []
 ·subst hne; exact write_zero neg v w hv
 ·exact write_pos neg v xs w hv hx hne hl
end Go.Proofs.YtkonookacfmfgaaGreatDoor

namespace Go.Proofs.YtkonookacfmfgaaGreatDoor
open Go.RowKit
theorem istr_false (xs : List Nat) (dx : Dig 10 xs) : istr false (val 10 xs) = if (trimL xs).length = 0 then [48] else asc (trimL xs).reverse := by
 have hT : val 10 (trimL xs) = val 10 xs := trimL_val 10 xs
 have hN : Nrm 10 (trimL xs) := trimL_nrm dx
 have hd : dig10 (val 10 xs) = trimL xs := by rw [← hT]; exact dig10_of hN
 rw [istr, hd]
 by_cases h : (trimL xs).length = 0
 ·have e : trimL xs = [] := List.eq_nil_of_length_eq_zero h
  rw [if_pos h, if_pos (by rw [← hT, e]; rfl)]
 ·rw [if_neg h, if_neg (fun e => h (by rw [(hN.val_zero (by decide)).1 (by rw [hT]; exact e)]; rfl))]
  rfl
def TextPost (w : World) (l : List UInt8) (e : Ending) (w' : World) : Prop := ∃ t, e = .returned (.string t) ∧ bl t = l ∧ Below w.heap.size w w'
set_option maxHeartbeats 2000000 in
set_option maxRecDepth 100000 in
theorem text_any (a : Value) (xs : List Nat) (w : World) (ha : Sl w a 1 xs.length (nums .i64 xs)) (dx : Dig 10 xs) (lx : xs.length ≤ 1000000) :
  Calls Tryz.prog 168 #[a, .bool false] w (TextPost w (istr false (val 10 xs))) := by
 obtain ⟨i0, hi, hz0, hz1, hz2⟩ := info_parts Tryz.info_u8
 obtain ⟨ad, ca, rfl, h1, h3⟩ := ha.nums
 have HI := Lib.hid (istr_false xs dx)
 have HT := Lib.hid (trimL_prefix xs)
 have hTd : Dig 10 (trimL xs) := (trimL_nrm dx).1
 clear ha
 go_enter Tryz.func168, Tryz.ntmps168
 go_upto_block 0 with fail
 go_cut [5] from 10 to 21 (fun n wc => n = .int .i64 ((trimL xs).length : Nat) ∧ Hid (wc = w))
 case first =>
  go_wp2_with fail
  go_loopw [5] (fun n wr => ∃ k : Nat, k ≤ xs.length ∧ n = .int .i64 k ∧ Hid (trimL (xs.take k) = trimL xs) ∧ Hid (wr = w))
   (fun n _ => (intOf n).toNat)
  case atStart => exact ⟨xs.length, Nat.le_refl _, rfl, by show _ = _; rw [List.take_of_length_le (Nat.le_refl _)], rfl⟩
  case round =>
   obtain ⟨k, hk, rfl, Hv, hw⟩ := hrel
   obtain rfl := hw.out
   by_cases h0 : 0 < k
   ·obtain ⟨k, rfl⟩ : ∃ k', k = k' + 1 := ⟨k - 1, by omega⟩
    obtain ⟨b, off, rfl, hc⟩ := h3.resolve_left (by omega)
    have hck := hc k (by omega)
    clear hc h3
    by_cases hz : xs.getD k 0 = 0
    ·have Hv2 : Hid (trimL (xs.take k) = trimL xs) := by
      show _ = _
      rw [← Hv.out, trimL_take_zero xs k (by omega) hz]
     rw [hz] at hck
     clear hz
     go_wp2
     go_roundw
     case rel => exact ⟨k, by omega, by go_num, Hv2, by first | exact rfl | exact trivial⟩
     case measure => simp [intOf]
    ·have hl : Hid ((trimL xs).length = k + 1) := by
      show _ = _
      rw [← Hv.out, trimL_take_ne xs k (by omega) hz, List.length_take]; omega
     obtain ⟨y, hy⟩ : ∃ y, xs.getD k 0 = y := ⟨_, rfl⟩
     rw [hy] at hck hz
     have hyb : ((y : Int) == 0) = false := by rw [beq_eq_false_iff_ne]; omega
     clear hy
     go_wp2
     go_meet
     exact ⟨by rw [hl.out]; first | done | (congr 1; done) | (congr 1; omega) | simp, by first | exact rfl | exact trivial⟩
   ·obtain rfl : k = 0 := by omega
    have hl : Hid ((trimL xs).length = 0) := by show _ = _; rw [← Hv.out]; rfl
    go_wp2
    go_meet
    exact ⟨by rw [hl.out]; first | done | (congr 1; done) | (congr 1; omega) | simp, by first | exact rfl | exact trivial⟩
 case rest =>
  obtain ⟨rfl, hw⟩ := hcut
  have hW := hw.out.symm
  subst hW
  obtain ⟨T, hT⟩ : ∃ T, trimL xs = T := ⟨_, rfl⟩
  rw [hT] at HI HT hTd ⊢
  obtain ⟨L, hL⟩ : ∃ L, T.length = L := ⟨_, rfl⟩
  rw [hL] at HI HT ⊢
  have HL := Lib.hid hL
  have hLx : L ≤ xs.length := HT.out.2
  clear hT hL
  by_cases hL0 : L = 0
  ·have HF : Hid (istr false (val 10 xs) = [48]) := by show _ = _; rw [HI.out, if_pos hL0]
   subst hL0
   go_wp2
   go_ret
   exact ⟨_, rfl, by rw [HF.out]; rfl, Below.refl _ _⟩
  ·have HF : Hid (istr false (val 10 xs) = asc T.reverse) := by show _ = _; rw [HI.out, if_neg hL0]
   have hLb : ((L : Int) == 0) = false := by rw [beq_eq_false_iff_ne]; omega
   obtain ⟨b, off, rfl, hc⟩ := h3.resolve_left (by omega)
   go_wp2_with fail
   go_loopw [6, 7] (fun t i wr => ∃ (k : Nat) (adb : Option Addr) (capb : Nat), k ≤ L ∧ i = .int .i64 (k - 1) ∧ t = .slice adb (L - k) capb ∧
     wr.ownsRow w.heap.size 5 1 (.slice adb (L - k) capb) (L - k) (nums .u8 (asN (T.drop k).reverse)) ∧ Below w.heap.size w wr)
    (fun _ i _ => (intOf i + 1).toNat)
   case atStart => exact ⟨L, none, 0, Nat.le_refl _, by go_num, by rw [Nat.sub_self], by rw [Nat.sub_self, List.drop_of_length_le (by rw [HL.out]; exact Nat.le_refl _)]; exact World.ownsRow_nil _ _ _ _, Below.refl _ _⟩
   case round =>
    obtain ⟨k, adb, capb, hk, rfl, rfl, hown, hbel⟩ := hrel
    by_cases h0 : 0 < k
    ·obtain ⟨k, rfl⟩ : ∃ k', k = k' + 1 := ⟨k - 1, by omega⟩
     have e1 : ((k + 1 : Nat) : Int) - 1 = (k : Int) := by omega
     rw [e1]
     have hck := cell_later hbel (hc k (by omega))
     have hd9 := hTd.at (show 0 < 10 by decide) k
     have hxk : xs.getD k 0 = T.getD k 0 := by
      have e := HT.out.1
      have h2 := HL.out
      rw [e]
      simp only [List.getD]
      rw [List.getElem?_take, if_pos (by omega)]
     rw [hxk] at hck
     have Hcons : Hid ((T.drop k).reverse = (T.drop (k + 1)).reverse ++ [T.getD k 0]) := by
      show _ = _
      rw [List.drop_eq_getElem_cons (by rw [HL.out]; omega), List.reverse_cons]
      congr 2
      have h2 := HL.out
      simp [List.getD, show k < T.length by omega]
     obtain ⟨d, hd⟩ : ∃ d, T.getD k 0 = d := ⟨_, rfl⟩
     rw [hd] at hck hd9 Hcons
     clear hd hxk
     have hsz := hbel.size
     have x1 : IntKind.u8.wrap (48 + (d : Int)) = ((48 + d : Nat) : Int) := by rw [IntWalk.u8_in _ (by omega)]; omega
     obtain ⟨N, hN⟩ : ∃ N, L - (k + 1) = N := ⟨_, rfl⟩
     have hN1 : L - k = N + 1 := by omega
     have hNb : N ≤ 1000000 := by omega
     have HN1 := Lib.hid hN1
     rw [hN] at hown ⊢
     clear hN hN1
     go_wp2_with (at_builtin; refine wpList_append_own _ rfl _ _ 206 rfl w.heap.size 5 i0 (.int .u8 0) 1 1 Tryz.ul_bytes hi hz0 hz1 hz2 rfl (by decide) _ _ _ rfl (hown.alloc _) ⟨wr.heap.size, 0, none⟩ 1 1 [_] rfl rfl (cell_one_new _ _ _) (int_oneCell _ _) ?d1 ?d2 ?d3 ?_)
     case d1 => unfold maxLen; omega
     case d2 => omega
     case d3 => simp; omega
     intro v2 w2 hown2 hgrow2 _
     have hbel2 : Below w.heap.size w w2 := (hbel.alloc hsz _).grown hgrow2 (by simp; omega) (fun k hk => (hown.lt k hk).1)
     have ed : (48 : Int) + (d : Int) = ((48 + d : Nat) : Int) := by omega
     try rw [ed] at hown2
     rw [nums_snoc, asN_snoc, ← Hcons.out, ← HN1.out] at hown2
     obtain ⟨ad3, cap3, rfl, _⟩ := Sl.of_owns hown2
     clear hgrow2 hown hbel
     go_wp2
     go_roundw
     case rel => exact ⟨k, ad3, cap3, by omega, by go_num, rfl, hown2, hbel2⟩
     case measure => simp [intOf]
    ·obtain rfl : k = 0 := by omega
     rw [Nat.sub_zero] at hown ⊢
     rw [List.drop_zero] at hown
     obtain ⟨g, cg, hform, _, _, _⟩ := own_shape hown (by omega)
     cases hform
     have hlen : (asN T.reverse).length = L := by rw [asN_length, List.length_reverse, HL.out]
     have hcv := run_convert_bytes_back (P := Tryz.prog) wr 206 177 5 ⟨g, 0, none⟩ capb ((asN T.reverse).map UInt8.ofNat) Tryz.ul_bytes Tryz.ul_u8 Tryz.ul_Int
      (cells_bytes hown hlen (fun x hx => by
       obtain ⟨y, hy, rfl⟩ := List.mem_map.1 hx
       have := hTd y (List.mem_reverse.1 hy); omega))
     rw [List.length_map, hlen] at hcv
     obtain ⟨ll, hll⟩ : ∃ ll, (asN T.reverse).map UInt8.ofNat = ll := ⟨_, rfl⟩
     rw [hll] at hcv
     have HE := Lib.hid (show bl ⟨ll.toArray⟩ = istr false (val 10 xs) by
      rw [HF.out, bl_mk, ← hll]; simp [asN, asc])
     clear hll hown
     go_wp2
     go_ret
     exact ⟨_, rfl, HE.out, hbel⟩
end Go.Proofs.YtkonookacfmfgaaGreatDoor

namespace Go.Proofs.YtkonookacfmfgaaGreatDoor
open Go.RowKit
def RPost (w : World) (v : Int) (e : Ending) (w' : World) : Prop := e = .returned (.int .i64 v) ∧ Below w.heap.size w w'
theorem digits_ok (s : ByteArray) (w : World) (hl : s.size ≤ 1100000) (h : canonI (bl s) = true) :
  Calls Tryz.prog 158 #[.string s] w (DigOk w (isNeg (bl s)) (rdig (body (bl s)))) :=
 (digits_any s w hl).mono fun e w' k => by rw [DigPost, if_pos h] at k; exact k
theorem digits_bad (s : ByteArray) (w : World) (hl : s.size ≤ 1100000) (h : canonI (bl s) = false) :
  Calls Tryz.prog 158 #[.string s] w (DigBad w) :=
 (digits_any s w hl).mono fun e w' k => by rw [DigPost, if_neg (by rw [h]; simp)] at k; exact k
set_option maxHeartbeats 400000 in
set_option maxRecDepth 100000 in
theorem rcheck_any (s : ByteArray) (w : World) (hl : s.size ≤ 1100000) :
  Calls Tryz.prog 173 #[.string s] w (RPost w (intErr (bl s))) := by
 have HI : Hid (intErr (bl s) = if canonI (bl s) then (if 1000 < (body (bl s)).length then 14 else 0) else 12) := rfl
 have hbl : (body (bl s)).length ≤ 1100000 := by
  have e := bl_length s
  unfold body
  split
  ·rw [List.length_tail]; omega
  ·omega
 by_cases hc : canonI (bl s) = true
 ·have C := digits_ok s w hl hc
  have HI2 : Hid (intErr (bl s) = if 1000 < (body (bl s)).length then 14 else 0) := by show _ = _; rw [HI.out, if_pos hc]
  have HL := Lib.hid (rdig_length (body (bl s)))
  have HC := Lib.hid C
  clear C HI hc
  obtain ⟨neg, hneg⟩ : ∃ n, isNeg (bl s) = n := ⟨_, rfl⟩
  obtain ⟨xs, hxs⟩ : ∃ n, rdig (body (bl s)) = n := ⟨_, rfl⟩
  obtain ⟨L, hL⟩ : ∃ n, (body (bl s)).length = n := ⟨_, rfl⟩
  rw [hneg, hxs] at HC
  rw [hxs, hL] at HL
  rw [hL] at HI2 hbl
  clear hneg hxs hL
  by_cases hb : 1000 < L
  ·have hI : Hid (intErr (bl s) = 14) := by show _ = _; rw [HI2.out, if_pos hb]
   rw [hI.out]
   go_enter Tryz.func173, Tryz.ntmps173
   go_wp2_with fail
   refine HC.out.mono ?_
   rintro e w' ⟨v, rfl, hs, hbel⟩
   obtain ⟨ad, cap, rfl, _⟩ := hs
   rw [HL.out]
   go_wp2
   go_ret
   exact ⟨rfl, hbel⟩
  ·have hI : Hid (intErr (bl s) = 0) := by show _ = _; rw [HI2.out, if_neg hb]
   rw [hI.out]
   go_enter Tryz.func173, Tryz.ntmps173
   go_wp2_with fail
   refine HC.out.mono ?_
   rintro e w' ⟨v, rfl, hs, hbel⟩
   obtain ⟨ad, cap, rfl, _⟩ := hs
   rw [HL.out]
   go_wp2
   go_ret
   exact ⟨rfl, hbel⟩
 ·have C := digits_bad s w hl (by simpa using hc)
  have hI : Hid (intErr (bl s) = 12) := by show _ = _; rw [HI.out, if_neg hc]
  rw [hI.out]
  have HC := Lib.hid C
  clear C HI hc hbl
  go_enter Tryz.func173, Tryz.ntmps173
  go_wp2_with fail
  refine HC.out.mono ?_
  rintro e w' ⟨rfl, hbel⟩
  go_wp2
  go_ret
  exact ⟨rfl, hbel⟩
set_option maxHeartbeats 400000 in
set_option maxRecDepth 100000 in
theorem both_any (a b : ByteArray) (w : World) (ha : a.size ≤ 1100000) (hb : b.size ≤ 1100000) :
  Calls Tryz.prog 165 #[.string a, .string b] w (RPost w (if intErr (bl a) ≠ 0 then intErr (bl a) else intErr (bl b))) := by
 have HA := Lib.hid (fun W => rcheck_any a W ha)
 have HB := Lib.hid (fun W => rcheck_any b W hb)
 obtain ⟨x, hx⟩ : ∃ x, intErr (bl a) = x := ⟨_, rfl⟩
 obtain ⟨y, hy⟩ : ∃ y, intErr (bl b) = y := ⟨_, rfl⟩
 rw [hx] at HA ⊢
 rw [hy] at HB ⊢
 clear hx hy
 by_cases h : x = 0
 ·rw [if_neg (by simpa using h)]
  have d1 : (x != 0) = false := by simpa using h
  go_enter Tryz.func165, Tryz.ntmps165
  go_wp2_with fail
  refine (HA.out _).mono ?_
  rintro e w1 ⟨rfl, hb1⟩
  go_wp2_with fail
  refine (HB.out _).mono ?_
  rintro e w2 ⟨rfl, hb2⟩
  go_wp2
  go_ret
  exact ⟨rfl, hb1.trans (hb2.mono hb1.size)⟩
 ·rw [if_pos h]
  have d1 : (x != 0) = true := by simpa using h
  have d2 : (x == 0) = false := by simpa using h
  go_enter Tryz.func165, Tryz.ntmps165
  go_wp2_with fail
  refine (HA.out _).mono ?_
  rintro e w1 ⟨rfl, hb1⟩
  go_wp2_with fail
  refine (HA.out _).mono ?_
  rintro e w2 ⟨rfl, hb2⟩
  go_wp2
  go_ret
  exact ⟨rfl, hb1.trans (hb2.mono hb1.size)⟩
end Go.Proofs.YtkonookacfmfgaaGreatDoor
