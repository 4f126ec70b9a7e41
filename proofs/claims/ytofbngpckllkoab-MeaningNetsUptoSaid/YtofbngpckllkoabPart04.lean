/-
  integer.write. integer.times: the product of two magnitudes. integer.short: a magnitude divided by one group. integer.guess: a digit of a quotient.
-/
import Derived.Test.YtofbngpckllkoabPart02
import Derived.Test.YtofbngpckllkoabPart03
import Derived.Test.YtofbngpckllkoabPart01
namespace Go.Proofs.Ytofbngpckllkoab
open Go.RowKit

theorem Try.ul_bytes : Try.prog.underlying 95 = some (.slice 5) := by kernel_rfl
theorem Try.ul_u8 : Try.prog.underlying 5 = some (.int .u8) := by kernel_rfl
theorem Try.ul_Int : Try.prog.underlying 50 = some .string := by kernel_rfl
theorem Try.info_u8 : (Try.prog.info? 5).map (fun i => (i.zero, i.size, i.bytes)) = some (some (.int .u8 0), 1, 1) := by kernel_rfl

/-- Digits as the numbers of their bytes. -/
def asN (ds : List Nat) : List Nat := ds.map fun d => 48 + d
theorem asN_length (ds : List Nat) : (asN ds).length = ds.length := by simp [asN]
theorem asN_take (ds : List Nat) (k : Nat) : (asN ds).take k = asN (ds.take k) := by simp [asN]
theorem asN_snoc (ds : List Nat) (d : Nat) : asN ds ++ [48 + d] = asN (ds ++ [d]) := by simp [asN]
theorem asN_getD (ds : List Nat) (k : Nat) (h : k < ds.length) : (asN ds).getD k 0 = 48 + ds.getD k 0 := by simp [asN, List.getD, h]

/-- Numbers of bytes as bytes. -/
theorem cells_bytes {w : World} {base g n cap : Nat} {e : TypeId} {ns : List Nat} (h : w.ownsRow base e 1 (.slice (some ⟨g, 0, none⟩) n cap) n (nums .u8 ns)) (hn : ns.length = n) (h9 : ∀ x ∈ ns, x < 256) :
    ∀ j (hj : j < (ns.map UInt8.ofNat).length), w.cell? ((⟨g, 0, none⟩ : Addr).add j) = some (.int .u8 ((ns.map UInt8.ofNat)[j].toNat : Int)) := by
  intro j hj
  have hj' : j < ns.length := by simpa using hj
  rw [Addr.add_lit, Nat.zero_add, h.cellAt j (by omega), nums_at .u8 ns j hj']
  have hx := h9 ns[j] (List.getElem_mem hj')
  have e1 : (ns.map UInt8.ofNat)[j].toNat = ns[j] := by
    rw [List.getElem_map]
    show (UInt8.ofNat ns[j]).toNat = _
    rw [UInt8.toNat_ofNat']
    omega
  rw [e1]
  simp [List.getD, hj']

def WritePost (w : World) (neg : Bool) (n : Nat) (e : Ending) (w' : World) : Prop :=
  ∃ t, e = .returned (.tuple #[.string t, .int .i64 (wErr n)]) ∧ bl t = wStr neg n ∧ Below w.heap.size w w'

set_option maxHeartbeats 1000000 in
set_option maxRecDepth 100000 in
theorem write_zero (neg : Bool) (v : Value) (w : World) (hv : Sl w v 1 0 (nums .u32 [])) :
    Calls Try.prog 42 #[.agg #[.bool neg, v]] w (WritePost w neg 0) := by
  obtain ⟨ad, cap, rfl, h1, _⟩ := hv
  go_enter Try.func42, Try.ntmps42
  go_wp2
  go_ret2
  exact ⟨_, rfl, rfl, (Below.refl _ _).alloc (Nat.le_refl _) _⟩

def WIn (E : List Nat) (x g j : Nat) : Prop := E.length = j ∧ Dig 10 E ∧ val 10 E + 10 ^ j * g = x
theorem WIn.step {E : List Nat} {x g j : Nat} (h : WIn E x g j) : WIn (E ++ [g % 10]) x (g / 10) (j + 1) := by
  obtain ⟨h1, h2, h3⟩ := h
  refine ⟨by simp [h1], h2.snoc (Nat.mod_lt _ (by decide)), ?_⟩
  rw [val_snoc, h1, Nat.pow_succ, Nat.mul_assoc, Nat.add_assoc, ← Nat.mul_add, Nat.add_comm (g % 10), Nat.div_add_mod]
  exact h3
theorem WIn.fin {E : List Nat} {x g : Nat} (h : WIn E x g 9) (hx : x < 1000000000) : E.length = 9 ∧ Dig 10 E ∧ val 10 E = x := by
  obtain ⟨h1, h2, h3⟩ := h
  refine ⟨h1, h2, ?_⟩
  by_cases h0 : g = 0
  · subst h0; simpa using h3
  · have : 10 ^ 9 * 1 ≤ 10 ^ 9 * g := Nat.mul_le_mul_left _ (by omega)
    omega
theorem GInv.step {D E : List Nat} {xs : List Nat} {k : Nat} (h : GInv D 1000000000 xs k) (he : E.length = 9 ∧ Dig 10 E ∧ val 10 E = xs.getD k 0) : GInv (D ++ E) 1000000000 xs (k + 1) := by
  obtain ⟨h1, h2, h3⟩ := h
  refine ⟨by rw [List.length_append, h1, he.1]; omega, h2.append he.2.1, ?_⟩
  rw [val_append, h3, he.2.2, val_take_succ, h1, show (1000000000 : Nat) = 10 ^ 9 from rfl, ← Nat.pow_mul]

set_option maxHeartbeats 2000000 in
set_option maxRecDepth 100000 in
theorem write_pos (neg : Bool) (v : Value) (xs : List Nat) (w : World) (hv : Sl w v 1 xs.length (nums .u32 xs)) (hx : Nrm 1000000000 xs) (hne : xs ≠ []) (hl : xs.length ≤ 100000) :
    Calls Try.prog 42 #[.agg #[.bool neg, v]] w (WritePost w neg (val 1000000000 xs)) := by
  have hpos : 0 < xs.length := List.length_pos_iff.2 hne
  have hv0 : val 1000000000 xs ≠ 0 := fun e => hne ((hx.val_zero (by decide)).1 e)
  have Hv0 := Lib.hid hv0
  clear hv0 hne
  have hlen0 : ((xs.length : Int) == 0) = false := by rw [beq_eq_false_iff_ne]; omega
  obtain ⟨i0, hi, hz0, hz1, hz2⟩ := info_parts Try.info_u8
  obtain ⟨ad, cap, rfl, h1, h3⟩ := hv.nums
  obtain ⟨b, off, rfl, hc⟩ := h3.resolve_left (by omega)
  clear h3 hv
  go_enter Try.func42, Try.ntmps42
  go_wp2_with fail
  obtain ⟨W0, hW0⟩ : ∃ W0, W0 = w.alloc (.cells #[.bool neg, .slice (some ⟨b, off, none⟩) xs.length cap] 75) := ⟨_, rfl⟩
  rw [← hW0]
  have hbx : Boxed2 W0 w.heap.size 75 (.bool neg) (.slice (some ⟨b, off, none⟩) xs.length cap) := by rw [hW0]; exact heap_alloc_new w _
  have hbel0 : Below w.heap.size w W0 := by rw [hW0]; exact (Below.refl _ _).alloc (Nat.le_refl _) _
  clear hW0
  go_loopw [4, 14] (fun bv i wr => ∃ (k : Nat) (D : List Nat) (adb : Option Addr) (capb : Nat), k ≤ xs.length ∧ i = .int .i64 k ∧ bv = .slice adb D.length capb ∧
      wr.ownsRow w.heap.size 5 1 (.slice adb D.length capb) D.length (nums .u8 (asN D)) ∧ Hid (GInv D 1000000000 xs k) ∧
      Boxed2 wr w.heap.size 75 (.bool neg) (.slice (some ⟨b, off, none⟩) xs.length cap) ∧ Below w.heap.size w wr)
    (fun _ i _ => xs.length - (intOf i).toNat)
  case atStart => exact ⟨0, [], none, 0, Nat.zero_le _, rfl, rfl, World.ownsRow_nil _ _ _ _, ⟨rfl, Dig.nil _, by simp [val]⟩, hbx, hbel0⟩
  case round =>
    clear hbx hbel0
    obtain ⟨k, D, adb, capb, hk, rfl, rfl, hown, Hinv, hbx, hbel⟩ := hrel
    by_cases hlt : k < xs.length
    · have hck := cell_later hbel (hc k hlt)
      have hx9 := hx.1.at (show 0 < 1000000000 by decide) k
      obtain ⟨x, hxe⟩ : ∃ x, xs.getD k 0 = x := ⟨_, rfl⟩
      rw [hxe] at hck hx9
      have Hx := Lib.hid hxe
      clear hxe
      have hDl : D.length = 9 * k := Hinv.out.1
      have HDl := Lib.hid hDl
      have hDb : D.length ≤ 900000 := by omega
      clear hDl
      obtain ⟨wo, hwo⟩ : ∃ wo : World, wo = wr := ⟨_, rfl⟩
      go_wp2_with fail
      go_loopw [4, 6, 18] (fun bv g i wr => ∃ (j gg : Nat) (E : List Nat) (adb : Option Addr) (capb : Nat), j ≤ 9 ∧ i = .int .i64 j ∧ gg < 1000000000 ∧ g = .int .u32 gg ∧ bv = .slice adb (D ++ E).length capb ∧
          wr.ownsRow w.heap.size 5 1 (.slice adb (D ++ E).length capb) (D ++ E).length (nums .u8 (asN (D ++ E))) ∧ Hid (WIn E x gg j) ∧
          Boxed2 wr w.heap.size 75 (.bool neg) (.slice (some ⟨b, off, none⟩) xs.length cap) ∧ Below w.heap.size w wr)
        (fun _ _ i _ => 9 - (intOf i).toNat)
      case atStart => exact ⟨0, x, [], adb, capb, by omega, rfl, hx9, rfl, by rw [List.append_nil], by rw [List.append_nil]; exact hown, ⟨rfl, Dig.nil _, by simp [val]⟩, hbx, hbel⟩
      case round =>
        clear hown hbx hbel hck
        obtain ⟨j, gg, E, adb, capb, hj, rfl, hgg, rfl, rfl, hown, Hin, hbx, hbel⟩ := hrel
        have hEl : (D ++ E).length = D.length + j := by rw [List.length_append, Hin.out.1]
        have hDE : (D ++ E).length ≤ 900009 := by omega
        clear hEl
        by_cases hj9 : j < 9
        · have hsz := hbel.size
          obtain ⟨N, hN⟩ : ∃ N, (D ++ E).length = N := ⟨_, rfl⟩
          have HN := Lib.hid hN
          rw [hN] at hown hDE ⊢
          clear hN
          go_wp2_with (at_builtin; refine wpList_append_own _ rfl _ _ 95 rfl w.heap.size 5 i0 (.int .u8 0) 1 1 Try.ul_bytes hi hz0 hz1 hz2 rfl (by decide) _ _ _ rfl (hown.alloc _) ⟨wr.heap.size, 0, none⟩ 1 1 [_] rfl rfl (cell_one_new _ _ _) (int_oneCell _ _) ?d1 ?d2 ?d3 ?_)
          case d1 => unfold maxLen; omega
          case d2 => omega
          case d3 => simp; omega
          intro v2 w2 hown2 hgrow2 _
          have hbel2 : Below w.heap.size w w2 := (hbel.alloc hsz _).grown hgrow2 (by simp; omega) (fun k hk => (hown.lt k hk).1)
          have ed : (48 : Int) + (gg : Int) % 10 = ((48 + gg % 10 : Nat) : Int) := by omega
          rw [ed, nums_snoc, asN_snoc, List.append_assoc] at hown2
          have e1 : N + 1 = (D ++ (E ++ [gg % 10])).length := by rw [← List.append_assoc, List.length_append, HN.out]; rfl
          rw [e1] at hown2
          obtain ⟨ad3, cap3, rfl, _⟩ := Sl.of_owns hown2
          have hbx2 : Boxed2 w2 w.heap.size 75 (.bool neg) (.slice (some ⟨b, off, none⟩) xs.length cap) := by
            refine hbx.of_block ((hgrow2.block _ (by have := hbx.lt; simp; omega) (Ne.symm (own_not_block hown hbx (by decide)))).trans (Below.heap_alloc _ _ _ hbx.lt))
          have HI2 := Lib.hid Hin.out.step
          clear hgrow2 hown hbel hbx e1 ed
          go_wp2
          go_roundw
          case rel => exact ⟨j + 1, gg / 10, E ++ [gg % 10], ad3, cap3, by omega, by go_num, by omega, by go_num, rfl, hown2, HI2, hbx2, hbel2⟩
          case measure => simp [intOf]; omega
        · obtain rfl : j = 9 := by omega
          have HG := Lib.hid (Hinv.out.step (by rw [Hx.out]; exact Hin.out.fin hx9))
          go_wp2
          go_roundw
          case rel => exact ⟨k + 1, D ++ E, adb, capb, by omega, by go_num, rfl, hown, HG, hbx, hbel⟩
          case measure => simp [intOf]; omega
    · obtain rfl : k = xs.length := by omega
      have hT : val 10 (trimL D) = val 1000000000 xs := by
        have e := Hinv.out.2.2
        rw [List.take_of_length_le (Nat.le_refl _)] at e
        rw [trimL_val]; exact e
      have hTn : Nrm 10 (trimL D) := trimL_nrm Hinv.out.2.1
      have hTd : dig10 (val 1000000000 xs) = trimL D := by rw [← hT]; exact dig10_of hTn
      have HT := Lib.hid hTd
      have hTne : 0 < (trimL D).length := by
        rw [← hTd]; exact List.length_pos_iff.2 (dig10_ne Hv0.out)
      have hTD := Lib.hid (trimL_prefix D)
      have hDb : D.length ≤ 900000 := by have := Hinv.out.1; omega
      have hdig := Hinv.out.2.1
      have Hdig := Lib.hid hdig
      clear hT hTn hTd hdig Hinv hlt hk
      obtain ⟨g0, capb2, hform, hg0, _, _⟩ := own_shape hown (by have := hTD.out.2; omega)
      cases hform
      go_wp2_with fail
      go_loopw [4] (fun bv wr2 => ∃ (k : Nat), (trimL D).length ≤ k ∧ k ≤ D.length ∧ bv = .slice (some ⟨g0, 0, none⟩) k capb ∧ Hid (trimL (D.take k) = trimL D) ∧ Hid (wr2 = wr))
        (fun bv _ => match bv with | .slice _ n _ => n | _ => 0)
      case atStart => exact ⟨D.length, hTD.out.2, Nat.le_refl _, rfl, by show _ = _; rw [List.take_of_length_le (Nat.le_refl _)], rfl⟩
      case round =>
        obtain ⟨k, hk1, hk2, rfl, Htr, Hw⟩ := hrel
        have hWeq := Hw.out
        subst hWeq
        clear Hw
        have hk0 : 0 < k := by omega
        have ck := (hown.cellAt (k - 1) (by omega)).trans (nums_at .u8 (asN D) (k - 1) (by rw [asN_length]; omega))
        rw [asN_getD D (k - 1) (by omega)] at ck
        have hd10 := Hdig.out.at (show 0 < 10 by decide) (k - 1)
        obtain ⟨d, hd⟩ : ∃ d, D.getD (k - 1) 0 = d := ⟨_, rfl⟩
        rw [hd] at ck hd10
        have Hd := Lib.hid hd
        clear hd
        have hkk : k - 1 + 1 = k := by omega
        by_cases hz : d = 0
        · subst hz
          have Htr2 : Hid (trimL (D.take (k - 1)) = trimL D) := by
            show _ = _
            rw [← Htr.out]
            have e := trimL_take_zero D (k - 1) (by omega) Hd.out
            rw [hkk] at e
            exact e.symm
          have hk3 : (trimL D).length ≤ k - 1 := by
            have e := congrArg List.length Htr2.out
            have h2 := (trimL_prefix (D.take (k - 1))).2
            rw [e, List.length_take] at h2
            omega
          clear hkk
          go_wp2
          go_roundw
          case rel => exact ⟨k - 1, hk3, by omega, rfl, Htr2, by first | exact rfl | exact trivial⟩
          case measure => simp; omega
        · have hfull : D.take k = trimL D := by
            have e := trimL_take_ne D (k - 1) (by omega) (by rw [Hd.out]; exact hz)
            rw [hkk] at e
            rw [← Htr.out, e]
          have hkT : k = (trimL D).length := by
            have e := congrArg List.length hfull
            rw [List.length_take] at e
            omega
          have hownT := ownsRow_cut hown k hk2
          rw [Nat.mul_one, nums_take, asN_take, hfull] at hownT
          have hownT2 : wr.ownsRow w.heap.size 5 1 (.slice (some ⟨g0, 0, none⟩) k capb) k (nums .u8 (asN (trimL D))) := hownT
          have HkT := Lib.hid hkT
          have hzz : ((48 + d : Nat) : Int) ≠ 48 := by omega
          have hzb : (((48 + d : Nat) : Int) == 48) = false := by rw [beq_eq_false_iff_ne]; exact hzz
          have hcx := hbx.cell0
          clear hownT hown hfull hkk hz hkT hk1 Htr
          by_cases hbig : 1000 < k
          · have hd3 : decide ((1000 : Int) < (k : Int)) = true := by rw [decide_eq_true_eq]; omega
            have hd3' : ¬ ((k : Int) ≤ 1000) := by omega
            have HF : Hid (wErr (val 1000000000 xs) = 14 ∧ wStr neg (val 1000000000 xs) = []) := by
              constructor
              · rw [wErr, HT.out, if_pos (by rw [← HkT.out]; exact hbig)]
              · rw [wStr, HT.out, if_pos (by rw [← HkT.out]; exact hbig)]
            go_wp2
            go_ret2
            exact ⟨⟨#[]⟩, by rw [HF.out.1]; rfl, by rw [HF.out.2]; rfl, hbel⟩
          · have hd3 : decide ((1000 : Int) < (k : Int)) = false := by rw [decide_eq_false_iff_not]; omega
            have HF : Hid (wErr (val 1000000000 xs) = 0 ∧ wStr neg (val 1000000000 xs) = (if neg then [45] else []) ++ asc (trimL D).reverse) := by
              constructor
              · rw [wErr, HT.out, if_neg (by rw [← HkT.out]; exact hbig)]
              · rw [wStr, HT.out, if_neg (by rw [← HkT.out]; exact hbig), istr, if_neg Hv0.out, HT.out]
            have hTdig : ∀ x ∈ trimL D, x < 10 := (trimL_nrm Hdig.out).1
            have HTd := Lib.hid hTdig
            clear hTdig
            cases neg with
            | false =>
              have hkA : (asN (trimL D)).length = k := by rw [asN_length, HkT.out]
              have C := reverse_any g0 capb w.heap.size (asN (trimL D)) wr (by rw [hkA]; exact hownT2) (by rw [hkA]; omega)
              rw [hkA] at C
              have HC := Lib.hid C
              have HkA := Lib.hid hkA
              clear C hkA
              go_wp2_with fail
              refine HC.out.mono ?_
              rintro e w2 ⟨rfl, hr, hg⟩
              have hcv := run_convert_bytes_back (P := Try.prog) w2 95 50 5 ⟨g0, 0, none⟩ capb ((asN (trimL D)).reverse.map UInt8.ofNat) Try.ul_bytes Try.ul_u8 Try.ul_Int
                (cells_bytes hr (by rw [List.length_reverse, HkA.out]) (fun x hx => by
                  obtain ⟨y, hy, rfl⟩ := List.mem_map.1 (List.mem_reverse.1 hx); have := HTd.out y hy; omega))
              rw [List.length_map, List.length_reverse, HkA.out] at hcv
              have hbel2 : Below w.heap.size w w2 := hbel.grown hg hbel.size (fun k hk => by cases hk; exact hg0)
              obtain ⟨ll, hll⟩ : ∃ ll, (asN (trimL D)).reverse.map UInt8.ofNat = ll := ⟨_, rfl⟩
              rw [hll] at hcv
              have HE := Lib.hid (show bl ⟨ll.toArray⟩ = wStr false (val 1000000000 xs) by
                rw [HF.out.2, bl_mk, ← hll]; simp [asN, asc, List.map_reverse])
              clear hll
              clear hr hg hbel HC
              go_wp2
              go_ret2
              exact ⟨_, by rw [HF.out.1]; rfl, HE.out, hbel2⟩
            | true =>
              have hsz := hbel.size
              go_wp2_with (at_builtin; refine wpList_append_own _ rfl _ _ 95 rfl w.heap.size 5 i0 (.int .u8 0) 1 1 Try.ul_bytes hi hz0 hz1 hz2 rfl (by decide) _ _ _ rfl (hownT2.alloc _) ⟨wr.heap.size, 0, none⟩ 1 1 [_] rfl rfl (cell_one_new _ _ _) (int_oneCell _ _) ?q1 ?q2 ?q3 ?_)
              case q1 => unfold maxLen; omega
              case q2 => omega
              case q3 => first | omega | (simp; omega)
              intro v3 w3 hown3 hgrow3 _
              have hbel3 : Below w.heap.size w w3 := (hbel.alloc hsz _).grown hgrow3 (by simp; omega) (fun k hk => (hownT2.lt k hk).1)
              rw [show (Value.int IntKind.u8 45) = Value.int IntKind.u8 ((45 : Nat) : Int) from rfl, nums_snoc] at hown3
              obtain ⟨g3, cap3, rfl, hg3, _, _⟩ := own_shape hown3 (by omega)
              have hkA : (asN (trimL D) ++ [45]).length = k + 1 := by rw [List.length_append, asN_length, HkT.out]; rfl
              have C := reverse_any g3 cap3 w.heap.size (asN (trimL D) ++ [45]) w3 (by rw [hkA]; exact hown3) (by rw [hkA]; omega)
              rw [hkA] at C
              have HC := Lib.hid C
              have HkA := Lib.hid hkA
              clear C hkA hgrow3 hbel hown3
              go_wp2_with fail
              refine HC.out.mono ?_
              rintro e w2 ⟨rfl, hr, hg⟩
              have hcv := run_convert_bytes_back (P := Try.prog) w2 95 50 5 ⟨g3, 0, none⟩ cap3 ((asN (trimL D) ++ [45]).reverse.map UInt8.ofNat) Try.ul_bytes Try.ul_u8 Try.ul_Int
                (cells_bytes hr (by rw [List.length_reverse, HkA.out]) (fun x hx => by
                  rcases List.mem_append.1 (List.mem_reverse.1 hx) with hx | hx
                  · obtain ⟨y, hy, rfl⟩ := List.mem_map.1 hx; have := HTd.out y hy; omega
                  · rw [List.mem_singleton] at hx; omega))
              rw [List.length_map, List.length_reverse, HkA.out] at hcv
              have hbel2 : Below w.heap.size w w2 := hbel3.grown hg hbel3.size (fun k hk => by cases hk; exact hg3)
              obtain ⟨ll, hll⟩ : ∃ ll, (asN (trimL D) ++ [45]).reverse.map UInt8.ofNat = ll := ⟨_, rfl⟩
              rw [hll] at hcv
              have HE := Lib.hid (show bl ⟨ll.toArray⟩ = wStr true (val 1000000000 xs) by
                rw [HF.out.2, bl_mk, ← hll]; simp [asN, asc, List.map_reverse])
              clear hll
              clear hr hg hbel3 HC
              go_wp2
              go_ret2
              exact ⟨_, by rw [HF.out.1]; rfl, HE.out, hbel2⟩

/-- integer.write. -/
theorem write_any (neg : Bool) (v : Value) (xs : List Nat) (w : World) (hv : Sl w v 1 xs.length (nums .u32 xs)) (hx : Nrm 1000000000 xs) (hl : xs.length ≤ 100000) :
    Calls Try.prog 42 #[.agg #[.bool neg, v]] w (WritePost w neg (val 1000000000 xs)) := by
  by_cases hne : xs = []
  · subst hne; exact write_zero neg v w hv
  · exact write_pos neg v xs w hv hx hne hl
end Go.Proofs.Ytofbngpckllkoab

namespace Go.Proofs.Ytofbngpckllkoab
open Go.RowKit

theorem getD_zero_of_lt {b : Nat} {os : List Nat} {m : Nat} (h : val b os < b ^ m) : os.getD m 0 = 0 := by
  by_cases hm : m < os.length
  · have e1 := val_split b os m (by omega)
    have e2 := val_drop b os m hm
    rw [e2, Nat.mul_add] at e1
    have h3 : b ^ m * os.getD m 0 < b ^ m * 1 := by omega
    have := Nat.lt_of_mul_lt_mul_left h3
    omega
  · simp only [List.getD, List.getElem?_eq_none (by omega : os.length ≤ m), Option.getD_none]

def TimesOut (xs ys os : List Nat) (k : Nat) : Prop :=
  os.length = xs.length + ys.length ∧ Dig 1000000000 os ∧ val 1000000000 os = val 1000000000 (xs.take k) * val 1000000000 ys

def TimesIn (xs ys os : List Nat) (k x j c : Nat) : Prop :=
  os.length = xs.length + ys.length ∧ Dig 1000000000 os ∧ os.getD (k + ys.length) 0 = 0 ∧
    val 1000000000 os + c * 1000000000 ^ (k + j) = val 1000000000 (xs.take k) * val 1000000000 ys + x * val 1000000000 (ys.take j) * 1000000000 ^ k

theorem TimesOut.start (xs ys : List Nat) : TimesOut xs ys (List.replicate (xs.length + ys.length) 0) 0 :=
  ⟨by simp, fun x hx => by rw [(List.mem_replicate.1 hx).2]; decide, by rw [val_zeros]; simp [val]⟩

theorem take_val_lt {xs : List Nat} (h : Dig 1000000000 xs) (k : Nat) : val 1000000000 (xs.take k) < 1000000000 ^ k :=
  Nat.lt_of_lt_of_le (val_lt (h.take k)) (Nat.pow_le_pow_right (by decide) (by simp; omega))

theorem TimesOut.into {xs ys os : List Nat} {k : Nat} (h : TimesOut xs ys os k) (dx : Dig 1000000000 xs) (dy : Dig 1000000000 ys) (x : Nat) : TimesIn xs ys os k x 0 0 := by
  obtain ⟨h1, h2, h3⟩ := h
  refine ⟨h1, h2, getD_zero_of_lt (b := 1000000000) ?_, by simp [val, h3]⟩
  rw [h3, Nat.pow_add]
  have a := take_val_lt dx k
  have b := val_lt dy
  have hp : 0 < 1000000000 ^ ys.length := Nat.pow_pos (by decide)
  calc val 1000000000 (xs.take k) * val 1000000000 ys ≤ val 1000000000 (xs.take k) * 1000000000 ^ ys.length := Nat.mul_le_mul_left _ (by omega)
    _ < 1000000000 ^ k * 1000000000 ^ ys.length := Nat.mul_lt_mul_of_pos_right a hp

theorem TimesIn.step {xs ys os : List Nat} {k x j c v : Nat} (h : TimesIn xs ys os k x j c) (hk : k < xs.length) (hj : j < ys.length) (hv : v = x * ys.getD j 0 + os.getD (k + j) 0 + c) :
    TimesIn xs ys (os.set (k + j) (v % 1000000000)) k x (j + 1) (v / 1000000000) := by
  obtain ⟨h1, h2, h3, h4⟩ := h
  refine ⟨by simpa using h1, h2.set _ (Nat.mod_lt _ (by decide)), ?_, ?_⟩
  · simp only [List.getD] at h3 ⊢
    rw [List.getElem?_set_ne (by omega)]; exact h3
  · have e1 := val_set 1000000000 os (k + j) (v % 1000000000) (by omega)
    have e2 := Nat.div_add_mod v 1000000000
    generalize hP : 1000000000 ^ (k + j) = P at *
    have e3 : 1000000000 ^ (k + (j + 1)) = P * 1000000000 := by rw [← Nat.add_assoc, Nat.pow_succ, hP]
    rw [e3, val_take_succ]
    have e4 : 1000000000 ^ j * 1000000000 ^ k = P := by rw [← hP, ← Nat.pow_add, Nat.add_comm]
    have e5 : P * (1000000000 * (v / 1000000000) + v % 1000000000) = P * (x * ys.getD j 0 + os.getD (k + j) 0 + c) := by rw [e2, hv]
    rw [Nat.mul_add, Nat.mul_add, Nat.mul_add] at e5
    have e6 : v / 1000000000 * (P * 1000000000) = P * (1000000000 * (v / 1000000000)) := by
      rw [Nat.mul_comm (v / 1000000000), Nat.mul_assoc]
    have e7 : x * (val 1000000000 (ys.take j) + 1000000000 ^ j * ys.getD j 0) * 1000000000 ^ k = x * val 1000000000 (ys.take j) * 1000000000 ^ k + P * (x * ys.getD j 0) := by
      rw [← e4]; grind
    rw [e6, e7]
    have e8 : c * P = P * c := Nat.mul_comm _ _
    omega

theorem TimesIn.fin {xs ys os : List Nat} {k c : Nat} (h : TimesIn xs ys os k (xs.getD k 0) ys.length c) (hk : k < xs.length) (hc : c < 1000000000) :
    TimesOut xs ys (os.set (k + ys.length) c) (k + 1) := by
  obtain ⟨h1, h2, h3, h4⟩ := h
  refine ⟨by simpa using h1, h2.set _ hc, ?_⟩
  have e1 := val_set 1000000000 os (k + ys.length) c (by omega)
  rw [h3] at e1
  rw [List.take_of_length_le (Nat.le_refl _)] at h4
  rw [val_take_succ, Nat.add_mul]
  have e2 : 1000000000 ^ k * xs.getD k 0 * val 1000000000 ys = xs.getD k 0 * val 1000000000 ys * 1000000000 ^ k := by
    rw [Nat.mul_comm (1000000000 ^ k), Nat.mul_assoc, Nat.mul_comm (1000000000 ^ k), Nat.mul_assoc]
  have e3 := Nat.mul_comm c (1000000000 ^ (k + ys.length))
  rw [e2]
  omega

theorem mul_bound {x y : Nat} (hx : x < 1000000000) (hy : y < 1000000000) : x * y ≤ 999999998000000001 := by
  have h1 : x * y ≤ 999999999 * 999999999 := Nat.mul_le_mul (by omega) (by omega)
  omega

set_option maxHeartbeats 2000000 in
set_option maxRecDepth 100000 in
theorem times_any (a b : Value) (xs ys : List Nat) (w : World) (ha : Sl w a 1 xs.length (nums .u32 xs)) (hb : Sl w b 1 ys.length (nums .u32 ys))
    (dx : Dig 1000000000 xs) (dy : Dig 1000000000 ys) (lx : xs.length ≤ 100000) (ly : ys.length ≤ 100000) :
    Calls Try.prog 43 #[a, b] w fun e w' => ∃ v rs, e = .returned v ∧ OwnMag w w' v rs ∧ val 1000000000 rs = val 1000000000 xs * val 1000000000 ys := by
  obtain ⟨ad, ca, rfl, h1, h3⟩ := ha.nums
  obtain ⟨bd, cb, rfl, h1', h3'⟩ := hb.nums
  obtain ⟨i0, hi, hz0, hz1, hz2⟩ := info_parts Try.info_u32
  clear ha hb
  obtain ⟨N, hN⟩ : ∃ N, N = xs.length + ys.length := ⟨_, rfl⟩
  have HN := Lib.hid hN
  have hNl : N ≤ 200000 := by omega
  have hN1 : xs.length + ys.length ≤ N := by omega
  have hN2 : N ≤ xs.length + ys.length := by omega
  clear hN
  go_enter Try.func43, Try.ntmps43
  go_wp2_with (at_make; refine wpList_make_full _ rfl _ _ 73 rfl w.heap.size 96 i0 (.int .u32 0) 1 Try.ul_u32s hi hz0 hz1 _ _ _ _ N rfl rfl ?b0 ?b1 ?b2 ?b3 ?b4 ?_)
  case b0 => rw [HN.out]; simp
  case b1 => rw [HN.out]; simp
  case b2 => rw [hz2]; omega
  case b3 => unfold maxLen; omega
  case b4 => exact Nat.le_refl _
  intro w1 hown hgrow
  have hbel : Below w.heap.size w w1 := (Below.refl _ _).grown hgrow (Nat.le_refl _) (by simp)
  have hown1 : w1.ownsRow w.heap.size 96 1 (.slice (some ⟨w.heap.size, 0, none⟩) N N) N (nums .u32 (List.replicate (xs.length + ys.length) 0)) := by
    rw [← HN.out]
    rw [toList_madeCells_one] at hown
    simpa [nums] using hown
  clear hgrow hown
  go_wp2_with fail
  go_loopw [20] (fun i wr => ∃ (k : Nat) (os : List Nat), k ≤ xs.length ∧ i = .int .i64 k ∧
      wr.ownsRow w.heap.size 96 1 (.slice (some ⟨w.heap.size, 0, none⟩) N N) N (nums .u32 os) ∧ Hid (TimesOut xs ys os k) ∧ Below w.heap.size w wr)
    (fun i _ => xs.length - (intOf i).toNat)
  case atStart => exact ⟨0, _, Nat.zero_le _, rfl, hown1, TimesOut.start _ _, hbel⟩
  case round =>
    clear hown1 hbel
    obtain ⟨k, os, hk, rfl, hown, Hinv, hbel⟩ := hrel
    by_cases hlt : k < xs.length
    · obtain ⟨b, off, rfl, hc⟩ := h3.resolve_left (by omega)
      have hck := cell_later hbel (hc k hlt)
      have hx9 := dx.at (by decide) k
      obtain ⟨x, hx⟩ : ∃ x, x = xs.getD k 0 := ⟨_, rfl⟩
      rw [← hx] at hck hx9
      have Hx := Lib.hid hx; clear hx
      clear hc h3
      obtain ⟨wo, rfl⟩ : ∃ wo : World, wo = wr := ⟨_, rfl⟩
      go_wp2_with fail
      go_loopw [8, 27] (fun c i wr => ∃ (j c1 : Nat) (os : List Nat), j ≤ ys.length ∧ c1 < 1000000000 ∧ i = .int .i64 j ∧ c = .int .u64 c1 ∧
          wr.ownsRow w.heap.size 96 1 (.slice (some ⟨w.heap.size, 0, none⟩) N N) N (nums .u32 os) ∧ Hid (TimesIn xs ys os k x j c1) ∧ Below w.heap.size w wr)
        (fun _ i _ => ys.length - (intOf i).toNat)
      case atStart => exact ⟨0, 0, _, Nat.zero_le _, by omega, rfl, rfl, hown, Hinv.out.into dx dy x, hbel⟩
      case round =>
        clear hown Hinv hbel
        obtain ⟨j, c1, os, hj, hc1, rfl, rfl, hown, Hin, hbel⟩ := hrel
        by_cases hjt : j < ys.length
        · obtain ⟨b', off', rfl, hd⟩ := h3'.resolve_left (by omega)
          have hdk := cell_later hbel (hd j hjt)
          have hy9 := dy.at (by decide) j
          obtain ⟨y, hy⟩ : ∃ y, y = ys.getD j 0 := ⟨_, rfl⟩
          rw [← hy] at hdk hy9
          have Hy := Lib.hid hy; clear hy
          clear hd h3'
          have hol : os.length = N := by rw [HN.out]; exact Hin.out.1
          have ho9 := Hin.out.2.1.at (by decide) (k + j)
          have hok := (hown.cellAt (k + j) (by omega)).trans (nums_at .u32 os (k + j) (by omega))
          have hfr := hown.frozenAt (k + j)
          obtain ⟨q, hq⟩ : ∃ q, q = os.getD (k + j) 0 := ⟨_, rfl⟩
          rw [← hq] at hok ho9
          have Hq := Lib.hid hq; clear hq
          have Hol := Lib.hid hol; clear hol
          have hm := mul_bound hx9 hy9
          obtain ⟨p, hp⟩ : ∃ p, p = x * y := ⟨_, rfl⟩
          have hpi : (x : Int) * (y : Int) = (p : Int) := by rw [hp]; simp
          rw [← hp] at hm
          have Hp := Lib.hid hp; clear hp
          have est := hown.stored (k + j) (.int .u32 (((p : Int) + q + c1) % 1000000000))
          have hbel2 := hbel.grown est.2 hbel.size (by intro k hk; simp at hk; omega)
          have ed : ((p : Int) + q + c1) % 1000000000 = (((p + q + c1) % 1000000000 : Nat) : Int) := by omega
          have eo : wr.setCell ⟨w.heap.size, k + j, none⟩ (.int .u32 (((p : Int) + q + c1) % 1000000000)) = wr.setCell ⟨w.heap.size, k + j, none⟩ (.int .u32 (((p + q + c1) % 1000000000 : Nat) : Int)) := by rw [ed]
          have Eo := Lib.hid eo; clear eo
          rw [ed, nums_set] at est
          rw [ed] at hbel2
          clear ed
          have HR : Hid (TimesIn xs ys (os.set (k + j) ((p + q + c1) % 1000000000)) k x (j + 1) ((p + q + c1) / 1000000000)) :=
            Hin.out.step hlt hjt (by rw [← Hy.out, ← Hq.out, ← Hp.out])
          have Est := Lib.hid est; clear est
          have Hbel2 := Lib.hid hbel2; clear hbel2
          go_wp2
          go_roundw
          case rel => exact ⟨j + 1, (p + q + c1) / 1000000000, _, by omega, by omega, by go_num, by go_num, by rw [Eo.out]; exact Est.out.1, HR, by rw [Eo.out]; exact Hbel2.out⟩
          case measure => simp [intOf]; omega
        · obtain rfl : j = ys.length := by omega
          have hol : os.length = N := by rw [HN.out]; exact Hin.out.1
          have hok := (hown.cellAt (k + ys.length) (by omega)).trans (nums_at .u32 os (k + ys.length) (by omega))
          have hfr := hown.frozenAt (k + ys.length)
          have Hol := Lib.hid hol; clear hol
          rw [Hin.out.2.2.1] at hok
          have est := hown.stored (k + ys.length) (.int .u32 (c1 : Int))
          have hbel2 := hbel.grown est.2 hbel.size (by intro k hk; simp at hk; omega)
          rw [nums_set] at est
          have HR : Hid (TimesOut xs ys (os.set (k + ys.length) c1) (k + 1)) := by
            have e := Hin.out
            rw [Hx.out] at e
            exact e.fin hlt hc1
          have Est := Lib.hid est; clear est
          have Hbel2 := Lib.hid hbel2; clear hbel2
          go_wp2
          go_roundw
          case rel => exact ⟨k + 1, _, by omega, by go_num, Est.out.1, HR, Hbel2.out⟩
          case measure => simp [intOf]; omega
    · obtain rfl : k = xs.length := by omega
      have hos : os.length = N := by rw [HN.out]; exact Hinv.out.1
      have hdg := Hinv.out.2.1
      have HF : val 1000000000 (trimL os) = val 1000000000 xs * val 1000000000 ys := by
        have e := Hinv.out.2.2
        rw [List.take_of_length_le (Nat.le_refl _)] at e
        rw [trimL_val]; exact e
      have hsl := Sl.of_owns hown
      rw [← hos] at hsl hown
      have HF' := Lib.hid HF; clear HF
      have Hos := Lib.hid hos; clear hos
      rw [show N = os.length from Hos.out.symm]
      go_wp2_with fail
      refine (trim_any _ os _ hsl (by have := Hos.out; omega)).mono ?_
      rintro e w' ⟨v', rfl, Hv, rfl⟩
      go_wp2
      go_ret
      exact ⟨_, _, rfl, ⟨own_trim hown Hv.out, trimL_nrm hdg, hbel⟩, HF'.out⟩
end Go.Proofs.Ytofbngpckllkoab

namespace Go.Proofs.Ytofbngpckllkoab
open Go.RowKit

def ShortInv (xs os : List Nat) (d k r : Nat) : Prop :=
  os.length = xs.length ∧ Dig 1000000000 os ∧ r < d ∧ val 1000000000 (xs.drop k) = d * val 1000000000 (os.drop k) + r

theorem ShortInv.start (xs : List Nat) (d : Nat) (hd : 0 < d) : ShortInv xs (List.replicate xs.length 0) d xs.length 0 :=
  ⟨by simp, fun x hx => by rw [(List.mem_replicate.1 hx).2]; decide, hd, by simp [val]⟩

theorem ShortInv.step {xs os : List Nat} {d k r v : Nat} (h : ShortInv xs os d (k + 1) r) (hk : k < xs.length) (hd : 0 < d) (dx : Dig 1000000000 xs) (hv : v = r * 1000000000 + xs.getD k 0) :
    ShortInv xs (os.set k (v / d)) d k (v % d) ∧ v / d < 1000000000 := by
  obtain ⟨h1, h2, h3, h4⟩ := h
  have hx9 := dx.at (by decide) k
  have hvd : v < d * 1000000000 := by
    have : (r + 1) * 1000000000 ≤ d * 1000000000 := Nat.mul_le_mul_right _ h3
    omega
  have hq : v / d < 1000000000 := Nat.div_lt_of_lt_mul hvd
  refine ⟨⟨by simpa using h1, h2.set _ hq, Nat.mod_lt _ hd, ?_⟩, hq⟩
  rw [val_drop _ xs _ hk, val_drop _ (os.set k (v / d)) _ (by simp; omega)]
  have e6 : (os.set k (v / d)).getD k 0 = v / d := by simp [List.getD, show k < os.length by omega]
  rw [e6, List.drop_set_of_lt (by omega), h4]
  have e7 := Nat.div_add_mod v d
  have e8 : d * (v / d + 1000000000 * val 1000000000 (os.drop (k + 1))) = d * (v / d) + 1000000000 * (d * val 1000000000 (os.drop (k + 1))) := by grind
  rw [e8]
  omega

set_option maxHeartbeats 2000000 in
set_option maxRecDepth 100000 in
theorem short_any (a : Value) (xs : List Nat) (d : Nat) (w : World) (ha : Sl w a 1 xs.length (nums .u32 xs)) (dx : Dig 1000000000 xs) (lx : xs.length ≤ 200000) (hd0 : 0 < d) (hd : d ≤ 1000000000) :
    Calls Try.prog 71 #[a, .int .u32 d] w fun e w' => ∃ v rs r, e = .returned (.tuple #[v, .int .u32 ((r : Nat) : Int)]) ∧ OwnMag w w' v rs ∧
      val 1000000000 rs = val 1000000000 xs / d ∧ r = val 1000000000 xs % d := by
  obtain ⟨ad, ca, rfl, h1, h3⟩ := ha.nums
  obtain ⟨i0, hi, hz0, hz1, hz2⟩ := info_parts Try.info_u32
  clear ha
  have hdz : ((d : Int) == 0) = false := by simp; omega
  go_enter Try.func71, Try.ntmps71
  go_wp2_with (at_make; refine wpList_make_full _ rfl _ _ 73 rfl w.heap.size 96 i0 (.int .u32 0) 1 Try.ul_u32s hi hz0 hz1 _ _ _ _ xs.length rfl rfl rfl rfl ?b2 ?b3 ?b4 ?_)
  case b2 => rw [hz2]; omega
  case b3 => unfold maxLen; omega
  case b4 => exact Nat.le_refl _
  intro w1 hown hgrow
  have hbel : Below w.heap.size w w1 := (Below.refl _ _).grown hgrow (Nat.le_refl _) (by simp)
  have hown1 : w1.ownsRow w.heap.size 96 1 (.slice (some ⟨w.heap.size, 0, none⟩) xs.length xs.length) xs.length (nums .u32 (List.replicate xs.length 0)) := by
    rw [toList_madeCells_one] at hown
    simpa [nums] using hown
  clear hgrow hown
  go_wp2_with fail
  go_loopw [6, 7] (fun c i wr => ∃ (k r : Nat) (os : List Nat), k ≤ xs.length ∧ r < d ∧ i = .int .i64 (k - 1) ∧ c = .int .u64 r ∧
      wr.ownsRow w.heap.size 96 1 (.slice (some ⟨w.heap.size, 0, none⟩) xs.length xs.length) xs.length (nums .u32 os) ∧ Hid (ShortInv xs os d k r) ∧ Below w.heap.size w wr)
    (fun _ i _ => (intOf i + 1).toNat)
  case atStart => exact ⟨xs.length, 0, _, Nat.le_refl _, hd0, by go_num, rfl, hown1, ShortInv.start _ _ hd0, hbel⟩
  case round =>
    clear hown1 hbel
    obtain ⟨k, r, os, hk, hr, rfl, rfl, hown, Hinv, hbel⟩ := hrel
    by_cases h0 : 0 < k
    · obtain ⟨k, rfl⟩ : ∃ k', k = k' + 1 := ⟨k - 1, by omega⟩
      obtain ⟨b, off, rfl, hc⟩ := h3.resolve_left (by omega)
      have hck := cell_later hbel (hc k (by omega))
      have hx9 := dx.at (by decide) k
      have HR0 := Lib.hid (Hinv.out.step (v := r * 1000000000 + xs.getD k 0) (by omega) hd0 dx rfl)
      obtain ⟨x, hx⟩ : ∃ x, x = xs.getD k 0 := ⟨_, rfl⟩
      rw [← hx] at hck hx9 HR0
      clear hx hc h3
      have hol : k < os.length := by rw [Hinv.out.1]; omega
      have hok := (hown.cellAt k (by omega)).trans (nums_at .u32 os k hol)
      have hfr := hown.frozenAt k
      obtain ⟨q, hq⟩ : ∃ q, q = (r * 1000000000 + x) / d := ⟨_, rfl⟩
      obtain ⟨m, hm⟩ : ∃ m, m = (r * 1000000000 + x) % d := ⟨_, rfl⟩
      have hqi : ((r : Int) * 1000000000 + (x : Int)) / (d : Int) = (q : Int) := by rw [hq]; simp
      have hmi : ((r : Int) * 1000000000 + (x : Int)) % (d : Int) = (m : Int) := by rw [hm]; simp
      have hq9 : q < 1000000000 := by rw [hq]; exact HR0.out.2
      have hmd : m < d := by rw [hm]; exact Nat.mod_lt _ hd0
      have HR1 : Hid (ShortInv xs (os.set k q) d k m) := by rw [hq, hm]; exact HR0.out.1
      clear hq hm HR0
      have est := hown.stored k (.int .u32 (q : Int))
      have hbel2 := hbel.grown est.2 hbel.size (by intro k hk; simp at hk; omega)
      rw [nums_set] at est
      have Est := Lib.hid est; clear est
      have Hbel2 := Lib.hid hbel2; clear hbel2
      go_wp2_with fail
      go_region
      all_goals (try go_wp2)
      all_goals go_roundw
      case rel =>
        simp only [hmi]
        exact ⟨k, m, _, by omega, hmd, rfl, rfl, Est.out.1.drew, HR1, Hbel2.out.drew⟩
      case measure => simp [intOf]
    · obtain rfl : k = 0 := by omega
      have hos : os.length = xs.length := Hinv.out.1
      have hdg := Hinv.out.2.1
      have HF : val 1000000000 xs = d * val 1000000000 (trimL os) + r := by
        have e := Hinv.out.2.2.2
        rw [List.drop_zero, List.drop_zero] at e
        rw [trimL_val]; exact e
      have HF' : Hid (val 1000000000 (trimL os) = val 1000000000 xs / d ∧ r = val 1000000000 xs % d) := by
        rw [HF]
        exact ⟨by rw [Nat.mul_add_div hd0, Nat.div_eq_of_lt hr]; simp, by rw [Nat.mul_add_mod, Nat.mod_eq_of_lt hr]⟩
      clear HF
      have hsl := Sl.of_owns hown
      rw [← hos] at hsl hown
      have Hos := Lib.hid hos; clear hos
      have hr32 : r < 4294967296 := by omega
      rw [show xs.length = os.length from Hos.out.symm]
      go_wp2_with fail
      refine (trim_any _ os _ hsl (by have := Hos.out; omega)).mono ?_
      rintro e w' ⟨v', rfl, Hv, rfl⟩
      go_wp2
      go_ret2
      exact ⟨_, _, r, rfl, ⟨own_trim hown Hv.out, trimL_nrm hdg, hbel⟩, HF'.out.1, HF'.out.2⟩
end Go.Proofs.Ytofbngpckllkoab

namespace Go.Proofs.Ytofbngpckllkoab
open Go.RowKit

/-- q is the quotient of the three leading groups by the two leading ones of the divisor, but at most base - 1. -/
def GuessOk (top v y z q : Nat) : Prop :=
  q < 1000000000 ∧ q * (y * 1000000000 + z) ≤ top * 1000000000 + v ∧
    (1000000000 ≤ q + 1 ∨ top * 1000000000 + v < (q + 1) * (y * 1000000000 + z))

def GuessInv (top v y z q r : Nat) : Prop :=
  q * y + r = top ∧ (1000000000 ≤ q + 1 ∨ top * 1000000000 + v < (q + 1) * (y * 1000000000 + z))

theorem guess_mul (q y z : Nat) : q * (y * 1000000000 + z) = q * y * 1000000000 + q * z := by rw [Nat.mul_add, Nat.mul_assoc]

theorem GuessInv.start (top v y z : Nat) (hv : v < 1000000000) (hy : 0 < y) : GuessInv top v y z (top / y) (top % y) := by
  refine ⟨by rw [Nat.mul_comm]; exact Nat.div_add_mod top y, .inr ?_⟩
  have h1 : top < (top / y + 1) * y := by
    have := Nat.div_add_mod top y
    have := Nat.mod_lt top hy
    rw [Nat.add_mul, Nat.mul_comm (top / y)]
    omega
  rw [guess_mul]
  generalize (top / y + 1) * y = A at *
  generalize (top / y + 1) * z = C at *
  omega

theorem guess_top {top t u y : Nat} (h : top = t * 1000000000 + u) (ht : t ≤ y) (hu : u < 1000000000) (hy : 500000000 ≤ y) : top / y ≤ 1000000001 := by
  have h2 : top < 1000000002 * y := by omega
  have h3 : top / y < 1000000002 := Nat.div_lt_of_lt_mul (by rw [Nat.mul_comm]; exact h2)
  omega

theorem GuessInv.down {top v y z q r : Nat} (h : GuessInv top v y z q r) (hq : 0 < q) (hc : 1000000000 ≤ q ∨ r * 1000000000 + v < q * z) : GuessInv top v y z (q - 1) (r + y) := by
  obtain ⟨h1, _⟩ := h
  have e : q - 1 + 1 = q := by omega
  have e2 : (q - 1) * y + y = q * y := by rw [← Nat.succ_mul, Nat.succ_eq_add_one, e]
  refine ⟨by rw [← h1, ← e2]; omega, ?_⟩
  rw [e]
  rcases hc with hc | hc
  · exact .inl hc
  · refine .inr ?_
    rw [guess_mul]
    clear e2 e
    subst h1
    rw [Nat.add_mul, Nat.add_assoc]
    exact Nat.add_lt_add_left hc _

theorem GuessInv.fin {top v y z q r : Nat} (h : GuessInv top v y z q r) (hq : q < 1000000000) (hc : q * z ≤ r * 1000000000 + v) : GuessOk top v y z q := by
  obtain ⟨h1, h2⟩ := h
  refine ⟨hq, ?_, h2⟩
  rw [guess_mul]
  generalize q * y = A at *
  generalize q * z = C at *
  omega

theorem GuessInv.fin_big {top v y z q r : Nat} (h : GuessInv top v y z q r) (hq : q < 1000000000) (hz : z < 1000000000) (hr : 1000000000 ≤ r) : GuessOk top v y z q := by
  refine h.fin hq ?_
  have h1 : q * z ≤ 999999999 * 999999999 := Nat.mul_le_mul (by omega) (by omega)
  generalize q * z = C at *
  omega

/-- Where the rest has become great the quotient is a digit. -/
theorem GuessInv.small {top t u v y z q r : Nat} (h : GuessInv top v y z q r) (ht0 : top = t * 1000000000 + u) (ht : t ≤ y) (hu : u < 1000000000) (hr : 1000000000 ≤ r) : q < 1000000000 := by
  obtain ⟨h1, _⟩ := h
  by_cases hq : q < 1000000000
  · exact hq
  · have h5 : 1000000000 * y ≤ q * y := Nat.mul_le_mul_right _ (by omega)
    generalize q * y = A at *
    omega

def GuessPost (top v y z : Nat) (w : World) (e : Ending) (w' : World) : Prop := ∃ q n, e = .returned (.int .u64 ((q : Nat) : Int)) ∧ Hid (GuessOk top v y z q) ∧ w' = w.drewN n

set_option maxHeartbeats 2000000 in
set_option maxRecDepth 100000 in
theorem guess_any (t u v y z : Nat) (w : World) (ht : t ≤ y) (hu : u < 1000000000) (hv : v < 1000000000) (hy : 500000000 ≤ y) (hy9 : y < 1000000000) (hz : z < 1000000000) :
    Calls Try.prog 72 #[.int .u64 t, .int .u64 u, .int .u64 v, .int .u64 y, .int .u64 z] w (GuessPost (t * 1000000000 + u) v y z w) := by
  have hyz : ((y : Int) == 0) = false := by simp; omega
  obtain ⟨top, htop⟩ : ∃ top, top = t * 1000000000 + u := ⟨_, rfl⟩
  rw [← htop]
  obtain ⟨q0, hq0⟩ : ∃ q0, q0 = top / y := ⟨_, rfl⟩
  obtain ⟨r0, hr0⟩ : ∃ r0, r0 = top % y := ⟨_, rfl⟩
  have hqi : ((t : Int) * 1000000000 + (u : Int)) / (y : Int) = (q0 : Int) := by rw [hq0, htop]; simp
  have hri : ((t : Int) * 1000000000 + (u : Int)) % (y : Int) = (r0 : Int) := by rw [hr0, htop]; simp
  have hI : Hid (GuessInv top v y z q0 r0) := by rw [hq0, hr0]; exact GuessInv.start top v y z hv (by omega)
  have hq9 : q0 ≤ 1000000001 := by rw [hq0]; exact guess_top htop ht hu hy
  have hr9 : r0 < y := by rw [hr0]; exact Nat.mod_lt _ (by omega)
  have Htop := Lib.hid htop
  clear hq0 hr0 htop
  go_enter Try.func72, Try.ntmps72
  go_wp2_with fail
  go_quiet (fail)
  go_wp2_with fail
  simp only [hqi, hri]
  go_loopw [12, 13] (fun a b wr => ∃ q r n : Nat, q ≤ 1000000001 ∧ r < 1000000000 ∧ a = .int .u64 q ∧ b = .int .u64 r ∧ Hid (GuessInv top v y z q r) ∧ wr = w.drewN n)
    (fun a _ _ => (intOf a).toNat)
  case atStart => exact ⟨q0, r0, nq, hq9, by omega, rfl, rfl, hI, rfl⟩
  case round =>
    clear hI hqi hri hq9 hr9
    obtain ⟨q, r, n, hq, hr, rfl, rfl, HI, rfl⟩ := hrel
    obtain ⟨p, hp⟩ : ∃ p, p = q * z := ⟨_, rfl⟩
    have hpi : (q : Int) * (z : Int) = (p : Int) := by rw [hp]; simp
    have Hp := Lib.hid hp; clear hp
    by_cases hqb : ¬ q < 1000000000
    · have hd1 : decide ((1000000000 : Int) ≤ (q : Int)) = true := by rw [decide_eq_true_eq]; omega
      have hd1' : ¬ ((q : Int) < 1000000000) := by omega
      have HD : Hid (GuessInv top v y z (q - 1) (r + y)) := HI.out.down (by omega) (.inl (by omega))
      by_cases hbig : ¬ r + y < 1000000000
      · have hd3 : decide ((1000000000 : Int) ≤ (r : Int) + (y : Int)) = true := by rw [decide_eq_true_eq]; omega
        have hd3' : ¬ ((r : Int) + (y : Int) < 1000000000) := by omega
        have HF : Hid (GuessOk top v y z (q - 1)) := HD.out.fin_big (HD.out.small Htop.out ht hu (by omega)) hz (by omega)
        go_wp2
        go_ret
        exact ⟨q - 1, n, ret_int' (by omega), HF, rfl⟩
      · have hd3 : decide ((1000000000 : Int) ≤ (r : Int) + (y : Int)) = false := by rw [decide_eq_false_iff_not]; omega
        go_wp2
        go_roundw
        case rel => exact ⟨q - 1, r + y, n, by omega, by omega, by go_num, by go_num, HD, rfl⟩
        case measure => simp [intOf]; omega
    · have hqb := Decidable.not_not.1 hqb
      have hd1 : decide ((1000000000 : Int) ≤ (q : Int)) = false := by rw [decide_eq_false_iff_not]; omega
      have hpb := Nat.mul_le_mul (show q ≤ 999999999 by omega) (show z ≤ 999999999 by omega)
      rw [← Hp.out] at hpb
      by_cases hc : r * 1000000000 + v < p
      · have hd2 : decide ((r : Int) * 1000000000 + (v : Int) < (p : Int)) = true := by rw [decide_eq_true_eq]; omega
        have hd2' : ¬ ((p : Int) ≤ (r : Int) * 1000000000 + (v : Int)) := by omega
        have hq1 : q ≠ 0 := by rintro rfl; have := Hp.out; omega
        have Hc : Hid (r * 1000000000 + v < q * z) := by rw [← Hp.out]; exact hc
        have HD : Hid (GuessInv top v y z (q - 1) (r + y)) := HI.out.down (by omega) (.inr Hc.out)
        by_cases hbig : ¬ r + y < 1000000000
        · have hd3 : decide ((1000000000 : Int) ≤ (r : Int) + (y : Int)) = true := by rw [decide_eq_true_eq]; omega
          have hd3' : ¬ ((r : Int) + (y : Int) < 1000000000) := by omega
          have HF : Hid (GuessOk top v y z (q - 1)) := HD.out.fin_big (by omega) hz (by omega)
          go_wp2
          go_ret
          exact ⟨q - 1, n, ret_int' (by omega), HF, rfl⟩
        · have hd3 : decide ((1000000000 : Int) ≤ (r : Int) + (y : Int)) = false := by rw [decide_eq_false_iff_not]; omega
          go_wp2
          go_roundw
          case rel => exact ⟨q - 1, r + y, n, by omega, by omega, by go_num, by go_num, HD, rfl⟩
          case measure => simp [intOf]; omega
      · have hd2 : decide ((r : Int) * 1000000000 + (v : Int) < (p : Int)) = false := by rw [decide_eq_false_iff_not]; omega
        have HF : Hid (GuessOk top v y z q) := HI.out.fin (by omega) (by rw [← Hp.out]; omega)
        go_wp2
        go_ret
        exact ⟨q, n, rfl, HF, rfl⟩

/-- What guess returns. -/
def gq (top v y z : Nat) : Nat := min 999999999 ((top * 1000000000 + v) / (y * 1000000000 + z))

theorem min_quot {F V q : Nat} (hVp : 0 < V) (h1 : q < 1000000000) (h2 : q * V ≤ F) (h3 : 1000000000 ≤ q + 1 ∨ F < (q + 1) * V) : q = min 999999999 (F / V) := by
  have a : q ≤ F / V := (Nat.le_div_iff_mul_le hVp).2 h2
  rcases h3 with h3 | h3
  · have : q = 999999999 := by omega
    rw [Nat.min_eq_left (by omega)]; exact this
  · have b : F / V < q + 1 := (Nat.div_lt_iff_lt_mul hVp).2 h3
    have : F / V = q := by omega
    rw [this, Nat.min_eq_right (by omega)]

theorem quot_min {F V : Nat} (hVp : 0 < V) : min 999999999 (F / V) < 1000000000 ∧ min 999999999 (F / V) * V ≤ F ∧ (1000000000 ≤ min 999999999 (F / V) + 1 ∨ F < (min 999999999 (F / V) + 1) * V) := by
  have a := Nat.div_mul_le_self F V
  have b := Nat.lt_mul_div_succ F hVp
  by_cases h : F / V ≤ 999999999
  · rw [Nat.min_eq_right h]
    exact ⟨by omega, a, .inr (by rw [Nat.mul_comm]; exact b)⟩
  · rw [Nat.min_eq_left (by omega)]
    exact ⟨by omega, Nat.le_trans (Nat.mul_le_mul_right V (by omega)) a, .inl (by omega)⟩

theorem GuessOk.eq {top v y z q : Nat} (h : GuessOk top v y z q) (hy : 0 < y) : q = gq top v y z := min_quot (by omega) h.1 h.2.1 h.2.2

theorem gq_ok (top v y z : Nat) (hy : 0 < y) : GuessOk top v y z (gq top v y z) := quot_min (by omega)

theorem guess_val (t u v y z : Nat) (w : World) (ht : t ≤ y) (hu : u < 1000000000) (hv : v < 1000000000) (hy : 500000000 ≤ y) (hy9 : y < 1000000000) (hz : z < 1000000000) :
    Calls Try.prog 72 #[.int .u64 t, .int .u64 u, .int .u64 v, .int .u64 y, .int .u64 z] w fun e w' => e = .returned (.int .u64 (gq (t * 1000000000 + u) v y z : Nat)) ∧ ∃ n, w' = w.drewN n := by
  refine (guess_any t u v y z w ht hu hv hy hy9 hz).mono ?_
  rintro e w' ⟨q, n, rfl, H, rfl⟩
  exact ⟨by rw [H.out.eq (by omega)], n, rfl⟩
end Go.Proofs.Ytofbngpckllkoab
