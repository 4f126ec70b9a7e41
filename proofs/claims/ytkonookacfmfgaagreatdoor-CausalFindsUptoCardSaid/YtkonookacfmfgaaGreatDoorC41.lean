/-
  novationref08.count, bytes, Great: they answer, and change nothing that was there. novationref09.count, weight, Great: they answer, and change nothing that was there. Arguments opened: what the bound on the bulk gives; a list of structs as a list of records that can be read. One cell holds a rational.
-/
import Derived.Test.YtkonookacfmfgaaGreatDoorC17
import Derived.Test.YtkonookacfmfgaaGreatDoorC02
import Derived.Test.YtkonookacfmfgaaGreatDoorC06
import Derived.Test.YtkonookacfmfgaaGreatDoorC01
import Derived.Test.YtkonookacfmfgaaGreatDoorRows
import Derived.Deep.Slices
import Derived.Deep.Fields
import Derived.Lib.SmallJoins
import Derived.Carry
import Derived.Test.YtkonookacfmfgaaGreatDoorC07
namespace Go.Proofs.YtkonookacfmfgaaGreatDoor
open Go.RowKit
def CountPost (M : Nat) (w : World) (e : Ending) (w' : World) : Prop := (∃ (n : Nat) (b : Bool), e = .returned (.tuple #[.int .i64 (n : Int), .bool b]) ∧ n ≤ M) ∧ Below w.heap.size w w'
theorem CountPost.mk {M : Nat} {w : World} {e : Ending} {w' : World} (n : Nat) (b : Bool) (h : e = .returned (.tuple #[.int .i64 (n : Int), .bool b])) (hn : n ≤ M) (hb : Below w.heap.size w w') : CountPost M w e w' := ⟨⟨n, b, h, hn⟩, hb⟩
def BoolPost (w : World) (e : Ending) (w' : World) : Prop := (∃ b : Bool, e = .returned (.bool b)) ∧ Below w.heap.size w w'
theorem BoolPost.mk {w : World} {e : Ending} {w' : World} (b : Bool) (h : e = .returned (.bool b)) (hb : Below w.heap.size w w') : BoolPost w e w' := ⟨⟨b, h⟩, hb⟩
def NatPost (M : Nat) (w : World) (e : Ending) (w' : World) : Prop := (∃ n : Nat, e = .returned (.int .i64 (n : Int)) ∧ n ≤ M) ∧ Below w.heap.size w w'
theorem NatPost.mk {M : Nat} {w : World} {e : Ending} {w' : World} (n : Nat) (h : e = .returned (.int .i64 (n : Int))) (hn : n ≤ M) (hb : Below w.heap.size w w') : NatPost M w e w' := ⟨⟨n, h, hn⟩, hb⟩
set_option maxHeartbeats 1000000 in
set_option maxRecDepth 100000 in
theorem xcount_any : ∀ (N : Nat) (x : Ex) (s : Value) (lim deep : Int) (w : World), x.bulk ≤ N → x.bulk ≤ 2000000 → RdE w x.sub s → 0 ≤ lim → lim ≤ 1000 → 0 ≤ deep → deep ≤ 1000 →
  Calls Tryz.prog 63 #[x.val s, .int .i64 lim, .int .i64 deep] w (CountPost x.size w) := by
 intro N
 induction N with
 | zero =>
  intro x s lim deep w h0
  rw [Ex.bulk_eq] at h0
  omega
 | succ N ih =>
  intro x s lim deep w hN hB hs hl0 hl1 hd0 hd1
  obtain ⟨ad, cap, rfl⟩ := hs.len
  have HS := Lib.hid hs
  have HI := Lib.hid ih
  have hlen := Ex.bulks_len x.sub
  have hlt0 := x.sub_lt
  have hsz := x.size_le
  have hsq := Lib.hid x.size_eq
  have hn : x.sub.length ≤ 2000000 := by omega
  have hb0 := below_a1 w (.cells #[.int .u8 x.k, .string x.ra, .string x.nm, .int .i64 x.d, .slice ad x.sub.length cap] 25)
  clear hs ih
  unfold Ex.val
  by_cases hdz : deep = 0
  ·subst hdz
   have H1 : Hid (1 ≤ x.size) := Lib.hid (by have := hsq.out; have := hsq.out; omega)
   go_enter Tryz.func63, Tryz.ntmps63
   go_wp2_with fail
   go_ret2
   exact .mk 1 false rfl H1.out hb0
  have hde : (deep == 0) = false := by simpa using hdz
  go_enter Tryz.func63, Tryz.ntmps63
  go_wp2_with fail
  go_loopw [8, 9] (fun n i wr => ∃ (k S : Nat), k ≤ x.sub.length ∧ i = .int .i64 (k : Int) ∧ n = .int .i64 (S : Int) ∧ S ≤ 2000000 ∧ Hid (S ≤ 1 + Ex.sizes (x.sub.take k)) ∧ Below w.heap.size w wr ∧ wr.cell? ⟨w.heap.size, 4, none⟩ = some (.slice ad x.sub.length cap)) (fun _ i _ => x.sub.length - (intOf i).toNat)
  case atStart => exact ⟨0, 1, Nat.zero_le _, rfl, rfl, by omega, Lib.hid (by have := hsq.out; have := hsq.out; omega), hb0, by go_simp⟩
  case round =>
   clear hb0
   obtain ⟨k, S, hk, rfl, rfl, hS, HSz, hbel, q0⟩ := hrel
   by_cases hlt : k < x.sub.length
   ·by_cases hli : (S : Int) ≤ lim
    ·obtain ⟨y, hy⟩ : ∃ y, x.sub[k]? = some y := ⟨_, List.getElem?_eq_getElem hlt⟩
     obtain ⟨b, off, s', rfl, c0, c1, c2, c3, c4, hs', _⟩ := (HS.out.frame hbel).at hy
     have hym := Ex.mem_lt (List.mem_of_getElem? hy)
     have hblk : b < wr.heap.size := World.block_lt_of_cell? wr _ c0
     have hbx : w.heap.size < wr.heap.size := World.block_lt_of_cell? wr _ q0
     have hzw := hbel.size
     have hyl : y.size ≤ 2000000 := by have := y.size_le; omega
     have hst := Ex.sizes_take x.sub (k + 1)
     have hst0 := Ex.sizes_take x.sub k
     have HSn := Lib.hid (Ex.sizes_snoc hy)
     have HSq := Lib.hid hst
     have HS0 : Hid (S ≤ x.size) := Lib.hid (by have := hsq.out; have := HSz.out; omega)
     have hk1 : (0 : Int) ≤ (k : Int) := by omega
     have hk2 : (k : Int) < (x.sub.length : Int) := by omega
     have e1 : IntKind.i64.wrap (lim - (S : Int)) = lim - (S : Int) := by rw [IntWalk.i64_in _ (by omega)]
     have e2 : IntKind.i64.wrap (deep - 1) = deep - 1 := by rw [IntWalk.i64_in _ (by omega)]
     have HC := Lib.hid (HI.out y s' (lim - (S : Int)) (deep - 1) wr (by omega) (by omega) hs' (by omega) (by omega) (by omega) (by omega))
     unfold Ex.val at HC
     clear hy hym hs' hst hst0
     go_wp2_with fail
     refine HC.out.mono ?_
     rintro e w1 ⟨⟨m, g, rfl, hm⟩, hb1⟩
     have q1 : w1.cell? ⟨w.heap.size, 4, none⟩ = some (.slice (some ⟨b, off, none⟩) x.sub.length cap) := by rw [hb1.cell (p := ⟨w.heap.size, 4, none⟩) hbx]; exact q0
     have hb2 := hbel.trans (hb1.mono hzw)
     clear hb1 hbel q0 HC
     cases g with
     | false =>
      go_wp2
      go_ret2
      exact .mk S false rfl HS0.out hb2
     | true =>
      have HSm : Hid (S + m ≤ 1 + Ex.sizes (x.sub.take (k + 1))) := Lib.hid (by have := hsq.out; have := HSn.out; have := HSz.out; omega)
      have hSm : S + m ≤ 2000000 := by have := hsq.out; have := HSm.out; have := HSq.out; omega
      have e3 : IntKind.i64.wrap ((S : Int) + (m : Int)) = ((S + m : Nat) : Int) := by rw [IntWalk.i64_in _ (by omega)]; omega
      go_wp2
      go_roundw
      case rel => exact ⟨k + 1, S + m, by omega, by go_num, rfl, hSm, HSm, hb2, q1⟩
      case measure => simp [intOf]; omega
    ·have HS0 : Hid (S ≤ x.size) := Lib.hid (by have := hsq.out; have := HSz.out; have := Ex.sizes_take x.sub k; omega)
     go_wp2
     go_ret2
     exact .mk S true rfl HS0.out hbel
   ·have HS0 : Hid (S ≤ x.size) := Lib.hid (by have := hsq.out; have := HSz.out; have := Ex.sizes_take x.sub k; omega)
    go_wp2
    go_ret2
    exact .mk S true rfl HS0.out hbel
set_option maxHeartbeats 1000000 in
set_option maxRecDepth 100000 in
theorem xbytes_any : ∀ (N : Nat) (x : Ex) (s : Value) (w : World), x.bulk ≤ N → x.bulk ≤ 2000000 → RdE w x.sub s →
  Calls Tryz.prog 64 #[x.val s] w (NatPost x.bulk w) := by
 intro N
 induction N with
 | zero =>
  intro x s w h0
  rw [Ex.bulk_eq] at h0
  omega
 | succ N ih =>
  intro x s w hN hB hs
  obtain ⟨ad, cap, rfl⟩ := hs.len
  have HS := Lib.hid hs
  have HI := Lib.hid ih
  have hlen := Ex.bulks_len x.sub
  have hlt0 := x.sub_lt
  have hsq := Lib.hid x.bulk_eq
  have hn : x.sub.length ≤ 2000000 := by omega
  have hsz1 : x.ra.size + x.nm.size ≤ 2000000 := by have := hsq.out; omega
  have hb0 := below_a1 w (.cells #[.int .u8 x.k, .string x.ra, .string x.nm, .int .i64 x.d, .slice ad x.sub.length cap] 25)
  have e0 : IntKind.i64.wrap ((x.ra.size : Int) + (x.nm.size : Int)) = ((x.ra.size + x.nm.size : Nat) : Int) := by rw [IntWalk.i64_in _ (by omega)]; omega
  clear hs ih
  unfold Ex.val
  go_enter Tryz.func64, Tryz.ntmps64
  go_wp2_with fail
  go_loopw [3, 4] (fun n i wr => ∃ (k S : Nat), k ≤ x.sub.length ∧ i = .int .i64 (k : Int) ∧ n = .int .i64 (S : Int) ∧ S ≤ 2000000 ∧ Hid (S ≤ x.ra.size + x.nm.size + Ex.bulks (x.sub.take k)) ∧ Below w.heap.size w wr ∧ wr.cell? ⟨w.heap.size, 4, none⟩ = some (.slice ad x.sub.length cap)) (fun _ i _ => x.sub.length - (intOf i).toNat)
  case atStart => exact ⟨0, x.ra.size + x.nm.size, Nat.zero_le _, rfl, rfl, by omega, Lib.hid (by omega), hb0, by go_simp⟩
  case round =>
   clear hb0
   obtain ⟨k, S, hk, rfl, rfl, hS, HSz, hbel, q0⟩ := hrel
   by_cases hlt : k < x.sub.length
   ·obtain ⟨y, hy⟩ : ∃ y, x.sub[k]? = some y := ⟨_, List.getElem?_eq_getElem hlt⟩
    obtain ⟨b, off, s', rfl, c0, c1, c2, c3, c4, hs', _⟩ := (HS.out.frame hbel).at hy
    have hym := Ex.mem_lt (List.mem_of_getElem? hy)
    have hblk : b < wr.heap.size := World.block_lt_of_cell? wr _ c0
    have hbx : w.heap.size < wr.heap.size := World.block_lt_of_cell? wr _ q0
    have hzw := hbel.size
    have HSn := Lib.hid (Ex.bulks_snoc hy)
    have HSq := Lib.hid (Ex.bulks_take x.sub (k + 1))
    have hk1 : (0 : Int) ≤ (k : Int) := by omega
    have hk2 : (k : Int) < (x.sub.length : Int) := by omega
    have HC := Lib.hid (HI.out y s' wr (by omega) (by omega) hs')
    unfold Ex.val at HC
    clear hy hym hs'
    go_wp2_with fail
    refine HC.out.mono ?_
    rintro e w1 ⟨⟨m, rfl, hm⟩, hb1⟩
    have q1 : w1.cell? ⟨w.heap.size, 4, none⟩ = some (.slice (some ⟨b, off, none⟩) x.sub.length cap) := by rw [hb1.cell (p := ⟨w.heap.size, 4, none⟩) hbx]; exact q0
    have hb2 := hbel.trans (hb1.mono hzw)
    clear hb1 hbel q0 HC
    have HSm : Hid (S + m ≤ x.ra.size + x.nm.size + Ex.bulks (x.sub.take (k + 1))) := Lib.hid (by have := HSn.out; have := HSz.out; omega)
    have hSm : S + m ≤ 2000000 := by have := hsq.out; have := HSm.out; have := HSq.out; omega
    have e3 : IntKind.i64.wrap ((S : Int) + (m : Int)) = ((S + m : Nat) : Int) := by rw [IntWalk.i64_in _ (by omega)]; omega
    go_wp2
    go_roundw
    case rel => exact ⟨k + 1, S + m, by omega, by go_num, rfl, hSm, HSm, hb2, q1⟩
    case measure => simp [intOf]; omega
   ·have HF : Hid (S ≤ x.bulk) := Lib.hid (by have := hsq.out; have := HSz.out; have := Ex.bulks_take x.sub k; omega)
    go_wp2
    go_ret
    exact .mk S rfl HF.out hbel
set_option maxHeartbeats 1000000 in
set_option maxRecDepth 100000 in
theorem xgreat_any (x : Ex) (s : Value) (w : World) (hB : x.bulk ≤ 2000000) (hs : RdE w x.sub s) :
  Calls Tryz.prog 41 #[x.val s] w (BoolPost w) := by
 have hsz := x.size_le
 have hb0 := below_a1 w (.cells #[.int .u8 x.k, .string x.ra, .string x.nm, .int .i64 x.d, s] 25)
 have HS := Lib.hid hs
 have HC := Lib.hid (xcount_any x.bulk x s 600 100 _ (Nat.le_refl _) hB (hs.frame hb0) (by omega) (by omega) (by omega) (by omega))
 clear hs
 unfold Ex.val at HC ⊢
 obtain ⟨ad, cap, rfl⟩ := HS.out.len
 go_enter Tryz.func41, Tryz.ntmps41
 go_wp2_with fail
 refine HC.out.mono ?_
 rintro e w1 ⟨⟨n, g, rfl, hn⟩, hb1⟩
 have hz1 := hb1.size
 simp only [World.size_alloc] at hz1
 have c : ∀ j u, (w.alloc (.cells #[.int .u8 x.k, .string x.ra, .string x.nm, .int .i64 x.d, .slice ad x.sub.length cap] 25)).cell? ⟨w.heap.size, j, none⟩ = some u → w1.cell? ⟨w.heap.size, j, none⟩ = some u := fun j u h => by
  rw [hb1.cell (p := ⟨w.heap.size, j, none⟩) (by simp)]; exact h
 have c0 := c 0 (.int .u8 x.k) (by go_simp)
 have c1 := c 1 (.string x.ra) (by go_simp)
 have c2 := c 2 (.string x.nm) (by go_simp)
 have c3 := c 3 (.int .i64 x.d) (by go_simp)
 have c4 := c 4 (.slice ad x.sub.length cap) (by go_simp)
 have hb2 := hb0.trans (hb1.mono (by simp))
 have HB := Lib.hid (xbytes_any x.bulk x _ w1 (Nat.le_refl _) hB (HS.out.frame hb2))
 unfold Ex.val at HB
 clear c hb0 hb1 HC
 cases g with
 | false =>
  go_wp2
  go_ret
  exact .mk _ rfl hb2
 | true =>
  by_cases h6 : (600 : Int) < (n : Int)
  ·go_wp2
   go_ret
   exact .mk _ rfl hb2
  ·go_wp2_with fail
   refine HB.out.mono ?_
   rintro e w2 ⟨⟨m, rfl, hm⟩, hb3⟩
   have hb4 := hb2.trans (hb3.mono (by omega))
   clear hb2 hb3 HB
   go_wp2
   go_ret
   exact .mk _ rfl hb4
end Go.Proofs.YtkonookacfmfgaaGreatDoor

namespace Go.Proofs.YtkonookacfmfgaaGreatDoor
open Go.RowKit
set_option maxHeartbeats 1000000 in
set_option maxRecDepth 100000 in
theorem ccount_any : ∀ (N : Nat) (x : Con) (es dd ss : Value) (lim deep : Int) (w : World), x.bulk ≤ N → x.bulk ≤ 2000000 → RdN w x es dd ss → 0 ≤ lim → lim ≤ 1000 → 0 ≤ deep → deep ≤ 1000 →
  Calls Tryz.prog 18 #[x.val es dd ss, .int .i64 lim, .int .i64 deep] w (CountPost x.bulk w) := by
 intro N
 induction N with
 | zero =>
  intro x es dd ss lim deep w h0
  rw [Con.bulk_eq] at h0
  omega
 | succ N ih =>
  intro x es dd ss lim deep w hN hB hs hl0 hl1 hd0 hd1
  obtain ⟨ad, cap, rfl⟩ := hs.2.2.1.len
  obtain ⟨ad1, cap1, rfl⟩ := hs.1.len
  obtain ⟨ad2, cap2, rfl⟩ := hs.2.1.len
  have HS := Lib.hid hs.2.2.1
  have HI := Lib.hid ih
  have hlen := Con.bulks_len x.sub
  have hlt0 := x.sub_lt
  have hsq := Lib.hid x.bulk_eq
  have hsub := Con.sub_lt x
  have hn : x.sub.length ≤ 2000000 := by omega
  have hb0 := below_a1 w (.cells #[.int .u8 x.k, .string x.fr, .string x.rc, .string x.nm, .int .u8 x.ex.k, .string x.ex.ra, .string x.ex.nm, .int .i64 x.ex.d, .slice ad1 x.ex.sub.length cap1, .int .i64 x.d, .slice ad2 x.ds.length cap2, .slice ad x.sub.length cap] 29)
  clear hs ih
  unfold Con.val
  by_cases hdz : deep = 0
  ·subst hdz
   have H1 : Hid (1 ≤ x.bulk) := Lib.hid (by have := hsq.out; omega)
   go_enter Tryz.func18, Tryz.ntmps18
   go_wp2_with fail
   go_ret2
   exact .mk 1 false rfl H1.out hb0
  have hde : (deep == 0) = false := by simpa using hdz
  go_enter Tryz.func18, Tryz.ntmps18
  go_wp2_with fail
  go_loopw [8, 9] (fun n i wr => ∃ (k S : Nat), k ≤ x.sub.length ∧ i = .int .i64 (k : Int) ∧ n = .int .i64 (S : Int) ∧ S ≤ 2000000 ∧ Hid (S ≤ 1 + Con.bulks (x.sub.take k)) ∧ Below w.heap.size w wr ∧ wr.cell? ⟨w.heap.size, 11, none⟩ = some (.slice ad x.sub.length cap)) (fun _ i _ => x.sub.length - (intOf i).toNat)
  case atStart => exact ⟨0, 1, Nat.zero_le _, rfl, rfl, by omega, Lib.hid (by have := hsq.out; omega), hb0, by go_simp⟩
  case round =>
   clear hb0
   obtain ⟨k, S, hk, rfl, rfl, hS, HSz, hbel, q0⟩ := hrel
   have HS0 : Hid (S ≤ x.bulk) := Lib.hid (by have := hsq.out; have := HSz.out; have := Con.bulks_take x.sub k; omega)
   by_cases hlt : k < x.sub.length
   ·by_cases hli : (S : Int) ≤ lim
    ·obtain ⟨y, hy⟩ : ∃ y, x.sub[k]? = some y := ⟨_, List.getElem?_eq_getElem hlt⟩
     obtain ⟨b, off, es', dd', ss', rfl, ⟨c0, c1, c2, c3, c4, c5, c6, c7, c8, c9, c10, c11⟩, hs'⟩ := (HS.out.frame hbel).cells hy
     have hym := Con.mem_lt (List.mem_of_getElem? hy)
     have hblk : b < wr.heap.size := World.block_lt_of_cell? wr _ c0
     have hbx : w.heap.size < wr.heap.size := World.block_lt_of_cell? wr _ q0
     have hzw := hbel.size
     have HSn := Lib.hid (Con.bulks_snoc hy)
     have HSq := Lib.hid (Con.bulks_take x.sub (k + 1))
     have hk1 : (0 : Int) ≤ (k : Int) := by omega
     have hk2 : (k : Int) < (x.sub.length : Int) := by omega
     have e1 : IntKind.i64.wrap (lim - (S : Int)) = lim - (S : Int) := by rw [IntWalk.i64_in _ (by omega)]
     have e2 : IntKind.i64.wrap (deep - 1) = deep - 1 := by rw [IntWalk.i64_in _ (by omega)]
     have HC := Lib.hid (HI.out y es' dd' ss' (lim - (S : Int)) (deep - 1) wr (by omega) (by omega) hs' (by omega) (by omega) (by omega) (by omega))
     unfold Con.val at HC
     clear hy hym hs'
     go_wp2_with fail
     refine HC.out.mono ?_
     rintro e w1 ⟨⟨m, g, rfl, hm⟩, hb1⟩
     have q1 : w1.cell? ⟨w.heap.size, 11, none⟩ = some (.slice (some ⟨b, off, none⟩) x.sub.length cap) := by rw [hb1.cell (p := ⟨w.heap.size, 11, none⟩) hbx]; exact q0
     have hb2 := hbel.trans (hb1.mono hzw)
     clear hb1 hbel q0 HC c0 c1 c2 c3 c4 c5 c6 c7 c8 c9 c10 c11
     cases g with
     | false =>
      go_wp2
      go_ret2
      exact .mk S false rfl HS0.out hb2
     | true =>
      have HSm : Hid (S + m ≤ 1 + Con.bulks (x.sub.take (k + 1))) := Lib.hid (by have := HSn.out; have := HSz.out; omega)
      have hSm : S + m ≤ 2000000 := by have := hsq.out; have := HSm.out; have := HSq.out; omega
      have e3 : IntKind.i64.wrap ((S : Int) + (m : Int)) = ((S + m : Nat) : Int) := by rw [IntWalk.i64_in _ (by omega)]; omega
      go_wp2
      go_roundw
      case rel => exact ⟨k + 1, S + m, by omega, by go_num, rfl, hSm, HSm, hb2, q1⟩
      case measure => simp [intOf]; omega
    ·go_wp2
     go_ret2
     exact .mk S true rfl HS0.out hbel
   ·go_wp2
    go_ret2
    exact .mk S true rfl HS0.out hbel
set_option maxHeartbeats 2000000 in
set_option maxRecDepth 100000 in
theorem cweight_any : ∀ (N : Nat) (x : Con) (es dd ss : Value) (w : World), x.bulk ≤ N → x.bulk ≤ 2000000 → RdN w x es dd ss →
  Calls Tryz.prog 19 #[x.val es dd ss] w (NatPost (200000 * x.bulk) w) := by
 intro N
 induction N with
 | zero =>
  intro x es dd ss w h0
  rw [Con.bulk_eq] at h0
  omega
 | succ N ih =>
  intro x es dd ss w hN hB hs
  obtain ⟨ad, cap, rfl⟩ := hs.2.2.1.len
  obtain ⟨ad1, cap1, rfl⟩ := hs.1.len
  obtain ⟨ad2, cap2, rfl⟩ := hs.2.1.len
  have HS := Lib.hid hs.2.2.1
  have HE := Lib.hid hs.1
  have HI := Lib.hid ih
  have hlen := Con.bulks_len x.sub
  have hlt0 := x.sub_lt
  have hsq := Lib.hid x.bulk_eq
  have hsq1 := x.bulk_eq
  have hesz := x.ex.size_le
  have hn : x.sub.length ≤ 2000000 := by omega
  have hexb : x.ex.bulk ≤ 2000000 := by omega
  have hn1 : x.ds.length ≤ 2000000 := by omega
  have hf1 : x.fr.size ≤ 2000000 := by omega
  have hf2 : x.rc.size ≤ 2000000 := by omega
  have hf3 : x.nm.size ≤ 2000000 := by omega
  have hf4 : x.ex.size ≤ 2000000 := by omega
  have hb0 := below_a1 w (.cells #[.int .u8 x.k, .string x.fr, .string x.rc, .string x.nm, .int .u8 x.ex.k, .string x.ex.ra, .string x.ex.nm, .int .i64 x.ex.d, .slice ad1 x.ex.sub.length cap1, .int .i64 x.d, .slice ad2 x.ds.length cap2, .slice ad x.sub.length cap] 29)
  have HG := Lib.hid (xgreat_any x.ex _ _ (by omega) (HE.out.frame hb0))
  have H2 : Hid (200000 ≤ 200000 * x.bulk) := Lib.hid (by omega)
  clear hs ih hsq1 hesz
  unfold Con.val
  unfold Ex.val at HG
  go_enter Tryz.func19, Tryz.ntmps19
  go_wp2_with fail
  refine HG.out.mono ?_
  rintro e w1 ⟨⟨g, rfl⟩, hb1⟩
  have hz1 := hb1.size
  simp only [World.size_alloc] at hz1
  have c : ∀ j u, (w.alloc (.cells #[.int .u8 x.k, .string x.fr, .string x.rc, .string x.nm, .int .u8 x.ex.k, .string x.ex.ra, .string x.ex.nm, .int .i64 x.ex.d, .slice ad1 x.ex.sub.length cap1, .int .i64 x.d, .slice ad2 x.ds.length cap2, .slice ad x.sub.length cap] 29)).cell? ⟨w.heap.size, j, none⟩ = some u → w1.cell? ⟨w.heap.size, j, none⟩ = some u := fun j u h => by
   rw [hb1.cell (p := ⟨w.heap.size, j, none⟩) (by simp)]; exact h
  have c1 := c 1 (.string x.fr) (by go_simp)
  have c2 := c 2 (.string x.rc) (by go_simp)
  have c3 := c 3 (.string x.nm) (by go_simp)
  have c4 := c 4 (.int .u8 x.ex.k) (by go_simp)
  have c5 := c 5 (.string x.ex.ra) (by go_simp)
  have c6 := c 6 (.string x.ex.nm) (by go_simp)
  have c7 := c 7 (.int .i64 x.ex.d) (by go_simp)
  have c8 := c 8 (.slice ad1 x.ex.sub.length cap1) (by go_simp)
  have c10 := c 10 (.slice ad2 x.ds.length cap2) (by go_simp)
  have c11 := c 11 (.slice ad x.sub.length cap) (by go_simp)
  have hb2 := hb0.trans (hb1.mono (by simp))
  have HZ : Hid (∀ W, Ext w1 W → Calls Tryz.prog 42 #[.agg #[.int .u8 x.ex.k, .string x.ex.ra, .string x.ex.nm, .int .i64 x.ex.d, .slice ad1 x.ex.sub.length cap1]] W fun e w' => e = .returned (.int .i64 (x.ex.size : Int)) ∧ Below W.heap.size W w') :=
   Lib.hid fun W hW => rsize_any x.ex.bulk x.ex _ W (Nat.le_refl _) hexb (HE.out.frame (hb2.trans (Below.mono hW (by omega))))
  clear c hb0 hb1 HG
  cases g with
  | true =>
   go_wp2
   go_ret
   exact .mk 200000 rfl H2.out hb2
  | false =>
   obtain ⟨T, hT, hTl, hTb⟩ : ∃ T : Nat, (x.fr.size : Int) + (x.rc.size : Int) + (x.nm.size : Int) + (x.ds.length : Int) + 4 * (x.ex.size : Int) = (T : Int) ∧ T ≤ 20000000 ∧ Hid (T + 200000 * Con.bulks x.sub ≤ 200000 * x.bulk) :=
    ⟨x.fr.size + x.rc.size + x.nm.size + x.ds.length + 4 * x.ex.size, by omega, by omega, Lib.hid (by have := hsq.out; have := x.ex.size_le; omega)⟩
   have e1 : IntKind.i64.wrap ((x.fr.size : Int) + (x.rc.size : Int)) = (x.fr.size : Int) + (x.rc.size : Int) := IntWalk.i64_in _ (by omega)
   have e2 : IntKind.i64.wrap ((x.fr.size : Int) + (x.rc.size : Int) + (x.nm.size : Int)) = (x.fr.size : Int) + (x.rc.size : Int) + (x.nm.size : Int) := IntWalk.i64_in _ (by omega)
   have e3 : IntKind.i64.wrap ((x.fr.size : Int) + (x.rc.size : Int) + (x.nm.size : Int) + (x.ds.length : Int)) = (x.fr.size : Int) + (x.rc.size : Int) + (x.nm.size : Int) + (x.ds.length : Int) := IntWalk.i64_in _ (by omega)
   have e4 : IntKind.i64.wrap (4 * (x.ex.size : Int)) = 4 * (x.ex.size : Int) := IntWalk.i64_in _ (by omega)
   have e5 : IntKind.i64.wrap (T : Int) = (T : Int) := IntWalk.i64_in _ (by omega)
   go_wp2
   refine wp_region_ext (fun W' => W'.cell? ⟨w.heap.size, 1, none⟩ = some (.string x.fr) ∧ W'.cell? ⟨w.heap.size, 2, none⟩ = some (.string x.rc) ∧ W'.cell? ⟨w.heap.size, 3, none⟩ = some (.string x.nm) ∧ W'.cell? ⟨w.heap.size, 4, none⟩ = some (.int .u8 x.ex.k) ∧ W'.cell? ⟨w.heap.size, 5, none⟩ = some (.string x.ex.ra) ∧ W'.cell? ⟨w.heap.size, 6, none⟩ = some (.string x.ex.nm) ∧ W'.cell? ⟨w.heap.size, 7, none⟩ = some (.int .i64 x.ex.d) ∧ W'.cell? ⟨w.heap.size, 8, none⟩ = some (.slice ad1 x.ex.sub.length cap1) ∧ W'.cell? ⟨w.heap.size, 10, none⟩ = some (.slice ad2 x.ds.length cap2) ∧ W'.cell? ⟨w.heap.size, 11, none⟩ = some (.slice ad x.sub.length cap)) (fun W' hW' => ⟨hW'.cell (by go_simp), hW'.cell (by go_simp), hW'.cell (by go_simp), hW'.cell (by go_simp), hW'.cell (by go_simp), hW'.cell (by go_simp), hW'.cell (by go_simp), hW'.cell (by go_simp), hW'.cell (by go_simp), hW'.cell (by go_simp)⟩) (by kernel_rfl) (by kernel_rfl) ?_
   intro HCW
   repeat (first | go_big_quiet_skip | (go_big_quiet_want; apply Exists.intro; refine ⟨fun W hW => ?_, ?_⟩; (focus (obtain ⟨q1, q2, q3, q4, q5, q6, q7, q8, q10, q11⟩ := HCW W hW; go_simp; first | done | rfl | with_reducible exact ext_callsE HZ.out W hW)); (simp only [Act.put, List.setIfInBounds_toArray, List.set_cons_zero, List.set_cons_succ]); go_big_quiet_on))
   refine wpQuiet_nil ?_
   intro W hW
   obtain ⟨q1, q2, q3, q4, q5, q6, q7, q8, q10, q11⟩ := HCW W hW
   have hW := hW.below
   have hb3 := hb2.trans (hW.mono (by omega))
   have hbx : w.heap.size < W.heap.size := by have := hW.size; omega
   clear hb2 hW HCW HZ
   clear e1 e2 e3 e4 e5
   go_wp2
   go_loopw [3, 4] (fun n i wr => ∃ (k S : Nat), k ≤ x.sub.length ∧ i = .int .i64 (k : Int) ∧ n = .int .i64 (S : Int) ∧ S ≤ 1000000000000 ∧ Hid (S ≤ T + 200000 * Con.bulks (x.sub.take k)) ∧ Below w.heap.size w wr ∧ wr.cell? ⟨w.heap.size, 11, none⟩ = some (.slice ad x.sub.length cap)) (fun _ i _ => x.sub.length - (intOf i).toNat)
   case atStart => exact ⟨0, T, Nat.zero_le _, rfl, rfl, by omega, Lib.hid (by omega), hb3, q11⟩
   case round =>
    clear hb3
    obtain ⟨k, S, hk, rfl, rfl, hS, HSz, hbel, q0⟩ := hrel
    have HS0 : Hid (S ≤ 200000 * x.bulk) := Lib.hid (by have := HSz.out; have := hTb.out; have := Con.bulks_take x.sub k; omega)
    by_cases hlt : k < x.sub.length
    ·by_cases hli : (S : Int) < 100000
     ·obtain ⟨y, hy⟩ : ∃ y, x.sub[k]? = some y := ⟨_, List.getElem?_eq_getElem hlt⟩
      obtain ⟨b, off, es', dd', ss', rfl, ⟨c0, c1, c2, c3, c4, c5, c6, c7, c8, c9, c10, c11⟩, hs'⟩ := (HS.out.frame hbel).cells hy
      have hym := Con.mem_lt (List.mem_of_getElem? hy)
      have hblk : b < wr.heap.size := World.block_lt_of_cell? wr _ c0
      have hbx : w.heap.size < wr.heap.size := World.block_lt_of_cell? wr _ q0
      have hzw := hbel.size
      have HSn := Lib.hid (Con.bulks_snoc hy)
      have HSq := Lib.hid (Con.bulks_take x.sub (k + 1))
      have hk1 : (0 : Int) ≤ (k : Int) := by omega
      have hk2 : (k : Int) < (x.sub.length : Int) := by omega
      have HC := Lib.hid (HI.out y es' dd' ss' wr (by omega) (by omega) hs')
      unfold Con.val at HC
      clear hy hym hs'
      go_wp2_with fail
      refine HC.out.mono ?_
      rintro e w1 ⟨⟨m, rfl, hm⟩, hb1⟩
      have q1 : w1.cell? ⟨w.heap.size, 11, none⟩ = some (.slice (some ⟨b, off, none⟩) x.sub.length cap) := by rw [hb1.cell (p := ⟨w.heap.size, 11, none⟩) hbx]; exact q0
      have hb2 := hbel.trans (hb1.mono hzw)
      clear hb1 hbel q0 HC c0 c1 c2 c3 c4 c5 c6 c7 c8 c9 c10 c11
      have HSm : Hid (S + m ≤ T + 200000 * Con.bulks (x.sub.take (k + 1))) := Lib.hid (by have := HSn.out; have := HSz.out; omega)
      have hSm : S + m ≤ 1000000000000 := by have := hsq.out; have := HSm.out; have := HSq.out; have := hTb.out; omega
      have e3 : IntKind.i64.wrap ((S : Int) + (m : Int)) = ((S + m : Nat) : Int) := by rw [IntWalk.i64_in _ (by omega)]; omega
      go_wp2
      go_roundw
      case rel => exact ⟨k + 1, S + m, by omega, by go_num, rfl, hSm, HSm, hb2, q1⟩
      case measure => simp [intOf]; omega
     ·go_wp2
      go_ret
      exact .mk S rfl HS0.out hbel
    ·go_wp2
     go_ret
     exact .mk S rfl HS0.out hbel
set_option maxHeartbeats 1000000 in
set_option maxRecDepth 100000 in
theorem cgreat_any (x : Con) (es dd ss : Value) (w : World) (hB : x.bulk ≤ 2000000) (hs : RdN w x es dd ss) :
  Calls Tryz.prog 4 #[x.val es dd ss] w (BoolPost w) := by
 have HS := Lib.hid hs
 obtain ⟨ad, cap, rfl⟩ := hs.2.2.1.len
 obtain ⟨ad1, cap1, rfl⟩ := hs.1.len
 obtain ⟨ad2, cap2, rfl⟩ := hs.2.1.len
 have hb0 := below_a1 w (.cells #[.int .u8 x.k, .string x.fr, .string x.rc, .string x.nm, .int .u8 x.ex.k, .string x.ex.ra, .string x.ex.nm, .int .i64 x.ex.d, .slice ad1 x.ex.sub.length cap1, .int .i64 x.d, .slice ad2 x.ds.length cap2, .slice ad x.sub.length cap] 29)
 have HC := Lib.hid (ccount_any x.bulk x _ _ _ 600 100 _ (Nat.le_refl _) hB (HS.out.frame hb0) (by omega) (by omega) (by omega) (by omega))
 clear hs
 unfold Con.val at HC ⊢
 go_enter Tryz.func4, Tryz.ntmps4
 go_wp2_with fail
 refine HC.out.mono ?_
 rintro e w1 ⟨⟨n, g, rfl, hn⟩, hb1⟩
 have hz1 := hb1.size
 simp only [World.size_alloc] at hz1
 have c : ∀ j u, (w.alloc (.cells #[.int .u8 x.k, .string x.fr, .string x.rc, .string x.nm, .int .u8 x.ex.k, .string x.ex.ra, .string x.ex.nm, .int .i64 x.ex.d, .slice ad1 x.ex.sub.length cap1, .int .i64 x.d, .slice ad2 x.ds.length cap2, .slice ad x.sub.length cap] 29)).cell? ⟨w.heap.size, j, none⟩ = some u → w1.cell? ⟨w.heap.size, j, none⟩ = some u := fun j u h => by
  rw [hb1.cell (p := ⟨w.heap.size, j, none⟩) (by simp)]; exact h
 have c0 := c 0 (.int .u8 x.k) (by go_simp)
 have c1 := c 1 (.string x.fr) (by go_simp)
 have c2 := c 2 (.string x.rc) (by go_simp)
 have c3 := c 3 (.string x.nm) (by go_simp)
 have c4 := c 4 (.int .u8 x.ex.k) (by go_simp)
 have c5 := c 5 (.string x.ex.ra) (by go_simp)
 have c6 := c 6 (.string x.ex.nm) (by go_simp)
 have c7 := c 7 (.int .i64 x.ex.d) (by go_simp)
 have c8 := c 8 (.slice ad1 x.ex.sub.length cap1) (by go_simp)
 have c9 := c 9 (.int .i64 x.d) (by go_simp)
 have c10 := c 10 (.slice ad2 x.ds.length cap2) (by go_simp)
 have c11 := c 11 (.slice ad x.sub.length cap) (by go_simp)
 have hb2 := hb0.trans (hb1.mono (by simp))
 have HB := Lib.hid (cweight_any x.bulk x _ _ _ w1 (Nat.le_refl _) hB (HS.out.frame hb2))
 unfold Con.val at HB
 clear c hb0 hb1 HC
 cases g with
 | false =>
  go_wp2
  go_ret
  exact .mk _ rfl hb2
 | true =>
  by_cases h6 : (600 : Int) < (n : Int)
  ·go_wp2
   go_ret
   exact .mk _ rfl hb2
  ·go_wp2_with fail
   refine HB.out.mono ?_
   rintro e w2 ⟨⟨m, rfl, hm⟩, hb3⟩
   have hb4 := hb2.trans (hb3.mono (by omega))
   clear hb2 hb3 HB
   go_wp2
   go_ret
   exact .mk _ rfl hb4
end Go.Proofs.YtkonookacfmfgaaGreatDoor

namespace Go.Proofs.YtkonookacfmfgaaGreatDoor
open Go.RowKit Go.ChangeShapes Go.WideShapes Go.Deep
theorem bulk_one {H : Type} (d : DataW H) : 1 ≤ Rows.uptoBulk d := by
 cases d with
 | lit l => cases l <;> simp [Rows.uptoBulk]
 | _ => simp [Rows.uptoBulk]
theorem bulk_part {H : Type} {d : DataW H} {l : List (DataW H)} (h : d ∈ l) : Rows.uptoBulk d ≤ Rows.uptoBulkAll l := by
 induction l with
 | nil => cases h
 | cons x r ih =>
  simp only [Rows.uptoBulkAll]
  rcases List.mem_cons.1 h with e | e
  ·subst e; omega
  ·have := ih e; omega
theorem bulk_length {H : Type} (l : List (DataW H)) : l.length ≤ Rows.uptoBulkAll l := by
 induction l with
 | nil => simp [Rows.uptoBulkAll]
 | cons x r ih => have := bulk_one x; simp only [Rows.uptoBulkAll, List.length_cons]; omega
theorem bulk_agg {H : Type} {d : DataW H} {l : List (DataW H)} (h : d ∈ l) : Rows.uptoBulk d ≤ Rows.uptoBulk (.agg l) := by
 have := bulk_part h
 simp only [Rows.uptoBulk]; omega
theorem bulk_text {H : Type} (s : ByteArray) : s.size ≤ Rows.uptoBulk (DataW.lit (H := H) (.string s.data.toList)) := by
 simp only [Rows.uptoBulk, Array.length_toList]
 show s.data.size ≤ _
 omega
theorem list_of {α : Type} {Q : Nat → α → Prop} : ∀ n : Nat, (∀ i, i < n → ∃ x, Q i x) → ∃ l : List α, l.length = n ∧ ∀ i x, l[i]? = some x → Q i x
 | 0, _ => ⟨[], rfl, by simp⟩
 | n + 1, h => by
  obtain ⟨l, hl, hq⟩ := list_of n (fun i hi => h i (by omega))
  obtain ⟨x, hx⟩ := h n (by omega)
  refine ⟨l ++ [x], by simp [hl], fun i y hy => ?_⟩
  by_cases hi : i < l.length
  ·rw [List.getElem?_append_left hi] at hy
   exact hq i y hy
  ·have hi2 := (List.getElem?_eq_some_iff.1 hy).1
   simp at hi2
   obtain rfl : i = l.length := by omega
   simp at hy
   rw [hl, ← hy]; exact hx
theorem flat_inv {α : Type} (enc : α → List Value) (m : Nat) (hm : ∀ x, (enc x).length = m) (hm0 : 0 < m) : ∀ (l : List α) (j : Nat) (u : Value), (l.flatMap enc)[j]? = some u → ∃ i k x, j = i * m + k ∧ k < m ∧ l[i]? = some x ∧ (enc x)[k]? = some u
 | [], j, u, h => by simp at h
 | y :: l, j, u, h => by
  rw [List.flatMap_cons] at h
  by_cases hj : j < m
  ·rw [List.getElem?_append_left (by rw [hm]; exact hj)] at h
   exact ⟨0, j, y, by simp, hj, rfl, h⟩
  ·rw [List.getElem?_append_right (by rw [hm]; omega), hm] at h
   obtain ⟨i, k, x, h1, h2, h3, h4⟩ := flat_inv enc m hm hm0 l (j - m) u h
   exact ⟨i + 1, k, x, by rw [Nat.add_mul, Nat.one_mul]; omega, h2, by simpa using h3, h4⟩
section
variable {H : Type} {enc : TypeId × Value → H} {P : Program} {w : World} {sp : Nat → Bool} {held : Bool}
theorem open_list {α : Type} (en : α → List Value) (m : Nat) (hm : ∀ x, (en x).length = m) (hm0 : 0 < m) (good : α → DataW H → Prop) {t e : TypeId} {fuel : Nat} {v : Value} {y : DataW H × List MemPlace}
  (ht : P.underlying t = some (.slice e)) (hc : P.cellsOf e = m)
  (dec : ∀ (n : Nat) (cs : List Value) (z : DataW H × List MemPlace), cs.length = m → DataW.trod enc P w 0 sp held n e cs = some z → ∃ x, cs = en x ∧ good x z.1)
  (h : DataW.trod enc P w 0 sp held fuel t [v] = some y) :
  ∃ (ad : Option Addr) (cap : Nat) (l : List α), v = .slice ad l.length cap ∧ (ad = none → cap = 0) ∧ Sl w (.slice ad l.length cap) m l.length (l.flatMap en) ∧
   l.length ≤ Rows.uptoBulk y.1 ∧ ∀ x ∈ l, ∃ d, good x d ∧ Rows.uptoBulk d ≤ Rows.uptoBulk y.1 := by
 rcases open_slice ht h with ⟨h0, hy⟩ | ⟨a, len, cap, mm, n, D, Pl, hcs, hb, hl, hmx, hmm, hx, hi⟩
 ·simp at h0
  exact ⟨none, 0, [], h0, fun _ => rfl, Sl.empty w none 0 m, Nat.zero_le _, by simp⟩
 ·have hlm : len ≤ mm := by rw [hmm]; split <;> omega
  obtain ⟨l, hll, hq⟩ := list_of (Q := fun i x => w.cells? 0 (a.add (i * m)) m = some (en x) ∧ good x (D i)) len (fun i hil => by
   obtain ⟨cs', h1, h2⟩ := hi i (by omega)
   rw [hc] at h1
   obtain ⟨x, hx, hg⟩ := dec n cs' _ (World.cells?_some h1).2.1 h2
   exact ⟨x, by rw [← hx]; exact h1, hg⟩)
  have hspot : 0 < len → a.spot = none := fun h0 => by
   obtain ⟨x, hx⟩ : ∃ x, l[0]? = some x := ⟨_, List.getElem?_eq_getElem (by omega)⟩
   have h1 := (World.cells?_some (hq 0 x hx).1).2.2 0 hm0
   rw [Nat.zero_mul] at h1
   have h2 : w.cell? a = (en x)[0]? := h1
   rw [List.getElem?_eq_getElem (by rw [hm]; exact hm0)] at h2
   simp only [World.cell?] at h2
   cases hsp : a.spot with
   | none => rfl
   | some k => rw [hsp] at h2; simp at h2; split at h2 <;> simp at h2
  simp at hcs
  have hbulk : ∀ i, i < len → Rows.uptoBulk (D i) ≤ Rows.uptoBulk y.1 := fun i hil => by
   have := bulk_part (H := H) (d := D i) (l := (List.range len).map D) (List.mem_map.2 ⟨i, by simpa using hil, rfl⟩)
   rw [hx]
   simp only [Rows.uptoBulk]
   omega
  refine ⟨some a, cap, l, by rw [hll]; exact hcs, fun h => (by cases h), ?_, ?_, ?_⟩
  ·refine ⟨some a, cap, rfl, by omega, flat_length en m hm l, ?_⟩
   by_cases h0 : l.length = 0
   ·exact .inl h0
   ·right
    have hs := hspot (by omega)
    obtain ⟨b, off, sp⟩ := a
    simp at hs
    subst hs
    refine ⟨b, off, rfl, fun j u hj => ?_⟩
    obtain ⟨i, k, x, rfl, hk, h3, h4⟩ := flat_inv en m hm hm0 l j u hj
    have h5 := (World.cells?_some (hq i x h3).1).2.2 k hk
    rw [h4] at h5
    rw [← h5]
    congr 1
    simp only [Addr.add]
    split <;> split <;> simp_all <;> omega
  ·have h1 := bulk_length ((List.range len).map D)
   rw [List.length_map, List.length_range] at h1
   rw [hx]
   simp only [Rows.uptoBulk]
   omega
  ·intro x hxl
   obtain ⟨i, hix⟩ := List.getElem?_of_mem hxl
   have hil := (List.getElem?_eq_some_iff.1 hix).1
   exact ⟨D i, (hq i x hix).2, hbulk i (by omega)⟩
theorem arr2 {α : Type} {l : List α} (h : l.length = 2) : ∃ a b, l = [a, b] := by
 match l, h with
 | [a, b], _ => exact ⟨a, b, rfl⟩
theorem arr3 {α : Type} {l : List α} (h : l.length = 3) : ∃ a b c, l = [a, b, c] := by
 match l, h with
 | [a, b, c], _ => exact ⟨a, b, c, rfl⟩
theorem arr4 {α : Type} {l : List α} (h : l.length = 4) : ∃ a b c d, l = [a, b, c, d] := by
 match l, h with
 | [a, b, c, d], _ => exact ⟨a, b, c, d, rfl⟩
end
end Go.Proofs.YtkonookacfmfgaaGreatDoor

namespace Go.Proofs.YtkonookacfmfgaaGreatDoor
open Go.RowKit
theorem cells_rat : Tryz.prog.cellsOf 22 = 1 := by kernel_rfl
end Go.Proofs.YtkonookacfmfgaaGreatDoor
