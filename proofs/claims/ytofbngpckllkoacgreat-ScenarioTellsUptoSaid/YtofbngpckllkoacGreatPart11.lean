/-
  novationref01.Times.  Printed by tools/genreftimes.py. novationref01: Check, Both. novationref01.Gcd of two good numbers. novationref01.Result, Add, Mul, Negative and DivMod (where it comes out even).  Printed by tools/genrefiops.py.
-/
import Derived.Test.YtofbngpckllkoacGreatPart10
import Derived.StillTailTactics
import Derived.Deep.CutBlock
import Derived.IntWalk
import Derived.Test.YtofbngpckllkoacGreatPart08
import Derived.Test.YtofbngpckllkoacGreatPart05
namespace Go.Proofs.YtofbngpckllkoacGreat
open Go.RowKit

def RTOut (xs ys os : List Nat) (k : Nat) : Prop :=
  os.length = xs.length + ys.length ∧ (∀ i, os.getD i 0 ≤ 81 * k) ∧ val 10 os = val 10 (xs.take k) * val 10 ys
def RTIn (xs ys os : List Nat) (k x j : Nat) : Prop :=
  os.length = xs.length + ys.length ∧ (∀ i, os.getD i 0 ≤ 81 * (k + 1)) ∧ (∀ i, k + j ≤ i → os.getD i 0 ≤ 81 * k) ∧
    val 10 os = val 10 (xs.take k) * val 10 ys + x * val 10 (ys.take j) * 10 ^ k
theorem getD_zeros (n i : Nat) : (List.replicate n 0).getD i 0 = 0 := by
  simp only [List.getD, List.getElem?_replicate]; split <;> rfl
theorem RTOut.start (xs ys : List Nat) : RTOut xs ys (List.replicate (xs.length + ys.length) 0) 0 :=
  ⟨by simp, fun i => by rw [getD_zeros]; omega, by rw [val_zeros]; simp [val]⟩
theorem RTOut.into {xs ys os : List Nat} {k : Nat} (h : RTOut xs ys os k) (x : Nat) : RTIn xs ys os k x 0 :=
  ⟨h.1, fun i => by have := h.2.1 i; omega, fun i _ => h.2.1 i, by rw [h.2.2]; simp [val]⟩
theorem getD_set_eq (os : List Nat) (i d : Nat) (h : i < os.length) : (os.set i d).getD i 0 = d := by simp [List.getD, h]
theorem getD_set_far (os : List Nat) (i j d : Nat) (h : i ≠ j) : (os.set i d).getD j 0 = os.getD j 0 := by simp only [List.getD]; rw [List.getElem?_set_ne h]
theorem RTIn.step {xs ys os : List Nat} {k x j y q p : Nat} (h : RTIn xs ys os k x j) (hk : k < xs.length) (hj : j < ys.length) (hy : y = ys.getD j 0) (hq : q = os.getD (k + j) 0) (hp : p = x * y) (h81 : p ≤ 81) :
    RTIn xs ys (os.set (k + j) (q + p)) k x (j + 1) := by
  obtain ⟨h1, h2, h3, h4⟩ := h
  have hl : k + j < os.length := by omega
  have hq2 := h3 (k + j) (Nat.le_refl _)
  rw [← hq] at hq2
  refine ⟨by simpa using h1, fun i => ?_, fun i hi => ?_, ?_⟩
  · by_cases hi : k + j = i
    · subst hi; rw [getD_set_eq _ _ _ hl]; omega
    · rw [getD_set_far _ _ _ _ hi]; exact h2 i
  · rw [getD_set_far _ _ _ _ (by omega)]; exact h3 i (by omega)
  · have e1 := val_set 10 os (k + j) (q + p) hl
    rw [← hq, Nat.mul_add] at e1
    rw [val_take_succ, ← hy]
    have e4 : 10 ^ j * 10 ^ k = 10 ^ (k + j) := by rw [← Nat.pow_add, Nat.add_comm]
    have e7 : x * (val 10 (ys.take j) + 10 ^ j * y) * 10 ^ k = x * val 10 (ys.take j) * 10 ^ k + 10 ^ (k + j) * p := by
      rw [← e4, hp]; grind
    rw [e7]
    omega
theorem RTIn.fin {xs ys os : List Nat} {k : Nat} (h : RTIn xs ys os k (xs.getD k 0) ys.length) : RTOut xs ys os (k + 1) := by
  obtain ⟨h1, h2, h3, h4⟩ := h
  rw [List.take_of_length_le (Nat.le_refl _)] at h4
  refine ⟨h1, h2, ?_⟩
  rw [h4, val_take_succ, Nat.add_mul]
  congr 1
  grind
def RTFin (os : List Nat) (N B V k : Nat) : Prop :=
  os.length = N ∧ (∀ i, i < k → os.getD i 0 < 10) ∧ os.getD k 0 ≤ 2 * B ∧ (∀ i, k < i → os.getD i 0 ≤ B) ∧ val 10 os = V
theorem RTOut.fin {xs ys os : List Nat} {N : Nat} (h : RTOut xs ys os xs.length) (hN : N = xs.length + ys.length) : RTFin os N (81 * xs.length) (val 10 xs * val 10 ys) 0 := by
  obtain ⟨h1, h2, h3⟩ := h
  rw [List.take_of_length_le (Nat.le_refl _)] at h3
  exact ⟨by omega, fun i hi => by omega, by have := h2 0; omega, fun i _ => h2 i, h3⟩
theorem RTFin.step {os : List Nat} {N B V k q r : Nat} (h : RTFin os N B V k) (hk : k + 1 < N) (hq : q = os.getD k 0) (hr : r = os.getD (k + 1) 0) :
    RTFin ((os.set (k + 1) (r + q / 10)).set k (q % 10)) N B V (k + 1) := by
  obtain ⟨h1, h2, h3, h4, h5⟩ := h
  have hr2 := h4 (k + 1) (by omega)
  rw [← hr] at hr2
  rw [← hq] at h3
  refine ⟨by simpa using h1, fun i hi => ?_, ?_, fun i hi => ?_, ?_⟩
  · by_cases hik : k = i
    · subst hik; rw [getD_set_eq _ _ _ (by simp; omega)]; exact Nat.mod_lt _ (by decide)
    · rw [getD_set_far _ _ _ _ hik, getD_set_far _ _ _ _ (by omega)]; exact h2 i (by omega)
  · rw [getD_set_far _ _ _ _ (by omega), getD_set_eq _ _ _ (by omega)]; omega
  · rw [getD_set_far _ _ _ _ (by omega), getD_set_far _ _ _ _ (by omega)]; exact h4 i (by omega)
  · have e1 := val_set 10 os (k + 1) (r + q / 10) (by omega)
    have e2 := val_set 10 (os.set (k + 1) (r + q / 10)) k (q % 10) (by simp; omega)
    rw [getD_set_far _ _ _ _ (by omega), ← hq] at e2
    rw [← hr, Nat.mul_add] at e1
    have e3 := Nat.div_add_mod q 10
    have e4 : 10 ^ k * q = 10 ^ k * (10 * (q / 10) + q % 10) := by rw [e3]
    rw [Nat.mul_add, ← Nat.mul_assoc] at e4
    have e5 : 10 ^ (k + 1) = 10 ^ k * 10 := Nat.pow_succ ..
    rw [e5] at e1
    omega
theorem RTFin.done {os : List Nat} {N B V k : Nat} (h : RTFin os N B V k) (hk : N ≤ k + 1) (hk2 : k < N ∨ N = 0) (hV : V < 10 ^ N) : Dig 10 os := by
  obtain ⟨h1, h2, h3, h4, h5⟩ := h
  intro x hx
  obtain ⟨i, hi⟩ := List.getElem?_of_mem hx
  have hil := (List.getElem?_eq_some_iff.1 hi).1
  have e : os.getD i 0 = x := by simp [List.getD, hi]
  rcases hk2 with hk2 | hk2
  · by_cases hik : i < k
    · rw [← e]; exact h2 i hik
    · obtain rfl : i = k := by omega
      have e1 := val_split 10 os i (by omega)
      have e2 := val_drop 10 os i hil
      have ed : os.drop (i + 1) = [] := List.drop_of_length_le (by omega)
      rw [e, ed] at e2
      rw [e2] at e1
      have e3 : 10 ^ i * x ≤ V := by rw [← h5, e1]; simp [val]
      have e4 : N = i + 1 := by omega
      rw [e4, Nat.pow_succ] at hV
      exact Nat.lt_of_mul_lt_mul_left (Nat.lt_of_le_of_lt e3 hV)
  · omega
theorem prod_lt {xs ys : List Nat} (dx : Dig 10 xs) (dy : Dig 10 ys) : val 10 xs * val 10 ys < 10 ^ (xs.length + ys.length) := by
  rw [Nat.pow_add]
  exact Nat.mul_lt_mul'' (val_lt dx) (val_lt dy)
def RTP (w : World) (N V : Nat) (e : Ending) (w' : World) : Prop := ∃ v rs, e = .returned v ∧ OwnDig w w' v rs ∧ rs.length = N ∧ val 10 rs = V
def RTPost (w : World) (xs ys : List Nat) (e : Ending) (w' : World) : Prop :=
  ∃ v rs, e = .returned v ∧ OwnDig w w' v rs ∧ rs.length = xs.length + ys.length ∧ val 10 rs = val 10 xs * val 10 ys

set_option maxHeartbeats 2000000 in
set_option maxRecDepth 100000 in
theorem rtimes_any (a b : Value) (xs ys : List Nat) (w : World) (ha : Sl w a 1 xs.length (nums .i64 xs)) (hb : Sl w b 1 ys.length (nums .i64 ys))
    (dx : Dig 10 xs) (dy : Dig 10 ys) (lx : xs.length ≤ 100000) (ly : ys.length ≤ 100000) :
    Calls Tryz.prog 80 #[a, b] w (RTPost w xs ys) := by
  obtain ⟨ad, ca, rfl, h1, h3⟩ := ha.nums
  obtain ⟨bd, cb, rfl, h1', h3'⟩ := hb.nums
  obtain ⟨i0, hi, hz0, hz1, hz2⟩ := info_parts Tryz.info_int
  have Hdx := Lib.hid dx
  have Hdy := Lib.hid dy
  clear ha hb dx dy
  obtain ⟨N, hN⟩ : ∃ N, N = xs.length + ys.length := ⟨_, rfl⟩
  have HN := Lib.hid hN
  have hNl : N ≤ 200000 := by omega
  have hN1 : xs.length + ys.length ≤ N := by omega
  have hN2 : N ≤ xs.length + ys.length := by omega
  clear hN
  go_enter Tryz.func80, Tryz.ntmps80
  go_upto_block 0 with (at_make; refine wpList_make_full _ rfl _ _ 108 rfl w.heap.size 3 i0 (.int .i64 0) 1 Tryz.ul_ints hi hz0 hz1 _ _ _ _ N rfl rfl ?b0 ?b1 ?b2 ?b3 ?b4 ?_)
  case b0 => rw [HN.out]; simp
  case b1 => rw [HN.out]; simp
  case b2 => rw [hz2]; omega
  case b3 => unfold maxLen; omega
  case b4 => exact Nat.le_refl _
  intro w1 hown hgrow
  have hbel : Below w.heap.size w w1 := (Below.refl _ _).grown hgrow (Nat.le_refl _) (by simp)
  have hown1 : w1.ownsRow w.heap.size 3 1 (.slice (some ⟨w.heap.size, 0, none⟩) N N) N (nums .i64 (List.replicate (xs.length + ys.length) 0)) := by
    rw [← HN.out]
    rw [toList_madeCells_one] at hown
    simpa [nums] using hown
  clear hgrow hown
  go_upto_block 0 with fail
  go_cut [6, 7] from 15 to 47 (fun _ _ wc => ∃ os, wc.ownsRow w.heap.size 3 1 (.slice (some ⟨w.heap.size, 0, none⟩) N N) N (nums .i64 os) ∧ Hid (RTFin os N (81 * xs.length) (val 10 xs * val 10 ys) 0) ∧ Below w.heap.size w wc)
  case first =>
    go_wp2_with fail
    go_loopw [6] (fun i wr => ∃ (k : Nat) (os : List Nat), k ≤ xs.length ∧ i = .int .i64 k ∧ wr.ownsRow w.heap.size 3 1 (.slice (some ⟨w.heap.size, 0, none⟩) N N) N (nums .i64 os) ∧ Hid (RTOut xs ys os k) ∧ Below w.heap.size w wr) (fun i _ => xs.length - (intOf i).toNat)
    case atStart => exact ⟨0, _, Nat.zero_le _, rfl, hown1, RTOut.start _ _, hbel⟩
    case round =>
      clear hown1 hbel
      obtain ⟨k, os, hk, rfl, hown, Hinv, hbel⟩ := hrel
      by_cases hlt : k < xs.length
      · obtain ⟨b, off, rfl, hc⟩ := h3.resolve_left (by omega)
        have hck0 := hc k hlt
        have hx9 := Hdx.out.at (by decide) k
        obtain ⟨x, hx⟩ : ∃ x, x = xs.getD k 0 := ⟨_, rfl⟩
        rw [← hx] at hck0 hx9
        have Hx := Lib.hid hx; clear hx
        clear hc h3
        obtain ⟨wo, rfl⟩ : ∃ wo : World, wo = wr := ⟨_, rfl⟩
        go_wp2_with fail
        go_loopw [7] (fun i wr => ∃ (j : Nat) (os : List Nat), j ≤ ys.length ∧ i = .int .i64 j ∧ wr.ownsRow w.heap.size 3 1 (.slice (some ⟨w.heap.size, 0, none⟩) N N) N (nums .i64 os) ∧ Hid (RTIn xs ys os k x j) ∧ Below w.heap.size w wr) (fun i _ => ys.length - (intOf i).toNat)
        case atStart => exact ⟨0, _, Nat.zero_le _, rfl, hown, Hinv.out.into x, hbel⟩
        case round =>
          clear hown Hinv hbel
          obtain ⟨j, os, hj, rfl, hown, Hin, hbel⟩ := hrel
          by_cases hjt : j < ys.length
          · obtain ⟨b', off', rfl, hd⟩ := h3'.resolve_left (by omega)
            have hdk := cell_later hbel (hd j hjt)
            have hck := cell_later hbel hck0
            have hy9 := Hdy.out.at (by decide) j
            obtain ⟨y, hy⟩ : ∃ y, y = ys.getD j 0 := ⟨_, rfl⟩
            rw [← hy] at hdk hy9
            have Hy := Lib.hid hy; clear hy
            clear hd h3'
            have hol : os.length = N := by rw [HN.out]; exact Hin.out.1
            have ho9 := Hin.out.2.1 (k + j)
            have hok := (hown.cellAt (k + j) (by omega)).trans (nums_at .i64 os (k + j) (by omega))
            have hfr := hown.frozenAt (k + j)
            obtain ⟨q, hq⟩ : ∃ q, q = os.getD (k + j) 0 := ⟨_, rfl⟩
            rw [← hq] at hok ho9
            have Hq := Lib.hid hq; clear hq
            have Hol := Lib.hid hol; clear hol
            have hm : x * y ≤ 81 := Nat.mul_le_mul (show x ≤ 9 by omega) (show y ≤ 9 by omega)
            obtain ⟨p, hp⟩ : ∃ p, p = x * y := ⟨_, rfl⟩
            have hpi : (x : Int) * (y : Int) = (p : Int) := by rw [hp]; simp
            rw [← hp] at hm
            have HR : Hid (RTIn xs ys (os.set (k + j) (q + p)) k x (j + 1)) := Hin.out.step hlt hjt Hy.out Hq.out hp hm
            have Hown := Lib.hid hown
            have Hbel := Lib.hid hbel
            clear hp hown hbel
            have w1_ : IntKind.i64.wrap ((k : Int) + j) = (k : Int) + j := IntWalk.i64_in _ (by omega)
            have w2_ : IntKind.i64.wrap ((x : Int) * y) = (p : Int) := by rw [hpi]; exact IntWalk.i64_in _ (by omega)
            have w3_ : IntKind.i64.wrap ((q : Int) + p) = (q : Int) + p := IntWalk.i64_in _ (by omega)
            have w4_ : (0 : Int) ≤ (k : Int) + j := by omega
            have w5_ : ((k : Int) + j).toNat = k + j := by omega
            have w6_ : (k : Int) + j < (N : Int) := by omega
            clear hpi
            go_wp2_with fail
            go_still_tail 21, (by kernel_rfl)
            clear w1_ w2_ w3_ w4_ w5_ w6_
            change wpList _ _ _ _ _ wr.drew
            obtain ⟨wd, hwd⟩ : ∃ wd, wd = wr.drew := ⟨_, rfl⟩
            rw [← hwd]
            have hown : wd.ownsRow w.heap.size 3 1 (.slice (some ⟨w.heap.size, 0, none⟩) N N) N (nums .i64 os) := by rw [hwd]; exact Go.Proofs.YtofbngpckllkoacGreat.ownsRow_kept Hown.out (fun _ _ _ => rfl)
            have hbel : Below w.heap.size w wd := by rw [hwd]; exact Hbel.out.drew
            clear hwd hok hfr hck hdk Hown Hbel
            have hok := (hown.cellAt (k + j) (by have := Hol.out; omega)).trans (nums_at .i64 os (k + j) (by have := Hol.out; omega))
            rw [← Hq.out] at hok
            have hfr := hown.frozenAt (k + j)
            have est := hown.stored (k + j) (.int .i64 ((q : Int) + p))
            have hbel2 := hbel.grown est.2 hbel.size (by intro k hk; simp at hk; omega)
            have ed : (q : Int) + p = ((q + p : Nat) : Int) := by omega
            have est1 : (wd.setCell ⟨w.heap.size, k + j, none⟩ (.int .i64 ((q : Int) + p))).ownsRow w.heap.size 3 1 (.slice (some ⟨w.heap.size, 0, none⟩) N N) N (nums .i64 (os.set (k + j) (q + p))) := by
              have h := est.1
              rw [← nums_set, ← ed]; exact h
            have Est := Lib.hid est1
            have Hbel2 := Lib.hid hbel2
            clear est hbel2 est1 ed hown hbel
            go_wp2
            go_roundw
            case rel => exact ⟨j + 1, _, by omega, by go_num, Est.out, HR, Hbel2.out⟩
            case measure => simp [intOf]; omega
          · obtain rfl : j = ys.length := by omega
            have HR : Hid (RTOut xs ys os (k + 1)) := by
              have e := Hin.out
              rw [Hx.out] at e
              exact e.fin
            go_wp2
            go_roundw
            case rel => exact ⟨k + 1, _, by omega, by go_num, hown, HR, hbel⟩
            case measure => simp [intOf]; omega
      · obtain rfl : k = xs.length := by omega
        have HF : Hid (RTFin os N (81 * xs.length) (val 10 xs * val 10 ys) 0) := Hinv.out.fin HN.out
        go_wp2
        go_meet
        exact ⟨os, hown, HF, hbel⟩
  case rest =>
    clear hown1 hbel
    obtain ⟨os, hown, HF, hbel⟩ := hcut
    have HV := Lib.hid (prod_lt Hdx.out Hdy.out)
    obtain ⟨V, hVV⟩ : ∃ V, V = val 10 xs * val 10 ys := ⟨_, rfl⟩
    have HVV := Lib.hid hVV
    rw [← hVV] at HF HV
    clear hVV
    go_wp2_with fail
    go_loopw [8] (fun i wr => ∃ (k : Nat) (os : List Nat), k ≤ N ∧ (k < N ∨ N = 0) ∧ i = .int .i64 k ∧ wr.ownsRow w.heap.size 3 1 (.slice (some ⟨w.heap.size, 0, none⟩) N N) N (nums .i64 os) ∧ Hid (RTFin os N (81 * xs.length) V k) ∧ Below w.heap.size w wr) (fun i _ => N - (intOf i).toNat)
    case atStart => exact ⟨0, os, Nat.zero_le _, by omega, rfl, hown, HF, hbel⟩
    case round =>
      clear hown HF hbel
      obtain ⟨k, os, hk, hk2, rfl, hown, Hin, hbel⟩ := hrel
      by_cases hlt : k + 1 < N
      · have hol : os.length = N := Hin.out.1
        have hq9 := Hin.out.2.2.1
        have hr9 := Hin.out.2.2.2.1 (k + 1) (by omega)
        obtain ⟨q, hq⟩ : ∃ q, q = os.getD k 0 := ⟨_, rfl⟩
        obtain ⟨r, hr⟩ : ∃ r, r = os.getD (k + 1) 0 := ⟨_, rfl⟩
        have hok := (hown.cellAt k (by omega)).trans (nums_at .i64 os k (by omega))
        have hok1 := (hown.cellAt (k + 1) (by omega)).trans (nums_at .i64 os (k + 1) (by omega))
        rw [← hq] at hok hq9
        rw [← hr] at hok1 hr9
        have HR : Hid (RTFin ((os.set (k + 1) (r + q / 10)).set k (q % 10)) N (81 * xs.length) V (k + 1)) := Hin.out.step hlt hq hr
        have Hol := Lib.hid hol; clear hol
        have Hq := Lib.hid hq; clear hq
        have Hr := Lib.hid hr; clear hr
        have Hown := Lib.hid hown
        have Hbel := Lib.hid hbel
        have hfr := hown.frozenAt (k + 1)
        clear hown hbel
        have w1_ : IntKind.i64.wrap ((k : Int) + 1) = (k : Int) + 1 := IntWalk.i64_in _ (by omega)
        have w4_ : (0 : Int) ≤ (k : Int) + 1 := by omega
        have w5_ : ((k : Int) + 1).toNat = k + 1 := by omega
        have w6_ : (k : Int) + 1 < (N : Int) := by omega
        have w7_ : (k : Int) < (N : Int) := by omega
        have w8_ : (q : Int).tdiv 10 = ((q / 10 : Nat) : Int) := by rw [Int.tdiv_eq_ediv_of_nonneg (by omega)]; omega
        have w9_ : IntKind.i64.wrap ((q / 10 : Nat) : Int) = ((q / 10 : Nat) : Int) := IntWalk.i64_in _ (by omega)
        have w0_ : IntKind.i64.wrap ((r : Int) + ((q / 10 : Nat) : Int)) = ((r + q / 10 : Nat) : Int) := by rw [IntWalk.i64_in _ (by omega)]; omega
        go_wp2_with fail
        go_still_tail 15, (by kernel_rfl)
        clear w1_ w4_ w5_ w6_ w7_
        change wpList _ _ _ _ _ wr.drew
        obtain ⟨wd, hwd⟩ : ∃ wd, wd = wr.drew := ⟨_, rfl⟩
        rw [← hwd]
        have hown : wd.ownsRow w.heap.size 3 1 (.slice (some ⟨w.heap.size, 0, none⟩) N N) N (nums .i64 os) := by rw [hwd]; exact Go.Proofs.YtofbngpckllkoacGreat.ownsRow_kept Hown.out (fun _ _ _ => rfl)
        have hbel : Below w.heap.size w wd := by rw [hwd]; exact Hbel.out.drew
        clear hwd hok hok1 hfr Hown Hbel
        have hok := (hown.cellAt k (by omega)).trans (nums_at .i64 os k (by have := Hol.out; omega))
        have hok1 := (hown.cellAt (k + 1) (by omega)).trans (nums_at .i64 os (k + 1) (by have := Hol.out; omega))
        rw [← Hq.out] at hok
        rw [← Hr.out] at hok1
        have hfr := hown.frozenAt (k + 1)
        have hfr0 := hown.frozenAt k
        have e1 := hown.stored (k + 1) (.int .i64 ((r : Int) + (q : Int) / 10))
        have e2 := e1.1.stored k (.int .i64 ((q : Int) % 10))
        have hb2 := (hbel.grown e1.2 hbel.size (by intro k hk; simp at hk; omega)).grown e2.2 (by simpa using hbel.size) (by intro k hk; simp at hk; omega)
        have HO : Hid (((wd.setCell ⟨w.heap.size, k + 1, none⟩ (.int .i64 ((r : Int) + (q : Int) / 10))).setCell ⟨w.heap.size, k, none⟩ (.int .i64 ((q : Int) % 10))).ownsRow w.heap.size 3 1 (.slice (some ⟨w.heap.size, 0, none⟩) N N) N (nums .i64 ((os.set (k + 1) (r + q / 10)).set k (q % 10)))) := by
          show _
          have h := e2.1
          have ea : (r : Int) + (q : Int) / 10 = ((r + q / 10 : Nat) : Int) := by omega
          have eb : (q : Int) % 10 = ((q % 10 : Nat) : Int) := by omega
          rw [← nums_set, ← nums_set, ← ea, ← eb]
          exact h
        have HB2 := Lib.hid hb2
        clear e1 e2 hb2 hown hbel
        go_wp2
        go_roundw
        case rel => exact ⟨k + 1, _, by omega, by omega, by go_num, HO.out, HR, HB2.out⟩
        case measure => simp [intOf]; omega
      · have hd := Hin.out.done (by omega) hk2 (by rw [HN.out]; exact HV.out)
        have hv := Hin.out.2.2.2.2
        have hol := Hin.out.1
        have t1 : decide ((k : Int) + 1 < (N : Int)) = false := by rw [decide_eq_false_iff_not]; omega
        have HP : Hid (RTP w N V (.returned (.slice (some ⟨w.heap.size, 0, none⟩) N N)) wr) := ⟨_, os, rfl, ⟨by rw [hol]; exact hown, hd, hbel⟩, hol, hv⟩
        clear hown hbel hd hv hol Hin
        go_wp2
        go_ret
        obtain ⟨v, rs, e, p1, p2, p3⟩ := HP.out
        exact ⟨v, rs, e, p1, by rw [p2, HN.out], by rw [p3, HVV.out]⟩
end Go.Proofs.YtofbngpckllkoacGreat

namespace Go.Proofs.YtofbngpckllkoacGreat
open Go.RowKit

def RPost (w : World) (v : Int) (e : Ending) (w' : World) : Prop := e = .returned (.int .i64 v) ∧ Below w.heap.size w w'

theorem digits_ok (s : ByteArray) (w : World) (hl : s.size ≤ 1100000) (h : canonI (bl s) = true) :
    Calls Tryz.prog 60 #[.string s] w (DigOk w (isNeg (bl s)) (rdig (body (bl s)))) :=
  (digits_any s w hl).mono fun e w' k => by rw [DigPost, if_pos h] at k; exact k
theorem digits_bad (s : ByteArray) (w : World) (hl : s.size ≤ 1100000) (h : canonI (bl s) = false) :
    Calls Tryz.prog 60 #[.string s] w (DigBad w) :=
  (digits_any s w hl).mono fun e w' k => by rw [DigPost, if_neg (by rw [h]; simp)] at k; exact k

set_option maxHeartbeats 400000 in
set_option maxRecDepth 100000 in
theorem rcheck_any (s : ByteArray) (w : World) (hl : s.size ≤ 1100000) :
    Calls Tryz.prog 99 #[.string s] w (RPost w (intErr (bl s))) := by
  have HI : Hid (intErr (bl s) = if canonI (bl s) then (if 1000 < (body (bl s)).length then 14 else 0) else 12) := rfl
  have hbl : (body (bl s)).length ≤ 1100000 := by
    have e := bl_length s
    unfold body
    split
    · rw [List.length_tail]; omega
    · omega
  by_cases hc : canonI (bl s) = true
  · have C := digits_ok s w hl hc
    have HI2 : Hid (intErr (bl s) = if 1000 < (body (bl s)).length then 14 else 0) := by show _ = _; rw [HI.out, if_pos hc]
    have HL := Lib.hid (rdig_length (body (bl s)))
    have HC := Lib.hid C
    clear C HI hc
    obtain ⟨neg, hneg⟩ : ∃ n, isNeg (bl s) = n := ⟨_, rfl⟩
    obtain ⟨xs, hxs⟩ : ∃ n, rdig (body (bl s)) = n := ⟨_, rfl⟩
    obtain ⟨L, hL⟩ : ∃ n, (body (bl s)).length = n := ⟨_, rfl⟩
    rw [hneg, hxs] at HC
    rw [hxs, hL] at HL
    rw [hL] at HI2 hbl
    clear hneg hxs hL
    by_cases hb : 1000 < L
    · have hI : Hid (intErr (bl s) = 14) := by show _ = _; rw [HI2.out, if_pos hb]
      rw [hI.out]
      go_enter Tryz.func99, Tryz.ntmps99
      go_wp2_with fail
      refine HC.out.mono ?_
      rintro e w' ⟨v, rfl, hs, hbel⟩
      obtain ⟨ad, cap, rfl, _⟩ := hs
      rw [HL.out]
      go_wp2
      go_ret
      exact ⟨rfl, hbel⟩
    · have hI : Hid (intErr (bl s) = 0) := by show _ = _; rw [HI2.out, if_neg hb]
      rw [hI.out]
      go_enter Tryz.func99, Tryz.ntmps99
      go_wp2_with fail
      refine HC.out.mono ?_
      rintro e w' ⟨v, rfl, hs, hbel⟩
      obtain ⟨ad, cap, rfl, _⟩ := hs
      rw [HL.out]
      go_wp2
      go_ret
      exact ⟨rfl, hbel⟩
  · have C := digits_bad s w hl (by simpa using hc)
    have hI : Hid (intErr (bl s) = 12) := by show _ = _; rw [HI.out, if_neg hc]
    rw [hI.out]
    have HC := Lib.hid C
    clear C HI hc hbl
    go_enter Tryz.func99, Tryz.ntmps99
    go_wp2_with fail
    refine HC.out.mono ?_
    rintro e w' ⟨rfl, hbel⟩
    go_wp2
    go_ret
    exact ⟨rfl, hbel⟩

set_option maxHeartbeats 400000 in
set_option maxRecDepth 100000 in
theorem both_any (a b : ByteArray) (w : World) (ha : a.size ≤ 1100000) (hb : b.size ≤ 1100000) :
    Calls Tryz.prog 78 #[.string a, .string b] w (RPost w (if intErr (bl a) ≠ 0 then intErr (bl a) else intErr (bl b))) := by
  have HA := Lib.hid (fun W => rcheck_any a W ha)
  have HB := Lib.hid (fun W => rcheck_any b W hb)
  obtain ⟨x, hx⟩ : ∃ x, intErr (bl a) = x := ⟨_, rfl⟩
  obtain ⟨y, hy⟩ : ∃ y, intErr (bl b) = y := ⟨_, rfl⟩
  rw [hx] at HA ⊢
  rw [hy] at HB ⊢
  clear hx hy
  by_cases h : x = 0
  · rw [if_neg (by simpa using h)]
    have d1 : (x != 0) = false := by simpa using h
    go_enter Tryz.func78, Tryz.ntmps78
    go_wp2_with fail
    refine (HA.out _).mono ?_
    rintro e w1 ⟨rfl, hb1⟩
    go_wp2_with fail
    refine (HB.out _).mono ?_
    rintro e w2 ⟨rfl, hb2⟩
    go_wp2
    go_ret
    exact ⟨rfl, hb1.trans (hb2.mono hb1.size)⟩
  · rw [if_pos h]
    have d1 : (x != 0) = true := by simpa using h
    have d2 : (x == 0) = false := by simpa using h
    go_enter Tryz.func78, Tryz.ntmps78
    go_wp2_with fail
    refine (HA.out _).mono ?_
    rintro e w1 ⟨rfl, hb1⟩
    go_wp2_with fail
    refine (HA.out _).mono ?_
    rintro e w2 ⟨rfl, hb2⟩
    go_wp2
    go_ret
    exact ⟨rfl, hb1.trans (hb2.mono hb1.size)⟩
end Go.Proofs.YtofbngpckllkoacGreat

namespace Go.Proofs.YtofbngpckllkoacGreat
open Go.RowKit

theorem trim_le {zs : List Nat} {k : Nat} (h : Dig 10 zs) (hv : val 10 zs < ten k) : (trimL zs).length ≤ k :=
  (trimL_nrm h).length_le (by decide) k (by rw [trimL_val]; exact hv)

def RInv (N : Nat) (xs ys : List Nat) : Prop := Dig 10 xs ∧ Dig 10 ys ∧ val 10 xs < ten 1000 ∧ val 10 ys < ten 1000 ∧ Nat.gcd (val 10 xs) (val 10 ys) = N

set_option maxHeartbeats 2000000 in
set_option maxRecDepth 100000 in
theorem rgcd_ok (a b : ByteArray) (w : World) (ha : a.size ≤ 1100000) (hb : b.size ≤ 1100000) (h0 : intErr (bl a) = 0) (h : intErr (bl b) = 0) :
    Calls Tryz.prog 62 #[.string a, .string b] w (GcdOk w (Nat.gcd (dval (body (bl a))) (dval (body (bl b))))) := by
  have HBo := Lib.hid (fun W => both_any a b W ha hb)
  have HBe : Hid ((if intErr (bl a) ≠ 0 then intErr (bl a) else intErr (bl b)) = 0) := by show _ = _; rw [if_neg (by rw [h0]; simp), h]
  obtain ⟨ca, la⟩ := intErr_zero h0
  obtain ⟨cb, lb⟩ := intErr_zero h
  have HA := Lib.hid (fun W => digits_ok a W ha ca)
  have HB := Lib.hid (fun W => digits_ok b W hb cb)
  obtain ⟨N, hN⟩ : ∃ N, Nat.gcd (dval (body (bl a))) (dval (body (bl b))) = N := ⟨_, rfl⟩
  have hda : (body (bl a)).all isDig = true := by rw [canonI, canonD] at ca; simp only [Bool.and_eq_true] at ca; exact ca.1.2
  have hdb : (body (bl b)).all isDig = true := by rw [canonI, canonD] at cb; simp only [Bool.and_eq_true] at cb; exact cb.1.2
  have HI : Hid (RInv N (rdig (body (bl a))) (rdig (body (bl b)))) :=
    ⟨rdig_dig hda, rdig_dig hdb, by rw [rdig_val]; exact dval_body_lt h0, by rw [rdig_val]; exact dval_body_lt h, by rw [rdig_val, rdig_val]; exact hN⟩
  have hla := rdig_length (body (bl a))
  have hlb := rdig_length (body (bl b))
  have hNlt := gcd_lt (dval_body_lt h0) (dval_body_lt h)
  rw [hN] at hNlt ⊢
  have HNlt := Lib.hid hNlt
  obtain ⟨xs, hxs⟩ : ∃ xs, rdig (body (bl a)) = xs := ⟨_, rfl⟩
  obtain ⟨ys, hys⟩ : ∃ ys, rdig (body (bl b)) = ys := ⟨_, rfl⟩
  obtain ⟨na, hna⟩ : ∃ na, isNeg (bl a) = na := ⟨_, rfl⟩
  obtain ⟨nb, hnb⟩ : ∃ nb, isNeg (bl b) = nb := ⟨_, rfl⟩
  rw [hxs] at HI HA hla
  rw [hys] at HI HB hlb
  rw [hna] at HA
  rw [hnb] at HB
  have hlx : xs.length ≤ 1002 := by omega
  have hly : ys.length ≤ 1002 := by omega
  clear hxs hys hna hnb hN hNlt hda hdb hla hlb ca cb la lb h0 h ha hb
  go_enter Tryz.func62, Tryz.ntmps62
  go_wp2_with fail
  refine (HBo.out _).mono ?_
  rintro e w1 ⟨rfl, hb1⟩
  rw [HBe.out]
  go_wp2_with fail
  refine (HA.out _).mono ?_
  rintro e w2 ⟨vx, rfl, hsx, hb2⟩
  go_wp2_with fail
  refine (HB.out _).mono ?_
  rintro e w3 ⟨vy, rfl, hsy, hb3⟩
  have hsx3 := hsx.below hb3
  have hbel : Below w.heap.size w w3 := hb1.trans ((hb2.trans (hb3.mono hb2.size)).mono hb1.size)
  clear hsx hb1 hb2 hb3 HA HB HBo
  go_wp2_with fail
  go_loopg [7, 10] (val 10 ys) (fun k s7 s10 wr => ∃ (xs ys : List Nat), val 10 ys = k ∧ xs.length ≤ 1002 ∧ ys.length ≤ 1002 ∧
    Sl wr s7 1 xs.length (nums .i64 xs) ∧ Sl wr s10 1 ys.length (nums .i64 ys) ∧ Hid (RInv N xs ys) ∧ Below w.heap.size w wr)
  case atStart => exact ⟨xs, ys, rfl, hlx, hly, hsx3, hsy, HI, hbel⟩
  case round =>
    clear hsx3 hsy HI hbel hlx hly
    obtain ⟨xs, ys, hk, hlx, hly, hsx, hsy, HI, hbel⟩ := hrel
    have Hk := Lib.hid hk
    have HZ := Lib.hid (zero_any _ ys wr hsy HI.out.2.1 (by omega))
    clear hk
    by_cases hy : val 10 ys = 0
    · have hd : (val 10 ys == 0) = true := by simpa using hy
      rw [hd] at HZ
      have hv : Hid (val 10 xs = N) := by
        have e := HI.out.2.2.2.2
        rw [hy, Nat.gcd_zero_right] at e
        exact e
      have HT := Lib.hid (text_any _ xs wr hsx HI.out.1 (by omega))
      rw [hv.out] at HT
      clear hd hy
      go_wp2_with fail
      refine HZ.out.mono ?_
      rintro e w4 ⟨rfl, rfl⟩
      go_wp2_with fail
      refine HT.out.mono ?_
      rintro e w5 ⟨t, rfl, ht, hb5⟩
      have HF : Hid (bl t = istr false N ∧ Below w.heap.size w w5) := ⟨ht, hbel.trans (hb5.mono hbel.size)⟩
      clear ht hb5 hbel
      go_wp2
      go_ret2
      exact ⟨t, rfl, HF.out.1, HF.out.2⟩
    · have hd : (val 10 ys == 0) = false := by simpa using hy
      rw [hd] at HZ
      have HD := Lib.hid (rdivide_any _ _ xs ys wr hsx hsy HI.out.1 HI.out.2.1 (by omega) (by omega) (by omega))
      have htl := trim_le HI.out.2.1 HI.out.2.2.2.1
      have Hy := Lib.hid hy
      clear hd hy
      go_wp2_with fail
      refine HZ.out.mono ?_
      rintro e w4 ⟨rfl, rfl⟩
      go_wp2_with fail
      refine HD.out.mono ?_
      rintro e w5 ⟨vq, vr, qs, rs, rfl, sq, sr, dq, dr, lq, lr, eq, er, hb5⟩
      have hlr : rs.length ≤ 1002 := by omega
      have sy5 := hsy.below hb5
      have HI2 : Hid (RInv N ys rs) := by
        obtain ⟨g1, g2, g3, g4, g5⟩ := HI.out
        refine ⟨g2, dr, g4, ?_, ?_⟩
        · rw [er]; exact Nat.lt_trans (Nat.mod_lt _ (Nat.pos_of_ne_zero Hy.out)) g4
        · rw [er, ← g5, Nat.gcd_comm, ← Nat.gcd_rec, Nat.gcd_comm]
      have hlt : Hid (val 10 rs < val 10 ys) := by
        show _ < _
        rw [er]
        exact Nat.mod_lt _ (Nat.pos_of_ne_zero Hy.out)
      have hbel2 : Below w.heap.size w w5 := hbel.trans (hb5.mono hbel.size)
      clear eq er sq dq dr hb5 hbel hsx hsy htl
      go_wp2
      go_roundg (val 10 rs)
      case measure => rw [← Hk.out]; exact hlt.out
      case rel => exact ⟨ys, rs, rfl, hly, hlr, sy5, sr, HI2, hbel2⟩
end Go.Proofs.YtofbngpckllkoacGreat

namespace Go.Proofs.YtofbngpckllkoacGreat
open Go.RowKit

theorem wErr_cases (n : Nat) : (wErr n = 0 ∧ ∀ neg, wStr neg n = istr neg n) ∨ (wErr n = 14 ∧ ∀ neg, wStr neg n = []) := by
  by_cases h : 1000 < (dig10 n).length
  · right; simp [wErr, wStr, h]
  · left; simp [wErr, wStr, h]
theorem istr_length {neg : Bool} {n k : Nat} (h : n < 10 ^ k) : (istr neg n).length ≤ k + 2 := by
  by_cases h0 : n = 0
  · subst h0; simp [istr]
  · rw [istr_ne neg h0]
    have := dig10_le h
    cases neg <;> simp [asc] <;> omega
theorem pairErr_zero {a b : List UInt8} (h0 : intErr a = 0) (h : intErr b = 0) : (if intErr a ≠ 0 then intErr a else intErr b) = 0 := by
  rw [if_neg (fun h => h h0), h]
theorem pairErr_split {a b : List UInt8} (h : pairErr a b = 0) : intErr a = 0 ∧ intErr b = 0 := by
  by_cases h0 : intErr a = 0
  · exact ⟨h0, by rw [pairErr_b h0] at h; exact h⟩
  · rw [pairErr_a h0] at h; exact absurd h h0
theorem rdig_props {l : List UInt8} (h : intErr l = 0) : Dig 10 (rdig (body l)) ∧ (rdig (body l)).length ≤ 1000 ∧ val 10 (rdig (body l)) = dval (body l) ∧ canonI l = true := by
  obtain ⟨h1, h2⟩ := intErr_zero h
  have h3 := h1
  rw [canonI, canonD] at h3
  simp only [Bool.and_eq_true] at h3
  exact ⟨rdig_dig h3.1.2, by rw [rdig_length]; exact h2, rdig_val _, h1⟩

set_option maxHeartbeats 1000000 in
set_option maxRecDepth 100000 in
theorem rresult_any (neg : Bool) (a : Value) (xs : List Nat) (w : World) (ha : Sl w a 1 xs.length (nums .i64 xs)) (dx : Dig 10 xs) (lx : xs.length ≤ 1000000) :
    Calls Tryz.prog 79 #[a, .bool neg] w (IntPost w (sgnv neg (val 10 xs))) := by
  have HT := Lib.hid (text_sgn neg a xs w ha dx lx)
  have HL := Lib.hid (istr_length (neg := neg) (val_lt dx))
  have HE := wErr_sgnv neg (val 10 xs)
  have HS := wStr_sgnv neg (val 10 xs)
  obtain ⟨ad, ca, rfl, _⟩ := id ha
  clear ha dx
  unfold IntPost
  rw [← HE, ← HS]
  have HI := intErr_istr neg (val 10 xs)
  have HC := wErr_cases (val 10 xs)
  generalize wErr (val 10 xs) = er at HI HC ⊢
  have HW : ∃ l, l = wStr neg (val 10 xs) := ⟨_, rfl⟩
  obtain ⟨l, hl⟩ := HW
  rw [← hl]
  have hl2 : (er = 0 ∧ l = istr neg (val 10 xs)) ∨ (er = 14 ∧ l = []) := by
    rcases HC with ⟨h1, h2⟩ | ⟨h1, h2⟩
    · exact .inl ⟨h1, by rw [hl]; exact h2 neg⟩
    · exact .inr ⟨h1, by rw [hl]; exact h2 neg⟩
  clear HE HS HC hl
  generalize istr neg (val 10 xs) = s at HT HL HI hl2
  have HI := Lib.hid HI
  rcases hl2 with ⟨rfl, rfl⟩ | ⟨rfl, rfl⟩
  all_goals
    go_enter Tryz.func79, Tryz.ntmps79
    go_wp2_with fail
    refine HT.out.mono ?_
    rintro e w1 ⟨t, rfl, ht, hb1⟩
    have HC := rcheck_any t w1 (by rw [← bl_length, ht]; have := HL.out; omega)
    rw [ht, HI.out] at HC
    have HC := Lib.hid HC
    have Ht := Lib.hid ht
    clear ht
    go_wp2_with fail
    refine HC.out.mono ?_
    rintro e w2 ⟨rfl, hb2⟩
    have hbz := hb1.trans (hb2.mono hb1.size)
    clear hb1 hb2 HC
    go_wp2
    go_ret2
    first | exact ⟨t, rfl, Ht.out, hbz⟩ | exact ⟨_, rfl, rfl, hbz⟩

set_option maxHeartbeats 1000000 in
set_option maxRecDepth 100000 in
theorem radd_err (a b : ByteArray) (w : World) (ha : a.size ≤ 1100000) (hb : b.size ≤ 1100000) (h : pairErr (bl a) (bl b) ≠ 0) :
    Calls Tryz.prog 76 #[.string a, .string b] w (GcdErr w (pairErr (bl a) (bl b))) := by
  have HB := both_any a b w ha hb
  rw [show (if intErr (bl a) ≠ 0 then intErr (bl a) else intErr (bl b)) = pairErr (bl a) (bl b) from rfl] at HB
  generalize pairErr (bl a) (bl b) = er at HB h ⊢
  have HB := Lib.hid HB
  have h2 : (er != 0) = true := by rw [bne_iff_ne]; exact h
  clear h
  go_enter Tryz.func76, Tryz.ntmps76
  go_wp2_with fail
  refine HB.out.mono ?_
  rintro e w1 ⟨rfl, hb1⟩
  go_wp2
  go_ret2
  exact ⟨rfl, hb1⟩

set_option maxHeartbeats 1000000 in
set_option maxRecDepth 100000 in
theorem rmul_err (a b : ByteArray) (w : World) (ha : a.size ≤ 1100000) (hb : b.size ≤ 1100000) (h : pairErr (bl a) (bl b) ≠ 0) :
    Calls Tryz.prog 52 #[.string a, .string b] w (GcdErr w (pairErr (bl a) (bl b))) := by
  have HB := both_any a b w ha hb
  rw [show (if intErr (bl a) ≠ 0 then intErr (bl a) else intErr (bl b)) = pairErr (bl a) (bl b) from rfl] at HB
  generalize pairErr (bl a) (bl b) = er at HB h ⊢
  have HB := Lib.hid HB
  have h2 : (er != 0) = true := by rw [bne_iff_ne]; exact h
  clear h
  go_enter Tryz.func52, Tryz.ntmps52
  go_wp2_with fail
  refine HB.out.mono ?_
  rintro e w1 ⟨rfl, hb1⟩
  go_wp2
  go_ret2
  exact ⟨rfl, hb1⟩

set_option maxHeartbeats 1000000 in
set_option maxRecDepth 100000 in
theorem rdivmod_err (a b : ByteArray) (w : World) (ha : a.size ≤ 1100000) (hb : b.size ≤ 1100000) (h : pairErr (bl a) (bl b) ≠ 0) :
    Calls Tryz.prog 101 #[.string a, .string b] w (fun e w' => e = .returned (.tuple #[.string ⟨#[]⟩, .string ⟨#[]⟩, .int .i64 (pairErr (bl a) (bl b))]) ∧ Below w.heap.size w w') := by
  have HB := both_any a b w ha hb
  rw [show (if intErr (bl a) ≠ 0 then intErr (bl a) else intErr (bl b)) = pairErr (bl a) (bl b) from rfl] at HB
  generalize pairErr (bl a) (bl b) = er at HB h ⊢
  have HB := Lib.hid HB
  have h2 : (er != 0) = true := by rw [bne_iff_ne]; exact h
  clear h
  go_enter Tryz.func101, Tryz.ntmps101
  go_wp2_with fail
  refine HB.out.mono ?_
  rintro e w1 ⟨rfl, hb1⟩
  go_wp2
  go_ret3
  exact ⟨rfl, hb1⟩

set_option maxHeartbeats 2000000 in
set_option maxRecDepth 100000 in
theorem radd_same (a b : ByteArray) (w : World) (ha : a.size ≤ 1100000) (hb : b.size ≤ 1100000) (h0 : intErr (bl a) = 0) (h : intErr (bl b) = 0) (he : isNeg (bl a) = isNeg (bl b)) :
    Calls Tryz.prog 76 #[.string a, .string b] w (IntPost w (ival (bl a) + ival (bl b))) := by
  have HB := both_any a b w ha hb
  rw [pairErr_zero h0 h] at HB
  have HB := Lib.hid HB
  obtain ⟨dx, lx, vx, cx⟩ := rdig_props h0
  obtain ⟨dy, ly, vy, cy⟩ := rdig_props h
  have HDa := Lib.hid (fun W => digits_ok a W ha cx)
  have HDb := Lib.hid (fun W => digits_ok b W hb cy)
  unfold ival
  rw [← vx, ← vy]
  clear vx vy cx cy h0 h ha hb
  generalize isNeg (bl a) = na at *
  generalize isNeg (bl b) = nb at *
  generalize rdig (body (bl a)) = xs at *
  generalize rdig (body (bl b)) = ys at *
  have t1 : (na == nb) = true := by rw [beq_iff_eq]; exact he
  have He := Lib.hid he
  clear he
  go_enter Tryz.func76, Tryz.ntmps76
  go_wp2_with fail
  refine HB.out.mono ?_
  rintro e w1 ⟨rfl, hb1⟩
  go_wp2_with fail
  refine (HDa.out _).mono ?_
  rintro e w2 ⟨va, rfl, sa, hb2⟩
  go_wp2_with fail
  refine (HDb.out _).mono ?_
  rintro e w3 ⟨vb, rfl, sb, hb3⟩
  have sa3 := sa.below hb3
  have hbz := hb1.trans ((hb2.trans (hb3.mono hb2.size)).mono hb1.size)
  obtain ⟨aa, ca, rfl, _⟩ := id sa3
  obtain ⟨ab, cb, rfl, _⟩ := id sb
  clear sa hb1 hb2 hb3 HB HDa HDb
  have HP := Lib.hid (rplus_any _ _ xs ys w3 sa3 sb dx dy (by omega) (by omega))
  go_wp2_with fail
  refine HP.out.mono ?_
  rintro e w4 ⟨v, rs, rfl, ⟨own, dr, hb4⟩, hlen, hv⟩
  have HR := rresult_any na v rs w4 (Sl.of_owns own) dr (by omega)
  rw [hv, sgnv_add, show sgnv na (val 10 ys) = sgnv nb (val 10 ys) by rw [He.out]] at HR
  have HR := Lib.hid HR
  clear HP own dr hlen hv
  go_wp2_with fail
  refine HR.out.mono ?_
  rintro e w5 ⟨t, rfl, ht, hb5⟩
  have hbf := hbz.trans ((hb4.trans (hb5.mono hb4.size)).mono hbz.size)
  have Ht := Lib.hid ht
  clear ht
  go_wp2
  go_ret2
  exact ⟨t, rfl, Ht.out, hbf⟩

set_option maxHeartbeats 2000000 in
set_option maxRecDepth 100000 in
theorem radd_ge (a b : ByteArray) (w : World) (ha : a.size ≤ 1100000) (hb : b.size ≤ 1100000) (h0 : intErr (bl a) = 0) (h : intErr (bl b) = 0) (he : isNeg (bl a) ≠ isNeg (bl b)) (hle : dval (body (bl b)) ≤ dval (body (bl a))) :
    Calls Tryz.prog 76 #[.string a, .string b] w (IntPost w (ival (bl a) + ival (bl b))) := by
  have HB := both_any a b w ha hb
  rw [pairErr_zero h0 h] at HB
  have HB := Lib.hid HB
  obtain ⟨dx, lx, vx, cx⟩ := rdig_props h0
  obtain ⟨dy, ly, vy, cy⟩ := rdig_props h
  have HDa := Lib.hid (fun W => digits_ok a W ha cx)
  have HDb := Lib.hid (fun W => digits_ok b W hb cy)
  unfold ival
  rw [← vx, ← vy]
  rw [← vx, ← vy] at hle
  clear vx vy cx cy h0 h ha hb
  generalize isNeg (bl a) = na at *
  generalize isNeg (bl b) = nb at *
  generalize rdig (body (bl a)) = xs at *
  generalize rdig (body (bl b)) = ys at *
  have t1 : (na == nb) = false := by rw [beq_eq_false_iff_ne]; exact he
  have He := Lib.hid he
  have Hle := Lib.hid hle
  have hs : decide (0 ≤ sgn (val 10 xs) (val 10 ys)) = true := by
    unfold sgn; rw [decide_eq_true_eq]; split <;> (try split) <;> omega
  have Hs := Lib.hid hs
  clear he hle hs
  go_enter Tryz.func76, Tryz.ntmps76
  go_wp2_with fail
  refine HB.out.mono ?_
  rintro e w1 ⟨rfl, hb1⟩
  go_wp2_with fail
  refine (HDa.out _).mono ?_
  rintro e w2 ⟨va, rfl, sa, hb2⟩
  go_wp2_with fail
  refine (HDb.out _).mono ?_
  rintro e w3 ⟨vb, rfl, sb, hb3⟩
  have sa3 := sa.below hb3
  have hbz := hb1.trans ((hb2.trans (hb3.mono hb2.size)).mono hb1.size)
  obtain ⟨aa, ca, rfl, _⟩ := id sa3
  obtain ⟨ab, cb, rfl, _⟩ := id sb
  clear sa hb1 hb2 hb3 HB HDa HDb
  have HG := greater_any _ _ xs ys w3 sa3 sb dx dy (by omega) (by omega)
  have hs := Hs.out
  obtain ⟨g, hg⟩ : ∃ g, g = sgn (val 10 xs) (val 10 ys) := ⟨_, rfl⟩
  rw [← hg] at HG hs
  have HG := Lib.hid HG
  clear hg
  go_wp2_with fail
  refine HG.out.mono ?_
  rintro e w' ⟨rfl, rfl⟩
  have HP := Lib.hid (rminus_any _ _ xs ys w3 sa3 sb dx dy Hle.out (by omega) (by omega))
  go_wp2_with fail
  refine HP.out.mono ?_
  rintro e w4 ⟨v, rs, rfl, ⟨own, dr, hb4⟩, hlen, hv⟩
  have HR := rresult_any na v rs w4 (Sl.of_owns own) dr (by omega)
  rw [hv, sgnv_sub He.out Hle.out] at HR
  have HR := Lib.hid HR
  clear HP own dr hlen hv
  go_wp2_with fail
  refine HR.out.mono ?_
  rintro e w5 ⟨t, rfl, ht, hb5⟩
  have hbf := hbz.trans ((hb4.trans (hb5.mono hb4.size)).mono hbz.size)
  have Ht := Lib.hid ht
  clear ht
  go_wp2
  go_ret2
  exact ⟨t, rfl, Ht.out, hbf⟩

set_option maxHeartbeats 2000000 in
set_option maxRecDepth 100000 in
theorem radd_lt (a b : ByteArray) (w : World) (ha : a.size ≤ 1100000) (hb : b.size ≤ 1100000) (h0 : intErr (bl a) = 0) (h : intErr (bl b) = 0) (he : isNeg (bl a) ≠ isNeg (bl b)) (hle : dval (body (bl a)) < dval (body (bl b))) :
    Calls Tryz.prog 76 #[.string a, .string b] w (IntPost w (ival (bl a) + ival (bl b))) := by
  have HB := both_any a b w ha hb
  rw [pairErr_zero h0 h] at HB
  have HB := Lib.hid HB
  obtain ⟨dx, lx, vx, cx⟩ := rdig_props h0
  obtain ⟨dy, ly, vy, cy⟩ := rdig_props h
  have HDa := Lib.hid (fun W => digits_ok a W ha cx)
  have HDb := Lib.hid (fun W => digits_ok b W hb cy)
  unfold ival
  rw [← vx, ← vy]
  rw [← vx, ← vy] at hle
  clear vx vy cx cy h0 h ha hb
  generalize isNeg (bl a) = na at *
  generalize isNeg (bl b) = nb at *
  generalize rdig (body (bl a)) = xs at *
  generalize rdig (body (bl b)) = ys at *
  have t1 : (na == nb) = false := by rw [beq_eq_false_iff_ne]; exact he
  have He := Lib.hid he
  have Hle := Lib.hid hle
  have hs : decide (0 ≤ sgn (val 10 xs) (val 10 ys)) = false := by
    unfold sgn; rw [decide_eq_false_iff_not]; split <;> (try split) <;> omega
  have Hs := Lib.hid hs
  clear he hle hs
  go_enter Tryz.func76, Tryz.ntmps76
  go_wp2_with fail
  refine HB.out.mono ?_
  rintro e w1 ⟨rfl, hb1⟩
  go_wp2_with fail
  refine (HDa.out _).mono ?_
  rintro e w2 ⟨va, rfl, sa, hb2⟩
  go_wp2_with fail
  refine (HDb.out _).mono ?_
  rintro e w3 ⟨vb, rfl, sb, hb3⟩
  have sa3 := sa.below hb3
  have hbz := hb1.trans ((hb2.trans (hb3.mono hb2.size)).mono hb1.size)
  obtain ⟨aa, ca, rfl, _⟩ := id sa3
  obtain ⟨ab, cb, rfl, _⟩ := id sb
  clear sa hb1 hb2 hb3 HB HDa HDb
  have HG := greater_any _ _ xs ys w3 sa3 sb dx dy (by omega) (by omega)
  have hs := Hs.out
  obtain ⟨g, hg⟩ : ∃ g, g = sgn (val 10 xs) (val 10 ys) := ⟨_, rfl⟩
  rw [← hg] at HG hs
  have HG := Lib.hid HG
  clear hg
  go_wp2_with fail
  refine HG.out.mono ?_
  rintro e w' ⟨rfl, rfl⟩
  have HP := Lib.hid (rminus_any _ _ ys xs w3 sb sa3 dy dx (Nat.le_of_lt Hle.out) (by omega) (by omega))
  go_wp2_with fail
  refine HP.out.mono ?_
  rintro e w4 ⟨v, rs, rfl, ⟨own, dr, hb4⟩, hlen, hv⟩
  have HR := rresult_any nb v rs w4 (Sl.of_owns own) dr (by omega)
  rw [hv, sgnv_sub (fun e => He.out e.symm) (Nat.le_of_lt Hle.out), Int.add_comm] at HR
  have HR := Lib.hid HR
  clear HP own dr hlen hv
  go_wp2_with fail
  refine HR.out.mono ?_
  rintro e w5 ⟨t, rfl, ht, hb5⟩
  have hbf := hbz.trans ((hb4.trans (hb5.mono hb4.size)).mono hbz.size)
  have Ht := Lib.hid ht
  clear ht
  go_wp2
  go_ret2
  exact ⟨t, rfl, Ht.out, hbf⟩

set_option maxHeartbeats 2000000 in
set_option maxRecDepth 100000 in
theorem rmul_ok (a b : ByteArray) (w : World) (ha : a.size ≤ 1100000) (hb : b.size ≤ 1100000) (h0 : intErr (bl a) = 0) (h : intErr (bl b) = 0) :
    Calls Tryz.prog 52 #[.string a, .string b] w (IntPost w (ival (bl a) * ival (bl b))) := by
  have HB := both_any a b w ha hb
  rw [pairErr_zero h0 h] at HB
  have HB := Lib.hid HB
  obtain ⟨dx, lx, vx, cx⟩ := rdig_props h0
  obtain ⟨dy, ly, vy, cy⟩ := rdig_props h
  have HDa := Lib.hid (fun W => digits_ok a W ha cx)
  have HDb := Lib.hid (fun W => digits_ok b W hb cy)
  unfold ival
  rw [← vx, ← vy]
  clear vx vy cx cy h0 h ha hb
  generalize isNeg (bl a) = na at *
  generalize isNeg (bl b) = nb at *
  generalize rdig (body (bl a)) = xs at *
  generalize rdig (body (bl b)) = ys at *
  go_enter Tryz.func52, Tryz.ntmps52
  go_wp2_with fail
  refine HB.out.mono ?_
  rintro e w1 ⟨rfl, hb1⟩
  go_wp2_with fail
  refine (HDa.out _).mono ?_
  rintro e w2 ⟨va, rfl, sa, hb2⟩
  go_wp2_with fail
  refine (HDb.out _).mono ?_
  rintro e w3 ⟨vb, rfl, sb, hb3⟩
  have sa3 := sa.below hb3
  have hbz := hb1.trans ((hb2.trans (hb3.mono hb2.size)).mono hb1.size)
  obtain ⟨aa, ca, rfl, _⟩ := id sa3
  obtain ⟨ab, cb, rfl, _⟩ := id sb
  clear sa hb1 hb2 hb3 HB HDa HDb
  have HP := Lib.hid (rtimes_any _ _ xs ys w3 sa3 sb dx dy (by omega) (by omega))
  go_wp2_with fail
  refine HP.out.mono ?_
  rintro e w4 ⟨v, rs, rfl, ⟨own, dr, hb4⟩, hlen, hv⟩
  have HR := rresult_any (!(na == nb)) v rs w4 (Sl.of_owns own) dr (by omega)
  rw [hv, sgnv_mul] at HR
  have HR := Lib.hid HR
  clear HP own dr hlen hv
  go_wp2_with fail
  refine HR.out.mono ?_
  rintro e w5 ⟨t, rfl, ht, hb5⟩
  have hbf := hbz.trans ((hb4.trans (hb5.mono hb4.size)).mono hbz.size)
  have Ht := Lib.hid ht
  clear ht
  go_wp2
  go_ret2
  exact ⟨t, rfl, Ht.out, hbf⟩

theorem radd_any (a b : ByteArray) (w : World) (ha : a.size ≤ 1100000) (hb : b.size ≤ 1100000) :
    Calls Tryz.prog 76 #[.string a, .string b] w (OpPost w (bl a) (bl b) (ival (bl a) + ival (bl b))) := by
  by_cases hp : pairErr (bl a) (bl b) = 0
  · obtain ⟨h0, h⟩ := pairErr_split hp
    by_cases he : isNeg (bl a) = isNeg (bl b)
    · exact (radd_same a b w ha hb h0 h he).mono fun e w' k => opPost_ok h0 h k
    · by_cases hle : dval (body (bl b)) ≤ dval (body (bl a))
      · exact (radd_ge a b w ha hb h0 h he hle).mono fun e w' k => opPost_ok h0 h k
      · exact (radd_lt a b w ha hb h0 h he (by omega)).mono fun e w' k => opPost_ok h0 h k
  · exact (radd_err a b w ha hb hp).mono fun e w' k => by rw [OpPost, if_neg hp]; exact k
theorem rmul_any (a b : ByteArray) (w : World) (ha : a.size ≤ 1100000) (hb : b.size ≤ 1100000) :
    Calls Tryz.prog 52 #[.string a, .string b] w (OpPost w (bl a) (bl b) (ival (bl a) * ival (bl b))) := by
  by_cases hp : pairErr (bl a) (bl b) = 0
  · obtain ⟨h0, h⟩ := pairErr_split hp
    exact (rmul_ok a b w ha hb h0 h).mono fun e w' k => opPost_ok h0 h k
  · exact (rmul_err a b w ha hb hp).mono fun e w' k => by rw [OpPost, if_neg hp]; exact k

set_option maxHeartbeats 1000000 in
set_option maxRecDepth 100000 in
theorem rnegi_ok (a : ByteArray) (w : World) (ha : a.size ≤ 1100000) (h0 : intErr (bl a) = 0) :
    Calls Tryz.prog 100 #[.string a] w (TextPost w (istr (!isNeg (bl a)) (dval (body (bl a))))) := by
  obtain ⟨dx, lx, vx, cx⟩ := rdig_props h0
  have HDa := Lib.hid (digits_ok a w ha cx)
  rw [← vx]
  clear vx cx h0 ha
  generalize isNeg (bl a) = na at *
  generalize rdig (body (bl a)) = xs at *
  go_enter Tryz.func100, Tryz.ntmps100
  go_wp2_with fail
  refine HDa.out.mono ?_
  rintro e w2 ⟨va, rfl, sa, hb2⟩
  have HT := Lib.hid (text_sgn (!na) va xs w2 sa dx (by omega))
  obtain ⟨aa, ca, rfl, _⟩ := id sa
  clear sa dx HDa
  go_wp2_with fail
  refine HT.out.mono ?_
  rintro e w3 ⟨t, rfl, ht, hb3⟩
  have hbz := hb2.trans (hb3.mono hb2.size)
  have Ht := Lib.hid ht
  clear ht
  go_wp2
  go_ret
  exact ⟨t, rfl, Ht.out, hbz⟩

set_option maxHeartbeats 2000000 in
set_option maxRecDepth 100000 in
theorem rdivmod_ok (a b : ByteArray) (w : World) (ha : a.size ≤ 1100000) (hb : b.size ≤ 1100000) (h0 : intErr (bl a) = 0) (h : intErr (bl b) = 0) (hy0 : dval (body (bl b)) ≠ 0) (hd : dval (body (bl b)) ∣ dval (body (bl a))) :
    Calls Tryz.prog 101 #[.string a, .string b] w (DivOk w (sgnv (!(isNeg (bl a) == isNeg (bl b))) (dval (body (bl a)) / dval (body (bl b))))) := by
  have HB := both_any a b w ha hb
  rw [pairErr_zero h0 h] at HB
  have HB := Lib.hid HB
  obtain ⟨dx, lx, vx, cx⟩ := rdig_props h0
  obtain ⟨dy, ly, vy, cy⟩ := rdig_props h
  have HDa := Lib.hid (fun W => digits_ok a W ha cx)
  have HDb := Lib.hid (fun W => digits_ok b W hb cy)
  rw [← vx] at hd
  rw [← vy] at hd hy0
  rw [← vx, ← vy]
  have Hlt : Hid (val 10 (rdig (body (bl a))) < ten 1000) := by show _ < _; rw [vx]; exact dval_body_lt h0
  clear vx vy cx cy h0 h ha hb
  generalize isNeg (bl a) = na at *
  generalize isNeg (bl b) = nb at *
  generalize rdig (body (bl a)) = xs at *
  generalize rdig (body (bl b)) = ys at *
  have Hd := Lib.hid hd
  have Hy0 := Lib.hid hy0
  clear hd hy0
  go_enter Tryz.func101, Tryz.ntmps101
  go_wp2_with fail
  refine HB.out.mono ?_
  rintro e w1 ⟨rfl, hb1⟩
  go_wp2_with fail
  refine (HDa.out _).mono ?_
  rintro e w2 ⟨va, rfl, sa, hb2⟩
  go_wp2_with fail
  refine (HDb.out _).mono ?_
  rintro e w3 ⟨vb, rfl, sb, hb3⟩
  have sa3 := sa.below hb3
  have hbz := hb1.trans ((hb2.trans (hb3.mono hb2.size)).mono hb1.size)
  obtain ⟨aa, ca, rfl, _⟩ := id sa3
  obtain ⟨ab, cb, rfl, _⟩ := id sb
  clear sa hb1 hb2 hb3 HB HDa HDb
  have HZ := zero_any _ ys w3 sb dy (by omega)
  rw [show (val 10 ys == 0) = false by rw [beq_eq_false_iff_ne]; exact Hy0.out] at HZ
  have HZ := Lib.hid HZ
  have HQ := Lib.hid (rdivide_any _ _ xs ys w3 sa3 sb dx dy (Nat.pos_of_ne_zero Hy0.out) (by omega) (by omega))
  go_wp2_with fail
  refine HZ.out.mono ?_
  rintro e w' ⟨rfl, rfl⟩
  go_wp2_with fail
  refine HQ.out.mono ?_
  rintro e w4 ⟨vq, vr, qs, rs, rfl, sq, sr, dq, dr, lq, lr, eq, er, hb4⟩
  obtain ⟨aq, cq, rfl, _⟩ := id sq
  obtain ⟨ar, cr, rfl, _⟩ := id sr
  have hr0 : val 10 rs = 0 := by rw [er]; exact Nat.mod_eq_zero_of_dvd Hd.out
  have hlr : rs.length ≤ 1001 := by have := (trimL_prefix ys).2; omega
  have HZr := zero_any _ rs w4 sr dr (by omega)
  rw [show (val 10 rs == 0) = true by rw [hr0]; rfl] at HZr
  have HZr := Lib.hid HZr
  have HTq := Lib.hid (fun neg => text_sgn neg _ qs w4 sq dq (by omega))
  have HTr := Lib.hid (fun W (hW : Below w4.heap.size w4 W) => text_sgn false _ rs W (sr.below hW) dr (by omega))
  rw [hr0] at HTr
  rw [eq] at HTq
  have Hql : Hid (val 10 xs / val 10 ys < ten 1000) := Nat.lt_of_le_of_lt (Nat.div_le_self _ _) Hlt.out
  have hbz4 := hbz.trans (hb4.mono hbz.size)
  clear sq sr dq dr lq lr eq er hr0 hlr HZ HQ sa3 sb hbz hb4
  cases na
  case false =>
    go_wp2_with fail
    refine (HTq.out nb).mono ?_
    rintro e w5 ⟨t, rfl, ht, hb5⟩
    have HT2 := Lib.hid (HTr.out w5 hb5)
    have Ht : Hid (bl t = zStr (sgnv nb (val 10 xs / val 10 ys))) := by show _ = _; rw [ht, ← wStr_sgnv]; exact (wErr_zero Hql.out _).2.symm
    have hbz5 := hbz4.trans (hb5.mono hbz4.size)
    clear ht HTq HTr hbz4 hb5
    go_wp2_with fail
    refine HT2.out.mono ?_
    rintro e w6 ⟨u, rfl, hu, hb6⟩
    have Hu := Lib.hid hu
    have hbz6 := hbz5.trans (hb6.mono hbz5.size)
    clear hu hbz5 hb6
    go_wp2
    go_ret3
    exact ⟨t, u, rfl, by rw [Ht.out]; simp, Hu.out, hbz6⟩
  case true =>
    go_wp2_with (go_at_call 84; refine HZr.out.mono ?_; rintro e w' ⟨rfl, rfl⟩)
    refine (HTq.out (!nb)).mono ?_
    rintro e w5 ⟨t, rfl, ht, hb5⟩
    have HT2 := Lib.hid (HTr.out w5 hb5)
    have Ht : Hid (bl t = zStr (sgnv (!nb) (val 10 xs / val 10 ys))) := by show _ = _; rw [ht, ← wStr_sgnv]; exact (wErr_zero Hql.out _).2.symm
    have hbz5 := hbz4.trans (hb5.mono hbz4.size)
    clear ht HTq HTr hbz4 hb5
    go_wp2_with fail
    refine HT2.out.mono ?_
    rintro e w6 ⟨u, rfl, hu, hb6⟩
    have Hu := Lib.hid hu
    have hbz6 := hbz5.trans (hb6.mono hbz5.size)
    clear hu hbz5 hb6
    go_wp2
    go_ret3
    exact ⟨t, u, rfl, by rw [Ht.out]; simp, Hu.out, hbz6⟩
end Go.Proofs.YtofbngpckllkoacGreat
