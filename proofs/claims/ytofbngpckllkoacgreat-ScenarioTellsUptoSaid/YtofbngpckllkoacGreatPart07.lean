/-
  A region that draws its order, by an invariant: each operation once, whatever stands before it. integer.plus: the sum of two magnitudes.  Printed by tools/genplus.py. integer.sum.  Printed by tools/gensum.py.
-/
import Derived.Test.YtofbngpckllkoacGreatPart06
import Derived.StillTail
import Derived.RegionTactic
import Derived.Test.YtofbngpckllkoacGreatPart02
namespace Go.Proofs.YtofbngpckllkoacGreat
open Go.RowKit

def upd (L : Nat → Bool) (i : Nat) : Nat → Bool := fun j => if j = i then true else L j
/-- How many are not listed. -/
def cnt : List Bool → Nat
  | [] => 0
  | b :: l => (if b then 0 else 1) + cnt l
theorem cnt_set : ∀ {l : List Bool} {i : Nat}, l[i]? = some false → cnt (l.set i true) + 1 = cnt l
  | [], i, h => by simp at h
  | b :: l, 0, h => by
    simp at h; subst h
    simp [cnt]; omega
  | b :: l, i + 1, h => by
    have := cnt_set (l := l) (i := i) (by simpa using h)
    simp only [List.set_cons_succ, cnt]
    omega
theorem cnt_zero : ∀ {l : List Bool}, cnt l = 0 → ∀ j, j < l.length → l[j]? = some true
  | [], _, j, hj => by simp at hj
  | b :: l, h, j, hj => by
    simp only [cnt] at h
    cases b with
    | false => simp at h
    | true =>
      cases j with
      | zero => rfl
      | succ j => simpa using cnt_zero (l := l) (by simpa using h) j (by simpa using hj)
theorem cnt_replicate : ∀ n, cnt (List.replicate n false) = n
  | 0 => rfl
  | n + 1 => by rw [List.replicate_succ, cnt, cnt_replicate n]; simp; omega

section
variable {P : Program} {ops : Array Oper} {md : Region.Mode}
/-- Each operation waits for earlier ones only. -/
def fwdB (md : Region.Mode) (ops : Array Oper) : Bool :=
  (List.range ops.size).all fun j => match ops[j]? with | some o => o.after.all fun e => !Region.binds md e || decide (e.on < j) | none => true
theorem fwd_spec (h : fwdB md ops = true) {j : Nat} {o : Oper} (ho : ops[j]? = some o) : ∀ e ∈ o.after, Region.binds md e = true → e.on < j := by
  intro e he hb
  have hj : j < ops.size := (Array.getElem?_eq_some_iff.1 ho).1
  have h1 := List.all_eq_true.1 h j (List.mem_range.2 hj)
  simp only [ho] at h1
  have h2 := Array.all_eq_true'.1 h1 e he
  simp only [hb, Bool.not_true, Bool.false_or, decide_eq_true_eq] at h2
  exact h2
theorem getD_both' {listed : Array Bool} {j : Nat} (hj : j < listed.size) : listed.getD j true = listed.getD j false := by
  simp [hj]
theorem ready_all (hf : fwdB md ops = true) {listed : Array Bool} (hs : listed.size = ops.size) (hr : Region.ready md ops listed = []) : ∀ j, j < ops.size → listed.getD j false = true := by
  intro j
  induction j using Nat.strongRecOn with
  | _ j ih =>
    intro hj
    cases h : listed.getD j false with
    | true => rfl
    | false =>
      exfalso
      obtain ⟨o, ho⟩ : ∃ o, ops[j]? = some o := ⟨_, Array.getElem?_eq_getElem hj⟩
      have : j ∈ Region.ready md ops listed := mem_ready.2 ⟨by rw [getD_both' (by omega)]; exact h, o, ho, fun e he hb => ih e.on (fwd_spec hf ho e he hb) (by have := fwd_spec hf ho e he hb; omega)⟩
      rw [hr] at this
      cases this
theorem upd_listed {listed : Array Bool} {i : Nat} (hi : i < listed.size) : (fun j => (listed.setIfInBounds i true).getD j false) = upd (fun j => listed.getD j false) i := by
  funext j
  unfold upd
  by_cases h : j = i
  · subst h
    rw [if_pos rfl]
    simp [hi]
  · rw [if_neg h, getD_set_ne false (fun e => h e.symm)]
theorem wpAny_inv {Q : Exit → Act → World → Prop} {Inv : (Nat → Bool) → Act → World → Prop} (hf : fwdB md ops = true)
    (hst : ∀ L a w, Inv L a w → ∀ i o, ops[i]? = some o → L i = false → (∀ e ∈ o.after, Region.binds md e = true → L e.on = true) → wpOp P ops Q i (Inv (upd L i)) a w)
    (hend : ∀ L a w, Inv L a w → (∀ j, j < ops.size → L j = true) → Q .normal a w) :
    ∀ (f : Nat) (listed : Array Bool) (a : Act) (w : World), listed.size = ops.size → cnt listed.toList ≤ f → Inv (fun j => listed.getD j false) a w → wpAny P md ops Q f listed a w
  | 0, listed, a, w, hs, hc, h => by
    have hall : ∀ j, j < ops.size → listed.getD j false = true := fun j hj => by
      have := cnt_zero (Nat.le_zero.1 hc) j (by simpa [hs] using hj)
      have hj' : j < listed.size := by omega
      simp [hj'] at this ⊢
      exact this
    refine ⟨?_, hend _ _ _ h hall⟩
    rw [List.eq_nil_iff_forall_not_mem]
    intro i hi
    obtain ⟨h1, o, ho, _⟩ := mem_ready.1 hi
    have hj : i < ops.size := (Array.getElem?_eq_some_iff.1 ho).1
    rw [getD_both' (by omega), hall i hj] at h1
    cases h1
  | f + 1, listed, a, w, hs, hc, h => by
    refine ⟨fun hr => hend _ _ _ h (ready_all hf hs hr), fun i hi => ?_⟩
    obtain ⟨h1, o, ho, h2⟩ := mem_ready.1 hi
    have hj : i < listed.size := by have := (Array.getElem?_eq_some_iff.1 ho).1; omega
    have h3 : listed.getD i false = false := by rw [← getD_both' hj]; exact h1
    have h4 : listed.toList[i]? = some false := by simp [hj] at h3 ⊢; exact h3
    refine wpOp_mono (fun a' w' h5 => ?_) (hst _ a w h i o ho h3 h2)
    refine wpAny_inv hf hst hend f (listed.setIfInBounds i true) a' w' (by simpa using hs) ?_ ?_
    · have := cnt_set h4
      rw [Array.toList_setIfInBounds]
      omega
    · rw [upd_listed hj]; exact h5
/-- An operation that the i-th waits for is listed. -/
def predB (md : Region.Mode) (ops : Array Oper) (i j : Nat) : Bool :=
  match ops[i]? with | some o => o.after.any fun e => Region.binds md e && e.on == j | none => false
theorem pred_spec {i j : Nat} {o : Oper} {L : Nat → Bool} (ho : ops[i]? = some o) (hp : ∀ e ∈ o.after, Region.binds md e = true → L e.on = true) (h : predB md ops i j = true) : L j = true := by
  unfold predB at h
  simp only [ho] at h
  obtain ⟨e, he, h1⟩ := Array.any_eq_true'.1 h
  simp only [Bool.and_eq_true, beq_iff_eq] at h1
  rw [← h1.2]
  exact hp e he h1.1
theorem wp_region_inv {id : Nat} {Q : Exit → Act → World → Prop} {a : Act} {w : World} (Inv : (Nat → Bool) → Act → World → Prop) (hm : P.follows .mixedOrders = true) (hf : fwdB .any ops = true)
    (h0 : Inv (fun _ => false) a w.drew)
    (hst : ∀ L a w, Inv L a w → ∀ i o, ops[i]? = some o → L i = false → (∀ e ∈ o.after, Region.binds .any e = true → L e.on = true) → wpOp P ops Q i (Inv (upd L i)) a w)
    (hend : ∀ L a w, Inv L a w → (∀ j, j < ops.size → L j = true) → Q .normal a w) : (Code.region id ops true).wp P Q a w := by
  refine wp_region_any hm (wpAny_inv hf hst hend ops.size _ _ _ (by simp) ?_ ?_)
  · simp [cnt_replicate]
  · have e : (fun j => (Array.replicate ops.size false).getD j false) = fun _ => false := by
      funext j
      by_cases hj : j < ops.size <;> simp [hj]
    rw [e]; exact h0
end
end Go.Proofs.YtofbngpckllkoacGreat

namespace Go.Proofs.YtofbngpckllkoacGreat
open Go.RowKit

theorem plus_step (A Bv O P x y c d r : Nat) (h : O + c * P = A + Bv) (hd : d + r * 1000000000 = x + y + c) : (O + P * d) + r * (P * 1000000000) = (A + P * x) + (Bv + P * y) := by
  have e1 : P * (d + r * 1000000000) = P * (x + y + c) := by rw [hd]
  rw [Nat.mul_add, Nat.mul_add, Nat.mul_add] at e1
  have e2 : P * (r * 1000000000) = r * (P * 1000000000) := by rw [← Nat.mul_assoc, ← Nat.mul_assoc, Nat.mul_comm P r]
  rw [e2] at e1
  rw [Nat.mul_comm c P] at h
  omega

def PlusInv (xs ys o : List Nat) (k c : Nat) : Prop :=
  o.length = k ∧ Dig 1000000000 o ∧ val 1000000000 o + c * 1000000000 ^ k = val 1000000000 (xs.take k) + val 1000000000 (ys.take k)

theorem PlusInv.start (xs ys : List Nat) : PlusInv xs ys [] 0 0 := ⟨rfl, Dig.nil _, by simp [val]⟩

theorem PlusInv.step {xs ys o : List Nat} {k c d r : Nat} (h : PlusInv xs ys o k c) (hd : d < 1000000000) (e : d + r * 1000000000 = xs.getD k 0 + ys.getD k 0 + c) : PlusInv xs ys (o ++ [d]) (k + 1) r := by
  obtain ⟨h1, h2, h3⟩ := h
  refine ⟨by simp [h1], h2.snoc hd, ?_⟩
  rw [val_take_succ, val_take_succ, val_snoc, h1, Nat.pow_succ]
  exact plus_step _ _ _ _ _ _ _ _ _ h3 e

theorem PlusInv.fin {xs ys o : List Nat} {c : Nat} (h : PlusInv xs ys o xs.length c) (hl : ys.length ≤ xs.length) : val 1000000000 (o ++ [c]) = val 1000000000 xs + val 1000000000 ys := by
  obtain ⟨h1, h2, h3⟩ := h
  rw [List.take_of_length_le (Nat.le_refl _), List.take_of_length_le hl] at h3
  rw [val_snoc, h1, Nat.mul_comm]
  exact h3

set_option maxHeartbeats 1000000 in
set_option maxRecDepth 100000 in
theorem plus_ge (a b : Value) (xs ys : List Nat) (w : World) (ha : Sl w a 1 xs.length (nums .u32 xs)) (hb : Sl w b 1 ys.length (nums .u32 ys))
    (dx : Dig 1000000000 xs) (dy : Dig 1000000000 ys) (lx : xs.length ≤ 100000) (_ly : ys.length ≤ 100000) (hlen : ys.length ≤ xs.length) :
    Calls Tryz.prog 93 #[a, b] w fun e w' => ∃ v rs, e = .returned v ∧ OwnMag w w' v rs ∧ val 1000000000 rs = val 1000000000 xs + val 1000000000 ys := by
  obtain ⟨ad, ca, rfl, h1, h3⟩ := ha.nums
  obtain ⟨bd, cb, rfl, h1', h3'⟩ := hb.nums
  obtain ⟨i0, hi, hz0, hz1, hz2⟩ := info_parts Tryz.info_u32
  clear ha hb
  obtain ⟨N, hN⟩ : ∃ N, N = xs.length + 1 := ⟨_, rfl⟩
  have HN := Lib.hid hN
  have hNl : N ≤ 100001 := by omega
  have hN1 : xs.length + 1 ≤ N := by omega
  have hN2 : N ≤ xs.length + 1 := by omega
  clear hN
  go_enter Tryz.func93, Tryz.ntmps93
  go_wp2_with (at_make; refine wpList_make_own _ rfl _ _ 119 rfl w.heap.size 144 i0 (.int .u32 0) 1 Tryz.ul_u32s hi hz0 hz1 _ _ _ N rfl rfl ?b0 ?b1 ?b2 ?b3 ?_)
  case b0 => rw [HN.out]; simp
  case b1 => rw [hz2]; omega
  case b2 => unfold maxLen; omega
  case b3 => exact Nat.le_refl _
  intro w1 hown hgrow
  have hbel : Below w.heap.size w w1 := (Below.refl _ _).grown hgrow (Nat.le_refl _) (by simp)
  clear hgrow
  go_wp2
  go_loopw [5, 6, 23] (fun o c i wr => ∃ (k b1 : Nat) (os : List Nat), k ≤ xs.length ∧ b1 ≤ 1 ∧ i = .int .i64 k ∧ c = .int .u32 b1 ∧ o = .slice (some ⟨w.heap.size, 0, none⟩) k N ∧
      wr.ownsRow w.heap.size 144 1 (.slice (some ⟨w.heap.size, 0, none⟩) k N) k (nums .u32 os) ∧ Hid (PlusInv xs ys os k b1) ∧ Below w.heap.size w wr)
    (fun _ _ i _ => xs.length - (intOf i).toNat)
  case atStart => exact ⟨0, 0, [], Nat.zero_le _, by omega, rfl, rfl, rfl, hown, PlusInv.start _ _, hbel⟩
  case round =>
    clear hown hbel
    obtain ⟨k, b1, os, hk, hb1, rfl, rfl, rfl, hown, Hinv, hbel⟩ := hrel
    by_cases hlt : k < xs.length
    · obtain ⟨b, off, rfl, hc⟩ := h3.resolve_left (by omega)
      have hck := cell_later hbel (hc k hlt)
      have hx9 := dx.at (by decide) k
      have hy9 := dy.at (by decide) k
      obtain ⟨x, hx⟩ : ∃ x, x = xs.getD k 0 := ⟨_, rfl⟩
      obtain ⟨y, hy⟩ : ∃ y, y = ys.getD k 0 := ⟨_, rfl⟩
      rw [← hx] at hck hx9
      rw [← hy] at hy9
      have Hx := Lib.hid hx; clear hx
      have Hy := Lib.hid hy; clear hy
      clear hc h3
      have hsz := hbel.size
      by_cases hly : k < ys.length
      · obtain ⟨b', off', rfl, hd⟩ := h3'.resolve_left (by omega)
        have hdk := cell_later hbel (hd k hly)
        rw [← Hy.out] at hdk
        clear hd h3'
        go_wp2_with (at_builtin; refine wpList_append_fits _ rfl _ _ 119 rfl w.heap.size 144 i0 1 Tryz.ul_u32s hi hz1 w.heap.size k N (nums .u32 os) rfl (hown.alloc _) ⟨wr.heap.size, 0, none⟩ 1 1 [_] rfl rfl (cell_one_new _ _ _) (int_oneCell _ _) (by omega) ?_)
        intro w2 hown2 hgrow2
        have ed : (((x : Int) + b1 + y) % 1000000000 : Int) = (((x + b1 + y) % 1000000000 : Nat) : Int) := by omega
        rw [ed, nums_snoc] at hown2
        have hbel2 : Below w.heap.size w w2 := (hbel.alloc hsz _).grown hgrow2 (by simp; omega) (by intro k hk; simp at hk; omega)
        have HR : Hid (PlusInv xs ys (os ++ [(x + b1 + y) % 1000000000]) (k + 1) ((x + b1 + y) / 1000000000)) := Hinv.out.step (Nat.mod_lt _ (by decide)) (by rw [← Hx.out, ← Hy.out]; omega)
        clear ed hgrow2 hown hbel
        go_wp2
        go_roundw
        case rel => exact ⟨k + 1, (x + b1 + y) / 1000000000, os ++ [(x + b1 + y) % 1000000000], by omega, by omega, by go_num, by go_num, rfl, hown2, HR, hbel2⟩
        case measure => simp [intOf]; omega
      · have hy0 : ys.getD k 0 = 0 := by simp only [List.getD, List.getElem?_eq_none (by omega : ys.length ≤ k), Option.getD_none]
        have Hy0 := Lib.hid hy0; clear hy0
        go_wp2_with (at_builtin; refine wpList_append_fits _ rfl _ _ 119 rfl w.heap.size 144 i0 1 Tryz.ul_u32s hi hz1 w.heap.size k N (nums .u32 os) rfl (hown.alloc _) ⟨wr.heap.size, 0, none⟩ 1 1 [_] rfl rfl (cell_one_new _ _ _) (int_oneCell _ _) (by omega) ?_)
        intro w2 hown2 hgrow2
        have ed : (((x : Int) + b1) % 1000000000 : Int) = (((x + b1) % 1000000000 : Nat) : Int) := by omega
        rw [ed, nums_snoc] at hown2
        have hbel2 : Below w.heap.size w w2 := (hbel.alloc hsz _).grown hgrow2 (by simp; omega) (by intro k hk; simp at hk; omega)
        have HR : Hid (PlusInv xs ys (os ++ [(x + b1) % 1000000000]) (k + 1) ((x + b1) / 1000000000)) := Hinv.out.step (Nat.mod_lt _ (by decide)) (by rw [← Hx.out, Hy0.out]; omega)
        clear ed hgrow2 hown hbel
        go_wp2
        go_roundw
        case rel => exact ⟨k + 1, (x + b1) / 1000000000, os ++ [(x + b1) % 1000000000], by omega, by omega, by go_num, by go_num, rfl, hown2, HR, hbel2⟩
        case measure => simp [intOf]; omega
    · obtain rfl : k = xs.length := by omega
      have hdg := Hinv.out.2.1
      have hos : os.length = xs.length := Hinv.out.1
      have Hos := Lib.hid hos; clear hos
      have hsz := hbel.size
      go_wp2_with (at_builtin; refine wpList_append_fits _ rfl _ _ 119 rfl w.heap.size 144 i0 1 Tryz.ul_u32s hi hz1 w.heap.size xs.length N (nums .u32 os) rfl (hown.alloc _) ⟨wr.heap.size, 0, none⟩ 1 1 [_] rfl rfl (cell_one_new _ _ _) (int_oneCell _ _) (by omega) ?_)
      intro w2 hown2 hgrow2
      rw [nums_snoc] at hown2
      have hbel2 : Below w.heap.size w w2 := (hbel.alloc hsz _).grown hgrow2 (by simp; omega) (by intro k hk; simp at hk; omega)
      have e1 : xs.length + 1 = (os ++ [b1]).length := by rw [List.length_append, Hos.out]; rfl
      have HF := Lib.hid (Hinv.out.fin (by omega))
      have hdg2 : Dig 1000000000 (os ++ [b1]) := hdg.snoc (by omega)
      have hown3 : w2.ownsRow w.heap.size 144 1 (.slice (some ⟨w.heap.size, 0, none⟩) (xs.length + 1) N) (os ++ [b1]).length (nums .u32 (os ++ [b1])) := by rw [← e1]; exact hown2
      have hsl : Sl w2 (.slice (some ⟨w.heap.size, 0, none⟩) (xs.length + 1) N) 1 (os ++ [b1]).length (nums .u32 (os ++ [b1])) := Sl.of_owns hown3
      have E1 := Lib.hid e1
      clear e1 hgrow2 hown hbel hown2
      go_wp2_with fail
      refine (trim_any (.slice (some ⟨w.heap.size, 0, none⟩) (xs.length + 1) N) (os ++ [b1]) w2 hsl (by have := E1.out; omega)).mono ?_
      rintro e w' ⟨v', rfl, Hv, rfl⟩
      go_wp2
      go_ret
      exact ⟨_, _, rfl, ⟨own_trim hown3 Hv.out, trimL_nrm hdg2, hbel2⟩, (trimL_val _ _).trans HF.out⟩

set_option maxHeartbeats 1000000 in
set_option maxRecDepth 100000 in
theorem plus_lt (a b : Value) (xs ys : List Nat) (w : World) (ha : Sl w a 1 xs.length (nums .u32 xs)) (hb : Sl w b 1 ys.length (nums .u32 ys))
    (dx : Dig 1000000000 xs) (dy : Dig 1000000000 ys) (lx : xs.length ≤ 100000) (ly : ys.length ≤ 100000) (hlen : xs.length < ys.length) :
    Calls Tryz.prog 93 #[a, b] w fun e w' => ∃ v rs, e = .returned v ∧ OwnMag w w' v rs ∧ val 1000000000 rs = val 1000000000 xs + val 1000000000 ys := by
  obtain ⟨ad, ca, rfl, h1, h3⟩ := ha.nums
  obtain ⟨bd, cb, rfl, h1', h3'⟩ := hb.nums
  obtain ⟨i0, hi, hz0, hz1, hz2⟩ := info_parts Tryz.info_u32
  clear ha hb
  obtain ⟨N, hN⟩ : ∃ N, N = ys.length + 1 := ⟨_, rfl⟩
  have HN := Lib.hid hN
  have hNl : N ≤ 100001 := by omega
  have hN1 : ys.length + 1 ≤ N := by omega
  have hN2 : N ≤ ys.length + 1 := by omega
  clear hN
  go_enter Tryz.func93, Tryz.ntmps93
  go_wp2_with (at_make; refine wpList_make_own _ rfl _ _ 119 rfl w.heap.size 144 i0 (.int .u32 0) 1 Tryz.ul_u32s hi hz0 hz1 _ _ _ N rfl rfl ?b0 ?b1 ?b2 ?b3 ?_)
  case b0 => rw [HN.out]; simp
  case b1 => rw [hz2]; omega
  case b2 => unfold maxLen; omega
  case b3 => exact Nat.le_refl _
  intro w1 hown hgrow
  have hbel : Below w.heap.size w w1 := (Below.refl _ _).grown hgrow (Nat.le_refl _) (by simp)
  clear hgrow
  go_wp2
  go_loopw [5, 6, 23] (fun o c i wr => ∃ (k b1 : Nat) (os : List Nat), k ≤ ys.length ∧ b1 ≤ 1 ∧ i = .int .i64 k ∧ c = .int .u32 b1 ∧ o = .slice (some ⟨w.heap.size, 0, none⟩) k N ∧
      wr.ownsRow w.heap.size 144 1 (.slice (some ⟨w.heap.size, 0, none⟩) k N) k (nums .u32 os) ∧ Hid (PlusInv ys xs os k b1) ∧ Below w.heap.size w wr)
    (fun _ _ i _ => ys.length - (intOf i).toNat)
  case atStart => exact ⟨0, 0, [], Nat.zero_le _, by omega, rfl, rfl, rfl, hown, PlusInv.start _ _, hbel⟩
  case round =>
    clear hown hbel
    obtain ⟨k, b1, os, hk, hb1, rfl, rfl, rfl, hown, Hinv, hbel⟩ := hrel
    by_cases hlt : k < ys.length
    · obtain ⟨b, off, rfl, hc⟩ := h3'.resolve_left (by omega)
      have hck := cell_later hbel (hc k hlt)
      have hx9 := dy.at (by decide) k
      have hy9 := dx.at (by decide) k
      obtain ⟨x, hx⟩ : ∃ x, x = ys.getD k 0 := ⟨_, rfl⟩
      obtain ⟨y, hy⟩ : ∃ y, y = xs.getD k 0 := ⟨_, rfl⟩
      rw [← hx] at hck hx9
      rw [← hy] at hy9
      have Hx := Lib.hid hx; clear hx
      have Hy := Lib.hid hy; clear hy
      clear hc h3'
      have hsz := hbel.size
      by_cases hly : k < xs.length
      · obtain ⟨b', off', rfl, hd⟩ := h3.resolve_left (by omega)
        have hdk := cell_later hbel (hd k hly)
        rw [← Hy.out] at hdk
        clear hd h3
        go_wp2_with (at_builtin; refine wpList_append_fits _ rfl _ _ 119 rfl w.heap.size 144 i0 1 Tryz.ul_u32s hi hz1 w.heap.size k N (nums .u32 os) rfl (hown.alloc _) ⟨wr.heap.size, 0, none⟩ 1 1 [_] rfl rfl (cell_one_new _ _ _) (int_oneCell _ _) (by omega) ?_)
        intro w2 hown2 hgrow2
        have ed : (((x : Int) + b1 + y) % 1000000000 : Int) = (((x + b1 + y) % 1000000000 : Nat) : Int) := by omega
        rw [ed, nums_snoc] at hown2
        have hbel2 : Below w.heap.size w w2 := (hbel.alloc hsz _).grown hgrow2 (by simp; omega) (by intro k hk; simp at hk; omega)
        have HR : Hid (PlusInv ys xs (os ++ [(x + b1 + y) % 1000000000]) (k + 1) ((x + b1 + y) / 1000000000)) := Hinv.out.step (Nat.mod_lt _ (by decide)) (by rw [← Hx.out, ← Hy.out]; omega)
        clear ed hgrow2 hown hbel
        go_wp2
        go_roundw
        case rel => exact ⟨k + 1, (x + b1 + y) / 1000000000, os ++ [(x + b1 + y) % 1000000000], by omega, by omega, by go_num, by go_num, rfl, hown2, HR, hbel2⟩
        case measure => simp [intOf]; omega
      · have hy0 : xs.getD k 0 = 0 := by simp only [List.getD, List.getElem?_eq_none (by omega : xs.length ≤ k), Option.getD_none]
        have Hy0 := Lib.hid hy0; clear hy0
        go_wp2_with (at_builtin; refine wpList_append_fits _ rfl _ _ 119 rfl w.heap.size 144 i0 1 Tryz.ul_u32s hi hz1 w.heap.size k N (nums .u32 os) rfl (hown.alloc _) ⟨wr.heap.size, 0, none⟩ 1 1 [_] rfl rfl (cell_one_new _ _ _) (int_oneCell _ _) (by omega) ?_)
        intro w2 hown2 hgrow2
        have ed : (((x : Int) + b1) % 1000000000 : Int) = (((x + b1) % 1000000000 : Nat) : Int) := by omega
        rw [ed, nums_snoc] at hown2
        have hbel2 : Below w.heap.size w w2 := (hbel.alloc hsz _).grown hgrow2 (by simp; omega) (by intro k hk; simp at hk; omega)
        have HR : Hid (PlusInv ys xs (os ++ [(x + b1) % 1000000000]) (k + 1) ((x + b1) / 1000000000)) := Hinv.out.step (Nat.mod_lt _ (by decide)) (by rw [← Hx.out, Hy0.out]; omega)
        clear ed hgrow2 hown hbel
        go_wp2
        go_roundw
        case rel => exact ⟨k + 1, (x + b1) / 1000000000, os ++ [(x + b1) % 1000000000], by omega, by omega, by go_num, by go_num, rfl, hown2, HR, hbel2⟩
        case measure => simp [intOf]; omega
    · obtain rfl : k = ys.length := by omega
      have hdg := Hinv.out.2.1
      have hos : os.length = ys.length := Hinv.out.1
      have Hos := Lib.hid hos; clear hos
      have hsz := hbel.size
      go_wp2_with (at_builtin; refine wpList_append_fits _ rfl _ _ 119 rfl w.heap.size 144 i0 1 Tryz.ul_u32s hi hz1 w.heap.size ys.length N (nums .u32 os) rfl (hown.alloc _) ⟨wr.heap.size, 0, none⟩ 1 1 [_] rfl rfl (cell_one_new _ _ _) (int_oneCell _ _) (by omega) ?_)
      intro w2 hown2 hgrow2
      rw [nums_snoc] at hown2
      have hbel2 : Below w.heap.size w w2 := (hbel.alloc hsz _).grown hgrow2 (by simp; omega) (by intro k hk; simp at hk; omega)
      have e1 : ys.length + 1 = (os ++ [b1]).length := by rw [List.length_append, Hos.out]; rfl
      have HF := Lib.hid (Hinv.out.fin (by omega))
      have hdg2 : Dig 1000000000 (os ++ [b1]) := hdg.snoc (by omega)
      have hown3 : w2.ownsRow w.heap.size 144 1 (.slice (some ⟨w.heap.size, 0, none⟩) (ys.length + 1) N) (os ++ [b1]).length (nums .u32 (os ++ [b1])) := by rw [← e1]; exact hown2
      have hsl : Sl w2 (.slice (some ⟨w.heap.size, 0, none⟩) (ys.length + 1) N) 1 (os ++ [b1]).length (nums .u32 (os ++ [b1])) := Sl.of_owns hown3
      have E1 := Lib.hid e1
      clear e1 hgrow2 hown hbel hown2
      go_wp2_with fail
      refine (trim_any (.slice (some ⟨w.heap.size, 0, none⟩) (ys.length + 1) N) (os ++ [b1]) w2 hsl (by have := E1.out; omega)).mono ?_
      rintro e w' ⟨v', rfl, Hv, rfl⟩
      go_wp2
      go_ret
      exact ⟨_, _, rfl, ⟨own_trim hown3 Hv.out, trimL_nrm hdg2, hbel2⟩, (trimL_val _ _).trans (HF.out.trans (Nat.add_comm _ _))⟩

theorem plus_any (a b : Value) (xs ys : List Nat) (w : World) (ha : Sl w a 1 xs.length (nums .u32 xs)) (hb : Sl w b 1 ys.length (nums .u32 ys))
    (dx : Dig 1000000000 xs) (dy : Dig 1000000000 ys) (lx : xs.length ≤ 100000) (ly : ys.length ≤ 100000) :
    Calls Tryz.prog 93 #[a, b] w fun e w' => ∃ v rs, e = .returned v ∧ OwnMag w w' v rs ∧ val 1000000000 rs = val 1000000000 xs + val 1000000000 ys := by
  rcases Nat.lt_or_ge xs.length ys.length with h | h
  · exact plus_lt a b xs ys w ha hb dx dy lx ly h
  · exact plus_ge a b xs ys w ha hb dx dy lx ly h
end Go.Proofs.YtofbngpckllkoacGreat

namespace Go.Proofs.YtofbngpckllkoacGreat
open Go.RowKit

/-- The number of a sign and a magnitude. -/
def sgnv (neg : Bool) (n : Nat) : Int := if neg then -(n : Int) else (n : Int)

def SumPost (w : World) (z : Int) (e : Ending) (w' : World) : Prop :=
  ∃ neg v rs, e = .returned (.agg #[.bool neg, v]) ∧ Sl w' v 1 rs.length (nums .u32 rs) ∧ Nrm 1000000000 rs ∧ sgnv neg (val 1000000000 rs) = z ∧ Below w.heap.size w w'

theorem sgnv_cut (neg : Bool) (n : Nat) (l : Nat) (h : n = 0 ↔ l = 0) : sgnv (neg && decide (0 < l)) n = sgnv neg n := by
  by_cases h0 : n = 0
  · have := h.1 h0; subst h0; subst this; cases neg <;> rfl
  · have : 0 < l := by rcases Nat.eq_zero_or_pos l with e | e
                       · exact absurd (h.2 e) h0
                       · exact e
    simp [this]

set_option maxRecDepth 100000 in
theorem sumk_any (neg : Bool) (ad : Option Addr) (n c : Nat) (w : World) :
    Calls Tryz.prog 92 #[.bool neg, .slice ad n c] w fun e w' => e = .returned (.agg #[.bool (neg && decide (0 < n)), .slice ad n c]) ∧ Below w.heap.size w w' := by
  have HB := fun b => Lib.hid (Boxed2.new w (.bool b) (.slice ad n c) 121)
  obtain ⟨r, hr⟩ : ∃ r, r = decide (0 < n) := ⟨_, rfl⟩
  rw [← hr]
  have t1 : decide (0 < n) = r := hr.symm
  clear hr
  cases neg
  · go_enter Tryz.func92, Tryz.ntmps92
    go_wp2
    refine bodyPost_ret (v := .agg #[.bool false, .slice ad n c]) (by simp [results, Tryz.results92, go_sem, (HB false).out.cell0, (HB false).out.cell1]) rfl ⟨by simp, below_a1 _ _⟩
  · go_enter Tryz.func92, Tryz.ntmps92
    go_wp2
    refine bodyPost_ret (v := .agg #[.bool r, .slice ad n c]) (by simp [results, Tryz.results92, go_sem, (HB r).out.cell0, (HB r).out.cell1]) rfl ⟨by simp, below_a1 _ _⟩

theorem sgnv_add (b : Bool) (x y : Nat) : sgnv b (x + y) = sgnv b x + sgnv b y := by
  cases b <;> simp [sgnv]; omega
theorem sgnv_sub {a b : Bool} {x y : Nat} (h : a ≠ b) (hl : y ≤ x) : sgnv a (x - y) = sgnv a x + sgnv b y := by
  cases a <;> cases b <;> simp_all [sgnv] <;> omega

set_option maxHeartbeats 1000000 in
set_option maxRecDepth 100000 in
theorem sum_same (na nb : Bool) (va vb : Value) (xs ys : List Nat) (w : World) (ha : Sl w va 1 xs.length (nums .u32 xs)) (hb : Sl w vb 1 ys.length (nums .u32 ys))
    (hx : Nrm 1000000000 xs) (hy : Nrm 1000000000 ys) (lx : xs.length ≤ 100000) (ly : ys.length ≤ 100000) (he2 : na = nb) :
    Calls Tryz.prog 74 #[.agg #[.bool na, va], .agg #[.bool nb, vb]] w (SumPost w (sgnv na (val 1000000000 xs) + sgnv nb (val 1000000000 ys))) := by
  have he : (na == nb) = true := by rw [beq_iff_eq]; exact he2
  have Ha := Lib.hid ha
  have Hb := Lib.hid hb
  have Hx := Lib.hid hx
  have Hy := Lib.hid hy
  clear ha hb hx hy
  have He2 := Lib.hid he2
  clear he2
  go_enter Tryz.func74, Tryz.ntmps74
  have b2 := fun (o3 o4 : Obj) => ((Boxed2.new w (.bool na) va 121).alloc o3).alloc o4
  have b3 := fun (o2 o4 : Obj) => (Boxed2.new (w.alloc o2) (.bool nb) vb 121).alloc o4
  have b4 := fun (o2 o3 : Obj) => Boxed2.new ((w.alloc o2).alloc o3) (.bool false) (.slice none 0 0) 121
  have HBX := Lib.hid (And.intro b2 (And.intro b3 b4))
  clear b2 b3 b4
  go_wp2
  obtain ⟨W0, hW0⟩ : ∃ W0, W0 = ((w.alloc (.cells #[.bool na, va] 121)).alloc (.cells #[.bool nb, vb] 121)).alloc (.cells #[.bool false, .slice none 0 0] 121) := ⟨_, rfl⟩
  rw [← hW0]
  have b2 : Boxed2 W0 w.heap.size 121 (.bool na) va := by rw [hW0]; exact HBX.out.1 _ _
  have b3 : Boxed2 W0 (w.heap.size + 1) 121 (.bool nb) vb := by rw [hW0]; have h := HBX.out.2.1 (.cells #[.bool na, va] 121) (.cells #[.bool false, .slice none 0 0] 121); simp at h; exact h
  have b4 : Boxed2 W0 (w.heap.size + 1 + 1) 121 (.bool false) (.slice none 0 0) := by rw [hW0]; have h := HBX.out.2.2 (.cells #[.bool na, va] 121) (.cells #[.bool nb, vb] 121); simp at h; exact h
  have hbl : Below w.heap.size w W0 := by rw [hW0]; exact below_a3 _ _ _ _
  have hz := b4.lt
  clear hW0 HBX
  have HP : Hid (∀ W, Ext W0 W → Calls Tryz.prog 93 #[va, vb] W fun e w' => ∃ ad n c rs, e = .returned (.slice ad n c) ∧ Hid (w'.ownsRow W0.heap.size 144 1 (.slice ad n c) rs.length (nums .u32 rs) ∧ Nrm 1000000000 rs ∧ n = rs.length ∧ val 1000000000 rs = val 1000000000 xs + val 1000000000 ys) ∧ Ext W0 w' ∧ Below W.heap.size W w') := by
    intro W hx
    have hS := hbl.trans (Below.mono hx hbl.size)
    refine (plus_any va vb xs ys W (Ha.out.below hS) (Hb.out.below hS) Hx.out.1 Hy.out.1 lx ly).mono ?_
    rintro e w' ⟨v, rs, rfl, ⟨own, hn, hb1⟩, hv⟩
    obtain ⟨ad, c, rfl, _⟩ := Sl.of_owns own
    exact ⟨ad, _, c, rs, rfl, ⟨ownsRow_base' own (Below.size hx), hn, rfl, hv⟩, Below.trans hx (hb1.mono (Below.size hx)), hb1⟩
  have HK : Hid (∀ W neg ad n c, Ext W0 W → Calls Tryz.prog 92 #[.bool neg, .slice ad n c] W fun e w' => e = .returned (.agg #[.bool (neg && decide (0 < n)), .slice ad n c]) ∧ Ext W0 w' ∧ Below W.heap.size W w') := by
    intro W neg ad n c hx
    refine (sumk_any neg ad n c W).mono ?_
    rintro e w' ⟨rfl, hb1⟩
    exact ⟨rfl, Below.trans hx (hb1.mono (Below.size hx)), hb1⟩
  have h0 := b2.cell0
  have h1 := b2.cell1
  have h2 := b3.cell0
  have h3 := b3.cell1
  have r0 := b4.cell0
  have r1 := b4.cell1
  have z0 := b4.frozen 0
  have z1 := b4.frozen 1
  have B4 := Lib.hid b4
  clear b2 b3 b4
  have HZ : Hid (∀ W, Ext W0 W → (W.cell? ⟨w.heap.size, 0, none⟩ = some (.bool na) ∧ W.cell? ⟨w.heap.size, 1, none⟩ = some va ∧ W.cell? ⟨w.heap.size + 1, 0, none⟩ = some (.bool nb) ∧ W.cell? ⟨w.heap.size + 1, 1, none⟩ = some vb) ∧ W.cell? ⟨w.heap.size + 1 + 1, 0, none⟩ = some (.bool false) ∧ W.cell? ⟨w.heap.size + 1 + 1, 1, none⟩ = some (.slice none 0 0) ∧ W.frozen? ⟨w.heap.size + 1 + 1, 0, none⟩ = false ∧ W.frozen? ⟨w.heap.size + 1 + 1, 1, none⟩ = false) := fun W hx => ⟨⟨Ext.cell hx h0, Ext.cell hx h1, Ext.cell hx h2, Ext.cell hx h3⟩, Ext.cell hx r0, Ext.cell hx r1, (B4.out.below hx).frozen 0, (B4.out.below hx).frozen 1⟩
  have hx0 : Ext W0 W0.drew := Below.drew (Below.refl _ _)
  go_region_held3 (fun w' => w'.cell? ⟨w.heap.size, 0, none⟩ = some (.bool na) ∧ w'.cell? ⟨w.heap.size, 1, none⟩ = some va ∧ w'.cell? ⟨w.heap.size + 1, 0, none⟩ = some (.bool nb) ∧ w'.cell? ⟨w.heap.size + 1, 1, none⟩ = some vb)
    (first | assumption | exact ⟨by assumption, by assumption, by assumption, by assumption⟩ | (refine ⟨?_, ?_, ?_, ?_⟩ <;> (rw [World.cell?_setCell_far _ _ _ _ (by first | (show w.heap.size + 1 + 1 ≠ w.heap.size; omega) | (show w.heap.size + 1 + 1 ≠ w.heap.size + 1; omega)), World.cell?_setCell_far _ _ _ _ (by first | (show w.heap.size + 1 + 1 ≠ w.heap.size; omega) | (show w.heap.size + 1 + 1 ≠ w.heap.size + 1; omega))]; assumption)) | go_keep)
    (first | (go_at_call 93; refine (HP.out _ hx0).mono ?_; rintro e w2 ⟨ad2, n2, cap2, rs2, rfl, own2, hx2, hb2⟩; obtain ⟨⟨p1, p2, p3, p4⟩, p5⟩ := HZ.out _ hx2) | (go_at_call 92; refine (HK.out _ _ _ _ _ hx2).mono ?_; rintro e w3 ⟨rfl, hx3, hb3⟩; obtain ⟨⟨p1, p2, p3, p4⟩, p5, p6, p7, p8⟩ := HZ.out _ hx3))
  go_wp2
  obtain ⟨ow, hn, rfl, hv⟩ := own2.out
  have HS := Lib.hid ((B4.out.below hx3).store (.bool (na && decide (0 < rs2.length))) (.slice ad2 rs2.length cap2))
  have HF : Hid (SumPost w (sgnv na (val 1000000000 xs) + sgnv nb (val 1000000000 ys)) (.returned (.agg #[.bool (na && decide (0 < rs2.length)), .slice ad2 rs2.length cap2])) ((w3.setCell ⟨w.heap.size + 1 + 1, 0, none⟩ (.bool (na && decide (0 < rs2.length)))).setCell ⟨w.heap.size + 1 + 1, 1, none⟩ (.slice ad2 rs2.length cap2))) := by
    refine ⟨_, _, rs2, rfl, Sl.of_owns (ownsRow_setCell_below (ownsRow_setCell_below (ownsRow_below' ow hb3) (a := ⟨w.heap.size + 1 + 1, 0, none⟩) hz _) (a := ⟨w.heap.size + 1 + 1, 1, none⟩) hz _), hn, ?_, below_store (hbl.trans (Below.mono hx3 hbl.size)) (by omega) _ _⟩
    rw [sgnv_cut _ _ _ (by rw [hn.val_zero (by decide), List.length_eq_zero_iff]), hv]
    rw [← He2.out]; exact sgnv_add _ _ _
  obtain ⟨W3, hW3⟩ : ∃ W3, W3 = (w3.setCell ⟨w.heap.size + 1 + 1, 0, none⟩ (.bool (na && decide (0 < rs2.length)))).setCell ⟨w.heap.size + 1 + 1, 1, none⟩ (.slice ad2 rs2.length cap2) := ⟨_, rfl⟩
  rw [← hW3]
  rw [← hW3] at HS HF
  refine bodyPost_ret (v := .agg #[.bool (na && decide (0 < rs2.length)), .slice ad2 rs2.length cap2]) (by simp [results, Tryz.results74, go_sem, HS.out.cell0, HS.out.cell1]) rfl HF.out

set_option maxHeartbeats 1000000 in
set_option maxRecDepth 100000 in
theorem sum_ge (na nb : Bool) (va vb : Value) (xs ys : List Nat) (w : World) (ha : Sl w va 1 xs.length (nums .u32 xs)) (hb : Sl w vb 1 ys.length (nums .u32 ys))
    (hx : Nrm 1000000000 xs) (hy : Nrm 1000000000 ys) (lx : xs.length ≤ 100000) (ly : ys.length ≤ 100000) (he2 : na ≠ nb) (hle : val 1000000000 ys ≤ val 1000000000 xs) :
    Calls Tryz.prog 74 #[.agg #[.bool na, va], .agg #[.bool nb, vb]] w (SumPost w (sgnv na (val 1000000000 xs) + sgnv nb (val 1000000000 ys))) := by
  have he : (na == nb) = false := by rw [beq_eq_false_iff_ne]; exact he2
  have HC := Lib.hid (fun W (hS : Below w.heap.size w W) => compare_any va vb xs ys W (ha.below hS) (hb.below hS) hx hy (by omega) (by omega))
  have hs : decide (0 ≤ sgn (val 1000000000 xs) (val 1000000000 ys)) = true := by
    unfold sgn; rw [decide_eq_true_eq]; split <;> (try split) <;> omega
  generalize sgn (val 1000000000 xs) (val 1000000000 ys) = g at HC hs
  have Ha := Lib.hid ha
  have Hb := Lib.hid hb
  have Hx := Lib.hid hx
  have Hy := Lib.hid hy
  have Hle := Lib.hid hle
  clear ha hb hx hy hle
  have He2 := Lib.hid he2
  clear he2
  go_enter Tryz.func74, Tryz.ntmps74
  have b2 := fun (o3 o4 : Obj) => ((Boxed2.new w (.bool na) va 121).alloc o3).alloc o4
  have b3 := fun (o2 o4 : Obj) => (Boxed2.new (w.alloc o2) (.bool nb) vb 121).alloc o4
  have b4 := fun (o2 o3 : Obj) => Boxed2.new ((w.alloc o2).alloc o3) (.bool false) (.slice none 0 0) 121
  have HBX := Lib.hid (And.intro b2 (And.intro b3 b4))
  clear b2 b3 b4
  go_wp2_with fail
  obtain ⟨W0, hW0⟩ : ∃ W0, W0 = ((w.alloc (.cells #[.bool na, va] 121)).alloc (.cells #[.bool nb, vb] 121)).alloc (.cells #[.bool false, .slice none 0 0] 121) := ⟨_, rfl⟩
  rw [← hW0]
  have b2 : Boxed2 W0 w.heap.size 121 (.bool na) va := by rw [hW0]; exact HBX.out.1 _ _
  have b3 : Boxed2 W0 (w.heap.size + 1) 121 (.bool nb) vb := by rw [hW0]; have h := HBX.out.2.1 (.cells #[.bool na, va] 121) (.cells #[.bool false, .slice none 0 0] 121); simp at h; exact h
  have b4 : Boxed2 W0 (w.heap.size + 1 + 1) 121 (.bool false) (.slice none 0 0) := by rw [hW0]; have h := HBX.out.2.2 (.cells #[.bool na, va] 121) (.cells #[.bool nb, vb] 121); simp at h; exact h
  have hbl : Below w.heap.size w W0 := by rw [hW0]; exact below_a3 _ _ _ _
  have hz := b4.lt
  clear hW0 HBX
  have HP : Hid (∀ W, Ext W0 W → Calls Tryz.prog 95 #[va, vb] W fun e w' => ∃ ad n c rs, e = .returned (.slice ad n c) ∧ Hid (w'.ownsRow W0.heap.size 144 1 (.slice ad n c) rs.length (nums .u32 rs) ∧ Nrm 1000000000 rs ∧ n = rs.length ∧ val 1000000000 rs = val 1000000000 xs - val 1000000000 ys) ∧ Ext W0 w' ∧ Below W.heap.size W w') := by
    intro W hx
    have hS := hbl.trans (Below.mono hx hbl.size)
    refine (minus_any va vb xs ys W (Ha.out.below hS) (Hb.out.below hS) Hx.out.1 Hy.out Hle.out lx).mono ?_
    rintro e w' ⟨v, rs, rfl, ⟨own, hn, hb1⟩, hv⟩
    obtain ⟨ad, c, rfl, _⟩ := Sl.of_owns own
    exact ⟨ad, _, c, rs, rfl, ⟨ownsRow_base' own (Below.size hx), hn, rfl, hv⟩, Below.trans hx (hb1.mono (Below.size hx)), hb1⟩
  have HK : Hid (∀ W neg ad n c, Ext W0 W → Calls Tryz.prog 92 #[.bool neg, .slice ad n c] W fun e w' => e = .returned (.agg #[.bool (neg && decide (0 < n)), .slice ad n c]) ∧ Ext W0 w' ∧ Below W.heap.size W w') := by
    intro W neg ad n c hx
    refine (sumk_any neg ad n c W).mono ?_
    rintro e w' ⟨rfl, hb1⟩
    exact ⟨rfl, Below.trans hx (hb1.mono (Below.size hx)), hb1⟩
  have h0 := b2.cell0
  have h1 := b2.cell1
  have h2 := b3.cell0
  have h3 := b3.cell1
  have r0 := b4.cell0
  have r1 := b4.cell1
  have z0 := b4.frozen 0
  have z1 := b4.frozen 1
  have B4 := Lib.hid b4
  clear b2 b3 b4
  go_wp2_with (go_at_call 94; refine (HC.out _ hbl).mono ?_; rintro e wq ⟨rfl, nq, rfl⟩)
  have HZ : Hid (∀ W, Ext W0 W → (W.cell? ⟨w.heap.size, 0, none⟩ = some (.bool na) ∧ W.cell? ⟨w.heap.size, 1, none⟩ = some va ∧ W.cell? ⟨w.heap.size + 1, 0, none⟩ = some (.bool nb) ∧ W.cell? ⟨w.heap.size + 1, 1, none⟩ = some vb) ∧ W.cell? ⟨w.heap.size + 1 + 1, 0, none⟩ = some (.bool false) ∧ W.cell? ⟨w.heap.size + 1 + 1, 1, none⟩ = some (.slice none 0 0) ∧ W.frozen? ⟨w.heap.size + 1 + 1, 0, none⟩ = false ∧ W.frozen? ⟨w.heap.size + 1 + 1, 1, none⟩ = false) := fun W hx => ⟨⟨Ext.cell hx h0, Ext.cell hx h1, Ext.cell hx h2, Ext.cell hx h3⟩, Ext.cell hx r0, Ext.cell hx r1, (B4.out.below hx).frozen 0, (B4.out.below hx).frozen 1⟩
  have hx0 : Ext W0 (W0.drewN nq).drew := Below.drew (below_drewN (Below.refl _ _) _)
  go_region_held3 (fun w' => w'.cell? ⟨w.heap.size, 0, none⟩ = some (.bool na) ∧ w'.cell? ⟨w.heap.size, 1, none⟩ = some va ∧ w'.cell? ⟨w.heap.size + 1, 0, none⟩ = some (.bool nb) ∧ w'.cell? ⟨w.heap.size + 1, 1, none⟩ = some vb)
    (first | assumption | exact ⟨by assumption, by assumption, by assumption, by assumption⟩ | (refine ⟨?_, ?_, ?_, ?_⟩ <;> (rw [World.cell?_setCell_far _ _ _ _ (by first | (show w.heap.size + 1 + 1 ≠ w.heap.size; omega) | (show w.heap.size + 1 + 1 ≠ w.heap.size + 1; omega)), World.cell?_setCell_far _ _ _ _ (by first | (show w.heap.size + 1 + 1 ≠ w.heap.size; omega) | (show w.heap.size + 1 + 1 ≠ w.heap.size + 1; omega))]; assumption)) | go_keep)
    (first | (go_at_call 95; refine (HP.out _ hx0).mono ?_; rintro e w2 ⟨ad2, n2, cap2, rs2, rfl, own2, hx2, hb2⟩; obtain ⟨⟨p1, p2, p3, p4⟩, p5⟩ := HZ.out _ hx2) | (go_at_call 92; refine (HK.out _ _ _ _ _ hx2).mono ?_; rintro e w3 ⟨rfl, hx3, hb3⟩; obtain ⟨⟨p1, p2, p3, p4⟩, p5, p6, p7, p8⟩ := HZ.out _ hx3))
  go_wp2
  obtain ⟨ow, hn, rfl, hv⟩ := own2.out
  have HS := Lib.hid ((B4.out.below hx3).store (.bool (na && decide (0 < rs2.length))) (.slice ad2 rs2.length cap2))
  have HF : Hid (SumPost w (sgnv na (val 1000000000 xs) + sgnv nb (val 1000000000 ys)) (.returned (.agg #[.bool (na && decide (0 < rs2.length)), .slice ad2 rs2.length cap2])) ((w3.setCell ⟨w.heap.size + 1 + 1, 0, none⟩ (.bool (na && decide (0 < rs2.length)))).setCell ⟨w.heap.size + 1 + 1, 1, none⟩ (.slice ad2 rs2.length cap2))) := by
    refine ⟨_, _, rs2, rfl, Sl.of_owns (ownsRow_setCell_below (ownsRow_setCell_below (ownsRow_below' ow hb3) (a := ⟨w.heap.size + 1 + 1, 0, none⟩) hz _) (a := ⟨w.heap.size + 1 + 1, 1, none⟩) hz _), hn, ?_, below_store (hbl.trans (Below.mono hx3 hbl.size)) (by omega) _ _⟩
    rw [sgnv_cut _ _ _ (by rw [hn.val_zero (by decide), List.length_eq_zero_iff]), hv]
    exact sgnv_sub He2.out Hle.out
  obtain ⟨W3, hW3⟩ : ∃ W3, W3 = (w3.setCell ⟨w.heap.size + 1 + 1, 0, none⟩ (.bool (na && decide (0 < rs2.length)))).setCell ⟨w.heap.size + 1 + 1, 1, none⟩ (.slice ad2 rs2.length cap2) := ⟨_, rfl⟩
  rw [← hW3]
  rw [← hW3] at HS HF
  refine bodyPost_ret (v := .agg #[.bool (na && decide (0 < rs2.length)), .slice ad2 rs2.length cap2]) (by simp [results, Tryz.results74, go_sem, HS.out.cell0, HS.out.cell1]) rfl HF.out

set_option maxHeartbeats 1000000 in
set_option maxRecDepth 100000 in
theorem sum_lt (na nb : Bool) (va vb : Value) (xs ys : List Nat) (w : World) (ha : Sl w va 1 xs.length (nums .u32 xs)) (hb : Sl w vb 1 ys.length (nums .u32 ys))
    (hx : Nrm 1000000000 xs) (hy : Nrm 1000000000 ys) (lx : xs.length ≤ 100000) (ly : ys.length ≤ 100000) (he2 : na ≠ nb) (hle : val 1000000000 xs ≤ val 1000000000 ys) (hne : val 1000000000 xs ≠ val 1000000000 ys) :
    Calls Tryz.prog 74 #[.agg #[.bool na, va], .agg #[.bool nb, vb]] w (SumPost w (sgnv na (val 1000000000 xs) + sgnv nb (val 1000000000 ys))) := by
  have he : (na == nb) = false := by rw [beq_eq_false_iff_ne]; exact he2
  have HC := Lib.hid (fun W (hS : Below w.heap.size w W) => compare_any va vb xs ys W (ha.below hS) (hb.below hS) hx hy (by omega) (by omega))
  have hs : decide (0 ≤ sgn (val 1000000000 xs) (val 1000000000 ys)) = false := by
    unfold sgn; rw [decide_eq_false_iff_not]; split <;> (try split) <;> omega
  generalize sgn (val 1000000000 xs) (val 1000000000 ys) = g at HC hs
  have Ha := Lib.hid ha
  have Hb := Lib.hid hb
  have Hx := Lib.hid hx
  have Hy := Lib.hid hy
  have Hle := Lib.hid hle
  clear ha hb hx hy hle
  have He2 := Lib.hid he2
  clear he2
  go_enter Tryz.func74, Tryz.ntmps74
  have b2 := fun (o3 o4 : Obj) => ((Boxed2.new w (.bool na) va 121).alloc o3).alloc o4
  have b3 := fun (o2 o4 : Obj) => (Boxed2.new (w.alloc o2) (.bool nb) vb 121).alloc o4
  have b4 := fun (o2 o3 : Obj) => Boxed2.new ((w.alloc o2).alloc o3) (.bool false) (.slice none 0 0) 121
  have HBX := Lib.hid (And.intro b2 (And.intro b3 b4))
  clear b2 b3 b4
  go_wp2_with fail
  obtain ⟨W0, hW0⟩ : ∃ W0, W0 = ((w.alloc (.cells #[.bool na, va] 121)).alloc (.cells #[.bool nb, vb] 121)).alloc (.cells #[.bool false, .slice none 0 0] 121) := ⟨_, rfl⟩
  rw [← hW0]
  have b2 : Boxed2 W0 w.heap.size 121 (.bool na) va := by rw [hW0]; exact HBX.out.1 _ _
  have b3 : Boxed2 W0 (w.heap.size + 1) 121 (.bool nb) vb := by rw [hW0]; have h := HBX.out.2.1 (.cells #[.bool na, va] 121) (.cells #[.bool false, .slice none 0 0] 121); simp at h; exact h
  have b4 : Boxed2 W0 (w.heap.size + 1 + 1) 121 (.bool false) (.slice none 0 0) := by rw [hW0]; have h := HBX.out.2.2 (.cells #[.bool na, va] 121) (.cells #[.bool nb, vb] 121); simp at h; exact h
  have hbl : Below w.heap.size w W0 := by rw [hW0]; exact below_a3 _ _ _ _
  have hz := b4.lt
  clear hW0 HBX
  have HP : Hid (∀ W, Ext W0 W → Calls Tryz.prog 95 #[vb, va] W fun e w' => ∃ ad n c rs, e = .returned (.slice ad n c) ∧ Hid (w'.ownsRow W0.heap.size 144 1 (.slice ad n c) rs.length (nums .u32 rs) ∧ Nrm 1000000000 rs ∧ n = rs.length ∧ val 1000000000 rs = val 1000000000 ys - val 1000000000 xs) ∧ Ext W0 w' ∧ Below W.heap.size W w') := by
    intro W hx
    have hS := hbl.trans (Below.mono hx hbl.size)
    refine (minus_any vb va ys xs W (Hb.out.below hS) (Ha.out.below hS) Hy.out.1 Hx.out Hle.out ly).mono ?_
    rintro e w' ⟨v, rs, rfl, ⟨own, hn, hb1⟩, hv⟩
    obtain ⟨ad, c, rfl, _⟩ := Sl.of_owns own
    exact ⟨ad, _, c, rs, rfl, ⟨ownsRow_base' own (Below.size hx), hn, rfl, hv⟩, Below.trans hx (hb1.mono (Below.size hx)), hb1⟩
  have HK : Hid (∀ W neg ad n c, Ext W0 W → Calls Tryz.prog 92 #[.bool neg, .slice ad n c] W fun e w' => e = .returned (.agg #[.bool (neg && decide (0 < n)), .slice ad n c]) ∧ Ext W0 w' ∧ Below W.heap.size W w') := by
    intro W neg ad n c hx
    refine (sumk_any neg ad n c W).mono ?_
    rintro e w' ⟨rfl, hb1⟩
    exact ⟨rfl, Below.trans hx (hb1.mono (Below.size hx)), hb1⟩
  have h0 := b2.cell0
  have h1 := b2.cell1
  have h2 := b3.cell0
  have h3 := b3.cell1
  have r0 := b4.cell0
  have r1 := b4.cell1
  have z0 := b4.frozen 0
  have z1 := b4.frozen 1
  have B4 := Lib.hid b4
  clear b2 b3 b4
  go_wp2_with (go_at_call 94; refine (HC.out _ hbl).mono ?_; rintro e wq ⟨rfl, nq, rfl⟩)
  have HZ : Hid (∀ W, Ext W0 W → (W.cell? ⟨w.heap.size, 0, none⟩ = some (.bool na) ∧ W.cell? ⟨w.heap.size, 1, none⟩ = some va ∧ W.cell? ⟨w.heap.size + 1, 0, none⟩ = some (.bool nb) ∧ W.cell? ⟨w.heap.size + 1, 1, none⟩ = some vb) ∧ W.cell? ⟨w.heap.size + 1 + 1, 0, none⟩ = some (.bool false) ∧ W.cell? ⟨w.heap.size + 1 + 1, 1, none⟩ = some (.slice none 0 0) ∧ W.frozen? ⟨w.heap.size + 1 + 1, 0, none⟩ = false ∧ W.frozen? ⟨w.heap.size + 1 + 1, 1, none⟩ = false) := fun W hx => ⟨⟨Ext.cell hx h0, Ext.cell hx h1, Ext.cell hx h2, Ext.cell hx h3⟩, Ext.cell hx r0, Ext.cell hx r1, (B4.out.below hx).frozen 0, (B4.out.below hx).frozen 1⟩
  have hx0 : Ext W0 (W0.drewN nq).drew := Below.drew (below_drewN (Below.refl _ _) _)
  go_region_held3 (fun w' => w'.cell? ⟨w.heap.size, 0, none⟩ = some (.bool na) ∧ w'.cell? ⟨w.heap.size, 1, none⟩ = some va ∧ w'.cell? ⟨w.heap.size + 1, 0, none⟩ = some (.bool nb) ∧ w'.cell? ⟨w.heap.size + 1, 1, none⟩ = some vb)
    (first | assumption | exact ⟨by assumption, by assumption, by assumption, by assumption⟩ | (refine ⟨?_, ?_, ?_, ?_⟩ <;> (rw [World.cell?_setCell_far _ _ _ _ (by first | (show w.heap.size + 1 + 1 ≠ w.heap.size; omega) | (show w.heap.size + 1 + 1 ≠ w.heap.size + 1; omega)), World.cell?_setCell_far _ _ _ _ (by first | (show w.heap.size + 1 + 1 ≠ w.heap.size; omega) | (show w.heap.size + 1 + 1 ≠ w.heap.size + 1; omega))]; assumption)) | go_keep)
    (first | (go_at_call 95; refine (HP.out _ hx0).mono ?_; rintro e w2 ⟨ad2, n2, cap2, rs2, rfl, own2, hx2, hb2⟩; obtain ⟨⟨p1, p2, p3, p4⟩, p5⟩ := HZ.out _ hx2) | (go_at_call 92; refine (HK.out _ _ _ _ _ hx2).mono ?_; rintro e w3 ⟨rfl, hx3, hb3⟩; obtain ⟨⟨p1, p2, p3, p4⟩, p5, p6, p7, p8⟩ := HZ.out _ hx3))
  go_wp2
  obtain ⟨ow, hn, rfl, hv⟩ := own2.out
  have HS := Lib.hid ((B4.out.below hx3).store (.bool (nb && decide (0 < rs2.length))) (.slice ad2 rs2.length cap2))
  have HF : Hid (SumPost w (sgnv na (val 1000000000 xs) + sgnv nb (val 1000000000 ys)) (.returned (.agg #[.bool (nb && decide (0 < rs2.length)), .slice ad2 rs2.length cap2])) ((w3.setCell ⟨w.heap.size + 1 + 1, 0, none⟩ (.bool (nb && decide (0 < rs2.length)))).setCell ⟨w.heap.size + 1 + 1, 1, none⟩ (.slice ad2 rs2.length cap2))) := by
    refine ⟨_, _, rs2, rfl, Sl.of_owns (ownsRow_setCell_below (ownsRow_setCell_below (ownsRow_below' ow hb3) (a := ⟨w.heap.size + 1 + 1, 0, none⟩) hz _) (a := ⟨w.heap.size + 1 + 1, 1, none⟩) hz _), hn, ?_, below_store (hbl.trans (Below.mono hx3 hbl.size)) (by omega) _ _⟩
    rw [sgnv_cut _ _ _ (by rw [hn.val_zero (by decide), List.length_eq_zero_iff]), hv]
    rw [Int.add_comm]; exact sgnv_sub (fun e => He2.out e.symm) Hle.out
  obtain ⟨W3, hW3⟩ : ∃ W3, W3 = (w3.setCell ⟨w.heap.size + 1 + 1, 0, none⟩ (.bool (nb && decide (0 < rs2.length)))).setCell ⟨w.heap.size + 1 + 1, 1, none⟩ (.slice ad2 rs2.length cap2) := ⟨_, rfl⟩
  rw [← hW3]
  rw [← hW3] at HS HF
  refine bodyPost_ret (v := .agg #[.bool (nb && decide (0 < rs2.length)), .slice ad2 rs2.length cap2]) (by simp [results, Tryz.results74, go_sem, HS.out.cell0, HS.out.cell1]) rfl HF.out

theorem sum_any (na nb : Bool) (va vb : Value) (xs ys : List Nat) (w : World) (ha : Sl w va 1 xs.length (nums .u32 xs)) (hb : Sl w vb 1 ys.length (nums .u32 ys))
    (hx : Nrm 1000000000 xs) (hy : Nrm 1000000000 ys) (lx : xs.length ≤ 100000) (ly : ys.length ≤ 100000) :
    Calls Tryz.prog 74 #[.agg #[.bool na, va], .agg #[.bool nb, vb]] w (SumPost w (sgnv na (val 1000000000 xs) + sgnv nb (val 1000000000 ys))) := by
  by_cases he : na = nb
  · exact sum_same na nb va vb xs ys w ha hb hx hy lx ly he
  · by_cases hle : val 1000000000 ys ≤ val 1000000000 xs
    · exact sum_ge na nb va vb xs ys w ha hb hx hy lx ly he hle
    · exact sum_lt na nb va vb xs ys w ha hb hx hy lx ly he (by omega) (by omega)
end Go.Proofs.YtofbngpckllkoacGreat
