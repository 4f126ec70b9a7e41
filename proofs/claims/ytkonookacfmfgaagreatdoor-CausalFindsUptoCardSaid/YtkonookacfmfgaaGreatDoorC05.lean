/-
  Sorted lists without repetitions; the reference's insertion; plain. What a contract uses, part by part: plain. causal.from: the days of an ordered list that are not before a day.
-/
import Derived.Test.YtkonookacfmfgaaGreatDoorC04
import Derived.Test.YtkonookacfmfgaaGreatDoorC02
namespace Go.Proofs.YtkonookacfmfgaaGreatDoor
open Go.RowKit
structure STO {α : Type} (lt : α → α → Bool) : Prop where
 irrefl : ∀ x, lt x x = false
 trans : ∀ x y z, lt x y = true → lt y z = true → lt x z = true
 conn : ∀ x y, lt x y = false → lt y x = false → x = y
def Srt {α : Type} (lt : α → α → Bool) (l : List α) : Prop := l.Pairwise fun a b => lt a b = true
theorem Srt.nil {α : Type} (lt : α → α → Bool) : Srt lt [] := List.Pairwise.nil
section
variable {α : Type} {lt : α → α → Bool} (h : STO lt)
include h
theorem STO.ne {x y : α} (hxy : lt x y = true) : x ≠ y := by
 rintro rfl; rw [h.irrefl] at hxy; cases hxy
theorem STO.asymm {x y : α} (hxy : lt x y = true) : lt y x = false := by
 cases hyx : lt y x with
 | false => rfl
 | true => have := h.trans _ _ _ hxy hyx; rw [h.irrefl] at this; cases this
theorem srt_ext : ∀ {l m : List α}, Srt lt l → Srt lt m → (∀ x, x ∈ l ↔ x ∈ m) → l = m
 | [], [], _, _, _ => rfl
 | [], y :: m, _, _, hm => by have := (hm y).2 (List.mem_cons_self ..); cases this
 | x :: l, [], _, _, hm => by have := (hm x).1 (List.mem_cons_self ..); cases this
 | x :: l, y :: m, hl, hm, he => by
  obtain ⟨hx, hl'⟩ := List.pairwise_cons.1 hl
  obtain ⟨hy, hm'⟩ := List.pairwise_cons.1 hm
  have hxy : x = y := by
   rcases List.mem_cons.1 ((he x).1 (List.mem_cons_self ..)) with e | e
   ·exact e
   ·rcases List.mem_cons.1 ((he y).2 (List.mem_cons_self ..)) with e' | e'
    ·exact e'.symm
    ·have h1 := hy _ e
     have h2 := h.asymm (hx _ e')
     rw [h1] at h2; cases h2
  subst hxy
  refine congrArg _ (srt_ext hl' hm' fun z => ⟨fun hz => ?_, fun hz => ?_⟩)
  ·rcases List.mem_cons.1 ((he z).1 (List.mem_cons_of_mem _ hz)) with e | e
   ·exact absurd e (h.ne (hx _ hz)).symm
   ·exact e
  ·rcases List.mem_cons.1 ((he z).2 (List.mem_cons_of_mem _ hz)) with e | e
   ·exact absurd e (h.ne (hy _ hz)).symm
   ·exact e
theorem srt_sub_len : ∀ {m l : List α}, Srt lt l → Srt lt m → (∀ x, x ∈ l → x ∈ m) → l.length ≤ m.length
 | [], [], _, _, _ => Nat.le_refl _
 | [], x :: l, _, _, hs => by have := hs x (List.mem_cons_self ..); cases this
 | y :: m, [], _, _, _ => Nat.zero_le _
 | y :: m, x :: l, hl, hm, hs => by
  obtain ⟨hx, hl'⟩ := List.pairwise_cons.1 hl
  obtain ⟨hy, hm'⟩ := List.pairwise_cons.1 hm
  rcases List.mem_cons.1 (hs x (List.mem_cons_self ..)) with e | e
  ·subst e
   have := srt_sub_len (m := m) (l := l) hl' hm' fun z hz => by
    rcases List.mem_cons.1 (hs z (List.mem_cons_of_mem _ hz)) with e | e
    ·exact absurd e (h.ne (hx _ hz)).symm
    ·exact e
   simp only [List.length_cons]; omega
  ·have := srt_sub_len (m := m) (l := x :: l) hl hm' fun z hz => by
    rcases List.mem_cons.1 (hs z hz) with e' | e'
    ·subst e'
     rcases List.mem_cons.1 hz with e2 | e2
     ·subst e2; exact e
     ·have h1 := h.asymm (hy _ e)
      rw [hx _ e2] at h1; cases h1
    ·exact e'
   simp only [List.length_cons] at this ⊢; omega
end
def insF {α : Type} (lt : α → α → Bool) (x : α) (s : List α × Bool) (y : α) : List α × Bool :=
 if s.2 = false ∧ lt x y = true then (s.1 ++ [x, y], true) else (s.1 ++ [y], s.2)
def insP {α : Type} (lt : α → α → Bool) (x : α) (l : List α) : List α × Bool := l.foldl (insF lt x) ([], false)
def insD {α : Type} (lt : α → α → Bool) (x : α) (l : List α) : List α := if (insP lt x l).2 = true then (insP lt x l).1 else (insP lt x l).1 ++ [x]
theorem insP_snoc {α : Type} (lt : α → α → Bool) (x : α) (l : List α) (y : α) : insP lt x (l ++ [y]) = insF lt x (insP lt x l) y := by simp [insP]
theorem insP_take {α : Type} (lt : α → α → Bool) (x : α) {l : List α} {k : Nat} {y : α} (hy : l[k]? = some y) : insP lt x (l.take (k + 1)) = insF lt x (insP lt x (l.take k)) y := by
 rw [take_snoc_get hy, insP_snoc]
theorem insF_true {α : Type} (lt : α → α → Bool) (x : α) (l o : List α) : l.foldl (insF lt x) (o, true) = (o ++ l, true) := by
 induction l generalizing o with
 | nil => simp
 | cons y l ih => rw [List.foldl_cons, insF, if_neg (by simp), ih]; simp
theorem insF_false {α : Type} (lt : α → α → Bool) (x : α) (l o : List α) :
  (∃ a b, l = a ++ b ∧ (∀ y ∈ a, lt x y = false) ∧ (∀ y, b.head? = some y → lt x y = true) ∧ b ≠ [] ∧ l.foldl (insF lt x) (o, false) = (o ++ a ++ x :: b, true)) ∨ ((∀ y ∈ l, lt x y = false) ∧ l.foldl (insF lt x) (o, false) = (o ++ l, false)) := by
 induction l generalizing o with
 | nil => right; simp
 | cons y l ih =>
  rw [List.foldl_cons, insF]
  cases hxy : lt x y with
  | true =>
   left
   refine ⟨[], y :: l, rfl, by simp, by simpa using hxy, by simp, ?_⟩
   rw [if_pos ⟨rfl, rfl⟩, insF_true]; simp
  | false =>
   rw [if_neg (by simp)]
   rcases ih (o ++ [y]) with ⟨a, b, rfl, h1, h2, h3, h4⟩ | ⟨h1, h2⟩
   ·left
    exact ⟨y :: a, b, rfl, by simpa [hxy] using h1, h2, h3, by rw [h4]; simp⟩
   ·right
    exact ⟨by simpa [hxy] using h1, by rw [h2]; simp⟩
theorem insD_mem {α : Type} (lt : α → α → Bool) (x : α) (l : List α) (z : α) : z ∈ insD lt x l ↔ z = x ∨ z ∈ l := by
 unfold insD insP
 rcases insF_false lt x l [] with ⟨a, b, rfl, _, _, _, e⟩ | ⟨_, e⟩
 ·rw [e]
  simp
  constructor
  ·rintro (h | h | h) <;> simp [h]
  ·rintro (h | h | h) <;> simp [h]
 ·rw [e]
  simp
  constructor
  ·rintro (h | h) <;> simp [h]
  ·rintro (h | h) <;> simp [h]
theorem insD_srt {α : Type} {lt : α → α → Bool} (h : STO lt) {x : α} {l : List α} (hl : Srt lt l) (hx : x ∉ l) : Srt lt (insD lt x l) := by
 have key : ∀ y, y ∈ l → lt x y = false → lt y x = true := fun y hy hxy => by
  cases hyx : lt y x with
  | true => rfl
  | false => exact absurd (h.conn _ _ hxy hyx ▸ hy) hx
 unfold insD insP
 rcases insF_false lt x l [] with ⟨a, b, rfl, h1, h2, h3, e⟩ | ⟨h1, e⟩
 ·rw [e]
  simp only [List.nil_append, if_true]
  obtain ⟨pa, pb, pab⟩ := List.pairwise_append.1 hl
  refine List.pairwise_append.2 ⟨pa, List.pairwise_cons.2 ⟨fun y hy => ?_, pb⟩, fun y hy z hz => ?_⟩
  ·cases b with
   | nil => cases hy
   | cons b0 b' =>
    have h4 := h2 b0 rfl
    rcases List.mem_cons.1 hy with e | e
    ·rw [e]; exact h4
    ·exact h.trans _ _ _ h4 ((List.pairwise_cons.1 pb).1 _ e)
  ·rcases List.mem_cons.1 hz with e | e
   ·rw [e]; exact key y (by simp [hy]) (h1 y hy)
   ·exact pab y hy z e
 ·rw [e]
  simp only [List.nil_append, Bool.false_eq_true, if_false]
  refine List.pairwise_append.2 ⟨hl, by simp, fun y hy z hz => ?_⟩
  rw [List.mem_singleton.1 hz]
  exact key y hy (h1 y hy)
noncomputable def insL {α : Type} (lt : α → α → Bool) (lim : Nat) (l : List α) (x : α) : List α := if lim < l.length ∨ eqB (x ∈ l) = true then l else insD lt x l
noncomputable def insA {α : Type} (lt : α → α → Bool) (lim : Nat) (l ns : List α) : List α := ns.foldl (insL lt lim) l
theorem eqB_iff {p : Prop} : eqB p = true ↔ p := ⟨fun h => (by
 by_cases hp : p
 ·exact hp
 ·rw [eqB_false hp] at h; cases h), eqB_true⟩
theorem insL_len {α : Type} (lt : α → α → Bool) (lim : Nat) (l : List α) (x : α) : l.length ≤ (insL lt lim l x).length := by
 unfold insL
 split
 ·exact Nat.le_refl _
 ·unfold insD insP
  rcases insF_false lt x l [] with ⟨a, b, rfl, _, _, _, e⟩ | ⟨_, e⟩ <;> rw [e] <;> simp
theorem insL_srt {α : Type} {lt : α → α → Bool} (h : STO lt) (lim : Nat) {l : List α} (hl : Srt lt l) (x : α) : Srt lt (insL lt lim l x) := by
 unfold insL
 split
 ·exact hl
 ·next hn => exact insD_srt h hl fun hx => hn (.inr (eqB_true hx))
theorem insL_mem {α : Type} (lt : α → α → Bool) (lim : Nat) (l : List α) (x z : α) (hz : z ∈ insL lt lim l x) : z = x ∨ z ∈ l := by
 unfold insL at hz
 split at hz
 ·exact .inr hz
 ·exact (insD_mem lt x l z).1 hz
theorem insL_mem' {α : Type} (lt : α → α → Bool) (lim : Nat) (l : List α) (x z : α) (hl : l.length ≤ lim) : z ∈ insL lt lim l x ↔ z = x ∨ z ∈ l := by
 refine ⟨insL_mem lt lim l x z, fun hz => ?_⟩
 unfold insL
 by_cases hx : x ∈ l
 ·rw [if_pos (.inr (eqB_true hx))]
  rcases hz with rfl | hz
  ·exact hx
  ·exact hz
 ·rw [if_neg (by rw [eqB_iff]; rintro (h | h); omega; exact hx h)]
  exact (insD_mem lt x l z).2 hz
theorem insA_law {α : Type} {lt : α → α → Bool} (h : STO lt) (lim : Nat) : ∀ (ns l : List α), Srt lt l →
  Srt lt (insA lt lim l ns) ∧ l.length ≤ (insA lt lim l ns).length ∧ (∀ z, z ∈ insA lt lim l ns → z ∈ l ∨ z ∈ ns) ∧ ((insA lt lim l ns).length ≤ lim → ∀ z, z ∈ l ∨ z ∈ ns → z ∈ insA lt lim l ns)
 | [], l, hl => ⟨hl, Nat.le_refl _, fun z hz => .inl hz, fun _ z hz => by rcases hz with hz | hz; exact hz; cases hz⟩
 | x :: ns, l, hl => by
  obtain ⟨h1, h2, h3, h4⟩ := insA_law h lim ns (insL lt lim l x) (insL_srt h lim hl x)
  have h5 := insL_len lt lim l x
  refine ⟨h1, Nat.le_trans h5 h2, fun z hz => ?_, fun hlen z hz => h4 hlen z ?_⟩
  ·rcases h3 z hz with hz | hz
   ·rcases insL_mem lt lim l x z hz with rfl | hz
    ·exact .inr (List.mem_cons_self ..)
    ·exact .inl hz
   ·exact .inr (List.mem_cons_of_mem _ hz)
  ·have h6 : l.length ≤ lim := Nat.le_trans (Nat.le_trans h5 h2) hlen
   rcases hz with hz | hz
   ·exact .inl ((insL_mem' lt lim l x z h6).2 (.inr hz))
   ·rcases List.mem_cons.1 hz with rfl | hz
    ·exact .inl ((insL_mem' lt lim l z z h6).2 (.inl rfl))
    ·exact .inr hz
theorem insA_set {α : Type} {lt : α → α → Bool} (h : STO lt) (lim : Nat) {ns S : List α} (hS : Srt lt S) (hm : ∀ z, z ∈ S ↔ z ∈ ns) :
  (S.length ≤ lim → insA lt lim [] ns = S) ∧ (lim < S.length → lim < (insA lt lim [] ns).length) := by
 obtain ⟨h1, _, h3, h4⟩ := insA_law h lim ns [] (Srt.nil lt)
 have h5 : ∀ z, z ∈ insA lt lim [] ns → z ∈ S := fun z hz => (hm z).2 (by rcases h3 z hz with h | h; cases h; exact h)
 have h6 := srt_sub_len h h1 hS h5
 have h7 : (insA lt lim [] ns).length ≤ lim → insA lt lim [] ns = S := fun hl => srt_ext h h1 hS fun z => ⟨h5 z, fun hz => h4 hl z (.inr ((hm z).1 hz))⟩
 refine ⟨fun hl => h7 (by omega), fun hl => ?_⟩
 rcases Nat.lt_or_ge lim (insA lt lim [] ns).length with hh | hh
 ·exact hh
 ·rw [h7 hh]; exact hl
def cmpct {α : Type} [DecidableEq α] : List α → List α
 | [] => []
 | [x] => [x]
 | x :: y :: l => if x = y then cmpct (y :: l) else x :: cmpct (y :: l)
theorem cmpct_mem {α : Type} [DecidableEq α] : ∀ (l : List α) (z : α), z ∈ cmpct l ↔ z ∈ l
 | [], z => by simp [cmpct]
 | [x], z => by simp [cmpct]
 | x :: y :: l, z => by
  rw [cmpct]
  split
  ·next e => subst e; rw [cmpct_mem (x :: l) z]; simp
  ·rw [List.mem_cons, cmpct_mem (y :: l) z]; simp
theorem cmpct_srt {α : Type} [DecidableEq α] {lt : α → α → Bool} (h : STO lt) : ∀ (l : List α), l.Pairwise (fun a b => lt b a = false) → Srt lt (cmpct l)
 | [], _ => Srt.nil lt
 | [x], _ => by rw [cmpct]; exact List.pairwise_cons.2 ⟨by simp, List.Pairwise.nil⟩
 | x :: y :: l, hl => by
  obtain ⟨hx, hl'⟩ := List.pairwise_cons.1 hl
  have ih := cmpct_srt h (y :: l) hl'
  rw [cmpct]
  split
  ·exact ih
  ·next hne =>
   have hxy : lt x y = true := by
    cases e : lt x y with
    | true => rfl
    | false => exact absurd (h.conn _ _ e (hx y (List.mem_cons_self ..))) hne
   refine List.pairwise_cons.2 ⟨fun z hz => ?_, ih⟩
   rcases List.mem_cons.1 ((cmpct_mem (y :: l) z).1 hz) with e | e
   ·rw [e]; exact hxy
   ·cases e2 : lt x z with
    | true => rfl
    | false =>
     have e3 : x = z := h.conn _ _ e2 (hx z (List.mem_cons_of_mem _ e))
     have e4 := (List.pairwise_cons.1 hl').1 z e
     rw [← e3, hxy] at e4; cases e4
theorem bytesLess_trans : ∀ (a b c : List UInt8), Op.bytesLess a b = true → Op.bytesLess b c = true → Op.bytesLess a c = true
 | _, _, [], _, h => by cases ‹List UInt8› <;> simp [Op.bytesLess] at h
 | [], _, _ :: _, _, _ => by simp [Op.bytesLess]
 | x :: a, [], _ :: _, h, _ => by simp [Op.bytesLess] at h
 | x :: a, y :: b, z :: c, h, k => by
  simp only [Op.bytesLess, Bool.or_eq_true, Bool.and_eq_true, decide_eq_true_eq, beq_iff_eq] at h k ⊢
  rcases h with h | ⟨h1, h2⟩ <;> rcases k with k | ⟨k1, k2⟩
  ·exact .inl (UInt8.lt_trans h k)
  ·exact .inl (k1 ▸ h)
  ·exact .inl (h1 ▸ k)
  ·exact .inr ⟨h1.trans k1, bytesLess_trans a b c h2 k2⟩
theorem bytesLess_conn : ∀ (a b : List UInt8), Op.bytesLess a b = false → Op.bytesLess b a = false → a = b
 | [], [], _, _ => rfl
 | [], _ :: _, h, _ => by simp [Op.bytesLess] at h
 | _ :: _, [], _, h => by simp [Op.bytesLess] at h
 | x :: a, y :: b, h, k => by
  simp only [Op.bytesLess, Bool.or_eq_false_iff, Bool.and_eq_false_iff, decide_eq_false_iff_not, beq_eq_false_iff_ne] at h k
  have e : x = y := by
   have h1 := h.1
   have k1 := k.1
   rw [UInt8.not_lt] at h1 k1
   exact UInt8.le_antisymm k1 h1
  subst e
  rw [bytesLess_conn a b (by rcases h.2 with h | h; exact absurd rfl h; exact h) (by rcases k.2 with h | h; exact absurd rfl h; exact h)]
theorem slt_trans {a b c : ByteArray} (h : slt a b = true) (k : slt b c = true) : slt a c = true := bytesLess_trans _ _ _ h k
theorem slt_conn {a b : ByteArray} (h : slt a b = false) (k : slt b a = false) : a = b := bl_inj (bytesLess_conn _ _ h k)
abbrev NdP : Type := ByteArray × Int
abbrev ChP : Type := ByteArray × ByteArray × Int
def ndLt (a b : NdP) : Bool := fxLt a.1 a.2 b.1 b.2
def chxLt (a b : ChP) : Bool := chLt a.1 a.2.1 a.2.2 b.1 b.2.1 b.2.2
def dayLt (a b : Int) : Bool := decide (a < b)
theorem day_sto : STO dayLt := ⟨fun x => by simp [dayLt], fun x y z h k => by simp [dayLt] at *; omega, fun x y h k => by simp [dayLt] at *; omega⟩
theorem nd_sto : STO ndLt where
 irrefl x := by simp [ndLt, fxLt, slt_irrefl]
 trans x y z h k := by
  simp only [ndLt, fxLt, Bool.or_eq_true, Bool.and_eq_true, decide_eq_true_eq] at *
  rcases h with h | ⟨h1, h2⟩ <;> rcases k with k | ⟨k1, k2⟩
  ·exact .inl (slt_trans h k)
  ·exact .inl (k1 ▸ h)
  ·exact .inl (h1 ▸ k)
  ·exact .inr ⟨h1.trans k1, by omega⟩
 conn x y h k := by
  obtain ⟨x1, x2⟩ := x
  obtain ⟨y1, y2⟩ := y
  simp only [ndLt, fxLt, Bool.or_eq_false_iff, Bool.and_eq_false_iff, decide_eq_false_iff_not] at *
  obtain rfl := slt_conn h.1 k.1
  have h2 := h.2
  have k2 := k.2
  simp at h2 k2
  rw [show x2 = y2 by omega]
theorem chx_sto : STO chxLt where
 irrefl x := by
  have := nd_sto.irrefl (x.2.1, x.2.2)
  simpa [chxLt, chLt, ndLt] using this
 trans x y z h k := by
  unfold chxLt chLt at *
  by_cases h1 : x.1 = y.1 <;> by_cases k1 : y.1 = z.1
  ·rw [if_pos h1] at h; rw [if_pos k1] at k; rw [if_pos (h1.trans k1)]
   exact nd_sto.trans (x.2.1, x.2.2) (y.2.1, y.2.2) (z.2.1, z.2.2) h k
  ·rw [if_neg k1] at k; rw [h1, if_neg k1]; exact k
  ·rw [if_neg h1] at h; rw [← k1, if_neg h1]; exact h
  ·rw [if_neg h1] at h; rw [if_neg k1] at k
   have := slt_trans h k
   rw [if_neg (fun e => by rw [e, slt_irrefl] at this; cases this)]; exact this
 conn x y h k := by
  obtain ⟨x1, x2, x3⟩ := x
  obtain ⟨y1, y2, y3⟩ := y
  unfold chxLt chLt at *
  simp only at h k
  by_cases h1 : x1 = y1
  ·subst h1
   simp only [if_true] at h k
   have := nd_sto.conn (x2, x3) (y2, y3) h k
   rw [Prod.mk.injEq] at this
   rw [this.1, this.2]
  ·rw [if_neg h1] at h; rw [if_neg (Ne.symm h1)] at k
   exact absurd (slt_conn h k) h1
end Go.Proofs.YtkonookacfmfgaaGreatDoor

namespace Go.Proofs.YtkonookacfmfgaaGreatDoor
open Go.RowKit
mutual
def Ex.nodes : Ex → List Ex
 | .mk k r n d l => .mk k r n d l :: Ex.nodess l
def Ex.nodess : List Ex → List Ex
 | [] => []
 | x :: l => Ex.nodes x ++ Ex.nodess l
end
theorem Ex.nodes_eq (x : Ex) : x.nodes = x :: Ex.nodess x.sub := by cases x; rw [Ex.nodes]; rfl
theorem Ex.nodess_append (l m : List Ex) : Ex.nodess (l ++ m) = Ex.nodess l ++ Ex.nodess m := by
 induction l with
 | nil => simp [Ex.nodess]
 | cons x l ih => rw [List.cons_append, Ex.nodess, Ex.nodess, ih, List.append_assoc]
theorem Ex.nodess_snoc {l : List Ex} {k : Nat} {x : Ex} (h : l[k]? = some x) : Ex.nodess (l.take (k + 1)) = Ex.nodess (l.take k) ++ x.nodes := by
 rw [take_snoc_get h, Ex.nodess_append, Ex.nodess, Ex.nodess, List.append_nil]
mutual
theorem Ex.nodes_len : ∀ x : Ex, x.nodes.length = x.size
 | .mk _ r n _ l => by rw [Ex.nodes, Ex.size, List.length_cons, Ex.nodess_len l]; omega
theorem Ex.nodess_len : ∀ l : List Ex, (Ex.nodess l).length = Ex.sizes l
 | [] => by simp [Ex.nodess, Ex.sizes]
 | x :: l => by rw [Ex.nodess, Ex.sizes, List.length_append, Ex.nodes_len x, Ex.nodess_len l]
end
inductive Ev where
 | expr (x : Ex) (ds : List Int)
 | choice (p n : ByteArray) (ds : List Int)
 | pay (ds : List Int)
def laterD (l : List Int) (d : Int) : List Int := l.filter fun x => decide (d ≤ x)
def headEv (c : Con) (ds : List Int) (d0 : Int) : List Ev :=
 if c.k = 2 then [.pay ds, .expr c.ex ds] else if c.k = 4 ∨ c.k = 5 then [.expr c.ex ds] else if c.k = 7 then [.choice c.fr c.nm ds]
 else if c.k = 8 then [.choice c.fr c.nm (laterD c.ds d0)] else if c.k = 9 ∨ c.k = 10 then [.expr c.ex (laterD c.ds d0)] else []
def innerD (c : Con) (ds : List Int) (d0 : Int) : List Int :=
 if c.k = 6 then (if d0 ≤ c.d then [c.d] else []) else if c.k = 8 ∨ c.k = 10 then laterD c.ds d0 else ds
mutual
def Con.evs : Con → List Int → List Ev
 | .mk k f t n x d dd l, ds =>
  match ds with
  | [] => []
  | d0 :: r => headEv (.mk k f t n x d dd l) (d0 :: r) d0 ++ Con.evss l (innerD (.mk k f t n x d dd l) (d0 :: r) d0)
def Con.evss : List Con → List Int → List Ev
 | [], _ => []
 | c :: l, ds => Con.evs c ds ++ Con.evss l ds
end
theorem Con.evs_nil (c : Con) : c.evs [] = [] := by cases c; rw [Con.evs]
theorem Con.evs_cons (c : Con) (d0 : Int) (r : List Int) : c.evs (d0 :: r) = headEv c (d0 :: r) d0 ++ Con.evss c.sub (innerD c (d0 :: r) d0) := by cases c; rw [Con.evs]; rfl
theorem Con.evss_append (l m : List Con) (ds : List Int) : Con.evss (l ++ m) ds = Con.evss l ds ++ Con.evss m ds := by
 induction l with
 | nil => simp [Con.evss]
 | cons x l ih => rw [List.cons_append, Con.evss, Con.evss, ih, List.append_assoc]
theorem Con.evss_snoc {l : List Con} {k : Nat} {x : Con} (h : l[k]? = some x) (ds : List Int) : Con.evss (l.take (k + 1)) ds = Con.evss (l.take k) ds ++ x.evs ds := by
 rw [take_snoc_get h, Con.evss_append, Con.evss, Con.evss, List.append_nil]
def xNeed (ds : List Int) (y : Ex) : List NdP := if ds = [] then [] else if y.k = 2 then [(y.nm, y.d)] else if y.k = 3 then ds.map fun d => (y.nm, d) else []
def xLate (ds : List Int) (y : Ex) : Bool := match ds with | [] => false | d0 :: _ => decide (y.k = 2) && decide (d0 < y.d)
def evNeeds : Ev → List NdP
 | .expr x ds => x.nodes.flatMap (xNeed ds)
 | _ => []
def evChs : Ev → List ChP
 | .choice p n ds => ds.map fun d => (p, n, d)
 | _ => []
def evDays : Ev → List Int
 | .pay ds => ds
 | _ => []
def evLate : Ev → Bool
 | .expr x ds => x.nodes.any (xLate ds)
 | _ => false
def evNs (l : List Ev) : List NdP := l.flatMap evNeeds
def evCs (l : List Ev) : List ChP := l.flatMap evChs
def evDs (l : List Ev) : List Int := l.flatMap evDays
def evLt (l : List Ev) : Bool := l.any evLate
theorem evNs_append (l m : List Ev) : evNs (l ++ m) = evNs l ++ evNs m := by simp [evNs]
theorem evCs_append (l m : List Ev) : evCs (l ++ m) = evCs l ++ evCs m := by simp [evCs]
theorem evDs_append (l m : List Ev) : evDs (l ++ m) = evDs l ++ evDs m := by simp [evDs]
theorem evLt_append (l m : List Ev) : evLt (l ++ m) = (evLt l || evLt m) := by simp [evLt]
def evMost (M : Nat) : Ev → Prop
 | .expr _ ds => ds.length ≤ M
 | .choice _ _ ds => ds.length ≤ M
 | .pay ds => ds.length ≤ M
def evW : Ev → Nat
 | .expr x _ => x.size
 | _ => 1
theorem laterD_len (l : List Int) (d : Int) : (laterD l d).length ≤ l.length := List.length_filter_le _ _
theorem xNeed_len (ds : List Int) (y : Ex) : (xNeed ds y).length ≤ ds.length := by
 unfold xNeed
 split
 ·simp
 ·next h =>
  have : 1 ≤ ds.length := by cases ds; exact absurd rfl h; simp
  split
  ·simpa using this
  ·split <;> simp
theorem flatMap_len {α β : Type} (f : α → List β) (M : Nat) (hf : ∀ x, (f x).length ≤ M) (l : List α) : (l.flatMap f).length ≤ l.length * M := by
 induction l with
 | nil => simp
 | cons x l ih => rw [List.flatMap_cons, List.length_append, List.length_cons, Nat.add_mul, Nat.one_mul]; have := hf x; omega
theorem evNeeds_len {M : Nat} {e : Ev} (h : evMost M e) : (evNeeds e).length ≤ evW e * M := by
 cases e with
 | expr x ds =>
  have h1 := flatMap_len (xNeed ds) M (fun y => Nat.le_trans (xNeed_len ds y) h) x.nodes
  rw [Ex.nodes_len] at h1
  exact h1
 | choice p n ds => simp [evNeeds]
 | pay ds => simp [evNeeds]
theorem evChs_len {M : Nat} {e : Ev} (h : evMost M e) : (evChs e).length ≤ evW e * M := by
 cases e with
 | expr x ds => simp [evChs]
 | choice p n ds => simpa [evChs, evW, evMost] using h
 | pay ds => simp [evChs]
theorem evDays_len {M : Nat} {e : Ev} (h : evMost M e) : (evDays e).length ≤ evW e * M := by
 cases e with
 | expr x ds => simp [evDays]
 | choice p n ds => simp [evDays]
 | pay ds => simpa [evDays, evW, evMost] using h
def evWs (l : List Ev) : Nat := (l.map evW).sum
theorem evWs_append (l m : List Ev) : evWs (l ++ m) = evWs l + evWs m := by simp [evWs]
theorem headEv_w (c : Con) (ds : List Int) (d0 : Int) : evWs (headEv c ds d0) ≤ c.ex.size + 1 := by
 unfold headEv
 repeat' split
 all_goals simp [evWs, evW]
 all_goals omega
theorem headEv_most {M : Nat} (c : Con) (ds : List Int) (d0 : Int) (h1 : ds.length ≤ M) (h2 : c.ds.length ≤ M) : ∀ e ∈ headEv c ds d0, evMost M e := by
 have h3 := laterD_len c.ds d0
 unfold headEv
 repeat' split
 all_goals simp [evMost, h1]
 all_goals omega
theorem innerD_len {M : Nat} (c : Con) (ds : List Int) (d0 : Int) (h1 : ds.length ≤ M) (h2 : c.ds.length ≤ M) (hM : 1 ≤ M) : (innerD c ds d0).length ≤ M := by
 have h3 := laterD_len c.ds d0
 unfold innerD
 repeat' split
 all_goals simp
 all_goals omega
mutual
theorem Con.evs_w : ∀ (c : Con) (ds : List Int), evWs (c.evs ds) ≤ c.bulk
 | .mk k f t n x d dd l, [] => by rw [Con.evs_nil]; simp [evWs]
 | .mk k f t n x d dd l, d0 :: r => by
  have h1 := headEv_w (.mk k f t n x d dd l) (d0 :: r) d0
  have h2 := Con.evss_w l (innerD (.mk k f t n x d dd l) (d0 :: r) d0)
  have h3 := x.size_le
  rw [Con.evs_cons, evWs_append, Con.bulk]
  have h4 : evWs (headEv (.mk k f t n x d dd l) (d0 :: r) d0) ≤ x.size + 1 := h1
  have h5 : evWs (Con.evss (Con.sub (.mk k f t n x d dd l)) (innerD (.mk k f t n x d dd l) (d0 :: r) d0)) ≤ Con.bulks l := h2
  omega
theorem Con.evss_w : ∀ (l : List Con) (ds : List Int), evWs (Con.evss l ds) ≤ Con.bulks l
 | [], _ => by simp [Con.evss, evWs]
 | c :: l, ds => by
  have h1 := Con.evs_w c ds
  have h2 := Con.evss_w l ds
  rw [Con.evss, evWs_append, Con.bulks]
  omega
end
mutual
theorem Con.evs_most (M : Nat) (hM : 1 ≤ M) : ∀ (c : Con) (ds : List Int), c.bulk ≤ M → ds.length ≤ M → ∀ e ∈ c.evs ds, evMost M e
 | .mk k f t n x d dd l, [], _, _, e, he => by rw [Con.evs_nil] at he; cases he
 | .mk k f t n x d dd l, d0 :: r, hb, hd, e, he => by
  rw [Con.bulk] at hb
  have h2 : (Con.ds (.mk k f t n x d dd l)).length ≤ M := by show dd.length ≤ M; omega
  rw [Con.evs_cons] at he
  rcases List.mem_append.1 he with he | he
  ·exact headEv_most _ _ _ hd h2 e he
  ·exact Con.evss_most M hM l _ (by omega) (innerD_len _ _ _ hd h2 hM) e he
theorem Con.evss_most (M : Nat) (hM : 1 ≤ M) : ∀ (l : List Con) (ds : List Int), Con.bulks l ≤ M → ds.length ≤ M → ∀ e ∈ Con.evss l ds, evMost M e
 | [], _, _, _, e, he => by rw [Con.evss] at he; cases he
 | c :: l, ds, hb, hd, e, he => by
  rw [Con.bulks] at hb
  rw [Con.evss] at he
  rcases List.mem_append.1 he with he | he
  ·exact Con.evs_most M hM c ds (by omega) hd e he
  ·exact Con.evss_most M hM l ds (by omega) hd e he
end
theorem flat_most {β : Type} (f : Ev → List β) (M : Nat) (hf : ∀ e, evMost M e → (f e).length ≤ evW e * M) : ∀ (l : List Ev), (∀ e ∈ l, evMost M e) → (l.flatMap f).length ≤ evWs l * M
 | [], _ => by simp
 | e :: l, h => by
  have h1 := hf e (h e (List.mem_cons_self ..))
  have h2 := flat_most f M hf l fun e he => h e (List.mem_cons_of_mem _ he)
  rw [List.flatMap_cons, List.length_append]
  have h3 : evWs (e :: l) = evW e + evWs l := by simp [evWs]
  rw [h3, Nat.add_mul]
  omega
theorem Con.found_len (c : Con) (day : Int) (hB : c.bulk ≤ 2000000) {pre : List Ev} (hp : pre <+: c.evs [day]) :
  (evNs pre).length ≤ 4000000000000 ∧ (evCs pre).length ≤ 4000000000000 ∧ (evDs pre).length ≤ 4000000000000 := by
 obtain ⟨r, hr⟩ := hp
 have hm : ∀ e ∈ pre, evMost 2000000 e := fun e he => Con.evs_most 2000000 (by omega) c [day] hB (by simp) e (by rw [← hr]; simp [he])
 have hw : evWs pre ≤ 2000000 := by
  have h1 := Con.evs_w c [day]
  rw [← hr, evWs_append] at h1
  omega
 have h1 := flat_most evNeeds 2000000 (fun _ => evNeeds_len) pre hm
 have h2 := flat_most evChs 2000000 (fun _ => evChs_len) pre hm
 have h3 := flat_most evDays 2000000 (fun _ => evDays_len) pre hm
 have h4 : evWs pre * 2000000 ≤ 4000000000000 := by omega
 exact ⟨Nat.le_trans h1 h4, Nat.le_trans h2 h4, Nat.le_trans h3 h4⟩
end Go.Proofs.YtkonookacfmfgaaGreatDoor

namespace Go.Proofs.YtkonookacfmfgaaGreatDoor
open Go.RowKit
set_option maxRecDepth 100000 in
theorem nanI_no (a : Int) (w : World) : Calls Tryz.prog 73 #[.int .i64 a] w fun e w' => e = .returned (.bool false) ∧ w = w' := by
 go_enter Tryz.func73, Tryz.ntmps73
 go_wp2
 go_ret
 exact ⟨ret_bool' (by simp), rfl⟩
set_option maxRecDepth 100000 in
theorem snanI_no (a : Int) (w : World) : Calls Tryz.prog 96 #[.int .i64 a] w fun e w' => e = .returned (.bool false) ∧ w = w' := by
 go_enter Tryz.func96, Tryz.ntmps96
 go_wp2
 go_ret
 exact ⟨ret_bool' (by simp), rfl⟩
set_option maxRecDepth 100000 in
theorem lessI_any (a b : Int) (w : World) : Calls Tryz.prog 95 #[.int .i64 a, .int .i64 b] w fun e w' => e = .returned (.bool (decide (a < b))) ∧ w = w' := by
 go_enter Tryz.func95, Tryz.ntmps95
 go_wp2_with (go_at_call 73; refine (nanI_no _ _).mono ?_; rintro e w' ⟨rfl, rfl⟩)
 all_goals
  go_ret
  exact ⟨rfl, rfl⟩
def dayIdx (l : List Int) (d : Int) : Nat := l.countP fun x => decide (x < d)
theorem dayIdx_le (l : List Int) (d : Int) : dayIdx l d ≤ l.length := List.countP_le_length
theorem dayIdx_spec {d : Int} : ∀ {l : List Int}, l.Pairwise (· < ·) → ∀ {k : Nat} {x : Int}, l[k]? = some x → (x < d ↔ k < dayIdx l d)
 | [], _, k, x, h => by simp at h
 | y :: l, hp, 0, x, h => by
  simp at h
  subst h
  unfold dayIdx
  rw [List.countP_cons]
  by_cases hyd : y < d
  ·simp [hyd]
  ·have h0 : l.countP (fun x => decide (x < d)) = 0 := by
    rw [List.countP_eq_zero]
    intro z hz
    have := (List.pairwise_cons.1 hp).1 z hz
    simp; omega
   simp [hyd, h0]
 | y :: l, hp, k + 1, x, h => by
  have h1 : l[k]? = some x := by simpa using h
  have ih := dayIdx_spec (d := d) (List.pairwise_cons.1 hp).2 h1
  have hyx := (List.pairwise_cons.1 hp).1 x (List.mem_of_getElem? h1)
  unfold dayIdx at ih ⊢
  rw [List.countP_cons]
  by_cases hyd : y < d
  ·simp [hyd, ih]
  ·simp [hyd]
   constructor
   ·intro; omega
   ·intro hk
    have := ih.2 (by omega)
    omega
theorem laterD_drop {d : Int} : ∀ {l : List Int}, l.Pairwise (· < ·) → laterD l d = l.drop (dayIdx l d)
 | [], _ => by simp [laterD]
 | y :: l, hp => by
  have ih := laterD_drop (d := d) (List.pairwise_cons.1 hp).2
  unfold laterD dayIdx at ih ⊢
  rw [List.countP_cons]
  by_cases hyd : y < d
  ·have h2 : ¬ d ≤ y := by omega
   simp [hyd, h2, ih]
  ·have h2 : d ≤ y := by omega
   have h0 : l.countP (fun x => decide (x < d)) = 0 := by
    rw [List.countP_eq_zero]
    intro z hz
    have := (List.pairwise_cons.1 hp).1 z hz
    simp; omega
   rw [h0] at ih
   simp [hyd, h2, h0, ih]
def BsPost (l : List Int) (d : Int) (w : World) (e : Ending) (w' : World) : Prop := (∃ b : Bool, e = .returned (.tuple #[.int .i64 ((dayIdx l d : Nat) : Int), .bool b])) ∧ w = w'
set_option maxHeartbeats 1000000 in
set_option maxRecDepth 100000 in
theorem bsearch_any (l : List Int) (d : Int) (v : Value) (w : World) (hn : l.length ≤ 2000000) (hp : l.Pairwise (· < ·)) (hr : RdI w l v) :
  Calls Tryz.prog 69 #[v, .int .i64 d] w (BsPost l d w) := by
 obtain ⟨ad, cap, rfl, _, hr⟩ := hr
 have HR := Lib.hid hr
 have HP := Lib.hid hp
 have hle := dayIdx_le l d
 obtain ⟨m, hm⟩ : ∃ m, dayIdx l d = m := ⟨_, rfl⟩
 have HM := Lib.hid hm
 rw [hm] at hle
 have HPo : Hid (∀ (b : Bool), BsPost l d w (.returned (.tuple #[.int .i64 (m : Int), .bool b])) w) := Lib.hid fun b => ⟨⟨b, by rw [hm]⟩, rfl⟩
 clear hr hp hm
 go_enter Tryz.func69, Tryz.ntmps69
 go_wp2_with fail
 go_loopw [7, 8] (fun i j wr => ∃ (a b : Nat), i = .int .i64 (a : Int) ∧ j = .int .i64 (b : Int) ∧ a ≤ m ∧ m ≤ b ∧ b ≤ l.length ∧ wr = w) (fun i j _ => (intOf j).toNat - (intOf i).toNat)
 case atStart => exact ⟨0, l.length, rfl, rfl, Nat.zero_le _, hle, Nat.le_refl _, rfl⟩
 case round =>
  obtain ⟨a, b, rfl, rfl, ham, hmb, hbl, rfl⟩ := hrel
  by_cases hab : a < b
  ·have e1 : IntKind.i64.wrap ((a : Int) + (b : Int)) = ((a + b : Nat) : Int) := by rw [IntWalk.i64_in _ (by omega)]; omega
   obtain ⟨x, hx⟩ : ∃ x, l[(a + b) / 2]? = some x := ⟨_, List.getElem?_eq_getElem (by omega)⟩
   obtain ⟨blk, off, rfl, hc⟩ := HR.out _ x hx
   have hsp := dayIdx_spec (d := d) HP.out hx
   rw [HM.out] at hsp
   have HL := Lib.hid (lessI_any x d wr)
   clear hx
   have e2 : IntKind.i64.wrap (((a + b) / 2 : Nat) + 1 : Int) = (((a + b) / 2 + 1 : Nat) : Int) := by rw [IntWalk.i64_in _ (by omega)]; omega
   by_cases hxd : x < d
   ·have h1 : (a + b) / 2 < m := hsp.1 hxd
    clear hsp
    go_wp2_with (go_at_call 95; refine HL.out.mono ?_; rintro e w1 ⟨rfl, rfl⟩)
    go_roundw
    case rel => exact ⟨(a + b) / 2 + 1, b, by go_num, rfl, by omega, hmb, hbl, by first | rfl | trivial⟩
    case measure => simp [intOf]; omega
   ·have h1 : ¬ (a + b) / 2 < m := fun h => hxd (hsp.2 h)
    have t1 : decide (x < d) = false := by rw [decide_eq_false_iff_not]; exact hxd
    clear hsp
    go_wp2_with (go_at_call 95; refine HL.out.mono ?_; rintro e w1 ⟨rfl, rfl⟩)
    go_roundw
    case rel => exact ⟨a, (a + b) / 2, rfl, by go_num, ham, by omega, by omega, by first | rfl | trivial⟩
    case measure => simp [intOf]; omega
  ·obtain rfl : a = m := by omega
   obtain rfl : b = a := by omega
   by_cases hml : b < l.length
   ·obtain ⟨x, hx⟩ : ∃ x, l[b]? = some x := ⟨_, List.getElem?_eq_getElem hml⟩
    obtain ⟨blk, off, rfl, hc⟩ := HR.out _ x hx
    have HN := Lib.hid (fun a => snanI_no a wr)
    clear hx hab
    go_wp2_with (go_at_call 96; refine (HN.out _).mono ?_; rintro e w1 ⟨rfl, rfl⟩)
    all_goals
     go_ret2
     exact HPo.out _
   ·have t1 : decide ((b : Int) < (l.length : Int)) = false := by rw [decide_eq_false_iff_not]; omega
    have t2 : decide (b < l.length) = false := by rw [decide_eq_false_iff_not]; omega
    clear hab
    go_wp2
    go_ret2
    exact HPo.out _
def laterA (l : List Int) (d : Int) (ad : Option Addr) (cap : Nat) : Option Addr := if cap = dayIdx l d then ad else Option.map (fun x => x.add (dayIdx l d)) ad
def laterV (l : List Int) (d : Int) (ad : Option Addr) (cap : Nat) : Value := .slice (laterA l d ad cap) (laterD l d).length (cap - dayIdx l d)
theorem laterV_rd {l : List Int} {d : Int} {ad : Option Addr} {cap : Nat} {w : World} (hp : l.Pairwise (· < ·)) (hr : RdI w l (.slice ad l.length cap)) : RdI w (laterD l d) (laterV l d ad cap) := by
 have hdr := laterD_drop (d := d) hp
 have hle := dayIdx_le l d
 obtain ⟨ad', cap', he, ⟨hcap, hnil⟩, hr⟩ := hr
 obtain ⟨rfl, _, rfl⟩ := Value.slice.inj he
 refine ⟨_, _, rfl, ⟨by rw [hdr, List.length_drop]; omega, fun h => ?_⟩, fun j x hj => ?_⟩
 ·unfold laterA at h
  split at h
  ·omega
  ·rw [Option.map_eq_none_iff] at h
   rw [hnil h, Nat.zero_sub]
 have hjl := (List.getElem?_eq_some_iff.1 hj).1
 rw [hdr, List.length_drop] at hjl
 rw [hdr, List.getElem?_drop] at hj
 obtain ⟨b, off, rfl, hc2⟩ := hr _ x hj
 unfold laterA
 rw [if_neg (by omega)]
 exact ⟨b, off + dayIdx l d, by show some (Addr.add _ _) = _; unfold Addr.add; split <;> simp_all, by rw [Nat.add_assoc]; exact hc2⟩
theorem laterV_own {l : List Int} {d : Int} {ad : Option Addr} {cap b : Nat} (h : (laterV l d ad cap).ownBlock = some b) : (Value.slice ad l.length cap).ownBlock = some b := by
 unfold laterV laterA at h
 cases ad with
 | none => split at h <;> cases h
 | some a =>
  split at h
  ·exact h
  ·show some a.block = some b
   have h2 : some (a.add (dayIdx l d)).block = some b := h
   rw [← h2]
   unfold Addr.add
   split <;> rfl
set_option maxHeartbeats 1000000 in
set_option maxRecDepth 100000 in
theorem from_any (l : List Int) (d : Int) (ad : Option Addr) (cap : Nat) (w : World) (hn : l.length ≤ 2000000) (hp : l.Pairwise (· < ·)) (hr : RdI w l (.slice ad l.length cap)) :
  Calls Tryz.prog 48 #[.slice ad l.length cap, .int .i64 d] w fun e w' => e = .returned (laterV l d ad cap) ∧ w = w' := by
 have hle := dayIdx_le l d
 have HB := Lib.hid (bsearch_any l d _ w hn hp hr)
 unfold BsPost at HB
 have HF : Hid (laterV l d ad cap = .slice (if cap = dayIdx l d then ad else Option.map (fun x => x.add (dayIdx l d)) ad) (l.length - dayIdx l d) (cap - dayIdx l d)) := Lib.hid (by
  unfold laterV laterA
  rw [laterD_drop hp, List.length_drop])
 generalize laterV l d ad cap = R at HF ⊢
 generalize dayIdx l d = m at *
 clear hr
 go_enter Tryz.func48, Tryz.ntmps48
 go_wp2_with (go_at_call 69; refine HB.out.mono ?_; rintro e w1 ⟨⟨bb, rfl⟩, rfl⟩)
 case inr =>
  have h := HF.out
  rw [if_neg (by assumption)] at h
  have H := Lib.hid h
  clear h
  go_ret
  exact ⟨by rw [H.out]; rfl, rfl⟩
 case inl =>
  have h := HF.out
  rw [if_pos (by assumption)] at h
  subst cap
  rw [Nat.sub_self] at h
  have H := Lib.hid h
  clear h
  go_ret
  exact ⟨by rw [H.out]; rfl, rfl⟩
end Go.Proofs.YtkonookacfmfgaaGreatDoor
