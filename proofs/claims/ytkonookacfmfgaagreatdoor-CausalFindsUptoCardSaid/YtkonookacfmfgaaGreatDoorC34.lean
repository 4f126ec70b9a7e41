/-
  causal.Needs's visitor. contract.visit and nodes: an iterator over the nodes of a contract, in the order of the text.
-/
import Derived.Test.YtkonookacfmfgaaGreatDoorC11
import Derived.Test.YtkonookacfmfgaaGreatDoorC33
import Derived.Test.YtkonookacfmfgaaGreatDoorC02
import Derived.Test.YtkonookacfmfgaaGreatDoorC07
import Derived.RangeFuncNested
import Derived.RangeFuncBound
import Derived.RangeFuncCalls
import Derived.RangeFuncLeaves
import Derived.Shelf.Abstract
import Derived.Shelf.RegionOpen
import Derived.OwnWalkIn
import Derived.TacticsInMore
import Derived.LoopNIn
import Derived.LoopIn
namespace Go.Proofs.YtkonookacfmfgaaGreatDoor
open Go.RowKit
set_option maxHeartbeats 2000000 in
set_option maxRecDepth 100000 in
theorem needx_any (w0 : World) (D Bo : Nat) (L0 : List NdP) (x : Ex) (s : Value) (ds : List Int) (v : Value) (W : World) (hBo : w0.heap.size ≤ Bo) (hBD : Bo < D) (hB : x.bulk ≤ 2000000) (hdl : ds.length ≤ 2000000) (hbd : (L0 ++ x.nodes.flatMap (xNeed ds)).length ≤ 4000000000000)
  (hR : NRow w0.heap.size Bo L0 W) (hbW : Below w0.heap.size w0 W) (hDW : D ≤ W.heap.size) (hs : RdE w0 x.sub s) (hdv : DaysAt w0.heap.size D Bo W ds v) :
  Calls Tryz.prog 22 #[x.val s, v, .pointer (some ⟨Bo, 0, none⟩)] W fun e W' => e = .returned (.tuple #[]) ∧ NRow w0.heap.size Bo (L0 ++ x.nodes.flatMap (xNeed ds)) W' ∧ KeptO w0.heap.size D Bo W W' := by
 obtain ⟨ad, cap, rfl⟩ := hs.len
 obtain ⟨adv, capv, rfl⟩ := hdv.1.len
 have hbo := hR.box
 have hb1 := below_a1 W (.cells #[.int .u8 x.k, .string x.ra, .string x.nm, .int .i64 x.d, .slice ad x.sub.length cap] 25)
 have hb2 := below_a2 W (.cells #[.int .u8 x.k, .string x.ra, .string x.nm, .int .i64 x.d, .slice ad x.sub.length cap] 25) (.cells #[.slice adv ds.length capv] 26)
 have hR1 := hR.frame hb1
 have hR2 := hR.frame hb2
 have hk2 : KeptO w0.heap.size D Bo W ((W.alloc (.cells #[.int .u8 x.k, .string x.ra, .string x.nm, .int .i64 x.d, .slice ad x.sub.length cap] 25)).alloc (.cells #[.slice adv ds.length capv] 26)) := KeptO.of_below hbW.size hbo hb2
 have hpd := Prv.new (D := D) (W := W.alloc (.cells #[.int .u8 x.k, .string x.ra, .string x.nm, .int .i64 x.d, .slice ad x.sub.length cap] 25)) (by rw [World.size_alloc]; omega) hR1.box hR1.own (.cells #[.slice adv ds.length capv] 26)
 rw [World.size_alloc] at hpd
 have hcd : ((W.alloc (.cells #[.int .u8 x.k, .string x.ra, .string x.nm, .int .i64 x.d, .slice ad x.sub.length cap] 25)).alloc (.cells #[.slice adv ds.length capv] 26)).cell? ⟨W.heap.size + 1, 0, none⟩ = some (.slice adv ds.length capv) := by go_simp
 have hK0 : NKey w0 D Bo (W.heap.size + 1) L0 ds (.slice adv ds.length capv) [] ((W.alloc (.cells #[.int .u8 x.k, .string x.ra, .string x.nm, .int .i64 x.d, .slice ad x.sub.length cap] 25)).alloc (.cells #[.slice adv ds.length capv] 26)) := by
  refine ⟨?_, hcd, hpd, hdv.kept hk2⟩
  rw [List.flatMap_nil, List.append_nil]; exact hR2
 have hL : LeafOk w0 D Bo x.nodes (fun pre W' => NKey w0 D Bo (W.heap.size + 1) L0 ds (.slice adv ds.length capv) pre W' ∧ w0.heap.size ≤ W'.heap.size) 24 #[.pointer (some ⟨W.heap.size + 1, 0, none⟩), .pointer (some ⟨Bo, 0, none⟩)] :=
  { frame := fun pre W1 W2 h hb => ⟨h.1.frame h.2 hb, Nat.le_trans h.2 hb.size⟩
    own := fun pre W1 h => h.1.1.own
    box := fun pre W1 h => h.1.1.box
    ef := enters_of Tryz.func24 (by kernel_rfl) rfl
    call := fun pre y sy W1 h hbw hD hsy hp => by
     have hlen : (L0 ++ (pre ++ [y]).flatMap (xNeed ds)).length ≤ 4000000000000 := by
      obtain ⟨r, hr⟩ := hp
      refine Nat.le_trans ?_ hbd
      have e : x.nodes.flatMap (xNeed ds) = (pre ++ [y]).flatMap (xNeed ds) ++ r.flatMap (xNeed ds) := by rw [← hr, List.flatMap_append]
      rw [e]
      simp only [List.length_append]
      omega
     exact (needf_any w0 D Bo (W.heap.size + 1) L0 ds _ pre y sy W1 hBo hBD hdl hlen h.1 hbw hD hsy).mono fun e W2 ⟨he, h2, h3⟩ => ⟨he, ⟨h2, Nat.le_trans h.2 h3.below.size⟩, h3⟩ }
 have hLv := leaves_any w0 D Bo x.nodes _ 24 _ hL x.bulk x (.slice ad x.sub.length cap) [] _ (Nat.le_refl _) hB hs (hbW.trans hk2.below) (Nat.le_trans hDW hb2.size) ⟨hK0, Nat.le_trans hbW.size hb2.size⟩ (by simp)
 have HLv := Lib.hid hLv
 have HK := Lib.hid hk2
 unfold Ex.val at HLv ⊢
 clear hLv hL hK0 hcd hpd hk2 hR2 hR1 hR hdv hs
 go_enter Tryz.func22, Tryz.ntmps22
 go_wp2_with fail
 refine HLv.out.mono ?_
 rintro e W3 ⟨rfl, ⟨⟨h3, _⟩, _⟩, hk3⟩
 have HF : Hid (NRow w0.heap.size Bo (L0 ++ x.nodes.flatMap (xNeed ds)) W3 ∧ KeptO w0.heap.size D Bo W W3) := Lib.hid ⟨by simpa using h3, HK.out.trans hk3⟩
 clear h3 hk3 HLv
 go_wp2_with fail
 go_end0
 exact ⟨rfl, HF.out.1, HF.out.2⟩
theorem needs_vis (w0 : World) (D Bo : Nat) (c : Con) (day : Int) (hB : c.bulk ≤ 2000000) (hBo : w0.heap.size ≤ Bo) (hBD : Bo < D) :
  VisOk w0 D Bo (c.evs [day]) (fun evs W => NRow w0.heap.size Bo (evNs evs) W ∧ w0.heap.size ≤ W.heap.size) 22 44 45 #[.pointer (some ⟨Bo, 0, none⟩)] #[] #[] where
 frame := fun pre W1 W2 h hb => ⟨h.1.frame hb, Nat.le_trans h.2 hb.size⟩
 own := fun pre W h => h.1.own
 box := fun pre W h => h.1.box
 ee := enters_of Tryz.func22 (by kernel_rfl) rfl
 ec := enters_of Tryz.func44 (by kernel_rfl) rfl
 ep := enters_of Tryz.func45 (by kernel_rfl) rfl
 expr := fun pre x s ds v W h hbW hDW hs hxb hdl hdv hp => by
  have hlen := (Con.found_len c day hB hp).1
  have e1 : evNs (pre ++ [.expr x ds]) = evNs pre ++ x.nodes.flatMap (xNeed ds) := by rw [evNs_append]; simp [evNs, evNeeds]
  rw [e1] at hlen ⊢
  exact (needx_any w0 D Bo (evNs pre) x s ds v W hBo hBD hxb hdl hlen h.1 hbW hDW hs hdv).mono fun e W' ⟨he, h1, h2⟩ => ⟨he, ⟨h1, Nat.le_trans h.2 h2.below.size⟩, h2⟩
 choice := fun pre p n ds v W h hbW hDW hdl hdv hp => by
  have e1 : evNs (pre ++ [.choice p n ds]) = evNs pre := by rw [evNs_append]; simp [evNs, evNeeds]
  rw [e1]
  exact (silent2_any p n v W).mono fun e W' ⟨he, hw⟩ => ⟨he, hw ▸ h, hw ▸ KeptO.refl W⟩
 pay := fun pre ds v W h hbW hDW hdl hdv hp => by
  have e1 : evNs (pre ++ [.pay ds]) = evNs pre := by rw [evNs_append]; simp [evNs, evNeeds]
  rw [e1]
  exact (silent3_any v W).mono fun e W' ⟨he, hw⟩ => ⟨he, hw ▸ h, hw ▸ KeptO.refl W⟩
end Go.Proofs.YtkonookacfmfgaaGreatDoor

namespace Go.Proofs.YtkonookacfmfgaaGreatDoor
open Go.RowKit Go.Shelf
attribute [local go_sem] Oper.semAt_some
mutual
def Con.nodes : Con → List Con
 | .mk k f t n x d dd l => .mk k f t n x d dd l :: Con.nodess l
def Con.nodess : List Con → List Con
 | [] => []
 | x :: l => Con.nodes x ++ Con.nodess l
end
theorem Con.nodes_eq (x : Con) : x.nodes = x :: Con.nodess x.sub := by cases x; rw [Con.nodes]; rfl
theorem Con.nodess_append (l m : List Con) : Con.nodess (l ++ m) = Con.nodess l ++ Con.nodess m := by
 induction l with
 | nil => simp [Con.nodess]
 | cons x l ih => rw [List.cons_append, Con.nodess, Con.nodess, ih, List.append_assoc]
theorem Con.nodess_snoc {l : List Con} {k : Nat} {x : Con} (h : l[k]? = some x) : Con.nodess (l.take (k + 1)) = Con.nodess (l.take k) ++ x.nodes := by
 rw [take_snoc_get h, Con.nodess_append, Con.nodess, Con.nodess, List.append_nil]
theorem Con.nodess_take {l : List Con} {k : Nat} {x : Con} (h : l[k]? = some x) : ∃ r, Con.nodess l = Con.nodess (l.take k) ++ (x.nodes ++ r) := by
 refine ⟨Con.nodess (l.drop (k + 1)), ?_⟩
 rw [← List.append_assoc, ← Con.nodess_snoc h, ← Con.nodess_append, List.take_append_drop]
theorem room_of_none {F : Fence} (hd : F.depth = none) (k : Nat) : F.room k := fun d h => by rw [hd] at h; cases h
theorem RoundIn.anyDepth {F : Fence} (hd : F.depth = none) {m m' : Nat} {P : Program} {l : Nat} {f : FuncId} {tmps : Array Value} {assign body : Code} {w : World} {R : Ending → World → Prop}
  (h : RoundIn F m P l f tmps assign body w R) : RoundIn F m' P l f tmps assign body w R := ⟨h.1, fun c cs _ => h.2 c cs (room_of_none hd _)⟩
theorem YieldAt.anyDepth {F : Fence} (hd : F.depth = none) {m : Nat} (m' : Nat) {P : Program} {l : Nat} {args : Array Value} {W : World} {R : Ending → World → Prop} (h : YieldAt F m P l args W R) : YieldAt F m' P l args W R := by
 obtain ⟨fn, tmps, assign, body, hy, hR⟩ := h
 exact ⟨fn, tmps, assign, body, hy, RoundIn.anyDepth hd hR⟩
structure Kept (base D : Nat) (w w' : World) : Prop where
 below : Below base w w'
 cells : ∀ b o, D ≤ b → w.heap[b]? = some o → o.isCells = true → w'.heap[b]? = some o
theorem Kept.refl (base D : Nat) (w : World) : Kept base D w w := ⟨Below.refl _ _, fun _ _ _ h _ => h⟩
theorem Kept.trans {base D : Nat} {a b c : World} (h : Kept base D a b) (k : Kept base D b c) : Kept base D a c := ⟨h.below.trans k.below, fun i o hi ho hc => k.cells i o hi (h.cells i o hi ho hc) hc⟩
theorem Kept.of_below {base D : Nat} {w w' : World} (hb : base ≤ w.heap.size) (h : Below w.heap.size w w') : Kept base D w w' :=
 ⟨h.mono hb, fun b o _ ho _ => by rw [h.block b (Array.getElem?_eq_some_iff.1 ho).1]; exact ho⟩
theorem Kept.alloc {base D : Nat} (w : World) (hb : base ≤ w.heap.size) (o : Obj) : Kept base D w (w.alloc o) := .of_below hb (below_a1 w o)
theorem Kept.setCell {base D : Nat} (w : World) {b o : Nat} (h1 : base ≤ b) (h2 : b < D) (u : Value) : Kept base D w (w.setCell ⟨b, o, none⟩ u) :=
 ⟨(Below.refl _ _).setCell (p := ⟨b, o, none⟩) h1 _, fun i o' hi ho _ => by rw [Below.heap_setCell _ _ _ _ (show i ≠ b by omega)]; exact ho⟩
theorem cells_of_cell {w : World} {b o : Nat} {v : Value} (h : w.cell? ⟨b, o, none⟩ = some v) : ∃ ob, w.heap[b]? = some ob ∧ ob.isCells = true := by
 unfold World.cell? at h
 cases e : w.heap[b]? with
 | none => simp [e] at h
 | some ob =>
  refine ⟨ob, rfl, ?_⟩
  cases ob <;> simp_all [Obj.isCells]
theorem Kept.cell {base D : Nat} {w w' : World} (h : Kept base D w w') {b o : Nat} {v : Value} (hD : D ≤ b) (hc : w.cell? ⟨b, o, none⟩ = some v) : w'.cell? ⟨b, o, none⟩ = some v := by
 obtain ⟨ob, ho, hq⟩ := cells_of_cell hc
 rw [World.cell?_of_block (w := w) (by rw [ho]; exact h.cells b ob hD ho hq)]
 exact hc
theorem Kept.old {base D : Nat} {w w' : World} (h : Kept base D w w') {b o : Nat} {v : Value} (hb : b < base) (hc : w.cell? ⟨b, o, none⟩ = some v) : w'.cell? ⟨b, o, none⟩ = some v := by
 rw [h.below.cell (p := ⟨b, o, none⟩) hb]; exact hc
abbrev NdW (w0 : World) : Type := { p : Con × Value × Value × Value // RdN w0 p.1 p.2.1 p.2.2.1 p.2.2.2 ∧ p.1.bulk ≤ 2000000 }
def NdW.con {w0 : World} (x : NdW w0) : Con := x.1.1
def NdW.enc {w0 : World} (x : NdW w0) : Array Value := #[x.1.1.val x.1.2.1 x.1.2.2.1 x.1.2.2.2]
def RoundOk (w0 : World) (F : Fence) (l D M : Nat) (J Jx : List (NdW w0) → World → Prop) : Prop :=
 ∀ m pre x W, J pre W → pre.length < M → YieldAt F m Tryz.prog l (NdW.enc x) W fun e W' => (e = .returned (.bool true) ∧ J (pre ++ [x]) W' ∧ Kept w0.heap.size D W W') ∨ (e = .returned (.bool false) ∧ Jx (pre ++ [x]) W')
def VisitPost (w0 : World) (D : Nat) (J Jx : List (NdW w0) → World → Prop) (pre : List (NdW w0)) (ns : List Con) (W : World) (e : Ending) (W' : World) : Prop :=
 (e = .returned (.bool true) ∧ ∃ xs, xs.map NdW.con = ns ∧ J (pre ++ xs) W' ∧ Kept w0.heap.size D W W') ∨ (e = .returned (.bool false) ∧ ∃ xs, xs.map NdW.con <+: ns ∧ Jx (pre ++ xs) W')
set_option maxHeartbeats 4000000 in
set_option maxRecDepth 100000 in
theorem cvisit_in (w0 : World) (F : Fence) (hd : F.depth = none) (hF : F.fn 87) (hro : F.round = none) (l D M : Nat) (hD : w0.heap.size ≤ D) (J Jx : List (NdW w0) → World → Prop)
  (hJa : ∀ pre W o, J pre W → J pre (W.alloc o)) (hY : RoundOk w0 F l D M J Jx) :
  ∀ (N n : Nat) (c : Con) (es dd ss : Value) (pre : List (NdW w0)) (W : World), c.bulk ≤ N → c.bulk ≤ 2000000 → RdN w0 c es dd ss → Below w0.heap.size w0 W → D ≤ W.heap.size → J pre W → pre.length + c.nodes.length ≤ M →
   CallsIn F n Tryz.prog 87 #[c.val es dd ss, .func (.yield l) #[] #[]] W (VisitPost w0 D J Jx pre c.nodes W) := by
 intro N
 induction N with
 | zero =>
  intro n c es dd ss pre W h0
  rw [Con.bulk_eq] at h0
  omega
 | succ N ih =>
  intro n c es dd ss pre W hN hB hr hbW hDW hJ hM
  obtain ⟨ad, cap, rfl⟩ := hr.2.2.1.len
  obtain ⟨ad1, cap1, rfl⟩ := hr.1.len
  obtain ⟨ad2, cap2, rfl⟩ := hr.2.1.len
  have hdd : ∀ k : Nat, (F.depth.isSome = true → 1 ≤ k) := fun k h => by rw [hd] at h; cases h
  have hlen := Con.bulks_len c.sub
  have hlt0 := c.sub_lt
  have hn : c.sub.length ≤ 2000000 := by omega
  have HS := Lib.hid hr.2.2.1
  have HI := Lib.hid ih
  have HN := Lib.hid c.nodes_eq
  have HM : Hid (pre.length + (1 + (Con.nodess c.sub).length) ≤ M) := Lib.hid (by rw [c.nodes_eq, List.length_cons] at hM; omega)
  have hM1 : pre.length < M := by have := HM.out; omega
  clear hM
  have hb0 : Kept w0.heap.size D W (W.alloc (.cells #[.int .u8 c.k, .string c.fr, .string c.rc, .string c.nm, .int .u8 c.ex.k, .string c.ex.ra, .string c.ex.nm, .int .i64 c.ex.d, .slice ad1 c.ex.sub.length cap1, .int .i64 c.d, .slice ad2 c.ds.length cap2, .slice ad c.sub.length cap] 29)) := Kept.alloc W (by omega) _
  obtain ⟨x, hxe⟩ : ∃ x : NdW w0, x.1 = (c, .slice ad1 c.ex.sub.length cap1, .slice ad2 c.ds.length cap2, .slice ad c.sub.length cap) := ⟨⟨_, hr, hB⟩, rfl⟩
  have hx1 : x.con = c := congrArg Prod.fst hxe
  have hx2 : NdW.enc x = #[c.val (.slice ad1 c.ex.sub.length cap1) (.slice ad2 c.ds.length cap2) (.slice ad c.sub.length cap)] := by unfold NdW.enc; rw [hxe]
  have hy := hY (n - 1) pre x _ (hJa pre W (.cells #[.int .u8 c.k, .string c.fr, .string c.rc, .string c.nm, .int .u8 c.ex.k, .string c.ex.ra, .string c.ex.nm, .int .i64 c.ex.d, .slice ad1 c.ex.sub.length cap1, .int .i64 c.d, .slice ad2 c.ds.length cap2, .slice ad c.sub.length cap] 29) hJ) hM1
  rw [hx2] at hy
  unfold Con.val at hy ⊢
  obtain ⟨fn, tmps, assign, body, hy, hR⟩ := hy
  have HX := Lib.hid hx1
  have hc11 : (W.alloc (.cells #[.int .u8 c.k, .string c.fr, .string c.rc, .string c.nm, .int .u8 c.ex.k, .string c.ex.ra, .string c.ex.nm, .int .i64 c.ex.d, .slice ad1 c.ex.sub.length cap1, .int .i64 c.d, .slice ad2 c.ds.length cap2, .slice ad c.sub.length cap] 29)).cell? ⟨W.heap.size, 11, none⟩ = some (.slice ad c.sub.length cap) := by go_simp
  clear hr ih hJ hxe hx1 hx2 hM1
  refine callsIn_of_wp Tryz.func87 rfl hF ?_ hro
  simp only [Tryz.ntmps87, List.size_toArray, List.length_cons, List.length_nil, Nat.reduceAdd, Nat.reduceSub, Array.replicate_succ, Array.replicate_zero, List.push_toArray, List.append_toArray, List.nil_append, List.cons_append]
  gi_wp2_with ((try refine ⟨hdd _, ?_⟩); refine hR.mono ?_; clear hR; (rintro e W2 (⟨rfl, hJ2, hk2⟩ | ⟨rfl, hx2⟩) <;> (first | have q11 := hk2.cell hDW hc11 | skip)))
  ·have hk3 := hb0.trans hk2
   have hz3 := hk3.below.size
   have hJ3 : J (pre ++ [x] ++ []) W2 := by rw [List.append_nil]; exact hJ2
   clear hb0 hk2 hJ2 hc11 q11
   gi_loopw [14] (fun i wr => ∃ (k : Nat) (xs : List (NdW w0)), k ≤ c.sub.length ∧ i = .int .i64 (k : Int) ∧ Hid (xs.map NdW.con = Con.nodess (c.sub.take k)) ∧ J (pre ++ [x] ++ xs) wr ∧ Kept w0.heap.size D W wr) (fun i _ => c.sub.length - (intOf i).toNat)
   case atStart => exact ⟨0, [], Nat.zero_le _, rfl, Lib.hid (by simp [Con.nodess]), hJ3, hk3⟩
   case round =>
    clear hJ3 hk3 hz3
    obtain ⟨k, xs, hk, rfl, HXS, hJr, hkr⟩ := hrel
    by_cases hlt : k < c.sub.length
    ·obtain ⟨y, hyk⟩ : ∃ y, c.sub[k]? = some y := ⟨_, List.getElem?_eq_getElem hlt⟩
     obtain ⟨b, off, es', dd', ss', rfl, ⟨c0, c1, c2, c3, c4, c5, c6, c7, c8, c9, c10, c11⟩, hs0⟩ := HS.out.cells hyk
     have hbr := hbW.trans hkr.below
     have hzr := hkr.below.size
     have lift : ∀ o u, w0.cell? ⟨b, o, none⟩ = some u → wr.cell? ⟨b, o, none⟩ = some u := fun o u h => by
      rw [hbr.cell (p := ⟨b, o, none⟩) (World.block_lt_of_cell? w0 _ h)]; exact h
     replace c0 := lift _ _ c0
     replace c1 := lift _ _ c1
     replace c2 := lift _ _ c2
     replace c3 := lift _ _ c3
     replace c4 := lift _ _ c4
     replace c5 := lift _ _ c5
     replace c6 := lift _ _ c6
     replace c7 := lift _ _ c7
     replace c8 := lift _ _ c8
     replace c9 := lift _ _ c9
     replace c10 := lift _ _ c10
     replace c11 := lift _ _ c11
     clear lift
     obtain ⟨ad', cap', rfl⟩ := hs0.2.2.1.len
     obtain ⟨ad1', cap1', rfl⟩ := hs0.1.len
     obtain ⟨ad2', cap2', rfl⟩ := hs0.2.1.len
     have hym := Con.mem_lt (List.mem_of_getElem? hyk)
     have hblk : b < wr.heap.size := World.block_lt_of_cell? wr _ c0
     have hk1 : (0 : Int) ≤ (k : Int) := by omega
     have hk2 : (k : Int) < (c.sub.length : Int) := by omega
     have hw0 := hbW.size
     have hka : Kept w0.heap.size D wr (wr.alloc (.cells #[.int .u8 y.k, .string y.fr, .string y.rc, .string y.nm, .int .u8 y.ex.k, .string y.ex.ra, .string y.ex.nm, .int .i64 y.ex.d, .slice ad1' y.ex.sub.length cap1', .int .i64 y.d, .slice ad2' y.ds.length cap2', .slice ad' y.sub.length cap'] 29)) := Kept.alloc wr (by omega) _
     have HSn := Lib.hid (Con.nodess_snoc hyk)
     have HSt := Lib.hid (Con.nodess_take hyk)
     have hMy : (pre ++ [x] ++ xs).length + y.nodes.length ≤ M := by
      obtain ⟨r, hr⟩ := HSt.out
      have h1 := congrArg List.length hr
      have h2 := congrArg List.length HXS.out
      have h3 := HM.out
      simp only [List.length_append, List.length_map, List.length_cons, List.length_nil] at h1 h2 ⊢
      omega
     have HC := Lib.hid (HI.out (n - 1) y _ _ _ (pre ++ [x] ++ xs) _ (by omega) (by omega) hs0 (hbr.trans hka.below) (by have := hka.below.size; omega) (hJa _ _ (.cells #[.int .u8 y.k, .string y.fr, .string y.rc, .string y.nm, .int .u8 y.ex.k, .string y.ex.ra, .string y.ex.nm, .int .i64 y.ex.d, .slice ad1' y.ex.sub.length cap1', .int .i64 y.d, .slice ad2' y.ds.length cap2', .slice ad' y.sub.length cap'] 29) hJr) hMy)
     have HKA := Lib.hid (hkr.trans hka)
     unfold Con.val at HC
     clear hyk hym hs0 hka hbr hw0 hMy
     gi_wp2_with ((try refine ⟨hdd _, ?_⟩); gi_at_call 87; refine HC.out.mono ?_; clear HC; rintro e W3 (⟨rfl, ys, hys, hJ3, hk3⟩ | ⟨rfl, ys, hys, hx3⟩))
     ·have HXS2 : Hid ((xs ++ ys).map NdW.con = Con.nodess (c.sub.take (k + 1))) := Lib.hid (by rw [List.map_append, HXS.out, hys, HSn.out])
      have HJ3 : Hid (J (pre ++ [x] ++ (xs ++ ys)) W3) := Lib.hid (by rw [← List.append_assoc]; exact hJ3)
      have HK3 := Lib.hid (HKA.out.trans hk3)
      clear hys hJ3 hk3 HXS HSn HSt HKA hkr hJr
      gi_wp2
      go_roundw
      case rel => exact ⟨k + 1, xs ++ ys, by omega, by go_num, HXS2, HJ3.out, HK3.out⟩
      case measure => simp [intOf]; omega
     ·have HF : Hid (VisitPost w0 D J Jx pre c.nodes W (.returned (.bool false)) W3) := by
       refine .inr ⟨rfl, [x] ++ (xs ++ ys), ?_, by rw [← List.append_assoc, ← List.append_assoc]; exact hx3⟩
       obtain ⟨r, hr⟩ := hys
       obtain ⟨r2, hr2⟩ := HSt.out
       rw [HN.out, hr2, ← hr, List.map_append, List.map_append, HXS.out]
       exact ⟨r ++ r2, by simp [HX.out]⟩
      clear hys hx3 HXS HSn HSt HKA hkr hJr
      gi_wp2
      go_ret
      exact HF.out
    ·obtain rfl : k = c.sub.length := by omega
     have HF : Hid (VisitPost w0 D J Jx pre c.nodes W (.returned (.bool true)) wr) := by
      refine .inl ⟨rfl, [x] ++ xs, ?_, by rw [← List.append_assoc]; exact hJr, hkr⟩
      have h := HXS.out
      rw [List.take_length] at h
      rw [HN.out, List.map_append, h]
      simp [HX.out]
     gi_wp2
     go_ret
     exact HF.out
  ·have HF : Hid (VisitPost w0 D J Jx pre c.nodes W (.returned (.bool false)) W2) := by
    refine .inr ⟨rfl, [x], ?_, hx2⟩
    rw [HN.out]
    exact ⟨Con.nodess c.sub, by simp [HX.out]⟩
   clear hx2 hc11
   gi_wp2
   go_ret
   exact HF.out
set_option maxHeartbeats 1000000 in
set_option maxRecDepth 100000 in
theorem cnodes_any (c : Con) (es dd ss : Value) (w : World) : Calls Tryz.prog 67 #[c.val es dd ss] w fun e w' => e = .returned (.func (.func 86) #[] #[.pointer (some ⟨w.heap.size, 0, none⟩)]) ∧ w' = w.alloc (.cells #[.int .u8 c.k, .string c.fr, .string c.rc, .string c.nm, .int .u8 c.ex.k, .string c.ex.ra, .string c.ex.nm, .int .i64 c.ex.d, es, .int .i64 c.d, dd, ss] 29) := by
 unfold Con.val
 go_enter Tryz.func67, Tryz.ntmps67
 go_wp2_with fail
 go_ret
 exact ⟨rfl, rfl⟩
set_option maxHeartbeats 2000000 in
set_option maxRecDepth 100000 in
theorem cnodes_stops (w0 : World) (F : Fence) (hd : F.depth = none) (hF : F.fn 87) (hF1 : F.fn 86) (hro : F.round = none) (n : Nat) (c : Con) (es dd ss : Value) (w : World) (hB : c.bulk ≤ 2000000) (hr : RdN w0 c es dd ss) (hbw : Below w0.heap.size w0 w) (B : Nat)
  (hc : CBox w B c es dd ss) :
  SeqStopsK F n Tryz.prog 86 #[.pointer (some ⟨B, 0, none⟩)] (NdW.enc (w0 := w0)) (Kept w0.heap.size w.heap.size) (fun xs => xs.map NdW.con = c.nodes) (fun xs => xs.map NdW.con <+: c.nodes) c.nodes.length w := by
 intro l J Jx W hW hJ hJx hY h0
 have hz := hbw.size
 have hV := cvisit_in w0 F hd hF hro l w.heap.size c.nodes.length hz J Jx (fun pre W o h => hJ pre W (W.alloc o) none h (World.grownBy_alloc W o none) (fun r e => by cases e))
  (fun m pre x W1 hJ1 hl => YieldAt.anyDepth hd m (hY pre x W1 hJ1 hl)) c.bulk (n - 1) c es dd ss [] W (Nat.le_refl _) hB hr (hbw.trans (hW.mono hz)) hW.size h0 (by simp)
 obtain ⟨c0, c1, c2, c3, c4, c5, c6, c7, c8, c9, c10, c11⟩ := hc.low hW
 have hBl := World.block_lt_of_cell? W _ c0
 have hdd : ∀ k : Nat, (F.depth.isSome = true → 1 ≤ k) := fun k h => by rw [hd] at h; cases h
 obtain ⟨ad, cap, rfl⟩ := hr.2.2.1.len
 obtain ⟨ad1, cap1, rfl⟩ := hr.1.len
 obtain ⟨ad2, cap2, rfl⟩ := hr.2.1.len
 have HV := Lib.hid hV
 unfold Con.val at HV
 clear hV hr hc hY hJ hJx h0
 show CallsIn F n Tryz.prog 86 #[.func (.yield l) #[] #[], .pointer (some ⟨B, 0, none⟩)] W _
 refine callsIn_of_wp Tryz.func86 rfl hF1 ?_ hro
 simp only [Tryz.ntmps86, List.size_toArray, List.length_cons, List.length_nil, Nat.reduceAdd, Nat.reduceSub, Array.replicate_succ, Array.replicate_zero, List.push_toArray, List.append_toArray, List.nil_append, List.cons_append]
 gi_wp2_with ((try refine ⟨hdd _, ?_⟩); gi_at_call 87; refine HV.out.mono ?_; clear HV; rintro e W3 (⟨rfl, ys, hys, hJ3, hk3⟩ | ⟨rfl, ys, hys, hx3⟩))
 ·go_end0
  exact ⟨⟨_, rfl⟩, .inl ⟨ys, hys, by simpa using hJ3⟩⟩
 ·go_end0
  exact ⟨⟨_, rfl⟩, .inr ⟨ys, hys, by simpa using hx3⟩⟩
end Go.Proofs.YtkonookacfmfgaaGreatDoor
