/-
  Arguments opened: a contract as a tree that can be read. What the listed variables give: the two tables, in this world and in every later one.
-/
import Derived.Test.YtkonookacfmfgaaGreatDoorC41
import Derived.Test.YtkonookacfmfgaaGreatDoorC01
import Derived.Test.YtkonookacfmfgaaGreatDoorC37
import Derived.Test.YtkonookacfmfgaaGreatDoorC36
import Derived.Test.YtkonookacfmfgaaGreatDoorRows
import Derived.Maps.Keyed
import Derived.Laws.IdiomMaps
import Derived.LaidMore
import Derived.MakeChecks
import Derived.OpenShut
import Derived.WalkArith
import Derived.ProofKit
import Derived.Deep.Slices
namespace Go.Proofs.YtkonookacfmfgaaGreatDoor
open Go.RowKit Go.ChangeShapes Go.WideShapes Go.Deep
theorem arr5 {α : Type} {l : List α} (h : l.length = 5) : ∃ a b c d e, l = [a, b, c, d, e] := by
 match l, h with
 | [a, b, c, d, e], _ => exact ⟨a, b, c, d, e, rfl⟩
theorem arr8 {α : Type} {l : List α} (h : l.length = 8) : ∃ a b c d e f g i, l = [a, b, c, d, e, f, g, i] := by
 match l, h with
 | [a, b, c, d, e, f, g, i], _ => exact ⟨a, b, c, d, e, f, g, i, rfl⟩
theorem arr12 {α : Type} {l : List α} (h : l.length = 12) : ∃ a b c d e f g i j k m n, l = [a, b, c, d, e, f, g, i, j, k, m, n] := by
 match l, h with
 | [a, b, c, d, e, f, g, i, j, k, m, n], _ => exact ⟨a, b, c, d, e, f, g, i, j, k, m, n, rfl⟩
theorem cells_u8 : Tryz.prog.cellsOf 5 = 1 := by kernel_rfl
theorem cells_ex : Tryz.prog.cellsOf 25 = 5 := by kernel_rfl
theorem cells_con : Tryz.prog.cellsOf 29 = 12 := by kernel_rfl
theorem cells_exs : Tryz.prog.cellsOf 23 = 1 := by kernel_rfl
theorem cells_cons : Tryz.prog.cellsOf 27 = 1 := by kernel_rfl
theorem cells_ints : Tryz.prog.cellsOf 26 = 1 := by kernel_rfl
theorem u8_nat {k : Int} (h : (Lit.int .u8 k).wf = true) : ∃ n : Nat, k = (n : Int) ∧ n < 256 := by
 have h : (decide ((0 : Int) ≤ k) && decide (k ≤ (255 : Int))) = true := h
 simp only [Bool.and_eq_true, decide_eq_true_eq] at h
 refine ⟨k.toNat, ?_, ?_⟩ <;> omega
section
variable {H : Type} {enc : TypeId × Value → H} {w : World} {sp : Nat → Bool} {held : Bool}
theorem open_row {t e : TypeId} {m : Nat} (hm : 0 < m) {fuel : Nat} {v : Value} {y : DataW H × List MemPlace} (ht : Tryz.prog.underlying t = some (.slice e)) (hc : Tryz.prog.cellsOf e = m)
  (h : DataW.trod enc Tryz.prog w 0 sp held fuel t [v] = some y) :
  ∃ (ad : Option Addr) (cap : Nat) (D : List (DataW H)) (n : Nat), n + 1 ≤ fuel ∧ v = .slice ad D.length cap ∧ (D.length ≤ cap ∧ (ad = none → cap = 0)) ∧ Rows.uptoBulkAll D + 1 ≤ Rows.uptoBulk y.1 ∧
   ∀ i, i < D.length → ∃ (a : Addr) (cs : List Value) (z : DataW H × List MemPlace), ad = some a ∧ a.spot = none ∧ cs.length = m ∧ (∀ k, k < m → w.cell? (a.add (i * m + k)) = cs[k]?) ∧ DataW.trod enc Tryz.prog w 0 sp held n e cs = some z ∧ D[i]? = some z.1 := by
 rcases DataW.trod_slice ht h with ⟨h0, hy⟩ | ⟨a, len, cap, elems, rest, n, hf, hcs, hy, hb, hl, hmx, hlen, hel, _, _⟩
 ·simp at h0
  subst hy
  refine ⟨none, 0, [], 0, ?_, h0, ⟨Nat.le_refl _, fun _ => rfl⟩, by simp [Rows.uptoBulkAll, Rows.uptoBulk], fun i hi => absurd hi (Nat.not_lt_zero _)⟩
  cases fuel with
  | zero => simp [DataW.trod] at h
  | succ n => omega
 ·simp at hcs
  refine ⟨some a, cap, elems.map (·.1), n, by omega, by rw [List.length_map, hlen]; exact hcs, ⟨by rw [List.length_map, hlen]; exact hl, fun h => by cases h⟩, ?_, fun i hi => ?_⟩
  ·rw [hy]; simp only [Rows.uptoBulk]; omega
  ·rw [List.length_map, hlen] at hi
   have h1 := hel i hi
   rw [List.getElem?_eq_getElem (by omega)] at h1
   obtain ⟨cs, h2, h3⟩ := Option.bind_eq_some_iff.1 h1
   rw [hc] at h2
   obtain ⟨_, h4, h5⟩ := World.cells?_some h2
   have ha : ∀ k, (a.add (i * m)).add k = a.add (i * m + k) := fun k => by
    simp only [Addr.add]
    split <;> split <;> simp_all <;> omega
   refine ⟨a, cs, _, rfl, ?_, h4, fun k hk => ?_, h3, ?_⟩
   ·have g1 := hel 0 (by omega)
    rw [List.getElem?_eq_getElem (by omega)] at g1
    obtain ⟨cs0, g2, _⟩ := Option.bind_eq_some_iff.1 g1
    rw [hc] at g2
    obtain ⟨_, g4, g5⟩ := World.cells?_some g2
    have g6 := g5 0 hm
    rw [List.getElem?_eq_getElem (by omega), Nat.zero_mul, show (a.add 0).add 0 = a from rfl] at g6
    simp only [World.cell?] at g6
    cases hsp : a.spot with
    | none => rfl
    | some q => rw [hsp] at g6; simp at g6; split at g6 <;> simp at g6
   ·rw [← h5 k hk, ha]
   ·rw [List.getElem?_map, List.getElem?_eq_getElem (by omega)]; rfl
theorem bulks_le {α : Type} (f : α → Nat) (g : List α → Nat) (g0 : g [] = 0) (g1 : ∀ x l, g (x :: l) = f x + g l) : ∀ (l : List α) (D : List (DataW H)), l.length = D.length → (∀ (i : Nat) (x : α) (d : DataW H), l[i]? = some x → D[i]? = some d → f x ≤ Rows.uptoBulk d) → g l ≤ Rows.uptoBulkAll D
 | [], _, _, _ => by rw [g0]; exact Nat.zero_le _
 | x :: l, [], h, _ => by simp at h
 | x :: l, d :: D, h, k => by
  rw [g1]
  simp only [Rows.uptoBulkAll]
  have h1 := k 0 x d rfl rfl
  have h2 := bulks_le f g g0 g1 l D (by simpa using h) fun i y e hy he => k (i + 1) y e (by simpa using hy) (by simpa using he)
  omega
def IsEx (w : World) (cs : List Value) (d : DataW H) : Prop := ∃ (x : Ex) (s : Value), cs = x.cells s ∧ x.k < 256 ∧ RdE w x.sub s ∧ x.bulk ≤ Rows.uptoBulk d
theorem addr_spot {a : Addr} (h : a.spot = none) (k : Nat) : a.add k = ⟨a.block, a.off + k, none⟩ := by
 cases a; simp at h; subst h; simp [Addr.add]
theorem rdE_of {t : TypeId} {fuel : Nat} {v : Value} {y : DataW H × List MemPlace} (ht : Tryz.prog.underlying t = some (.slice 25))
  (ih : ∀ n < fuel, ∀ cs (z : DataW H × List MemPlace), cs.length = 5 → DataW.trod enc Tryz.prog w 0 sp held n 25 cs = some z → IsEx w cs z.1)
  (h : DataW.trod enc Tryz.prog w 0 sp held fuel t [v] = some y) : ∃ l, RdE w l v ∧ Ex.bulks l + 1 ≤ Rows.uptoBulk y.1 := by
 obtain ⟨ad, cap, D, n, hn, rfl, hcap, hb, hel⟩ := open_row (m := 5) (by decide) ht cells_ex h
 obtain ⟨l, hll, hq⟩ := list_of (α := Ex × Value) (Q := fun i p => p.1.k < 256 ∧ RdE w p.1.sub p.2 ∧ (∃ a, ad = some a ∧ a.spot = none ∧ ∀ k, k < 5 → w.cell? (a.add (i * 5 + k)) = (p.1.cells p.2)[k]?) ∧ ∀ d, D[i]? = some d → p.1.bulk ≤ Rows.uptoBulk d) D.length fun i hi => by
  obtain ⟨a, cs, z, ha, hs, hlc, hcell, ht, hD⟩ := hel i hi
  obtain ⟨x, s, rfl, h8, hr, hbx⟩ := ih n (by omega) cs z hlc ht
  exact ⟨(x, s), h8, hr, ⟨a, ha, hs, hcell⟩, fun d hd => by rw [hD] at hd; cases hd; exact hbx⟩
 have hlen : (l.map (·.1)).length = D.length := by rw [List.length_map, hll]
 have get : ∀ j x, (l.map (·.1))[j]? = some x → ∃ s, l[j]? = some (x, s) := fun j x hx => by
  rw [List.getElem?_map, Option.map_eq_some_iff] at hx
  obtain ⟨p, hp, rfl⟩ := hx
  exact ⟨p.2, hp⟩
 refine ⟨l.map (·.1), ?_, ?_⟩
 ·rw [← hlen]
  refine .mk ad cap _ (fun j => (l[j]?.map (·.2)).getD default) (fun j x hx => ?_) (fun j x hx => ?_)
  ·obtain ⟨s, hp⟩ := get j x hx
   obtain ⟨h8, hr, ⟨a, ha, hs, hcell⟩, _⟩ := hq j _ hp
   have hc : ∀ k, k < 5 → w.cell? ⟨a.block, a.off + j * 5 + k, none⟩ = (x.cells s)[k]? := fun k hk => by
    rw [← hcell k hk, addr_spot hs, Nat.add_assoc]
   refine ⟨h8, a.block, a.off, ?_, hc 0 (by decide), hc 1 (by decide), hc 2 (by decide), hc 3 (by decide), ?_⟩
   ·rw [ha]; cases a; simp at hs; subst hs; rfl
   ·rw [hp]; exact hc 4 (by decide)
  ·obtain ⟨s, hp⟩ := get j x hx
   rw [hp]
   exact (hq j _ hp).2.1
 ·have := bulks_le Ex.bulk Ex.bulks rfl (fun _ _ => rfl) (l.map (·.1)) D hlen fun i x d hx hd => by
   obtain ⟨s, hp⟩ := get i x hx
   exact (hq i _ hp).2.2.2 d hd
  omega
theorem dec_ex : ∀ (n : Nat) (cs : List Value) (z : DataW H × List MemPlace), cs.length = 5 → DataW.trod enc Tryz.prog w 0 sp held n 25 cs = some z → IsEx w cs z.1 := by
 intro n
 induction n using Nat.strongRecOn with
 | ind n ih =>
  intro cs z hl h
  obtain ⟨c0, c1, c2, c3, c4, rfl⟩ := arr5 hl
  obtain ⟨xs, n', hn, hz, _, hxl, hf⟩ := DataW.trod_struct Tryz.underlying25 h
  obtain ⟨y0, y1, y2, y3, y4, rfl⟩ := arr5 hxl
  have h0 := hf 0 _ rfl
  have h1 := hf 1 _ rfl
  have h2 := hf 2 _ rfl
  have h3 := hf 3 _ rfl
  have h4 := hf 4 _ rfl
  simp [cells_string, cells_int, cells_rat, cells_u8, cells_exs] at h0 h1 h2 h3 h4
  obtain ⟨k, hk, rfl, hw⟩ := DataW.trod_int Tryz.underlying5 h0
  obtain ⟨r, hr, rfl, _⟩ := DataW.trod_string Tryz.underlying22 h1
  obtain ⟨s, hs, rfl, _⟩ := DataW.trod_string Tryz.underlying9 h2
  obtain ⟨d, hd, rfl, _⟩ := DataW.trod_int Tryz.underlying3 h3
  simp at hk hr hs hd
  subst hk hr hs hd
  obtain ⟨k, rfl, hk8⟩ := u8_nat hw
  obtain ⟨l, hrd, hb⟩ := rdE_of Tryz.underlying23 (fun m hm => ih m (by omega)) h4
  refine ⟨.mk k r s d l, c4, rfl, hk8, hrd, ?_⟩
  rw [hz, Ex.bulk_eq]
  simp [Rows.uptoBulk, Rows.uptoBulkAll]
  have e1 : r.data.size = r.size := rfl
  have e2 : s.data.size = s.size := rfl
  have e3 : (Ex.mk k r s d l).ra = r := rfl
  have e4 : (Ex.mk k r s d l).nm = s := rfl
  have e5 : (Ex.mk k r s d l).sub = l := rfl
  rw [e3, e4, e5]
  omega
theorem rdI_of {t : TypeId} {fuel : Nat} {v : Value} {y : DataW H × List MemPlace} (ht : Tryz.prog.underlying t = some (.slice 3))
  (h : DataW.trod enc Tryz.prog w 0 sp held fuel t [v] = some y) : ∃ l, RdI w l v ∧ l.length + 1 ≤ Rows.uptoBulk y.1 := by
 obtain ⟨ad, cap, D, n, hn, rfl, hcap, hb, hel⟩ := open_row (m := 1) (by decide) ht cells_int h
 obtain ⟨l, hll, hq⟩ := list_of (α := Int) (Q := fun i d => ∃ a, ad = some a ∧ a.spot = none ∧ w.cell? (a.add (i * 1 + 0)) = some (.int .i64 d)) D.length fun i hi => by
  obtain ⟨a, cs, z, ha, hs, hlc, hcell, ht, hD⟩ := hel i hi
  obtain ⟨d, rfl, _, _⟩ := DataW.trod_int Tryz.underlying3 ht
  exact ⟨d, a, ha, hs, hcell 0 (by decide)⟩
 have := bulk_length D
 obtain ⟨hcap, hnil⟩ := hcap
 refine ⟨l, ⟨ad, cap, by rw [hll], ⟨by omega, hnil⟩, fun j d hj => ?_⟩, by omega⟩
 obtain ⟨a, ha, hs, hc⟩ := hq j d hj
 refine ⟨a.block, a.off, ?_, ?_⟩
 ·rw [ha]; cases a; simp at hs; subst hs; rfl
 ·rw [addr_spot hs, Nat.mul_one, Nat.add_zero] at hc; exact hc
def IsCon (w : World) (cs : List Value) (d : DataW H) : Prop := ∃ (x : Con) (es dd ss : Value), cs = x.cells es dd ss ∧ RdN w x es dd ss ∧ x.bulk ≤ Rows.uptoBulk d
theorem rdC_of {t : TypeId} {fuel : Nat} {v : Value} {y : DataW H × List MemPlace} (ht : Tryz.prog.underlying t = some (.slice 29))
  (ih : ∀ n < fuel, ∀ cs (z : DataW H × List MemPlace), cs.length = 12 → DataW.trod enc Tryz.prog w 0 sp held n 29 cs = some z → IsCon w cs z.1)
  (h : DataW.trod enc Tryz.prog w 0 sp held fuel t [v] = some y) : ∃ l, RdC w l v ∧ Con.bulks l + 1 ≤ Rows.uptoBulk y.1 := by
 obtain ⟨ad, cap, D, n, hn, rfl, hcap, hb, hel⟩ := open_row (m := 12) (by decide) ht cells_con h
 obtain ⟨l, hll, hq⟩ := list_of (α := Con × Value × Value × Value) (Q := fun i p => RdN w p.1 p.2.1 p.2.2.1 p.2.2.2 ∧ (∃ a, ad = some a ∧ a.spot = none ∧ ∀ k, k < 12 → w.cell? (a.add (i * 12 + k)) = (p.1.cells p.2.1 p.2.2.1 p.2.2.2)[k]?) ∧ ∀ d, D[i]? = some d → p.1.bulk ≤ Rows.uptoBulk d) D.length fun i hi => by
  obtain ⟨a, cs, z, ha, hs, hlc, hcell, ht, hD⟩ := hel i hi
  obtain ⟨x, es, dd, ss, rfl, hr, hbx⟩ := ih n (by omega) cs z hlc ht
  exact ⟨(x, es, dd, ss), hr, ⟨a, ha, hs, hcell⟩, fun d hd => by rw [hD] at hd; cases hd; exact hbx⟩
 have hlen : (l.map (·.1)).length = D.length := by rw [List.length_map, hll]
 have get : ∀ j x, (l.map (·.1))[j]? = some x → ∃ s, l[j]? = some (x, s) := fun j x hx => by
  rw [List.getElem?_map, Option.map_eq_some_iff] at hx
  obtain ⟨p, hp, rfl⟩ := hx
  exact ⟨p.2, hp⟩
 refine ⟨l.map (·.1), ?_, ?_⟩
 ·rw [← hlen]
  refine .mk ad cap _ (fun j => (l[j]?.map (·.2.1)).getD default) (fun j => (l[j]?.map (·.2.2.1)).getD default) (fun j => (l[j]?.map (·.2.2.2)).getD default) (fun j x hx => ?_) (fun j x hx => ?_) (fun j x hx => ?_) (fun j x hx => ?_)
  ·obtain ⟨s, hp⟩ := get j x hx
   obtain ⟨hr, ⟨a, ha, hs, hcell⟩, _⟩ := hq j _ hp
   refine ⟨hr.2.2.2, a.block, a.off, ?_, fun i u hu => ?_⟩
   ·rw [ha]; cases a; simp at hs; subst hs; rfl
   ·have hi : i < 12 := (List.getElem?_eq_some_iff.1 hu).1
    rw [hp] at hu
    rw [Nat.add_assoc, ← addr_spot hs, hcell i hi]
    exact hu
  ·obtain ⟨s, hp⟩ := get j x hx
   rw [hp]
   exact (hq j _ hp).1.1
  ·obtain ⟨s, hp⟩ := get j x hx
   rw [hp]
   exact (hq j _ hp).1.2.1
  ·obtain ⟨s, hp⟩ := get j x hx
   rw [hp]
   exact (hq j _ hp).1.2.2.1
 ·have := bulks_le Con.bulk Con.bulks rfl (fun _ _ => rfl) (l.map (·.1)) D hlen fun i x d hx hd => by
   obtain ⟨s, hp⟩ := get i x hx
   exact (hq i _ hp).2.2 d hd
  omega
theorem dec_con : ∀ (n : Nat) (cs : List Value) (z : DataW H × List MemPlace), cs.length = 12 → DataW.trod enc Tryz.prog w 0 sp held n 29 cs = some z → IsCon w cs z.1 := by
 intro n
 induction n using Nat.strongRecOn with
 | ind n ih =>
  intro cs z hl h
  obtain ⟨c0, c1, c2, c3, c4, c5, c6, c7, c8, c9, c10, c11, rfl⟩ := arr12 hl
  obtain ⟨xs, n', hn, hz, _, hxl, hf⟩ := DataW.trod_struct Tryz.underlying29 h
  obtain ⟨y0, y1, y2, y3, y4, y5, y6, y7, rfl⟩ := arr8 hxl
  have h0 := hf 0 _ rfl
  have h1 := hf 1 _ rfl
  have h2 := hf 2 _ rfl
  have h3 := hf 3 _ rfl
  have h4 := hf 4 _ rfl
  have h5 := hf 5 _ rfl
  have h6 := hf 6 _ rfl
  have h7 := hf 7 _ rfl
  simp [cells_string, cells_int, cells_u8, cells_ex, cells_ints, cells_cons] at h0 h1 h2 h3 h4 h5 h6 h7
  obtain ⟨k, hk, rfl, hw⟩ := DataW.trod_int Tryz.underlying5 h0
  obtain ⟨f, hff, rfl, _⟩ := DataW.trod_string Tryz.underlying9 h1
  obtain ⟨r, hr, rfl, _⟩ := DataW.trod_string Tryz.underlying9 h2
  obtain ⟨s, hs, rfl, _⟩ := DataW.trod_string Tryz.underlying9 h3
  obtain ⟨x, es, hx, hx8, hxr, hxb⟩ := dec_ex _ _ _ rfl h4
  obtain ⟨d, hd, rfl, _⟩ := DataW.trod_int Tryz.underlying3 h5
  obtain ⟨ds, hds, hdb⟩ := rdI_of Tryz.underlying26 h6
  obtain ⟨l, hrd, hb⟩ := rdC_of Tryz.underlying27 (fun m hm => ih m (by omega)) h7
  simp at hk hff hr hs hd
  simp [Ex.cells] at hx
  obtain ⟨rfl, rfl, rfl, rfl, rfl⟩ := hx
  subst hk hff hr hs hd
  obtain ⟨k, rfl, hk8⟩ := u8_nat hw
  refine ⟨.mk k f r s x d ds l, c8, c10, c11, rfl, ⟨hxr, hds, hrd, hk8, hx8⟩, ?_⟩
  rw [hz, Con.bulk_eq]
  simp [Rows.uptoBulk, Rows.uptoBulkAll]
  have e1 : f.data.size = f.size := rfl
  have e2 : r.data.size = r.size := rfl
  have e3 : s.data.size = s.size := rfl
  have e4 : (Con.mk k f r s x d ds l).fr = f := rfl
  have e5 : (Con.mk k f r s x d ds l).rc = r := rfl
  have e6 : (Con.mk k f r s x d ds l).nm = s := rfl
  have e7 : (Con.mk k f r s x d ds l).ex = x := rfl
  have e8 : (Con.mk k f r s x d ds l).ds = ds := rfl
  have e9 : (Con.mk k f r s x d ds l).sub = l := rfl
  rw [e4, e5, e6, e7, e8, e9]
  omega
end
end Go.Proofs.YtkonookacfmfgaaGreatDoor

namespace Go.Proofs.YtkonookacfmfgaaGreatDoor
open Go.Deep Go.ChangeShapes Go.WideShapes Go.ChangeAt Go.WideMaps Go.WideElems Go.RowKit Go.Maps
theorem g_parts : Tryz.prog.globalNamed "novation/contract.parts" = some 0 := by kernel_rfl
theorem g_shapes : Tryz.prog.globalNamed "novation/observable.shapes" = some 1 := by kernel_rfl
theorem t_parts : (Tryz.prog.globals[0]?).map (·.type) = some 121 := by kernel_rfl
theorem t_shapes : (Tryz.prog.globals[1]?).map (·.type) = some 169 := by kernel_rfl
theorem keyed_u8 : Keyed Tryz.prog 5 := int_keyed Tryz.underlying5
theorem zero_int (w : World) : (zeroValue 3).run Tryz.prog w = .ok (.int .i64 0) w := by kernel_rfl
theorem zero_shape (w : World) : (zeroValue 167).run Tryz.prog w = .ok (.agg #[.slice none 0 0, .int .u8 0]) w := by kernel_rfl
theorem key_u8 {k : Nat} (hk : k < 256) : keyOf Tryz.prog 5 (.int .u8 (k : Int)) = some (.int .u8 (k : Int)) :=
 keyOf_int_mk Tryz.underlying5 (WalkArith.wf_u8 (by omega))
theorem parts_at (k : Nat) (z : DataW Unit) : (Rows.laid_novation_contract_parts).atKey (.int .u8 (k : Int)) z = match partOf k with | none => z | some m => .lit (.int .i64 (m : Int)) := by
 match k with
 | 0 | 1 | 2 | 3 | 4 | 5 | 6 | 7 | 8 | 9 | 10 => rfl
 | n + 11 =>
  have e : partOf (n + 11) = none := by
   unfold partOf
   rw [if_neg (by omega), if_neg (by omega), if_neg (by omega), if_neg (by omega), if_neg (by omega), if_neg (by omega), if_neg (by omega), if_neg (by omega), if_neg (by omega)]
  rw [e]
  have hs : ∀ m : Int, m < 11 → (Lit.int .u8 m).sameKey (.int .u8 ((n + 11 : Nat) : Int)) = false := fun m hm => by simp [Lit.sameKey]; omega
  simp only [Rows.laid_novation_contract_parts, DataW.atKey, List.find?_cons, hs _ (show (1 : Int) < 11 by decide), hs _ (show (2 : Int) < 11 by decide), hs _ (show (3 : Int) < 11 by decide), hs _ (show (4 : Int) < 11 by decide), hs _ (show (5 : Int) < 11 by decide), hs _ (show (6 : Int) < 11 by decide), hs _ (show (7 : Int) < 11 by decide), hs _ (show (8 : Int) < 11 by decide), hs _ (show (9 : Int) < 11 by decide), hs _ (show (10 : Int) < 11 by decide), List.find?_nil]
theorem shapes_at (k : Nat) (z : DataW Unit) : (Rows.laid_novation_observable_shapes).atKey (.int .u8 (k : Int)) z = match shapeOf k with | none => z | some (ps, own) => .agg [.slice (ps.map fun p : Nat => .lit (.int .u8 (p : Int))) [], .lit (.int .u8 (own : Int))] := by
 match k with
 | 0 | 1 | 2 | 3 | 4 | 5 | 6 | 7 | 8 | 9 | 10 | 11 | 12 | 13 | 14 | 15 => rfl
 | n + 16 =>
  have e : shapeOf (n + 16) = none := by
   unfold shapeOf
   rw [if_neg (by omega), if_neg (by omega), if_neg (by omega), if_neg (by omega), if_neg (by omega)]
  rw [e]
  have hs : ∀ m : Int, m < 16 → (Lit.int .u8 m).sameKey (.int .u8 ((n + 16 : Nat) : Int)) = false := fun m hm => by simp [Lit.sameKey]; omega
  simp only [Rows.laid_novation_observable_shapes, DataW.atKey, List.find?_cons, hs _ (show (4 : Int) < 16 by decide), hs _ (show (5 : Int) < 16 by decide), hs _ (show (6 : Int) < 16 by decide), hs _ (show (7 : Int) < 16 by decide), hs _ (show (8 : Int) < 16 by decide), hs _ (show (9 : Int) < 16 by decide), hs _ (show (11 : Int) < 16 by decide), hs _ (show (12 : Int) < 16 by decide), hs _ (show (13 : Int) < 16 by decide), hs _ (show (14 : Int) < 16 by decide), hs _ (show (15 : Int) < 16 by decide), List.find?_nil]
theorem addr_at (b o j : Nat) : Addr.add ⟨b, o, none⟩ j = ⟨b, o + j, none⟩ := by
 unfold Addr.add
 split
 ·next h => subst h; rfl
 ·rfl
theorem agg_of_formed {v : Value} (hf : v.formed Tryz.prog 167 = true) : ∃ cs, v = .agg cs ∧ v.cells.toList = cs.toList := by
 cases v with
 | agg cs => exact ⟨cs, rfl, rfl⟩
 | _ => simp [Value.formed, Tryz.underlying167] at hf
set_option maxRecDepth 100000 in
theorem laid_look {W : World} (h : laidMetH Tryz.prog [("novation/observable.shapes", Rows.laid_novation_observable_shapes), ("novation/contract.parts", Rows.laid_novation_contract_parts)] W) : LookS W ∧ LookP W := by
 rw [MakeChecks.laidMetH_plain _ _ _ (by kernel_rfl)] at h
 obtain ⟨ps, ⟨g0, t0, cs0, f0, p0, q0, hg0, ht0, hv0, hd0, ⟨g1, t1, cs1, f1, p1, q1, hg1, ht1, hv1, hd1, _, _⟩, _⟩, _, _⟩ := h
 obtain rfl := Option.some.inj (g_shapes.symm.trans hg0)
 obtain rfl := Option.some.inj (g_parts.symm.trans hg1)
 obtain rfl := Option.some.inj (t_shapes.symm.trans ht0)
 obtain rfl := Option.some.inj (t_parts.symm.trans ht1)
 refine ⟨?_, ?_⟩
 ·rcases open_map Tryz.underlying169 hd0 with ⟨_, hx⟩ | ⟨bm, es, clock, m, _, hcs, hb, _, F, hx⟩
  ·simp [Rows.laid_novation_observable_shapes] at hx
  simp only [Prod.mk.injEq] at hx
  have hcell : W.cell? ⟨1, 0, none⟩ = some (.map (some bm)) := by
   have := World.var?_cell hg0 hv0 0
   rw [Array.eq_one_of_toList hcs] at this
   simpa using this
  refine ⟨bm, hcell, fun W' hB k hk => ?_⟩
  have hb' : W'.heap[bm]? = some (.map es clock) := by rw [hB.block bm (lt_of_block hb)]; exact hb
  rcases fit_look true keyed_u8 Tryz.underlying169 (zero_shape W') hb' F (key_u8 hk) with ⟨hrun, _, hat⟩ | ⟨e0, y, _, _, hrun, hRv, hat, _⟩
  ·have h1 := hat .nil
   rw [← hx.1, shapes_at] at h1
   cases hs : shapeOf k with
   | none => exact hrun
   | some q => rw [hs] at h1; cases h1
  ·have h1 := hat .nil
   rw [← hx.1, shapes_at] at h1
   unfold elemAt at hRv
   split at hRv
   ·rename_i hf
    obtain ⟨cs, hv, hvc⟩ := agg_of_formed hf
    rw [hvc] at hRv
    obtain ⟨xs, n', _, hz, hcl, hxl, hfs⟩ := DataW.trod_struct Tryz.underlying167 hRv
    cases hs : shapeOf k with
    | none => rw [hs] at h1; rw [hz] at h1; cases h1
    | some q =>
     obtain ⟨pl, own⟩ := q
     rw [hs] at h1
     obtain ⟨c0, c1, hc⟩ : ∃ c0 c1, cs.toList = [c0, c1] := arr2 (by rw [hcl]; kernel_rfl)
     rw [hc] at hfs
     obtain ⟨x0, x1, rfl⟩ := arr2 hxl
     have f0 := hfs 0 _ rfl
     have f1 := hfs 1 _ rfl
     have c8s : Tryz.prog.cellsOf 165 = 1 := by kernel_rfl
     have c8 : Tryz.prog.cellsOf 150 = 1 := by kernel_rfl
     simp [c8s, c8] at f0 f1
     rw [hz] at h1
     simp only [List.map_cons, List.map_nil, DataW.agg.injEq, List.cons.injEq, and_true] at h1
     obtain ⟨o, ho, rfl, _⟩ := DataW.trod_int Tryz.underlying150 f1
     have ho' : o = (own : Int) := by have := h1.2; cases this; rfl
     subst ho'
     rcases open_slice Tryz.underlying165 f0 with ⟨_, hy⟩ | ⟨a, len, cap, mm, n, D, Pl, hcs0, _, hl, hmx, hmm, hxx, hi⟩
     ·rw [hy] at h1; cases h1.1
     ·have e1 := h1.1
      rw [hxx] at e1
      injection e1 with e1 e2
      simp at hcs0 ho
      have hlen : pl.length = len := by have := congrArg List.length e1; simpa using this
      have hlm : len ≤ mm := by rw [hmm]; split <;> omega
      have hcell : ∀ (j p : Nat), pl[j]? = some p → W.cell? (a.add j) = some (.int .u8 (p : Int)) := fun j p hj => by
       have hjl := (List.getElem?_eq_some_iff.1 hj).1
       obtain ⟨cs', q1, q2⟩ := hi j (by omega)
       rw [c8, Nat.mul_one] at q1
       obtain ⟨v, hv1, hv2, _⟩ := DataW.trod_int Tryz.underlying150 q2
       have q3 := (World.cells?_some q1).2.2 0 (by decide)
       rw [hv1] at q3
       have q4 := congrArg (fun l => l[j]?) e1
       simp only [List.getElem?_map, hj, Option.map_some] at q4
       rw [List.getElem?_range (by omega)] at q4
       simp only [Option.map_some, Option.some.injEq] at q4
       rw [(Prod.mk.inj hv2).1] at q4
       cases q4
       simpa [Addr.add] using q3
      have hsp : 0 < pl.length → a.spot = none := fun h0 => by
       obtain ⟨p, hp⟩ : ∃ p, pl[0]? = some p := ⟨_, List.getElem?_eq_getElem h0⟩
       have h2 := hcell 0 p hp
       simp only [World.cell?] at h2
       cases hsp : a.spot with
       | none => rfl
       | some k => simp [Addr.add, hsp] at h2; split at h2 <;> simp at h2
      have hpos : 0 < pl.length := by
       unfold shapeOf at hs
       repeat' split at hs
       all_goals first
        | (cases hs; done)
        | (cases hs; decide)
      have hsp := hsp hpos
      obtain ⟨ab, ao, asp⟩ := a
      simp at hsp
      subst hsp
      refine ⟨ab, ao, cap, ?_, fun j p hj => by rw [← addr_at]; exact hcell j p hj⟩
      rw [hrun, hv]
      have : cs = #[c0, c1] := by cases cs; simp at hc; subst hc; rfl
      rw [this, hcs0, ho, hlen]
      rfl
   ·cases hRv
 ·rcases open_map Tryz.underlying121 hd1 with ⟨_, hx⟩ | ⟨bm, es, clock, m, _, hcs, hb, _, F, hx⟩
  ·simp [Rows.laid_novation_contract_parts] at hx
  simp only [Prod.mk.injEq] at hx
  have hcell : W.cell? ⟨0, 0, none⟩ = some (.map (some bm)) := by
   have := World.var?_cell hg1 hv1 0
   rw [Array.eq_one_of_toList hcs] at this
   simpa using this
  refine ⟨bm, hcell, fun W' hB k hk => ?_⟩
  have hb' : W'.heap[bm]? = some (.map es clock) := by rw [hB.block bm (lt_of_block hb)]; exact hb
  rcases fit_look true keyed_u8 Tryz.underlying121 (zero_int W') hb' F (key_u8 hk) with ⟨hrun, _, hat⟩ | ⟨e0, y, _, _, hrun, hRv, hat, _⟩
  ·have h1 := hat .nil
   rw [← hx.1, parts_at] at h1
   cases hs : partOf k with
   | none => exact hrun
   | some q => rw [hs] at h1; cases h1
  ·obtain ⟨r, hr, rfl, _⟩ := elemAt_int Tryz.underlying3 hRv
   have h1 := hat .nil
   rw [← hx.1, parts_at] at h1
   cases hs : partOf k with
   | none => rw [hs] at h1; cases h1
   | some q =>
    rw [hs] at h1
    cases h1
    rw [hr] at hrun
    exact hrun
end Go.Proofs.YtkonookacfmfgaaGreatDoor
