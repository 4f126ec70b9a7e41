/-
  novationref09.Twin: a copy of a contract, in new memory.
-/
import Derived.Test.YtkonookacfmfgaaGreatDoorC09
import Derived.Test.YtkonookacfmfgaaGreatDoorC01
namespace Go.Proofs.YtkonookacfmfgaaGreatDoor
open Go.RowKit
theorem info_con : (Tryz.prog.info? 29).map (fun i => (i.zero, i.size, i.bytes)) = some (some (.agg #[.int .u8 0, .string ⟨#[]⟩, .string ⟨#[]⟩, .string ⟨#[]⟩, .int .u8 0, .string ⟨#[]⟩, .string ⟨#[]⟩, .int .i64 0, .slice none 0 0, .int .i64 0, .slice none 0 0, .slice none 0 0]), 12, 184) := by kernel_rfl
theorem ul_cons : Tryz.prog.underlying 27 = some (.slice 29) := by kernel_rfl
abbrev CoV : Type := Con × (Value × Value × Value)
def conC (p : CoV) : List Value := p.1.cells p.2.1 p.2.2.1 p.2.2.2
theorem conC_len (p : CoV) : (conC p).length = 12 := rfl
def conR (p : CoV) (w : World) : Prop := RdN w p.1 p.2.1 p.2.2.1 p.2.2.2
def conCS (s : Value × Value × Value) : Prop := exCS s.1 ∧ exCS s.2.1 ∧ exCS s.2.2
theorem conC_one (p : CoV) (hp : conCS p.2) : ∀ u ∈ conC p, u.oneCell' = true := by
 obtain ⟨x, s1, s2, s3⟩ := p
 obtain ⟨⟨_, _, _, h1⟩, ⟨_, _, _, h2⟩, _, _, _, h3⟩ := hp
 simp only at h1 h2 h3
 subst h1 h2 h3
 intro u hu
 simp [conC, Con.cells] at hu
 rcases hu with rfl | rfl | rfl | rfl | rfl | rfl | rfl | rfl | rfl | rfl | rfl | rfl <;> rfl
theorem append_some {P : Program} {w w' : World} {t ty e : TypeId} {i : TypeInfo} (ht : P.underlying t = some (.slice e)) (hi : P.info? e = some i) {a0 : Addr} {A ad : Option Addr} {c cap : Nat} (hA : A = none → c = 0)
  (hr : (Builtin.append_ #[t, t] ty #[.slice (some a0) 0 0, .slice A 0 c]).run P w = .ok (.slice ad 0 cap) w') : ad ≠ none := by
 rintro rfl
 cases A with
 | none =>
  obtain rfl := hA rfl
  simp [Builtin.append_, run_underlying ht, sizeOf, typeInfo, hi, Builtin.lenOf, Builtin.firstCells, storeCells] at hr
 | some a => simp [Builtin.append_, run_underlying ht, sizeOf, typeInfo, hi, Builtin.lenOf, Builtin.firstCells, storeCells, loadCells, loadCellsFrom] at hr
theorem wpList_append_empty2 {P : Program} {w : World} {ops : Array Oper} {rest : List Oper} {o : Oper} {a : Act} {Q : Exit → Act → World → Prop} (hgd : o.guard = none) (s x : Operand) (t : TypeId)
  (ho : o.op = .call { callee := .builtin .append, args := #[s, x], argTypes := #[t, t] }) (e : TypeId) (i : TypeInfo) (z : Value) (size bytes : Nat) (ht : P.underlying t = some (.slice e)) (hi : P.info? e = some i) (hz : i.zero = some z)
  (hsize : i.size = size) (hby : i.bytes = bytes) (hsz : 0 < size) (a0 : Addr) (A : Option Addr) (m c : Nat) (news : List Value) (hs : a.eval s = .slice (some a0) 0 0) (hx : a.eval x = .slice A m c) (hl : Sl w (.slice A m c) size m news) (hA : A = none → c = 0)
  (h63 : m ≤ 9223372036854775807) (hbytes : m * bytes ≤ 140737488355328)
  (h : ∀ ad cap w', Sl w' (.slice ad m cap) size m news → (m = 0 ∨ ∃ g, ad = some ⟨g, 0, none⟩ ∧ w.heap.size ≤ g) → ad ≠ none → Below w.heap.size w w' → wpList P ops Q rest (a.put o.dst (.slice ad m cap)) w') :
  wpList P ops Q (o :: rest) a w := by
 refine wpList_plain hgd fun K hK => ?_
 obtain ⟨ad, cap, w', hr, h2, h4, h3⟩ := run_append_empty (P := P) (w := w) t o.type e i z size bytes ht hi hz hsize hby hsz a0 A m c news hl hA h63 hbytes
 have hne : ad ≠ none := by
  rcases h4 with rfl | ⟨g, rfl, _⟩
  ·exact append_some ht hi hA hr
  ·simp
 unfold Oper.wp execOp
 simp only [ho, resolve, invoke, builtin, Sem.run_bind, Sem.run_pure, Result.andThen_ok, List.map_toArray, List.map_cons, List.map_nil, hs, hx, hr]
 exact hK _ _ (h ad cap w' h2 h4 hne ((Below.refl _ _).grown h3 (Nat.le_refl _) (by simp)))
theorem RdI.sl {w : World} {l : List Int} {ad : Option Addr} {n cap : Nat} (h : RdI w l (.slice ad n cap)) : Sl w (.slice ad n cap) 1 n (l.map fun d => .int .i64 d) ∧ (ad = none → cap = 0) := by
 obtain ⟨_, _, e, ⟨h1, h2⟩, h3⟩ := h
 cases e
 refine ⟨⟨_, _, rfl, h1, by simp, ?_⟩, h2⟩
 cases l with
 | nil => exact .inl rfl
 | cons d r =>
  obtain ⟨b, off, rfl, _⟩ := h3 0 d rfl
  refine .inr ⟨b, off, rfl, fun j u hj => ?_⟩
  rw [List.getElem?_map] at hj
  cases hd : (d :: r)[j]? with
  | none => rw [hd] at hj; cases hj
  | some x =>
   rw [hd] at hj
   cases hj
   obtain ⟨_, _, e, hc⟩ := h3 j x hd
   cases e
   exact hc
theorem RdI.of_sl {w : World} {l : List Int} {ad : Option Addr} {cap : Nat} (h : Sl w (.slice ad l.length cap) 1 l.length (l.map fun d => .int .i64 d)) (hn : ad = none → cap = 0) : RdI w l (.slice ad l.length cap) := by
 obtain ⟨_, _, e, h1, _, h3⟩ := h
 cases e
 refine ⟨_, _, rfl, ⟨h1, hn⟩, fun j d hj => ?_⟩
 rcases h3 with h3 | ⟨b, off, rfl, h3⟩
 ·rw [List.eq_nil_of_length_eq_zero h3] at hj; cases hj
 ·exact ⟨b, off, rfl, h3 j _ (by rw [List.getElem?_map, hj]; rfl)⟩
theorem keep_days {W2 : World} {l : List Int} {a : Option Addr} {c D : Nat} (hsl : Sl W2 (.slice a l.length c) 1 l.length (l.map fun d => .int .i64 d)) (hg : l.length = 0 ∨ ∃ g, a = some ⟨g, 0, none⟩ ∧ D ≤ g) (hne : a ≠ none) :
  Keep none D W2 (fun W => RdI W l (.slice a l.length c)) := fun w' _ hag => RdI.of_sl (by
   rcases hg with h0 | ⟨g, rfl, hD⟩
   ·obtain rfl : l = [] := List.eq_nil_of_length_eq_zero h0
    exact Sl.empty _ _ _ _
   ·exact hsl.kept fun k hk hk2 => by
     obtain rfl : g = k := by simpa [Value.ownBlock] using hk
     exact hag g hD hk2 (by simp)) fun h => absurd h hne
theorem rdC_of_row {w wr w2 : World} {D n : Nat} {R0 : World → Prop} {LL : List CoV} {a2 : Option Addr} {c2 : Nat} {xs : List Con} (hL : LL.map Prod.fst = xs) (hn : LL.length = n) (h : PRow conC 29 12 conR R0 w D LL a2 c2 wr)
  (h8 : ∀ y ∈ xs, y.k < 256 ∧ y.ex.k < 256) (hz : wr.heap.size ≤ w2.heap.size) (hag : ∀ b, D ≤ b → b < wr.heap.size → w2.heap[b]? = wr.heap[b]?) : RdC w2 xs (.slice a2 n c2) := by
 subst hL
 have e : n = (LL.map Prod.fst).length := by rw [List.length_map, hn]
 rw [e]
 have hat : ∀ (j : Nat) (x : Con), (LL.map Prod.fst)[j]? = some x → ∃ s : Value × Value × Value, LL[j]? = some (x, s) := by
  intro j x hx
  rw [List.getElem?_map] at hx
  cases hp : LL[j]? with
  | none => rw [hp] at hx; cases hx
  | some p => rw [hp] at hx; cases hx; exact ⟨p.2, rfl⟩
 have hk : ∀ (j : Nat) (x : Con) (s : Value × Value × Value), LL[j]? = some (x, s) → RdN w2 x s.1 s.2.1 s.2.2 := fun j x s hs => h.2.1 _ (List.mem_of_getElem? hs) w2 hz fun b hb1 hb2 _ => hag b hb1 hb2
 refine .mk a2 c2 _ (fun j => (LL[j]?.map fun p => p.2.1).getD undef) (fun j => (LL[j]?.map fun p => p.2.2.1).getD undef) (fun j => (LL[j]?.map fun p => p.2.2.2).getD undef) (fun j x hx => ?_) (fun j x hx => ?_) (fun j x hx => ?_) fun j x hx => ?_
 ·obtain ⟨s, hs⟩ := hat j x hx
  refine ⟨h8 x (List.mem_of_getElem? hx), ?_⟩
  obtain ⟨g, rfl, _⟩ := h.cell conC_len hs (j := 0) rfl hag
  refine ⟨g, 0, rfl, fun i u hu => ?_⟩
  simp only [hs] at hu
  obtain ⟨_, e1, c1⟩ := h.cell conC_len hs (j := i) hu hag
  cases e1
  exact c1
 all_goals
  obtain ⟨s, hs⟩ := hat j x hx
  simp only [hs]
 ·exact (hk j x s hs).1
 ·exact (hk j x s hs).2.1
 ·exact (hk j x s hs).2.2.1
set_option maxHeartbeats 8000000 in
set_option maxRecDepth 100000 in
theorem rtwinC_any : ∀ (B : Nat) (x : Con) (es dd ss : Value) (w : World), x.bulk ≤ B → x.bulk ≤ 2000000 → RdN w x es dd ss →
  Calls Tryz.prog 5 #[x.val es dd ss] w fun e w' => ∃ s' : Value × Value × Value, e = .returned (x.val s'.1 s'.2.1 s'.2.2) ∧ Keep none w.heap.size w' (conR (x, s')) ∧ conCS s' ∧ Below w.heap.size w w' := by
 intro B
 induction B with
 | zero =>
  intro x es dd ss w h0
  rw [Con.bulk_eq] at h0
  omega
 | succ B ih =>
  intro x es dd ss w hB hM hs
  obtain ⟨i0, hi, hz0, hz1, hz2⟩ := info_parts info_con
  obtain ⟨ad, cap, rfl⟩ := hs.2.2.1.len
  obtain ⟨ad1, cap1, rfl⟩ := hs.1.len
  obtain ⟨ad2, cap2, rfl⟩ := hs.2.1.len
  have HS := Lib.hid hs
  have HI := Lib.hid ih
  have hbq := x.bulk_eq
  have hlen := Con.bulks_len x.sub
  have hlt0 := x.sub_lt
  have hn : x.sub.length ≤ 2000000 := by omega
  have hnd : x.ds.length ≤ 2000000 := by omega
  have HE := Lib.hid fun (V : World) (hV : Below w.heap.size w V) => rtwinE_any x.ex.bulk x.ex _ V (Nat.le_refl _) (by omega) (hs.1.frame hV)
  unfold Ex.val at HE
  clear hs ih hbq
  unfold Con.val
  go_enter Tryz.func5, Tryz.ntmps5
  have hx0 : ∃ W0, W0 = (((w.alloc (.cells #[.int .u8 x.k, .string x.fr, .string x.rc, .string x.nm, .int .u8 x.ex.k, .string x.ex.ra, .string x.ex.nm, .int .i64 x.ex.d, .slice ad1 x.ex.sub.length cap1, .int .i64 x.d, .slice ad2 x.ds.length cap2, .slice ad x.sub.length cap] 29)).alloc (.cells #[.int .u8 0, .string ⟨#[]⟩, .string ⟨#[]⟩, .string ⟨#[]⟩, .int .u8 0, .string ⟨#[]⟩, .string ⟨#[]⟩, .int .i64 0, .slice none 0 0, .int .i64 0, .slice none 0 0, .slice none 0 0] 29)).alloc (.cells #[.int .u8 x.k, .string x.fr, .string x.rc, .string x.nm, .int .u8 0, .string ⟨#[]⟩, .string ⟨#[]⟩, .int .i64 0, .slice none 0 0, .int .i64 x.d, .slice none 0 0, .slice none 0 0] 29)) ∧ BoxN W0 w.heap.size 29 [.int .u8 x.k, .string x.fr, .string x.rc, .string x.nm, .int .u8 x.ex.k, .string x.ex.ra, .string x.ex.nm, .int .i64 x.ex.d, .slice ad1 x.ex.sub.length cap1, .int .i64 x.d, .slice ad2 x.ds.length cap2, .slice ad x.sub.length cap] ∧ BoxN W0 (w.heap.size + 1) 29 [.int .u8 0, .string ⟨#[]⟩, .string ⟨#[]⟩, .string ⟨#[]⟩, .int .u8 0, .string ⟨#[]⟩, .string ⟨#[]⟩, .int .i64 0, .slice none 0 0, .int .i64 0, .slice none 0 0, .slice none 0 0] ∧ BoxN W0 (w.heap.size + 1 + 1) 29 [.int .u8 x.k, .string x.fr, .string x.rc, .string x.nm, .int .u8 0, .string ⟨#[]⟩, .string ⟨#[]⟩, .int .i64 0, .slice none 0 0, .int .i64 x.d, .slice none 0 0, .slice none 0 0] ∧ Below w.heap.size w W0 ∧ W0.heap.size = w.heap.size + 1 + 1 + 1 :=
   ⟨_, rfl, ((BoxN.new w [.int .u8 x.k, .string x.fr, .string x.rc, .string x.nm, .int .u8 x.ex.k, .string x.ex.ra, .string x.ex.nm, .int .i64 x.ex.d, .slice ad1 x.ex.sub.length cap1, .int .i64 x.d, .slice ad2 x.ds.length cap2, .slice ad x.sub.length cap] _).alloc _).alloc _, by have h := BoxN.new (w.alloc (.cells #[.int .u8 x.k, .string x.fr, .string x.rc, .string x.nm, .int .u8 x.ex.k, .string x.ex.ra, .string x.ex.nm, .int .i64 x.ex.d, .slice ad1 x.ex.sub.length cap1, .int .i64 x.d, .slice ad2 x.ds.length cap2, .slice ad x.sub.length cap] 29)) [.int .u8 0, .string ⟨#[]⟩, .string ⟨#[]⟩, .string ⟨#[]⟩, .int .u8 0, .string ⟨#[]⟩, .string ⟨#[]⟩, .int .i64 0, .slice none 0 0, .int .i64 0, .slice none 0 0, .slice none 0 0] 29; rw [World.size_alloc] at h; exact h.alloc _,
    by have h := BoxN.new ((w.alloc (.cells #[.int .u8 x.k, .string x.fr, .string x.rc, .string x.nm, .int .u8 x.ex.k, .string x.ex.ra, .string x.ex.nm, .int .i64 x.ex.d, .slice ad1 x.ex.sub.length cap1, .int .i64 x.d, .slice ad2 x.ds.length cap2, .slice ad x.sub.length cap] 29)).alloc (.cells #[.int .u8 0, .string ⟨#[]⟩, .string ⟨#[]⟩, .string ⟨#[]⟩, .int .u8 0, .string ⟨#[]⟩, .string ⟨#[]⟩, .int .i64 0, .slice none 0 0, .int .i64 0, .slice none 0 0, .slice none 0 0] 29)) [.int .u8 x.k, .string x.fr, .string x.rc, .string x.nm, .int .u8 0, .string ⟨#[]⟩, .string ⟨#[]⟩, .int .i64 0, .slice none 0 0, .int .i64 x.d, .slice none 0 0, .slice none 0 0] 29; rw [World.size_alloc, World.size_alloc] at h; exact h, below_a3 _ _ _ _, by rw [World.size_alloc, World.size_alloc, World.size_alloc]⟩
  obtain ⟨W0, hW0, bx, br, bo, hb0, hz00⟩ := hx0
  have hy00 := bo.lt
  go_wp2_with fail
  rw [← hW0]
  clear hW0
  refine (HE.out _ hb0).mono ?_
  rintro e w1 ⟨s1, rfl, hk1, ⟨aX, nX, cX, rfl⟩, hb1⟩
  obtain ⟨_, _, eX⟩ := (show RdE w1 x.ex.sub (.slice aX nX cX) from hk1.rd).len
  cases eX
  replace bx := bx.below hb1 bx.lt
  replace br := br.below hb1 br.lt
  replace bo := bo.below hb1 bo.lt
  have hb01 := hb0.trans (hb1.mono hb0.size)
  have o4 : w1.cell? ⟨w.heap.size + 1 + 1, 4, none⟩ = some (.int .u8 0) := bo.cell rfl
  have f4 := bo.frozen 4
  have o5 : w1.cell? ⟨w.heap.size + 1 + 1, 5, none⟩ = some (.string ⟨#[]⟩) := bo.cell rfl
  have f5 := bo.frozen 5
  have o6 : w1.cell? ⟨w.heap.size + 1 + 1, 6, none⟩ = some (.string ⟨#[]⟩) := bo.cell rfl
  have f6 := bo.frozen 6
  have o7 : w1.cell? ⟨w.heap.size + 1 + 1, 7, none⟩ = some (.int .i64 0) := bo.cell rfl
  have f7 := bo.frozen 7
  have o8 : w1.cell? ⟨w.heap.size + 1 + 1, 8, none⟩ = some (.slice none 0 0) := bo.cell rfl
  have f8 := bo.frozen 8
  have q10 : w1.cell? ⟨w.heap.size, 10, none⟩ = some (.slice ad2 x.ds.length cap2) := bx.cell rfl
  have hn1 : w.heap.size ≠ w.heap.size + 1 + 1 := by omega
  have hn2 : w.heap.size + 1 ≠ w.heap.size + 1 + 1 := by omega
  have hn3 : w.heap.size + 1 + 1 < W0.heap.size := hy00
  have hn4 : w.heap.size ≤ w.heap.size + 1 + 1 := by omega
  have hx1 : ∃ W1, (((((w1.setCell ⟨w.heap.size + 1 + 1, 4, none⟩ (.int .u8 x.ex.k)).setCell ⟨w.heap.size + 1 + 1, 5, none⟩ (.string x.ex.ra)).setCell ⟨w.heap.size + 1 + 1, 6, none⟩ (.string x.ex.nm)).setCell ⟨w.heap.size + 1 + 1, 7, none⟩ (.int .i64 x.ex.d)).setCell ⟨w.heap.size + 1 + 1, 8, none⟩ (.slice aX x.ex.sub.length cX)) = W1 ∧ BoxN W1 w.heap.size 29 [.int .u8 x.k, .string x.fr, .string x.rc, .string x.nm, .int .u8 x.ex.k, .string x.ex.ra, .string x.ex.nm, .int .i64 x.ex.d, .slice ad1 x.ex.sub.length cap1, .int .i64 x.d, .slice ad2 x.ds.length cap2, .slice ad x.sub.length cap] ∧
    BoxN W1 (w.heap.size + 1) 29 [.int .u8 0, .string ⟨#[]⟩, .string ⟨#[]⟩, .string ⟨#[]⟩, .int .u8 0, .string ⟨#[]⟩, .string ⟨#[]⟩, .int .i64 0, .slice none 0 0, .int .i64 0, .slice none 0 0, .slice none 0 0] ∧
    BoxN W1 (w.heap.size + 1 + 1) 29 [.int .u8 x.k, .string x.fr, .string x.rc, .string x.nm, .int .u8 x.ex.k, .string x.ex.ra, .string x.ex.nm, .int .i64 x.ex.d, .slice aX x.ex.sub.length cX, .int .i64 x.d, .slice none 0 0, .slice none 0 0] ∧
    Keep none W0.heap.size W1 (exR (x.ex, .slice aX x.ex.sub.length cX)) ∧ Below w.heap.size w W1 :=
   ⟨_, rfl, (((((bx.far (a := ⟨w.heap.size + 1 + 1, _, none⟩) hn1 _).far (a := ⟨w.heap.size + 1 + 1, _, none⟩) hn1 _).far (a := ⟨w.heap.size + 1 + 1, _, none⟩) hn1 _).far (a := ⟨w.heap.size + 1 + 1, _, none⟩) hn1 _).far (a := ⟨w.heap.size + 1 + 1, _, none⟩) hn1 _), (((((br.far (a := ⟨w.heap.size + 1 + 1, _, none⟩) hn2 _).far (a := ⟨w.heap.size + 1 + 1, _, none⟩) hn2 _).far (a := ⟨w.heap.size + 1 + 1, _, none⟩) hn2 _).far (a := ⟨w.heap.size + 1 + 1, _, none⟩) hn2 _).far (a := ⟨w.heap.size + 1 + 1, _, none⟩) hn2 _), (((((bo.set 4 _).set 5 _).set 6 _).set 7 _).set 8 _), (Keep.set (Keep.set (Keep.set (Keep.set (Keep.set hk1 (a := ⟨w.heap.size + 1 + 1, _, none⟩) hn3 _) (a := ⟨w.heap.size + 1 + 1, _, none⟩) hn3 _) (a := ⟨w.heap.size + 1 + 1, _, none⟩) hn3 _) (a := ⟨w.heap.size + 1 + 1, _, none⟩) hn3 _) (a := ⟨w.heap.size + 1 + 1, _, none⟩) hn3 _), (Below.setCell (Below.setCell (Below.setCell (Below.setCell (Below.setCell hb01 (p := ⟨w.heap.size + 1 + 1, _, none⟩) hn4 _) (p := ⟨w.heap.size + 1 + 1, _, none⟩) hn4 _) (p := ⟨w.heap.size + 1 + 1, _, none⟩) hn4 _) (p := ⟨w.heap.size + 1 + 1, _, none⟩) hn4 _) (p := ⟨w.heap.size + 1 + 1, _, none⟩) hn4 _)⟩
  obtain ⟨W1, hW1, bx, br, bo, hk1, hb01⟩ := hx1
  go_upto_region 3 with fail
  clear hW1 HE hb1
  obtain ⟨hds, hdn⟩ := (HS.out.2.1.frame hb01).sl
  have HDS := Lib.hid hds
  have HDN := Lib.hid hdn
  clear hds hdn
  have q10 : W1.cell? ⟨w.heap.size, 10, none⟩ = some (.slice ad2 x.ds.length cap2) := bx.cell rfl
  have o10 : W1.cell? ⟨w.heap.size + 1 + 1, 10, none⟩ = some (.slice none 0 0) := bo.cell rfl
  have f10 := bo.frozen 10
  obtain ⟨j0, hj, jz0, jz1, jz2⟩ := info_parts info_dy
  have hy0 := bx.lt
  have hy2 := bo.lt
  have hba := below_a1 W1 (.cells #[] 3)
  go_wp2_with (at_builtin; refine wpList_append_empty2 rfl (.tmp 20) (.tmp 22) 26 rfl 3 j0 _ 1 8 ul_dys hj jz0 jz1 jz2 (by decide) ⟨W1.heap.size, 0, none⟩ ad2 x.ds.length cap2 _ rfl rfl (HDS.out.below hba) HDN.out (by omega) (by omega) ?_; intro a4 c4 W2 hsl4 hg4 hne4 hb4; have hb14 : Below W1.heap.size W1 W2 := hba.trans (hb4.mono hba.size); have p10 : W2.cell? ⟨w.heap.size + 1 + 1, 10, none⟩ = some (.slice none 0 0) := cell_below hb14 o10; have g10 : W2.frozen? ⟨w.heap.size + 1 + 1, 10, none⟩ = false := (bo.below hb14 bo.lt).frozen 10)
  have hx3 : ∃ W3, W2.setCell ⟨w.heap.size + 1 + 1, 10, none⟩ (.slice a4 x.ds.length c4) = W3 ∧ BoxN W3 w.heap.size 29 [.int .u8 x.k, .string x.fr, .string x.rc, .string x.nm, .int .u8 x.ex.k, .string x.ex.ra, .string x.ex.nm, .int .i64 x.ex.d, .slice ad1 x.ex.sub.length cap1, .int .i64 x.d, .slice ad2 x.ds.length cap2, .slice ad x.sub.length cap] ∧ BoxN W3 (w.heap.size + 1) 29 [.int .u8 0, .string ⟨#[]⟩, .string ⟨#[]⟩, .string ⟨#[]⟩, .int .u8 0, .string ⟨#[]⟩, .string ⟨#[]⟩, .int .i64 0, .slice none 0 0, .int .i64 0, .slice none 0 0, .slice none 0 0] ∧ BoxN W3 (w.heap.size + 1 + 1) 29 [.int .u8 x.k, .string x.fr, .string x.rc, .string x.nm, .int .u8 x.ex.k, .string x.ex.ra, .string x.ex.nm, .int .i64 x.ex.d, .slice aX x.ex.sub.length cX, .int .i64 x.d, .slice a4 x.ds.length c4, .slice none 0 0] ∧
    Keep none (w.heap.size + 1 + 1 + 1) W3 (fun W => exR (x.ex, .slice aX x.ex.sub.length cX) W ∧ RdI W x.ds (.slice a4 x.ds.length c4)) ∧ Below w.heap.size w W3 ∧ (w.heap.size + 1 + 1 + 1) ≤ W3.heap.size := by
   refine ⟨_, rfl, (bx.below hb14 bx.lt).far (a := ⟨w.heap.size + 1 + 1, _, none⟩) hn1 _, (br.below hb14 br.lt).far (a := ⟨w.heap.size + 1 + 1, _, none⟩) hn2 _, (bo.below hb14 bo.lt).set 10 _, Keep.set (base := w.heap.size + 1 + 1 + 1) (fun w' hz hag => ⟨?_, ?_⟩) (a := ⟨w.heap.size + 1 + 1, _, none⟩) (Nat.lt_succ_self _) _, Below.setCell (hb01.trans (hb14.mono hb01.size)) (p := ⟨w.heap.size + 1 + 1, _, none⟩) hn4 _, ?_⟩
   ·exact hk1.below hb14 w' hz fun b hb1 hb2 hb3 => hag b (hz00 ▸ hb1) hb2 hb3
   ·exact keep_days hsl4 (hg4.imp id fun ⟨g, e, hg⟩ => ⟨g, e, Nat.le_trans (Nat.le_of_lt_succ (Nat.lt_succ_of_le (Nat.le_trans hy2 hba.size))) hg⟩) hne4 w' hz hag
   ·show _ ≤ (W2.setCell _ _).heap.size
    simp only [World.setCell, Array.size_modify]
    exact Nat.le_trans hy2 hb14.size
  obtain ⟨W3, hW3, bx, br, bo, hk3, hb03, hz3⟩ := hx3
  obtain ⟨S1, hS1⟩ : ∃ S1, W1.heap.size = S1 := ⟨_, rfl⟩
  rw [hS1]
  first | rw [hW3] | skip
  clear hW3 hS1 HDS HDN hba q10 o10 f10 hy0 hy2 hb01 hb14 p10 g10 hb4 hsl4 hg4 hk1 o4 o5 o6 o7 o8 f4 f5 f6 f7 f8
  go_loopw [4] (fun i wr => ∃ (LL : List CoV) (a2 : Option Addr) (c2 : Nat), LL.length ≤ x.sub.length ∧ i = .int .i64 (LL.length : Int) ∧ Hid (LL.map Prod.fst = x.sub.take LL.length ∧ PRow conC 29 12 conR (fun W => exR (x.ex, .slice aX x.ex.sub.length cX) W ∧ RdI W x.ds (.slice a4 x.ds.length c4)) w (w.heap.size + 1 + 1 + 1) LL a2 c2 wr) ∧
   BoxN wr w.heap.size 29 [.int .u8 x.k, .string x.fr, .string x.rc, .string x.nm, .int .u8 x.ex.k, .string x.ex.ra, .string x.ex.nm, .int .i64 x.ex.d, .slice ad1 x.ex.sub.length cap1, .int .i64 x.d, .slice ad2 x.ds.length cap2, .slice ad x.sub.length cap] ∧ BoxN wr (w.heap.size + 1) 29 [.int .u8 0, .string ⟨#[]⟩, .string ⟨#[]⟩, .string ⟨#[]⟩, .int .u8 0, .string ⟨#[]⟩, .string ⟨#[]⟩, .int .i64 0, .slice none 0 0, .int .i64 0, .slice none 0 0, .slice none 0 0] ∧
   BoxN wr (w.heap.size + 1 + 1) 29 [.int .u8 x.k, .string x.fr, .string x.rc, .string x.nm, .int .u8 x.ex.k, .string x.ex.ra, .string x.ex.nm, .int .i64 x.ex.d, .slice aX x.ex.sub.length cX, .int .i64 x.d, .slice a4 x.ds.length c4, .slice a2 LL.length c2]) (fun i _ => x.sub.length - (intOf i).toNat)
  case atStart =>
   exact ⟨[], none, 0, Nat.zero_le _, rfl, Lib.hid ⟨rfl, World.ownsRow_nil _ _ _ _, fun _ h => (by cases h), hb03, hz3, hk3⟩, bx, br, bo⟩
  case round =>
   obtain ⟨LL, a2, c2, hk, rfl, HL, hbx, hbr, hbo⟩ := hrel
   obtain ⟨k, hkk⟩ : ∃ k, LL.length = k := ⟨_, rfl⟩
   have HK := Lib.hid hkk
   rw [hkk] at hk hbo ⊢
   have q0 : wr.cell? ⟨w.heap.size, 11, none⟩ = some (.slice ad x.sub.length cap) := hbx.cell rfl
   have q1 : wr.cell? ⟨w.heap.size + 1 + 1, 11, none⟩ = some (.slice a2 k c2) := hbo.cell rfl
   clear hkk
   by_cases hlt : k < x.sub.length
   ·obtain ⟨y, hy⟩ : ∃ y, x.sub[k]? = some y := ⟨_, List.getElem?_eq_getElem hlt⟩
    obtain ⟨b, off, e9, f9, s9, rfl, hc, hs'⟩ := (HS.out.2.2.1.frame HL.out.2.2.2.1).cells hy
    obtain ⟨d0, d1, d2, d3, d4, d5, d6, d7, d8, d9, d10, d11⟩ := hc
    have hk1 : (0 : Int) ≤ (k : Int) := by omega
    have hk2 : (k : Int) < (x.sub.length : Int) := by omega
    have hym := Con.mem_lt (List.mem_of_getElem? hy)
    have HC := Lib.hid fun (V : World) (hV : Below wr.heap.size wr V) => HI.out y e9 f9 s9 V (by omega) (by omega) (hs'.frame hV)
    have HY := Lib.hid hy
    unfold Con.val at HC
    clear hy hym hs'
    go_wp2_with fail
    refine wp_region_invc (fun L a w' => ∃ (sn : Value × Value × Value) (g : Nat) (r v0 v1 v2 v3 v4 v5 v6 v7 v8 v9 v10 : Value), a = ⟨#[.agg #[.int .u8 (x.k : Int), .string x.fr, .string x.rc, .string x.nm, .int .u8 (x.ex.k : Int), .string x.ex.ra, .string x.ex.nm, .int .i64 x.ex.d, .slice ad1 x.ex.sub.length cap1, .int .i64 x.d, .slice ad2 x.ds.length cap2, .slice (some ⟨b, off, none⟩) x.sub.length cap], .pointer (some ⟨w.heap.size, 0, none⟩), .pointer (some ⟨w.heap.size + 1, 0, none⟩), .pointer (some ⟨w.heap.size + 1 + 1, 0, none⟩), .int .i64 (k : Int), .pointer (some ⟨w.heap.size, 0, none⟩), .int .u8 (x.k : Int), .pointer (some ⟨w.heap.size, 1, none⟩), .string x.fr, .pointer (some ⟨w.heap.size, 2, none⟩), .string x.rc, .pointer (some ⟨w.heap.size, 3, none⟩), .string x.nm, .pointer (some ⟨w.heap.size, 9, none⟩), .int .i64 x.d, .agg #[.int .u8 (x.k : Int), .string x.fr, .string x.rc, .string x.nm, .int .u8 0, .string ⟨#[]⟩, .string ⟨#[]⟩, .int .i64 0, .slice none 0 0, .int .i64 x.d, .slice none 0 0, .slice none 0 0], .pointer (some ⟨w.heap.size, 4, none⟩), .agg #[.int .u8 (x.ex.k : Int), .string x.ex.ra, .string x.ex.nm, .int .i64 x.ex.d, .slice ad1 x.ex.sub.length cap1], .agg #[.int .u8 (x.ex.k : Int), .string x.ex.ra, .string x.ex.nm, .int .i64 x.ex.d, .slice aX x.ex.sub.length cX], .pointer (some ⟨w.heap.size + 1 + 1, 4, none⟩), .slice (some ⟨S1, 0, none⟩) 0 0, .pointer (some ⟨w.heap.size, 10, none⟩), .slice ad2 x.ds.length cap2, .slice a4 x.ds.length c4, .pointer (some ⟨w.heap.size + 1 + 1, 10, none⟩), .int .i64 (k : Int), .pointer (some ⟨w.heap.size, 11, none⟩), .slice (some ⟨b, off, none⟩) x.sub.length cap, .int .i64 (x.sub.length : Int), .bool true, u30, u31, v0, v1, v2, v3, v4, v5, v6, v7, v8, v9, v10, undef], []⟩ ∧ VInv w' [.pointer (some ⟨w.heap.size + 1 + 1, 11, none⟩), .slice a2 k c2, .pointer (some ⟨w.heap.size, 11, none⟩), .slice (some ⟨b, off, none⟩) x.sub.length cap, .int .i64 (k : Int), .pointer (some ⟨b, off + k * 12, none⟩), .agg #[.int .u8 (y.k : Int), .string y.fr, .string y.rc, .string y.nm, .int .u8 (y.ex.k : Int), .string y.ex.ra, .string y.ex.nm, .int .i64 y.ex.d, e9, .int .i64 y.d, f9, s9], .agg #[.int .u8 (y.k : Int), .string y.fr, .string y.rc, .string y.nm, .int .u8 (y.ex.k : Int), .string y.ex.ra, .string y.ex.nm, .int .i64 y.ex.d, sn.1, .int .i64 y.d, sn.2.1, sn.2.2], .slice (some ⟨g, 0, none⟩) 1 1, r, .pointer (some ⟨w.heap.size + 1 + 1, 11, none⟩)] [v0, v1, v2, v3, v4, v5, v6, v7, v8, v9, v10] L w' ∧
     TwI (fun w1 => ∃ q, w1 = wr.drewN q) (fun w1 sn => Below wr.heap.size wr w1 ∧ Keep none wr.heap.size w1 (conR (y, sn)) ∧ conCS sn) (fun w1 sn g => Below wr.heap.size wr w1 ∧ Keep none wr.heap.size w1 (conR (y, sn)) ∧ conCS sn ∧ ∀ j u, (conC (y, sn))[j]? = some u → w1.cell? ((⟨g, 0, none⟩ : Addr).add j) = some u)
      (fun w1 sn r => ∃ a3 c3, r = .slice a3 (k + 1) c3 ∧ Hid (PRow conC 29 12 conR (fun W => exR (x.ex, .slice aX x.ex.sub.length cX) W ∧ RdI W x.ds (.slice a4 x.ds.length c4)) w (w.heap.size + 1 + 1 + 1) (LL ++ [(y, sn)]) a3 c3 w1) ∧ BoxN w1 w.heap.size 29 [.int .u8 (x.k : Int), .string x.fr, .string x.rc, .string x.nm, .int .u8 (x.ex.k : Int), .string x.ex.ra, .string x.ex.nm, .int .i64 x.ex.d, .slice ad1 x.ex.sub.length cap1, .int .i64 x.d, .slice ad2 x.ds.length cap2, .slice (some ⟨b, off, none⟩) x.sub.length cap] ∧ BoxN w1 (w.heap.size + 1) 29 [.int .u8 0, .string ⟨#[]⟩, .string ⟨#[]⟩, .string ⟨#[]⟩, .int .u8 0, .string ⟨#[]⟩, .string ⟨#[]⟩, .int .i64 0, .slice none 0 0, .int .i64 0, .slice none 0 0, .slice none 0 0] ∧ BoxN w1 (w.heap.size + 1 + 1) 29 [.int .u8 (x.k : Int), .string x.fr, .string x.rc, .string x.nm, .int .u8 (x.ex.k : Int), .string x.ex.ra, .string x.ex.nm, .int .i64 x.ex.d, .slice aX x.ex.sub.length cX, .int .i64 x.d, .slice a4 x.ds.length c4, .slice a2 k c2]) (fun w1 sn r => ∃ a3 c3, Hid (PRow conC 29 12 conR (fun W => exR (x.ex, .slice aX x.ex.sub.length cX) W ∧ RdI W x.ds (.slice a4 x.ds.length c4)) w (w.heap.size + 1 + 1 + 1) (LL ++ [(y, sn)]) a3 c3 w1) ∧ BoxN w1 w.heap.size 29 [.int .u8 (x.k : Int), .string x.fr, .string x.rc, .string x.nm, .int .u8 (x.ex.k : Int), .string x.ex.ra, .string x.ex.nm, .int .i64 x.ex.d, .slice ad1 x.ex.sub.length cap1, .int .i64 x.d, .slice ad2 x.ds.length cap2, .slice (some ⟨b, off, none⟩) x.sub.length cap] ∧ BoxN w1 (w.heap.size + 1) 29 [.int .u8 0, .string ⟨#[]⟩, .string ⟨#[]⟩, .string ⟨#[]⟩, .int .u8 0, .string ⟨#[]⟩, .string ⟨#[]⟩, .int .i64 0, .slice none 0 0, .int .i64 0, .slice none 0 0, .slice none 0 0] ∧ BoxN w1 (w.heap.size + 1 + 1) 29 [.int .u8 (x.k : Int), .string x.fr, .string x.rc, .string x.nm, .int .u8 (x.ex.k : Int), .string x.ex.ra, .string x.ex.nm, .int .i64 x.ex.d, .slice aX x.ex.sub.length cX, .int .i64 x.d, .slice a4 x.ds.length c4, .slice a3 (k + 1) c3]) L sn g r w') (by kernel_rfl) (by kernel_rfl) ?_ ?_ ?_
    ·exact ⟨(.slice none 0 0, .slice none 0 0, .slice none 0 0), 0, .slice none 0 0, _, _, _, _, _, _, _, _, _, _, _, rfl, VInv.start (Below.refl _ _) rfl, fun _ => ⟨1, rfl⟩, fun h => (by cases h), fun h => (by cases h), fun h => (by cases h), fun h => (by cases h)⟩
    ·rintro L a w' ⟨sn, g, r, v0, v1, v2, v3, v4, v5, v6, v7, v8, v9, v10, rfl, h, ht⟩ hcl i o ho hL hp
     have hi9 : i < 12 := by simpa using (Array.getElem?_eq_some_iff.1 ho).1
     have hi2 : i = 0 ∨ i = 1 ∨ i = 2 ∨ i = 3 ∨ i = 4 ∨ i = 5 ∨ i = 6 ∨ i = 7 ∨ i = 8 ∨ i = 9 ∨ i = 10 ∨ i = 11 := by omega
     clear hi9
     have hbl := fun h9 => ht.bel (wr := wr) (fun _ ⟨q, e⟩ => e ▸ below_drewN (Below.refl _ _) q) (fun _ _ e => e.1) (fun _ _ _ e => e.1) h9
     rcases hi2 with rfl | rfl | rfl | rfl | rfl | rfl | rfl | rfl | rfl | rfl | rfl | rfl
     ·refine wpOp_step rfl ?_
      intro K hK
      go_simp
      exact hK _ _ ⟨sn, g, r, _, _, _, _, _, _, _, _, _, _, _, rfl, h.step (i := 0) (v := .pointer (some ⟨w.heap.size + 1 + 1, 11, none⟩)) rfl, ht.keep (by decide)⟩
     ·refine wpOp_step rfl ?_
      intro K hK
      obtain rfl := h.at (i := 0) (pred_spec ho hp (j := 0) (by kernel_rfl)) rfl rfl
      have z := cell_below (hbl (cl_no hcl hL 9 (by kernel_rfl))) q1
      go_simp
      exact hK _ _ ⟨sn, g, r, _, _, _, _, _, _, _, _, _, _, _, rfl, h.step (i := 1) (v := .slice a2 k c2) rfl, ht.keep (by decide)⟩
     ·refine wpOp_step rfl ?_
      intro K hK
      go_simp
      exact hK _ _ ⟨sn, g, r, _, _, _, _, _, _, _, _, _, _, _, rfl, h.step (i := 2) (v := .pointer (some ⟨w.heap.size, 11, none⟩)) rfl, ht.keep (by decide)⟩
     ·refine wpOp_step rfl ?_
      intro K hK
      obtain rfl := h.at (i := 2) (pred_spec ho hp (j := 2) (by kernel_rfl)) rfl rfl
      obtain ⟨q, rfl⟩ := ht.a (cl_no hcl (cl_no hcl (cl_no hcl hL 5 (by kernel_rfl)) 6 (by kernel_rfl)) 7 (by kernel_rfl))
      have z := cell_drewN q q0
      go_simp
      exact hK _ _ ⟨sn, g, r, _, _, _, _, _, _, _, _, _, _, _, rfl, h.step (i := 3) (v := .slice (some ⟨b, off, none⟩) x.sub.length cap) rfl, ht.keep (by decide)⟩
     ·refine wpOp_step rfl ?_
      intro K hK
      go_simp
      exact hK _ _ ⟨sn, g, r, _, _, _, _, _, _, _, _, _, _, _, rfl, h.step (i := 4) (v := .int .i64 (k : Int)) rfl, ht.keep (by decide)⟩
     ·refine wpOp_step rfl ?_
      intro K hK
      obtain rfl := h.at (i := 3) (pred_spec ho hp (j := 3) (by kernel_rfl)) rfl rfl
      obtain rfl := h.at (i := 4) (pred_spec ho hp (j := 4) (by kernel_rfl)) rfl rfl
      go_simp
      exact hK _ _ ⟨sn, g, r, _, _, _, _, _, _, _, _, _, _, _, rfl, h.step (i := 5) (v := .pointer (some ⟨b, off + k * 12, none⟩)) rfl, ht.keep (by decide)⟩
     ·refine wpOp_step rfl ?_
      intro K hK
      obtain rfl := h.at (i := 5) (pred_spec ho hp (j := 5) (by kernel_rfl)) rfl rfl
      obtain ⟨q, rfl⟩ := ht.a (cl_no hcl hL 7 (by kernel_rfl))
      have z0 := cell_drewN q d0
      have z1 := cell_drewN q d1
      have z2 := cell_drewN q d2
      have z3 := cell_drewN q d3
      have z4 := cell_drewN q d4
      have z5 := cell_drewN q d5
      have z6 := cell_drewN q d6
      have z7 := cell_drewN q d7
      have z8 := cell_drewN q d8
      have z9 := cell_drewN q d9
      have z10 := cell_drewN q d10
      have z11 := cell_drewN q d11
      go_simp
      exact hK _ _ ⟨sn, g, r, _, _, _, _, _, _, _, _, _, _, _, rfl, h.step (i := 6) (v := .agg #[.int .u8 (y.k : Int), .string y.fr, .string y.rc, .string y.nm, .int .u8 (y.ex.k : Int), .string y.ex.ra, .string y.ex.nm, .int .i64 y.ex.d, e9, .int .i64 y.d, f9, s9]) rfl, ht.keep (by decide)⟩
     ·refine wpOp_step rfl ?_
      intro K hK
      obtain rfl := h.at (i := 6) (pred_spec ho hp (j := 6) (by kernel_rfl)) rfl rfl
      obtain ⟨q, rfl⟩ := ht.a hL
      have h8 := cl_no hcl hL 8 (by kernel_rfl)
      have h9 := cl_no hcl h8 9 (by kernel_rfl)
      have h11 := cl_no hcl h9 11 (by kernel_rfl)
      go_simp
      refine (HC.out (wr.drewN q) (below_drewN (Below.refl _ _) q)).mono ?_
      rintro e w4 ⟨s4, rfl, hk4, hs4, hb4⟩
      exact hK _ _ ⟨s4, g, r, _, _, _, _, _, _, _, _, _, _, _, rfl, VInv.step (i := 7) (v := .agg #[.int .u8 (y.k : Int), .string y.fr, .string y.rc, .string y.nm, .int .u8 (y.ex.k : Int), .string y.ex.ra, .string y.ex.nm, .int .i64 y.ex.d, s4.1, .int .i64 y.d, s4.2.1, s4.2.2]) (h.late hL _).re rfl, TwI.u7 h8 h9 h11 ⟨(below_drewN (Below.refl _ _) q).trans hb4, hk4, hs4⟩⟩
     ·refine wpOp_step rfl ?_
      intro K hK
      obtain rfl := h.at (i := 7) (pred_spec ho hp (j := 7) (by kernel_rfl)) rfl rfl
      have h7 := pred_spec ho hp (j := 7) (by kernel_rfl)
      have h9 := cl_no hcl hL 9 (by kernel_rfl)
      have h11 := cl_no hcl h9 11 (by kernel_rfl)
      obtain ⟨hb1, hk1, hs1⟩ := ht.b h7 hL
      go_simp
      exact hK _ _ ⟨sn, w'.heap.size, r, _, _, _, _, _, _, _, _, _, _, _, rfl, VInv.step (i := 8) (v := .slice (some ⟨w'.heap.size, 0, none⟩) 1 1) (h.late hL _).re rfl, TwI.u8 h7 h9 h11 ⟨hb1.alloc hb1.size _, hk1.below (below_a1 _ _), hs1, new_cells _ _ _⟩⟩
     ·refine wpOp_step rfl ?_
      intro K hK
      obtain rfl := h.at (i := 1) (pred_spec ho hp (j := 1) (by kernel_rfl)) rfl rfl
      obtain rfl := h.at (i := 8) (pred_spec ho hp (j := 8) (by kernel_rfl)) rfl rfl
      have h8 := pred_spec ho hp (j := 8) (by kernel_rfl)
      have h7 := cl_spec hcl h8 (j := 7) (by kernel_rfl)
      have h11 := cl_no hcl hL 11 (by kernel_rfl)
      obtain ⟨hb2, hk2, hs2, hc2⟩ := ht.c h8 hL
      have hz := HL.out.2.2.2.2.1
      refine step_append_at rfl (.tmp 33) (.tmp 40) 27 rfl (w.heap.size + 1 + 1 + 1) 29 i0 (.agg #[.int .u8 0, .string ⟨#[]⟩, .string ⟨#[]⟩, .string ⟨#[]⟩, .int .u8 0, .string ⟨#[]⟩, .string ⟨#[]⟩, .int .i64 0, .slice none 0 0, .int .i64 0, .slice none 0 0, .slice none 0 0]) 12 184 ul_cons hi hz0 hz1 hz2 rfl (by decide) (.slice a2 k c2) k (LL.flatMap conC) rfl (ownsRow_below' (HK.out ▸ HL.out.2.1) hb2) ⟨g, 0, none⟩ 1 1 (conC (y, sn)) rfl (conC_len _) hc2 (conC_one _ hs2) (by simp only [maxLen]; omega) (by omega) (Nat.le_trans hz hb2.size) ?_
      intro v2 w2 ho2 hg2 hl2
      obtain ⟨a3, c3, rfl, hR3⟩ := PRow.append HL.out.2 (by omega) hb2 (y := (y, sn)) hk2 (by rw [HK.out]; exact ho2) (by rw [HK.out]; exact hg2) (by rw [HK.out]; exact hl2)
      have hz3 : (LL ++ [(y, sn)]).length = k + 1 := by rw [List.length_append, HK.out]; rfl
      have hg9 : w'.grownBy w2 (Value.slice a2 LL.length c2).ownBlock := by rw [HK.out]; exact hg2
      rw [hz3]
      exact hK _ _ ⟨sn, g, .slice a3 (k + 1) c3, _, _, _, _, _, _, _, _, _, _, _, rfl, VInv.step (i := 9) (v := .slice a3 (k + 1) c3) (h.late hL _).re rfl, TwI.u9 h7 h8 h11 ⟨a3, c3, rfl, Lib.hid hR3, PRow.kept HL.out.2 hb2 hg9 hbx (by omega), PRow.kept HL.out.2 hb2 hg9 hbr (by omega), PRow.kept HL.out.2 hb2 hg9 hbo (by omega)⟩⟩
     ·refine wpOp_step rfl ?_
      intro K hK
      go_simp
      exact hK _ _ ⟨sn, g, r, _, _, _, _, _, _, _, _, _, _, _, rfl, h.step (i := 10) (v := .pointer (some ⟨w.heap.size + 1 + 1, 11, none⟩)) rfl, ht.keep (by decide)⟩
     ·refine wpOp_step rfl ?_
      intro K hK
      obtain rfl := h.at (i := 10) (pred_spec ho hp (j := 10) (by kernel_rfl)) rfl rfl
      obtain rfl := h.at (i := 9) (pred_spec ho hp (j := 9) (by kernel_rfl)) rfl rfl
      have h9 := pred_spec ho hp (j := 9) (by kernel_rfl)
      have h8 := cl_spec hcl h9 (j := 8) (by kernel_rfl)
      have h7 := cl_spec hcl h8 (j := 7) (by kernel_rfl)
      obtain ⟨a3, c3, rfl, hR3, hx3, hr3, ho3⟩ := ht.d h9 hL
      have z := ho3.cell (j := 11) rfl
      have z1 := ho3.frozen 11
      go_simp
      exact hK _ _ ⟨sn, g, _, _, _, _, _, _, _, _, _, _, _, _, rfl, (h.skip (Nat.le_refl _)).re, TwI.u11 h7 h8 h9 ⟨a3, c3, Lib.hid (hR3.out.set (by show w.heap.size + 1 + 1 < _; omega) (by show _ ≤ w.heap.size + 1 + 1; omega) _), hx3.far (by show w.heap.size ≠ w.heap.size + 1 + 1; omega) _, hr3.far (by show w.heap.size + 1 ≠ w.heap.size + 1 + 1; omega) _, ho3.set 11 _⟩⟩
    ·rintro L a w4 ⟨sn, g, r, v0, v1, v2, v3, v4, v5, v6, v7, v8, v9, v10, rfl, h, ht⟩ hall
     obtain ⟨a3, c3, hR3, hx3, hr3, ho3⟩ := ht.e (hall 11 (by decide))
     have hz3 : (LL ++ [(y, sn)]).length = k + 1 := by rw [List.length_append, HK.out]; rfl
     have HZ : Hid ((LL ++ [(y, sn)]).map Prod.fst = x.sub.take (LL ++ [(y, sn)]).length) := Lib.hid (by rw [hz3, List.map_append, HL.out.1, HK.out, take_snoc_get HY.out]; rfl)
     clear h ht hall
     go_wp2
     go_roundw
     case rel => exact ⟨LL ++ [(y, sn)], a3, c3, by omega, by rw [hz3]; go_num, Lib.hid ⟨HZ.out, hR3.out⟩, hx3, hr3, hz3 ▸ ho3⟩
     case measure => simp [intOf]; omega
   ·obtain rfl : k = x.sub.length := by omega
    have o0 : wr.cell? ⟨w.heap.size + 1 + 1, 0, none⟩ = some (.int .u8 x.k) := hbo.cell rfl
    have o1 : wr.cell? ⟨w.heap.size + 1 + 1, 1, none⟩ = some (.string x.fr) := hbo.cell rfl
    have o2 : wr.cell? ⟨w.heap.size + 1 + 1, 2, none⟩ = some (.string x.rc) := hbo.cell rfl
    have o3 : wr.cell? ⟨w.heap.size + 1 + 1, 3, none⟩ = some (.string x.nm) := hbo.cell rfl
    have o4 : wr.cell? ⟨w.heap.size + 1 + 1, 4, none⟩ = some (.int .u8 x.ex.k) := hbo.cell rfl
    have o5 : wr.cell? ⟨w.heap.size + 1 + 1, 5, none⟩ = some (.string x.ex.ra) := hbo.cell rfl
    have o6 : wr.cell? ⟨w.heap.size + 1 + 1, 6, none⟩ = some (.string x.ex.nm) := hbo.cell rfl
    have o7 : wr.cell? ⟨w.heap.size + 1 + 1, 7, none⟩ = some (.int .i64 x.ex.d) := hbo.cell rfl
    have o8 : wr.cell? ⟨w.heap.size + 1 + 1, 8, none⟩ = some (.slice aX x.ex.sub.length cX) := hbo.cell rfl
    have o9 : wr.cell? ⟨w.heap.size + 1 + 1, 9, none⟩ = some (.int .i64 x.d) := hbo.cell rfl
    have o10 : wr.cell? ⟨w.heap.size + 1 + 1, 10, none⟩ = some (.slice a4 x.ds.length c4) := hbo.cell rfl
    have o11 : wr.cell? ⟨w.heap.size + 1 + 1, 11, none⟩ = some (.slice a2 x.sub.length c2) := hbo.cell rfl
    have r0 : wr.cell? ⟨w.heap.size + 1, 0, none⟩ = some (.int .u8 0) := hbr.cell rfl
    have r1 : wr.cell? ⟨w.heap.size + 1, 1, none⟩ = some (.string ⟨#[]⟩) := hbr.cell rfl
    have r2 : wr.cell? ⟨w.heap.size + 1, 2, none⟩ = some (.string ⟨#[]⟩) := hbr.cell rfl
    have r3 : wr.cell? ⟨w.heap.size + 1, 3, none⟩ = some (.string ⟨#[]⟩) := hbr.cell rfl
    have r4 : wr.cell? ⟨w.heap.size + 1, 4, none⟩ = some (.int .u8 0) := hbr.cell rfl
    have r5 : wr.cell? ⟨w.heap.size + 1, 5, none⟩ = some (.string ⟨#[]⟩) := hbr.cell rfl
    have r6 : wr.cell? ⟨w.heap.size + 1, 6, none⟩ = some (.string ⟨#[]⟩) := hbr.cell rfl
    have r7 : wr.cell? ⟨w.heap.size + 1, 7, none⟩ = some (.int .i64 0) := hbr.cell rfl
    have r8 : wr.cell? ⟨w.heap.size + 1, 8, none⟩ = some (.slice none 0 0) := hbr.cell rfl
    have r9 : wr.cell? ⟨w.heap.size + 1, 9, none⟩ = some (.int .i64 0) := hbr.cell rfl
    have r10 : wr.cell? ⟨w.heap.size + 1, 10, none⟩ = some (.slice none 0 0) := hbr.cell rfl
    have r11 : wr.cell? ⟨w.heap.size + 1, 11, none⟩ = some (.slice none 0 0) := hbr.cell rfl
    have f0 := hbr.frozen 0
    have f1 := hbr.frozen 1
    have f2 := hbr.frozen 2
    have f3 := hbr.frozen 3
    have f4 := hbr.frozen 4
    have f5 := hbr.frozen 5
    have f6 := hbr.frozen 6
    have f7 := hbr.frozen 7
    have f8 := hbr.frozen 8
    have f9 := hbr.frozen 9
    have f10 := hbr.frozen 10
    have f11 := hbr.frozen 11
    have HF : Hid (∀ u, PRow conC 29 12 conR (fun W => exR (x.ex, .slice aX x.ex.sub.length cX) W ∧ RdI W x.ds (.slice a4 x.ds.length c4)) w (w.heap.size + 1 + 1 + 1) LL a2 c2 u → Keep none w.heap.size u (conR (x, (.slice aX x.ex.sub.length cX, .slice a4 x.ds.length c4, .slice a2 x.sub.length c2))) ∧ Below w.heap.size w u) := Lib.hid fun u hu => ⟨fun u2 hz2 hag => by
     have hM2 := HL.out.1
     rw [HK.out, List.take_length] at hM2
     have hr0 := hu.2.2.2.2 u2 hz2 fun b hb1 hb2 _ => hag b (by omega) hb2 (by simp)
     refine ⟨hr0.1, hr0.2, rdC_of_row hM2 HK.out hu (fun y hy => ?_) hz2 fun b hb1 hb2 => hag b (by omega) hb2 (by simp), HS.out.2.2.2⟩
     obtain ⟨j, hj⟩ := List.getElem?_of_mem hy
     obtain ⟨_, _, _, _, _, _, _, _, _, _, h8⟩ := HS.out.2.2.1.at hj
     exact h8, hu.2.2.1⟩
    go_wp2_with fail
    refine bodyPost_ret (v := .agg #[.int .u8 x.k, .string x.fr, .string x.rc, .string x.nm, .int .u8 x.ex.k, .string x.ex.ra, .string x.ex.nm, .int .i64 x.ex.d, .slice aX x.ex.sub.length cX, .int .i64 x.d, .slice a4 x.ds.length c4, .slice a2 x.sub.length c2]) (by simp [results, Tryz.results5, go_sem, r0, r1, r2, r3, r4, r5, r6, r7, r8, r9, r10, r11]) rfl ?_
    have hs5 := fun (u : World) (hu : PRow conC 29 12 conR (fun W => exR (x.ex, .slice aX x.ex.sub.length cX) W ∧ RdI W x.ds (.slice a4 x.ds.length c4)) w (w.heap.size + 1 + 1 + 1) LL a2 c2 u) (j : Nat) (v : Value) => hu.set (a := ⟨w.heap.size + 1, j, none⟩) (by show w.heap.size + 1 < _; omega) (by show _ ≤ w.heap.size + 1; omega) v
    refine ⟨(.slice aX x.ex.sub.length cX, .slice a4 x.ds.length c4, .slice a2 x.sub.length c2), rfl, (HF.out _ ?_).1, ⟨⟨_, _, _, rfl⟩, ⟨_, _, _, rfl⟩, ⟨_, _, _, rfl⟩⟩, (HF.out _ ?_).2⟩ <;> exact hs5 _ (hs5 _ (hs5 _ (hs5 _ (hs5 _ (hs5 _ (hs5 _ (hs5 _ (hs5 _ (hs5 _ (hs5 _ (hs5 _ HL.out.2 0 _) 1 _) 2 _) 3 _) 4 _) 5 _) 6 _) 7 _) 8 _) 9 _) 10 _) 11 _
end Go.Proofs.YtkonookacfmfgaaGreatDoor
