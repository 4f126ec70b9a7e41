/-
  integer.read. (Printed by a program of this work.) Variables of two cells; worlds with new blocks. A region that draws its order, whose operations read and whose calls at most make memory: one walk in the order of the text. Flows as records; novationlaw10.greatFlows, novationref10.SameFlows.  Printed by tools/genflow.py. Arguments opened: what the bound on the bulk gives; a list of structs as a list of records that can be read. Flows among the arguments: opened as records, with what the bound on the bulk gives.
-/
import Derived.Test.YtofbngpckllkoabPart01
import Derived.Deep.RegionHeld3
import Derived.Deep.Quiet
import Derived.Laws.StructEq
import Derived.IntWalk
import Derived.Test.YtofbngpckllkoabRows
import Derived.Deep.Slices
import Derived.Deep.Fields
import Derived.Lib.SmallJoins
import Derived.Carry
namespace Go.Proofs.Ytofbngpckllkoab
open Go.RowKit Go.Shelf
attribute [local go_sem] Oper.semAt_some

/-- A variable of two cells. -/
def Boxed2 (W : World) (B : Nat) (t : TypeId) (u v : Value) : Prop := W.heap[B]? = some (.cells #[u, v] t (0, 0))
theorem Boxed2.lt {W : World} {B : Nat} {t : TypeId} {u v : Value} (h : Boxed2 W B t u v) : B < W.heap.size := (Array.getElem?_eq_some_iff.1 h).1
theorem Boxed2.cell0 {W : World} {B : Nat} {t : TypeId} {u v : Value} (h : Boxed2 W B t u v) : W.cell? ⟨B, 0, none⟩ = some u := by simp [World.cell?, show W.heap[B]? = _ from h]
theorem Boxed2.cell1 {W : World} {B : Nat} {t : TypeId} {u v : Value} (h : Boxed2 W B t u v) : W.cell? ⟨B, 1, none⟩ = some v := by simp [World.cell?, show W.heap[B]? = _ from h]
theorem Boxed2.frozen {W : World} {B : Nat} {t : TypeId} {u v : Value} (h : Boxed2 W B t u v) (o : Nat) : W.frozen? ⟨B, o, none⟩ = false := by simp [World.frozen?, show W.heap[B]? = _ from h]
theorem Boxed2.of_block {W W' : World} {B : Nat} {t : TypeId} {u v : Value} (h : Boxed2 W B t u v) (e : W'.heap[B]? = W.heap[B]?) : Boxed2 W' B t u v := e.trans h
theorem heap_set_same {W : World} {B : Nat} {c : Array Value} {t : TypeId} {q : Nat × Nat} (h : W.heap[B]? = some (.cells c t q)) (o : Nat) (x : Value) : (W.setCell ⟨B, o, none⟩ x).heap[B]? = some (.cells (c.setIfInBounds o x) t q) := by
  obtain ⟨hlt, hk⟩ := Array.getElem?_eq_some_iff.1 h
  show (W.heap.modify B _)[B]? = _
  rw [Array.getElem?_eq_getElem (by rw [Array.size_modify]; exact hlt), Array.getElem_modify_self, hk]
  rfl
theorem Boxed2.set1 {W : World} {B : Nat} {t : TypeId} {u v : Value} (h : Boxed2 W B t u v) (x : Value) : Boxed2 (W.setCell ⟨B, 1, none⟩ x) B t u x := heap_set_same h 1 x
theorem Boxed2.set0 {W : World} {B : Nat} {t : TypeId} {u v : Value} (h : Boxed2 W B t u v) (x : Value) : Boxed2 (W.setCell ⟨B, 0, none⟩ x) B t x v := heap_set_same h 0 x
/-- A row of the call's own is not a block of another type. -/
theorem own_not_block {W : World} {e t : TypeId} {base size k B : Nat} {v : Value} {xs : List Value} {c : Array Value} (hr : W.ownsRow base e size v k xs) (hb : W.heap[B]? = some (.cells c t (0, 0))) (hte : t ≠ e) : v.ownBlock ≠ some B := by
  intro e'
  rcases hr.2 with ⟨rfl, _⟩ | ⟨g, cap, cur, rfl, _, hgb, _⟩
  · simp [Value.ownBlock] at e'
  · obtain rfl : g = B := by simpa [Value.ownBlock] using e'
    rw [hb] at hgb
    simp at hgb
    exact hte hgb.2
/-- 'n.f = append(n.f, x)', n a variable of two cells. -/
theorem Boxed2.appended {W w1 : World} {n₀ B : Nat} {t e : TypeId} {u v v' : Value} {k m : Nat} {xs ys : List Value} {tmp : Obj}
    (hv : Boxed2 W B t u v) (hte : t ≠ e) (hrow : W.ownsRow n₀ e 1 v k xs) (hn₀ : n₀ ≤ W.heap.size) (hB : n₀ ≤ B)
    (hown' : w1.ownsRow n₀ e 1 v' m ys) (hgrow : (W.alloc tmp).grownBy w1 v.ownBlock) :
    Boxed2 w1 B t u v ∧ Boxed2 (w1.setCell ⟨B, 1, none⟩ v') B t u v' ∧ (w1.setCell ⟨B, 1, none⟩ v').ownsRow n₀ e 1 v' m ys ∧ KeepsOthers W (w1.setCell ⟨B, 1, none⟩ v') ∧ Below n₀ W (w1.setCell ⟨B, 1, none⟩ v') ∧
      (∀ (C : Nat) (c : Array Value) (tc : TypeId), W.heap[C]? = some (.cells c tc (0, 0)) → tc ≠ e → C ≠ B → (w1.setCell ⟨B, 1, none⟩ v').heap[C]? = W.heap[C]?) := by
  have ha : ∀ C, C < W.heap.size → (W.alloc tmp).heap[C]? = W.heap[C]? := fun C hC => Below.heap_alloc W tmp C hC
  have hne : v.ownBlock ≠ some B := own_not_block hrow hv hte
  have hv1 : Boxed2 w1 B t u v := hv.of_block ((hgrow.block B (by have := hv.lt; simp; omega) (Ne.symm hne)).trans (ha B hv.lt))
  refine ⟨hv1, hv1.set1 v', ownsRow_kept hown' (fun g hg _ => Below.heap_setCell _ _ _ _ (fun e2 => own_not_block hown' hv1 hte (by rw [hg]; exact congrArg some e2))), ?_, ?_, ?_⟩
  · refine ((KeepsOthers.alloc W tmp).trans (KeepsOthers.of_grownBy hgrow fun j o ej hj => ?_)).trans (KeepsOthers.setCell _ _ _)
    rcases (hrow.alloc tmp).2 with ⟨rfl, _⟩ | ⟨g, cap, cur, rfl, _, hgb, _⟩
    · simp [Value.ownBlock] at ej
    · obtain rfl : g = j := by simpa [Value.ownBlock] using ej
      rw [hgb] at hj; cases hj; rfl
  · refine (((Below.refl n₀ W).alloc hn₀ tmp).grown hgrow (by simp; omega) fun j ej => (hrow.lt j ej).1).setCell (p := ⟨B, 1, none⟩) hB v'
  · intro C c tc hC htc hCB
    have hlt := (Array.getElem?_eq_some_iff.1 hC).1
    rw [Below.heap_setCell _ _ _ _ hCB, hgrow.block C (by simp; omega) (Ne.symm (own_not_block hrow hC htc)), ha C hlt]

/-- What holds of the reader's own cells between two rounds: neg, the string's block. -/
def ReadI (w : World) (neg : Bool) (t : ByteArray) (pre : List Grp) (W : World) : Prop :=
  (∃ v, Boxed2 W (w.heap.size + 1) 75 (.bool neg) v ∧ W.ownsRow w.heap.size 96 1 v pre.length (nums .u32 (pre.map gval))) ∧
    Boxed2 W w.heap.size 75 (.bool false) (.slice none 0 0) ∧ W.heap[w.heap.size + 1 + 1]? = some (.cells #[.string t] 9 (0, 0)) ∧ Below w.heap.size w W

theorem kept_cells {X Y : World} {row : Option Nat} {B : Nat} {c : Array Value} {t : TypeId} {q : Nat × Nat} (h : X.heap[B]? = some (.cells c t q)) (hg : X.grownBy Y row)
    (hrow : ∀ r, row = some r → ∃ o : Obj, X.heap[r]? = some o ∧ o.isCells = false) : Y.heap[B]? = X.heap[B]? := by
  refine hg.block B (Array.getElem?_eq_some_iff.1 h).1 (fun e => ?_)
  obtain ⟨o, ho, hc⟩ := hrow B e.symm
  rw [h] at ho; cases ho; cases hc

theorem readI_own (w : World) (neg : Bool) (t : ByteArray) (B : Nat) (hB : w.heap.size ≤ B) : OwnFrom B (ReadI w neg t) := by
  rintro pre X Y row ⟨⟨v, hv, hr⟩, hb, hs, hbel⟩ hg hrow
  have hrow2 : ∀ r, row = some r → ∃ o : Obj, X.heap[r]? = some o ∧ o.isCells = false := fun r e => (hrow r e).2
  refine ⟨⟨v, hv.of_block (kept_cells hv hg hrow2), ?_⟩, hb.of_block (kept_cells hb hg hrow2), (kept_cells hs hg hrow2).trans hs, hbel.grown hg hbel.size (fun k e => Nat.le_trans hB (hrow k e).1)⟩
  refine ownsRow_kept hr (fun k hk _ => ?_)
  rcases hr.2 with ⟨rfl, _⟩ | ⟨g, cap, cur, rfl, _, hgb, _⟩
  · simp [Value.ownBlock] at hk
  · obtain rfl : g = k := by simpa [Value.ownBlock] using hk
    exact kept_cells hgb hg hrow2

def ReadPost (w : World) (neg : Bool) (n : Nat) (e : Ending) (w' : World) : Prop :=
  ∃ v rs, e = .returned (.agg #[.bool neg, v]) ∧ Sl w' v 1 rs.length (nums .u32 rs) ∧ Nrm 1000000000 rs ∧ Go.Proofs.Ytofbngpckllkoab.val 1000000000 rs = n ∧ Below w.heap.size w w'

set_option maxHeartbeats 2000000 in
set_option maxRecDepth 100000 in
theorem read_pos (s : ByteArray) (w : World) (hs : s.size ≤ 100000) (h0 : 0 < s.size) (hd : (bl s).all isDig = true) :
    Calls Try.prog 58 #[.string s] w (ReadPost w false (dval (bl s))) := by
  obtain ⟨i0, hi, hz0, hz1, hz2⟩ := info_parts Try.info_u32
  obtain ⟨c0, hc0⟩ : ∃ c, s[0] = c := ⟨_, rfl⟩
  have hcd := isDig_at s hd 0 h0
  rw [hc0] at hcd
  have hm1 : ((c0.toNat : Int) == 45) = false := by rw [beq_eq_false_iff_ne]; omega
  refine (callsIn_wide (n := 4)).1 ?_
  refine callsIn_of_wp_marks Try.func58 rfl trivial ?_ rfl
  simp only [Try.ntmps58, List.size_toArray, List.length_cons, List.length_nil, Nat.reduceAdd, Nat.reduceSub, Array.replicate_succ, Array.replicate_zero, List.push_toArray, List.append_toArray, List.nil_append, List.cons_append]
  gi_wp2_with (refine ⟨trivial, ?_⟩; gi_at_call 73; refine (groups_in Fence.wide _ trivial rfl _ _).mono ?_; rintro e w' ⟨rfl, rfl⟩)
  obtain ⟨W0, hW0⟩ : ∃ W0, W0 = (((w.alloc (.cells #[.bool false, .slice none 0 0] 75)).alloc (.cells #[.bool false, .slice none 0 0] 75)).alloc (.cells #[.string s] 9)) := ⟨_, rfl⟩
  rw [← hW0]
  have hsz : W0.heap.size = w.heap.size + 3 := by rw [hW0]; simp
  have hI0 : ReadI w false s [] W0 := by
    rw [hW0]
    refine ⟨⟨.slice none 0 0, ?_, World.ownsRow_nil _ _ _ _⟩, ?_, ?_, ?_⟩
    · show (((w.heap.push _).push _).push _)[w.heap.size + 1]? = _
      rw [Array.getElem?_push, if_neg (by simp), Array.getElem?_push, if_pos (by simp)]
    · show (((w.heap.push _).push _).push _)[w.heap.size]? = _
      rw [Array.getElem?_push, if_neg (by simp; omega), Array.getElem?_push, if_neg (by simp), Array.getElem?_push, if_pos rfl]
    · show (((w.heap.push _).push _).push _)[w.heap.size + 1 + 1]? = _
      rw [Array.getElem?_push, if_pos (by simp)]
    · exact (((Below.refl _ w).alloc (Nat.le_refl _) _).alloc (by simp) _).alloc (by simp; omega) _
  clear hW0
  refine wpIn_rangeFunc_ownG rfl (by decide) (gf := 75) (lb := #[.pointer (some ⟨w.heap.size + 1 + 1, 0, none⟩)]) rfl trivial (enters_of Try.func75 (by kernel_rfl) rfl)
    (groups_stops Fence.wide _ trivial rfl (by decide) (w.heap.size + 1 + 1) s hd (by omega) W0 hI0.2.2.1) (fun h k => Eq.trans k h) (fun W l o o' hl ho hc hk => World.putObj_heap_other (by omega)) (Below.refl _ _) (fun _ => rfl)
    (ReadI w false s) (fun _ _ _ => False) (readI_own _ _ _ _ (by omega)) (fun _ _ _ _ _ hs _ _ => hs) hI0
    (fun x => { tmps := #[.string s, undef, .pointer (some ⟨w.heap.size, 0, none⟩), .pointer (some ⟨w.heap.size + 1, 0, none⟩), .string s, .string x.1, undef, undef, .string s, .string s, .int .u8 c0.toNat, .bool false, undef, undef, undef, .string s, .func (.func 75) #[] #[.pointer (some ⟨w.heap.size + 1 + 1, 0, none⟩)], .string x.1, undef, undef, undef, undef, undef, undef, undef, undef, undef, undef, undef, undef, undef, undef, undef, undef, undef, undef, undef, undef, undef, undef, undef, undef, undef], defers := [] }) ?assign ?body ?done ?stop
  case assign =>
    intro l x W K hK
    gi_wp2
    exact hK
  case body =>
    rintro l pre x W ⟨⟨v, hv, hrow⟩, hb0, hst, hbel⟩ hlt
    obtain ⟨g, hg9, hgd⟩ := x
    have hg9' : g.size ≤ 9 := hg9
    have hgd' : (bl g).all isDig = true := hgd
    have hpl : pre.length ≤ 12000 := by omega
    gi_wp2_with fail
    gi_loopw [6, 20] (fun a i wr => ∃ k : Nat, k ≤ g.size ∧ i = .int .i64 k ∧ a = .int .u32 (dval ((bl g).take k) : Nat) ∧ Hid (wr = W))
      (fun _ i _ => g.size - (intOf i).toNat)
    case atStart => exact ⟨0, Nat.zero_le _, rfl, rfl, rfl⟩
    case round =>
      obtain ⟨k, hk, rfl, rfl, Hw⟩ := hrel
      obtain rfl : wr = W := Hw.out
      clear Hw
      by_cases hlt2 : k < g.size
      · have hc := isDig_at g hgd' k hlt2
        have hs1 := dval_take_succ g k hlt2
        obtain ⟨c, hcc⟩ : ∃ c, g[k] = c := ⟨_, rfl⟩
        rw [hcc] at hc hs1
        have hlv : dval ((bl g).take k) < 100000000 := by
          have h1 := dval_lt ((bl g).take k) (all_take_of_all isDig _ k hgd')
          have h2 : ((bl g).take k).length ≤ 8 := by rw [List.length_take]; omega
          exact Nat.lt_of_lt_of_le h1 (Nat.pow_le_pow_right (by decide) h2)
        obtain ⟨d, hdd⟩ : ∃ d, dval ((bl g).take k) = d := ⟨_, rfl⟩
        rw [hdd] at hs1 hlv ⊢
        have Hs1 := Lib.hid hs1
        clear hs1 hdd
        gi_wp2
        go_roundw
        case rel => exact ⟨k + 1, by omega, by go_num, by rw [Hs1.out]; go_num, by first | exact rfl | exact trivial⟩
        case measure => simp [intOf]; omega
      · obtain rfl : k = g.size := by omega
        have hgv : dval ((bl g).take g.size) = gval ⟨g, hg9, hgd⟩ := by rw [List.take_of_length_le (by rw [bl_length]; exact Nat.le_refl _)]; rfl
        rw [hgv]
        have hc0 := hv.cell1
        have hf0 := hv.frozen 1
        have hsize := hbel.size
        clear hgv hlt2 hk
        gi_wp2_with (gi_at_builtin; refine wpListIn_append_own _ rfl _ _ 73 rfl w.heap.size 96 i0 (.int .u32 0) 1 4 Try.ul_u32s hi hz0 hz1 hz2 rfl (by decide) _ _ _ rfl (hrow.alloc _) ⟨wr.heap.size, 0, none⟩ 1 1 [.int .u32 ((gval ⟨g, hg9, hgd⟩ : Nat) : Int)] rfl rfl (cell_one_new _ _ _) (int_oneCell _ _) (by unfold maxLen; omega) (by omega) (by simp; omega) ?_; intro v' w1 hown' hgrow _; obtain ⟨g', cap', rfl⟩ := ownsRow_succ hown'; obtain ⟨hv1, hv2, hr2, hk2, hb2, ho2⟩ := hv.appended (by decide) hrow hsize (by omega) hown' hgrow; have hc1 := hv1.cell1; have hf1 := hv1.frozen 1)
        refine ⟨hk2.from _, ho2 _ _ _ hst (by decide) (by omega), ⟨_, hv2, ?_⟩, hb0.of_block (ho2 _ _ _ hb0 (by decide) (by omega)), (ho2 _ _ _ hst (by decide) (by omega)).trans hst, hbel.trans hb2⟩
        rw [List.length_append, List.length_singleton, List.map_append, List.map_singleton, ← nums_snoc]
        exact hr2
  case done =>
    rintro D ys W hD rfl ⟨⟨v, hv, hrow⟩, hb0, hst, hbel⟩ hK
    have hsl := Sl.of_owns hrow
    obtain ⟨ad, cap, rfl, _⟩ := id hsl
    have hn := grps_length s hd ((s.size + 8) / 9)
    have hval := grps_full s hd
    obtain ⟨ms, hms⟩ : ∃ ms, (grps s hd ((s.size + 8) / 9)).map gval = ms := ⟨_, rfl⟩
    have hdig := grps_dig (grps s hd ((s.size + 8) / 9))
    have hlen : (grps s hd ((s.size + 8) / 9)).length = ms.length := by rw [← hms, List.length_map]
    rw [hlen] at hv
    rw [hlen, hms] at hsl hrow
    rw [hms] at hval hdig
    have hml : ms.length ≤ 100000 := by omega
    have Hval := Lib.hid hval
    clear hval hms hlen hn
    have hc1 := hv.cell1
    have hc0 := hv.cell0
    have hf1 := hv.frozen 1
    have hr0 := hb0.cell0
    have hr1 := hb0.cell1
    have hrf0 := hb0.frozen 0
    have hrf1 := hb0.frozen 1
    have Htr := Lib.hid (trim_any _ ms W hsl (by omega))
    clear hsl
    gi_wp2_with fail
    refine ⟨trivial, ?_⟩
    refine (callsIn_wide.2 Htr.out).mono ?_
    rintro e w' ⟨v', rfl, Hv', rfl⟩
    obtain rfl : v' = Value.slice ad (trimL ms).length cap := Hv'.out
    have HK := Lib.hid hK
    have Hrow := Lib.hid hrow
    clear hK hrow
    gi_wp2
    obtain ⟨W3, hW3⟩ : ∃ W3, W3 = (((W.setCell ⟨w.heap.size + 1, 1, none⟩ (Value.slice ad (trimL ms).length cap)).setCell ⟨w.heap.size, 0, none⟩ (Value.bool false)).setCell ⟨w.heap.size, 1, none⟩ (Value.slice ad (trimL ms).length cap)) := ⟨_, rfl⟩
    rw [← hW3]
    have hK3 : W3.heap[D]? = some (.deferred (some [])) := by
      rw [hW3]
      exact (((KeepsOthers.setCell W _ _).trans (KeepsOthers.setCell _ _ _)).trans (KeepsOthers.setCell _ _ _)).same D _ HK.out rfl
    have hB3 : Boxed2 W3 w.heap.size 75 (.bool false) (Value.slice ad (trimL ms).length cap) := by
      rw [hW3]
      exact ((hb0.of_block (Below.heap_setCell _ _ _ _ (by simp))).set0 _).set1 _
    have hB4 : Boxed2 (W3.putObj D (.deferred none)) w.heap.size 75 (.bool false) (Value.slice ad (trimL ms).length cap) := hB3.of_block (World.putObj_heap_other (by omega))
    have hoth : ∀ k, (Value.slice ad ms.length cap).ownBlock = some k → (W3.putObj D (.deferred none)).heap[k]? = W.heap[k]? := by
      intro k hk
      have k1 : k ≠ w.heap.size := fun e => own_not_block Hrow.out hb0 (by decide) (by rw [hk, e])
      have k2 : k ≠ w.heap.size + 1 := fun e => own_not_block Hrow.out hv (by decide) (by rw [hk, e])
      have k3 : k ≠ D := fun e => by
        rcases Hrow.out.2 with ⟨he, _⟩ | ⟨g, _, _, he, _, hgb, _⟩
        · rw [he] at hk; simp [Value.ownBlock] at hk
        · rw [he] at hk
          obtain rfl : g = k := by simpa [Value.ownBlock] using hk
          rw [e, HK.out] at hgb; cases hgb
      rw [World.putObj_heap_other k3, hW3, Below.heap_setCell _ _ _ _ k1, Below.heap_setCell _ _ _ _ k1, Below.heap_setCell _ _ _ _ k2]
    have hcut := ((Sl.of_owns Hrow.out).kept (w' := W3.putObj D (.deferred none)) (fun k hk _ => hoth k hk)).cut (trimL ms).length (trimL_prefix ms).2
    rw [Nat.mul_one, nums_take, ← (trimL_prefix ms).1] at hcut
    have hbel4 : Below w.heap.size w (W3.putObj D (.deferred none)) := by
      refine Below.trans ?_ (belowK_b (w := w) (Nat.le_refl _) W3 D _ _ (by omega) hK3 rfl rfl)
      rw [hW3]
      exact ((hbel.setCell (p := ⟨w.heap.size + 1, 1, none⟩) (by simp) _).setCell (p := ⟨w.heap.size, 0, none⟩) (Nat.le_refl _) _).setCell (p := ⟨w.heap.size, 1, none⟩) (Nat.le_refl _) _
    refine ⟨by simp, .inl ⟨_, _, rfl, run_takeDeferred hK3, ?_⟩⟩
    refine ⟨.agg #[.bool false, Value.slice ad (trimL ms).length cap], ?_, ?_⟩
    · simp [results, Try.results58, go_sem, hB4.cell0, hB4.cell1]
    · exact ⟨_, trimL ms, rfl, hcut, trimL_nrm hdig, by rw [trimL_val]; exact Hval.out, hbel4⟩
  case stop =>
    rintro D c pre W _ _ h _
    exact h.elim

set_option maxHeartbeats 2000000 in
set_option maxRecDepth 100000 in
theorem read_neg (s : ByteArray) (w : World) (hs : s.size ≤ 100000) (h0 : 0 < s.size) (hm : s[0] = 45) (t : ByteArray) (ht : s.extract 1 s.size = t) (hd : (bl t).all isDig = true) :
    Calls Try.prog 58 #[.string s] w (ReadPost w true (dval (bl t))) := by
  obtain ⟨i0, hi, hz0, hz1, hz2⟩ := info_parts Try.info_u32
  have hts : t.size ≤ 100000 := by
    have := bl_tail s h0
    rw [ht] at this
    rw [← bl_length, this, List.length_tail, bl_length]; omega
  refine (callsIn_wide (n := 4)).1 ?_
  refine callsIn_of_wp_marks Try.func58 rfl trivial ?_ rfl
  simp only [Try.ntmps58, List.size_toArray, List.length_cons, List.length_nil, Nat.reduceAdd, Nat.reduceSub, Array.replicate_succ, Array.replicate_zero, List.push_toArray, List.append_toArray, List.nil_append, List.cons_append]
  gi_wp2_with fail
  gi_region
  all_goals gi_wp2_with fail
  gi_wp2_with (refine ⟨trivial, ?_⟩; gi_at_call 73; refine (groups_in Fence.wide _ trivial rfl _ _).mono ?_; rintro e w' ⟨rfl, rfl⟩)
  obtain ⟨W0, hW0⟩ : ∃ W0, W0 = (((w.alloc (.cells #[.bool false, .slice none 0 0] 75)).alloc (.cells #[.bool true, .slice none 0 0] 75)).alloc (.cells #[.string t] 9)).drew := ⟨_, rfl⟩
  rw [← hW0]
  have hsz : W0.heap.size = w.heap.size + 3 := by rw [hW0]; simp
  have hI0 : ReadI w true t [] W0 := by
    rw [hW0]
    refine ⟨⟨.slice none 0 0, ?_, World.ownsRow_nil _ _ _ _⟩, ?_, ?_, ?_⟩
    · show (((w.heap.push _).push _).push _)[w.heap.size + 1]? = _
      rw [Array.getElem?_push, if_neg (by simp), Array.getElem?_push, if_pos (by simp)]
    · show (((w.heap.push _).push _).push _)[w.heap.size]? = _
      rw [Array.getElem?_push, if_neg (by simp; omega), Array.getElem?_push, if_neg (by simp), Array.getElem?_push, if_pos rfl]
    · show (((w.heap.push _).push _).push _)[w.heap.size + 1 + 1]? = _
      rw [Array.getElem?_push, if_pos (by simp)]
    · exact ((((Below.refl _ w).alloc (Nat.le_refl _) _).alloc (by simp) _).alloc (by simp; omega) _).drew
  clear hW0
  refine wpIn_rangeFunc_ownG rfl (by decide) (gf := 75) (lb := #[.pointer (some ⟨w.heap.size + 1 + 1, 0, none⟩)]) rfl trivial (enters_of Try.func75 (by kernel_rfl) rfl)
    (groups_stops Fence.wide _ trivial rfl (by decide) (w.heap.size + 1 + 1) t hd (by omega) W0 hI0.2.2.1) (fun h k => Eq.trans k h) (fun W l o o' hl ho hc hk => World.putObj_heap_other (by omega)) (Below.refl _ _) (fun _ => rfl)
    (ReadI w true t) (fun _ _ _ => False) (readI_own _ _ _ _ (by omega)) (fun _ _ _ _ _ hs _ _ => hs) hI0
    (fun x => { tmps := #[.string s, undef, .pointer (some ⟨w.heap.size, 0, none⟩), .pointer (some ⟨w.heap.size + 1, 0, none⟩), .string t, .string x.1, undef, undef, .string s, .string s, .int .u8 45, .bool true, .string s, .string t, .pointer (some ⟨w.heap.size + 1, 0, none⟩), .string t, .func (.func 75) #[] #[.pointer (some ⟨w.heap.size + 1 + 1, 0, none⟩)], .string x.1, undef, undef, undef, undef, undef, undef, undef, undef, undef, undef, undef, undef, undef, undef, undef, undef, undef, undef, undef, undef, undef, undef, undef, undef, undef], defers := [] }) ?assign ?body ?done ?stop
  case assign =>
    intro l x W K hK
    gi_wp2
    exact hK
  case body =>
    rintro l pre x W ⟨⟨v, hv, hrow⟩, hb0, hst, hbel⟩ hlt
    obtain ⟨g, hg9, hgd⟩ := x
    have hg9' : g.size ≤ 9 := hg9
    have hgd' : (bl g).all isDig = true := hgd
    have hpl : pre.length ≤ 12000 := by omega
    gi_wp2_with fail
    gi_loopw [6, 20] (fun a i wr => ∃ k : Nat, k ≤ g.size ∧ i = .int .i64 k ∧ a = .int .u32 (dval ((bl g).take k) : Nat) ∧ Hid (wr = W))
      (fun _ i _ => g.size - (intOf i).toNat)
    case atStart => exact ⟨0, Nat.zero_le _, rfl, rfl, rfl⟩
    case round =>
      obtain ⟨k, hk, rfl, rfl, Hw⟩ := hrel
      obtain rfl : wr = W := Hw.out
      clear Hw
      by_cases hlt2 : k < g.size
      · have hc := isDig_at g hgd' k hlt2
        have hs1 := dval_take_succ g k hlt2
        obtain ⟨c, hcc⟩ : ∃ c, g[k] = c := ⟨_, rfl⟩
        rw [hcc] at hc hs1
        have hlv : dval ((bl g).take k) < 100000000 := by
          have h1 := dval_lt ((bl g).take k) (all_take_of_all isDig _ k hgd')
          have h2 : ((bl g).take k).length ≤ 8 := by rw [List.length_take]; omega
          exact Nat.lt_of_lt_of_le h1 (Nat.pow_le_pow_right (by decide) h2)
        obtain ⟨d, hdd⟩ : ∃ d, dval ((bl g).take k) = d := ⟨_, rfl⟩
        rw [hdd] at hs1 hlv ⊢
        have Hs1 := Lib.hid hs1
        clear hs1 hdd
        gi_wp2
        go_roundw
        case rel => exact ⟨k + 1, by omega, by go_num, by rw [Hs1.out]; go_num, by first | exact rfl | exact trivial⟩
        case measure => simp [intOf]; omega
      · obtain rfl : k = g.size := by omega
        have hgv : dval ((bl g).take g.size) = gval ⟨g, hg9, hgd⟩ := by rw [List.take_of_length_le (by rw [bl_length]; exact Nat.le_refl _)]; rfl
        rw [hgv]
        have hc0 := hv.cell1
        have hf0 := hv.frozen 1
        have hsize := hbel.size
        clear hgv hlt2 hk
        gi_wp2_with (gi_at_builtin; refine wpListIn_append_own _ rfl _ _ 73 rfl w.heap.size 96 i0 (.int .u32 0) 1 4 Try.ul_u32s hi hz0 hz1 hz2 rfl (by decide) _ _ _ rfl (hrow.alloc _) ⟨wr.heap.size, 0, none⟩ 1 1 [.int .u32 ((gval ⟨g, hg9, hgd⟩ : Nat) : Int)] rfl rfl (cell_one_new _ _ _) (int_oneCell _ _) (by unfold maxLen; omega) (by omega) (by simp; omega) ?_; intro v' w1 hown' hgrow _; obtain ⟨g', cap', rfl⟩ := ownsRow_succ hown'; obtain ⟨hv1, hv2, hr2, hk2, hb2, ho2⟩ := hv.appended (by decide) hrow hsize (by omega) hown' hgrow; have hc1 := hv1.cell1; have hf1 := hv1.frozen 1)
        refine ⟨hk2.from _, ho2 _ _ _ hst (by decide) (by omega), ⟨_, hv2, ?_⟩, hb0.of_block (ho2 _ _ _ hb0 (by decide) (by omega)), (ho2 _ _ _ hst (by decide) (by omega)).trans hst, hbel.trans hb2⟩
        rw [List.length_append, List.length_singleton, List.map_append, List.map_singleton, ← nums_snoc]
        exact hr2
  case done =>
    rintro D ys W hD rfl ⟨⟨v, hv, hrow⟩, hb0, hst, hbel⟩ hK
    have hsl := Sl.of_owns hrow
    obtain ⟨ad, cap, rfl, _⟩ := id hsl
    have hn := grps_length t hd ((t.size + 8) / 9)
    have hval := grps_full t hd
    obtain ⟨ms, hms⟩ : ∃ ms, (grps t hd ((t.size + 8) / 9)).map gval = ms := ⟨_, rfl⟩
    have hdig := grps_dig (grps t hd ((t.size + 8) / 9))
    have hlen : (grps t hd ((t.size + 8) / 9)).length = ms.length := by rw [← hms, List.length_map]
    rw [hlen] at hv
    rw [hlen, hms] at hsl hrow
    rw [hms] at hval hdig
    have hml : ms.length ≤ 100000 := by omega
    have Hval := Lib.hid hval
    clear hval hms hlen hn
    have hc1 := hv.cell1
    have hc0 := hv.cell0
    have hf1 := hv.frozen 1
    have hr0 := hb0.cell0
    have hr1 := hb0.cell1
    have hrf0 := hb0.frozen 0
    have hrf1 := hb0.frozen 1
    have Htr := Lib.hid (trim_any _ ms W hsl (by omega))
    clear hsl
    gi_wp2_with fail
    refine ⟨trivial, ?_⟩
    refine (callsIn_wide.2 Htr.out).mono ?_
    rintro e w' ⟨v', rfl, Hv', rfl⟩
    obtain rfl : v' = Value.slice ad (trimL ms).length cap := Hv'.out
    have HK := Lib.hid hK
    have Hrow := Lib.hid hrow
    clear hK hrow
    gi_wp2
    obtain ⟨W3, hW3⟩ : ∃ W3, W3 = (((W.setCell ⟨w.heap.size + 1, 1, none⟩ (Value.slice ad (trimL ms).length cap)).setCell ⟨w.heap.size, 0, none⟩ (Value.bool true)).setCell ⟨w.heap.size, 1, none⟩ (Value.slice ad (trimL ms).length cap)) := ⟨_, rfl⟩
    rw [← hW3]
    have hK3 : W3.heap[D]? = some (.deferred (some [])) := by
      rw [hW3]
      exact (((KeepsOthers.setCell W _ _).trans (KeepsOthers.setCell _ _ _)).trans (KeepsOthers.setCell _ _ _)).same D _ HK.out rfl
    have hB3 : Boxed2 W3 w.heap.size 75 (.bool true) (Value.slice ad (trimL ms).length cap) := by
      rw [hW3]
      exact ((hb0.of_block (Below.heap_setCell _ _ _ _ (by simp))).set0 _).set1 _
    have hB4 : Boxed2 (W3.putObj D (.deferred none)) w.heap.size 75 (.bool true) (Value.slice ad (trimL ms).length cap) := hB3.of_block (World.putObj_heap_other (by omega))
    have hoth : ∀ k, (Value.slice ad ms.length cap).ownBlock = some k → (W3.putObj D (.deferred none)).heap[k]? = W.heap[k]? := by
      intro k hk
      have k1 : k ≠ w.heap.size := fun e => own_not_block Hrow.out hb0 (by decide) (by rw [hk, e])
      have k2 : k ≠ w.heap.size + 1 := fun e => own_not_block Hrow.out hv (by decide) (by rw [hk, e])
      have k3 : k ≠ D := fun e => by
        rcases Hrow.out.2 with ⟨he, _⟩ | ⟨g, _, _, he, _, hgb, _⟩
        · rw [he] at hk; simp [Value.ownBlock] at hk
        · rw [he] at hk
          obtain rfl : g = k := by simpa [Value.ownBlock] using hk
          rw [e, HK.out] at hgb; cases hgb
      rw [World.putObj_heap_other k3, hW3, Below.heap_setCell _ _ _ _ k1, Below.heap_setCell _ _ _ _ k1, Below.heap_setCell _ _ _ _ k2]
    have hcut := ((Sl.of_owns Hrow.out).kept (w' := W3.putObj D (.deferred none)) (fun k hk _ => hoth k hk)).cut (trimL ms).length (trimL_prefix ms).2
    rw [Nat.mul_one, nums_take, ← (trimL_prefix ms).1] at hcut
    have hbel4 : Below w.heap.size w (W3.putObj D (.deferred none)) := by
      refine Below.trans ?_ (belowK_b (w := w) (Nat.le_refl _) W3 D _ _ (by omega) hK3 rfl rfl)
      rw [hW3]
      exact ((hbel.setCell (p := ⟨w.heap.size + 1, 1, none⟩) (by simp) _).setCell (p := ⟨w.heap.size, 0, none⟩) (Nat.le_refl _) _).setCell (p := ⟨w.heap.size, 1, none⟩) (Nat.le_refl _) _
    refine ⟨by simp, .inl ⟨_, _, rfl, run_takeDeferred hK3, ?_⟩⟩
    refine ⟨.agg #[.bool true, Value.slice ad (trimL ms).length cap], ?_, ?_⟩
    · simp [results, Try.results58, go_sem, hB4.cell0, hB4.cell1]
    · exact ⟨_, trimL ms, rfl, hcut, trimL_nrm hdig, by rw [trimL_val]; exact Hval.out, hbel4⟩
  case stop =>
    rintro D c pre W _ _ h _
    exact h.elim

/-- integer.read, of a canonical integer. -/
theorem read_any (s : ByteArray) (w : World) (hs : s.size ≤ 100000) (hc : canonI (bl s) = true) :
    Calls Try.prog 58 #[.string s] w (ReadPost w (isNeg (bl s)) (dval (body (bl s)))) := by
  have hne : 0 < s.size := by
    rcases Nat.eq_zero_or_pos s.size with h | h
    · have e : bl s = [] := List.eq_nil_of_length_eq_zero (by rw [bl_length]; exact h)
      rw [e] at hc; simp [canonI, canonD, body] at hc
    · exact h
  have e := bl_cons s hne
  by_cases hm : s[0] = 45
  · have et := bl_tail s hne
    have e1 : isNeg (bl s) = true := by rw [e, hm]; rfl
    have e2 : body (bl s) = bl (s.extract 1 s.size) := by rw [et, e, hm]; rfl
    rw [e1, e2]
    refine read_neg s w hs hne hm _ rfl ?_
    rw [canonI, e2, canonD] at hc
    simp only [Bool.and_eq_true] at hc
    exact hc.1.2
  · have e0 : (bl s).head? = some s[0] := by rw [e]; rfl
    have e1 : isNeg (bl s) = false := by rw [isNeg, e0]; simpa using hm
    have e2 : body (bl s) = bl s := by rw [body, e0, if_neg]; simpa using hm
    rw [e1, e2]
    refine read_pos s w hs hne ?_
    rw [canonI, e2, canonD] at hc
    simp only [Bool.and_eq_true] at hc
    exact hc.1.2
end Go.Proofs.Ytofbngpckllkoab

namespace Go.Proofs.Ytofbngpckllkoab
open Go.RowKit

theorem below_a1 (w : World) (a : Obj) : Below w.heap.size w (w.alloc a) := (Below.refl _ _).alloc (Nat.le_refl _) _
theorem below_a2 (w : World) (a b : Obj) : Below w.heap.size w ((w.alloc a).alloc b) := (below_a1 w a).alloc (by simp) _
theorem below_a3 (w : World) (a b c : Obj) : Below w.heap.size w (((w.alloc a).alloc b).alloc c) := (below_a2 w a b).alloc (by simp; omega) _

theorem Boxed2.new (w : World) (u v : Value) (t : TypeId) : Boxed2 (w.alloc (.cells #[u, v] t)) w.heap.size t u v := by
  show (w.heap.push _)[w.heap.size]? = _
  simp
theorem Boxed2.alloc {w : World} {B : Nat} {t : TypeId} {u v : Value} (h : Boxed2 w B t u v) (o : Obj) : Boxed2 (w.alloc o) B t u v := h.of_block (Below.heap_alloc _ _ _ h.lt)
theorem Boxed2.below {w w' : World} {B : Nat} {t : TypeId} {u v : Value} (h : Boxed2 w B t u v) (hb : Below w.heap.size w w') : Boxed2 w' B t u v := h.of_block (hb.block _ h.lt)
theorem Boxed2.store {w : World} {B : Nat} {t : TypeId} {u v : Value} (h : Boxed2 w B t u v) (x y : Value) : Boxed2 ((w.setCell ⟨B, 0, none⟩ x).setCell ⟨B, 1, none⟩ y) B t x y := (h.set0 x).set1 y
theorem below_store {B0 B : Nat} {w w1 : World} (hb : Below B0 w w1) (h : B0 ≤ B) (x y : Value) : Below B0 w ((w1.setCell ⟨B, 0, none⟩ x).setCell ⟨B, 1, none⟩ y) :=
  (hb.setCell (p := ⟨B, 0, none⟩) h _).setCell (p := ⟨B, 1, none⟩) h _
end Go.Proofs.Ytofbngpckllkoab

namespace Go.Proofs.Ytofbngpckllkoab
open Go.RowKit

/-- W is w but for new memory. -/
def Ext (w W : World) : Prop := Below w.heap.size w W
theorem Ext.cell {w W : World} (h : Ext w W) {b o : Nat} {v : Value} (hc : w.cell? ⟨b, o, none⟩ = some v) : W.cell? ⟨b, o, none⟩ = some v := by
  rw [Below.cell h (p := ⟨b, o, none⟩) (World.block_lt_of_cell? w _ hc)]; exact hc
theorem Ext.below {w W : World} (h : Ext w W) : Below w.heap.size w W := h
theorem ext_calls {P : Program} {f : FuncId} {args : Array Value} {v : Value} {w : World} (h : ∀ W, Calls P f args W fun e w' => e = .returned v ∧ Below W.heap.size W w') (W : World) (hW : Ext w W) :
    Calls P f args W fun e w'' => e = .returned v ∧ Ext w w'' :=
  (h W).mono fun _ _ ⟨he, hb⟩ => ⟨he, Below.trans hW (hb.mono (Below.size hW))⟩
theorem ext_same {P : Program} {f : FuncId} {args : Array Value} {v : Value} {w : World} (h : ∀ W, Calls P f args W fun e w' => e = .returned v ∧ W = w') (W : World) (hW : Ext w W) :
    Calls P f args W fun e w'' => e = .returned v ∧ Ext w w'' :=
  (h W).mono fun _ _ ⟨he, hb⟩ => ⟨he, hb ▸ hW⟩
theorem wp_region_ext {P : Program} {id : Nat} {Q : Exit → Act → World → Prop} {a : Act} {w : World} {l : List Oper} (F : World → Prop) (hF : ∀ W, Ext w W → F W)
    (hm : P.follows .mixedOrders = true) (hB : Region.lexB .any l.toArray = true)
    (h : (∀ W, Ext w W → F W) → wpQuiet P l.toArray (Ext w) (fun a' => ∀ w', Ext w w' → Q .normal a' w') l a) : (Code.region id l.toArray true).wp P Q a w :=
  wp_region_quiet (C := Ext w) hm hB (Below.drew (Below.refl _ _)) (by simpa using h hF)
end Go.Proofs.Ytofbngpckllkoab

namespace Go.Proofs.Ytofbngpckllkoab
open Go.RowKit

structure Fl where
  d : Int
  fr : ByteArray
  rc : ByteArray
  cy : ByteArray
  am : ByteArray
def Fl.cells (f : Fl) : List Value := [.int .i64 f.d, .string f.fr, .string f.rc, .string f.cy, .string f.am]
def Fl.small (f : Fl) : Prop := f.fr.size ≤ 1100000 ∧ f.rc.size ≤ 1100000 ∧ f.cy.size ≤ 1100000 ∧ f.am.size ≤ 1100000
def Fl.sz (f : Fl) : Nat := f.fr.size + f.rc.size + f.cy.size + f.am.size
theorem Rd.fl {w : World} {ad : Option Addr} {l : List Fl} (h : Rd Fl.cells 5 w ad l) {j : Nat} {f : Fl} (hj : l[j]? = some f) :
    ∃ b off, ad = some ⟨b, off, none⟩ ∧ w.cell? ⟨b, off + j * 5, none⟩ = some (.int .i64 f.d) ∧ w.cell? ⟨b, off + j * 5 + 1, none⟩ = some (.string f.fr) ∧ w.cell? ⟨b, off + j * 5 + 2, none⟩ = some (.string f.rc) ∧ w.cell? ⟨b, off + j * 5 + 3, none⟩ = some (.string f.cy) ∧ w.cell? ⟨b, off + j * 5 + 4, none⟩ = some (.string f.am) := by
  obtain ⟨b, off, rfl, h3⟩ := h j f hj
  exact ⟨b, off, rfl, h3 0 _ rfl, h3 1 _ rfl, h3 2 _ rfl, h3 3 _ rfl, h3 4 _ rfl⟩

def szs (l : List Fl) : Nat := (l.map Fl.sz).sum
theorem szs_succ {l : List Fl} {k : Nat} {f : Fl} (h : l[k]? = some f) : szs (l.take (k + 1)) = szs (l.take k) + f.sz := by
  rw [take_snoc_get h, szs, szs, List.map_append, List.sum_append]; simp
theorem sz_le {l : List Fl} {f : Fl} (h : f ∈ l) : f.sz ≤ szs l := by
  induction l with
  | nil => cases h
  | cons x l ih =>
    simp only [szs, List.map_cons, List.sum_cons] at ih ⊢
    rcases List.mem_cons.1 h with rfl | h
    · omega
    · have := ih h; omega
theorem szs_le (l : List Fl) (M : Nat) (h : ∀ f ∈ l, f.sz ≤ M) : ∀ k, szs (l.take k) ≤ k * M := by
  intro k
  induction k with
  | zero => simp [szs]
  | succ k ih =>
    by_cases hk : k < l.length
    · have hf : l[k]? = some l[k] := List.getElem?_eq_getElem hk
      rw [szs_succ hf, Nat.succ_mul]
      have := h l[k] (List.getElem_mem hk)
      omega
    · rw [List.take_of_length_le (by omega)]
      rw [List.take_of_length_le (by omega)] at ih
      rw [Nat.succ_mul]
      omega
theorem szs_bound (l : List Fl) (h : ∀ f ∈ l, f.small) : ∀ k, szs (l.take k) ≤ k * 4400000 :=
  szs_le l 4400000 fun f hf => by
    obtain ⟨h1, h2, h3, h4⟩ := h f hf
    unfold Fl.sz
    omega
def greatFl (l : List Fl) : Bool := decide (5100 < l.length ∨ (l.length ≤ 5000 ∧ 300 < l.length) ∨ 20000 < szs (l.take 6000))

set_option maxHeartbeats 1000000 in
set_option maxRecDepth 100000 in
theorem greatFl_any (l : List Fl) (ad : Option Addr) (cap : Nat) (w : World) (hn : l.length ≤ 1100000) (hr : Rd Fl.cells 5 w ad l) (hs : ∀ f ∈ l, f.small) :
    Calls Try.prog 4 #[.slice ad l.length cap] w fun e w' => e = .returned (.bool (greatFl l)) ∧ Below w.heap.size w w' := by
  have HB := Lib.hid (szs_bound l hs)
  have HS := Lib.hid hs
  have HR := Lib.hid hr
  clear hs hr
  go_enter Try.func4, Try.ntmps4
  go_wp2_with fail
  go_loopw [3, 4] (fun n i wr => ∃ (k m nq : Nat), k ≤ l.length ∧ k ≤ 6000 ∧ i = .int .i64 k ∧ n = .int .i64 m ∧ Hid (m = szs (l.take k)) ∧ m ≤ k * 4400000 ∧ wr = w.drewN nq) (fun _ i _ => l.length - (intOf i).toNat)
  case atStart => exact ⟨0, 0, 0, by omega, by omega, rfl, rfl, rfl, by omega, rfl⟩
  case round =>
    obtain ⟨k, m, mq, hk, hk6, rfl, rfl, Hm, hm, rfl⟩ := hrel
    by_cases hlt : k < l.length
    · by_cases h6 : k < 6000
      · obtain ⟨f, hf⟩ : ∃ f, l[k]? = some f := ⟨_, List.getElem?_eq_getElem hlt⟩
        have hsm := HS.out f (List.mem_of_getElem? hf)
        obtain ⟨b, off, rfl, c0, c1, c2, c3, c4⟩ := HR.out.fl hf
        obtain ⟨s1, s2, s3, s4⟩ := hsm
        have H2 : Hid (m + f.fr.size + f.rc.size + f.cy.size + f.am.size = szs (l.take (k + 1))) := by
          show _ = _
          rw [szs_succ hf, ← Hm.out, Fl.sz]; omega
        clear hf
        have t1 : decide ((k : Int) < (l.length : Int)) = true := by rw [decide_eq_true_eq]; omega
        have t2 : decide ((k : Int) < 6000) = true := by rw [decide_eq_true_eq]; omega
        have hk1 : (0 : Int) ≤ (k : Int) := by omega
        have hk2 : (k : Int) < (l.length : Int) := by omega
        have e1 : IntKind.i64.wrap ((m : Int) + (f.fr.size : Int)) = (m : Int) + (f.fr.size : Int) := IntWalk.i64_in _ (by omega)
        have e2 : IntKind.i64.wrap ((m : Int) + (f.fr.size : Int) + (f.rc.size : Int)) = (m : Int) + (f.fr.size : Int) + (f.rc.size : Int) := IntWalk.i64_in _ (by omega)
        have e3 : IntKind.i64.wrap ((m : Int) + (f.fr.size : Int) + (f.rc.size : Int) + (f.cy.size : Int)) = (m : Int) + (f.fr.size : Int) + (f.rc.size : Int) + (f.cy.size : Int) := IntWalk.i64_in _ (by omega)
        have e4 : IntKind.i64.wrap ((m : Int) + (f.fr.size : Int) + (f.rc.size : Int) + (f.cy.size : Int) + (f.am.size : Int)) = (m : Int) + (f.fr.size : Int) + (f.rc.size : Int) + (f.cy.size : Int) + (f.am.size : Int) := IntWalk.i64_in _ (by omega)
        have hm2 : m + f.fr.size + f.rc.size + f.cy.size + f.am.size ≤ (k + 1) * 4400000 := by rw [Nat.add_mul]; omega
        have HM2 := Lib.hid hm2
        clear hm2
        go_wp2_with fail
        go_quiet (fail)
        clear e1 e2 e3 e4
        go_wp2
        go_roundw
        case rel => exact ⟨k + 1, m + f.fr.size + f.rc.size + f.cy.size + f.am.size, _, by omega, by omega, by go_num, by go_num, H2, HM2.out, rfl⟩
        case measure => simp [intOf]; omega
      · obtain rfl : k = 6000 := by omega
        have HM : Hid (m = szs (l.take 6000)) := Hm
        have t1 : decide (((6000 : Nat) : Int) < (l.length : Int)) = true := by rw [decide_eq_true_eq]; omega
        have t1' : decide ((6000 : Int) < (l.length : Int)) = true := by rw [decide_eq_true_eq]; omega
        clear Hm hm
        have HE : Hid (∀ c1 c2 c3 c4, decide ((5100 : Int) < (l.length : Int)) = c1 → decide ((l.length : Int) ≤ 5000) = c2 → decide ((300 : Int) < (l.length : Int)) = c3 → decide ((20000 : Int) < (m : Int)) = c4 → greatFl l = (c1 || ((c2 && c3) || c4))) := by
          rintro c1 c2 c3 c4 rfl rfl rfl rfl
          rw [greatFl, ← HM.out, Bool.eq_iff_iff]
          simp only [Bool.or_eq_true, Bool.and_eq_true, decide_eq_true_eq]
          omega
        obtain ⟨c1, h1⟩ : ∃ c, decide ((5100 : Int) < (l.length : Int)) = c := ⟨_, rfl⟩
        obtain ⟨c2, h2⟩ : ∃ c, decide ((l.length : Int) ≤ 5000) = c := ⟨_, rfl⟩
        obtain ⟨c3, h3⟩ : ∃ c, decide ((300 : Int) < (l.length : Int)) = c := ⟨_, rfl⟩
        obtain ⟨c4, h4⟩ : ∃ c, decide ((20000 : Int) < (m : Int)) = c := ⟨_, rfl⟩
        have HF := Lib.hid (HE.out c1 c2 c3 c4 h1 h2 h3 h4)
        clear HE
        cases c1 <;> cases c2 <;> cases c3 <;> cases c4
        all_goals
          go_wp2
          go_ret
          exact ⟨ret_bool' HF.out.symm, below_drewN (Below.refl _ _) _⟩
    · obtain rfl : k = l.length := by omega
      have HM : Hid (m = szs (l.take 6000)) := by
        show _ = _
        rw [Hm.out, List.take_of_length_le (Nat.le_refl _), List.take_of_length_le hk6]
      clear Hm hm
      have HE : Hid (∀ c1 c2 c3 c4, decide ((5100 : Int) < (l.length : Int)) = c1 → decide ((l.length : Int) ≤ 5000) = c2 → decide ((300 : Int) < (l.length : Int)) = c3 → decide ((20000 : Int) < (m : Int)) = c4 → greatFl l = (c1 || ((c2 && c3) || c4))) := by
        rintro c1 c2 c3 c4 rfl rfl rfl rfl
        rw [greatFl, ← HM.out, Bool.eq_iff_iff]
        simp only [Bool.or_eq_true, Bool.and_eq_true, decide_eq_true_eq]
        omega
      obtain ⟨c1, h1⟩ : ∃ c, decide ((5100 : Int) < (l.length : Int)) = c := ⟨_, rfl⟩
      obtain ⟨c2, h2⟩ : ∃ c, decide ((l.length : Int) ≤ 5000) = c := ⟨_, rfl⟩
      obtain ⟨c3, h3⟩ : ∃ c, decide ((300 : Int) < (l.length : Int)) = c := ⟨_, rfl⟩
      obtain ⟨c4, h4⟩ : ∃ c, decide ((20000 : Int) < (m : Int)) = c := ⟨_, rfl⟩
      have HF := Lib.hid (HE.out c1 c2 c3 c4 h1 h2 h3 h4)
      clear HE
      cases c1 <;> cases c2 <;> cases c3 <;> cases c4
      all_goals
        go_wp2
        go_ret
        exact ⟨ret_bool' HF.out.symm, below_drewN (Below.refl _ _) _⟩

/-- A flow equals itself, as the program compares. -/
theorem eqv_fl (f : Fl) (w : World) : (Op.equalIn 10000 35 (.agg #[.int .i64 f.d, .string f.fr, .string f.rc, .string f.cy, .string f.am]) (.agg #[.int .i64 f.d, .string f.fr, .string f.rc, .string f.cy, .string f.am])).run Try.prog w = .ok true w := by
  have hS : Try.prog.underlying 35 = some (.struct (Try.prog.fieldsOf 35)) := by kernel_rfl
  have hp : Try.prog.stoodInHeld 35 = false := by kernel_rfl
  rw [show (10000 : Nat) = 9999 + 1 from rfl, run_equalIn_agg w 9999 _ _ _ hS hp]
  simp only [Program.fieldsOf, Try.underlying35]
  go_simp

set_option maxHeartbeats 1000000 in
set_option maxRecDepth 100000 in
theorem sameFl_any (l : List Fl) (a b : Option Addr) (c d : Nat) (w : World) (hn : l.length ≤ 1100000) (ha : Rd Fl.cells 5 w a l) (hb : Rd Fl.cells 5 w b l) :
    Calls Try.prog 9 #[.slice a l.length c, .slice b l.length d] w fun e w' => e = .returned (.bool true) ∧ Below w.heap.size w w' := by
  have HA := Lib.hid ha
  have HB := Lib.hid hb
  clear ha hb
  have t0 : ((l.length : Int) != (l.length : Int)) = false := by simp
  go_enter Try.func9, Try.ntmps9
  go_wp2_with fail
  go_loopw [5] (fun i wr => ∃ (k nq : Nat), k ≤ l.length ∧ i = .int .i64 k ∧ wr = w.drewN nq) (fun i _ => l.length - (intOf i).toNat)
  case atStart => exact ⟨0, 0, by omega, rfl, rfl⟩
  case round =>
    obtain ⟨k, mq, hk, rfl, rfl⟩ := hrel
    by_cases hlt : k < l.length
    · obtain ⟨f, hf⟩ : ∃ f, l[k]? = some f := ⟨_, List.getElem?_eq_getElem hlt⟩
      obtain ⟨b1, off, rfl, c0, c1, c2, c3, c4⟩ := HA.out.fl hf
      obtain ⟨b2, off2, rfl, d0, d1, d2, d3, d4⟩ := HB.out.fl hf
      have hq : ∀ W, (Op.equalIn 10000 35 (.agg #[.int .i64 f.d, .string f.fr, .string f.rc, .string f.cy, .string f.am]) (.agg #[.int .i64 f.d, .string f.fr, .string f.rc, .string f.cy, .string f.am])).run Try.prog W = .ok true W := fun W => eqv_fl f W
      have hk1 : (0 : Int) ≤ (k : Int) := by omega
      have hk2 : (k : Int) < (l.length : Int) := by omega
      clear hf
      go_wp2
      go_quiet (fail)
      go_wp2
      go_roundw
      case rel => exact ⟨k + 1, _, by omega, by go_num, rfl⟩
      case measure => simp [intOf]; omega
    · obtain rfl : k = l.length := by omega
      go_wp2
      go_ret
      exact ⟨rfl, below_drewN (Below.refl _ _) _⟩
end Go.Proofs.Ytofbngpckllkoab

namespace Go.Proofs.Ytofbngpckllkoab
open Go.RowKit Go.ChangeShapes Go.WideShapes Go.Deep

theorem bulk_one {H : Type} (d : DataW H) : 1 ≤ Rows.uptoBulk d := by
  cases d with
  | lit l => cases l <;> simp [Rows.uptoBulk]
  | _ => simp [Rows.uptoBulk]
theorem bulk_part {H : Type} {d : DataW H} {l : List (DataW H)} (h : d ∈ l) : Rows.uptoBulk d ≤ Rows.uptoBulkAll l := by
  induction l with
  | nil => cases h
  | cons x r ih =>
    simp only [Rows.uptoBulkAll]
    rcases List.mem_cons.1 h with e | e
    · subst e; omega
    · have := ih e; omega
theorem bulk_length {H : Type} (l : List (DataW H)) : l.length ≤ Rows.uptoBulkAll l := by
  induction l with
  | nil => simp [Rows.uptoBulkAll]
  | cons x r ih => have := bulk_one x; simp only [Rows.uptoBulkAll, List.length_cons]; omega
theorem bulk_agg {H : Type} {d : DataW H} {l : List (DataW H)} (h : d ∈ l) : Rows.uptoBulk d ≤ Rows.uptoBulk (.agg l) := by
  have := bulk_part h
  simp only [Rows.uptoBulk]; omega
theorem bulk_text {H : Type} (s : ByteArray) : s.size ≤ Rows.uptoBulk (DataW.lit (H := H) (.string s.data.toList)) := by
  simp only [Rows.uptoBulk, Array.length_toList]
  show s.data.size ≤ _
  omega

theorem list_of {α : Type} {Q : Nat → α → Prop} : ∀ n : Nat, (∀ i, i < n → ∃ x, Q i x) → ∃ l : List α, l.length = n ∧ ∀ i x, l[i]? = some x → Q i x
  | 0, _ => ⟨[], rfl, by simp⟩
  | n + 1, h => by
    obtain ⟨l, hl, hq⟩ := list_of n (fun i hi => h i (by omega))
    obtain ⟨x, hx⟩ := h n (by omega)
    refine ⟨l ++ [x], by simp [hl], fun i y hy => ?_⟩
    by_cases hi : i < l.length
    · rw [List.getElem?_append_left hi] at hy
      exact hq i y hy
    · have hi2 := (List.getElem?_eq_some_iff.1 hy).1
      simp at hi2
      obtain rfl : i = l.length := by omega
      simp at hy
      rw [hl, ← hy]; exact hx

theorem flat_inv {α : Type} (enc : α → List Value) (m : Nat) (hm : ∀ x, (enc x).length = m) (hm0 : 0 < m) : ∀ (l : List α) (j : Nat) (u : Value), (l.flatMap enc)[j]? = some u → ∃ i k x, j = i * m + k ∧ k < m ∧ l[i]? = some x ∧ (enc x)[k]? = some u
  | [], j, u, h => by simp at h
  | y :: l, j, u, h => by
    rw [List.flatMap_cons] at h
    by_cases hj : j < m
    · rw [List.getElem?_append_left (by rw [hm]; exact hj)] at h
      exact ⟨0, j, y, by simp, hj, rfl, h⟩
    · rw [List.getElem?_append_right (by rw [hm]; omega), hm] at h
      obtain ⟨i, k, x, h1, h2, h3, h4⟩ := flat_inv enc m hm hm0 l (j - m) u h
      exact ⟨i + 1, k, x, by rw [Nat.add_mul, Nat.one_mul]; omega, h2, by simpa using h3, h4⟩

section
variable {H : Type} {enc : TypeId × Value → H} {P : Program} {w : World} {sp : Nat → Bool} {held : Bool}

theorem open_list {α : Type} (en : α → List Value) (m : Nat) (hm : ∀ x, (en x).length = m) (hm0 : 0 < m) (good : α → DataW H → Prop) {t e : TypeId} {fuel : Nat} {v : Value} {y : DataW H × List MemPlace}
    (ht : P.underlying t = some (.slice e)) (hc : P.cellsOf e = m)
    (dec : ∀ (n : Nat) (cs : List Value) (z : DataW H × List MemPlace), cs.length = m → DataW.trod enc P w 0 sp held n e cs = some z → ∃ x, cs = en x ∧ good x z.1)
    (h : DataW.trod enc P w 0 sp held fuel t [v] = some y) :
    ∃ (ad : Option Addr) (cap : Nat) (l : List α), v = .slice ad l.length cap ∧ (ad = none → cap = 0) ∧ Sl w (.slice ad l.length cap) m l.length (l.flatMap en) ∧
      l.length ≤ Rows.uptoBulk y.1 ∧ ∀ x ∈ l, ∃ d, good x d ∧ Rows.uptoBulk d ≤ Rows.uptoBulk y.1 := by
  rcases open_slice ht h with ⟨h0, hy⟩ | ⟨a, len, cap, mm, n, D, Pl, hcs, hb, hl, hmx, hmm, hx, hi⟩
  · simp at h0
    exact ⟨none, 0, [], h0, fun _ => rfl, Sl.empty w none 0 m, Nat.zero_le _, by simp⟩
  · have hlm : len ≤ mm := by rw [hmm]; split <;> omega
    obtain ⟨l, hll, hq⟩ := list_of (Q := fun i x => w.cells? 0 (a.add (i * m)) m = some (en x) ∧ good x (D i)) len (fun i hil => by
      obtain ⟨cs', h1, h2⟩ := hi i (by omega)
      rw [hc] at h1
      obtain ⟨x, hx, hg⟩ := dec n cs' _ (World.cells?_some h1).2.1 h2
      exact ⟨x, by rw [← hx]; exact h1, hg⟩)
    have hspot : 0 < len → a.spot = none := fun h0 => by
      obtain ⟨x, hx⟩ : ∃ x, l[0]? = some x := ⟨_, List.getElem?_eq_getElem (by omega)⟩
      have h1 := (World.cells?_some (hq 0 x hx).1).2.2 0 hm0
      rw [Nat.zero_mul] at h1
      have h2 : w.cell? a = (en x)[0]? := h1
      rw [List.getElem?_eq_getElem (by rw [hm]; exact hm0)] at h2
      simp only [World.cell?] at h2
      cases hsp : a.spot with
      | none => rfl
      | some k => rw [hsp] at h2; simp at h2; split at h2 <;> simp at h2
    simp at hcs
    have hbulk : ∀ i, i < len → Rows.uptoBulk (D i) ≤ Rows.uptoBulk y.1 := fun i hil => by
      have := bulk_part (H := H) (d := D i) (l := (List.range len).map D) (List.mem_map.2 ⟨i, by simpa using hil, rfl⟩)
      rw [hx]
      simp only [Rows.uptoBulk]
      omega
    refine ⟨some a, cap, l, by rw [hll]; exact hcs, fun h => (by cases h), ?_, ?_, ?_⟩
    · refine ⟨some a, cap, rfl, by omega, flat_length en m hm l, ?_⟩
      by_cases h0 : l.length = 0
      · exact .inl h0
      · right
        have hs := hspot (by omega)
        obtain ⟨b, off, sp⟩ := a
        simp at hs
        subst hs
        refine ⟨b, off, rfl, fun j u hj => ?_⟩
        obtain ⟨i, k, x, rfl, hk, h3, h4⟩ := flat_inv en m hm hm0 l j u hj
        have h5 := (World.cells?_some (hq i x h3).1).2.2 k hk
        rw [h4] at h5
        rw [← h5]
        congr 1
        simp only [Addr.add]
        split <;> split <;> simp_all <;> omega
    · have h1 := bulk_length ((List.range len).map D)
      rw [List.length_map, List.length_range] at h1
      rw [hx]
      simp only [Rows.uptoBulk]
      omega
    · intro x hxl
      obtain ⟨i, hix⟩ := List.getElem?_of_mem hxl
      have hil := (List.getElem?_eq_some_iff.1 hix).1
      exact ⟨D i, (hq i x hix).2, hbulk i (by omega)⟩

theorem arr2 {α : Type} {l : List α} (h : l.length = 2) : ∃ a b, l = [a, b] := by
  match l, h with
  | [a, b], _ => exact ⟨a, b, rfl⟩
theorem arr3 {α : Type} {l : List α} (h : l.length = 3) : ∃ a b c, l = [a, b, c] := by
  match l, h with
  | [a, b, c], _ => exact ⟨a, b, c, rfl⟩
theorem arr4 {α : Type} {l : List α} (h : l.length = 4) : ∃ a b c d, l = [a, b, c, d] := by
  match l, h with
  | [a, b, c, d], _ => exact ⟨a, b, c, d, rfl⟩
end
end Go.Proofs.Ytofbngpckllkoab

namespace Go.Proofs.Ytofbngpckllkoab
open Go.RowKit Go.ChangeShapes Go.WideShapes Go.Deep

section
variable {H : Type} {enc : TypeId × Value → H} {w : World} {sp : Nat → Bool} {held : Bool}
theorem arr5 {α : Type} {l : List α} (h : l.length = 5) : ∃ a b c d e, l = [a, b, c, d, e] := by
  match l, h with
  | [a, b, c, d, e], _ => exact ⟨a, b, c, d, e, rfl⟩
theorem cells_rat : Try.prog.cellsOf 24 = 1 := by kernel_rfl
theorem cells_int : Try.prog.cellsOf 3 = 1 := by kernel_rfl
theorem cells_string : Try.prog.cellsOf 9 = 1 := by kernel_rfl

theorem dec_fl {n : Nat} {cs : List Value} {z : DataW H × List MemPlace} (hl : cs.length = 5) (h : DataW.trod enc Try.prog w 0 sp held n 35 cs = some z) :
    ∃ f : Fl, cs = f.cells ∧ (Rows.uptoBulk z.1 ≤ 1048576 → f.small) := by
  obtain ⟨c0, c1, c2, c3, c4, rfl⟩ := arr5 hl
  obtain ⟨xs, n', _, hz, _, hxl, hf⟩ := DataW.trod_struct Try.underlying35 h
  obtain ⟨y0, y1, y2, y3, y4, rfl⟩ := arr5 hxl
  have h0 := hf 0 _ rfl
  have h1 := hf 1 _ rfl
  have h2 := hf 2 _ rfl
  have h3 := hf 3 _ rfl
  have h4 := hf 4 _ rfl
  simp [cells_string, cells_int, cells_rat] at h0 h1 h2 h3 h4
  obtain ⟨d, hd, rfl, _⟩ := DataW.trod_int Try.underlying3 h0
  obtain ⟨s1, hs1, rfl, _⟩ := DataW.trod_string Try.underlying9 h1
  obtain ⟨s2, hs2, rfl, _⟩ := DataW.trod_string Try.underlying9 h2
  obtain ⟨s3, hs3, rfl, _⟩ := DataW.trod_string Try.underlying9 h3
  obtain ⟨s4, hs4, rfl, _⟩ := DataW.trod_string Try.underlying24 h4
  simp at hd hs1 hs2 hs3 hs4
  subst hd hs1 hs2 hs3 hs4
  refine ⟨⟨d, s1, s2, s3, s4⟩, rfl, fun hb => ?_⟩
  rw [hz] at hb
  have hb' : Rows.uptoBulk (DataW.agg (H := H) [.lit (.int .i64 d), .lit (.string s1.data.toList), .lit (.string s2.data.toList), .lit (.string s3.data.toList), .lit (.string s4.data.toList)]) ≤ 1048576 := hb
  have b : ∀ s : ByteArray, .lit (.string s.data.toList) ∈ [DataW.lit (H := H) (.int .i64 d), .lit (.string s1.data.toList), .lit (.string s2.data.toList), .lit (.string s3.data.toList), .lit (.string s4.data.toList)] → s.size ≤ 1100000 := fun s hs => by
    have h1 := bulk_agg (H := H) hs
    have h2 := bulk_text (H := H) s
    omega
  exact ⟨b s1 (by simp), b s2 (by simp), b s3 (by simp), b s4 (by simp)⟩
end
end Go.Proofs.Ytofbngpckllkoab
