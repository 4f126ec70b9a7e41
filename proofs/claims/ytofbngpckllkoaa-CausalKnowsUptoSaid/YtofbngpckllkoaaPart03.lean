/-
  integer.read. (Printed by a program of this work.) integer.pair. slices.Reverse of bytes of the call's own.
-/
import Derived.Test.YtofbngpckllkoaaPart02
namespace Go.Proofs.Ytofbngpckllkoaa
open Go.RowKit Go.Shelf
attribute [local go_sem] Oper.semAt_some

/-- A variable of two cells. -/
def Boxed2 (W : World) (B : Nat) (t : TypeId) (u v : Value) : Prop := W.heap[B]? = some (.cells #[u, v] t (0, 0))
theorem Boxed2.lt {W : World} {B : Nat} {t : TypeId} {u v : Value} (h : Boxed2 W B t u v) : B < W.heap.size := (Array.getElem?_eq_some_iff.1 h).1
theorem Boxed2.cell0 {W : World} {B : Nat} {t : TypeId} {u v : Value} (h : Boxed2 W B t u v) : W.cell? ⟨B, 0, none⟩ = some u := by simp [World.cell?, show W.heap[B]? = _ from h]
theorem Boxed2.cell1 {W : World} {B : Nat} {t : TypeId} {u v : Value} (h : Boxed2 W B t u v) : W.cell? ⟨B, 1, none⟩ = some v := by simp [World.cell?, show W.heap[B]? = _ from h]
theorem Boxed2.frozen {W : World} {B : Nat} {t : TypeId} {u v : Value} (h : Boxed2 W B t u v) (o : Nat) : W.frozen? ⟨B, o, none⟩ = false := by simp [World.frozen?, show W.heap[B]? = _ from h]
theorem Boxed2.of_block {W W' : World} {B : Nat} {t : TypeId} {u v : Value} (h : Boxed2 W B t u v) (e : W'.heap[B]? = W.heap[B]?) : Boxed2 W' B t u v := e.trans h
theorem heap_set_same {W : World} {B : Nat} {c : Array Value} {t : TypeId} {q : Nat × Nat} (h : W.heap[B]? = some (.cells c t q)) (o : Nat) (x : Value) : (W.setCell ⟨B, o, none⟩ x).heap[B]? = some (.cells (c.setIfInBounds o x) t q) := by
  obtain ⟨hlt, hk⟩ := Array.getElem?_eq_some_iff.1 h
  show (W.heap.modify B _)[B]? = _
  rw [Array.getElem?_eq_getElem (by rw [Array.size_modify]; exact hlt), Array.getElem_modify_self, hk]
  rfl
theorem Boxed2.set1 {W : World} {B : Nat} {t : TypeId} {u v : Value} (h : Boxed2 W B t u v) (x : Value) : Boxed2 (W.setCell ⟨B, 1, none⟩ x) B t u x := heap_set_same h 1 x
theorem Boxed2.set0 {W : World} {B : Nat} {t : TypeId} {u v : Value} (h : Boxed2 W B t u v) (x : Value) : Boxed2 (W.setCell ⟨B, 0, none⟩ x) B t x v := heap_set_same h 0 x
/-- A row of the call's own is not a block of another type. -/
theorem own_not_block {W : World} {e t : TypeId} {base size k B : Nat} {v : Value} {xs : List Value} {c : Array Value} (hr : W.ownsRow base e size v k xs) (hb : W.heap[B]? = some (.cells c t (0, 0))) (hte : t ≠ e) : v.ownBlock ≠ some B := by
  intro e'
  rcases hr.2 with ⟨rfl, _⟩ | ⟨g, cap, cur, rfl, _, hgb, _⟩
  · simp [Value.ownBlock] at e'
  · obtain rfl : g = B := by simpa [Value.ownBlock] using e'
    rw [hb] at hgb
    simp at hgb
    exact hte hgb.2
/-- 'n.f = append(n.f, x)', n a variable of two cells. -/
theorem Boxed2.appended {W w1 : World} {n₀ B : Nat} {t e : TypeId} {u v v' : Value} {k m : Nat} {xs ys : List Value} {tmp : Obj}
    (hv : Boxed2 W B t u v) (hte : t ≠ e) (hrow : W.ownsRow n₀ e 1 v k xs) (hn₀ : n₀ ≤ W.heap.size) (hB : n₀ ≤ B)
    (hown' : w1.ownsRow n₀ e 1 v' m ys) (hgrow : (W.alloc tmp).grownBy w1 v.ownBlock) :
    Boxed2 w1 B t u v ∧ Boxed2 (w1.setCell ⟨B, 1, none⟩ v') B t u v' ∧ (w1.setCell ⟨B, 1, none⟩ v').ownsRow n₀ e 1 v' m ys ∧ KeepsOthers W (w1.setCell ⟨B, 1, none⟩ v') ∧ Below n₀ W (w1.setCell ⟨B, 1, none⟩ v') ∧
      (∀ (C : Nat) (c : Array Value) (tc : TypeId), W.heap[C]? = some (.cells c tc (0, 0)) → tc ≠ e → C ≠ B → (w1.setCell ⟨B, 1, none⟩ v').heap[C]? = W.heap[C]?) := by
  have ha : ∀ C, C < W.heap.size → (W.alloc tmp).heap[C]? = W.heap[C]? := fun C hC => Below.heap_alloc W tmp C hC
  have hne : v.ownBlock ≠ some B := own_not_block hrow hv hte
  have hv1 : Boxed2 w1 B t u v := hv.of_block ((hgrow.block B (by have := hv.lt; simp; omega) (Ne.symm hne)).trans (ha B hv.lt))
  refine ⟨hv1, hv1.set1 v', ownsRow_kept hown' (fun g hg _ => Below.heap_setCell _ _ _ _ (fun e2 => own_not_block hown' hv1 hte (by rw [hg]; exact congrArg some e2))), ?_, ?_, ?_⟩
  · refine ((KeepsOthers.alloc W tmp).trans (KeepsOthers.of_grownBy hgrow fun j o ej hj => ?_)).trans (KeepsOthers.setCell _ _ _)
    rcases (hrow.alloc tmp).2 with ⟨rfl, _⟩ | ⟨g, cap, cur, rfl, _, hgb, _⟩
    · simp [Value.ownBlock] at ej
    · obtain rfl : g = j := by simpa [Value.ownBlock] using ej
      rw [hgb] at hj; cases hj; rfl
  · refine (((Below.refl n₀ W).alloc hn₀ tmp).grown hgrow (by simp; omega) fun j ej => (hrow.lt j ej).1).setCell (p := ⟨B, 1, none⟩) hB v'
  · intro C c tc hC htc hCB
    have hlt := (Array.getElem?_eq_some_iff.1 hC).1
    rw [Below.heap_setCell _ _ _ _ hCB, hgrow.block C (by simp; omega) (Ne.symm (own_not_block hrow hC htc)), ha C hlt]

/-- What holds of the reader's own cells between two rounds: neg, the string's block. -/
def ReadI (w : World) (neg : Bool) (t : ByteArray) (pre : List Grp) (W : World) : Prop :=
  (∃ v, Boxed2 W (w.heap.size + 1) 90 (.bool neg) v ∧ W.ownsRow w.heap.size 103 1 v pre.length (nums .u32 (pre.map gval))) ∧
    Boxed2 W w.heap.size 90 (.bool false) (.slice none 0 0) ∧ W.heap[w.heap.size + 1 + 1]? = some (.cells #[.string t] 9 (0, 0)) ∧ Below w.heap.size w W

theorem kept_cells {X Y : World} {row : Option Nat} {B : Nat} {c : Array Value} {t : TypeId} {q : Nat × Nat} (h : X.heap[B]? = some (.cells c t q)) (hg : X.grownBy Y row)
    (hrow : ∀ r, row = some r → ∃ o : Obj, X.heap[r]? = some o ∧ o.isCells = false) : Y.heap[B]? = X.heap[B]? := by
  refine hg.block B (Array.getElem?_eq_some_iff.1 h).1 (fun e => ?_)
  obtain ⟨o, ho, hc⟩ := hrow B e.symm
  rw [h] at ho; cases ho; cases hc

theorem readI_own (w : World) (neg : Bool) (t : ByteArray) (B : Nat) (hB : w.heap.size ≤ B) : OwnFrom B (ReadI w neg t) := by
  rintro pre X Y row ⟨⟨v, hv, hr⟩, hb, hs, hbel⟩ hg hrow
  have hrow2 : ∀ r, row = some r → ∃ o : Obj, X.heap[r]? = some o ∧ o.isCells = false := fun r e => (hrow r e).2
  refine ⟨⟨v, hv.of_block (kept_cells hv hg hrow2), ?_⟩, hb.of_block (kept_cells hb hg hrow2), (kept_cells hs hg hrow2).trans hs, hbel.grown hg hbel.size (fun k e => Nat.le_trans hB (hrow k e).1)⟩
  refine ownsRow_kept hr (fun k hk _ => ?_)
  rcases hr.2 with ⟨rfl, _⟩ | ⟨g, cap, cur, rfl, _, hgb, _⟩
  · simp [Value.ownBlock] at hk
  · obtain rfl : g = k := by simpa [Value.ownBlock] using hk
    exact kept_cells hgb hg hrow2

def ReadPost (w : World) (neg : Bool) (n : Nat) (e : Ending) (w' : World) : Prop :=
  ∃ v rs, e = .returned (.agg #[.bool neg, v]) ∧ Sl w' v 1 rs.length (nums .u32 rs) ∧ Nrm 1000000000 rs ∧ Go.Proofs.Ytofbngpckllkoaa.val 1000000000 rs = n ∧ Below w.heap.size w w'

set_option maxHeartbeats 2000000 in
set_option maxRecDepth 100000 in
theorem read_pos (s : ByteArray) (w : World) (hs : s.size ≤ 100000) (h0 : 0 < s.size) (hd : (bl s).all isDig = true) :
    Calls Try.prog 60 #[.string s] w (ReadPost w false (dval (bl s))) := by
  obtain ⟨i0, hi, hz0, hz1, hz2⟩ := info_parts Try.info_u32
  obtain ⟨c0, hc0⟩ : ∃ c, s[0] = c := ⟨_, rfl⟩
  have hcd := isDig_at s hd 0 h0
  rw [hc0] at hcd
  have hm1 : ((c0.toNat : Int) == 45) = false := by rw [beq_eq_false_iff_ne]; omega
  refine (callsIn_wide (n := 4)).1 ?_
  refine callsIn_of_wp_marks Try.func60 rfl trivial ?_ rfl
  simp only [Try.ntmps60, List.size_toArray, List.length_cons, List.length_nil, Nat.reduceAdd, Nat.reduceSub, Array.replicate_succ, Array.replicate_zero, List.push_toArray, List.append_toArray, List.nil_append, List.cons_append]
  gi_wp2_with (refine ⟨trivial, ?_⟩; gi_at_call 72; refine (groups_in Fence.wide _ trivial rfl _ _).mono ?_; rintro e w' ⟨rfl, rfl⟩)
  obtain ⟨W0, hW0⟩ : ∃ W0, W0 = (((w.alloc (.cells #[.bool false, .slice none 0 0] 90)).alloc (.cells #[.bool false, .slice none 0 0] 90)).alloc (.cells #[.string s] 9)) := ⟨_, rfl⟩
  rw [← hW0]
  have hsz : W0.heap.size = w.heap.size + 3 := by rw [hW0]; simp
  have hI0 : ReadI w false s [] W0 := by
    rw [hW0]
    refine ⟨⟨.slice none 0 0, ?_, World.ownsRow_nil _ _ _ _⟩, ?_, ?_, ?_⟩
    · show (((w.heap.push _).push _).push _)[w.heap.size + 1]? = _
      rw [Array.getElem?_push, if_neg (by simp), Array.getElem?_push, if_pos (by simp)]
    · show (((w.heap.push _).push _).push _)[w.heap.size]? = _
      rw [Array.getElem?_push, if_neg (by simp; omega), Array.getElem?_push, if_neg (by simp), Array.getElem?_push, if_pos rfl]
    · show (((w.heap.push _).push _).push _)[w.heap.size + 1 + 1]? = _
      rw [Array.getElem?_push, if_pos (by simp)]
    · exact (((Below.refl _ w).alloc (Nat.le_refl _) _).alloc (by simp) _).alloc (by simp; omega) _
  clear hW0
  refine wpIn_rangeFunc_ownG rfl (by decide) (gf := 78) (lb := #[.pointer (some ⟨w.heap.size + 1 + 1, 0, none⟩)]) rfl trivial (enters_of Try.func78 (by kernel_rfl) rfl)
    (groups_stops Fence.wide _ trivial rfl (by decide) (w.heap.size + 1 + 1) s hd (by omega) W0 hI0.2.2.1) (fun h k => Eq.trans k h) (fun W l o o' hl ho hc hk => World.putObj_heap_other (by omega)) (Below.refl _ _) (fun _ => rfl)
    (ReadI w false s) (fun _ _ _ => False) (readI_own _ _ _ _ (by omega)) (fun _ _ _ _ _ hs _ _ => hs) hI0
    (fun x => { tmps := #[.string s, undef, .pointer (some ⟨w.heap.size, 0, none⟩), .pointer (some ⟨w.heap.size + 1, 0, none⟩), .string s, .string x.1, undef, undef, .string s, .string s, .int .u8 c0.toNat, .bool false, undef, undef, undef, .string s, .func (.func 78) #[] #[.pointer (some ⟨w.heap.size + 1 + 1, 0, none⟩)], .string x.1, undef, undef, undef, undef, undef, undef, undef, undef, undef, undef, undef, undef, undef, undef, undef, undef, undef, undef, undef, undef, undef, undef, undef, undef, undef], defers := [] }) ?assign ?body ?done ?stop
  case assign =>
    intro l x W K hK
    gi_wp2
    exact hK
  case body =>
    rintro l pre x W ⟨⟨v, hv, hrow⟩, hb0, hst, hbel⟩ hlt
    obtain ⟨g, hg9, hgd⟩ := x
    have hg9' : g.size ≤ 9 := hg9
    have hgd' : (bl g).all isDig = true := hgd
    have hpl : pre.length ≤ 12000 := by omega
    gi_wp2_with fail
    gi_loopw [6, 20] (fun a i wr => ∃ k : Nat, k ≤ g.size ∧ i = .int .i64 k ∧ a = .int .u32 (dval ((bl g).take k) : Nat) ∧ Hid (wr = W))
      (fun _ i _ => g.size - (intOf i).toNat)
    case atStart => exact ⟨0, Nat.zero_le _, rfl, rfl, rfl⟩
    case round =>
      obtain ⟨k, hk, rfl, rfl, Hw⟩ := hrel
      obtain rfl : wr = W := Hw.out
      clear Hw
      by_cases hlt2 : k < g.size
      · have hc := isDig_at g hgd' k hlt2
        have hs1 := dval_take_succ g k hlt2
        obtain ⟨c, hcc⟩ : ∃ c, g[k] = c := ⟨_, rfl⟩
        rw [hcc] at hc hs1
        have hlv : dval ((bl g).take k) < 100000000 := by
          have h1 := dval_lt ((bl g).take k) (all_take_of_all isDig _ k hgd')
          have h2 : ((bl g).take k).length ≤ 8 := by rw [List.length_take]; omega
          exact Nat.lt_of_lt_of_le h1 (Nat.pow_le_pow_right (by decide) h2)
        obtain ⟨d, hdd⟩ : ∃ d, dval ((bl g).take k) = d := ⟨_, rfl⟩
        rw [hdd] at hs1 hlv ⊢
        have Hs1 := Lib.hid hs1
        clear hs1 hdd
        gi_wp2
        go_roundw
        case rel => exact ⟨k + 1, by omega, by go_num, by rw [Hs1.out]; go_num, by first | exact rfl | exact trivial⟩
        case measure => simp [intOf]; omega
      · obtain rfl : k = g.size := by omega
        have hgv : dval ((bl g).take g.size) = gval ⟨g, hg9, hgd⟩ := by rw [List.take_of_length_le (by rw [bl_length]; exact Nat.le_refl _)]; rfl
        rw [hgv]
        have hc0 := hv.cell1
        have hf0 := hv.frozen 1
        have hsize := hbel.size
        clear hgv hlt2 hk
        gi_wp2_with (gi_at_builtin; refine wpListIn_append_own _ rfl _ _ 88 rfl w.heap.size 103 i0 (.int .u32 0) 1 4 Try.ul_u32s hi hz0 hz1 hz2 rfl (by decide) _ _ _ rfl (hrow.alloc _) ⟨wr.heap.size, 0, none⟩ 1 1 [.int .u32 ((gval ⟨g, hg9, hgd⟩ : Nat) : Int)] rfl rfl (cell_one_new _ _ _) (int_oneCell _ _) (by unfold maxLen; omega) (by omega) (by simp; omega) ?_; intro v' w1 hown' hgrow _; obtain ⟨g', cap', rfl⟩ := ownsRow_succ hown'; obtain ⟨hv1, hv2, hr2, hk2, hb2, ho2⟩ := hv.appended (by decide) hrow hsize (by omega) hown' hgrow; have hc1 := hv1.cell1; have hf1 := hv1.frozen 1)
        refine ⟨hk2.from _, ho2 _ _ _ hst (by decide) (by omega), ⟨_, hv2, ?_⟩, hb0.of_block (ho2 _ _ _ hb0 (by decide) (by omega)), (ho2 _ _ _ hst (by decide) (by omega)).trans hst, hbel.trans hb2⟩
        rw [List.length_append, List.length_singleton, List.map_append, List.map_singleton, ← nums_snoc]
        exact hr2
  case done =>
    rintro D ys W hD rfl ⟨⟨v, hv, hrow⟩, hb0, hst, hbel⟩ hK
    have hsl := Sl.of_owns hrow
    obtain ⟨ad, cap, rfl, _⟩ := id hsl
    have hn := grps_length s hd ((s.size + 8) / 9)
    have hval := grps_full s hd
    obtain ⟨ms, hms⟩ : ∃ ms, (grps s hd ((s.size + 8) / 9)).map gval = ms := ⟨_, rfl⟩
    have hdig := grps_dig (grps s hd ((s.size + 8) / 9))
    have hlen : (grps s hd ((s.size + 8) / 9)).length = ms.length := by rw [← hms, List.length_map]
    rw [hlen] at hv
    rw [hlen, hms] at hsl hrow
    rw [hms] at hval hdig
    have hml : ms.length ≤ 100000 := by omega
    have Hval := Lib.hid hval
    clear hval hms hlen hn
    have hc1 := hv.cell1
    have hc0 := hv.cell0
    have hf1 := hv.frozen 1
    have hr0 := hb0.cell0
    have hr1 := hb0.cell1
    have hrf0 := hb0.frozen 0
    have hrf1 := hb0.frozen 1
    have Htr := Lib.hid (trim_any _ ms W hsl (by omega))
    clear hsl
    gi_wp2_with fail
    refine ⟨trivial, ?_⟩
    refine (callsIn_wide.2 Htr.out).mono ?_
    rintro e w' ⟨v', rfl, Hv', rfl⟩
    obtain rfl : v' = Value.slice ad (trimL ms).length cap := Hv'.out
    have HK := Lib.hid hK
    have Hrow := Lib.hid hrow
    clear hK hrow
    gi_wp2
    obtain ⟨W3, hW3⟩ : ∃ W3, W3 = (((W.setCell ⟨w.heap.size + 1, 1, none⟩ (Value.slice ad (trimL ms).length cap)).setCell ⟨w.heap.size, 0, none⟩ (Value.bool false)).setCell ⟨w.heap.size, 1, none⟩ (Value.slice ad (trimL ms).length cap)) := ⟨_, rfl⟩
    rw [← hW3]
    have hK3 : W3.heap[D]? = some (.deferred (some [])) := by
      rw [hW3]
      exact (((KeepsOthers.setCell W _ _).trans (KeepsOthers.setCell _ _ _)).trans (KeepsOthers.setCell _ _ _)).same D _ HK.out rfl
    have hB3 : Boxed2 W3 w.heap.size 90 (.bool false) (Value.slice ad (trimL ms).length cap) := by
      rw [hW3]
      exact ((hb0.of_block (Below.heap_setCell _ _ _ _ (by simp))).set0 _).set1 _
    have hB4 : Boxed2 (W3.putObj D (.deferred none)) w.heap.size 90 (.bool false) (Value.slice ad (trimL ms).length cap) := hB3.of_block (World.putObj_heap_other (by omega))
    have hoth : ∀ k, (Value.slice ad ms.length cap).ownBlock = some k → (W3.putObj D (.deferred none)).heap[k]? = W.heap[k]? := by
      intro k hk
      have k1 : k ≠ w.heap.size := fun e => own_not_block Hrow.out hb0 (by decide) (by rw [hk, e])
      have k2 : k ≠ w.heap.size + 1 := fun e => own_not_block Hrow.out hv (by decide) (by rw [hk, e])
      have k3 : k ≠ D := fun e => by
        rcases Hrow.out.2 with ⟨he, _⟩ | ⟨g, _, _, he, _, hgb, _⟩
        · rw [he] at hk; simp [Value.ownBlock] at hk
        · rw [he] at hk
          obtain rfl : g = k := by simpa [Value.ownBlock] using hk
          rw [e, HK.out] at hgb; cases hgb
      rw [World.putObj_heap_other k3, hW3, Below.heap_setCell _ _ _ _ k1, Below.heap_setCell _ _ _ _ k1, Below.heap_setCell _ _ _ _ k2]
    have hcut := ((Sl.of_owns Hrow.out).kept (w' := W3.putObj D (.deferred none)) (fun k hk _ => hoth k hk)).cut (trimL ms).length (trimL_prefix ms).2
    rw [Nat.mul_one, nums_take, ← (trimL_prefix ms).1] at hcut
    have hbel4 : Below w.heap.size w (W3.putObj D (.deferred none)) := by
      refine Below.trans ?_ (belowK_b (w := w) (Nat.le_refl _) W3 D _ _ (by omega) hK3 rfl rfl)
      rw [hW3]
      exact ((hbel.setCell (p := ⟨w.heap.size + 1, 1, none⟩) (by simp) _).setCell (p := ⟨w.heap.size, 0, none⟩) (Nat.le_refl _) _).setCell (p := ⟨w.heap.size, 1, none⟩) (Nat.le_refl _) _
    refine ⟨by simp, .inl ⟨_, _, rfl, run_takeDeferred hK3, ?_⟩⟩
    refine ⟨.agg #[.bool false, Value.slice ad (trimL ms).length cap], ?_, ?_⟩
    · simp [results, Try.results60, go_sem, hB4.cell0, hB4.cell1]
    · exact ⟨_, trimL ms, rfl, hcut, trimL_nrm hdig, by rw [trimL_val]; exact Hval.out, hbel4⟩
  case stop =>
    rintro D c pre W _ _ h _
    exact h.elim

set_option maxHeartbeats 2000000 in
set_option maxRecDepth 100000 in
theorem read_neg (s : ByteArray) (w : World) (hs : s.size ≤ 100000) (h0 : 0 < s.size) (hm : s[0] = 45) (t : ByteArray) (ht : s.extract 1 s.size = t) (hd : (bl t).all isDig = true) :
    Calls Try.prog 60 #[.string s] w (ReadPost w true (dval (bl t))) := by
  obtain ⟨i0, hi, hz0, hz1, hz2⟩ := info_parts Try.info_u32
  have hts : t.size ≤ 100000 := by
    have := bl_tail s h0
    rw [ht] at this
    rw [← bl_length, this, List.length_tail, bl_length]; omega
  refine (callsIn_wide (n := 4)).1 ?_
  refine callsIn_of_wp_marks Try.func60 rfl trivial ?_ rfl
  simp only [Try.ntmps60, List.size_toArray, List.length_cons, List.length_nil, Nat.reduceAdd, Nat.reduceSub, Array.replicate_succ, Array.replicate_zero, List.push_toArray, List.append_toArray, List.nil_append, List.cons_append]
  gi_wp2_with fail
  gi_region
  all_goals gi_wp2_with fail
  gi_wp2_with (refine ⟨trivial, ?_⟩; gi_at_call 72; refine (groups_in Fence.wide _ trivial rfl _ _).mono ?_; rintro e w' ⟨rfl, rfl⟩)
  obtain ⟨W0, hW0⟩ : ∃ W0, W0 = (((w.alloc (.cells #[.bool false, .slice none 0 0] 90)).alloc (.cells #[.bool true, .slice none 0 0] 90)).alloc (.cells #[.string t] 9)).drew := ⟨_, rfl⟩
  rw [← hW0]
  have hsz : W0.heap.size = w.heap.size + 3 := by rw [hW0]; simp
  have hI0 : ReadI w true t [] W0 := by
    rw [hW0]
    refine ⟨⟨.slice none 0 0, ?_, World.ownsRow_nil _ _ _ _⟩, ?_, ?_, ?_⟩
    · show (((w.heap.push _).push _).push _)[w.heap.size + 1]? = _
      rw [Array.getElem?_push, if_neg (by simp), Array.getElem?_push, if_pos (by simp)]
    · show (((w.heap.push _).push _).push _)[w.heap.size]? = _
      rw [Array.getElem?_push, if_neg (by simp; omega), Array.getElem?_push, if_neg (by simp), Array.getElem?_push, if_pos rfl]
    · show (((w.heap.push _).push _).push _)[w.heap.size + 1 + 1]? = _
      rw [Array.getElem?_push, if_pos (by simp)]
    · exact ((((Below.refl _ w).alloc (Nat.le_refl _) _).alloc (by simp) _).alloc (by simp; omega) _).drew
  clear hW0
  refine wpIn_rangeFunc_ownG rfl (by decide) (gf := 78) (lb := #[.pointer (some ⟨w.heap.size + 1 + 1, 0, none⟩)]) rfl trivial (enters_of Try.func78 (by kernel_rfl) rfl)
    (groups_stops Fence.wide _ trivial rfl (by decide) (w.heap.size + 1 + 1) t hd (by omega) W0 hI0.2.2.1) (fun h k => Eq.trans k h) (fun W l o o' hl ho hc hk => World.putObj_heap_other (by omega)) (Below.refl _ _) (fun _ => rfl)
    (ReadI w true t) (fun _ _ _ => False) (readI_own _ _ _ _ (by omega)) (fun _ _ _ _ _ hs _ _ => hs) hI0
    (fun x => { tmps := #[.string s, undef, .pointer (some ⟨w.heap.size, 0, none⟩), .pointer (some ⟨w.heap.size + 1, 0, none⟩), .string t, .string x.1, undef, undef, .string s, .string s, .int .u8 45, .bool true, .string s, .string t, .pointer (some ⟨w.heap.size + 1, 0, none⟩), .string t, .func (.func 78) #[] #[.pointer (some ⟨w.heap.size + 1 + 1, 0, none⟩)], .string x.1, undef, undef, undef, undef, undef, undef, undef, undef, undef, undef, undef, undef, undef, undef, undef, undef, undef, undef, undef, undef, undef, undef, undef, undef, undef], defers := [] }) ?assign ?body ?done ?stop
  case assign =>
    intro l x W K hK
    gi_wp2
    exact hK
  case body =>
    rintro l pre x W ⟨⟨v, hv, hrow⟩, hb0, hst, hbel⟩ hlt
    obtain ⟨g, hg9, hgd⟩ := x
    have hg9' : g.size ≤ 9 := hg9
    have hgd' : (bl g).all isDig = true := hgd
    have hpl : pre.length ≤ 12000 := by omega
    gi_wp2_with fail
    gi_loopw [6, 20] (fun a i wr => ∃ k : Nat, k ≤ g.size ∧ i = .int .i64 k ∧ a = .int .u32 (dval ((bl g).take k) : Nat) ∧ Hid (wr = W))
      (fun _ i _ => g.size - (intOf i).toNat)
    case atStart => exact ⟨0, Nat.zero_le _, rfl, rfl, rfl⟩
    case round =>
      obtain ⟨k, hk, rfl, rfl, Hw⟩ := hrel
      obtain rfl : wr = W := Hw.out
      clear Hw
      by_cases hlt2 : k < g.size
      · have hc := isDig_at g hgd' k hlt2
        have hs1 := dval_take_succ g k hlt2
        obtain ⟨c, hcc⟩ : ∃ c, g[k] = c := ⟨_, rfl⟩
        rw [hcc] at hc hs1
        have hlv : dval ((bl g).take k) < 100000000 := by
          have h1 := dval_lt ((bl g).take k) (all_take_of_all isDig _ k hgd')
          have h2 : ((bl g).take k).length ≤ 8 := by rw [List.length_take]; omega
          exact Nat.lt_of_lt_of_le h1 (Nat.pow_le_pow_right (by decide) h2)
        obtain ⟨d, hdd⟩ : ∃ d, dval ((bl g).take k) = d := ⟨_, rfl⟩
        rw [hdd] at hs1 hlv ⊢
        have Hs1 := Lib.hid hs1
        clear hs1 hdd
        gi_wp2
        go_roundw
        case rel => exact ⟨k + 1, by omega, by go_num, by rw [Hs1.out]; go_num, by first | exact rfl | exact trivial⟩
        case measure => simp [intOf]; omega
      · obtain rfl : k = g.size := by omega
        have hgv : dval ((bl g).take g.size) = gval ⟨g, hg9, hgd⟩ := by rw [List.take_of_length_le (by rw [bl_length]; exact Nat.le_refl _)]; rfl
        rw [hgv]
        have hc0 := hv.cell1
        have hf0 := hv.frozen 1
        have hsize := hbel.size
        clear hgv hlt2 hk
        gi_wp2_with (gi_at_builtin; refine wpListIn_append_own _ rfl _ _ 88 rfl w.heap.size 103 i0 (.int .u32 0) 1 4 Try.ul_u32s hi hz0 hz1 hz2 rfl (by decide) _ _ _ rfl (hrow.alloc _) ⟨wr.heap.size, 0, none⟩ 1 1 [.int .u32 ((gval ⟨g, hg9, hgd⟩ : Nat) : Int)] rfl rfl (cell_one_new _ _ _) (int_oneCell _ _) (by unfold maxLen; omega) (by omega) (by simp; omega) ?_; intro v' w1 hown' hgrow _; obtain ⟨g', cap', rfl⟩ := ownsRow_succ hown'; obtain ⟨hv1, hv2, hr2, hk2, hb2, ho2⟩ := hv.appended (by decide) hrow hsize (by omega) hown' hgrow; have hc1 := hv1.cell1; have hf1 := hv1.frozen 1)
        refine ⟨hk2.from _, ho2 _ _ _ hst (by decide) (by omega), ⟨_, hv2, ?_⟩, hb0.of_block (ho2 _ _ _ hb0 (by decide) (by omega)), (ho2 _ _ _ hst (by decide) (by omega)).trans hst, hbel.trans hb2⟩
        rw [List.length_append, List.length_singleton, List.map_append, List.map_singleton, ← nums_snoc]
        exact hr2
  case done =>
    rintro D ys W hD rfl ⟨⟨v, hv, hrow⟩, hb0, hst, hbel⟩ hK
    have hsl := Sl.of_owns hrow
    obtain ⟨ad, cap, rfl, _⟩ := id hsl
    have hn := grps_length t hd ((t.size + 8) / 9)
    have hval := grps_full t hd
    obtain ⟨ms, hms⟩ : ∃ ms, (grps t hd ((t.size + 8) / 9)).map gval = ms := ⟨_, rfl⟩
    have hdig := grps_dig (grps t hd ((t.size + 8) / 9))
    have hlen : (grps t hd ((t.size + 8) / 9)).length = ms.length := by rw [← hms, List.length_map]
    rw [hlen] at hv
    rw [hlen, hms] at hsl hrow
    rw [hms] at hval hdig
    have hml : ms.length ≤ 100000 := by omega
    have Hval := Lib.hid hval
    clear hval hms hlen hn
    have hc1 := hv.cell1
    have hc0 := hv.cell0
    have hf1 := hv.frozen 1
    have hr0 := hb0.cell0
    have hr1 := hb0.cell1
    have hrf0 := hb0.frozen 0
    have hrf1 := hb0.frozen 1
    have Htr := Lib.hid (trim_any _ ms W hsl (by omega))
    clear hsl
    gi_wp2_with fail
    refine ⟨trivial, ?_⟩
    refine (callsIn_wide.2 Htr.out).mono ?_
    rintro e w' ⟨v', rfl, Hv', rfl⟩
    obtain rfl : v' = Value.slice ad (trimL ms).length cap := Hv'.out
    have HK := Lib.hid hK
    have Hrow := Lib.hid hrow
    clear hK hrow
    gi_wp2
    obtain ⟨W3, hW3⟩ : ∃ W3, W3 = (((W.setCell ⟨w.heap.size + 1, 1, none⟩ (Value.slice ad (trimL ms).length cap)).setCell ⟨w.heap.size, 0, none⟩ (Value.bool true)).setCell ⟨w.heap.size, 1, none⟩ (Value.slice ad (trimL ms).length cap)) := ⟨_, rfl⟩
    rw [← hW3]
    have hK3 : W3.heap[D]? = some (.deferred (some [])) := by
      rw [hW3]
      exact (((KeepsOthers.setCell W _ _).trans (KeepsOthers.setCell _ _ _)).trans (KeepsOthers.setCell _ _ _)).same D _ HK.out rfl
    have hB3 : Boxed2 W3 w.heap.size 90 (.bool true) (Value.slice ad (trimL ms).length cap) := by
      rw [hW3]
      exact ((hb0.of_block (Below.heap_setCell _ _ _ _ (by simp))).set0 _).set1 _
    have hB4 : Boxed2 (W3.putObj D (.deferred none)) w.heap.size 90 (.bool true) (Value.slice ad (trimL ms).length cap) := hB3.of_block (World.putObj_heap_other (by omega))
    have hoth : ∀ k, (Value.slice ad ms.length cap).ownBlock = some k → (W3.putObj D (.deferred none)).heap[k]? = W.heap[k]? := by
      intro k hk
      have k1 : k ≠ w.heap.size := fun e => own_not_block Hrow.out hb0 (by decide) (by rw [hk, e])
      have k2 : k ≠ w.heap.size + 1 := fun e => own_not_block Hrow.out hv (by decide) (by rw [hk, e])
      have k3 : k ≠ D := fun e => by
        rcases Hrow.out.2 with ⟨he, _⟩ | ⟨g, _, _, he, _, hgb, _⟩
        · rw [he] at hk; simp [Value.ownBlock] at hk
        · rw [he] at hk
          obtain rfl : g = k := by simpa [Value.ownBlock] using hk
          rw [e, HK.out] at hgb; cases hgb
      rw [World.putObj_heap_other k3, hW3, Below.heap_setCell _ _ _ _ k1, Below.heap_setCell _ _ _ _ k1, Below.heap_setCell _ _ _ _ k2]
    have hcut := ((Sl.of_owns Hrow.out).kept (w' := W3.putObj D (.deferred none)) (fun k hk _ => hoth k hk)).cut (trimL ms).length (trimL_prefix ms).2
    rw [Nat.mul_one, nums_take, ← (trimL_prefix ms).1] at hcut
    have hbel4 : Below w.heap.size w (W3.putObj D (.deferred none)) := by
      refine Below.trans ?_ (belowK_b (w := w) (Nat.le_refl _) W3 D _ _ (by omega) hK3 rfl rfl)
      rw [hW3]
      exact ((hbel.setCell (p := ⟨w.heap.size + 1, 1, none⟩) (by simp) _).setCell (p := ⟨w.heap.size, 0, none⟩) (Nat.le_refl _) _).setCell (p := ⟨w.heap.size, 1, none⟩) (Nat.le_refl _) _
    refine ⟨by simp, .inl ⟨_, _, rfl, run_takeDeferred hK3, ?_⟩⟩
    refine ⟨.agg #[.bool true, Value.slice ad (trimL ms).length cap], ?_, ?_⟩
    · simp [results, Try.results60, go_sem, hB4.cell0, hB4.cell1]
    · exact ⟨_, trimL ms, rfl, hcut, trimL_nrm hdig, by rw [trimL_val]; exact Hval.out, hbel4⟩
  case stop =>
    rintro D c pre W _ _ h _
    exact h.elim

/-- integer.read, of a canonical integer. -/
theorem read_any (s : ByteArray) (w : World) (hs : s.size ≤ 100000) (hc : canonI (bl s) = true) :
    Calls Try.prog 60 #[.string s] w (ReadPost w (isNeg (bl s)) (dval (body (bl s)))) := by
  have hne : 0 < s.size := by
    rcases Nat.eq_zero_or_pos s.size with h | h
    · have e : bl s = [] := List.eq_nil_of_length_eq_zero (by rw [bl_length]; exact h)
      rw [e] at hc; simp [canonI, canonD, body] at hc
    · exact h
  have e := bl_cons s hne
  by_cases hm : s[0] = 45
  · have et := bl_tail s hne
    have e1 : isNeg (bl s) = true := by rw [e, hm]; rfl
    have e2 : body (bl s) = bl (s.extract 1 s.size) := by rw [et, e, hm]; rfl
    rw [e1, e2]
    refine read_neg s w hs hne hm _ rfl ?_
    rw [canonI, e2, canonD] at hc
    simp only [Bool.and_eq_true] at hc
    exact hc.1.2
  · have e0 : (bl s).head? = some s[0] := by rw [e]; rfl
    have e1 : isNeg (bl s) = false := by rw [isNeg, e0]; simpa using hm
    have e2 : body (bl s) = bl s := by rw [body, e0, if_neg]; simpa using hm
    rw [e1, e2]
    refine read_pos s w hs hne ?_
    rw [canonI, e2, canonD] at hc
    simp only [Bool.and_eq_true] at hc
    exact hc.1.2
end Go.Proofs.Ytofbngpckllkoaa

namespace Go.Proofs.Ytofbngpckllkoaa
open Go.RowKit

theorem intErr_zero {l : List UInt8} (h : intErr l = 0) : canonI l = true ∧ (body l).length ≤ 1000 := by
  unfold intErr at h
  by_cases hc : canonI l = true
  · rw [if_pos hc] at h
    by_cases hb : 1000 < (body l).length
    · rw [if_pos hb] at h; omega
    · exact ⟨hc, by omega⟩
  · rw [if_neg hc] at h; omega
theorem body_len (l : List UInt8) : l.length ≤ (body l).length + 1 := by
  unfold body; split <;> simp; omega

/-- Numbers that can be read are not a variable that holds a bool and a slice: they stay while that is written. -/
theorem sl_keep_box {w W' : World} {v : Value} {k : IntKind} {xs : List Nat} {B : Nat} {t : TypeId} {u : Bool} {a : Option Addr} {n c : Nat} (h : Sl w v 1 xs.length (nums k xs)) (hb : Boxed2 w B t (.bool u) (.slice a n c))
    (hW : ∀ j, j ≠ B → W'.heap[j]? = w.heap[j]?) : Sl W' v 1 xs.length (nums k xs) := by
  obtain ⟨ad, cap, rfl, h1, h2, h3⟩ := h
  refine ⟨ad, cap, rfl, h1, h2, ?_⟩
  rcases h3 with h3 | ⟨b, off, rfl, h3⟩
  · exact .inl h3
  · by_cases h0 : xs.length = 0
    · exact .inl h0
    · refine .inr ⟨b, off, rfl, fun j x hj => ?_⟩
      have hne : b ≠ B := by
        intro e
        subst e
        have e1 := h3 0 _ (nums_at k xs 0 (by omega))
        have e2 : w.cell? ⟨b, off + 0, none⟩ = #[Value.bool u, Value.slice a n c][off + 0]? := by simp [World.cell?, show w.heap[b]? = _ from hb]
        rw [e2] at e1
        match off, e1 with
        | 0, e1 => simp at e1
        | 1, e1 => simp at e1
        | off + 2, e1 => simp at e1
      rw [World.cell?_of_block (w := w) (hW b hne)]
      exact h3 j x hj

def zeroNum : Value := .agg #[.bool false, .slice none 0 0]

def PairErr (w : World) (er : Int) (e : Ending) (w' : World) : Prop := e = .returned (.tuple #[.agg #[.bool false, .slice none 0 0], .agg #[.bool false, .slice none 0 0], .int .i64 er]) ∧ Below w.heap.size w w'

set_option maxHeartbeats 1000000 in
set_option maxRecDepth 100000 in
theorem pair_err1 (a b : ByteArray) (w : World) (ha : a.size ≤ 9223372036854775807) (h : intErr (bl a) ≠ 0) :
    Calls Try.prog 50 #[.string a, .string b] w (PairErr w (intErr (bl a))) := by
  have C := fun W => check_any a W ha
  obtain ⟨er, her⟩ : ∃ er, intErr (bl a) = er := ⟨_, rfl⟩
  rw [her] at h ⊢
  simp only [her] at C
  have HC := Lib.hid C
  clear C her
  have h1 : (er == 0) = false := by rw [beq_eq_false_iff_ne]; exact h
  have h2 : (er != 0) = true := by rw [bne_iff_ne]; exact h
  clear h
  go_enter Try.func50, Try.ntmps50
  go_wp2_with fail
  refine (HC.out _).mono ?_
  rintro e w' ⟨rfl, rfl⟩
  go_wp2_with fail
  go_region
  all_goals (try go_wp2)
  all_goals refine bodyPost_ret (v := .tuple #[.agg #[.bool false, .slice none 0 0], .agg #[.bool false, .slice none 0 0], .int .i64 er]) (by simp [results, Try.results50, go_sem]) rfl ⟨rfl, ?_⟩
  all_goals exact (((Below.refl _ _).alloc (Nat.le_refl _) _).alloc (by simp) _).drew

set_option maxHeartbeats 1000000 in
set_option maxRecDepth 100000 in
theorem pair_err2 (a b : ByteArray) (w : World) (ha : a.size ≤ 9223372036854775807) (hb : b.size ≤ 9223372036854775807) (h0 : intErr (bl a) = 0) (h : intErr (bl b) ≠ 0) :
    Calls Try.prog 50 #[.string a, .string b] w (PairErr w (intErr (bl b))) := by
  have CA := fun W => check_any a W ha
  simp only [h0] at CA
  have C := fun W => check_any b W hb
  obtain ⟨er, her⟩ : ∃ er, intErr (bl b) = er := ⟨_, rfl⟩
  rw [her] at h ⊢
  simp only [her] at C
  have HC := Lib.hid C
  have HCA := Lib.hid CA
  clear C CA her h0
  have h1 : (er == 0) = false := by rw [beq_eq_false_iff_ne]; exact h
  have h2 : (er != 0) = true := by rw [bne_iff_ne]; exact h
  clear h
  go_enter Try.func50, Try.ntmps50
  go_wp2_with fail
  refine (HCA.out _).mono ?_
  rintro e w' ⟨rfl, rfl⟩
  go_wp2_with fail
  refine (HC.out _).mono ?_
  rintro e w' ⟨rfl, rfl⟩
  go_wp2_with fail
  go_region
  all_goals (try go_wp2)
  all_goals refine bodyPost_ret (v := .tuple #[.agg #[.bool false, .slice none 0 0], .agg #[.bool false, .slice none 0 0], .int .i64 er]) (by simp [results, Try.results50, go_sem]) rfl ⟨rfl, ?_⟩
  all_goals exact (((Below.refl _ _).alloc (Nat.le_refl _) _).alloc (by simp) _).drew

def PairOk (w : World) (a b : List UInt8) (e : Ending) (w' : World) : Prop :=
  ∃ va vb xs ys, e = .returned (.tuple #[.agg #[.bool (isNeg a), va], .agg #[.bool (isNeg b), vb], .int .i64 0]) ∧ Sl w' va 1 xs.length (nums .u32 xs) ∧ Sl w' vb 1 ys.length (nums .u32 ys) ∧
    Nrm 1000000000 xs ∧ Nrm 1000000000 ys ∧ val 1000000000 xs = dval (body a) ∧ val 1000000000 ys = dval (body b) ∧ Below w.heap.size w w'

set_option maxHeartbeats 1000000 in
set_option maxRecDepth 100000 in
theorem pair_ok (a b : ByteArray) (w : World) (ha : a.size ≤ 9223372036854775807) (hb : b.size ≤ 9223372036854775807) (h0 : intErr (bl a) = 0) (h : intErr (bl b) = 0) :
    Calls Try.prog 50 #[.string a, .string b] w (PairOk w (bl a) (bl b)) := by
  have CA := fun W => check_any a W ha
  simp only [h0] at CA
  have CB := fun W => check_any b W hb
  simp only [h] at CB
  have HCA := Lib.hid CA
  have HCB := Lib.hid CB
  have la : a.size ≤ 100000 := by have := body_len (bl a); have := (intErr_zero h0).2; have := bl_length a; omega
  have lb : b.size ≤ 100000 := by have := body_len (bl b); have := (intErr_zero h).2; have := bl_length b; omega
  have RA := fun W => read_any a W la (intErr_zero h0).1
  have RB := fun W => read_any b W lb (intErr_zero h).1
  obtain ⟨na, hna⟩ : ∃ na, isNeg (bl a) = na := ⟨_, rfl⟩
  obtain ⟨nb, hnb⟩ : ∃ nb, isNeg (bl b) = nb := ⟨_, rfl⟩
  simp only [hna] at RA
  simp only [hnb] at RB
  have HRA := Lib.hid RA
  have HRB := Lib.hid RB
  have Hna := Lib.hid hna
  have Hnb := Lib.hid hnb
  clear CA CB RA RB h0 h la lb hna hnb
  go_enter Try.func50, Try.ntmps50
  go_wp2_with fail
  refine (HCA.out _).mono ?_
  rintro e w' ⟨rfl, rfl⟩
  go_wp2_with fail
  refine (HCB.out _).mono ?_
  rintro e w' ⟨rfl, rfl⟩
  go_wp2_with fail
  obtain ⟨W0, hW0⟩ : ∃ W0, W0 = ((w.alloc (.cells #[.bool false, .slice none 0 0] 90)).alloc (.cells #[.bool false, .slice none 0 0] 90)) := ⟨_, rfl⟩
  rw [← hW0]
  have hsz : W0.heap.size = w.heap.size + 2 := by rw [hW0]; simp
  have b0 : Boxed2 W0 w.heap.size 90 (.bool false) (.slice none 0 0) := by
    rw [hW0]
    show ((w.heap.push _).push _)[w.heap.size]? = _
    rw [Array.getElem?_push, if_neg (by simp), Array.getElem?_push, if_pos rfl]
  have b1 : Boxed2 W0 (w.heap.size + 1) 90 (.bool false) (.slice none 0 0) := by
    rw [hW0]
    show ((w.heap.push _).push _)[w.heap.size + 1]? = _
    rw [Array.getElem?_push, if_pos (by simp)]
  have hb0 : Below w.heap.size w W0 := by rw [hW0]; exact ((Below.refl _ _).alloc (Nat.le_refl _) _).alloc (by simp) _
  clear hW0
  refine (HRA.out _).mono ?_
  rintro e w1 ⟨va, xs, rfl, sa, nxs, vxs, hb1⟩
  go_wp2_with fail
  refine (HRB.out _).mono ?_
  rintro e w2 ⟨vb, ys, rfl, sb, nys, vys, hb2⟩
  have sa2 := sa.below hb2
  have c0 := b0.of_block ((hb2.block _ (by have := hb1.size; omega)).trans (hb1.block _ (by omega)))
  have c1 := b1.of_block ((hb2.block _ (by have := hb1.size; omega)).trans (hb1.block _ (by omega)))
  obtain ⟨aa, ca, rfl, _⟩ := id sa2
  obtain ⟨ab, cb, rfl, _⟩ := id sb
  have k1 := c0.cell0
  have k2 := c0.cell1
  have k3 := c1.cell0
  have k4 := c1.cell1
  have f1 := c0.frozen 0
  have f2 := c0.frozen 1
  have f3 := c1.frozen 0
  have f4 := c1.frozen 1
  have Hsa := Lib.hid sa2
  have Hsb := Lib.hid sb
  clear sa sa2 sb
  go_wp2
  obtain ⟨W3, hW3⟩ : ∃ W3, W3 = (w2.setCell ⟨w.heap.size, 0, none⟩ (.bool na)).setCell ⟨w.heap.size, 1, none⟩ (.slice aa xs.length ca) := ⟨_, rfl⟩
  rw [← hW3]
  have d0 : Boxed2 W3 w.heap.size 90 (.bool na) (.slice aa xs.length ca) := by rw [hW3]; exact (c0.set0 _).set1 _
  have d1 : Boxed2 W3 (w.heap.size + 1) 90 (.bool false) (.slice none 0 0) := by
    rw [hW3]
    exact c1.of_block ((Below.heap_setCell _ _ _ _ (by simp)).trans (Below.heap_setCell _ _ _ _ (by simp)))
  have oth3 : ∀ j, j ≠ w.heap.size → W3.heap[j]? = w2.heap[j]? := fun j hj => by
    rw [hW3]; exact (Below.heap_setCell _ _ _ _ hj).trans (Below.heap_setCell _ _ _ _ hj)
  have ta := sl_keep_box Hsa.out c0 oth3
  have tb := sl_keep_box Hsb.out c0 oth3
  obtain ⟨W4, hW4⟩ : ∃ W4, W4 = (W3.setCell ⟨w.heap.size + 1, 0, none⟩ (.bool nb)).setCell ⟨w.heap.size + 1, 1, none⟩ (.slice ab ys.length cb) := ⟨_, rfl⟩
  rw [← hW4]
  have e1 : Boxed2 W4 (w.heap.size + 1) 90 (.bool nb) (.slice ab ys.length cb) := by rw [hW4]; exact (d1.set0 _).set1 _
  have oth4 : ∀ j, j ≠ w.heap.size + 1 → W4.heap[j]? = W3.heap[j]? := fun j hj => by
    rw [hW4]; exact (Below.heap_setCell _ _ _ _ hj).trans (Below.heap_setCell _ _ _ _ hj)
  have e0 : Boxed2 W4 w.heap.size 90 (.bool na) (.slice aa xs.length ca) := d0.of_block (oth4 _ (by omega))
  have ta4 := sl_keep_box ta d1 oth4
  have tb4 := sl_keep_box tb d1 oth4
  have hbel : Below w.heap.size w W4 := by
    refine hb0.trans ((hb1.mono (by omega)).trans ((hb2.mono (by have := hb1.size; omega)).trans ?_))
    rw [hW4, hW3]
    exact ((((Below.refl _ w2).setCell (p := ⟨w.heap.size, 0, none⟩) (Nat.le_refl _) _).setCell (p := ⟨w.heap.size, 1, none⟩) (Nat.le_refl _) _).setCell (p := ⟨w.heap.size + 1, 0, none⟩) (by simp) _).setCell (p := ⟨w.heap.size + 1, 1, none⟩) (by simp) _
  refine bodyPost_ret (v := .tuple #[.agg #[.bool na, .slice aa xs.length ca], .agg #[.bool nb, .slice ab ys.length cb], .int .i64 0]) (by simp [results, Try.results50, go_sem, e0.cell0, e0.cell1, e1.cell0, e1.cell1]) rfl ?_
  exact ⟨_, _, xs, ys, by rw [Hna.out, Hnb.out], ta4, tb4, nxs, nys, vxs, vys, hbel⟩
end Go.Proofs.Ytofbngpckllkoaa

namespace Go.Proofs.Ytofbngpckllkoaa
open Go.RowKit

def RevInv (ds cur : List Nat) (k : Nat) : Prop :=
  cur.length = ds.length ∧ ∀ i, i < ds.length → cur.getD i 0 = if i < k ∨ ds.length ≤ i + k then ds.getD (ds.length - 1 - i) 0 else ds.getD i 0

theorem RevInv.start (ds : List Nat) : RevInv ds ds 0 := ⟨rfl, fun i hi => by rw [if_neg (by omega)]⟩

theorem getD_set (l : List Nat) (i j v : Nat) (hi : i < l.length) : (l.set i v).getD j 0 = if i = j then v else l.getD j 0 := by
  by_cases h : i = j
  · subst h; simp [List.getD, hi]
  · rw [if_neg h]; simp only [List.getD]; rw [List.getElem?_set_ne h]

theorem RevInv.step {ds cur : List Nat} {k : Nat} (h : RevInv ds cur k) (hk : k + k + 1 < ds.length) :
    RevInv ds ((cur.set k (cur.getD (ds.length - 1 - k) 0)).set (ds.length - 1 - k) (cur.getD k 0)) (k + 1) := by
  obtain ⟨h1, h2⟩ := h
  refine ⟨by simpa using h1, fun i hi => ?_⟩
  rw [getD_set _ _ _ _ (by simp; omega), getD_set _ _ _ _ (by omega)]
  have a1 := h2 k (by omega)
  have a2 := h2 (ds.length - 1 - k) (by omega)
  rw [if_neg (by omega)] at a1 a2
  by_cases c1 : ds.length - 1 - k = i
  · rw [if_pos c1, if_pos (by omega), a1, ← c1]; congr 1; omega
  · rw [if_neg c1]
    by_cases c2 : k = i
    · rw [if_pos c2, if_pos (by omega), a2, ← c2]
    · rw [if_neg c2, h2 i hi]
      by_cases c3 : i < k ∨ ds.length ≤ i + k
      · rw [if_pos c3, if_pos (by omega)]
      · rw [if_neg c3, if_neg (by omega)]

theorem RevInv.fin {ds cur : List Nat} {k : Nat} (h : RevInv ds cur k) (hk : ds.length ≤ k + k + 1) : cur = ds.reverse := by
  obtain ⟨h1, h2⟩ := h
  apply List.ext_getElem?
  intro i
  by_cases hi : i < ds.length
  · have a := h2 i hi
    have e : ds.reverse[i]? = some (ds.getD (ds.length - 1 - i) 0) := by
      rw [List.getElem?_reverse hi]
      simp [List.getD, show ds.length - 1 - i < ds.length by omega]
    rw [e]
    have e2 : cur[i]? = some (cur.getD i 0) := by simp [List.getD, show i < cur.length by omega]
    rw [e2, a]
    by_cases c : i < k ∨ ds.length ≤ i + k
    · rw [if_pos c]
    · rw [if_neg c]
      have : ds.length - 1 - i = i := by omega
      rw [this]
  · rw [List.getElem?_eq_none (by omega), List.getElem?_eq_none (by simp; omega)]

theorem own_shape {w : World} {base size n : Nat} {e : TypeId} {v : Value} {xs : List Value} (h : w.ownsRow base e size v n xs) (hn : 0 < n) : ∃ g cap, v = .slice (some ⟨g, 0, none⟩) n cap ∧ base ≤ g ∧ g < w.heap.size ∧ n ≤ cap := by
  rcases h.2 with ⟨_, h0⟩ | ⟨g, cap, cur, rfl, hb, hg, hc, _⟩
  · omega
  · exact ⟨g, cap, rfl, hb, (Array.getElem?_eq_some_iff.1 hg).1, hc⟩
theorem grown_trans {a b c : World} {row : Option Nat} (h : a.grownBy b row) (k : b.grownBy c row) : a.grownBy c row :=
  ⟨k.os.trans h.os, k.tape.trans h.tape, k.output.trans h.output, Nat.le_trans h.size k.size, fun j hj hr => (k.block j (Nat.lt_of_lt_of_le hj h.size) hr).trans (h.block j hj hr)⟩
theorem grown_drew {a b : World} {row : Option Nat} (h : a.grownBy b row) : a.grownBy b.drew row := ⟨h.os, h.tape, h.output, h.size, h.block⟩

set_option maxHeartbeats 1000000 in
set_option maxRecDepth 100000 in
theorem reverse_any (g cap base : Nat) (ds : List Nat) (w : World) (hown : w.ownsRow base 5 1 (.slice (some ⟨g, 0, none⟩) ds.length cap) ds.length (nums .u8 ds)) (hl : ds.length ≤ 10000000) :
    Calls Try.prog 67 #[.slice (some ⟨g, 0, none⟩) ds.length cap] w fun e w' => e = .returned (.tuple #[]) ∧
      w'.ownsRow base 5 1 (.slice (some ⟨g, 0, none⟩) ds.length cap) ds.length (nums .u8 ds.reverse) ∧ w.grownBy w' (some g) := by
  obtain ⟨n, hn⟩ : ∃ n, ds.length = n := ⟨_, rfl⟩
  have Hn := Lib.hid hn
  rw [hn] at hown hl ⊢
  clear hn
  go_enter Try.func67, Try.ntmps67
  go_wp2_with fail
  go_loopw [2, 3] (fun i j wr => ∃ (k : Nat) (cur : List Nat), k ≤ n ∧ i = .int .i64 k ∧ j = .int .i64 ((n : Int) - 1 - k) ∧
      wr.ownsRow base 5 1 (.slice (some ⟨g, 0, none⟩) n cap) n (nums .u8 cur) ∧ Hid (RevInv ds cur k) ∧ Hid (w.grownBy wr (some g)))
    (fun i _ _ => n - (intOf i).toNat)
  case atStart => exact ⟨0, ds, Nat.zero_le _, rfl, by go_num, hown, RevInv.start ds, World.grownBy.refl _ _⟩
  case round =>
    clear hown
    obtain ⟨k, cur, hk, rfl, rfl, hown, Hinv, Hg⟩ := hrel
    have hcl : cur.length = n := by rw [← Hn.out]; exact Hinv.out.1
    have Hcl := Lib.hid hcl
    by_cases hlt : k + k + 1 < n
    · have c1 := (hown.cellAt k (by omega)).trans (nums_at .u8 cur k (by omega))
      have c2 := (hown.cellAt (n - 1 - k) (by omega)).trans (nums_at .u8 cur (n - 1 - k) (by omega))
      have f1 := hown.frozenAt k
      have f2 := hown.frozenAt (n - 1 - k)
      have HR := Hinv.out.step (by rw [Hn.out]; exact hlt)
      rw [Hn.out] at HR
      obtain ⟨x, hx⟩ : ∃ x, cur.getD k 0 = x := ⟨_, rfl⟩
      obtain ⟨y, hy⟩ : ∃ y, cur.getD (n - 1 - k) 0 = y := ⟨_, rfl⟩
      rw [hx, hy] at HR
      rw [hx] at c1
      rw [hy] at c2
      have hR := Lib.hid HR
      clear HR hx hy hcl
      have e1 := hown.stored k (.int .u8 (y : Int))
      rw [nums_set] at e1
      have e2 := e1.1.stored (n - 1 - k) (.int .u8 (x : Int))
      rw [nums_set] at e2
      have HE := Lib.hid (And.intro e2.1 (And.intro e1.2 e2.2))
      clear e1 e2 hown
      have t1 : ((n : Int) - 1 - (k : Int)).toNat = n - 1 - k := by omega
      have i1 : (0 : Int) ≤ (n : Int) - 1 - (k : Int) := by omega
      have i2 : (n : Int) - 1 - (k : Int) < (n : Int) := by omega
      have i3 : (k : Int) < (n : Int) - 1 - (k : Int) := by omega
      go_wp2_with fail
      go_region
      all_goals (try go_wp2)
      all_goals go_roundw
      case rel => exact ⟨k + 1, _, by omega, by go_num, by go_num, HE.out.1.drew, hR, grown_drew (grown_trans Hg.out (grown_trans HE.out.2.1 HE.out.2.2))⟩
      case measure => simp [intOf]; omega
    · have HF := Hinv.out.fin (by rw [Hn.out]; omega)
      have hF : Hid (wr.ownsRow base 5 1 (.slice (some ⟨g, 0, none⟩) n cap) n (nums .u8 ds.reverse) ∧ w.grownBy wr (some g)) := ⟨by rw [← HF]; exact hown, Hg.out⟩
      have i3 : ¬ (k : Int) < (n : Int) - 1 - (k : Int) := by omega
      clear HF hown hcl
      go_wp2
      go_end0
      exact ⟨rfl, hF.out.1, hF.out.2⟩
end Go.Proofs.Ytofbngpckllkoaa
