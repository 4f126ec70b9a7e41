/-
  The contracts of CausalNames: all that is asked of them, by computation. A region that draws its order, by an invariant: each operation once, whatever stands before it. CausalNames: what its drawn regions keep. CausalNames: what its third drawn region keeps (a pick between two contracts). The closures of causal.Known.
-/
import Derived.Test.YtflddbgadkndlaaGreatDoorC26
import Derived.Test.YtflddbgadkndlaaGreatDoorC06
import Derived.StillTail
import Derived.RegionTactic
import Derived.Test.YtflddbgadkndlaaGreatDoorC27
import Derived.Test.YtflddbgadkndlaaGreatDoorC08
import Derived.Test.YtflddbgadkndlaaGreatDoorC13
namespace Go.Proofs.YtflddbgadkndlaaGreatDoor
open Go.RowKit

instance (k : Nat) (ra nm : ByteArray) (d : Int) (n : Nat) : Decidable (leafOk k ra nm d n) := by unfold leafOk; infer_instance
def sortOfB (k : Nat) (ra nm : ByteArray) (d : Int) (l : List Nat) : Nat :=
  match shapeOf k with
  | none => if leafOk k ra nm d l.length then 1 else 0
  | some (ps, own) => if ra.size = 0 ∧ nm.size = 0 ∧ d = 0 ∧ l = ps then own else 0
theorem sortOfB_eq (k : Nat) (ra nm : ByteArray) (d : Int) (l : List Nat) : sortOf k ra nm d l = sortOfB k ra nm d l := by
  unfold sortOf sortOfB leafSort partSort
  cases shapeOf k with
  | none =>
    simp only
    by_cases h : leafOk k ra nm d l.length
    · rw [if_pos h, if_pos h]
    · rw [if_neg h, if_neg h]
  | some p => rfl
mutual
def Ex.sortB : Ex → Nat
  | .mk k r n d l => sortOfB k r n d (Ex.sortsB l)
def Ex.sortsB : List Ex → List Nat
  | [] => []
  | x :: l => Ex.sortB x :: Ex.sortsB l
end
mutual
theorem Ex.sortB_eq : ∀ x : Ex, x.sort = x.sortB
  | .mk k r n d l => by rw [Ex.sort, Ex.sortB, Ex.sortsB_eq l, sortOfB_eq]
theorem Ex.sortsB_eq : ∀ l : List Ex, Ex.sorts l = Ex.sortsB l
  | [] => by rw [Ex.sorts, Ex.sortsB]
  | x :: l => by rw [Ex.sorts, Ex.sortsB, Ex.sortB_eq x, Ex.sortsB_eq l]
end
def Ex.errB (x : Ex) : Int := if 500 < x.size ∨ 60 < x.depth then 4 else if x.sortB = 0 then 8 else 0
def Ex.isAB (x : Ex) (t : Nat) : Bool := decide (x.errB = 0) && decide (x.sortB = t)
theorem Ex.isAB_eq (x : Ex) (t : Nat) : x.isA t = x.isAB t := by unfold Ex.isA Ex.isAB Ex.err Ex.errB; rw [Ex.sortB_eq]
def nodeOkB (c : Con) : Bool :=
  let nobody := decide (c.fr.size = 0)
  let noTo := decide (c.rc.size = 0)
  let noName := decide (c.nm.size = 0)
  let noDate := decide (c.d = 0)
  let noDays := decide (c.ds.length = 0)
  let n := c.sub.length
  if c.k = 1 then decide (n = 0) && (nobody && (noTo && (noName && (noDate && (noDays && c.ex.bare)))))
  else if c.k = 2 then decide (n = 0) && (isNm (bl c.fr) && (isNm (bl c.rc) && (!decide (c.fr = c.rc) && (isNm (bl c.nm) && (c.ex.isAB 1 && (noDate && noDays))))))
  else if c.k = 3 then decide (n = 2) && (nobody && (noTo && (noName && (noDate && (noDays && c.ex.bare)))))
  else if c.k = 4 then decide (n = 1) && (nobody && (noTo && (noName && (noDate && (noDays && c.ex.isAB 1)))))
  else if c.k = 5 then decide (n = 2) && (nobody && (noTo && (noName && (noDate && (noDays && c.ex.isAB 2)))))
  else if c.k = 6 then decide (n = 1) && (nobody && (noTo && (noName && (isDay c.d && (noDays && c.ex.bare)))))
  else if c.k = 7 then decide (n = 2) && (isNm (bl c.fr) && (noTo && (isNm (bl c.nm) && (noDate && (noDays && c.ex.bare)))))
  else if c.k = 8 then decide (n = 1) && (isNm (bl c.fr) && (noTo && (isNm (bl c.nm) && (noDate && (isDays c.ds && c.ex.bare)))))
  else if c.k = 9 ∨ c.k = 10 then decide (n = 1) && (nobody && (noTo && (noName && (noDate && (isDays c.ds && c.ex.isAB 2)))))
  else false
theorem nodeOkB_eq (c : Con) : nodeOk c = nodeOkB c := by unfold nodeOk nodeOkB; simp only [Ex.isAB_eq]
mutual
def Con.formedB : Con → Bool
  | .mk k fr rc nm ex d ds l => nodeOkB (.mk k fr rc nm ex d ds l) && Con.formedsB l
def Con.formedsB : List Con → Bool
  | [] => true
  | x :: l => Con.formedB x && Con.formedsB l
end
mutual
theorem Con.formedB_eq : ∀ x : Con, x.formed = x.formedB
  | .mk k fr rc nm ex d ds l => by rw [Con.formed, Con.formedB, Con.formedsB_eq l, nodeOkB_eq]
theorem Con.formedsB_eq : ∀ l : List Con, Con.formeds l = Con.formedsB l
  | [] => by rw [Con.formeds, Con.formedsB]
  | x :: l => by rw [Con.formeds, Con.formedsB, Con.formedB_eq x, Con.formedsB_eq l]
end
def Con.errB (x : Con) : Int := if 500 < x.size ∨ 60 < x.depth then 4 else if x.formedB = true then 0 else 8
theorem Con.errB_eq (x : Con) : x.err = x.errB := by unfold Con.err Con.errB; rw [Con.formedB_eq]

theorem vis_of {c : Con} {day : Int} (h : c.errB = 0) (hd : isDay day = true) : visErr c day = 0 := by unfold visErr; rw [Con.errB_eq, if_pos h, if_pos hd]
theorem evs_of {c : Con} {day : Int} (h : visErr c day = 0) : visEvs c day = c.evs [day] := by unfold visEvs; rw [if_pos h]
theorem needs_of {c : Con} {day : Int} {L : List NdP} (h : visErr c day = 0) (he : evNs (c.evs [day]) = L) (hs : Srt ndLt L) (hl : L.length ≤ 1000) : nErr c day = 0 ∧ nSet c day = L := by
  have h1 : nErr c day = 0 := by unfold nErr; rw [evs_of h, he, uniq_fix nd_sto hs]; exact fewErr_ok h hl
  exact ⟨h1, by unfold nSet; rw [if_pos h1, evs_of h, he, uniq_fix nd_sto hs]⟩
theorem dead_of {c : Con} {day : Int} {L : List ChP} (h : visErr c day = 0) (he : evCs (c.evs [day]) = L) (hs : Srt chxLt L) (hl : L.length ≤ 1000) : dErr c day = 0 ∧ dSet c day = L := by
  have h1 : dErr c day = 0 := by unfold dErr; rw [evs_of h, he, uniq_fix chx_sto hs]; exact fewErr_ok h hl
  exact ⟨h1, by unfold dSet; rw [if_pos h1, evs_of h, he, uniq_fix chx_sto hs]⟩
theorem days_of {c : Con} {day : Int} {L : List Int} (h : visErr c day = 0) (he : evDs (c.evs [day]) = L) (hs : Srt dayLt L) : ySet c day = L := by
  unfold ySet; rw [if_pos h, evs_of h, he, uniq_fix day_sto hs]
theorem caus_of {c : Con} {day : Int} {b : Bool} (h : visErr c day = 0) (he : evLt (c.evs [day]) = b) : causErr c day = if b = true then 34 else 0 := by
  unfold causErr; rw [if_pos h, evs_of h, he]

def bZ : ByteArray := ⟨#[90]⟩
def bd : ByteArray := ⟨#[100]⟩
def blate : ByteArray := ⟨#[108, 97, 116, 101]⟩
def nowX : Ex := .mk 3 bE bX 0 []
def fixY3 : Ex := .mk 2 bE bY 3 []
def lessE : Ex := .mk 11 bE bE 0 [nowX, fixY3]
def payZ : Con := .mk 2 bAnn bBob bUSD (.mk 3 bE bZ 0 []) 0 [] []
def payL : Con := .mk 2 bAnn bBob bUSD (.mk 2 bE blate 99 []) 0 [] []
def payX : Con := .mk 2 bAnn bBob bUSD (.mk 2 bE bX 4 []) 0 [] []
def untC : Con := .mk 9 bE bE bE lessE 0 [2, 4, 6] [payZ]
def whenC : Con := .mk 10 bE bE bE lessE 0 [2, 4, 6] [payZ]
def at1C : Con := .mk 6 bE bE bE exZ 1 [] [payL]
def pickC : Con := .mk 7 bBob bE bd exZ 0 [] [whenC, at1C]
def noneC : Con := .mk 0 bE bE bE exZ 0 [] []

set_option maxRecDepth 100000
theorem untC_err : untC.errB = 0 := by decide +kernel
theorem whenC_err : whenC.errB = 0 := by decide +kernel
theorem pickC_err : pickC.errB = 0 := by decide +kernel
theorem payX_err : payX.errB = 0 := by decide +kernel
theorem untC_needs : nErr untC 3 = 0 ∧ nSet untC 3 = [(bX, 4), (bX, 6), (bY, 3), (bZ, 3)] := needs_of (vis_of untC_err rfl) rfl (by unfold Srt; decide +kernel) (by decide)
theorem whenC_needs : nErr whenC 3 = 0 ∧ nSet whenC 3 = [(bX, 4), (bX, 6), (bY, 3), (bZ, 4), (bZ, 6)] := needs_of (vis_of whenC_err rfl) rfl (by unfold Srt; decide +kernel) (by decide)
theorem whenC_needs7 : nErr whenC 7 = 0 ∧ nSet whenC 7 = [] := needs_of (vis_of whenC_err rfl) rfl (by unfold Srt; decide +kernel) (by decide)
theorem whenC_days : ySet whenC 3 = [4, 6] := days_of (vis_of whenC_err rfl) rfl (by unfold Srt; decide +kernel)
theorem untC_days : ySet untC 7 = [7] := days_of (vis_of untC_err rfl) rfl (by unfold Srt; decide +kernel)
theorem pickC_dead : dErr pickC 3 = 0 ∧ dSet pickC 3 = [(bBob, bd, 3)] := dead_of (vis_of pickC_err rfl) rfl (by unfold Srt; decide +kernel) (by decide)
theorem untC_c2 : causErr untC 2 = 34 := caus_of (b := true) (vis_of untC_err rfl) rfl
theorem untC_c3 : causErr untC 3 = 0 := caus_of (b := false) (vis_of untC_err rfl) rfl
theorem pickC_c3 : causErr pickC 3 = 0 := caus_of (b := false) (vis_of pickC_err rfl) rfl
theorem pickC_c1 : causErr pickC 1 = 34 := caus_of (b := true) (vis_of pickC_err rfl) rfl
theorem payX_c3 : causErr payX 3 = 34 := caus_of (b := true) (vis_of payX_err rfl) rfl
theorem payX_c4 : causErr payX 4 = 0 := caus_of (b := false) (vis_of payX_err rfl) rfl
theorem noneC_c : causErr noneC (-1) = 8 := by
  have h : visErr noneC (-1) = 8 := by unfold visErr; rw [Con.errB_eq]; decide +kernel
  unfold causErr; rw [h]; rfl
theorem untC_cm : causErr untC (-1) = 2 := by
  have h : visErr untC (-1) = 2 := by unfold visErr; rw [Con.errB_eq]; decide +kernel
  unfold causErr; rw [h]; rfl
theorem untC_cb : causErr untC 100000 = 2 := by
  have h : visErr untC 100000 = 2 := by unfold visErr; rw [Con.errB_eq]; decide +kernel
  unfold causErr; rw [h]; rfl
end Go.Proofs.YtflddbgadkndlaaGreatDoor

namespace Go.Proofs.YtflddbgadkndlaaGreatDoor
open Go.RowKit

def upd (L : Nat → Bool) (i : Nat) : Nat → Bool := fun j => if j = i then true else L j
/-- How many are not listed. -/
def cnt : List Bool → Nat
  | [] => 0
  | b :: l => (if b then 0 else 1) + cnt l
theorem cnt_set : ∀ {l : List Bool} {i : Nat}, l[i]? = some false → cnt (l.set i true) + 1 = cnt l
  | [], i, h => by simp at h
  | b :: l, 0, h => by
    simp at h; subst h
    simp [cnt]; omega
  | b :: l, i + 1, h => by
    have := cnt_set (l := l) (i := i) (by simpa using h)
    simp only [List.set_cons_succ, cnt]
    omega
theorem cnt_zero : ∀ {l : List Bool}, cnt l = 0 → ∀ j, j < l.length → l[j]? = some true
  | [], _, j, hj => by simp at hj
  | b :: l, h, j, hj => by
    simp only [cnt] at h
    cases b with
    | false => simp at h
    | true =>
      cases j with
      | zero => rfl
      | succ j => simpa using cnt_zero (l := l) (by simpa using h) j (by simpa using hj)
theorem cnt_replicate : ∀ n, cnt (List.replicate n false) = n
  | 0 => rfl
  | n + 1 => by rw [List.replicate_succ, cnt, cnt_replicate n]; simp; omega

section
variable {P : Program} {ops : Array Oper} {md : Region.Mode}
/-- Each operation waits for earlier ones only. -/
def fwdB (md : Region.Mode) (ops : Array Oper) : Bool :=
  (List.range ops.size).all fun j => match ops[j]? with | some o => o.after.all fun e => !Region.binds md e || decide (e.on < j) | none => true
theorem fwd_spec (h : fwdB md ops = true) {j : Nat} {o : Oper} (ho : ops[j]? = some o) : ∀ e ∈ o.after, Region.binds md e = true → e.on < j := by
  intro e he hb
  have hj : j < ops.size := (Array.getElem?_eq_some_iff.1 ho).1
  have h1 := List.all_eq_true.1 h j (List.mem_range.2 hj)
  simp only [ho] at h1
  have h2 := Array.all_eq_true'.1 h1 e he
  simp only [hb, Bool.not_true, Bool.false_or, decide_eq_true_eq] at h2
  exact h2
theorem getD_both' {listed : Array Bool} {j : Nat} (hj : j < listed.size) : listed.getD j true = listed.getD j false := by
  simp [hj]
theorem ready_all (hf : fwdB md ops = true) {listed : Array Bool} (hs : listed.size = ops.size) (hr : Region.ready md ops listed = []) : ∀ j, j < ops.size → listed.getD j false = true := by
  intro j
  induction j using Nat.strongRecOn with
  | _ j ih =>
    intro hj
    cases h : listed.getD j false with
    | true => rfl
    | false =>
      exfalso
      obtain ⟨o, ho⟩ : ∃ o, ops[j]? = some o := ⟨_, Array.getElem?_eq_getElem hj⟩
      have : j ∈ Region.ready md ops listed := mem_ready.2 ⟨by rw [getD_both' (by omega)]; exact h, o, ho, fun e he hb => ih e.on (fwd_spec hf ho e he hb) (by have := fwd_spec hf ho e he hb; omega)⟩
      rw [hr] at this
      cases this
theorem upd_listed {listed : Array Bool} {i : Nat} (hi : i < listed.size) : (fun j => (listed.setIfInBounds i true).getD j false) = upd (fun j => listed.getD j false) i := by
  funext j
  unfold upd
  by_cases h : j = i
  · subst h
    rw [if_pos rfl]
    simp [hi]
  · rw [if_neg h, getD_set_ne false (fun e => h e.symm)]
theorem wpAny_inv {Q : Exit → Act → World → Prop} {Inv : (Nat → Bool) → Act → World → Prop} (hf : fwdB md ops = true)
    (hst : ∀ L a w, Inv L a w → ∀ i o, ops[i]? = some o → L i = false → (∀ e ∈ o.after, Region.binds md e = true → L e.on = true) → wpOp P ops Q i (Inv (upd L i)) a w)
    (hend : ∀ L a w, Inv L a w → (∀ j, j < ops.size → L j = true) → Q .normal a w) :
    ∀ (f : Nat) (listed : Array Bool) (a : Act) (w : World), listed.size = ops.size → cnt listed.toList ≤ f → Inv (fun j => listed.getD j false) a w → wpAny P md ops Q f listed a w
  | 0, listed, a, w, hs, hc, h => by
    have hall : ∀ j, j < ops.size → listed.getD j false = true := fun j hj => by
      have := cnt_zero (Nat.le_zero.1 hc) j (by simpa [hs] using hj)
      have hj' : j < listed.size := by omega
      simp [hj'] at this ⊢
      exact this
    refine ⟨?_, hend _ _ _ h hall⟩
    rw [List.eq_nil_iff_forall_not_mem]
    intro i hi
    obtain ⟨h1, o, ho, _⟩ := mem_ready.1 hi
    have hj : i < ops.size := (Array.getElem?_eq_some_iff.1 ho).1
    rw [getD_both' (by omega), hall i hj] at h1
    cases h1
  | f + 1, listed, a, w, hs, hc, h => by
    refine ⟨fun hr => hend _ _ _ h (ready_all hf hs hr), fun i hi => ?_⟩
    obtain ⟨h1, o, ho, h2⟩ := mem_ready.1 hi
    have hj : i < listed.size := by have := (Array.getElem?_eq_some_iff.1 ho).1; omega
    have h3 : listed.getD i false = false := by rw [← getD_both' hj]; exact h1
    have h4 : listed.toList[i]? = some false := by simp [hj] at h3 ⊢; exact h3
    refine wpOp_mono (fun a' w' h5 => ?_) (hst _ a w h i o ho h3 h2)
    refine wpAny_inv hf hst hend f (listed.setIfInBounds i true) a' w' (by simpa using hs) ?_ ?_
    · have := cnt_set h4
      rw [Array.toList_setIfInBounds]
      omega
    · rw [upd_listed hj]; exact h5
/-- An operation that the i-th waits for is listed. -/
def predB (md : Region.Mode) (ops : Array Oper) (i j : Nat) : Bool :=
  match ops[i]? with | some o => o.after.any fun e => Region.binds md e && e.on == j | none => false
theorem pred_spec {i j : Nat} {o : Oper} {L : Nat → Bool} (ho : ops[i]? = some o) (hp : ∀ e ∈ o.after, Region.binds md e = true → L e.on = true) (h : predB md ops i j = true) : L j = true := by
  unfold predB at h
  simp only [ho] at h
  obtain ⟨e, he, h1⟩ := Array.any_eq_true'.1 h
  simp only [Bool.and_eq_true, beq_iff_eq] at h1
  rw [← h1.2]
  exact hp e he h1.1
theorem wp_region_inv {id : Nat} {Q : Exit → Act → World → Prop} {a : Act} {w : World} (Inv : (Nat → Bool) → Act → World → Prop) (hm : P.follows .mixedOrders = true) (hf : fwdB .any ops = true)
    (h0 : Inv (fun _ => false) a w.drew)
    (hst : ∀ L a w, Inv L a w → ∀ i o, ops[i]? = some o → L i = false → (∀ e ∈ o.after, Region.binds .any e = true → L e.on = true) → wpOp P ops Q i (Inv (upd L i)) a w)
    (hend : ∀ L a w, Inv L a w → (∀ j, j < ops.size → L j = true) → Q .normal a w) : (Code.region id ops true).wp P Q a w := by
  refine wp_region_any hm (wpAny_inv hf hst hend ops.size _ _ _ (by simp) ?_ ?_)
  · simp [cnt_replicate]
  · have e : (fun j => (Array.replicate ops.size false).getD j false) = fun _ => false := by
      funext j
      by_cases hj : j < ops.size <;> simp [hj]
    rw [e]; exact h0
end
end Go.Proofs.YtflddbgadkndlaaGreatDoor

namespace Go.Proofs.YtflddbgadkndlaaGreatDoor
open Go.RowKit

set_option maxRecDepth 100000 in
theorem now_any (n : ByteArray) (w : World) : Calls Tryz.prog 23 #[.string n] w fun e w' => e = .returned (.agg #[.int .u8 3, .string ⟨#[]⟩, .string n, .int .i64 0, .slice none 0 0]) ∧ Below w.heap.size w w' := by
  go_enter Tryz.func23, Tryz.ntmps23
  go_wp2
  refine bodyPost_ret (v := .agg #[.int .u8 3, .string ⟨#[]⟩, .string n, .int .i64 0, .slice none 0 0]) (by simp [results, Tryz.results23, go_sem]) rfl ?_
  exact ⟨rfl, below_a1 _ _⟩

/-- A variable that holds a contract, with all below it. -/
def Held (W : World) (v : Value) (c : Con) : Prop := ∃ X es dd ss, v = .pointer (some ⟨X, 0, none⟩) ∧ CBox W X c es dd ss ∧ RdN W c es dd ss
theorem Held.low {W W' : World} {v : Value} {c : Con} (h : Held W v c) (hb : Below W.heap.size W W') : Held W' v c := by
  obtain ⟨X, es, dd, ss, e, h1, h2⟩ := h
  exact ⟨X, es, dd, ss, e, h1.low hb, h2.frame hb⟩
/-- The zero contract's cells. -/
def zc : List Value := [.int .u8 0, .string ⟨#[]⟩, .string ⟨#[]⟩, .string ⟨#[]⟩, .int .u8 0, .string ⟨#[]⟩, .string ⟨#[]⟩, .int .i64 0, .slice none 0 0, .int .i64 0, .slice none 0 0, .slice none 0 0]
theorem box_ne {W : World} {X B o : Nat} {t : TypeId} {u : Value} (h : BoxN W X t zc) (hc : W.cell? ⟨B, o, none⟩ = some u) (hu : u ∉ zc) : B ≠ X := by
  rintro rfl
  have e : W.cell? ⟨B, o, none⟩ = zc.toArray[o]? := by simp [World.cell?, show W.heap[B]? = _ from h]
  rw [e] at hc
  exact hu (List.mem_of_getElem? (by simpa using hc))
/-- Twelve cells are written into a box of the call's own. -/
def put12 (W : World) (X : Nat) (u0 u1 u2 u3 u4 u5 u6 u7 u8 u9 u10 u11 : Value) : World :=
  (((((((((((W.setCell ⟨X, 0, none⟩ u0).setCell ⟨X, 1, none⟩ u1).setCell ⟨X, 2, none⟩ u2).setCell ⟨X, 3, none⟩ u3).setCell ⟨X, 4, none⟩ u4).setCell ⟨X, 5, none⟩ u5).setCell ⟨X, 6, none⟩ u6).setCell ⟨X, 7, none⟩ u7).setCell ⟨X, 8, none⟩ u8).setCell ⟨X, 9, none⟩ u9).setCell ⟨X, 10, none⟩ u10).setCell ⟨X, 11, none⟩ u11
section
variable {W : World} {X : Nat} {t : TypeId} {u0 u1 u2 u3 u4 u5 u6 u7 u8 u9 u10 u11 : Value}
theorem put12_box (h : BoxN W X t zc) : BoxN (put12 W X u0 u1 u2 u3 u4 u5 u6 u7 u8 u9 u10 u11) X t [u0, u1, u2, u3, u4, u5, u6, u7, u8, u9, u10, u11] :=
  (((((((((((h.set 0 u0).set 1 u1).set 2 u2).set 3 u3).set 4 u4).set 5 u5).set 6 u6).set 7 u7).set 8 u8).set 9 u9).set 10 u10).set 11 u11
theorem put12_below {W0 : World} {n : Nat} (h : Below n W0 W) (hX : n ≤ X) : Below n W0 (put12 W X u0 u1 u2 u3 u4 u5 u6 u7 u8 u9 u10 u11) :=
  (((((((((((h.setCell (p := ⟨X, 0, none⟩) hX _).setCell (p := ⟨X, 1, none⟩) hX _).setCell (p := ⟨X, 2, none⟩) hX _).setCell (p := ⟨X, 3, none⟩) hX _).setCell (p := ⟨X, 4, none⟩) hX _).setCell (p := ⟨X, 5, none⟩) hX _).setCell (p := ⟨X, 6, none⟩) hX _).setCell (p := ⟨X, 7, none⟩) hX _).setCell (p := ⟨X, 8, none⟩) hX _).setCell (p := ⟨X, 9, none⟩) hX _).setCell (p := ⟨X, 10, none⟩) hX _).setCell (p := ⟨X, 11, none⟩) hX _
theorem put12_far {B o : Nat} (hB : B ≠ X) : (put12 W X u0 u1 u2 u3 u4 u5 u6 u7 u8 u9 u10 u11).cell? ⟨B, o, none⟩ = W.cell? ⟨B, o, none⟩ := by
  have h : X ≠ B := fun e => hB e.symm
  unfold put12
  rw [World.cell?_setCell_far _ _ _ _ h, World.cell?_setCell_far _ _ _ _ h, World.cell?_setCell_far _ _ _ _ h, World.cell?_setCell_far _ _ _ _ h, World.cell?_setCell_far _ _ _ _ h, World.cell?_setCell_far _ _ _ _ h, World.cell?_setCell_far _ _ _ _ h, World.cell?_setCell_far _ _ _ _ h, World.cell?_setCell_far _ _ _ _ h, World.cell?_setCell_far _ _ _ _ h, World.cell?_setCell_far _ _ _ _ h, World.cell?_setCell_far _ _ _ _ h]
end
theorem CBox.of_box {W : World} {X : Nat} {t : TypeId} {c : Con} {es dd ss : Value} (h : BoxN W X t (c.cells es dd ss)) : CBox W X c es dd ss :=
  ⟨h.cell rfl, h.cell rfl, h.cell rfl, h.cell rfl, h.cell rfl, h.cell rfl, h.cell rfl, h.cell rfl, h.cell rfl, h.cell rfl, h.cell rfl, h.cell rfl⟩
/-- The cells of a literal slice of one contract; of three days. -/
def Three (W : World) (v : Value) : Prop := ∃ B, v = .slice (some ⟨B, 0, none⟩) 3 3 ∧ W.cell? ⟨B, 0, none⟩ = some (.int .i64 2) ∧ W.cell? ⟨B, 1, none⟩ = some (.int .i64 4) ∧ W.cell? ⟨B, 2, none⟩ = some (.int .i64 6)
theorem Three.low {W W' : World} {v : Value} (h : Three W v) (hb : Below W.heap.size W W') : Three W' v := by
  obtain ⟨B, e, h0, h1, h2⟩ := h
  have k : ∀ o u, W.cell? ⟨B, o, none⟩ = some u → W'.cell? ⟨B, o, none⟩ = some u := fun o u hu => by
    rw [hb.cell (p := ⟨B, o, none⟩) (World.block_lt_of_cell? W _ hu)]; exact hu
  exact ⟨B, e, k _ _ h0, k _ _ h1, k _ _ h2⟩
theorem Three.new (w : World) : Three (w.alloc (.cells #[.int .i64 2, .int .i64 4, .int .i64 6] 3)) (.slice (some ⟨w.heap.size, 0, none⟩) 3 3) :=
  ⟨w.heap.size, rfl, cell_new w [.int .i64 2, .int .i64 4, .int .i64 6] _ rfl, cell_new w [.int .i64 2, .int .i64 4, .int .i64 6] _ rfl, cell_new w [.int .i64 2, .int .i64 4, .int .i64 6] _ rfl⟩
theorem Three.put {W : World} {X : Nat} {t : TypeId} {v : Value} (h : Three W v) (hx : BoxN W X t zc) {u0 u1 u2 u3 u4 u5 u6 u7 u8 u9 u10 u11 : Value} : Three (put12 W X u0 u1 u2 u3 u4 u5 u6 u7 u8 u9 u10 u11) v := by
  obtain ⟨B, e, h0, h1, h2⟩ := h
  have hB := box_ne hx h0 (by simp [zc])
  exact ⟨B, e, by rw [put12_far hB]; exact h0, by rw [put12_far hB]; exact h1, by rw [put12_far hB]; exact h2⟩
theorem Three.rd {W : World} {v : Value} (h : Three W v) : RdI W [2, 4, 6] v := by
  obtain ⟨B, rfl, h0, h1, h2⟩ := h
  refine ⟨_, _, rfl, Nat.le_refl _, fun j d hj => ⟨B, 0, rfl, ?_⟩⟩
  match j, hj with
  | 0, hj => cases hj; exact h0
  | 1, hj => cases hj; exact h1
  | 2, hj => cases hj; exact h2
/-- A literal slice of one payment. -/
def OnePay (W : World) (c : Con) (v : Value) : Prop := c.k = 2 ∧ ∃ B, v = .slice (some ⟨B, 0, none⟩) 1 1 ∧ ∀ (i : Nat) (u : Value), (c.cells (.slice none 0 0) (.slice none 0 0) (.slice none 0 0))[i]? = some u → W.cell? ⟨B, i, none⟩ = some u
theorem OnePay.low {W W' : World} {c : Con} {v : Value} (h : OnePay W c v) (hb : Below W.heap.size W W') : OnePay W' c v := by
  obtain ⟨hk, B, e, h1⟩ := h
  exact ⟨hk, B, e, fun i u hu => by rw [hb.cell (p := ⟨B, i, none⟩) (World.block_lt_of_cell? W _ (h1 i u hu))]; exact h1 i u hu⟩
theorem OnePay.put {W : World} {X : Nat} {t : TypeId} {c : Con} {v : Value} (h : OnePay W c v) (hx : BoxN W X t zc) {u0 u1 u2 u3 u4 u5 u6 u7 u8 u9 u10 u11 : Value} : OnePay (put12 W X u0 u1 u2 u3 u4 u5 u6 u7 u8 u9 u10 u11) c v := by
  obtain ⟨hk, B, e, h1⟩ := h
  have hB : B ≠ X := by
    refine box_ne hx (h1 0 (.int .u8 c.k) rfl) ?_
    rw [hk]; simp [zc]
  exact ⟨hk, B, e, fun i u hu => by rw [put12_far hB]; exact h1 i u hu⟩
theorem OnePay.rd {W : World} {c : Con} {v : Value} (h : OnePay W c v) (h1 : c.ex.sub = []) (h2 : c.ds = []) (h3 : c.sub = []) (h4 : c.ex.k < 256) : RdC W [c] v := by
  obtain ⟨hk, B, rfl, hc⟩ := h
  exact rdC_one hc ⟨by rw [h1]; exact rdE_nil _, by rw [h2]; exact rdI_nil _, by rw [h3]; exact rdC_nil _, by omega, h4⟩
theorem OnePay.new (w : World) (c : Con) (hk : c.k = 2) (t : TypeId) : OnePay (w.alloc (.cells (c.cells (.slice none 0 0) (.slice none 0 0) (.slice none 0 0)).toArray t)) c (.slice (some ⟨w.heap.size, 0, none⟩) 1 1) :=
  ⟨hk, w.heap.size, rfl, fun _ _ hu => cell_new w _ t hu⟩

/-- Two of the drawn regions: a contract that asks 'less' on three days, with one payment. -/
structure NInv (W0 : World) (K : Nat) (c : Con) (es : Value) (L : Nat → Bool) (v0 v1 v2 v3 v4 v5 vb : Value) (w : World) : Prop where
  x : Below W0.heap.size W0 w
  f0 : L 0 = true → v0 = .agg #[.int .u8 11, .string ⟨#[]⟩, .string ⟨#[]⟩, .int .i64 0, es]
  f1 : L 1 = true → L 7 = false → Three w v1
  f2 : L 2 = true → v2 = .agg #[.int .u8 3, .string ⟨#[]⟩, .string ⟨#[90]⟩, .int .i64 0, .slice none 0 0]
  f3 : L 3 = true → v3 = .agg #[.int .u8 2, .string ⟨#[65, 110, 110]⟩, .string ⟨#[66, 111, 98]⟩, .string ⟨#[85, 83, 68]⟩, .int .u8 3, .string ⟨#[]⟩, .string ⟨#[90]⟩, .int .i64 0, .slice none 0 0, .int .i64 0, .slice none 0 0, .slice none 0 0]
  f4 : L 4 = true → L 7 = false → OnePay w payZ v4
  f5 : L 5 = true → L 7 = false → v5 = .agg #[.int .u8 K, .string ⟨#[]⟩, .string ⟨#[]⟩, .string ⟨#[]⟩, .int .u8 11, .string ⟨#[]⟩, .string ⟨#[]⟩, .int .i64 0, es, .int .i64 0, v1, v4] ∧ L 1 = true ∧ L 4 = true
  f6 : L 6 = true → L 7 = false → ∃ X, vb = .pointer (some ⟨X, 0, none⟩) ∧ W0.heap.size ≤ X ∧ BoxN w X 29 zc
  f7 : L 7 = true → Held w vb c
  f8 : ∀ i, L 7 = true → i < 7 → L i = true
section
variable {W0 w w' : World} {K : Nat} {c : Con} {es : Value} {L : Nat → Bool} {v0 v1 v2 v3 v4 v5 vb : Value}
theorem upd_ne {L : Nat → Bool} {i j : Nat} (h : j ≠ i) : upd L i j = L j := if_neg h
theorem upd_eq {L : Nat → Bool} {i : Nat} : upd L i i = true := if_pos rfl
theorem no_of {b : Bool} (h : b = false) {p : Prop} (k : b = true) : p := by rw [h] at k; cases k
theorem NInv.start (h : Below W0.heap.size W0 w) : NInv W0 K c es (fun _ => false) v0 v1 v2 v3 v4 v5 vb w :=
  ⟨h, fun h => (by cases h), fun h => (by cases h), fun h => (by cases h), fun h => (by cases h), fun h => (by cases h), fun h => (by cases h), fun h => (by cases h), fun h => (by cases h), fun _ h => (by cases h)⟩
/-- Before the last operation nothing is stored yet. -/
theorem NInv.open7 (h : NInv W0 K c es L v0 v1 v2 v3 v4 v5 vb w) {i : Nat} (hi : i < 7) (hL : L i = false) : L 7 = false := by
  cases h7 : L 7 with
  | false => rfl
  | true => exact no_of hL (h.f8 i h7 hi)
theorem NInv.ext (h : NInv W0 K c es L v0 v1 v2 v3 v4 v5 vb w) (hb : Below w.heap.size w w') : NInv W0 K c es L v0 v1 v2 v3 v4 v5 vb w' where
  x := h.x.trans (hb.mono h.x.size)
  f0 := h.f0
  f1 a b := (h.f1 a b).low hb
  f2 := h.f2
  f3 := h.f3
  f4 a b := (h.f4 a b).low hb
  f5 := h.f5
  f6 a b := by obtain ⟨X, e, h1, h2⟩ := h.f6 a b; exact ⟨X, e, h1, h2.below hb h2.lt⟩
  f7 a := (h.f7 a).low hb
  f8 := h.f8
theorem NInv.u0 (h : NInv W0 K c es L v0 v1 v2 v3 v4 v5 vb w) (hL : L 0 = false) : NInv W0 K c es (upd L 0) (.agg #[.int .u8 11, .string ⟨#[]⟩, .string ⟨#[]⟩, .int .i64 0, es]) v1 v2 v3 v4 v5 vb w :=
  ⟨h.x, fun _ => rfl, h.f1, h.f2, h.f3, h.f4, h.f5, h.f6, h.f7, fun _ h7 => no_of (h.open7 (by omega) hL) h7⟩
theorem NInv.u1 (h : NInv W0 K c es L v0 v1 v2 v3 v4 v5 vb w) (hL : L 1 = false) {z : Value} (hz : Three w z) : NInv W0 K c es (upd L 1) v0 z v2 v3 v4 v5 vb w :=
  ⟨h.x, h.f0, fun _ _ => hz, h.f2, h.f3, h.f4, fun a b => no_of hL (h.f5 a b).2.1, h.f6, h.f7, fun _ h7 => no_of (h.open7 (by omega) hL) h7⟩
theorem NInv.u2 (h : NInv W0 K c es L v0 v1 v2 v3 v4 v5 vb w) (hL : L 2 = false) : NInv W0 K c es (upd L 2) v0 v1 (.agg #[.int .u8 3, .string ⟨#[]⟩, .string ⟨#[90]⟩, .int .i64 0, .slice none 0 0]) v3 v4 v5 vb w :=
  ⟨h.x, h.f0, h.f1, fun _ => rfl, h.f3, h.f4, h.f5, h.f6, h.f7, fun _ h7 => no_of (h.open7 (by omega) hL) h7⟩
theorem NInv.u3 (h : NInv W0 K c es L v0 v1 v2 v3 v4 v5 vb w) (hL : L 3 = false) : NInv W0 K c es (upd L 3) v0 v1 v2 (.agg #[.int .u8 2, .string ⟨#[65, 110, 110]⟩, .string ⟨#[66, 111, 98]⟩, .string ⟨#[85, 83, 68]⟩, .int .u8 3, .string ⟨#[]⟩, .string ⟨#[90]⟩, .int .i64 0, .slice none 0 0, .int .i64 0, .slice none 0 0, .slice none 0 0]) v4 v5 vb w :=
  ⟨h.x, h.f0, h.f1, h.f2, fun _ => rfl, h.f4, h.f5, h.f6, h.f7, fun _ h7 => no_of (h.open7 (by omega) hL) h7⟩
theorem NInv.u4 (h : NInv W0 K c es L v0 v1 v2 v3 v4 v5 vb w) (hL : L 4 = false) {z : Value} (hz : OnePay w payZ z) : NInv W0 K c es (upd L 4) v0 v1 v2 v3 z v5 vb w :=
  ⟨h.x, h.f0, h.f1, h.f2, h.f3, fun _ _ => hz, fun a b => no_of hL (h.f5 a b).2.2, h.f6, h.f7, fun _ h7 => no_of (h.open7 (by omega) hL) h7⟩
theorem NInv.u5 (h : NInv W0 K c es L v0 v1 v2 v3 v4 v5 vb w) (hL : L 5 = false) (h1 : L 1 = true) (h4 : L 4 = true) : NInv W0 K c es (upd L 5) v0 v1 v2 v3 v4 (.agg #[.int .u8 K, .string ⟨#[]⟩, .string ⟨#[]⟩, .string ⟨#[]⟩, .int .u8 11, .string ⟨#[]⟩, .string ⟨#[]⟩, .int .i64 0, es, .int .i64 0, v1, v4]) vb w :=
  ⟨h.x, h.f0, h.f1, h.f2, h.f3, h.f4, fun _ _ => ⟨rfl, h1, h4⟩, h.f6, h.f7, fun _ h7 => no_of (h.open7 (by omega) hL) h7⟩
theorem NInv.u6 (h : NInv W0 K c es L v0 v1 v2 v3 v4 v5 vb w) (hL : L 6 = false) {X : Nat} (hX : W0.heap.size ≤ X) (hb : BoxN w X 29 zc) : NInv W0 K c es (upd L 6) v0 v1 v2 v3 v4 v5 (.pointer (some ⟨X, 0, none⟩)) w :=
  ⟨h.x, h.f0, h.f1, h.f2, h.f3, h.f4, h.f5, fun _ _ => ⟨X, rfl, hX, hb⟩, fun h7 => no_of (h.open7 (by omega) hL) h7, fun _ h7 => no_of (h.open7 (by omega) hL) h7⟩
theorem NInv.u7 (h : NInv W0 K c es L v0 v1 v2 v3 v4 v5 vb w) (hall : ∀ i, i < 7 → L i = true) (hK : K < 256) (hc : c = .mk K bE bE bE lessE 0 [2, 4, 6] [payZ]) (he : RdE W0 [nowX, fixY3] es) {X : Nat} (hX : W0.heap.size ≤ X) (hx : BoxN w X 29 zc) (h1 : Three w v1) (h4 : OnePay w payZ v4) :
    NInv W0 K c es (upd L 7) v0 v1 v2 v3 v4 v5 (.pointer (some ⟨X, 0, none⟩)) (put12 w X (.int .u8 K) (.string ⟨#[]⟩) (.string ⟨#[]⟩) (.string ⟨#[]⟩) (.int .u8 11) (.string ⟨#[]⟩) (.string ⟨#[]⟩) (.int .i64 0) es (.int .i64 0) v1 v4) := by
  have hb := put12_below (u0 := .int .u8 K) (u1 := .string ⟨#[]⟩) (u2 := .string ⟨#[]⟩) (u3 := .string ⟨#[]⟩) (u4 := .int .u8 11) (u5 := .string ⟨#[]⟩) (u6 := .string ⟨#[]⟩) (u7 := .int .i64 0) (u8 := es) (u9 := .int .i64 0) (u10 := v1) (u11 := v4) h.x hX
  refine ⟨hb, h.f0, fun _ b => (by cases b), h.f2, h.f3, fun _ b => (by cases b), fun _ b => (by cases b), fun _ b => (by cases b), fun _ => ?_, fun i _ hi => ?_⟩
  · subst hc
    refine ⟨X, es, v1, v4, rfl, CBox.of_box (put12_box hx), he.frame hb, (h1.put hx).rd, (h4.put hx).rd rfl rfl rfl (by decide), hK, by show 11 < 256; decide⟩
  · rw [upd_ne (by omega)]; exact hall i hi
end
end Go.Proofs.YtflddbgadkndlaaGreatDoor

namespace Go.Proofs.YtflddbgadkndlaaGreatDoor
open Go.RowKit

theorem rdC_pair {w : World} {B cap : Nat} {x y : Con} {es dd ss es2 dd2 ss2 : Value} (hc : ∀ i u, (x.cells es dd ss ++ y.cells es2 dd2 ss2)[i]? = some u → w.cell? ⟨B, i, none⟩ = some u) (hr : RdN w x es dd ss) (hr2 : RdN w y es2 dd2 ss2) : RdC w [x, y] (.slice (some ⟨B, 0, none⟩) 2 cap) := by
  refine .mk (some ⟨B, 0, none⟩) cap [x, y] (fun j => if j = 0 then es else es2) (fun j => if j = 0 then dd else dd2) (fun j => if j = 0 then ss else ss2) (fun j z h => ?_) (fun j z h => ?_) (fun j z h => ?_) (fun j z h => ?_)
  · match j, h with
    | 0, h =>
      cases h
      refine ⟨hr.2.2.2, B, 0, rfl, fun i u hu => ?_⟩
      have hi : i < 12 := (List.getElem?_eq_some_iff.1 hu).1
      rw [show 0 + 0 * 12 + i = i by omega]
      exact hc i u (by rw [List.getElem?_append_left hi]; exact hu)
    | 1, h =>
      cases h
      refine ⟨hr2.2.2.2, B, 0, rfl, fun i u hu => ?_⟩
      rw [show 0 + 1 * 12 + i = 12 + i by omega]
      exact hc (12 + i) u (by rw [List.getElem?_append_right (by show 12 ≤ _; omega)]; show _[12 + i - 12]? = _; rw [Nat.add_sub_cancel_left]; exact hu)
  · match j, h with
    | 0, h => cases h; exact hr.1
    | 1, h => cases h; exact hr2.1
  · match j, h with
    | 0, h => cases h; exact hr.2.1
    | 1, h => cases h; exact hr2.2.1
  · match j, h with
    | 0, h => cases h; exact hr.2.2.1
    | 1, h => cases h; exact hr2.2.2.1
theorem unt_cells {W : World} {X : Nat} {es dd ss : Value} (h : CBox W X untC es dd ss) : W.cell? ⟨X, 0, none⟩ = some (.int .u8 9) ∧ W.cell? ⟨X, 1, none⟩ = some (.string ⟨#[]⟩) ∧ W.cell? ⟨X, 2, none⟩ = some (.string ⟨#[]⟩) ∧ W.cell? ⟨X, 3, none⟩ = some (.string ⟨#[]⟩) ∧ W.cell? ⟨X, 4, none⟩ = some (.int .u8 11) ∧ W.cell? ⟨X, 5, none⟩ = some (.string ⟨#[]⟩) ∧ W.cell? ⟨X, 6, none⟩ = some (.string ⟨#[]⟩) ∧ W.cell? ⟨X, 7, none⟩ = some (.int .i64 0) ∧ W.cell? ⟨X, 8, none⟩ = some (es) ∧ W.cell? ⟨X, 9, none⟩ = some (.int .i64 0) ∧ W.cell? ⟨X, 10, none⟩ = some (dd) ∧ W.cell? ⟨X, 11, none⟩ = some (ss) := h
theorem when_cells {W : World} {X : Nat} {es dd ss : Value} (h : CBox W X whenC es dd ss) : W.cell? ⟨X, 0, none⟩ = some (.int .u8 10) ∧ W.cell? ⟨X, 1, none⟩ = some (.string ⟨#[]⟩) ∧ W.cell? ⟨X, 2, none⟩ = some (.string ⟨#[]⟩) ∧ W.cell? ⟨X, 3, none⟩ = some (.string ⟨#[]⟩) ∧ W.cell? ⟨X, 4, none⟩ = some (.int .u8 11) ∧ W.cell? ⟨X, 5, none⟩ = some (.string ⟨#[]⟩) ∧ W.cell? ⟨X, 6, none⟩ = some (.string ⟨#[]⟩) ∧ W.cell? ⟨X, 7, none⟩ = some (.int .i64 0) ∧ W.cell? ⟨X, 8, none⟩ = some (es) ∧ W.cell? ⟨X, 9, none⟩ = some (.int .i64 0) ∧ W.cell? ⟨X, 10, none⟩ = some (dd) ∧ W.cell? ⟨X, 11, none⟩ = some (ss) := h
theorem pick_cells {W : World} {X : Nat} {es dd ss : Value} (h : CBox W X pickC es dd ss) : W.cell? ⟨X, 0, none⟩ = some (.int .u8 7) ∧ W.cell? ⟨X, 1, none⟩ = some (.string ⟨#[66, 111, 98]⟩) ∧ W.cell? ⟨X, 2, none⟩ = some (.string ⟨#[]⟩) ∧ W.cell? ⟨X, 3, none⟩ = some (.string ⟨#[100]⟩) ∧ W.cell? ⟨X, 4, none⟩ = some (.int .u8 0) ∧ W.cell? ⟨X, 5, none⟩ = some (.string ⟨#[]⟩) ∧ W.cell? ⟨X, 6, none⟩ = some (.string ⟨#[]⟩) ∧ W.cell? ⟨X, 7, none⟩ = some (.int .i64 0) ∧ W.cell? ⟨X, 8, none⟩ = some (es) ∧ W.cell? ⟨X, 9, none⟩ = some (.int .i64 0) ∧ W.cell? ⟨X, 10, none⟩ = some (dd) ∧ W.cell? ⟨X, 11, none⟩ = some (ss) := h
/-- A literal slice of the two parts. -/
def TwoC (W : World) (es dd ss v : Value) : Prop := ∃ B v3, v = .slice (some ⟨B, 0, none⟩) 2 2 ∧ OnePay W payL v3 ∧ ∀ i u, (whenC.cells es dd ss ++ at1C.cells (.slice none 0 0) (.slice none 0 0) v3)[i]? = some u → W.cell? ⟨B, i, none⟩ = some u
section
variable {W W' : World} {es dd ss v v3 : Value}
theorem TwoC.low (h : TwoC W es dd ss v) (hb : Below W.heap.size W W') : TwoC W' es dd ss v := by
  obtain ⟨B, v3, e, h1, h2⟩ := h
  exact ⟨B, v3, e, h1.low hb, fun i u hu => by rw [hb.cell (p := ⟨B, i, none⟩) (World.block_lt_of_cell? W _ (h2 i u hu))]; exact h2 i u hu⟩
theorem TwoC.put {X : Nat} {t : TypeId} (h : TwoC W es dd ss v) (hx : BoxN W X t zc) {u0 u1 u2 u3 u4 u5 u6 u7 u8 u9 u10 u11 : Value} : TwoC (put12 W X u0 u1 u2 u3 u4 u5 u6 u7 u8 u9 u10 u11) es dd ss v := by
  obtain ⟨B, v3, e, h1, h2⟩ := h
  have hB : B ≠ X := box_ne hx (h2 0 (.int .u8 10) rfl) (by simp [zc])
  exact ⟨B, v3, e, h1.put hx, fun i u hu => by rw [put12_far hB]; exact h2 i u hu⟩
theorem TwoC.new (w : World) (h : OnePay w payL v3) (t : TypeId) : TwoC (w.alloc (.cells (whenC.cells es dd ss ++ at1C.cells (.slice none 0 0) (.slice none 0 0) v3).toArray t)) es dd ss (.slice (some ⟨w.heap.size, 0, none⟩) 2 2) :=
  ⟨w.heap.size, v3, rfl, h.low (below_a1 _ _), fun _ _ hu => cell_new w _ t hu⟩
theorem TwoC.rd (h : TwoC W es dd ss v) (hr : RdN W whenC es dd ss) : RdC W [whenC, at1C] v := by
  obtain ⟨B, v3, rfl, h1, h2⟩ := h
  exact rdC_pair h2 hr ⟨rdE_nil _, rdI_nil _, h1.rd rfl rfl rfl (by decide), by decide, by decide⟩
end

structure PInv (W0 : World) (es dd ss : Value) (L : Nat → Bool) (v0 v1 v2 v3 v4 v5 v6 vb : Value) (w : World) : Prop where
  x : Below W0.heap.size W0 w
  f0 : L 0 = true → v0 = .agg #[.int .u8 10, .string ⟨#[]⟩, .string ⟨#[]⟩, .string ⟨#[]⟩, .int .u8 11, .string ⟨#[]⟩, .string ⟨#[]⟩, .int .i64 0, es, .int .i64 0, dd, ss]
  f1 : L 1 = true → v1 = .agg #[.int .u8 2, .string ⟨#[]⟩, .string ⟨#[108, 97, 116, 101]⟩, .int .i64 99, .slice none 0 0]
  f2 : L 2 = true → v2 = .agg #[.int .u8 2, .string ⟨#[65, 110, 110]⟩, .string ⟨#[66, 111, 98]⟩, .string ⟨#[85, 83, 68]⟩, .int .u8 2, .string ⟨#[]⟩, .string ⟨#[108, 97, 116, 101]⟩, .int .i64 99, .slice none 0 0, .int .i64 0, .slice none 0 0, .slice none 0 0]
  f3 : L 3 = true → L 8 = false → OnePay w payL v3
  f4 : L 4 = true → L 8 = false → v4 = .agg #[.int .u8 6, .string ⟨#[]⟩, .string ⟨#[]⟩, .string ⟨#[]⟩, .int .u8 0, .string ⟨#[]⟩, .string ⟨#[]⟩, .int .i64 0, .slice none 0 0, .int .i64 1, .slice none 0 0, v3] ∧ L 3 = true
  f5 : L 5 = true → L 8 = false → TwoC w es dd ss v5
  f6 : L 6 = true → L 8 = false → v6 = .agg #[.int .u8 7, .string ⟨#[66, 111, 98]⟩, .string ⟨#[]⟩, .string ⟨#[100]⟩, .int .u8 0, .string ⟨#[]⟩, .string ⟨#[]⟩, .int .i64 0, .slice none 0 0, .int .i64 0, .slice none 0 0, v5] ∧ L 5 = true
  f7 : L 7 = true → L 8 = false → ∃ X, vb = .pointer (some ⟨X, 0, none⟩) ∧ W0.heap.size ≤ X ∧ BoxN w X 29 zc
  f8 : L 8 = true → Held w vb pickC
  f9 : ∀ i, L 8 = true → i < 8 → L i = true
section
variable {W0 w w' : World} {es dd ss : Value} {L : Nat → Bool} {v0 v1 v2 v3 v4 v5 v6 vb : Value}
theorem PInv.start (h : Below W0.heap.size W0 w) : PInv W0 es dd ss (fun _ => false) v0 v1 v2 v3 v4 v5 v6 vb w :=
  ⟨h, fun h => (by cases h), fun h => (by cases h), fun h => (by cases h), fun h => (by cases h), fun h => (by cases h), fun h => (by cases h), fun h => (by cases h), fun h => (by cases h), fun h => (by cases h), fun _ h => (by cases h)⟩
theorem PInv.open8 (h : PInv W0 es dd ss L v0 v1 v2 v3 v4 v5 v6 vb w) {i : Nat} (hi : i < 8) (hL : L i = false) : L 8 = false := by
  cases h7 : L 8 with
  | false => rfl
  | true => exact no_of hL (h.f9 i h7 hi)
theorem PInv.ext (h : PInv W0 es dd ss L v0 v1 v2 v3 v4 v5 v6 vb w) (hb : Below w.heap.size w w') : PInv W0 es dd ss L v0 v1 v2 v3 v4 v5 v6 vb w' where
  x := h.x.trans (hb.mono h.x.size)
  f0 := h.f0
  f1 := h.f1
  f2 := h.f2
  f3 a b := (h.f3 a b).low hb
  f4 := h.f4
  f5 a b := (h.f5 a b).low hb
  f6 := h.f6
  f7 a b := by obtain ⟨X, e, h1, h2⟩ := h.f7 a b; exact ⟨X, e, h1, h2.below hb h2.lt⟩
  f8 a := (h.f8 a).low hb
  f9 := h.f9
theorem PInv.u0 (h : PInv W0 es dd ss L v0 v1 v2 v3 v4 v5 v6 vb w) (hL : L 0 = false) : PInv W0 es dd ss (upd L 0) (.agg #[.int .u8 10, .string ⟨#[]⟩, .string ⟨#[]⟩, .string ⟨#[]⟩, .int .u8 11, .string ⟨#[]⟩, .string ⟨#[]⟩, .int .i64 0, es, .int .i64 0, dd, ss]) v1 v2 v3 v4 v5 v6 vb w :=
  ⟨h.x, fun _ => rfl, h.f1, h.f2, h.f3, h.f4, h.f5, h.f6, h.f7, h.f8, fun _ h7 => no_of (h.open8 (by omega) hL) h7⟩
theorem PInv.u1 (h : PInv W0 es dd ss L v0 v1 v2 v3 v4 v5 v6 vb w) (hL : L 1 = false) : PInv W0 es dd ss (upd L 1) v0 (.agg #[.int .u8 2, .string ⟨#[]⟩, .string ⟨#[108, 97, 116, 101]⟩, .int .i64 99, .slice none 0 0]) v2 v3 v4 v5 v6 vb w :=
  ⟨h.x, h.f0, fun _ => rfl, h.f2, h.f3, h.f4, h.f5, h.f6, h.f7, h.f8, fun _ h7 => no_of (h.open8 (by omega) hL) h7⟩
theorem PInv.u2 (h : PInv W0 es dd ss L v0 v1 v2 v3 v4 v5 v6 vb w) (hL : L 2 = false) : PInv W0 es dd ss (upd L 2) v0 v1 (.agg #[.int .u8 2, .string ⟨#[65, 110, 110]⟩, .string ⟨#[66, 111, 98]⟩, .string ⟨#[85, 83, 68]⟩, .int .u8 2, .string ⟨#[]⟩, .string ⟨#[108, 97, 116, 101]⟩, .int .i64 99, .slice none 0 0, .int .i64 0, .slice none 0 0, .slice none 0 0]) v3 v4 v5 v6 vb w :=
  ⟨h.x, h.f0, h.f1, fun _ => rfl, h.f3, h.f4, h.f5, h.f6, h.f7, h.f8, fun _ h7 => no_of (h.open8 (by omega) hL) h7⟩
theorem PInv.u3 (h : PInv W0 es dd ss L v0 v1 v2 v3 v4 v5 v6 vb w) (hL : L 3 = false) {z : Value} (hz : OnePay w payL z) : PInv W0 es dd ss (upd L 3) v0 v1 v2 z v4 v5 v6 vb w :=
  ⟨h.x, h.f0, h.f1, h.f2, fun _ _ => hz, fun a b => no_of hL (h.f4 a b).2, h.f5, h.f6, h.f7, h.f8, fun _ h7 => no_of (h.open8 (by omega) hL) h7⟩
theorem PInv.u4 (h : PInv W0 es dd ss L v0 v1 v2 v3 v4 v5 v6 vb w) (hL : L 4 = false) (h3 : L 3 = true) : PInv W0 es dd ss (upd L 4) v0 v1 v2 v3 (.agg #[.int .u8 6, .string ⟨#[]⟩, .string ⟨#[]⟩, .string ⟨#[]⟩, .int .u8 0, .string ⟨#[]⟩, .string ⟨#[]⟩, .int .i64 0, .slice none 0 0, .int .i64 1, .slice none 0 0, v3]) v5 v6 vb w :=
  ⟨h.x, h.f0, h.f1, h.f2, h.f3, fun _ _ => ⟨rfl, h3⟩, h.f5, h.f6, h.f7, h.f8, fun _ h7 => no_of (h.open8 (by omega) hL) h7⟩
theorem PInv.u5 (h : PInv W0 es dd ss L v0 v1 v2 v3 v4 v5 v6 vb w) (hL : L 5 = false) {z : Value} (hz : TwoC w es dd ss z) : PInv W0 es dd ss (upd L 5) v0 v1 v2 v3 v4 z v6 vb w :=
  ⟨h.x, h.f0, h.f1, h.f2, h.f3, h.f4, fun _ _ => hz, fun a b => no_of hL (h.f6 a b).2, h.f7, h.f8, fun _ h7 => no_of (h.open8 (by omega) hL) h7⟩
theorem PInv.u6 (h : PInv W0 es dd ss L v0 v1 v2 v3 v4 v5 v6 vb w) (hL : L 6 = false) (h5 : L 5 = true) : PInv W0 es dd ss (upd L 6) v0 v1 v2 v3 v4 v5 (.agg #[.int .u8 7, .string ⟨#[66, 111, 98]⟩, .string ⟨#[]⟩, .string ⟨#[100]⟩, .int .u8 0, .string ⟨#[]⟩, .string ⟨#[]⟩, .int .i64 0, .slice none 0 0, .int .i64 0, .slice none 0 0, v5]) vb w :=
  ⟨h.x, h.f0, h.f1, h.f2, h.f3, h.f4, h.f5, fun _ _ => ⟨rfl, h5⟩, h.f7, h.f8, fun _ h7 => no_of (h.open8 (by omega) hL) h7⟩
theorem PInv.u7 (h : PInv W0 es dd ss L v0 v1 v2 v3 v4 v5 v6 vb w) (hL : L 7 = false) {X : Nat} (hX : W0.heap.size ≤ X) (hb : BoxN w X 29 zc) : PInv W0 es dd ss (upd L 7) v0 v1 v2 v3 v4 v5 v6 (.pointer (some ⟨X, 0, none⟩)) w :=
  ⟨h.x, h.f0, h.f1, h.f2, h.f3, h.f4, h.f5, h.f6, fun _ _ => ⟨X, rfl, hX, hb⟩, fun h7 => no_of (h.open8 (by omega) hL) h7, fun _ h7 => no_of (h.open8 (by omega) hL) h7⟩
theorem PInv.u8 (h : PInv W0 es dd ss L v0 v1 v2 v3 v4 v5 v6 vb w) (hall : ∀ i, i < 8 → L i = true) (hr : RdN W0 whenC es dd ss) {X : Nat} (hX : W0.heap.size ≤ X) (hx : BoxN w X 29 zc) (h5 : TwoC w es dd ss v5) :
    PInv W0 es dd ss (upd L 8) v0 v1 v2 v3 v4 v5 v6 (.pointer (some ⟨X, 0, none⟩)) (put12 w X (.int .u8 7) (.string ⟨#[66, 111, 98]⟩) (.string ⟨#[]⟩) (.string ⟨#[100]⟩) (.int .u8 0) (.string ⟨#[]⟩) (.string ⟨#[]⟩) (.int .i64 0) (.slice none 0 0) (.int .i64 0) (.slice none 0 0) v5) := by
  have hb := put12_below (u0 := .int .u8 7) (u1 := .string ⟨#[66, 111, 98]⟩) (u2 := .string ⟨#[]⟩) (u3 := .string ⟨#[100]⟩) (u4 := .int .u8 0) (u5 := .string ⟨#[]⟩) (u6 := .string ⟨#[]⟩) (u7 := .int .i64 0) (u8 := .slice none 0 0) (u9 := .int .i64 0) (u10 := .slice none 0 0) (u11 := v5) h.x hX
  refine ⟨hb, h.f0, h.f1, h.f2, fun _ b => (by cases b), fun _ b => (by cases b), fun _ b => (by cases b), fun _ b => (by cases b), fun _ b => (by cases b), fun _ => ?_, fun i _ hi => ?_⟩
  · exact ⟨X, .slice none 0 0, .slice none 0 0, v5, rfl, CBox.of_box (c := pickC) (put12_box hx), rdE_nil _, rdI_nil _, (h5.put hx).rd (hr.frame hb), by decide, by decide⟩
  · rw [upd_ne (by omega)]; exact hall i hi
end
end Go.Proofs.YtflddbgadkndlaaGreatDoor

namespace Go.Proofs.YtflddbgadkndlaaGreatDoor
open Go.RowKit

set_option maxRecDepth 100000 in
theorem known1_any (f : Fx) (day : Int) (B : Nat) (w : World) (hc : w.cell? ⟨B, 0, none⟩ = some (.int .i64 day)) :
    Calls Tryz.prog 53 #[f.val, .pointer (some ⟨B, 0, none⟩)] w fun e w' => e = .returned (.bool (decide (f.d ≤ day))) ∧ Below w.heap.size w w' := by
  have hB : B < w.heap.size := World.block_lt_of_cell? w _ hc
  unfold Fx.val fxV
  go_enter Tryz.func53, Tryz.ntmps53
  go_wp2
  go_ret
  exact ⟨rfl, below_a1 _ _⟩
set_option maxRecDepth 100000 in
theorem known2_any (f : Ch) (day : Int) (B : Nat) (w : World) (hc : w.cell? ⟨B, 0, none⟩ = some (.int .i64 day)) :
    Calls Tryz.prog 55 #[f.val, .pointer (some ⟨B, 0, none⟩)] w fun e w' => e = .returned (.bool (decide (f.d ≤ day))) ∧ Below w.heap.size w w' := by
  have hB : B < w.heap.size := World.block_lt_of_cell? w _ hc
  unfold Ch.val chV
  go_enter Tryz.func55, Tryz.ntmps55
  go_wp2
  go_ret
  exact ⟨rfl, below_a1 _ _⟩
end Go.Proofs.YtflddbgadkndlaaGreatDoor
