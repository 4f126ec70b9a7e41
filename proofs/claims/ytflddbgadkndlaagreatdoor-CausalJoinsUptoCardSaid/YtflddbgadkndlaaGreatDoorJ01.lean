/-
  The contracts of CausalNames: all that is asked of them, by computation. Law 15's joins: plain. novationlaw15.within. A region that draws its order, by an invariant: each operation once, whatever stands before it. CausalJoins: the contracts that it builds; what its drawn region keeps.
-/
import Derived.Test.YtflddbgadkndlaaGreatDoorC26
import Derived.Laws.StructEq
import Derived.Deep.CutBlock
import Derived.Test.YtflddbgadkndlaaGreatDoorC06
import Derived.StillTail
import Derived.RegionTactic
import Derived.Test.YtflddbgadkndlaaGreatDoorC27
import Derived.Test.YtflddbgadkndlaaGreatDoorC28
namespace Go.Proofs.YtflddbgadkndlaaGreatDoor
open Go.RowKit

instance (k : Nat) (ra nm : ByteArray) (d : Int) (n : Nat) : Decidable (leafOk k ra nm d n) := by unfold leafOk; infer_instance
def sortOfB (k : Nat) (ra nm : ByteArray) (d : Int) (l : List Nat) : Nat :=
  match shapeOf k with
  | none => if leafOk k ra nm d l.length then 1 else 0
  | some (ps, own) => if ra.size = 0 ∧ nm.size = 0 ∧ d = 0 ∧ l = ps then own else 0
theorem sortOfB_eq (k : Nat) (ra nm : ByteArray) (d : Int) (l : List Nat) : sortOf k ra nm d l = sortOfB k ra nm d l := by
  unfold sortOf sortOfB leafSort partSort
  cases shapeOf k with
  | none =>
    simp only
    by_cases h : leafOk k ra nm d l.length
    · rw [if_pos h, if_pos h]
    · rw [if_neg h, if_neg h]
  | some p => rfl
mutual
def Ex.sortB : Ex → Nat
  | .mk k r n d l => sortOfB k r n d (Ex.sortsB l)
def Ex.sortsB : List Ex → List Nat
  | [] => []
  | x :: l => Ex.sortB x :: Ex.sortsB l
end
mutual
theorem Ex.sortB_eq : ∀ x : Ex, x.sort = x.sortB
  | .mk k r n d l => by rw [Ex.sort, Ex.sortB, Ex.sortsB_eq l, sortOfB_eq]
theorem Ex.sortsB_eq : ∀ l : List Ex, Ex.sorts l = Ex.sortsB l
  | [] => by rw [Ex.sorts, Ex.sortsB]
  | x :: l => by rw [Ex.sorts, Ex.sortsB, Ex.sortB_eq x, Ex.sortsB_eq l]
end
def Ex.errB (x : Ex) : Int := if 500 < x.size ∨ 60 < x.depth then 4 else if x.sortB = 0 then 8 else 0
def Ex.isAB (x : Ex) (t : Nat) : Bool := decide (x.errB = 0) && decide (x.sortB = t)
theorem Ex.isAB_eq (x : Ex) (t : Nat) : x.isA t = x.isAB t := by unfold Ex.isA Ex.isAB Ex.err Ex.errB; rw [Ex.sortB_eq]
def nodeOkB (c : Con) : Bool :=
  let nobody := decide (c.fr.size = 0)
  let noTo := decide (c.rc.size = 0)
  let noName := decide (c.nm.size = 0)
  let noDate := decide (c.d = 0)
  let noDays := decide (c.ds.length = 0)
  let n := c.sub.length
  if c.k = 1 then decide (n = 0) && (nobody && (noTo && (noName && (noDate && (noDays && c.ex.bare)))))
  else if c.k = 2 then decide (n = 0) && (isNm (bl c.fr) && (isNm (bl c.rc) && (!decide (c.fr = c.rc) && (isNm (bl c.nm) && (c.ex.isAB 1 && (noDate && noDays))))))
  else if c.k = 3 then decide (n = 2) && (nobody && (noTo && (noName && (noDate && (noDays && c.ex.bare)))))
  else if c.k = 4 then decide (n = 1) && (nobody && (noTo && (noName && (noDate && (noDays && c.ex.isAB 1)))))
  else if c.k = 5 then decide (n = 2) && (nobody && (noTo && (noName && (noDate && (noDays && c.ex.isAB 2)))))
  else if c.k = 6 then decide (n = 1) && (nobody && (noTo && (noName && (isDay c.d && (noDays && c.ex.bare)))))
  else if c.k = 7 then decide (n = 2) && (isNm (bl c.fr) && (noTo && (isNm (bl c.nm) && (noDate && (noDays && c.ex.bare)))))
  else if c.k = 8 then decide (n = 1) && (isNm (bl c.fr) && (noTo && (isNm (bl c.nm) && (noDate && (isDays c.ds && c.ex.bare)))))
  else if c.k = 9 ∨ c.k = 10 then decide (n = 1) && (nobody && (noTo && (noName && (noDate && (isDays c.ds && c.ex.isAB 2)))))
  else false
theorem nodeOkB_eq (c : Con) : nodeOk c = nodeOkB c := by unfold nodeOk nodeOkB; simp only [Ex.isAB_eq]
mutual
def Con.formedB : Con → Bool
  | .mk k fr rc nm ex d ds l => nodeOkB (.mk k fr rc nm ex d ds l) && Con.formedsB l
def Con.formedsB : List Con → Bool
  | [] => true
  | x :: l => Con.formedB x && Con.formedsB l
end
mutual
theorem Con.formedB_eq : ∀ x : Con, x.formed = x.formedB
  | .mk k fr rc nm ex d ds l => by rw [Con.formed, Con.formedB, Con.formedsB_eq l, nodeOkB_eq]
theorem Con.formedsB_eq : ∀ l : List Con, Con.formeds l = Con.formedsB l
  | [] => by rw [Con.formeds, Con.formedsB]
  | x :: l => by rw [Con.formeds, Con.formedsB, Con.formedB_eq x, Con.formedsB_eq l]
end
def Con.errB (x : Con) : Int := if 500 < x.size ∨ 60 < x.depth then 4 else if x.formedB = true then 0 else 8
theorem Con.errB_eq (x : Con) : x.err = x.errB := by unfold Con.err Con.errB; rw [Con.formedB_eq]

theorem vis_of {c : Con} {day : Int} (h : c.errB = 0) (hd : isDay day = true) : visErr c day = 0 := by unfold visErr; rw [Con.errB_eq, if_pos h, if_pos hd]
theorem evs_of {c : Con} {day : Int} (h : visErr c day = 0) : visEvs c day = c.evs [day] := by unfold visEvs; rw [if_pos h]
theorem needs_of {c : Con} {day : Int} {L : List NdP} (h : visErr c day = 0) (he : evNs (c.evs [day]) = L) (hs : Srt ndLt L) (hl : L.length ≤ 1000) : nErr c day = 0 ∧ nSet c day = L := by
  have h1 : nErr c day = 0 := by unfold nErr; rw [evs_of h, he, uniq_fix nd_sto hs]; exact fewErr_ok h hl
  exact ⟨h1, by unfold nSet; rw [if_pos h1, evs_of h, he, uniq_fix nd_sto hs]⟩
theorem dead_of {c : Con} {day : Int} {L : List ChP} (h : visErr c day = 0) (he : evCs (c.evs [day]) = L) (hs : Srt chxLt L) (hl : L.length ≤ 1000) : dErr c day = 0 ∧ dSet c day = L := by
  have h1 : dErr c day = 0 := by unfold dErr; rw [evs_of h, he, uniq_fix chx_sto hs]; exact fewErr_ok h hl
  exact ⟨h1, by unfold dSet; rw [if_pos h1, evs_of h, he, uniq_fix chx_sto hs]⟩
theorem days_of {c : Con} {day : Int} {L : List Int} (h : visErr c day = 0) (he : evDs (c.evs [day]) = L) (hs : Srt dayLt L) : ySet c day = L := by
  unfold ySet; rw [if_pos h, evs_of h, he, uniq_fix day_sto hs]
theorem caus_of {c : Con} {day : Int} {b : Bool} (h : visErr c day = 0) (he : evLt (c.evs [day]) = b) : causErr c day = if b = true then 34 else 0 := by
  unfold causErr; rw [if_pos h, evs_of h, he]

def bZ : ByteArray := ⟨#[90]⟩
def bd : ByteArray := ⟨#[100]⟩
def blate : ByteArray := ⟨#[108, 97, 116, 101]⟩
def nowX : Ex := .mk 3 bE bX 0 []
def fixY3 : Ex := .mk 2 bE bY 3 []
def lessE : Ex := .mk 11 bE bE 0 [nowX, fixY3]
def payZ : Con := .mk 2 bAnn bBob bUSD (.mk 3 bE bZ 0 []) 0 [] []
def payL : Con := .mk 2 bAnn bBob bUSD (.mk 2 bE blate 99 []) 0 [] []
def payX : Con := .mk 2 bAnn bBob bUSD (.mk 2 bE bX 4 []) 0 [] []
def untC : Con := .mk 9 bE bE bE lessE 0 [2, 4, 6] [payZ]
def whenC : Con := .mk 10 bE bE bE lessE 0 [2, 4, 6] [payZ]
def at1C : Con := .mk 6 bE bE bE exZ 1 [] [payL]
def pickC : Con := .mk 7 bBob bE bd exZ 0 [] [whenC, at1C]
def noneC : Con := .mk 0 bE bE bE exZ 0 [] []

set_option maxRecDepth 100000
theorem untC_err : untC.errB = 0 := by decide +kernel
theorem whenC_err : whenC.errB = 0 := by decide +kernel
theorem pickC_err : pickC.errB = 0 := by decide +kernel
theorem payX_err : payX.errB = 0 := by decide +kernel
theorem untC_needs : nErr untC 3 = 0 ∧ nSet untC 3 = [(bX, 4), (bX, 6), (bY, 3), (bZ, 3)] := needs_of (vis_of untC_err rfl) rfl (by unfold Srt; decide +kernel) (by decide)
theorem whenC_needs : nErr whenC 3 = 0 ∧ nSet whenC 3 = [(bX, 4), (bX, 6), (bY, 3), (bZ, 4), (bZ, 6)] := needs_of (vis_of whenC_err rfl) rfl (by unfold Srt; decide +kernel) (by decide)
theorem whenC_needs7 : nErr whenC 7 = 0 ∧ nSet whenC 7 = [] := needs_of (vis_of whenC_err rfl) rfl (by unfold Srt; decide +kernel) (by decide)
theorem whenC_days : ySet whenC 3 = [4, 6] := days_of (vis_of whenC_err rfl) rfl (by unfold Srt; decide +kernel)
theorem untC_days : ySet untC 7 = [7] := days_of (vis_of untC_err rfl) rfl (by unfold Srt; decide +kernel)
theorem pickC_dead : dErr pickC 3 = 0 ∧ dSet pickC 3 = [(bBob, bd, 3)] := dead_of (vis_of pickC_err rfl) rfl (by unfold Srt; decide +kernel) (by decide)
theorem untC_c2 : causErr untC 2 = 34 := caus_of (b := true) (vis_of untC_err rfl) rfl
theorem untC_c3 : causErr untC 3 = 0 := caus_of (b := false) (vis_of untC_err rfl) rfl
theorem pickC_c3 : causErr pickC 3 = 0 := caus_of (b := false) (vis_of pickC_err rfl) rfl
theorem pickC_c1 : causErr pickC 1 = 34 := caus_of (b := true) (vis_of pickC_err rfl) rfl
theorem payX_c3 : causErr payX 3 = 34 := caus_of (b := true) (vis_of payX_err rfl) rfl
theorem payX_c4 : causErr payX 4 = 0 := caus_of (b := false) (vis_of payX_err rfl) rfl
theorem noneC_c : causErr noneC (-1) = 8 := by
  have h : visErr noneC (-1) = 8 := by unfold visErr; rw [Con.errB_eq]; decide +kernel
  unfold causErr; rw [h]; rfl
theorem untC_cm : causErr untC (-1) = 2 := by
  have h : visErr untC (-1) = 2 := by unfold visErr; rw [Con.errB_eq]; decide +kernel
  unfold causErr; rw [h]; rfl
theorem untC_cb : causErr untC 100000 = 2 := by
  have h : visErr untC 100000 = 2 := by unfold visErr; rw [Con.errB_eq]; decide +kernel
  unfold causErr; rw [h]; rfl
end Go.Proofs.YtflddbgadkndlaaGreatDoor

namespace Go.Proofs.YtflddbgadkndlaaGreatDoor
open Go.RowKit

def b2 : ByteArray := ⟨#[50]⟩
def bothC (c d : Con) : Con := .mk 3 bE bE bE exZ 0 [] [c, d]
def atD (c : Con) (day : Int) : Con := .mk 6 bE bE bE exZ day [] [c]
def twoE : Ex := .mk 1 b2 bE 0 []
def scaC (c : Con) (day : Int) : Con := .mk 4 bE bE bE twoE 0 [] [atD c day]

theorem nErr_vis {c : Con} {day : Int} (h : nErr c day = 0) : visErr c day = 0 := by
  unfold nErr fewErr at h
  split at h
  · assumption
  · assumption
theorem vis_err {c : Con} {day : Int} (h : visErr c day = 0) : c.err = 0 ∧ isDay day = true := by
  unfold visErr at h
  split at h
  · next h0 =>
    split at h
    · next h1 => exact ⟨h0, h1⟩
    · omega
  · contradiction
theorem both_evs (c d : Con) (day : Int) : (bothC c d).evs [day] = c.evs [day] ++ d.evs [day] := by
  rw [Con.evs_cons]
  have h1 : headEv (bothC c d) [day] day = [] := rfl
  have h2 : innerD (bothC c d) [day] day = [day] := rfl
  have h3 : (bothC c d).sub = [c, d] := rfl
  rw [h1, h2, h3, Con.evss, Con.evss, Con.evss]
  simp
theorem sca_evs (c : Con) (day : Int) : (scaC c day).evs [day] = .expr twoE [day] :: c.evs [day] := by
  rw [Con.evs_cons]
  have h1 : headEv (scaC c day) [day] day = [.expr twoE [day]] := rfl
  have h2 : innerD (scaC c day) [day] day = [day] := rfl
  have h3 : (scaC c day).sub = [atD c day] := rfl
  rw [h1, h2, h3, Con.evss, Con.evss, Con.evs_cons]
  have h4 : headEv (atD c day) [day] day = [] := rfl
  have h5 : innerD (atD c day) [day] day = [day] := by
    show (if day ≤ day then [day] else []) = [day]
    rw [if_pos (Int.le_refl _)]
  have h6 : (atD c day).sub = [c] := rfl
  rw [h4, h5, h6, Con.evss, Con.evss]
  simp
theorem nSet_mem {c : Con} {day : Int} (h : nErr c day = 0) (x : NdP) : x ∈ nSet c day ↔ x ∈ evNs (c.evs [day]) := by
  unfold nSet
  rw [if_pos h, evs_of (nErr_vis h), uniq_mem]
theorem join_in {c d : Con} {day : Int} (hc : nErr c day = 0) (hd : nErr d day = 0) (hb : nErr (bothC c d) day = 0) (x : NdP) : x ∈ nSet (bothC c d) day ↔ x ∈ nSet c day ∨ x ∈ nSet d day := by
  rw [nSet_mem hc, nSet_mem hd, nSet_mem hb, both_evs, evNs_append, List.mem_append]
theorem join_w0 {c d : Con} {day : Int} (hc : nErr c day = 0) (hd : nErr d day = 0) (hb : nErr (bothC c d) day = 0) : eqB (∀ x ∈ nSet (bothC c d) day, x ∈ nSet c day ∨ x ∈ nSet d day) = true := by
  refine eqB_true ?_; exact fun x hx => (join_in hc hd hb x).1 hx
theorem join_w1 {c d : Con} {day : Int} (hc : nErr c day = 0) (hd : nErr d day = 0) (hb : nErr (bothC c d) day = 0) : eqB (∀ x ∈ nSet c day, x ∈ nSet (bothC c d) day ∨ x ∈ ([] : List NdP)) = true := by
  refine eqB_true ?_; exact fun x hx => .inl ((join_in hc hd hb x).2 (.inl hx))
theorem join_w2 {c d : Con} {day : Int} (hc : nErr c day = 0) (hd : nErr d day = 0) (hb : nErr (bothC c d) day = 0) : eqB (∀ x ∈ nSet d day, x ∈ nSet (bothC c d) day ∨ x ∈ ([] : List NdP)) = true := by
  refine eqB_true ?_; exact fun x hx => .inl ((join_in hc hd hb x).2 (.inr hx))
/-- What Causal answers of a contract whose visit has no error. -/
theorem caus_val {c : Con} {day : Int} (h : visErr c day = 0) : causErr c day = if evLt (c.evs [day]) = true then 34 else 0 := caus_of h rfl
theorem join_caus {c d : Con} {day : Int} (hc : nErr c day = 0) (hd : nErr d day = 0) (hb : nErr (bothC c d) day = 0) : ((causErr c day = 0 ∨ causErr c day = 34) ∧ (causErr d day = 0 ∨ causErr d day = 34)) ∧ causErr (bothC c d) day = if causErr c day = 0 ∧ causErr d day = 0 then 0 else 34 := by
  rw [caus_val (nErr_vis hc), caus_val (nErr_vis hd), caus_val (nErr_vis hb), both_evs, evLt_append]
  cases evLt (c.evs [day]) <;> cases evLt (d.evs [day]) <;> simp
theorem twoE_ok : twoE.isAB 1 = true := by decide +kernel
theorem sca_err {c : Con} {day : Int} (h : c.err = 0) (hd : isDay day = true) : (scaC c day).err = 0 ∨ (scaC c day).err = 4 := by
  have hf : c.formed = true := by
    unfold Con.err at h
    split at h
    · omega
    · split at h
      · assumption
      · omega
  have h1 : (scaC c day).formed = true := by
    have h2 : nodeOk (scaC c day) = true := by
      have e : nodeOk (scaC c day) = twoE.isA 1 := by
        unfold nodeOk
        rw [if_neg (by show ¬ (4 = 1); decide), if_neg (by show ¬ (4 = 2); decide), if_neg (by show ¬ (4 = 3); decide), if_pos (by show 4 = 4; rfl)]
        rfl
      rw [e, Ex.isAB_eq]; exact twoE_ok
    have h3 : nodeOk (atD c day) = true := by
      have e : nodeOk (atD c day) = isDay day := by
        unfold nodeOk
        rw [if_neg (by show ¬ (6 = 1); decide), if_neg (by show ¬ (6 = 2); decide), if_neg (by show ¬ (6 = 3); decide), if_neg (by show ¬ (6 = 4); decide), if_neg (by show ¬ (6 = 5); decide), if_pos (by show 6 = 6; rfl)]
        show (isDay day && true) = isDay day
        rw [Bool.and_true]
      rw [e]; exact hd
    rw [Con.formed_eq, h2]
    show Con.formeds [atD c day] = true
    rw [Con.formeds, Con.formeds, Con.formed_eq, h3]
    show (Con.formeds [c] && true) = true
    rw [Con.formeds, Con.formeds, hf]; rfl
  by_cases hbig : 500 < (scaC c day).size ∨ 60 < (scaC c day).depth
  · right; unfold Con.err; rw [if_pos hbig]
  · left; unfold Con.err; rw [if_neg hbig, if_pos h1]
theorem sca_law {c : Con} {day : Int} (hc : nErr c day = 0) : nErr (scaC c day) day = 4 ∨ (nErr (scaC c day) day = 0 ∧ nSet (scaC c day) day = nSet c day ∧ causErr (scaC c day) day = causErr c day) := by
  have hv := nErr_vis hc
  obtain ⟨he, hd⟩ := vis_err hv
  rcases sca_err he hd with h | h
  · right
    have hv2 : visErr (scaC c day) day = 0 := by unfold visErr; rw [if_pos h, if_pos hd]
    have hn : evNs ((scaC c day).evs [day]) = evNs (c.evs [day]) := by
      rw [sca_evs]
      show evNeeds (.expr twoE [day]) ++ evNs (c.evs [day]) = _
      rfl
    have hl : evLt ((scaC c day).evs [day]) = evLt (c.evs [day]) := by
      rw [sca_evs]
      show (evLate (.expr twoE [day]) || evLt (c.evs [day])) = _
      rfl
    have e1 : nErr (scaC c day) day = nErr c day := by unfold nErr; rw [hv2, hv, evs_of hv2, evs_of hv, hn]
    refine ⟨by rw [e1]; exact hc, ?_, ?_⟩
    · unfold nSet; rw [e1, if_pos hc, if_pos hc, evs_of hv2, evs_of hv, hn]
    · rw [caus_val hv2, caus_val hv, hl]
  · left
    have hv2 : visErr (scaC c day) day = 4 := by unfold visErr; rw [h, if_neg (by decide)]
    unfold nErr
    rw [hv2]
    exact fewErr_err (by decide)
end Go.Proofs.YtflddbgadkndlaaGreatDoor

namespace Go.Proofs.YtflddbgadkndlaaGreatDoor
open Go.RowKit

set_option maxRecDepth 1000000 in
theorem eqv_nd (n m : ByteArray) (d e : Int) (w : World) : (Op.equalIn 10000 58 (.agg #[.string n, .int .i64 d]) (.agg #[.string m, .int .i64 e])).run Tryz.prog w = .ok (decide (((n, d) : NdP) = (m, e))) w := by
  have hS : Tryz.prog.underlying 58 = some (.struct (Tryz.prog.fieldsOf 58)) := by kernel_rfl
  have hp : Tryz.prog.stoodInHeld 58 = false := by kernel_rfl
  rw [show (10000 : Nat) = 9999 + 1 from rfl, run_equalIn_agg w 9999 _ _ _ hS hp]
  simp only [Program.fieldsOf, Tryz.underlying58]
  have hE : decide (((n, d) : NdP) = (m, e)) = (if n.toList = m.toList then if d = e then true else false else false) := by
    simp only [toList_eq_iff]
    by_cases h1 : n = m
    · by_cases h2 : d = e
      · subst h1 h2; simp
      · rw [decide_eq_false (by simp [h2])]; simp [h2]
    · rw [decide_eq_false (by simp [h1])]; simp [h1]
  rw [hE]
  clear hE
  go_simp
  split <;> (try split) <;> simp [*]
theorem mem_step {α : Type} [DecidableEq α] {l : List α} {k : Nat} {x y : α} (h : l[k]? = some y) : eqB (x ∈ l.take (k + 1)) = (eqB (x ∈ l.take k) || decide (y = x)) := by
  rw [take_snoc_get h, Bool.eq_iff_iff, Bool.or_eq_true, eqB_iff, eqB_iff, List.mem_append, List.mem_singleton, decide_eq_true_eq]
  exact ⟨fun h => h.imp id Eq.symm, fun h => h.imp id Eq.symm⟩

set_option maxHeartbeats 4000000 in
set_option maxRecDepth 100000 in
theorem ndIn_any (A O T : List NdP) (va vo vt : Value) (W : World) (hA : RdNd W A va) (hO : RdNd W O vo) (hT : RdNd W T vt) (hla : A.length ≤ 4000000000000) (hlo : O.length ≤ 4000000000000) (hlt : T.length ≤ 4000000000000) :
    Calls Tryz.prog 22 #[va, vo, vt] W fun e W' => e = .returned (.bool (eqB (∀ x ∈ A, x ∈ O ∨ x ∈ T))) ∧ Below W.heap.size W W' := by
  obtain ⟨aa, ca, rfl, hra⟩ := hA
  obtain ⟨ao, co, rfl, hro⟩ := hO
  obtain ⟨at_, ct, rfl, hrt⟩ := hT
  obtain ⟨n, hn⟩ : ∃ n, A.length = n := ⟨_, rfl⟩
  obtain ⟨m, hm⟩ : ∃ m, O.length = m := ⟨_, rfl⟩
  obtain ⟨p, hp⟩ : ∃ p, T.length = p := ⟨_, rfl⟩
  have HN := Lib.hid (And.intro hn (And.intro hm hp))
  have HA := Lib.hid hra
  have HO := Lib.hid hro
  have HT := Lib.hid hrt
  rw [hn] at hla ⊢
  rw [hm] at hlo ⊢
  rw [hp] at hlt ⊢
  obtain ⟨r, hr⟩ : ∃ r, eqB (∀ x ∈ A, x ∈ O ∨ x ∈ T) = r := ⟨_, rfl⟩
  have HR := Lib.hid hr
  rw [hr]
  clear hra hro hrt hn hm hp hr
  go_enter Tryz.func22, Tryz.ntmps22
  go_wp2_with fail
  go_loopw [7, 8, 9, 10] (fun i _ _ _ wr => ∃ k : Nat, k ≤ n ∧ i = .int .i64 (k : Int) ∧ Hid (∀ x ∈ A.take k, x ∈ O ∨ x ∈ T) ∧ ∃ q, wr = W.drewN q) (fun i _ _ _ _ => n - (intOf i).toNat)
  case atStart => exact ⟨0, Nat.zero_le _, rfl, Lib.hid (by simp), 0, rfl⟩
  case round =>
    obtain ⟨k, hk, rfl, Hall, q0, rfl⟩ := hrel
    by_cases hkn : k < n
    · obtain ⟨x, hx⟩ : ∃ x, A[k]? = some x := ⟨_, List.getElem?_eq_getElem (by rw [HN.out.1]; exact hkn)⟩
      obtain ⟨xn, xd⟩ := x
      obtain ⟨ba, oa, rfl, x0, x1⟩ := HA.out k _ hx
      have HX := Lib.hid hx
      have hkn0 : (k : Int) < (n : Int) := by omega
      clear hx
      go_upto_block 2 with fail
      go_cut [8, 9] from 17 to 34 (fun s _ wc => s = .bool (eqB (((xn, xd) : NdP) ∈ O)) ∧ ∃ q, wc = W.drewN q)
      case first =>
        go_wp2_with fail
        go_loopw [8, 9] (fun s i wr => ∃ k2 : Nat, k2 ≤ m ∧ i = .int .i64 (k2 : Int) ∧ s = .bool (eqB (((xn, xd) : NdP) ∈ O.take k2)) ∧ ∃ q, wr = W.drewN q) (fun _ i _ => m - (intOf i).toNat)
        case atStart => exact ⟨0, Nat.zero_le _, rfl, by rw [List.take_zero, eqB_false (p := _ ∈ ([] : List NdP)) (List.not_mem_nil)] <;> try rw [Bool.or_false], _, rfl⟩
        case round =>
          obtain ⟨k2, hk2, rfl, rfl, q, rfl⟩ := hrel
          by_cases hkm : k2 < m
          · obtain ⟨y, hy⟩ : ∃ y, O[k2]? = some y := ⟨_, List.getElem?_eq_getElem (by rw [HN.out.2.1]; exact hkm)⟩
            obtain ⟨yn, yd⟩ := y
            obtain ⟨bo, oo, rfl, y0, y1⟩ := HO.out k2 _ hy
            have hkm0 : (k2 : Int) < (m : Int) := by omega
            have HS : Hid ((eqB (((xn, xd) : NdP) ∈ O.take (k2 + 1))) = ((eqB (((xn, xd) : NdP) ∈ O.take k2)) || decide (((yn, yd) : NdP) = (xn, xd)))) := Lib.hid (by rw [mem_step (x := ((xn, xd) : NdP)) hy])
            have hq : ∀ W, (Op.equalIn 10000 58 (.agg #[.string yn, .int .i64 yd]) (.agg #[.string xn, .int .i64 xd])).run Tryz.prog W = .ok (decide (((yn, yd) : NdP) = (xn, xd))) W := fun W => eqv_nd yn xn yd xd W
            clear hy
            generalize (eqB (((xn, xd) : NdP) ∈ O.take k2)) = s0 at HS ⊢
            generalize decide (((yn, yd) : NdP) = (xn, xd)) = s2 at HS hq
            cases s0 with
            | true =>
              go_wp2_with fail
              go_quiet (fail)
              go_wp2
              go_roundw
              case rel => exact ⟨k2 + 1, by omega, by go_num, by rw [HS.out]; rfl, _, rfl⟩
              case measure => simp [intOf]; omega
            | false =>
              go_wp2_with fail
              go_quiet (fail)
              go_wp2
              go_roundw
              case rel => exact ⟨k2 + 1, by omega, by go_num, by rw [HS.out]; rfl, _, rfl⟩
              case measure => simp [intOf]; omega
          · obtain rfl : k2 = m := by omega
            have HF : Hid (eqB (((xn, xd) : NdP) ∈ O.take k2) = eqB (((xn, xd) : NdP) ∈ O)) := Lib.hid (by rw [List.take_of_length_le (by rw [HN.out.2.1]; exact Nat.le_refl _)])
            rw [HF.out]
            go_wp2
            go_meet
            exact ⟨rfl, _, rfl⟩
      case rest =>
        obtain ⟨rfl, q1, rfl⟩ := hcut
        go_upto_block 4 with fail
        go_cut [8, 10] from 35 to 52 (fun s _ wc => s = .bool (eqB (((xn, xd) : NdP) ∈ O) || eqB (((xn, xd) : NdP) ∈ T)) ∧ ∃ q, wc = W.drewN q)
        case first =>
          go_wp2_with fail
          go_loopw [8, 10] (fun s i wr => ∃ k2 : Nat, k2 ≤ p ∧ i = .int .i64 (k2 : Int) ∧ s = .bool ((eqB (((xn, xd) : NdP) ∈ O) || eqB (((xn, xd) : NdP) ∈ T.take k2))) ∧ ∃ q, wr = W.drewN q) (fun _ i _ => p - (intOf i).toNat)
          case atStart => exact ⟨0, Nat.zero_le _, rfl, by rw [List.take_zero, eqB_false (p := _ ∈ ([] : List NdP)) (List.not_mem_nil)] <;> try rw [Bool.or_false], _, rfl⟩
          case round =>
            obtain ⟨k2, hk2, rfl, rfl, q, rfl⟩ := hrel
            by_cases hkm : k2 < p
            · obtain ⟨y, hy⟩ : ∃ y, T[k2]? = some y := ⟨_, List.getElem?_eq_getElem (by rw [HN.out.2.2]; exact hkm)⟩
              obtain ⟨yn, yd⟩ := y
              obtain ⟨bo, oo, rfl, y0, y1⟩ := HT.out k2 _ hy
              have hkm0 : (k2 : Int) < (p : Int) := by omega
              have HS : Hid (((eqB (((xn, xd) : NdP) ∈ O) || eqB (((xn, xd) : NdP) ∈ T.take (k2 + 1)))) = (((eqB (((xn, xd) : NdP) ∈ O) || eqB (((xn, xd) : NdP) ∈ T.take k2))) || decide (((yn, yd) : NdP) = (xn, xd)))) := Lib.hid (by rw [mem_step (x := ((xn, xd) : NdP)) hy]; rw [Bool.or_assoc])
              have hq : ∀ W, (Op.equalIn 10000 58 (.agg #[.string yn, .int .i64 yd]) (.agg #[.string xn, .int .i64 xd])).run Tryz.prog W = .ok (decide (((yn, yd) : NdP) = (xn, xd))) W := fun W => eqv_nd yn xn yd xd W
              clear hy
              generalize ((eqB (((xn, xd) : NdP) ∈ O) || eqB (((xn, xd) : NdP) ∈ T.take k2))) = s0 at HS ⊢
              generalize decide (((yn, yd) : NdP) = (xn, xd)) = s2 at HS hq
              cases s0 with
              | true =>
                go_wp2_with fail
                go_quiet (fail)
                go_wp2
                go_roundw
                case rel => exact ⟨k2 + 1, by omega, by go_num, by rw [HS.out]; rfl, _, rfl⟩
                case measure => simp [intOf]; omega
              | false =>
                go_wp2_with fail
                go_quiet (fail)
                go_wp2
                go_roundw
                case rel => exact ⟨k2 + 1, by omega, by go_num, by rw [HS.out]; rfl, _, rfl⟩
                case measure => simp [intOf]; omega
            · obtain rfl : k2 = p := by omega
              have HF : Hid (eqB (((xn, xd) : NdP) ∈ T.take k2) = eqB (((xn, xd) : NdP) ∈ T)) := Lib.hid (by rw [List.take_of_length_le (by rw [HN.out.2.2]; exact Nat.le_refl _)])
              rw [HF.out]
              go_wp2
              go_meet
              exact ⟨rfl, _, rfl⟩
        case rest =>
          obtain ⟨rfl, q2, rfl⟩ := hcut
          have HB : Hid ((eqB (((xn, xd) : NdP) ∈ O) || eqB (((xn, xd) : NdP) ∈ T)) = true ↔ (((xn, xd) : NdP) ∈ O ∨ ((xn, xd) : NdP) ∈ T)) := Lib.hid (by rw [Bool.or_eq_true, eqB_iff, eqB_iff])
          generalize (eqB (((xn, xd) : NdP) ∈ O) || eqB (((xn, xd) : NdP) ∈ T)) = b at HB ⊢
          cases b with
          | true =>
            have HX2 : Hid (∀ x ∈ A.take (k + 1), x ∈ O ∨ x ∈ T) := Lib.hid (by
              rw [take_snoc_get HX.out]
              intro z hz
              rcases List.mem_append.1 hz with hz | hz
              · exact Hall.out z hz
              · rw [List.mem_singleton.1 hz]; exact HB.out.1 rfl)
            go_wp2
            go_roundw
            case rel => exact ⟨k + 1, by omega, by go_num, HX2, _, rfl⟩
            case measure => simp [intOf]; omega
          | false =>
            have HF : Hid (false = r) := Lib.hid (by
              rw [← HR.out, eq_comm]
              refine eqB_false fun h => ?_
              have h1 := HB.out.2 (h _ (List.mem_of_getElem? HX.out))
              cases h1)
            go_wp2
            go_ret
            exact ⟨ret_bool' HF.out, below_drewN (Below.refl _ _) _⟩
    · have HF : Hid (true = r) := Lib.hid (by
        rw [← HR.out, eq_comm]
        refine eqB_true fun x hx => ?_
        have h := Hall.out
        rw [List.take_of_length_le (by rw [HN.out.1]; omega)] at h
        exact h x hx)
      go_wp2
      go_ret
      exact ⟨ret_bool' HF.out, below_drewN (Below.refl _ _) _⟩
end Go.Proofs.YtflddbgadkndlaaGreatDoor

namespace Go.Proofs.YtflddbgadkndlaaGreatDoor
open Go.RowKit

def upd (L : Nat → Bool) (i : Nat) : Nat → Bool := fun j => if j = i then true else L j
/-- How many are not listed. -/
def cnt : List Bool → Nat
  | [] => 0
  | b :: l => (if b then 0 else 1) + cnt l
theorem cnt_set : ∀ {l : List Bool} {i : Nat}, l[i]? = some false → cnt (l.set i true) + 1 = cnt l
  | [], i, h => by simp at h
  | b :: l, 0, h => by
    simp at h; subst h
    simp [cnt]; omega
  | b :: l, i + 1, h => by
    have := cnt_set (l := l) (i := i) (by simpa using h)
    simp only [List.set_cons_succ, cnt]
    omega
theorem cnt_zero : ∀ {l : List Bool}, cnt l = 0 → ∀ j, j < l.length → l[j]? = some true
  | [], _, j, hj => by simp at hj
  | b :: l, h, j, hj => by
    simp only [cnt] at h
    cases b with
    | false => simp at h
    | true =>
      cases j with
      | zero => rfl
      | succ j => simpa using cnt_zero (l := l) (by simpa using h) j (by simpa using hj)
theorem cnt_replicate : ∀ n, cnt (List.replicate n false) = n
  | 0 => rfl
  | n + 1 => by rw [List.replicate_succ, cnt, cnt_replicate n]; simp; omega

section
variable {P : Program} {ops : Array Oper} {md : Region.Mode}
/-- Each operation waits for earlier ones only. -/
def fwdB (md : Region.Mode) (ops : Array Oper) : Bool :=
  (List.range ops.size).all fun j => match ops[j]? with | some o => o.after.all fun e => !Region.binds md e || decide (e.on < j) | none => true
theorem fwd_spec (h : fwdB md ops = true) {j : Nat} {o : Oper} (ho : ops[j]? = some o) : ∀ e ∈ o.after, Region.binds md e = true → e.on < j := by
  intro e he hb
  have hj : j < ops.size := (Array.getElem?_eq_some_iff.1 ho).1
  have h1 := List.all_eq_true.1 h j (List.mem_range.2 hj)
  simp only [ho] at h1
  have h2 := Array.all_eq_true'.1 h1 e he
  simp only [hb, Bool.not_true, Bool.false_or, decide_eq_true_eq] at h2
  exact h2
theorem getD_both' {listed : Array Bool} {j : Nat} (hj : j < listed.size) : listed.getD j true = listed.getD j false := by
  simp [hj]
theorem ready_all (hf : fwdB md ops = true) {listed : Array Bool} (hs : listed.size = ops.size) (hr : Region.ready md ops listed = []) : ∀ j, j < ops.size → listed.getD j false = true := by
  intro j
  induction j using Nat.strongRecOn with
  | _ j ih =>
    intro hj
    cases h : listed.getD j false with
    | true => rfl
    | false =>
      exfalso
      obtain ⟨o, ho⟩ : ∃ o, ops[j]? = some o := ⟨_, Array.getElem?_eq_getElem hj⟩
      have : j ∈ Region.ready md ops listed := mem_ready.2 ⟨by rw [getD_both' (by omega)]; exact h, o, ho, fun e he hb => ih e.on (fwd_spec hf ho e he hb) (by have := fwd_spec hf ho e he hb; omega)⟩
      rw [hr] at this
      cases this
theorem upd_listed {listed : Array Bool} {i : Nat} (hi : i < listed.size) : (fun j => (listed.setIfInBounds i true).getD j false) = upd (fun j => listed.getD j false) i := by
  funext j
  unfold upd
  by_cases h : j = i
  · subst h
    rw [if_pos rfl]
    simp [hi]
  · rw [if_neg h, getD_set_ne false (fun e => h e.symm)]
theorem wpAny_inv {Q : Exit → Act → World → Prop} {Inv : (Nat → Bool) → Act → World → Prop} (hf : fwdB md ops = true)
    (hst : ∀ L a w, Inv L a w → ∀ i o, ops[i]? = some o → L i = false → (∀ e ∈ o.after, Region.binds md e = true → L e.on = true) → wpOp P ops Q i (Inv (upd L i)) a w)
    (hend : ∀ L a w, Inv L a w → (∀ j, j < ops.size → L j = true) → Q .normal a w) :
    ∀ (f : Nat) (listed : Array Bool) (a : Act) (w : World), listed.size = ops.size → cnt listed.toList ≤ f → Inv (fun j => listed.getD j false) a w → wpAny P md ops Q f listed a w
  | 0, listed, a, w, hs, hc, h => by
    have hall : ∀ j, j < ops.size → listed.getD j false = true := fun j hj => by
      have := cnt_zero (Nat.le_zero.1 hc) j (by simpa [hs] using hj)
      have hj' : j < listed.size := by omega
      simp [hj'] at this ⊢
      exact this
    refine ⟨?_, hend _ _ _ h hall⟩
    rw [List.eq_nil_iff_forall_not_mem]
    intro i hi
    obtain ⟨h1, o, ho, _⟩ := mem_ready.1 hi
    have hj : i < ops.size := (Array.getElem?_eq_some_iff.1 ho).1
    rw [getD_both' (by omega), hall i hj] at h1
    cases h1
  | f + 1, listed, a, w, hs, hc, h => by
    refine ⟨fun hr => hend _ _ _ h (ready_all hf hs hr), fun i hi => ?_⟩
    obtain ⟨h1, o, ho, h2⟩ := mem_ready.1 hi
    have hj : i < listed.size := by have := (Array.getElem?_eq_some_iff.1 ho).1; omega
    have h3 : listed.getD i false = false := by rw [← getD_both' hj]; exact h1
    have h4 : listed.toList[i]? = some false := by simp [hj] at h3 ⊢; exact h3
    refine wpOp_mono (fun a' w' h5 => ?_) (hst _ a w h i o ho h3 h2)
    refine wpAny_inv hf hst hend f (listed.setIfInBounds i true) a' w' (by simpa using hs) ?_ ?_
    · have := cnt_set h4
      rw [Array.toList_setIfInBounds]
      omega
    · rw [upd_listed hj]; exact h5
/-- An operation that the i-th waits for is listed. -/
def predB (md : Region.Mode) (ops : Array Oper) (i j : Nat) : Bool :=
  match ops[i]? with | some o => o.after.any fun e => Region.binds md e && e.on == j | none => false
theorem pred_spec {i j : Nat} {o : Oper} {L : Nat → Bool} (ho : ops[i]? = some o) (hp : ∀ e ∈ o.after, Region.binds md e = true → L e.on = true) (h : predB md ops i j = true) : L j = true := by
  unfold predB at h
  simp only [ho] at h
  obtain ⟨e, he, h1⟩ := Array.any_eq_true'.1 h
  simp only [Bool.and_eq_true, beq_iff_eq] at h1
  rw [← h1.2]
  exact hp e he h1.1
theorem wp_region_inv {id : Nat} {Q : Exit → Act → World → Prop} {a : Act} {w : World} (Inv : (Nat → Bool) → Act → World → Prop) (hm : P.follows .mixedOrders = true) (hf : fwdB .any ops = true)
    (h0 : Inv (fun _ => false) a w.drew)
    (hst : ∀ L a w, Inv L a w → ∀ i o, ops[i]? = some o → L i = false → (∀ e ∈ o.after, Region.binds .any e = true → L e.on = true) → wpOp P ops Q i (Inv (upd L i)) a w)
    (hend : ∀ L a w, Inv L a w → (∀ j, j < ops.size → L j = true) → Q .normal a w) : (Code.region id ops true).wp P Q a w := by
  refine wp_region_any hm (wpAny_inv hf hst hend ops.size _ _ _ (by simp) ?_ ?_)
  · simp [cnt_replicate]
  · have e : (fun j => (Array.replicate ops.size false).getD j false) = fun _ => false := by
      funext j
      by_cases hj : j < ops.size <;> simp [hj]
    rw [e]; exact h0
end
end Go.Proofs.YtflddbgadkndlaaGreatDoor

namespace Go.Proofs.YtflddbgadkndlaaGreatDoor
open Go.RowKit

theorem needs_rd (c : Con) (es dd ss : Value) (day : Int) (W : World) (hB : c.bulk ≤ 2000000) (hr : RdN W c es dd ss) (hS : LookS W) (hP : LookP W) :
    Calls Tryz.prog 9 #[c.val es dd ss, .int .i64 day] W fun e W' => ∃ ad cap, e = .returned (.tuple #[.slice ad (nSet c day).length cap, .int .i64 (nErr c day)]) ∧ RdNd W' (nSet c day) (.slice ad (nSet c day).length cap) ∧ Below W.heap.size W W' := by
  refine (needs_any c es dd ss day W hB hr hS hP).mono ?_
  rintro e W' ⟨v, rfl, ho, hb⟩
  obtain ⟨ad, cap, rfl⟩ := ownsRow_shape ho
  exact ⟨ad, cap, rfl, RdNd.own ho, hb⟩
theorem nSet_len (c : Con) (day : Int) : (nSet c day).length ≤ 1000 := by
  unfold nSet
  split
  · next h =>
    have hv := nErr_vis h
    unfold nErr fewErr at h
    rw [if_pos hv] at h
    split at h
    · omega
    · omega
  · exact Nat.zero_le _
theorem rdC_two {w : World} {B cap : Nat} {x y : Con} {es dd ss es2 dd2 ss2 : Value} (hc : ∀ i u, (x.cells es dd ss ++ y.cells es2 dd2 ss2)[i]? = some u → w.cell? ⟨B, i, none⟩ = some u) (hr : RdN w x es dd ss) (hr2 : RdN w y es2 dd2 ss2) : RdC w [x, y] (.slice (some ⟨B, 0, none⟩) 2 cap) := by
  refine .mk (some ⟨B, 0, none⟩) cap [x, y] (fun j => if j = 0 then es else es2) (fun j => if j = 0 then dd else dd2) (fun j => if j = 0 then ss else ss2) (fun j z h => ?_) (fun j z h => ?_) (fun j z h => ?_) (fun j z h => ?_)
  · match j, h with
    | 0, h =>
      cases h
      refine ⟨hr.2.2.2, B, 0, rfl, fun i u hu => ?_⟩
      have hi : i < 12 := (List.getElem?_eq_some_iff.1 hu).1
      rw [show 0 + 0 * 12 + i = i by omega]
      exact hc i u (by rw [List.getElem?_append_left hi]; exact hu)
    | 1, h =>
      cases h
      refine ⟨hr2.2.2.2, B, 0, rfl, fun i u hu => ?_⟩
      rw [show 0 + 1 * 12 + i = 12 + i by omega]
      exact hc (12 + i) u (by rw [List.getElem?_append_right (by show 12 ≤ _; omega)]; show _[12 + i - 12]? = _; rw [Nat.add_sub_cancel_left]; exact hu)
  · match j, h with
    | 0, h => cases h; exact hr.1
    | 1, h => cases h; exact hr2.1
  · match j, h with
    | 0, h => cases h; exact hr.2.1
    | 1, h => cases h; exact hr2.2.1
  · match j, h with
    | 0, h => cases h; exact hr.2.2.1
    | 1, h => cases h; exact hr2.2.2.1
/-- The two contracts' cells, side by side. -/
def oTwo (c d : Con) (es dd ss es2 dd2 ss2 : Value) : Obj := .cells #[.int .u8 c.k, .string c.fr, .string c.rc, .string c.nm, .int .u8 c.ex.k, .string c.ex.ra, .string c.ex.nm, .int .i64 c.ex.d, es, .int .i64 c.d, dd, ss, .int .u8 d.k, .string d.fr, .string d.rc, .string d.nm, .int .u8 d.ex.k, .string d.ex.ra, .string d.ex.nm, .int .i64 d.ex.d, es2, .int .i64 d.d, dd2, ss2] 29
def oBoth (B : Nat) : Obj := .cells #[.int .u8 3, .string ⟨#[]⟩, .string ⟨#[]⟩, .string ⟨#[]⟩, .int .u8 0, .string ⟨#[]⟩, .string ⟨#[]⟩, .int .i64 0, .slice none 0 0, .int .i64 0, .slice none 0 0, .slice (some ⟨B, 0, none⟩) 2 2] 29
theorem both_setup {w : World} {c d : Con} {es dd ss es2 dd2 ss2 : Value} (hr : RdN w c es dd ss) (hr2 : RdN w d es2 dd2 ss2) :
    RdN ((w.alloc (oTwo c d es dd ss es2 dd2 ss2)).alloc (oBoth w.heap.size)) (bothC c d) (.slice none 0 0) (.slice none 0 0) (.slice (some ⟨w.heap.size, 0, none⟩) 2 2) ∧
    CBox ((w.alloc (oTwo c d es dd ss es2 dd2 ss2)).alloc (oBoth w.heap.size)) (w.heap.size + 1) (bothC c d) (.slice none 0 0) (.slice none 0 0) (.slice (some ⟨w.heap.size, 0, none⟩) 2 2) := by
  have b1 := below_a1 w (oTwo c d es dd ss es2 dd2 ss2)
  have b2 := below_a1 (w.alloc (oTwo c d es dd ss es2 dd2 ss2)) (oBoth w.heap.size)
  refine ⟨⟨rdE_nil _, rdI_nil _, (rdC_two (es := es) (dd := dd) (ss := ss) (es2 := es2) (dd2 := dd2) (ss2 := ss2) (fun i u h => cell_new w _ _ h) (hr.frame b1) (hr2.frame b1)).frame b2, by show 3 < 256; decide, by show 0 < 256; decide⟩, ?_⟩
  have := CBox.new (w.alloc (oTwo c d es dd ss es2 dd2 ss2)) (bothC c d) (.slice none 0 0) (.slice none 0 0) (.slice (some ⟨w.heap.size, 0, none⟩) 2 2) 29
  rw [World.size_alloc] at this
  exact this
def oOne (c : Con) (es dd ss : Value) : Obj := .cells #[.int .u8 c.k, .string c.fr, .string c.rc, .string c.nm, .int .u8 c.ex.k, .string c.ex.ra, .string c.ex.nm, .int .i64 c.ex.d, es, .int .i64 c.d, dd, ss] 29
def oAtD (day : Int) (B : Nat) : Obj := .cells #[.int .u8 6, .string ⟨#[]⟩, .string ⟨#[]⟩, .string ⟨#[]⟩, .int .u8 0, .string ⟨#[]⟩, .string ⟨#[]⟩, .int .i64 0, .slice none 0 0, .int .i64 day, .slice none 0 0, .slice (some ⟨B, 0, none⟩) 1 1] 29
def oSca (B : Nat) : Obj := .cells #[.int .u8 4, .string ⟨#[]⟩, .string ⟨#[]⟩, .string ⟨#[]⟩, .int .u8 1, .string ⟨#[50]⟩, .string ⟨#[]⟩, .int .i64 0, .slice none 0 0, .int .i64 0, .slice none 0 0, .slice (some ⟨B, 0, none⟩) 1 1] 29
theorem sca_setup {w : World} {c : Con} {es dd ss : Value} (day : Int) (hr : RdN w c es dd ss) :
    RdN (((w.alloc (oOne c es dd ss)).alloc (oAtD day w.heap.size)).alloc (oSca (w.heap.size + 1))) (scaC c day) (.slice none 0 0) (.slice none 0 0) (.slice (some ⟨w.heap.size + 1, 0, none⟩) 1 1) ∧
    CBox (((w.alloc (oOne c es dd ss)).alloc (oAtD day w.heap.size)).alloc (oSca (w.heap.size + 1))) (w.heap.size + 1 + 1) (scaC c day) (.slice none 0 0) (.slice none 0 0) (.slice (some ⟨w.heap.size + 1, 0, none⟩) 1 1) := by
  have b1 := below_a1 w (oOne c es dd ss)
  have b2 := below_a1 (w.alloc (oOne c es dd ss)) (oAtD day w.heap.size)
  have b3 := below_a1 ((w.alloc (oOne c es dd ss)).alloc (oAtD day w.heap.size)) (oSca (w.heap.size + 1))
  have h1 : RdC (w.alloc (oOne c es dd ss)) [c] (.slice (some ⟨w.heap.size, 0, none⟩) 1 1) := rdC_one (es := es) (dd := dd) (ss := ss) (fun i u h => cell_new w _ _ h) (hr.frame b1)
  have h2 : RdN ((w.alloc (oOne c es dd ss)).alloc (oAtD day w.heap.size)) (atD c day) (.slice none 0 0) (.slice none 0 0) (.slice (some ⟨w.heap.size, 0, none⟩) 1 1) :=
    ⟨rdE_nil _, rdI_nil _, h1.frame b2, by show 6 < 256; decide, by show 0 < 256; decide⟩
  have h3 : RdC ((w.alloc (oOne c es dd ss)).alloc (oAtD day w.heap.size)) [atD c day] (.slice (some ⟨w.heap.size + 1, 0, none⟩) 1 1) := by
    refine rdC_one (fun i u h => ?_) h2
    have := cell_new (w.alloc (oOne c es dd ss)) _ 29 h
    rw [World.size_alloc] at this
    exact this
  refine ⟨⟨rdE_nil _, rdI_nil _, h3.frame b3, by show 4 < 256; decide, by show 1 < 256; decide⟩, ?_⟩
  have := CBox.new ((w.alloc (oOne c es dd ss)).alloc (oAtD day w.heap.size)) (scaC c day) (.slice none 0 0) (.slice none 0 0) (.slice (some ⟨w.heap.size + 1, 0, none⟩) 1 1) 29
  rw [World.size_alloc, World.size_alloc] at this
  exact this

theorem both_cells {W : World} {X B : Nat} {c d : Con} (h : CBox W X (bothC c d) (.slice none 0 0) (.slice none 0 0) (.slice (some ⟨B, 0, none⟩) 2 2)) :
    W.cell? ⟨X, 0, none⟩ = some (.int .u8 3) ∧ W.cell? ⟨X, 1, none⟩ = some (.string ⟨#[]⟩) ∧ W.cell? ⟨X, 2, none⟩ = some (.string ⟨#[]⟩) ∧ W.cell? ⟨X, 3, none⟩ = some (.string ⟨#[]⟩) ∧ W.cell? ⟨X, 4, none⟩ = some (.int .u8 0) ∧ W.cell? ⟨X, 5, none⟩ = some (.string ⟨#[]⟩) ∧ W.cell? ⟨X, 6, none⟩ = some (.string ⟨#[]⟩) ∧ W.cell? ⟨X, 7, none⟩ = some (.int .i64 0) ∧ W.cell? ⟨X, 8, none⟩ = some (.slice none 0 0) ∧ W.cell? ⟨X, 9, none⟩ = some (.int .i64 0) ∧ W.cell? ⟨X, 10, none⟩ = some (.slice none 0 0) ∧ W.cell? ⟨X, 11, none⟩ = some (.slice (some ⟨B, 0, none⟩) 2 2) := h
theorem sca_cells {W : World} {X B : Nat} {c : Con} {day : Int} (h : CBox W X (scaC c day) (.slice none 0 0) (.slice none 0 0) (.slice (some ⟨B, 0, none⟩) 1 1)) :
    W.cell? ⟨X, 0, none⟩ = some (.int .u8 4) ∧ W.cell? ⟨X, 1, none⟩ = some (.string ⟨#[]⟩) ∧ W.cell? ⟨X, 2, none⟩ = some (.string ⟨#[]⟩) ∧ W.cell? ⟨X, 3, none⟩ = some (.string ⟨#[]⟩) ∧ W.cell? ⟨X, 4, none⟩ = some (.int .u8 1) ∧ W.cell? ⟨X, 5, none⟩ = some (.string ⟨#[50]⟩) ∧ W.cell? ⟨X, 6, none⟩ = some (.string ⟨#[]⟩) ∧ W.cell? ⟨X, 7, none⟩ = some (.int .i64 0) ∧ W.cell? ⟨X, 8, none⟩ = some (.slice none 0 0) ∧ W.cell? ⟨X, 9, none⟩ = some (.int .i64 0) ∧ W.cell? ⟨X, 10, none⟩ = some (.slice none 0 0) ∧ W.cell? ⟨X, 11, none⟩ = some (.slice (some ⟨B, 0, none⟩) 1 1) := h

/-- The drawn region: three calls of Causal. -/
structure JInv (W0 : World) (cv dv bv : Value) (day x y z : Int) (L : Nat → Bool) (p q r v0 v1 v2 v3 v4 v5 v6 v7 v8 : Value) (w : World) : Prop where
  b : Below W0.heap.size W0 w
  f0 : L 0 = true → v0 = cv
  f1 : L 1 = true → v1 = .int .i64 day
  f2 : L 2 = true → v2 = .int .i64 x
  f3 : L 3 = true → v3 = dv
  f4 : L 4 = true → v4 = .int .i64 day
  f5 : L 5 = true → v5 = .int .i64 y
  f6 : L 6 = true → v6 = bv
  f7 : L 7 = true → v7 = .int .i64 day
  f8 : L 8 = true → v8 = .int .i64 z
  f9 : L 9 = true → p = .int .i64 x
  f10 : L 10 = true → q = .int .i64 y
  f11 : L 11 = true → r = .int .i64 z
theorem JInv.start {W0 : World} {cv dv bv : Value} {day x y z : Int} {p q r v0 v1 v2 v3 v4 v5 v6 v7 v8 : Value} {w : World} (h : Below W0.heap.size W0 w) : JInv W0 cv dv bv day x y z (fun _ => false) p q r v0 v1 v2 v3 v4 v5 v6 v7 v8 w :=
  ⟨h, fun h => (by cases h), fun h => (by cases h), fun h => (by cases h), fun h => (by cases h), fun h => (by cases h), fun h => (by cases h), fun h => (by cases h), fun h => (by cases h), fun h => (by cases h), fun h => (by cases h), fun h => (by cases h), fun h => (by cases h)⟩
end Go.Proofs.YtflddbgadkndlaaGreatDoor
