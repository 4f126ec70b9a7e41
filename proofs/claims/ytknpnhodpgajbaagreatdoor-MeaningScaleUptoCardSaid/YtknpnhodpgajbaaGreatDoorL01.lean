/-
  The flows before a day: plain. Calls and picks: plain.
-/
import Derived.Test.YtknpnhodpgajbaaGreatDoorC29
import Derived.Test.YtknpnhodpgajbaaGreatDoorC19
namespace Go.Proofs.YtknpnhodpgajbaaGreatDoor
open Go.RowKit
def befD (fin : Int) (f : Fl) : Bool := decide (f.d < fin)
theorem err_formed {c : Con} (h : c.err = 0) : ¬ (500 < c.size ∨ 60 < c.depth) ∧ c.formed = true := by
 have hs : ¬ (500 < c.size ∨ 60 < c.depth) := by
  intro h1; unfold Con.err at h; rw [if_pos h1] at h; cases h
 refine ⟨hs, ?_⟩
 unfold Con.err at h; rw [if_neg hs] at h; split at h
 ·assumption
 ·cases h
theorem err_of {c : Con} (h1 : ¬ (500 < c.size ∨ 60 < c.depth)) (h2 : c.formed = true) : c.err = 0 := by
 unfold Con.err; rw [if_neg h1, if_pos h2]
theorem paidS_d {d : Int} {fr rc cy am : ByteArray} : ∀ f ∈ paidS d fr rc cy am, f.d = d := by
 intro f hf
 unfold paidS at hf
 split at hf
 ·cases hf
 ·split at hf
  ·rw [List.mem_singleton] at hf; subst hf; rfl
  ·rw [List.mem_singleton] at hf; subst hf; rfl
theorem andR_all {α : Type} {P : Fl → Prop} {a : Int × α} {f : α → Int × List Fl} (h : a.1 = 0 → ∀ g ∈ (f a.2).2, P g) : ∀ g ∈ (andR a [] f).2, P g := by
 unfold andR
 split
 ·intro f hf; cases hf
 ·next h0 => exact h (Decidable.not_not.1 h0)
theorem mulAll_d (k : ByteArray) {P : Int → Prop} : ∀ l : List Fl, (∀ f ∈ l, P f.d) → ∀ f ∈ (mulAll k l).2, P f.d
 | [], _ => by intro f hf; cases hf
 | g :: l, h => by
  unfold mulAll
  refine andR_all (P := fun f => P f.d) fun _ => andR_all (P := fun f => P f.d) fun _ => ?_
  intro f hf
  rcases List.mem_append.1 hf with hf | hf
  ·rw [paidS_d f hf]; exact h g (List.mem_cons_self ..)
  ·exact mulAll_d k l (fun f hf => h f (List.mem_cons_of_mem _ hf)) f hf
theorem flows_in (F : List Fx) (C : List Ch) : ∀ (N : Nat) (c : Con), c.bulk ≤ N → c.formed = true → ∀ day fin, ∀ f ∈ (c.flows F C day fin).2, day ≤ f.d ∧ f.d < fin
 | 0, c, hN, _ => by have := c.sub_lt; omega
 | N + 1, c, hN, hw => fun day fin => by
  have IH : ∀ y ∈ c.sub, ∀ day fin, ∀ f ∈ (y.flows F C day fin).2, day ≤ f.d ∧ f.d < fin := fun y hy => flows_in F C N y (by have := Con.mem_lt hy; omega) (by
   rw [Con.formed_eq, Bool.and_eq_true, Con.formeds_eq] at hw; exact List.all_eq_true.1 hw.2 y hy)
  have hcs := con_cases c hw
  obtain ⟨k, fr, rc, nm, ex, d, ds, l⟩ := c
  simp only [Con.k, Con.sub, Con.ex, Con.d, Con.ds] at hcs IH
  unfold Con.flows
  by_cases hn : fin ≤ day
  ·rw [if_pos hn]; intro f hf; cases hf
  ·rw [if_neg hn]
   have two : ∀ (is : Int → Int × Bool), (firstR is day fin ds).1 = 0 → day ≤ (firstR is day fin ds).2 ∧ (firstR is day fin ds).2 ≤ fin := fun is h => first_bd is day fin (by omega) ds h
   rcases hcs with ⟨rfl, rfl⟩ | ⟨rfl, rfl, hA⟩ | ⟨rfl, x, y, rfl⟩ | ⟨rfl, hA, x, rfl⟩ | ⟨rfl, hA, x, y, rfl⟩ | ⟨rfl, hd, x, rfl⟩ | ⟨rfl, x, y, rfl⟩ | ⟨rfl, hd, x, rfl⟩ | ⟨hk, hd, hA, x, rfl⟩
   ·intro f hf; cases hf
   ·dsimp only
    rw [if_pos rfl]
    exact andR_all fun h f hf => by rw [paidS_d f hf]; omega
   ·dsimp only
    rw [if_pos rfl]
    refine andR_all fun _ => andR_all fun _ => ?_
    intro f hf
    rcases List.mem_append.1 hf with hf | hf
    ·exact IH x (by simp) _ _ f hf
    ·exact IH y (by simp) _ _ f hf
   ·dsimp only
    rw [if_pos rfl]
    exact andR_all fun _ => andR_all fun _ => mulAll_d (P := fun d => day ≤ d ∧ d < fin) _ _ (IH x (by simp) _ _)
   ·dsimp only
    rw [if_neg (by decide), if_pos rfl]
    refine andR_all fun _ => ?_
    split
    ·exact IH x (by simp) _ _
    ·exact IH y (by simp) _ _
   ·dsimp only
    rw [if_neg (by decide), if_pos rfl]
    split
    ·next h1 =>
     intro f hf
     have := IH x (by simp) _ _ f hf
     omega
    ·intro f hf; cases hf
   ·dsimp only
    rw [if_neg (by decide), if_neg (by decide)]
    split
    ·exact IH x (by simp) _ _
    ·exact IH y (by simp) _ _
   ·dsimp only
    rw [if_neg (by decide), if_neg (by decide), if_pos rfl]
    intro f hf
    have h1 := IH x (by simp) _ _ f hf
    have h2 := two _ (first_pure (fun e => chosenB C fr nm e) day fin ds)
    omega
   ·dsimp only
    rcases hk with rfl | rfl
    ·rw [if_neg (by decide), if_neg (by decide), if_neg (by decide), if_pos rfl]
     refine andR_all fun h f hf => ?_
     have h1 := IH x (by simp) _ _ f hf
     have h2 := two _ h
     omega
    ·rw [if_neg (by decide), if_neg (by decide), if_neg (by decide), if_neg (by decide)]
     refine andR_all fun h f hf => ?_
     have h1 := IH x (by simp) _ _ f hf
     have h2 := two _ h
     omega
theorem first_pre (is : Int → Int × Bool) (day fin more : Int) (hm : fin ≤ more) : ∀ l : List Int, l.Pairwise (· < ·) → (firstR is day more l).1 = 0 →
  firstR is day fin l = (0, if (firstR is day more l).2 < fin then (firstR is day more l).2 else fin) ∧ (∀ d ∈ l, day ≤ d → d < more → (firstR is day more l).2 < d → True)
 | [], _, _ => by
  refine ⟨?_, fun _ _ _ _ _ => trivial⟩
  show (0, fin) = (0, if more < fin then more else fin)
  rw [if_neg (by omega)]
 | d :: l, hp, h0 => by
  refine ⟨?_, fun _ _ _ _ _ => trivial⟩
  have hp2 := List.pairwise_cons.1 hp
  rw [firstR_cons] at h0 ⊢
  rw [firstR_cons is day more]
  by_cases hf : fin ≤ d
  ·rw [if_pos hf]
   by_cases hmd : more ≤ d
   ·rw [if_pos hmd]
    show (0, fin) = (0, if more < fin then more else fin)
    rw [if_neg (by omega)]
   ·rw [if_neg hmd] at h0 ⊢
    have late : ∀ l : List Int, (∀ e ∈ l, fin ≤ e) → fin ≤ (firstR is day more l).2 ∨ (firstR is day more l).1 ≠ 0 := by
     intro l
     induction l with
     | nil => intro _; exact .inl hm
     | cons e l ih =>
      intro he
      have h1 := ih fun x hx => he x (List.mem_cons_of_mem _ hx)
      have h2 := he e (List.mem_cons_self ..)
      rw [firstR_cons]
      split
      ·exact .inl hm
      ·split
       ·by_cases hi : (is e).1 = 0
        ·rw [andR_go hi]
         split
         ·exact .inl h2
         ·exact h1
        ·rw [andR_err hi]; exact .inr hi
       ·exact h1
    have hl : ∀ e ∈ l, fin ≤ e := fun e he => by have := hp2.1 e he; omega
    have key : fin ≤ (if day ≤ d then andR (is d) 0 (fun b => if b = true then (0, d) else firstR is day more l) else firstR is day more l).2 := by
     split
     ·next h1 =>
      rw [if_pos h1] at h0
      obtain ⟨k1, k2⟩ := andR_ok h0
      rw [k2] at h0 ⊢
      by_cases hb : (is d).2 = true
      ·rw [if_pos hb]; exact hf
      ·rw [if_neg hb] at h0 ⊢
       exact (late l hl).resolve_right fun k => k h0
     ·next h1 =>
      rw [if_neg h1] at h0
      exact (late l hl).resolve_right fun k => k h0
    rw [if_neg (by omega)]
  ·rw [if_neg hf]
   have hmd : ¬ more ≤ d := by omega
   rw [if_neg hmd] at h0 ⊢
   by_cases hd : day ≤ d
   ·rw [if_pos hd] at h0 ⊢
    rw [if_pos hd]
    obtain ⟨k1, k2⟩ := andR_ok h0
    rw [k2] at h0 ⊢
    rw [andR_go k1]
    by_cases hb : (is d).2 = true
    ·rw [if_pos hb, if_pos hb]
     show (0, d) = (0, if d < fin then d else fin)
     rw [if_pos (by omega)]
    ·rw [if_neg hb] at h0 ⊢
     rw [if_neg hb]
     exact (first_pre is day fin more hm l hp2.2 h0).1
   ·rw [if_neg hd] at h0 ⊢
    rw [if_neg hd]
    exact (first_pre is day fin more hm l hp2.2 h0).1
theorem mulAll_pre (k : ByteArray) (fin : Int) : ∀ l : List Fl, (mulAll k l).1 = 0 → mulAll k (l.filter (befD fin)) = (0, (mulAll k l).2.filter (befD fin))
 | [], _ => rfl
 | f :: l, h => by
  rw [mulAll] at h
  obtain ⟨h1, e1⟩ := andR_ok h
  rw [e1] at h
  obtain ⟨h2, e2⟩ := andR_ok h
  have ih := mulAll_pre k fin l h2
  rw [show mulAll k (f :: l) = (0, paidS f.d f.fr f.rc f.cy (mkB (mulS f.am k)) ++ (mulAll k l).2) by rw [mulAll, e1]; exact e2]
  rw [List.filter_cons]
  show _ = (0, List.filter (befD fin) (_ ++ _))
  rw [List.filter_append]
  by_cases hb : befD fin f = true
  ·rw [if_pos hb, mulAll, andR_go h1, ih, andR_go rfl]
   have : (paidS f.d f.fr f.rc f.cy (mkB (mulS f.am k))).filter (befD fin) = paidS f.d f.fr f.rc f.cy (mkB (mulS f.am k)) := List.filter_eq_self.2 fun g hg => by
    have := paidS_d g hg
    unfold befD at hb ⊢
    rw [this]; exact hb
   rw [this]
  ·rw [if_neg hb, ih]
   have : (paidS f.d f.fr f.rc f.cy (mkB (mulS f.am k))).filter (befD fin) = [] := List.filter_eq_nil_iff.2 fun g hg => by
    have := paidS_d g hg
    unfold befD at hb ⊢
    rw [this]; exact hb
   rw [this, List.nil_append]
theorem filter_late {fin : Int} {l : List Fl} (h : ∀ f ∈ l, fin ≤ f.d) : l.filter (befD fin) = [] := List.filter_eq_nil_iff.2 fun f hf => by
 have := h f hf
 unfold befD; simp; omega
theorem filter_soon {fin : Int} {l : List Fl} (h : ∀ f ∈ l, f.d < fin) : l.filter (befD fin) = l := List.filter_eq_self.2 fun f hf => by
 have := h f hf
 unfold befD; simp; omega
theorem isDays_pw {l : List Int} (h : isDays l = true) : l.Pairwise (· < ·) := by
 unfold isDays at h
 simp only [Bool.and_eq_true, decide_eq_true_eq] at h
 exact h.2.2.2
theorem flows_pre (F : List Fx) (C : List Ch) : ∀ (N : Nat) (c : Con), c.bulk ≤ N → c.formed = true → ∀ day fin more, fin ≤ more → (c.flows F C day more).1 = 0 → c.flows F C day fin = (0, (c.flows F C day more).2.filter (befD fin))
 | 0, c, hN, _ => by have := c.sub_lt; omega
 | N + 1, c, hN, hw => fun day fin more hm h0 => by
  have hsub : ∀ y ∈ c.sub, y.formed = true := fun y hy => by
   rw [Con.formed_eq, Bool.and_eq_true, Con.formeds_eq] at hw; exact List.all_eq_true.1 hw.2 y hy
  have IH : ∀ y ∈ c.sub, ∀ day fin more, fin ≤ more → (y.flows F C day more).1 = 0 → y.flows F C day fin = (0, (y.flows F C day more).2.filter (befD fin)) := fun y hy => flows_pre F C N y (by have := Con.mem_lt hy; omega) (hsub y hy)
  by_cases hn : fin ≤ day
  ·rw [flows_late c F C day fin hn]
   rw [filter_late fun f hf => by have := (flows_in F C c.bulk c (Nat.le_refl _) hw day more f hf).1; omega]
  have hN2 : ¬ more ≤ day := by omega
  have hin : ∀ y ∈ c.sub, ∀ day fin, ∀ f ∈ (y.flows F C day fin).2, day ≤ f.d ∧ f.d < fin := fun y hy => flows_in F C y.bulk y (Nat.le_refl _) (hsub y hy)
  have hcs := con_cases c hw
  obtain ⟨Z, hZ⟩ : ∃ Z, c.flows F C day more = Z := ⟨_, rfl⟩
  rw [hZ] at h0 ⊢
  obtain ⟨k, fr, rc, nm, ex, d, ds, l⟩ := c
  simp only [Con.k, Con.sub, Con.ex, Con.d, Con.ds] at hcs IH hin
  unfold Con.flows at hZ ⊢
  rw [if_neg hN2] at hZ
  rw [if_neg hn]
  subst hZ
  rcases hcs with ⟨rfl, rfl⟩ | ⟨rfl, rfl, hA⟩ | ⟨rfl, x, y, rfl⟩ | ⟨rfl, hA, x, rfl⟩ | ⟨rfl, hA, x, y, rfl⟩ | ⟨rfl, hd, x, rfl⟩ | ⟨rfl, x, y, rfl⟩ | ⟨rfl, hd, x, rfl⟩ | ⟨hk, hd, hA, x, rfl⟩
  ·rfl
  ·simp only [reduceIte] at h0 ⊢
   obtain ⟨h1, e1⟩ := andR_ok h0
   rw [e1, filter_soon fun f hf => by rw [paidS_d f hf]; omega]
  ·simp only [Nat.reduceEqDiff, reduceIte] at h0 ⊢
   obtain ⟨h1, e1⟩ := andR_ok h0
   rw [e1] at h0
   obtain ⟨h2, e2⟩ := andR_ok h0
   rw [e1, e2, IH x (by simp) day fin more hm h1, andR_go rfl, IH y (by simp) day fin more hm h2, andR_go rfl, ← List.filter_append]
  ·simp only [Nat.reduceEqDiff, reduceIte] at h0 ⊢
   obtain ⟨h1, e1⟩ := andR_ok h0
   rw [e1] at h0
   obtain ⟨h2, e2⟩ := andR_ok h0
   rw [e2] at h0
   rw [e1, e2, andR_go h1, IH x (by simp) day fin more hm h2, andR_go rfl, mulAll_pre _ _ _ h0]
  ·simp only [Nat.reduceEqDiff, reduceIte] at h0 ⊢
   obtain ⟨h1, e1⟩ := andR_ok h0
   rw [e1] at h0
   rw [e1, andR_go h1]
   by_cases hb : (ex.hold F day).2 = true
   ·simp only [if_pos hb] at h0 ⊢; exact IH x (by simp) day fin more hm h0
   ·simp only [if_neg hb] at h0 ⊢; exact IH y (by simp) day fin more hm h0
  ·simp only [Nat.reduceEqDiff, reduceIte] at h0 ⊢
   by_cases hb : day ≤ d
   ·simp only [if_pos hb] at h0 ⊢; exact IH x (by simp) d fin more hm h0
   ·simp only [if_neg hb] at h0 ⊢; rfl
  ·simp only [Nat.reduceEqDiff, reduceIte] at h0 ⊢
   by_cases hb : chosenB C fr nm day = true
   ·simp only [if_pos hb] at h0 ⊢; exact IH x (by simp) day fin more hm h0
   ·simp only [if_neg hb] at h0 ⊢; exact IH y (by simp) day fin more hm h0
  ·simp only [Nat.reduceEqDiff, reduceIte] at h0 ⊢
   rw [(first_pre _ day fin more hm ds (isDays_pw hd) (first_pure _ day more ds)).1]
   generalize (firstR (fun e => (0, chosenB C fr nm e)) day more ds).2 = q at h0 ⊢
   dsimp only
   by_cases hq : q < fin
   ·rw [if_pos hq]; exact IH x (by simp) q fin more hm h0
   ·rw [if_neg hq, flows_late x F C fin fin (Int.le_refl _), filter_late fun f hf => by have := (hin x (by simp) q more f hf).1; omega]
  ·rcases hk with rfl | rfl
   ·simp only [Nat.reduceEqDiff, reduceIte] at h0 ⊢
    obtain ⟨h1, e1⟩ := andR_ok h0
    rw [e1] at h0
    rw [e1, (first_pre _ day fin more hm ds (isDays_pw hd) h1).1, andR_go rfl]
    generalize (firstR (fun e => ex.hold F e) day more ds).2 = q at h0 ⊢
    dsimp only
    by_cases hq : q < fin
    ·rw [if_pos hq, filter_soon fun f hf => by have := (hin x (by simp) day q f hf).2; omega, ← h0]
    ·rw [if_neg hq]; exact IH x (by simp) day fin q (by omega) h0
   ·simp only [Nat.reduceEqDiff, reduceIte] at h0 ⊢
    obtain ⟨h1, e1⟩ := andR_ok h0
    rw [e1] at h0
    rw [e1, (first_pre _ day fin more hm ds (isDays_pw hd) h1).1, andR_go rfl]
    generalize (firstR (fun e => ex.hold F e) day more ds).2 = q at h0 ⊢
    dsimp only
    by_cases hq : q < fin
    ·rw [if_pos hq]; exact IH x (by simp) q fin more hm h0
    ·rw [if_neg hq, flows_late x F C fin fin (Int.le_refl _), filter_late fun f hf => by have := (hin x (by simp) q more f hf).1; omega]
theorem insFl_filter (p : Int → Bool) (x : Fl) : ∀ l : List Fl, SrtFl l → (insFl x l).filter (fun f => p f.d) = if p x.d = true then insFl x (l.filter fun f => p f.d) else l.filter fun f => p f.d
 | [], _ => by
  show List.filter _ [x] = _
  rw [List.filter_cons]
  rfl
 | y :: l, h => by
  have h2 := List.pairwise_cons.1 h
  have ih := insFl_filter p x l h2.2
  rw [insFl]
  by_cases hxy : x.d ≤ y.d
  ·rw [if_pos hxy, List.filter_cons]
   by_cases hp : p x.d = true
   ·rw [if_pos hp, if_pos hp]
    refine (insFl_head fun z hz => ?_).symm
    rcases List.mem_cons.1 ((List.mem_filter.1 hz).1) with rfl | hz
    ·exact hxy
    ·exact Int.le_trans hxy (h2.1 z hz)
   ·rw [if_neg hp, if_neg hp]
  ·rw [if_neg hxy, List.filter_cons, List.filter_cons, ih]
   by_cases hy : p y.d = true
   ·rw [if_pos hy, if_pos hy]
    by_cases hp : p x.d = true
    ·rw [if_pos hp, if_pos hp, insFl, if_neg hxy]
    ·rw [if_neg hp, if_neg hp]
   ·rw [if_neg hy, if_neg hy]
theorem srtFl_filter (p : Int → Bool) : ∀ l : List Fl, srtFl (l.filter fun f => p f.d) = (srtFl l).filter fun f => p f.d
 | [] => rfl
 | x :: l => by
  rw [srtFl, insFl_filter p x _ (srtFl_srt l), List.filter_cons, ← srtFl_filter p l]
  by_cases hp : p x.d = true
  ·rw [if_pos hp, if_pos hp, srtFl]
  ·rw [if_neg hp, if_neg hp]
theorem srt_take {fin : Int} : ∀ {l : List Fl} {n : Nat}, SrtFl l → n ≤ l.length → (∀ j f, j < n → l[j]? = some f → f.d < fin) → (∀ f, l[n]? = some f → ¬ f.d < fin) → l.filter (befD fin) = l.take n
 | [], n, _, _, _, _ => by simp
 | x :: l, 0, h, _, _, h2 => by
  have h3 := h2 x rfl
  have h4 := List.pairwise_cons.1 h
  rw [filter_late fun f hf => by
   rcases List.mem_cons.1 hf with rfl | hf
   ·omega
   ·have := h4.1 f hf; omega]
  rfl
 | x :: l, n + 1, h, hn, h1, h2 => by
  have h3 := h1 0 x (by omega) rfl
  have h4 := List.pairwise_cons.1 h
  rw [List.filter_cons, if_pos (by unfold befD; simp; exact h3), List.take_succ_cons]
  rw [srt_take h4.2 (by simpa using hn) (fun j f hj hf => h1 (j + 1) f (by omega) (by simpa using hf)) (fun f hf => h2 f (by simpa using hf))]
theorem befR_srt (c : Con) (day fin : Int) (F : List Fx) (C : List Ch) : SrtFl (befR c day fin F C).2 := by
 unfold befR
 repeat' split
 all_goals first
  | exact List.Pairwise.nil
  | skip
 unfold andR
 split
 ·exact List.Pairwise.nil
 ·exact srtFl_srt _
theorem befR_pre (c : Con) (day fin more : Int) (F : List Fx) (C : List Ch) (hf : 0 ≤ fin) (hm : fin ≤ more) (h : (befR c day more F C).1 = 0) :
  befR c day fin F C = (0, (befR c day more F C).2.filter (befD fin)) := by
 by_cases hc : c.err = 0
 ·rw [befR_ok hc day fin, befR_ok hc day more]
  rw [befR_ok hc day more] at h
  by_cases he : envErr F C = 0
  ·simp only [if_neg (show ¬ (envErr F C ≠ 0) from fun k => k he)] at h ⊢
   by_cases hd : day < 0 ∨ 99999 < day ∨ more < 0 ∨ 100000 < more
   ·rw [if_pos hd] at h; exact absurd h (by show ¬ ((2 : Int) = 0); decide)
   ·rw [if_neg hd] at h ⊢
    rw [if_neg (by omega)]
    obtain ⟨h1, e1⟩ := andR_ok h
    rw [e1, flows_pre F C c.bulk c (Nat.le_refl _) (err_formed hc).2 day fin more hm h1, andR_go rfl]
    exact congrArg (Prod.mk 0) (srtFl_filter (fun d => decide (d < fin)) _)
  ·rw [if_pos he] at h; exact absurd h he
 ·unfold befR at h
  rw [if_pos hc] at h; exact absurd h hc
end Go.Proofs.YtknpnhodpgajbaaGreatDoor

namespace Go.Proofs.YtknpnhodpgajbaaGreatDoor
open Go.RowKit
def pickM (who what : ByteArray) (a b : Con) : Con := .mk 7 who mE what xZ 0 [] [a, b]
def callM (who what : ByteArray) (ds : List Int) (a : Con) : Con := .mk 8 who mE what xZ 0 ds [a]
theorem pick_err {who what : ByteArray} {a b : Con} (h : (pickM who what a b).err = 0) : a.err = 0 ∧ b.err = 0 := by
 obtain ⟨hs, hf⟩ := err_formed h
 have e1 : (pickM who what a b).size = 1 + 0 + (a.size + (b.size + 0)) := by rw [pickM, Con.size, Con.sizes, Con.sizes, Con.sizes]; rfl
 have e2 : (pickM who what a b).depth = max 0 (max a.depth (max b.depth 0)) + 1 := by rw [pickM, Con.depth, Con.depths, Con.depths, Con.depths]; rfl
 rw [Con.formed_eq, Bool.and_eq_true, Con.formeds_eq] at hf
 have hl := List.all_eq_true.1 hf.2
 exact ⟨err_of (by omega) (hl a (by simp [pickM, Con.sub])), err_of (by omega) (hl b (by simp [pickM, Con.sub]))⟩
theorem call_err {who what : ByteArray} {ds : List Int} {a : Con} (h : (callM who what ds a).err = 0) : a.err = 0 ∧ isDays ds = true := by
 obtain ⟨hs, hf⟩ := err_formed h
 have hd : isDays ds = true := by
  rcases con_cases _ hf with ⟨hk, _⟩ | ⟨hk, _⟩ | ⟨hk, _⟩ | ⟨hk, _⟩ | ⟨hk, _⟩ | ⟨hk, _⟩ | ⟨hk, _⟩ | ⟨_, hd, _⟩ | ⟨hk, _⟩
  case inr.inr.inr.inr.inr.inr.inr.inl => exact hd
  all_goals (exfalso; revert hk; show ¬ _; simp [callM, Con.k])
 have e1 : (callM who what ds a).size = 1 + 0 + (a.size + 0) := by rw [callM, Con.size, Con.sizes, Con.sizes]; rfl
 have e2 : (callM who what ds a).depth = max 0 (max a.depth 0) + 1 := by rw [callM, Con.depth, Con.depths, Con.depths]; rfl
 rw [Con.formed_eq, Bool.and_eq_true, Con.formeds_eq] at hf
 have hl := List.all_eq_true.1 hf.2
 exact ⟨err_of (by omega) (hl a (by simp [callM, Con.sub])), hd⟩
theorem pick_flows (who what : ByteArray) (a b : Con) (F : List Fx) (C : List Ch) (day fin : Int) : (pickM who what a b).flows F C day fin = (if chosenB C who what day = true then a else b).flows F C day fin := by
 rw [pickM, Con.flows]
 by_cases h : fin ≤ day
 ·rw [if_pos h, flows_late _ _ _ _ _ h]
 ·rw [if_neg h]
  (try dsimp only)
  rw [if_neg (by decide), if_neg (by decide)]
  split <;> rfl
theorem call_flows (who what : ByteArray) (ds : List Int) (a : Con) (F : List Fx) (C : List Ch) (day fin : Int) (h : day < fin) : (callM who what ds a).flows F C day fin = a.flows F C (firstR (fun e => (0, chosenB C who what e)) day fin ds).2 fin := by
 rw [callM, Con.flows, if_neg (by omega)]
 (try dsimp only)
 rw [if_neg (by decide), if_neg (by decide), if_pos rfl]
theorem befR_pick (who what : ByteArray) (a b : Con) (day fin : Int) (F : List Fx) (C : List Ch) (h : (pickM who what a b).err = 0) :
  befR (pickM who what a b) day fin F C = befR (if chosenB C who what day = true then a else b) day fin F C := by
 obtain ⟨ha, hb⟩ := pick_err h
 have hc : (if chosenB C who what day = true then a else b).err = 0 := by split <;> assumption
 rw [befR_ok h, befR_ok hc, pick_flows]
theorem first_at (f : Int → Bool) (day fin d : Int) (hd : day ≤ d) (hf : d < fin) (ht : f d = true) : ∀ (l : List Int) (i : Nat), l[i]? = some d → (∀ e ∈ l, e < fin) → (∀ j e, j < i → l[j]? = some e → ¬ (day ≤ e ∧ f e = true)) → (firstR (fun e => (0, f e)) day fin l).2 = d
 | [], _, h, _, _ => by cases h
 | x :: l, 0, h, _, _ => by
  obtain rfl : x = d := by simpa using h
  rw [firstR_cons, if_neg (by omega), if_pos hd, andR_go rfl]
  dsimp only
  rw [if_pos ht]
 | x :: l, i + 1, h, hl, hn => by
  have ih := first_at f day fin d hd hf ht l i (by simpa using h) (fun e he => hl e (List.mem_cons_of_mem _ he)) fun j e hj he => hn (j + 1) e (by omega) (by simpa using he)
  have h0 := hn 0 x (by omega) rfl
  have h1 := hl x (List.mem_cons_self ..)
  rw [firstR_cons, if_neg (by omega)]
  split
  ·next hx =>
   rw [andR_go rfl]
   dsimp only
   rw [if_neg fun k => h0 ⟨hx, k⟩]
   exact ih
  ·exact ih
theorem first_none (f : Int → Bool) (day fin : Int) : ∀ (l : List Int), (∀ e ∈ l, e < fin) → (∀ e ∈ l, ¬ (day ≤ e ∧ f e = true)) → (firstR (fun e => (0, f e)) day fin l).2 = fin
 | [], _, _ => rfl
 | x :: l, hl, hn => by
  have ih := first_none f day fin l (fun e he => hl e (List.mem_cons_of_mem _ he)) fun e he => hn e (List.mem_cons_of_mem _ he)
  have h0 := hn x (List.mem_cons_self ..)
  have h1 := hl x (List.mem_cons_self ..)
  rw [firstR_cons, if_neg (by omega)]
  split
  ·next hx =>
   rw [andR_go rfl]
   dsimp only
   rw [if_neg fun k => h0 ⟨hx, k⟩]
   exact ih
  ·exact ih
theorem isDays_day {l : List Int} (h : isDays l = true) : ∀ e ∈ l, 0 ≤ e ∧ e ≤ 99999 := by
 unfold isDays at h
 simp only [Bool.and_eq_true, decide_eq_true_eq] at h
 intro e he
 have := List.all_eq_true.1 h.2.2.1 e he
 unfold isDay at this
 simpa using this
theorem befR_call_at (who what : ByteArray) (ds : List Int) (a : Con) (day : Int) (F : List Fx) (C : List Ch) (h : (callM who what ds a).err = 0) (hd : ¬ (day < 0 ∨ 99999 < day)) (i : Nat) (d : Int) (hi : ds[i]? = some d) (hdd : day ≤ d) (hc : chosenB C who what d = true)
  (hn : ∀ j e, j < i → ds[j]? = some e → ¬ (day ≤ e ∧ chosenB C who what e = true)) :
  befR (callM who what ds a) day 100000 F C = befR a d 100000 F C := by
 obtain ⟨ha, hds⟩ := call_err h
 have hday := isDays_day hds
 have hd2 := hday d (List.mem_of_getElem? hi)
 rw [befR_ok h, befR_ok ha, call_flows _ _ _ _ _ _ _ _ (by omega), first_at _ day 100000 d hdd (by omega) hc ds i hi (fun e he => by have := hday e he; omega) hn]
 by_cases he : envErr F C ≠ 0
 ·rw [if_pos he, if_pos he]
 ·rw [if_neg he, if_neg he, if_neg (by omega), if_neg (by omega)]
theorem befR_call_none (who what : ByteArray) (ds : List Int) (a : Con) (day : Int) (F : List Fx) (C : List Ch) (h : (callM who what ds a).err = 0) (he : envErr F C = 0) (hd : ¬ (day < 0 ∨ 99999 < day))
  (hn : ∀ e ∈ ds, ¬ (day ≤ e ∧ chosenB C who what e = true)) :
  befR (callM who what ds a) day 100000 F C = (0, []) := by
 obtain ⟨ha, hds⟩ := call_err h
 have hday := isDays_day hds
 rw [befR_ok h, if_neg fun k => k he, if_neg (by omega), call_flows _ _ _ _ _ _ _ _ (by omega), first_none _ day 100000 ds (fun e he => by have := hday e he; omega) hn, flows_late _ _ _ _ _ (Int.le_refl _), andR_go rfl]
 rfl
end Go.Proofs.YtknpnhodpgajbaaGreatDoor
