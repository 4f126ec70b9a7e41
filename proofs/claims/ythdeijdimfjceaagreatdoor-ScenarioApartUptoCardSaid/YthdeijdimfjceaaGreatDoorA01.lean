/- A part. -/
import Derived.Test.YthdeijdimfjceaaGreatDoorRows
import Derived.WalkKit
import Derived.WalkSpells
import Derived.WalkLawsBesides
import Derived.BigQuiet
import Derived.Deep.QuietTactic
import Derived.Deep.LoopGhost
import Derived.Lib.Hide
import Derived.Deep.DeepCutAuto
import Derived.Lib.Strings
import Derived.Lib.IndexBytes
import Derived.Deep.Slices
import Derived.Deep.Fields
import Derived.Lib.SmallJoins
import Derived.Carry
import Derived.Maps.AppendAt
import Derived.RangeFuncNested
import Derived.RangeFuncBound
import Derived.RangeFuncCalls
import Derived.RangeFuncLeaves
import Derived.RangeFuncBox
import Derived.Shelf.Abstract
import Derived.Shelf.RegionOpen
import Derived.OwnWalkIn
import Derived.TacticsInMore
import Derived.LoopNIn
import Derived.LoopIn
namespace Go.Proofs.YthdeijdimfjceaaGreatDoor
def val (b:Nat):List Nat→Nat
 | [] => 0
 | x :: xs => x+b * val b xs
def Dig (b:Nat) (xs:List Nat):Prop:=∀ x ∈ xs,x < b
def Nrm (b:Nat) (xs:List Nat):Prop:=Dig b xs∧xs.getLast? ≠ some 0
theorem val_append (b:Nat) (xs ys:List Nat):val b (xs ++ ys)=val b xs+b ^ xs.length * val b ys:=by
 induction xs with
 | nil => simp [val]
 | cons x xs ih => simp only [List.cons_append,val,ih,List.length_cons,Nat.pow_succ];rw [Nat.mul_add,← Nat.mul_assoc,Nat.mul_comm b (b ^ xs.length)];omega
theorem val_single (b d:Nat):val b [d]=d:=by simp [val]
theorem val_snoc (b:Nat) (xs:List Nat) (d:Nat):val b (xs ++ [d])=val b xs+b ^ xs.length * d:=by rw [val_append,val_single]
theorem Dig.nil (b:Nat):Dig b []:=fun x h => by cases h
theorem Dig.append {b:Nat} {xs ys:List Nat} (h:Dig b xs) (k:Dig b ys):Dig b (xs ++ ys):=fun x hx => by
 rcases List.mem_append.1 hx with hx | hx
 ·exact h x hx
 ·exact k x hx
theorem Dig.snoc {b:Nat} {xs:List Nat} {d:Nat} (h:Dig b xs) (k:d < b):Dig b (xs ++ [d]):=h.append fun x hx => by
 rcases List.mem_singleton.1 hx with rfl;exact k
theorem Dig.take {b:Nat} {xs:List Nat} (h:Dig b xs) (k:Nat):Dig b (xs.take k):=fun x hx => h x (List.mem_of_mem_take hx)
theorem Dig.drop {b:Nat} {xs:List Nat} (h:Dig b xs) (k:Nat):Dig b (xs.drop k):=fun x hx => h x (List.mem_of_mem_drop hx)
theorem Dig.at {b:Nat} {xs:List Nat} (hb:0 < b) (h:Dig b xs) (k:Nat):xs.getD k 0 < b:=by
 by_cases hk:k < xs.length
 ·simp only [List.getD,List.getElem?_eq_getElem hk,Option.getD_some];exact h _ (List.getElem_mem hk)
 ·simp only [List.getD,List.getElem?_eq_none (by omega:xs.length≤k),Option.getD_none];exact hb
theorem Dig.set {b:Nat} {xs:List Nat} (h:Dig b xs) (k:Nat) {d:Nat} (hd:d < b):Dig b (xs.set k d):=fun x hx => by
 rcases List.mem_or_eq_of_mem_set hx with hx | rfl
 ·exact h x hx
 ·exact hd
theorem val_lt {b:Nat} {xs:List Nat} (h:Dig b xs):val b xs < b ^ xs.length:=by
 induction xs with
 | nil => simp [val]
 | cons x xs ih =>
  have h1:x < b:=h x (by simp)
  have h2:=ih (fun y hy => h y (by simp [hy]))
  simp only [val,List.length_cons,Nat.pow_succ]
  have h3:b * (val b xs+1)≤b * b ^ xs.length:=Nat.mul_le_mul_left _ h2
  rw [Nat.mul_add] at h3
  rw [Nat.mul_comm (b ^ xs.length) b]
  omega
theorem take_succ_getD (xs:List Nat) (k:Nat) (h:k < xs.length):xs.take (k+1)=xs.take k ++ [xs.getD k 0]:=by
 rw [List.take_succ_eq_append_getElem h];simp [List.getD,h]
theorem val_take_succ (b:Nat) (xs:List Nat) (k:Nat):val b (xs.take (k+1))=val b (xs.take k)+b ^ k * xs.getD k 0:=by
 by_cases h:k < xs.length
 ·rw [take_succ_getD _ _ h,val_snoc,List.length_take,Nat.min_eq_left (by omega)]
 ·rw [List.take_of_length_le (by omega),List.take_of_length_le (by omega)]
  simp only [List.getD,List.getElem?_eq_none (by omega:xs.length≤k),Option.getD_none];omega
theorem val_split (b:Nat) (xs:List Nat) (k:Nat) (h:k≤xs.length):val b xs=val b (xs.take k)+b ^ k * val b (xs.drop k):=by
 have e:=val_append b (xs.take k) (xs.drop k)
 rw [List.take_append_drop,List.length_take,Nat.min_eq_left h] at e
 exact e
theorem val_drop (b:Nat) (xs:List Nat) (k:Nat) (h:k < xs.length):val b (xs.drop k)=xs.getD k 0+b * val b (xs.drop (k+1)):=by
 rw [List.drop_eq_getElem_cons h];simp [val,List.getD,h]
theorem val_set (b:Nat) (xs:List Nat) (i d:Nat) (h:i < xs.length):val b (xs.set i d)+b ^ i * xs.getD i 0=val b xs+b ^ i * d:=by
 have e1:=val_split b (xs.set i d) (i+1) (by simp;omega)
 have e2:=val_split b xs (i+1) (by omega)
 rw [List.drop_set_of_lt (by omega)] at e1
 have e3:=val_take_succ b (xs.set i d) i
 have e4:=val_take_succ b xs i
 have e5:(xs.set i d).take i=xs.take i:=by rw [List.take_set_of_le (by omega)]
 have e6:(xs.set i d).getD i 0=d:=by simp [List.getD,h]
 rw [e5,e6] at e3
 omega
theorem val_zeros (b n:Nat):val b (List.replicate n 0)=0:=by
 induction n with
 | zero => rfl
 | succ n ih => simp [List.replicate_succ,val,ih]
def trimL (xs:List Nat):List Nat:=(xs.reverse.dropWhile (· == 0)).reverse
theorem trimL_snoc_zero (xs:List Nat):trimL (xs ++ [0])=trimL xs:=by simp [trimL]
theorem trimL_snoc (xs:List Nat) (d:Nat) (h:d ≠ 0):trimL (xs ++ [d])=xs ++ [d]:=by
 simp [trimL,h]
theorem snoc_cases (P:List Nat→Prop) (h0:P []) (h1:∀ xs d,P xs→P (xs ++ [d])) (xs:List Nat):P xs:=by
 have key:∀ n (xs:List Nat),xs.length=n→P xs:=by
  intro n
  induction n with
  | zero => intro xs h;rw [List.eq_nil_of_length_eq_zero h];exact h0
  | succ n ih =>
   intro xs h
   have e:=take_succ_getD xs n (by omega)
   rw [List.take_of_length_le (by omega)] at e
   rw [e]
   exact h1 _ _ (ih _ (by simp;omega))
 exact key _ xs rfl
theorem trimL_val (b:Nat) (xs:List Nat):val b (trimL xs)=val b xs:=by
 refine snoc_cases (fun xs => val b (trimL xs)=val b xs) rfl ?_ xs
 intro xs d ih
 by_cases h:d=0
 ·subst h;rw [trimL_snoc_zero,ih,val_snoc];omega
 ·rw [trimL_snoc _ _ h]
theorem trimL_prefix (xs:List Nat):trimL xs=xs.take (trimL xs).length∧(trimL xs).length≤xs.length:=by
 refine snoc_cases (fun xs => trimL xs=xs.take (trimL xs).length∧(trimL xs).length≤xs.length) ⟨rfl,Nat.le_refl _⟩ ?_ xs
 intro xs d ⟨i1,i2⟩
 by_cases h:d=0
 ·subst h
  rw [trimL_snoc_zero]
  refine ⟨?_,by simp;omega⟩
  rw [List.take_append_of_le_length i2];exact i1
 ·rw [trimL_snoc _ _ h];exact ⟨(List.take_of_length_le (Nat.le_refl _)).symm,Nat.le_refl _⟩
theorem trimL_nrm {b:Nat} {xs:List Nat} (h:Dig b xs):Nrm b (trimL xs):=by
 constructor
 ·rw [(trimL_prefix xs).1];exact h.take _
 ·refine snoc_cases (fun xs => (trimL xs).getLast? ≠ some 0) (by simp [trimL]) ?_ xs
  intro xs d ih
  by_cases h:d=0
  ·subst h;rw [trimL_snoc_zero];exact ih
  ·rw [trimL_snoc _ _ h];simp [h]
theorem Nrm.nil (b:Nat):Nrm b []:=⟨Dig.nil b,by simp⟩
theorem Nrm.tail {b x:Nat} {xs:List Nat} (h:Nrm b (x :: xs)):Nrm b xs:=by
 refine ⟨fun y hy => h.1 y (by simp [hy]),?_⟩
 cases xs with
 | nil => simp
 | cons y ys => have:=h.2;simpa [List.getLast?_cons_cons] using this
theorem Nrm.pos {b:Nat} {xs:List Nat} (h:Nrm b xs) (hne:xs ≠ []):b ^ (xs.length - 1)≤val b xs:=by
 rcases List.eq_nil_or_concat xs with rfl | ⟨ys,d,rfl⟩
 ·exact absurd rfl hne
 ·have h2:=h.2
  rw [List.concat_eq_append] at h2 ⊢
  have hd:d ≠ 0:=fun e => by rw [e] at h2;simp at h2
  rw [val_snoc]
  simp only [List.length_append,List.length_singleton,Nat.add_sub_cancel]
  have:=Nat.mul_le_mul_left (b ^ ys.length) (show 1≤d by omega)
  omega
theorem Nrm.val_zero {b:Nat} {xs:List Nat} (hb:0 < b) (h:Nrm b xs):val b xs=0 ↔ xs=[]:=by
 constructor
 ·intro e
  by_cases hne:xs=[]
  ·exact hne
  ·have h1:=h.pos hne
   have h2:0 < b ^ (xs.length - 1):=Nat.pow_pos hb
   omega
 ·rintro rfl;rfl
theorem Nrm.length_le {b:Nat} {xs:List Nat} (hb:1 < b) (h:Nrm b xs) (k:Nat) (hv:val b xs < b ^ k):xs.length≤k:=by
 by_cases hne:xs=[]
 ·subst hne;simp
 ·have h1:=h.pos hne
  have h2:b ^ (xs.length - 1) < b ^ k:=by omega
  have:=(Nat.pow_lt_pow_iff_right hb).1 h2
  omega
theorem Nrm.length_lt_of {b:Nat} {xs ys:List Nat} (hb:1 < b) (h:Nrm b xs) (k:Nrm b ys) (hl:xs.length < ys.length):val b xs < val b ys:=by
 have h1:=val_lt h.1
 have h2:=k.pos (by intro e;subst e;simp at hl)
 have h3:b ^ xs.length≤b ^ (ys.length - 1):=Nat.pow_le_pow_right (by omega) (by omega)
 omega
def cmpD:Nat→List Nat→List Nat→Int
 | 0,_,_ => 0
 | k+1,xs,ys => if xs.getD k 0=ys.getD k 0 then cmpD k xs ys else if xs.getD k 0 < ys.getD k 0 then -1 else 1
def sgn (a b:Nat):Int:=if a < b then -1 else if a=b then 0 else 1
theorem sgn_lt {a b:Nat} (h:a < b):sgn a b = -1:=by unfold sgn;rw [if_pos h]
theorem sgn_eq {a b:Nat} (h:a=b):sgn a b=0:=by unfold sgn;rw [if_neg (by omega),if_pos h]
theorem sgn_gt {a b:Nat} (h:b < a):sgn a b=1:=by unfold sgn;rw [if_neg (by omega),if_neg (by omega)]
theorem sgn_add (a b c:Nat):sgn (a+c) (b+c)=sgn a b:=by
 rcases Nat.lt_trichotomy a b with h | h | h
 ·rw [sgn_lt h,sgn_lt (by omega)]
 ·rw [sgn_eq h,sgn_eq (by omega)]
 ·rw [sgn_gt h,sgn_gt (by omega)]
theorem cmpD_eq {b:Nat} (hb:1 < b) {xs ys:List Nat} (hx:Dig b xs) (hy:Dig b ys) (k:Nat) :
  cmpD k xs ys=sgn (val b (xs.take k)) (val b (ys.take k)):=by
 induction k with
 | zero => simp [cmpD,sgn,val]
 | succ k ih =>
  have e1:=val_take_succ b xs k
  have e2:=val_take_succ b ys k
  have l1:val b (xs.take k) < b ^ k:=Nat.lt_of_lt_of_le (val_lt (hx.take k)) (Nat.pow_le_pow_right (by omega) (by simp;omega))
  have l2:val b (ys.take k) < b ^ k:=Nat.lt_of_lt_of_le (val_lt (hy.take k)) (Nat.pow_le_pow_right (by omega) (by simp;omega))
  rw [cmpD]
  by_cases h:xs.getD k 0=ys.getD k 0
  ·rw [if_pos h,ih,e1,e2,h,sgn_add]
  ·rw [if_neg h,e1,e2]
   by_cases h1:xs.getD k 0 < ys.getD k 0
   ·have h3:=Nat.mul_le_mul_left (b ^ k) (show xs.getD k 0+1≤ys.getD k 0 by omega)
    rw [Nat.mul_add] at h3
    rw [if_pos h1,sgn_lt (by omega)]
   ·have h3:=Nat.mul_le_mul_left (b ^ k) (show ys.getD k 0+1≤xs.getD k 0 by omega)
    rw [Nat.mul_add] at h3
    rw [if_neg h1,sgn_gt (by omega)]
theorem cmpD_nrm {b:Nat} (hb:1 < b) {xs ys:List Nat} (hx:Nrm b xs) (hy:Nrm b ys) (hl:xs.length=ys.length) :
  cmpD xs.length xs ys=sgn (val b xs) (val b ys):=by
 rw [cmpD_eq hb hx.1 hy.1,List.take_of_length_le (Nat.le_refl _),List.take_of_length_le (by omega)]
theorem Nrm.inj {b:Nat} (hb:1 < b) {xs ys:List Nat} (hx:Nrm b xs) (hy:Nrm b ys) (h:val b xs=val b ys):xs=ys:=by
 induction xs generalizing ys with
 | nil =>
  have:=(hy.val_zero (by omega)).1 (by rw [← h];rfl)
  exact this.symm
 | cons x xs ih =>
  cases ys with
  | nil =>
   have:=(hx.val_zero (by omega)).1 (by rw [h];rfl)
   exact this
  | cons y ys =>
   simp only [val] at h
   have h1:x < b:=hx.1 x (by simp)
   have h2:y < b:=hy.1 y (by simp)
   have m1:(x+b * val b xs) % b=x:=by rw [Nat.add_mul_mod_self_left,Nat.mod_eq_of_lt h1]
   have m2:(y+b * val b ys) % b=y:=by rw [Nat.add_mul_mod_self_left,Nat.mod_eq_of_lt h2]
   have hxy:x=y:=by rw [← m1,← m2,h]
   subst hxy
   have h3:b * val b xs=b * val b ys:=by omega
   have h4:val b xs=val b ys:=Nat.eq_of_mul_eq_mul_left (by omega) h3
   rw [ih hx.tail hy.tail h4]
end Go.Proofs.YthdeijdimfjceaaGreatDoor

namespace Go.Proofs.YthdeijdimfjceaaGreatDoor
open Go.RowKit
def Sl (w:World) (v:Value) (size n:Nat) (cs:List Value):Prop :=
 ∃ ad cap,v = .slice ad n cap∧n≤cap∧cs.length=n * size ∧
  (n=0∨∃ b off,ad=some ⟨b,off,none⟩∧∀ j u,cs[j]? = some u→w.cell? ⟨b,off+j,none⟩=some u)
theorem Sl.nil (w:World) (size:Nat):Sl w (.slice none 0 0) size 0 []:=⟨none,0,rfl,Nat.le_refl _,by simp,.inl rfl⟩
theorem Sl.empty (w:World) (ad:Option Addr) (cap size:Nat):Sl w (.slice ad 0 cap) size 0 []:=⟨ad,cap,rfl,Nat.zero_le _,by simp,.inl rfl⟩
theorem Sl.kept {w w':World} {v:Value} {size n:Nat} {cs:List Value} (h:Sl w v size n cs) (hk:∀ k,v.ownBlock=some k→k < w.heap.size→w'.heap[k]? = w.heap[k]?):Sl w' v size n cs:=by
 obtain ⟨ad,cap,rfl,h1,h2,h3⟩:=h
 refine ⟨ad,cap,rfl,h1,h2,?_⟩
 rcases h3 with h3 | ⟨b,off,rfl,h3⟩
 ·exact .inl h3
 ·refine .inr ⟨b,off,rfl,fun j u hj => ?_⟩
  have e:=h3 j u hj
  have hb:=World.block_lt_of_cell? w _ e
  rw [World.cell?_of_block (w:=w) (hk b rfl hb)]
  exact e
theorem Sl.below {w w':World} {v:Value} {size n:Nat} {cs:List Value} (h:Sl w v size n cs) (hb:Below w.heap.size w w'):Sl w' v size n cs :=
 h.kept fun k _ hk => hb.block k hk
theorem Sl.drewN {w:World} {v:Value} {size n:Nat} {cs:List Value} (h:Sl w v size n cs) (m:Nat):Sl (w.drewN m) v size n cs:=h.kept fun _ _ _ => rfl
theorem Sl.len {w:World} {v:Value} {size n:Nat} {cs:List Value} (h:Sl w v size n cs):cs.length=n * size:=by
 obtain ⟨_,_,_,_,h,_⟩:=h;exact h
theorem Sl.of_owns {w:World} {base:Nat} {e:TypeId} {size:Nat} {v:Value} {n:Nat} {xs:List Value} (h:w.ownsRow base e size v n xs):Sl w v size n xs:=by
 rcases h.2 with ⟨rfl,rfl⟩ | ⟨g,cap,cur,rfl,hb,hg,hn,hc,hs,ht⟩
 ·exact ⟨none,0,rfl,Nat.le_refl _,h.1,.inl rfl⟩
 ·refine ⟨_,cap,rfl,hn,h.1,.inr ⟨g,0,rfl,fun j u hj => ?_⟩⟩
  rw [Nat.zero_add,cell_of_row w g j cur e (0,0) hg]
  rw [← ht,List.getElem?_take] at hj
  split at hj
  ·simpa using hj
  ·cases hj
theorem ownsRow_kept {w w':World} {base:Nat} {e:TypeId} {size:Nat} {v:Value} {n:Nat} {xs:List Value} (h:w.ownsRow base e size v n xs)
  (hk:∀ k,v.ownBlock=some k→k < w.heap.size→w'.heap[k]? = w.heap[k]?):w'.ownsRow base e size v n xs:=by
 refine ⟨h.1,?_⟩
 rcases h.2 with h0 | ⟨g,cap,cur,rfl,hb,hg,r⟩
 ·exact .inl h0
 ·exact .inr ⟨g,cap,cur,rfl,hb,by rw [hk g rfl (Array.getElem?_eq_some_iff.1 hg).1];exact hg,r⟩
theorem ownsRow_below' {w w':World} {base:Nat} {e:TypeId} {size:Nat} {v:Value} {n:Nat} {xs:List Value} (h:w.ownsRow base e size v n xs) (hb:Below w.heap.size w w'):w'.ownsRow base e size v n xs :=
 ownsRow_kept h fun k _ hk => hb.block k hk
theorem ownsRow_base' {w:World} {base base':Nat} {e:TypeId} {size:Nat} {v:Value} {n:Nat} {xs:List Value} (h:w.ownsRow base e size v n xs) (hb:base'≤base):w.ownsRow base' e size v n xs:=by
 refine ⟨h.1,?_⟩
 rcases h.2 with h0 | ⟨g,cap,cur,rfl,hg,r⟩
 ·exact .inl h0
 ·exact .inr ⟨g,cap,cur,rfl,Nat.le_trans hb hg,r⟩
def cutTo:Value→Nat→Value
 | .slice a _ c,k => .slice a k c
 | v,_ => v
theorem Sl.cut {w:World} {v:Value} {size n:Nat} {cs:List Value} (h:Sl w v size n cs) (k:Nat) (hk:k≤n):Sl w (cutTo v k) size k (cs.take (k * size)):=by
 obtain ⟨ad,cap,rfl,h1,h2,h3⟩:=h
 have hm:=Nat.mul_le_mul_right size hk
 refine ⟨ad,cap,rfl,by omega,by rw [List.length_take];omega,?_⟩
 rcases h3 with h3 | ⟨b,off,rfl,h3⟩
 ·exact .inl (by omega)
 ·refine .inr ⟨b,off,rfl,fun j u hj => h3 j u ?_⟩
  rw [List.getElem?_take] at hj
  split at hj
  ·exact hj
  ·cases hj
theorem ownsRow_cut {w:World} {base:Nat} {e:TypeId} {size:Nat} {v:Value} {n:Nat} {xs:List Value} (h:w.ownsRow base e size v n xs) (k:Nat) (hk:k≤n):w.ownsRow base e size (cutTo v k) k (xs.take (k * size)):=by
 have hm:=Nat.mul_le_mul_right size hk
 have hl:=h.1
 refine ⟨by rw [List.length_take];omega,?_⟩
 rcases h.2 with ⟨rfl,rfl⟩ | ⟨g,cap,cur,rfl,hg,hh,hn,hc,hs,ht⟩
 ·exact .inl ⟨by rw [Nat.le_zero.1 hk];rfl,by omega⟩
 ·refine .inr ⟨g,cap,cur,rfl,hg,hh,by omega,hc,hs,?_⟩
  rw [← ht,List.take_take,Nat.min_eq_left hm]
def nums (k:IntKind) (xs:List Nat):List Value:=xs.map fun n:Nat => .int k (n:Int)
theorem nums_length (k:IntKind) (xs:List Nat):(nums k xs).length=xs.length:=by simp [nums]
theorem nums_take (k:IntKind) (xs:List Nat) (n:Nat):(nums k xs).take n=nums k (xs.take n):=by simp [nums]
theorem nums_snoc (k:IntKind) (xs:List Nat) (d:Nat):nums k xs ++ [.int k (d:Int)]=nums k (xs ++ [d]):=by simp [nums]
theorem nums_set (k:IntKind) (xs:List Nat) (i d:Nat):(nums k xs).set i (.int k (d:Int))=nums k (xs.set i d):=by simp [nums,List.map_set]
theorem nums_at (k:IntKind) (xs:List Nat) (j:Nat) (h:j < xs.length):(nums k xs)[j]? = some (.int k ((xs.getD j 0:Nat):Int)):=by
 simp [nums,List.getD,h]
theorem Sl.nums {w:World} {v:Value} {k:IntKind} {xs:List Nat} (h:Sl w v 1 xs.length (nums k xs)) :
  ∃ ad cap,v = .slice ad xs.length cap∧xs.length≤cap∧(xs.length=0∨∃ b off,ad=some ⟨b,off,none⟩∧∀ j,j < xs.length→w.cell? ⟨b,off+j,none⟩=some (.int k ((xs.getD j 0:Nat):Int))):=by
 obtain ⟨ad,cap,rfl,h1,h2,h3⟩:=h
 refine ⟨ad,cap,rfl,h1,?_⟩
 rcases h3 with h3 | ⟨b,off,rfl,h3⟩
 ·exact .inl h3
 ·exact .inr ⟨b,off,rfl,fun j hj => h3 j _ (nums_at k xs j hj)⟩
theorem ret_int' {k:IntKind} {a b:Int} (h:a=b):Ending.returned (.int k a) = .returned (.int k b):=by rw [h]
theorem ret_bool' {a b:Bool} (h:a=b):Ending.returned (.bool a) = .returned (.bool b):=by rw [h]
end Go.Proofs.YthdeijdimfjceaaGreatDoor

namespace Go.Proofs.YthdeijdimfjceaaGreatDoor
open Go.RowKit
def bl (s:ByteArray):List UInt8:=s.data.toList
theorem bl_length (s:ByteArray):(bl s).length=s.size:=Array.length_toList
theorem bl_get (s:ByteArray) (k:Nat) (h:k < s.size):(bl s)[k]? = some s[k]:=by
 obtain ⟨⟨l⟩⟩:=s
 have h':k < l.length:=by simpa [ByteArray.size] using h
 show l[k]? = some l[k]
 rw [List.getElem?_eq_getElem h']
theorem bl_cons (s:ByteArray) (h:0 < s.size):bl s=s[0] :: (bl s).tail:=by
 have e:=bl_get s 0 h
 cases hl:bl s with
 | nil => rw [hl] at e;simp at e
 | cons a b => rw [hl] at e;simp at e;rw [← e];rfl
theorem bl_tail (s:ByteArray) (_:0 < s.size):bl (s.extract 1 s.size)=(bl s).tail:=by
 show (s.extract 1 s.size).data.toList=_
 rw [Lib.extract_to_end]
 show (bl s).drop 1=_
 cases bl s <;> rfl
theorem bl_drop (s:ByteArray) (a:Nat):bl (s.extract a s.size)=(bl s).drop a:=Lib.extract_to_end s a
theorem bl_extract (s:ByteArray) (a b:Nat):bl (s.extract a b)=((bl s).drop a).take (b - a):=Lib.extract_data s a b
theorem toList_ne (s:ByteArray) (h:0 < s.size):s.toList.isEmpty=false:=by
 rw [Lib.toList_data]
 have:=bl_cons s h
 show (bl s).isEmpty=false
 rw [this];rfl
theorem take_succ_all (f:UInt8→Bool) (s:ByteArray) (k:Nat) (h:k < s.size):((bl s).take (k+1)).all f=(((bl s).take k).all f && f s[k]):=by
 rw [List.take_add_one,bl_get s k h]
 simp
theorem all_take_of_all (f:UInt8→Bool) (l:List UInt8) (k:Nat) (h:l.all f=true):(l.take k).all f=true:=by
 rw [List.all_eq_true] at h ⊢
 exact fun x hx => h x (List.mem_of_mem_take hx)
theorem bl_inj {s t:ByteArray} (h:bl s=bl t):s=t:=by
 obtain ⟨⟨l⟩⟩:=s
 obtain ⟨⟨m⟩⟩:=t
 simp [bl] at h
 rw [h]
theorem bl_mk (l:List UInt8):bl ⟨l.toArray⟩=l:=rfl
end Go.Proofs.YthdeijdimfjceaaGreatDoor

namespace Go.Proofs.YthdeijdimfjceaaGreatDoor
open Go.RowKit
def Rd {α:Type} (enc:α→List Value) (m:Nat) (w:World) (ad:Option Addr) (l:List α):Prop :=
 ∀ j x,l[j]? = some x→∃ b off,ad=some ⟨b,off,none⟩∧∀ i u,(enc x)[i]? = some u→w.cell? ⟨b,off+j * m+i,none⟩=some u
theorem flat_get {α:Type} (enc:α→List Value) (m:Nat) (hm:∀ x,(enc x).length=m):∀ (l:List α) (j:Nat) (x:α) (i:Nat) (u:Value),l[j]? = some x→(enc x)[i]? = some u→(l.flatMap enc)[j * m+i]? = some u
 | [],j,x,i,u,h,_ => by simp at h
 | y :: l,0,x,i,u,h,hu => by
  simp at h;subst h
  have hi:=(List.getElem?_eq_some_iff.1 hu).1
  rw [List.flatMap_cons,Nat.zero_mul,Nat.zero_add,List.getElem?_append_left hi,hu]
 | y :: l,j+1,x,i,u,h,hu => by
  have e:(j+1) * m+i=m+(j * m+i):=by rw [Nat.add_mul];omega
  rw [List.flatMap_cons,e,List.getElem?_append_right (by rw [hm];omega),hm,Nat.add_sub_cancel_left]
  exact flat_get enc m hm l j x i u (by simpa using h) hu
theorem flat_length {α:Type} (enc:α→List Value) (m:Nat) (hm:∀ x,(enc x).length=m) (l:List α):(l.flatMap enc).length=l.length * m:=by
 induction l with
 | nil => simp
 | cons x l ih => rw [List.flatMap_cons,List.length_append,ih,hm,List.length_cons,Nat.add_mul];omega
theorem Rd.of_sl {α:Type} {enc:α→List Value} {m:Nat} (hm:∀ x,(enc x).length=m) (hm0:0 < m) {w:World} {ad:Option Addr} {n cap:Nat} {l:List α} (h:Sl w (.slice ad n cap) m n (l.flatMap enc)):Rd enc m w ad l:=by
 intro j x hj
 obtain ⟨ad',cap',he,h1,h2,h3⟩:=h
 obtain ⟨rfl,_,rfl⟩:=Value.slice.inj he
 have hl:=flat_length enc m hm l
 have hjl:=(List.getElem?_eq_some_iff.1 hj).1
 rcases h3 with h3 | ⟨b,off,rfl,h3⟩
 ·exfalso
  rw [hl,h3,Nat.zero_mul] at h2
  rcases Nat.mul_eq_zero.1 h2 with h | h <;> omega
 ·refine ⟨b,off,rfl,fun i u hu => ?_⟩
  rw [Nat.add_assoc]
  exact h3 _ _ (flat_get enc m hm l j x i u hj hu)
theorem Rd.kept {α:Type} {enc:α→List Value} {m:Nat} {w w':World} {ad:Option Addr} {l:List α} (h:Rd enc m w ad l) (hk:∀ k,k < w.heap.size→w'.heap[k]? = w.heap[k]?):Rd enc m w' ad l:=by
 intro j x hj
 obtain ⟨b,off,rfl,h3⟩:=h j x hj
 refine ⟨b,off,rfl,fun i u hu => ?_⟩
 have e:=h3 i u hu
 have hb:=World.block_lt_of_cell? w _ e
 rw [World.cell?_of_block (w:=w) (hk b hb)]
 exact e
theorem Rd.below {α:Type} {enc:α→List Value} {m:Nat} {w w':World} {ad:Option Addr} {l:List α} (h:Rd enc m w ad l) (hb:Below w.heap.size w w'):Rd enc m w' ad l:=h.kept hb.block
theorem Rd.drewN {α:Type} {enc:α→List Value} {m:Nat} {w:World} {ad:Option Addr} {l:List α} (h:Rd enc m w ad l) (n:Nat):Rd enc m (w.drewN n) ad l:=h.kept fun _ _ => rfl
theorem toList_bl (s:ByteArray):s.toList=bl s:=Lib.toList_data s
theorem toList_beq (a b:ByteArray):(a.toList == b.toList)=decide (a=b):=by
 rw [toList_bl,toList_bl]
 by_cases h:a=b
 ·subst h;simp
 ·have : ¬ bl a=bl b:=fun hh => h (bl_inj hh)
  simp [h,this]
noncomputable def eqB (p:Prop):Bool:=@decide p (Classical.propDecidable p)
theorem eqB_true {p:Prop} (h:p):eqB p=true:=by unfold eqB;exact @decide_eq_true p (Classical.propDecidable p) h
theorem eqB_false {p:Prop} (h : ¬ p):eqB p=false:=by unfold eqB;exact @decide_eq_false p (Classical.propDecidable p) h
theorem take_snoc_get {α:Type} {l:List α} {k:Nat} {x:α} (h:l[k]? = some x):l.take (k+1)=l.take k ++ [x]:=by rw [List.take_add_one,h];rfl
theorem take_eq_succ {α:Type} {l m:List α} {k:Nat} {x:α} (h1:l[k]? = some x) (h2:m[k]? = some x) (h:l.take k=m.take k):l.take (k+1)=m.take (k+1):=by
 rw [take_snoc_get h1,take_snoc_get h2,h]
theorem ne_of_get {α:Type} {l m:List α} {k:Nat} {x y:α} (h1:l[k]? = some x) (h2:m[k]? = some y) (h:x ≠ y):l ≠ m:=by
 rintro rfl;rw [h1] at h2;exact h (Option.some.inj h2)
theorem toList_eq_iff (a b:ByteArray):a.toList=b.toList ↔ a=b:=by
 rw [toList_bl,toList_bl];exact ⟨bl_inj,fun h => by rw [h]⟩
end Go.Proofs.YthdeijdimfjceaaGreatDoor

namespace Go.Proofs.YthdeijdimfjceaaGreatDoor
open Go.RowKit Go.ChangeShapes Go.WideShapes Go.Deep
theorem bulk_one {H:Type} (d:DataW H):1≤Rows.uptoBulk d:=by
 cases d with
 | lit l => cases l <;> simp [Rows.uptoBulk]
 | _ => simp [Rows.uptoBulk]
theorem bulk_part {H:Type} {d:DataW H} {l:List (DataW H)} (h:d ∈ l):Rows.uptoBulk d≤Rows.uptoBulkAll l:=by
 induction l with
 | nil => cases h
 | cons x r ih =>
  simp only [Rows.uptoBulkAll]
  rcases List.mem_cons.1 h with e | e
  ·subst e;omega
  ·have:=ih e;omega
theorem bulk_length {H:Type} (l:List (DataW H)):l.length≤Rows.uptoBulkAll l:=by
 induction l with
 | nil => simp [Rows.uptoBulkAll]
 | cons x r ih => have:=bulk_one x;simp only [Rows.uptoBulkAll,List.length_cons];omega
theorem bulk_agg {H:Type} {d:DataW H} {l:List (DataW H)} (h:d ∈ l):Rows.uptoBulk d≤Rows.uptoBulk (.agg l):=by
 have:=bulk_part h
 simp only [Rows.uptoBulk];omega
theorem bulk_text {H:Type} (s:ByteArray):s.size≤Rows.uptoBulk (DataW.lit (H:=H) (.string s.data.toList)):=by
 simp only [Rows.uptoBulk,Array.length_toList]
 show s.data.size≤_
 omega
theorem list_of {α:Type} {Q:Nat→α→Prop}:∀ n:Nat,(∀ i,i < n→∃ x,Q i x)→∃ l:List α,l.length=n∧∀ i x,l[i]? = some x→Q i x
 | 0,_ => ⟨[],rfl,by simp⟩
 | n+1,h => by
  obtain ⟨l,hl,hq⟩:=list_of n (fun i hi => h i (by omega))
  obtain ⟨x,hx⟩:=h n (by omega)
  refine ⟨l ++ [x],by simp [hl],fun i y hy => ?_⟩
  by_cases hi:i < l.length
  ·rw [List.getElem?_append_left hi] at hy
   exact hq i y hy
  ·have hi2:=(List.getElem?_eq_some_iff.1 hy).1
   simp at hi2
   obtain rfl:i=l.length:=by omega
   simp at hy
   rw [hl,← hy];exact hx
theorem flat_inv {α:Type} (enc:α→List Value) (m:Nat) (hm:∀ x,(enc x).length=m) (hm0:0 < m):∀ (l:List α) (j:Nat) (u:Value),(l.flatMap enc)[j]? = some u→∃ i k x,j=i * m+k∧k < m∧l[i]? = some x∧(enc x)[k]? = some u
 | [],j,u,h => by simp at h
 | y :: l,j,u,h => by
  rw [List.flatMap_cons] at h
  by_cases hj:j < m
  ·rw [List.getElem?_append_left (by rw [hm];exact hj)] at h
   exact ⟨0,j,y,by simp,hj,rfl,h⟩
  ·rw [List.getElem?_append_right (by rw [hm];omega),hm] at h
   obtain ⟨i,k,x,h1,h2,h3,h4⟩:=flat_inv enc m hm hm0 l (j - m) u h
   exact ⟨i+1,k,x,by rw [Nat.add_mul,Nat.one_mul];omega,h2,by simpa using h3,h4⟩
section
variable {H:Type} {enc:TypeId × Value→H} {P:Program} {w:World} {sp:Nat→Bool} {held:Bool}
theorem open_list {α:Type} (en:α→List Value) (m:Nat) (hm:∀ x,(en x).length=m) (hm0:0 < m) (good:α→DataW H→Prop) {t e:TypeId} {fuel:Nat} {v:Value} {y:DataW H × List MemPlace}
  (ht:P.underlying t=some (.slice e)) (hc:P.cellsOf e=m)
  (dec:∀ (n:Nat) (cs:List Value) (z:DataW H × List MemPlace),cs.length=m→DataW.trod enc P w 0 sp held n e cs=some z→∃ x,cs=en x∧good x z.1)
  (h:DataW.trod enc P w 0 sp held fuel t [v]=some y) :
  ∃ (ad:Option Addr) (cap:Nat) (l:List α),v = .slice ad l.length cap∧(ad=none→cap=0)∧Sl w (.slice ad l.length cap) m l.length (l.flatMap en) ∧
   l.length≤Rows.uptoBulk y.1∧∀ x ∈ l,∃ d,good x d∧Rows.uptoBulk d≤Rows.uptoBulk y.1:=by
 rcases open_slice ht h with ⟨h0,hy⟩ | ⟨a,len,cap,mm,n,D,Pl,hcs,hb,hl,hmx,hmm,hx,hi⟩
 ·simp at h0
  exact ⟨none,0,[],h0,fun _ => rfl,Sl.empty w none 0 m,Nat.zero_le _,by simp⟩
 ·have hlm:len≤mm:=by rw [hmm];split <;> omega
  obtain ⟨l,hll,hq⟩:=list_of (Q:=fun i x => w.cells? 0 (a.add (i * m)) m=some (en x)∧good x (D i)) len (fun i hil => by
   obtain ⟨cs',h1,h2⟩:=hi i (by omega)
   rw [hc] at h1
   obtain ⟨x,hx,hg⟩:=dec n cs' _ (World.cells?_some h1).2.1 h2
   exact ⟨x,by rw [← hx];exact h1,hg⟩)
  have hspot:0 < len→a.spot=none:=fun h0 => by
   obtain ⟨x,hx⟩:∃ x,l[0]? = some x:=⟨_,List.getElem?_eq_getElem (by omega)⟩
   have h1:=(World.cells?_some (hq 0 x hx).1).2.2 0 hm0
   rw [Nat.zero_mul] at h1
   have h2:w.cell? a=(en x)[0]?:=h1
   rw [List.getElem?_eq_getElem (by rw [hm];exact hm0)] at h2
   simp only [World.cell?] at h2
   cases hsp:a.spot with
   | none => rfl
   | some k => rw [hsp] at h2;simp at h2;split at h2 <;> simp at h2
  simp at hcs
  have hbulk:∀ i,i < len→Rows.uptoBulk (D i)≤Rows.uptoBulk y.1:=fun i hil => by
   have:=bulk_part (H:=H) (d:=D i) (l:=(List.range len).map D) (List.mem_map.2 ⟨i,by simpa using hil,rfl⟩)
   rw [hx]
   simp only [Rows.uptoBulk]
   omega
  refine ⟨some a,cap,l,by rw [hll];exact hcs,fun h => (by cases h),?_,?_,?_⟩
  ·refine ⟨some a,cap,rfl,by omega,flat_length en m hm l,?_⟩
   by_cases h0:l.length=0
   ·exact .inl h0
   ·right
    have hs:=hspot (by omega)
    obtain ⟨b,off,sp⟩:=a
    simp at hs
    subst hs
    refine ⟨b,off,rfl,fun j u hj => ?_⟩
    obtain ⟨i,k,x,rfl,hk,h3,h4⟩:=flat_inv en m hm hm0 l j u hj
    have h5:=(World.cells?_some (hq i x h3).1).2.2 k hk
    rw [h4] at h5
    rw [← h5]
    congr 1
    simp only [Addr.add]
    split <;> split <;> simp_all <;> omega
  ·have h1:=bulk_length ((List.range len).map D)
   rw [List.length_map,List.length_range] at h1
   rw [hx]
   simp only [Rows.uptoBulk]
   omega
  ·intro x hxl
   obtain ⟨i,hix⟩:=List.getElem?_of_mem hxl
   have hil:=(List.getElem?_eq_some_iff.1 hix).1
   exact ⟨D i,(hq i x hix).2,hbulk i (by omega)⟩
theorem arr2 {α:Type} {l:List α} (h:l.length=2):∃ a b,l=[a,b]:=by
 match l,h with
 | [a,b],_ => exact ⟨a,b,rfl⟩
theorem arr3 {α:Type} {l:List α} (h:l.length=3):∃ a b c,l=[a,b,c]:=by
 match l,h with
 | [a,b,c],_ => exact ⟨a,b,c,rfl⟩
theorem arr4 {α:Type} {l:List α} (h:l.length=4):∃ a b c d,l=[a,b,c,d]:=by
 match l,h with
 | [a,b,c,d],_ => exact ⟨a,b,c,d,rfl⟩
end
end Go.Proofs.YthdeijdimfjceaaGreatDoor

namespace Go.Proofs.YthdeijdimfjceaaGreatDoor
open Go.RowKit
theorem cells_string:Tryz.prog.cellsOf 9=1:=by kernel_rfl
theorem cells_int:Tryz.prog.cellsOf 3=1:=by kernel_rfl
theorem cells_bool:Tryz.prog.cellsOf 4=1:=by kernel_rfl
end Go.Proofs.YthdeijdimfjceaaGreatDoor

namespace Go.Proofs.YthdeijdimfjceaaGreatDoor
open Go.RowKit
theorem cells_rat:Tryz.prog.cellsOf 22=1:=by kernel_rfl
end Go.Proofs.YthdeijdimfjceaaGreatDoor

namespace Go.Proofs.YthdeijdimfjceaaGreatDoor
open Go.RowKit
inductive Ex where
 | mk (k:Nat) (ra nm:ByteArray) (d:Int) (sub:List Ex)
def Ex.k:Ex→Nat | .mk k _ _ _ _ => k
def Ex.ra:Ex→ByteArray | .mk _ r _ _ _ => r
def Ex.nm:Ex→ByteArray | .mk _ _ n _ _ => n
def Ex.d:Ex→Int | .mk _ _ _ d _ => d
def Ex.sub:Ex→List Ex | .mk _ _ _ _ l => l
mutual
def Ex.bulk:Ex→Nat
 | .mk _ r n _ l => r.size+n.size+6+Ex.bulks l
def Ex.bulks:List Ex→Nat
 | [] => 0
 | x :: l => Ex.bulk x+Ex.bulks l
end
theorem Ex.bulk_eq (x:Ex):x.bulk=x.ra.size+x.nm.size+6+Ex.bulks x.sub:=by cases x;rw [Ex.bulk];rfl
theorem Ex.bulks_mem {x:Ex} {l:List Ex} (h:x ∈ l):x.bulk≤Ex.bulks l:=by
 induction l with
 | nil => cases h
 | cons y l ih =>
  rw [Ex.bulks]
  rcases List.mem_cons.1 h with rfl | h
  ·omega
  ·have:=ih h;omega
theorem Ex.bulks_len (l:List Ex):l.length≤Ex.bulks l:=by
 induction l with
 | nil => simp
 | cons y l ih => rw [Ex.bulks,Ex.bulk_eq,List.length_cons];omega
theorem Ex.sub_lt (x:Ex):Ex.bulks x.sub < x.bulk:=by rw [Ex.bulk_eq];omega
theorem Ex.mem_lt {x y:Ex} (h:y ∈ x.sub):y.bulk < x.bulk:=Nat.lt_of_le_of_lt (Ex.bulks_mem h) x.sub_lt
def Ex.cells (x:Ex) (s:Value):List Value:=[.int .u8 x.k,.string x.ra,.string x.nm,.int .i64 x.d,s]
def Ex.val (x:Ex) (s:Value):Value:=.agg #[.int .u8 x.k,.string x.ra,.string x.nm,.int .i64 x.d,s]
inductive RdE (w:World):List Ex→Value→Prop
 | mk (ad:Option Addr) (cap:Nat) (xs:List Ex) (ss:Nat→Value)
   (hc:∀ j x,xs[j]? = some x→x.k < 256∧∃ b off,ad=some ⟨b,off,none⟩∧w.cell? ⟨b,off+j * 5,none⟩=some (.int .u8 x.k)∧w.cell? ⟨b,off+j * 5+1,none⟩=some (.string x.ra)∧w.cell? ⟨b,off+j * 5+2,none⟩=some (.string x.nm)∧w.cell? ⟨b,off+j * 5+3,none⟩=some (.int .i64 x.d)∧w.cell? ⟨b,off+j * 5+4,none⟩=some (ss j))
   (hs:∀ j x,xs[j]? = some x→RdE w x.sub (ss j)):RdE w xs (.slice ad xs.length cap)
theorem RdE.frame {w w':World} {xs:List Ex} {v:Value} (h:RdE w xs v) (hb:Below w.heap.size w w'):RdE w' xs v:=by
 induction h with
 | mk ad cap xs ss hc hs ih =>
  refine .mk ad cap xs ss (fun j x hx => ?_) ih
  obtain ⟨h8,b,off,e,c0,c1,c2,c3,c4⟩:=hc j x hx
  have hlt:=World.block_lt_of_cell? w _ c0
  have k:∀ o u,w.cell? ⟨b,o,none⟩=some u→w'.cell? ⟨b,o,none⟩=some u:=fun o u hu => by
   rw [hb.cell (p:=⟨b,o,none⟩) hlt];exact hu
  exact ⟨h8,b,off,e,k _ _ c0,k _ _ c1,k _ _ c2,k _ _ c3,k _ _ c4⟩
theorem RdE.len {w:World} {xs:List Ex} {v:Value} (h:RdE w xs v):∃ ad cap,v = .slice ad xs.length cap:=by
 cases h;exact ⟨_,_,rfl⟩
theorem RdE.at {w:World} {xs:List Ex} {ad:Option Addr} {n cap:Nat} (h:RdE w xs (.slice ad n cap)) {j:Nat} {x:Ex} (hx:xs[j]? = some x) :
  ∃ b off s,ad=some ⟨b,off,none⟩∧w.cell? ⟨b,off+j * 5,none⟩=some (.int .u8 x.k)∧w.cell? ⟨b,off+j * 5+1,none⟩=some (.string x.ra)∧w.cell? ⟨b,off+j * 5+2,none⟩=some (.string x.nm)∧w.cell? ⟨b,off+j * 5+3,none⟩=some (.int .i64 x.d)∧w.cell? ⟨b,off+j * 5+4,none⟩=some s∧RdE w x.sub s∧x.k < 256:=by
 cases h with
 | mk _ _ _ ss hc hs =>
  obtain ⟨h8,b,off,e,c0,c1,c2,c3,c4⟩:=hc j x hx
  exact ⟨b,off,ss j,e,c0,c1,c2,c3,c4,hs j x hx,h8⟩
end Go.Proofs.YthdeijdimfjceaaGreatDoor

namespace Go.Proofs.YthdeijdimfjceaaGreatDoor
open Go.RowKit
inductive Con where
 | mk (k:Nat) (fr rc nm:ByteArray) (ex:Ex) (d:Int) (ds:List Int) (sub:List Con)
def Con.k:Con→Nat | .mk k _ _ _ _ _ _ _ => k
def Con.fr:Con→ByteArray | .mk _ x _ _ _ _ _ _ => x
def Con.rc:Con→ByteArray | .mk _ _ x _ _ _ _ _ => x
def Con.nm:Con→ByteArray | .mk _ _ _ x _ _ _ _ => x
def Con.ex:Con→Ex | .mk _ _ _ _ x _ _ _ => x
def Con.d:Con→Int | .mk _ _ _ _ _ x _ _ => x
def Con.ds:Con→List Int | .mk _ _ _ _ _ _ x _ => x
def Con.sub:Con→List Con | .mk _ _ _ _ _ _ _ x => x
mutual
def Con.bulk:Con→Nat
 | .mk _ f t n x _ ds l => f.size+t.size+n.size+Ex.bulk x+ds.length+8+Con.bulks l
def Con.bulks:List Con→Nat
 | [] => 0
 | x :: l => Con.bulk x+Con.bulks l
end
theorem Con.bulk_eq (x:Con):x.bulk=x.fr.size+x.rc.size+x.nm.size+x.ex.bulk+x.ds.length+8+Con.bulks x.sub:=by cases x;rw [Con.bulk];rfl
theorem Con.bulks_mem {x:Con} {l:List Con} (h:x ∈ l):x.bulk≤Con.bulks l:=by
 induction l with
 | nil => cases h
 | cons y l ih =>
  rw [Con.bulks]
  rcases List.mem_cons.1 h with rfl | h
  ·omega
  ·have:=ih h;omega
theorem Con.bulks_len (l:List Con):l.length≤Con.bulks l:=by
 induction l with
 | nil => simp
 | cons y l ih => rw [Con.bulks,Con.bulk_eq,List.length_cons];omega
theorem Con.sub_lt (x:Con):Con.bulks x.sub < x.bulk:=by rw [Con.bulk_eq];omega
theorem Con.mem_lt {x y:Con} (h:y ∈ x.sub):y.bulk < x.bulk:=Nat.lt_of_le_of_lt (Con.bulks_mem h) x.sub_lt
def RdI (w:World) (l:List Int) (v:Value):Prop:=∃ ad cap,v = .slice ad l.length cap∧(l.length≤cap∧(ad=none→cap=0))∧∀ j d,l[j]? = some d→∃ b off,ad=some ⟨b,off,none⟩∧w.cell? ⟨b,off+j,none⟩=some (.int .i64 d)
theorem RdI.frame {w w':World} {l:List Int} {v:Value} (h:RdI w l v) (hb:Below w.heap.size w w'):RdI w' l v:=by
 obtain ⟨ad,cap,rfl,h1,h2⟩:=h
 refine ⟨ad,cap,rfl,h1,fun j d hj => ?_⟩
 obtain ⟨b,off,e,hc⟩:=h2 j d hj
 exact ⟨b,off,e,by rw [hb.cell (p:=⟨b,off+j,none⟩) (World.block_lt_of_cell? w _ hc)];exact hc⟩
def Con.cells (x:Con) (es dd ss:Value):List Value:=[.int .u8 x.k,.string x.fr,.string x.rc,.string x.nm,.int .u8 x.ex.k,.string x.ex.ra,.string x.ex.nm,.int .i64 x.ex.d,es,.int .i64 x.d,dd,ss]
inductive RdC (w:World):List Con→Value→Prop
 | mk (ad:Option Addr) (cap:Nat) (xs:List Con) (es dd ss:Nat→Value)
   (hc:∀ j x,xs[j]? = some x→(x.k < 256∧x.ex.k < 256)∧∃ b off,ad=some ⟨b,off,none⟩∧∀ i u,(x.cells (es j) (dd j) (ss j))[i]? = some u→w.cell? ⟨b,off+j * 12+i,none⟩=some u)
   (he:∀ j x,xs[j]? = some x→RdE w x.ex.sub (es j)) (hd:∀ j x,xs[j]? = some x→RdI w x.ds (dd j))
   (hs:∀ j x,xs[j]? = some x→RdC w x.sub (ss j)):RdC w xs (.slice ad xs.length cap)
theorem RdC.frame {w w':World} {xs:List Con} {v:Value} (h:RdC w xs v) (hb:Below w.heap.size w w'):RdC w' xs v:=by
 induction h with
 | mk ad cap xs es dd ss hc he hd hs ih =>
  refine .mk ad cap xs es dd ss (fun j x hx => ?_) (fun j x hx => (he j x hx).frame hb) (fun j x hx => (hd j x hx).frame hb) ih
  obtain ⟨h8,b,off,e,h2⟩:=hc j x hx
  refine ⟨h8,b,off,e,fun i u hu => ?_⟩
  have h3:=h2 i u hu
  rw [hb.cell (p:=⟨b,off+j * 12+i,none⟩) (World.block_lt_of_cell? w _ h3)]
  exact h3
theorem RdC.at {w:World} {xs:List Con} {ad:Option Addr} {n cap:Nat} (h:RdC w xs (.slice ad n cap)) {j:Nat} {x:Con} (hx:xs[j]? = some x) :
  ∃ b off es dd ss,ad=some ⟨b,off,none⟩∧(∀ i u,(x.cells es dd ss)[i]? = some u→w.cell? ⟨b,off+j * 12+i,none⟩=some u)∧RdE w x.ex.sub es∧RdI w x.ds dd∧RdC w x.sub ss∧x.k < 256∧x.ex.k < 256:=by
 cases h with
 | mk _ _ _ es dd ss hc he hd hs =>
  obtain ⟨h8,b,off,e,h2⟩:=hc j x hx
  exact ⟨b,off,es j,dd j,ss j,e,h2,he j x hx,hd j x hx,hs j x hx,h8⟩
def Con.val (x:Con) (es dd ss:Value):Value:=.agg #[.int .u8 x.k,.string x.fr,.string x.rc,.string x.nm,.int .u8 x.ex.k,.string x.ex.ra,.string x.ex.nm,.int .i64 x.ex.d,es,.int .i64 x.d,dd,ss]
def RdN (w:World) (x:Con) (es dd ss:Value):Prop:=RdE w x.ex.sub es∧RdI w x.ds dd∧RdC w x.sub ss∧x.k < 256∧x.ex.k < 256
theorem RdN.frame {w w':World} {x:Con} {es dd ss:Value} (h:RdN w x es dd ss) (hb:Below w.heap.size w w'):RdN w' x es dd ss :=
 ⟨h.1.frame hb,h.2.1.frame hb,h.2.2.1.frame hb,h.2.2.2⟩
theorem RdC.len {w:World} {xs:List Con} {v:Value} (h:RdC w xs v):∃ ad cap,v = .slice ad xs.length cap:=by
 cases h;exact ⟨_,_,rfl⟩
theorem RdI.len {w:World} {xs:List Int} {v:Value} (h:RdI w xs v):∃ ad cap,v = .slice ad xs.length cap:=by
 obtain ⟨ad,cap,rfl,_⟩:=h;exact ⟨_,_,rfl⟩
theorem RdC.cells {w:World} {xs:List Con} {ad:Option Addr} {n cap:Nat} (h:RdC w xs (.slice ad n cap)) {j:Nat} {x:Con} (hx:xs[j]? = some x) :
  ∃ b off es dd ss,ad=some ⟨b,off,none⟩∧(w.cell? ⟨b,off+j * 12,none⟩=some (.int .u8 x.k)∧w.cell? ⟨b,off+j * 12+1,none⟩=some (.string x.fr)∧w.cell? ⟨b,off+j * 12+2,none⟩=some (.string x.rc)∧w.cell? ⟨b,off+j * 12+3,none⟩=some (.string x.nm)
   ∧ w.cell? ⟨b,off+j * 12+4,none⟩=some (.int .u8 x.ex.k)∧w.cell? ⟨b,off+j * 12+5,none⟩=some (.string x.ex.ra)∧w.cell? ⟨b,off+j * 12+6,none⟩=some (.string x.ex.nm)∧w.cell? ⟨b,off+j * 12+7,none⟩=some (.int .i64 x.ex.d)∧w.cell? ⟨b,off+j * 12+8,none⟩=some es
   ∧ w.cell? ⟨b,off+j * 12+9,none⟩=some (.int .i64 x.d)∧w.cell? ⟨b,off+j * 12+10,none⟩=some dd∧w.cell? ⟨b,off+j * 12+11,none⟩=some ss)∧RdN w x es dd ss:=by
 obtain ⟨b,off,es,dd,ss,e,h2,he,hd,hs,h8⟩:=h.at hx
 exact ⟨b,off,es,dd,ss,e,⟨h2 0 _ rfl,h2 1 _ rfl,h2 2 _ rfl,h2 3 _ rfl,h2 4 _ rfl,h2 5 _ rfl,h2 6 _ rfl,h2 7 _ rfl,h2 8 _ rfl,h2 9 _ rfl,h2 10 _ rfl,h2 11 _ rfl⟩,he,hd,hs,h8⟩
end Go.Proofs.YthdeijdimfjceaaGreatDoor

namespace Go.Proofs.YthdeijdimfjceaaGreatDoor
def isDig (c:UInt8):Bool:=decide (48≤c.toNat∧c.toNat≤57)
def body (l:List UInt8):List UInt8:=if l.head? = some 45 then l.tail else l
def isNeg (l:List UInt8):Bool:=l.head? == some 45
def canonD (d:List UInt8) (neg:Bool):Bool:=!d.isEmpty && d.all isDig && !(d.head? == some 48 && (decide (1 < d.length) || neg))
def canonI (l:List UInt8):Bool:=canonD (body l) (isNeg l)
def intErr (l:List UInt8):Int:=if canonI l then (if 1000 < (body l).length then 14 else 0) else 12
theorem intErr_cons_neg (d:List UInt8):intErr (45 :: d)=if canonD d true then (if 1000 < d.length then 14 else 0) else 12:=by
 simp [intErr,canonI,body,isNeg]
theorem intErr_pos {d:List UInt8} (h:d.head? ≠ some 45):intErr d=if canonD d false then (if 1000 < d.length then 14 else 0) else 12:=by
 have e:(d.head? == some 45)=false:=by simpa using h
 simp [intErr,canonI,body,isNeg,h,e]
end Go.Proofs.YthdeijdimfjceaaGreatDoor

namespace Go.Proofs.YthdeijdimfjceaaGreatDoor
open Go.RowKit
def isLet (c:UInt8):Bool:=(decide (97≤c.toNat) && decide (c.toNat≤122)) || (decide (65≤c.toNat) && decide (c.toNat≤90))
def isOth (c:UInt8):Bool:=isDig c || (decide (c.toNat=95) || decide (c.toNat=45))
def isNmc (c:UInt8):Bool:=isLet c || isOth c
def isNm (l:List UInt8):Bool:=decide (1≤l.length) && (decide (l.length≤40) && (l.head?.any isLet && l.all isNmc))
def isDay (d:Int):Bool:=decide (0≤d) && decide (d≤99999)
set_option maxRecDepth 100000 in
theorem letter_any (c:UInt8) (w:World):Calls Tryz.prog 66 #[.int .u8 c.toNat] w fun e w' => e = .returned (.bool (isLet c))∧w=w':=by
 have hc:c.toNat < 256:=c.toNat_lt
 go_enter Tryz.func66,Tryz.ntmps66
 go_wp2
 all_goals
  go_ret
  refine ⟨ret_bool' ?_,rfl⟩
  rw [Bool.eq_iff_iff];simp [isLet];omega
theorem isNm_short {l:List UInt8} (h:l.length=0):isNm l=false:=by simp [isNm,h]
theorem isNm_long {l:List UInt8} (h:40 < l.length):isNm l=false:=by
 have:decide (l.length≤40)=false:=by simpa using h
 simp [isNm,this]
theorem isNm_eq (s:ByteArray) (h1:0 < s.size) (h2:s.size≤40):isNm (bl s)=(isLet s[0] && (bl s).all isNmc):=by
 have e:=bl_cons s h1
 have a1:decide (1≤(bl s).length)=true:=by rw [bl_length,decide_eq_true_eq];omega
 have a2:decide ((bl s).length≤40)=true:=by rw [bl_length,decide_eq_true_eq];omega
 have a3:(bl s).head?.any isLet=isLet s[0]:=by rw [e];rfl
 rw [isNm,a1,a2,a3];rfl
theorem all_false_of_take {f:UInt8→Bool} {l:List UInt8} {k:Nat} (h:(l.take k).all f=false):l.all f=false:=by
 rw [Bool.eq_false_iff] at h ⊢
 exact fun hh => h (all_take_of_all f l k hh)
set_option maxRecDepth 100000 in
theorem name_no (s:ByteArray) (w:World) (h:s.size=0∨40 < s.size) (hl:s.size≤9223372036854775807) :
  Calls Tryz.prog 35 #[.string s] w fun e w' => e = .returned (.bool (isNm (bl s)))∧w=w':=by
 have HR:Hid (isNm (bl s)=false):=by
  show _=_
  rcases h with h | h
  ·exact isNm_short (by rw [bl_length];exact h)
  ·exact isNm_long (by rw [bl_length];exact h)
 rcases h with h | h
 ·have d1:decide ((s.size:Int) < 1)=true:=by simp [h]
  clear h
  go_enter Tryz.func35,Tryz.ntmps35
  go_wp2
  go_ret
  exact ⟨ret_bool' HR.out.symm,rfl⟩
 ·have d1:decide ((s.size:Int) < 1)=false:=by rw [decide_eq_false_iff_not];omega
  have d2:decide ((40:Int) < (s.size:Int))=true:=by rw [decide_eq_true_eq];omega
  clear hl
  go_enter Tryz.func35,Tryz.ntmps35
  go_wp2
  go_ret
  exact ⟨ret_bool' HR.out.symm,rfl⟩
set_option maxRecDepth 100000 in
theorem name_head (s:ByteArray) (w:World) (h1:0 < s.size) (h2:s.size≤40) (h3:isLet s[0]=false) :
  Calls Tryz.prog 35 #[.string s] w fun e w' => e = .returned (.bool (isNm (bl s)))∧w=w':=by
 have HR:Hid (isNm (bl s)=false):=by show _=_;rw [isNm_eq s h1 h2,h3];rfl
 have d1:decide ((s.size:Int) < 1)=false:=by rw [decide_eq_false_iff_not];omega
 have d2:decide ((40:Int) < (s.size:Int))=false:=by rw [decide_eq_false_iff_not];omega
 go_enter Tryz.func35,Tryz.ntmps35
 go_wp2_with (go_at_call 66;refine (letter_any _ _).mono ?_;rintro e w' ⟨rfl,rfl⟩)
 go_ret
 exact ⟨ret_bool' HR.out.symm,rfl⟩
set_option maxHeartbeats 1000000 in
set_option maxRecDepth 100000 in
theorem name_loop (s:ByteArray) (w:World) (h1:0 < s.size) (h2:s.size≤40) (h3:isLet s[0]=true) :
  Calls Tryz.prog 35 #[.string s] w fun e w' => e = .returned (.bool (isNm (bl s)))∧w=w':=by
 have HR:Hid (isNm (bl s)=(bl s).all isNmc):=by show _=_;rw [isNm_eq s h1 h2,h3];rfl
 have d1:decide ((s.size:Int) < 1)=false:=by rw [decide_eq_false_iff_not];omega
 have d2:decide ((40:Int) < (s.size:Int))=false:=by rw [decide_eq_false_iff_not];omega
 go_enter Tryz.func35,Tryz.ntmps35
 go_wp2_with (go_at_call 66;refine (letter_any _ _).mono ?_;rintro e w' ⟨rfl,rfl⟩)
 go_loop [21] (fun i => ∃ k:Nat,k≤s.size∧i = .int .i64 k∧Hid (((bl s).take k).all isNmc=true)) (fun i => s.size - (intOf i).toNat)
 case atStart => exact ⟨0,Nat.zero_le _,rfl,Lib.hid (by rfl)⟩
 case round =>
  obtain ⟨k,hk,rfl,Hall⟩:=hrel
  clear h3 d1 d2
  by_cases hlt:k < s.size
  ·have Hs:=Lib.hid (take_succ_all isNmc s k hlt)
   obtain ⟨c,hc⟩:∃ c,s[k]=c:=⟨_,rfl⟩
   rw [hc] at Hs
   have hcb:c.toNat < 256:=c.toNat_lt
   cases hl:isLet c with
   | true =>
    have Hok:Hid (((bl s).take (k+1)).all isNmc=true):=by show _=_;rw [Hs.out,Hall.out,isNmc,hl];rfl
    go_wp2_with (go_at_call 66;refine (letter_any _ _).mono ?_;rintro e w' ⟨rfl,rfl⟩)
    go_round
    case rel => exact ⟨k+1,by omega,by go_num,Hok⟩
    case measure => simp [intOf];omega
   | false =>
    cases ho:isOth c with
    | true =>
     have Hok:Hid (((bl s).take (k+1)).all isNmc=true):=by show _=_;rw [Hs.out,Hall.out,isNmc,ho];simp
     have ho':=ho
     simp only [isOth,isDig,Bool.or_eq_true,decide_eq_true_eq] at ho'
     clear ho
     rcases ho' with h | h | h
     ·have t1:decide (((c.toNat:Nat):Int) < 48)=false:=by rw [decide_eq_false_iff_not];omega
      have t2:decide ((57:Int) < ((c.toNat:Nat):Int))=false:=by rw [decide_eq_false_iff_not];omega
      clear h
      go_wp2_with (go_at_call 66;refine (letter_any _ _).mono ?_;rintro e w' ⟨rfl,rfl⟩)
      go_round
      case rel => exact ⟨k+1,by omega,by go_num,Hok⟩
      case measure => simp [intOf];omega
     ·have t1:decide (((c.toNat:Nat):Int) < 48)=false:=by rw [decide_eq_false_iff_not];omega
      have t2:decide ((57:Int) < ((c.toNat:Nat):Int))=true:=by rw [decide_eq_true_eq];omega
      have t3:(((c.toNat:Nat):Int) != 95)=false:=by rw [bne_eq_false_iff_eq];omega
      have t5:(((c.toNat:Nat):Int) == 95)=true:=by rw [beq_iff_eq];omega
      clear h
      go_wp2_with (go_at_call 66;refine (letter_any _ _).mono ?_;rintro e w' ⟨rfl,rfl⟩)
      go_round
      case rel => exact ⟨k+1,by omega,by go_num,Hok⟩
      case measure => simp [intOf];omega
     ·have t1:decide (((c.toNat:Nat):Int) < 48)=true:=by rw [decide_eq_true_eq];omega
      have t3:(((c.toNat:Nat):Int) != 95)=true:=by rw [bne_iff_ne];omega
      have t5:(((c.toNat:Nat):Int) == 95)=false:=by rw [beq_eq_false_iff_ne];omega
      have t4:(((c.toNat:Nat):Int) != 45)=false:=by rw [bne_eq_false_iff_eq];omega
      have t6:(((c.toNat:Nat):Int) == 45)=true:=by rw [beq_iff_eq];omega
      clear h
      go_wp2_with (go_at_call 66;refine (letter_any _ _).mono ?_;rintro e w' ⟨rfl,rfl⟩)
      go_round
      case rel => exact ⟨k+1,by omega,by go_num,Hok⟩
      case measure => simp [intOf];omega
    | false =>
     have Hno:Hid (isNm (bl s)=false):=by
      show _=_
      rw [HR.out]
      exact all_false_of_take (k:=k+1) (by rw [Hs.out,isNmc,hl,ho];simp)
     have ho':=ho
     simp only [isOth,isDig,Bool.or_eq_false_iff,decide_eq_false_iff_not] at ho'
     obtain ⟨h0,h95,h45⟩:=ho'
     have t3:(((c.toNat:Nat):Int) != 95)=true:=by rw [bne_iff_ne];omega
     have t4:(((c.toNat:Nat):Int) != 45)=true:=by rw [bne_iff_ne];omega
     have t5:(((c.toNat:Nat):Int) == 95)=false:=by rw [beq_eq_false_iff_ne];omega
     have t6:(((c.toNat:Nat):Int) == 45)=false:=by rw [beq_eq_false_iff_ne];omega
     clear ho h95 h45
     by_cases h48:c.toNat < 48
     ·have t1:decide (((c.toNat:Nat):Int) < 48)=true:=by rw [decide_eq_true_eq];omega
      clear h0 h48
      go_wp2_with (go_at_call 66;refine (letter_any _ _).mono ?_;rintro e w' ⟨rfl,rfl⟩)
      go_ret
      exact ⟨ret_bool' Hno.out.symm,rfl⟩
     ·have t1:decide (((c.toNat:Nat):Int) < 48)=false:=by rw [decide_eq_false_iff_not];omega
      have t2:decide ((57:Int) < ((c.toNat:Nat):Int))=true:=by rw [decide_eq_true_eq];omega
      clear h0 h48
      go_wp2_with (go_at_call 66;refine (letter_any _ _).mono ?_;rintro e w' ⟨rfl,rfl⟩)
      go_ret
      exact ⟨ret_bool' Hno.out.symm,rfl⟩
  ·obtain rfl:k=s.size:=by omega
   have HY:Hid (isNm (bl s)=true):=by
    show _=_
    rw [HR.out,← Hall.out,List.take_of_length_le (by rw [bl_length];exact Nat.le_refl _)]
   go_wp2
   go_ret
   exact ⟨ret_bool' HY.out.symm,rfl⟩
theorem name_any (s:ByteArray) (w:World) (hl:s.size≤9223372036854775807) :
  Calls Tryz.prog 35 #[.string s] w fun e w' => e = .returned (.bool (isNm (bl s)))∧w=w':=by
 by_cases h1:0 < s.size
 ·by_cases h2:s.size≤40
  ·cases h3:isLet s[0] with
   | true => exact name_loop s w h1 h2 h3
   | false => exact name_head s w h1 h2 h3
  ·exact name_no s w (.inr (by omega)) hl
 ·exact name_no s w (.inl (by omega)) hl
end Go.Proofs.YthdeijdimfjceaaGreatDoor

namespace Go.Proofs.YthdeijdimfjceaaGreatDoor
open Go.RowKit
set_option maxRecDepth 100000 in
theorem within_any (d:Int) (w:World):Calls Tryz.prog 58 #[.int .i64 d] w fun e w' => e = .returned (.bool (isDay d))∧w=w':=by
 go_enter Tryz.func58,Tryz.ntmps58
 go_wp2
 all_goals
  go_ret
  refine ⟨ret_bool' ?_,rfl⟩
  rw [Bool.eq_iff_iff];simp [isDay];omega
end Go.Proofs.YthdeijdimfjceaaGreatDoor

namespace Go.Proofs.YthdeijdimfjceaaGreatDoor
open Go.RowKit Go.Shelf
attribute [local go_sem] Oper.semAt_some
abbrev Grp:={ g:ByteArray // g.size≤9∧(bl g).all isDig=true }
def grpB (s:ByteArray) (k:Nat):ByteArray:=s.extract (s.size - 9 * (k+1)) (s.size - 9 * k)
theorem grpB_size (s:ByteArray) (k:Nat):(grpB s k).size≤9:=by
 rw [← bl_length,grpB,bl_extract,List.length_take,List.length_drop];omega
theorem grpB_dig (s:ByteArray) (h:(bl s).all isDig=true) (k:Nat):(bl (grpB s k)).all isDig=true:=by
 rw [grpB,bl_extract]
 rw [List.all_eq_true] at h ⊢
 exact fun x hx => h x (List.mem_of_mem_drop (List.mem_of_mem_take hx))
def grp (s:ByteArray) (h:(bl s).all isDig=true) (k:Nat):Grp:=⟨grpB s k,grpB_size s k,grpB_dig s h k⟩
def grps (s:ByteArray) (h:(bl s).all isDig=true) (k:Nat):List Grp:=(List.range k).map (grp s h)
theorem grps_succ (s:ByteArray) (h:(bl s).all isDig=true) (k:Nat):grps s h (k+1)=grps s h k ++ [grp s h k]:=by
 simp [grps,List.range_succ]
theorem grps_length (s:ByteArray) (h:(bl s).all isDig=true) (k:Nat):(grps s h k).length=k:=by simp [grps]
def KeepsAt (B:Nat) (W W':World):Prop:=W'.heap[B]? = W.heap[B]?
set_option maxRecDepth 100000 in
set_option maxHeartbeats 1000000 in
theorem groups1_in (F:Fence) (n:Nat) (hf:F.fn 160) (hro:F.round=none) (hn:1≤n) (l Bn:Nat) (s:ByteArray) (hd:(bl s).all isDig=true) (hs:s.size≤100000) (J Jx:List Grp→World→Prop)
  (hY:∀ pre x W,J pre W→pre.length < (s.size+8) / 9→YieldAt F (n - 1) Tryz.prog l #[.string x.1] W fun e W' =>
   (e = .returned (.bool true)∧J (pre ++ [x]) W'∧KeepsAt Bn W W')∨(e = .returned (.bool false)∧Jx (pre ++ [x]) W'))
  (W:World) (hBn:W.heap[Bn]? = some (.cells #[.string s] 9 (0,0))) (h0:J [] W) :
  CallsIn F n Tryz.prog 160 #[.func (.yield l) #[] #[],.pointer (some ⟨Bn,0,none⟩)] W fun e W' => (∃ v,e = .returned v) ∧
   ((∃ ys,ys=grps s hd ((s.size+8) / 9)∧J ys W')∨(∃ pre,True∧Jx pre W')):=by
 have hc0:=cell_of_one hBn
 refine callsIn_of_wp Tryz.func160 rfl hf ?_ hro
 simp only [Tryz.ntmps160,List.size_toArray,List.length_cons,List.length_nil,Nat.reduceAdd,Nat.reduceSub,Array.replicate_succ,Array.replicate_zero,List.push_toArray,List.append_toArray,List.nil_append,List.cons_append]
 gi_wp2
 gi_loopw [3] (fun p wr => ∃ (k:Nat),p = .int .i64 ((s.size:Int) - 9 * (k:Int))∧9 * k≤s.size+8∧wr.heap[Bn]? = some (.cells #[.string s] 9 (0,0))∧Hid (J (grps s hd k) wr))
  (fun p wr => (intOf p).toNat)
 case atStart =>
  exact ⟨0,by simp,by omega,hBn,h0⟩
 case round =>
  obtain ⟨k,rfl,hk,hb,hJs⟩:=hrel
  by_cases hlt:9 * k < s.size
  ·have hcr:=cell_of_one hb
   by_cases h9:9 * (k+1) < s.size
   ·have e1:((s.size:Int) - 9 * (k:Int) - 9).toNat=s.size - 9 * (k+1):=by omega
    have m1:(0:Int) < (s.size:Int) - 9 * (k:Int) - 9:=by omega
    obtain ⟨fn,tmps,assign,body,hy,hR⟩:=hY (grps s hd k) (grp s hd k) wr hJs.out (by rw [grps_length];omega)
    have hy2:(Instr.yield l #[.string (s.extract (s.size - 9 * (k+1)) (s.size - 9 * k))]).run Tryz.prog wr = .ok (.round l fn tmps assign body) wr:=hy
    clear hy
    gi_wp2
    refine hR.mono ?_
    rintro e W3 (⟨rfl,hJ3,hk3⟩ | ⟨rfl,hJx3⟩)
    ·rw [← grps_succ] at hJ3
     have hb3:W3.heap[Bn]? = some (.cells #[.string s] 9 (0,0)):=Eq.trans hk3 hb
     have HJ3:=Lib.hid hJ3
     clear hJ3 hk3 hJs hy2 e1
     gi_wp2
     go_roundw
     case rel => exact ⟨k+1,by go_num,by omega,hb3,HJ3⟩
     case measure => simp [intOf];omega
    ·have HJx:=Lib.hid hJx3
     clear hJx3 hJs hy2 e1
     gi_wp2
     refine bodyPost_ret (results_none rfl _ _ _) rfl ?_
     exact ⟨⟨_,rfl⟩,.inr ⟨_,trivial,HJx.out⟩⟩
   ·have e1:s.size - 9 * (k+1)=0:=by omega
    have m1 : ¬ (0:Int) < (s.size:Int) - 9 * (k:Int) - 9:=by omega
    obtain ⟨fn,tmps,assign,body,hy,hR⟩:=hY (grps s hd k) (grp s hd k) wr hJs.out (by rw [grps_length];omega)
    have hy2:(Instr.yield l #[.string (s.extract 0 (s.size - 9 * k))]).run Tryz.prog wr = .ok (.round l fn tmps assign body) wr:=by rw [← e1];exact hy
    clear hy
    gi_wp2
    refine hR.mono ?_
    rintro e W3 (⟨rfl,hJ3,hk3⟩ | ⟨rfl,hJx3⟩)
    ·rw [← grps_succ] at hJ3
     have hb3:W3.heap[Bn]? = some (.cells #[.string s] 9 (0,0)):=Eq.trans hk3 hb
     have HJ3:=Lib.hid hJ3
     clear hJ3 hk3 hJs hy2 e1
     gi_wp2
     go_roundw
     case rel => exact ⟨k+1,by go_num,by omega,hb3,HJ3⟩
     case measure => simp [intOf];omega
    ·have HJx:=Lib.hid hJx3
     clear hJx3 hJs hy2 e1
     gi_wp2
     refine bodyPost_ret (results_none rfl _ _ _) rfl ?_
     exact ⟨⟨_,rfl⟩,.inr ⟨_,trivial,HJx.out⟩⟩
  ·have hkk:(s.size+8) / 9=k:=by omega
   have HF:Hid ((∃ ys,ys=grps s hd ((s.size+8) / 9)∧J ys wr)∨(∃ pre,True∧Jx pre wr)):=by
    show _∨_
    rw [hkk];exact .inl ⟨_,rfl,hJs.out⟩
   clear hkk hJs
   gi_wp2
   go_end0
   exact ⟨⟨_,rfl⟩,HF.out⟩
set_option maxHeartbeats 1000000 in
theorem groups_in (F:Fence) (n:Nat) (hf:F.fn 143) (hro:F.round=none) (s:ByteArray) (w:World) :
  CallsIn F n Tryz.prog 143 #[.string s] w fun e w' => e = .returned (.func (.func 160) #[] #[.pointer (some ⟨w.heap.size,0,none⟩)])∧w'=w.alloc (.cells #[.string s] 9):=by
 refine callsIn_of_wp Tryz.func143 rfl hf ?_ hro
 simp only [Tryz.ntmps143,List.size_toArray,List.length_cons,List.length_nil,Nat.reduceAdd,Nat.reduceSub,Array.replicate_succ,Array.replicate_zero,List.push_toArray,List.append_toArray,List.nil_append,List.cons_append]
 gi_wp2
 go_ret
 exact ⟨rfl,rfl⟩
theorem groups_stops (F:Fence) (n:Nat) (hf:F.fn 160) (hro:F.round=none) (hn:1≤n) (Bn:Nat) (s:ByteArray) (hd:(bl s).all isDig=true) (hs:s.size≤100000) (w:World)
  (hBn:w.heap[Bn]? = some (.cells #[.string s] 9 (0,0))) :
  SeqStopsK F n Tryz.prog 160 #[.pointer (some ⟨Bn,0,none⟩)] (fun x:Grp => #[Value.string x.1]) (KeepsAt Bn) (fun ys => ys=grps s hd ((s.size+8) / 9)) (fun _ => True) ((s.size+8) / 9) w:=fun l J Jx W hW _ _ hY h0 =>
 groups1_in F n hf hro hn l Bn s hd hs J Jx hY W ((hW.block Bn (Array.getElem?_eq_some_iff.1 hBn).1).trans hBn) h0
end Go.Proofs.YthdeijdimfjceaaGreatDoor

namespace Go.Proofs.YthdeijdimfjceaaGreatDoor
open Go.RowKit
def dval (l:List UInt8):Nat:=l.foldl (fun a c => a * 10+(c.toNat - 48)) 0
theorem dval_nil:dval []=0:=rfl
theorem dval_snoc (l:List UInt8) (c:UInt8):dval (l ++ [c])=dval l * 10+(c.toNat - 48):=by simp [dval]
theorem dval_append (l m:List UInt8):dval (l ++ m)=dval l * 10 ^ m.length+dval m:=by
 refine Nat.rec (motive:=fun n => ∀ m:List UInt8,m.length=n→dval (l ++ m)=dval l * 10 ^ m.length+dval m) ?_ ?_ m.length m rfl
 ·intro m hm
  rw [List.eq_nil_of_length_eq_zero hm];simp [dval_nil]
 ·intro n ih m hm
  rcases List.eq_nil_or_concat m with rfl | ⟨m,c,rfl⟩
  ·simp at hm
  ·rw [List.concat_eq_append] at hm ⊢
   rw [← List.append_assoc,dval_snoc,dval_snoc,ih m (by simp at hm;exact hm)]
   simp only [List.length_append,List.length_singleton,Nat.pow_succ]
   rw [Nat.add_mul,Nat.mul_assoc];omega
theorem dval_lt (l:List UInt8) (h:l.all isDig=true):dval l < 10 ^ l.length:=by
 refine Nat.rec (motive:=fun n => ∀ m:List UInt8,m.length=n→m.all isDig=true→dval m < 10 ^ m.length) ?_ ?_ l.length l rfl h
 ·intro m hm _
  rw [List.eq_nil_of_length_eq_zero hm];decide
 ·intro n ih m hm hd
  rcases List.eq_nil_or_concat m with rfl | ⟨m,c,rfl⟩
  ·simp at hm
  ·rw [List.concat_eq_append] at hm hd ⊢
   rw [List.all_append] at hd
   simp only [Bool.and_eq_true] at hd
   have h1:=ih m (by simp at hm;exact hm) hd.1
   have h2:isDig c=true:=by simpa using hd.2
   simp [isDig] at h2
   rw [dval_snoc]
   simp only [List.length_append,List.length_singleton,Nat.pow_succ]
   omega
theorem dval_take_succ (s:ByteArray) (k:Nat) (h:k < s.size):dval ((bl s).take (k+1))=dval ((bl s).take k) * 10+(s[k].toNat - 48):=by
 rw [List.take_add_one,bl_get s k h]
 exact dval_snoc _ _
theorem isDig_at (s:ByteArray) (h:(bl s).all isDig=true) (k:Nat) (hk:k < s.size):48≤s[k].toNat∧s[k].toNat≤57:=by
 have:=(List.all_eq_true.1 h) s[k] (List.mem_of_getElem? (bl_get s k hk))
 simpa [isDig] using this
def gval (g:Grp):Nat:=dval (bl g.1)
theorem gval_lt (g:Grp):gval g < 1000000000:=by
 have h:=dval_lt _ g.2.2
 have h2:(bl g.1).length≤9:=by rw [bl_length];exact g.2.1
 exact Nat.lt_of_lt_of_le h (Nat.pow_le_pow_right (by decide) h2)
theorem grps_val (s:ByteArray) (hd:(bl s).all isDig=true) (k:Nat) (hk:9 * k≤s.size+8):Go.Proofs.YthdeijdimfjceaaGreatDoor.val 1000000000 ((grps s hd k).map gval)=dval ((bl s).drop (s.size - 9 * k)):=by
 induction k with
 | zero => simp [grps,Go.Proofs.YthdeijdimfjceaaGreatDoor.val,dval_nil,← bl_length]
 | succ k ih =>
  rw [grps_succ,List.map_append,List.map_singleton,val_snoc,ih (by omega),List.length_map,grps_length]
  have e:(bl s).drop (s.size - 9 * (k+1))=bl (grpB s k) ++ (bl s).drop (s.size - 9 * k):=by
   rw [grpB,bl_extract]
   have h1:(bl s).drop (s.size - 9 * k)=((bl s).drop (s.size - 9 * (k+1))).drop (s.size - 9 * k - (s.size - 9 * (k+1))):=by
    rw [List.drop_drop];congr 1;omega
   rw [h1,List.take_append_drop]
  rw [e,dval_append,List.length_drop,bl_length]
  have h2:s.size - (s.size - 9 * k)=9 * k:=by omega
  rw [h2,Nat.add_comm,Nat.mul_comm (1000000000 ^ k)]
  congr 1
  rw [show (1000000000:Nat)=10 ^ 9 from rfl,← Nat.pow_mul]
  rfl
theorem grps_full (s:ByteArray) (hd:(bl s).all isDig=true):Go.Proofs.YthdeijdimfjceaaGreatDoor.val 1000000000 ((grps s hd ((s.size+8) / 9)).map gval)=dval (bl s):=by
 rw [grps_val s hd _ (by omega),show s.size - 9 * ((s.size+8) / 9)=0 by omega,List.drop_zero]
theorem grps_dig (l:List Grp):Dig 1000000000 (l.map gval):=fun x hx => by
 obtain ⟨g,_,rfl⟩:=List.mem_map.1 hx;exact gval_lt g
end Go.Proofs.YthdeijdimfjceaaGreatDoor
