/- A part. -/
import Derived.Test.YtknpnhodpgajbaaGreatDoorRows
import Derived.WalkKit
import Derived.WalkSpells
import Derived.WalkLawsBesides
import Derived.BigQuiet
import Derived.Deep.QuietTactic
import Derived.Deep.LoopGhost
import Derived.Lib.Hide
import Derived.Deep.DeepCutAuto
import Derived.Lib.Strings
import Derived.Lib.IndexBytes
import Derived.Deep.Slices
import Derived.Deep.Fields
import Derived.Lib.SmallJoins
import Derived.Carry
import Derived.Maps.AppendAt
set_option maxHeartbeats 8000000
set_option maxRecDepth 100000
namespace Go.Proofs.YtknpnhodpgajbaaGreatDoor
open Go.RowKit
theorem Lh {p : Prop} (h : p) : Hid p := Lib.hid h
def val (b:Nat):List Nat→Nat
 | []=>0
 | x :: xs=>x+b * val b xs
def Dig (b:Nat) (xs:List Nat):Prop:=∀ x ∈ xs,x < b
def Nrm (b:Nat) (xs:List Nat):Prop:=Dig b xs∧xs.getLast? ≠ some 0
theorem Ziu (b:Nat) (xs ys:List Nat):val b (xs ++ ys)=val b xs+b ^ xs.length * val b ys:=by
 induction xs with
 | nil=>simp [val]
 | cons x xs ih=>simp only [List.cons_append,val,ih,List.length_cons,Nat.pow_succ];rw [Nat.mul_add,← Nat.mul_assoc,Nat.mul_comm b (b ^ xs.length)];omega
theorem Zdy (b d:Nat):val b [d]=d:=by simp [val]
theorem Zdr (b:Nat) (xs:List Nat) (d:Nat):val b (xs ++ [d])=val b xs+b ^ xs.length * d:=by rw [Ziu,Zdy]
theorem Dig.nil (b:Nat):Dig b []:=fun x h=>by cases h
theorem Dig.append {b:Nat} {xs ys:List Nat} (h:Dig b xs) (k:Dig b ys):Dig b (xs ++ ys):=fun x hx=>by
 rcases List.mem_append.1 hx with hx | hx
 ·exact h x hx
 ·exact k x hx
theorem Dig.snoc {b:Nat} {xs:List Nat} {d:Nat} (h:Dig b xs) (k:d < b):Dig b (xs ++ [d]):=h.append fun x hx=>by
 rcases List.mem_singleton.1 hx with rfl;exact k
theorem Dig.take {b:Nat} {xs:List Nat} (h:Dig b xs) (k:Nat):Dig b (xs.take k):=fun x hx=>h x (List.mem_of_mem_take hx)
theorem Dig.drop {b:Nat} {xs:List Nat} (h:Dig b xs) (k:Nat):Dig b (xs.drop k):=fun x hx=>h x (List.mem_of_mem_drop hx)
theorem Dig.at {b:Nat} {xs:List Nat} (hb:0 < b) (h:Dig b xs) (k:Nat):xs.getD k 0 < b:=by
 by_cases hk:k < xs.length
 ·simp only [List.getD,List.getElem?_eq_getElem hk,Option.getD_some];exact h _ (List.getElem_mem hk)
 ·simp only [List.getD,List.getElem?_eq_none (by omega:xs.length≤k),Option.getD_none];exact hb
theorem Dig.set {b:Nat} {xs:List Nat} (h:Dig b xs) (k:Nat) {d:Nat} (hd:d < b):Dig b (xs.set k d):=fun x hx=>by
 rcases List.mem_or_eq_of_mem_set hx with hx | rfl
 ·exact h x hx
 ·exact hd
theorem Zc2 {b:Nat} {xs:List Nat} (h:Dig b xs):val b xs < b ^ xs.length:=by
 induction xs with
 | nil=>simp [val]
 | cons x xs ih =>
  have h1:x < b:=h x (by simp);have h2:=ih (fun y hy=>h y (by simp [hy]));simp only [val,List.length_cons,Nat.pow_succ];have h3:b * (val b xs+1)≤b * b ^ xs.length:=Nat.mul_le_mul_left _ h2;rw [Nat.mul_add] at h3;rw [Nat.mul_comm (b ^ xs.length) b];omega
theorem Zd0 (xs:List Nat) (k:Nat) (h:k < xs.length):xs.take (k+1)=xs.take k ++ [xs.getD k 0]:=by
 rw [List.take_succ_eq_append_getElem h];simp [List.getD,h]
theorem Zam (b:Nat) (xs:List Nat) (k:Nat):val b (xs.take (k+1))=val b (xs.take k)+b ^ k * xs.getD k 0:=by
 by_cases h:k < xs.length
 ·rw [Zd0 _ _ h,Zdr,List.length_take,Nat.min_eq_left (by omega)]
 ·rw [List.take_of_length_le (by omega),List.take_of_length_le (by omega)];simp only [List.getD,List.getElem?_eq_none (by omega:xs.length≤k),Option.getD_none];omega
theorem Zes (b:Nat) (xs:List Nat) (k:Nat) (h:k≤xs.length):val b xs=val b (xs.take k)+b ^ k * val b (xs.drop k):=by
 have e:=Ziu b (xs.take k) (xs.drop k);rw [List.take_append_drop,List.length_take,Nat.min_eq_left h] at e;exact e
theorem Zee (b:Nat) (xs:List Nat) (k:Nat) (h:k < xs.length):val b (xs.drop k)=xs.getD k 0+b * val b (xs.drop (k+1)):=by
 rw [List.drop_eq_getElem_cons h];simp [val,List.getD,h]
theorem Ziv (b:Nat) (xs:List Nat) (i d:Nat) (h:i < xs.length):val b (xs.set i d)+b ^ i * xs.getD i 0=val b xs+b ^ i * d:=by
 have e1:=Zes b (xs.set i d) (i+1) (by simp;omega);have e2:=Zes b xs (i+1) (by omega);rw [List.drop_set_of_lt (by omega)] at e1;have e3:=Zam b (xs.set i d) i;have e4:=Zam b xs i;have e5:(xs.set i d).take i=xs.take i:=by rw [List.take_set_of_le (by omega)]
 have e6:(xs.set i d).getD i 0=d:=by simp [List.getD,h]
 rw [e5,e6] at e3;omega
theorem Zpq (b n:Nat):val b (List.replicate n 0)=0:=by
 induction n with
 | zero=>rfl
 | succ n ih=>simp [List.replicate_succ,val,ih]
def Zan (xs:List Nat):List Nat:=(xs.reverse.dropWhile (· == 0)).reverse
theorem Zdp (xs:List Nat):Zan (xs ++ [0])=Zan xs:=by simp [Zan]
theorem Zgu (xs:List Nat) (d:Nat) (h:d ≠ 0):Zan (xs ++ [d])=xs ++ [d]:=by
 simp [Zan,h]
theorem Zit (P:List Nat→Prop) (h0:P []) (h1:∀ xs d,P xs→P (xs ++ [d])) (xs:List Nat):P xs:=by
 have key:∀ n (xs:List Nat),xs.length=n→P xs:=by
  intro n;induction n with
  | zero=>intro xs h;rw [List.eq_nil_of_length_eq_zero h];exact h0
  | succ n ih =>
   intro xs h;have e:=Zd0 xs n (by omega);rw [List.take_of_length_le (by omega)] at e;rw [e];exact h1 _ _ (ih _ (by simp;omega))
 exact key _ xs rfl
theorem Zay (b:Nat) (xs:List Nat):val b (Zan xs)=val b xs:=by
 refine Zit (fun xs=>val b (Zan xs)=val b xs) rfl ?_ xs;intro xs d ih;by_cases h:d=0
 ·subst h;rw [Zdp,ih,Zdr];omega
 ·rw [Zgu _ _ h]
theorem Zak (xs:List Nat):Zan xs=xs.take (Zan xs).length∧(Zan xs).length≤xs.length:=by
 refine Zit (fun xs=>Zan xs=xs.take (Zan xs).length∧(Zan xs).length≤xs.length) ⟨rfl,Nat.le_refl _⟩ ?_ xs;intro xs d ⟨i1,i2⟩;by_cases h:d=0
 ·subst h;rw [Zdp];refine ⟨?_,by simp;omega⟩;rw [List.take_append_of_le_length i2];exact i1
 ·rw [Zgu _ _ h];exact ⟨(List.take_of_length_le (Nat.le_refl _)).symm,Nat.le_refl _⟩
theorem Za6 {b:Nat} {xs:List Nat} (h:Dig b xs):Nrm b (Zan xs):=by
 constructor
 ·rw [(Zak xs).1];exact h.take _
 ·refine Zit (fun xs=>(Zan xs).getLast? ≠ some 0) (by simp [Zan]) ?_ xs;intro xs d ih;by_cases h:d=0
  ·subst h;rw [Zdp];exact ih
  ·rw [Zgu _ _ h];simp [h]
theorem Nrm.nil (b:Nat):Nrm b []:=⟨Dig.nil b,by simp⟩
theorem Nrm.tail {b x:Nat} {xs:List Nat} (h:Nrm b (x :: xs)):Nrm b xs:=by
 refine ⟨fun y hy=>h.1 y (by simp [hy]),?_⟩
 cases xs with
 | nil=>simp
 | cons y ys=>have:=h.2;simpa [List.getLast?_cons_cons] using this
theorem Nrm.pos {b:Nat} {xs:List Nat} (h:Nrm b xs) (hne:xs ≠ []):b ^ (xs.length - 1)≤val b xs:=by
 rcases List.eq_nil_or_concat xs with rfl | ⟨ys,d,rfl⟩
 ·exact absurd rfl hne
 ·have h2:=h.2;rw [List.concat_eq_append] at h2 ⊢;have hd:d ≠ 0:=fun e=>by rw [e] at h2;simp at h2
  rw [Zdr];simp only [List.length_append,List.length_singleton,Nat.add_sub_cancel];have:=Nat.mul_le_mul_left (b ^ ys.length) (show 1≤d by omega)
  omega
theorem Nrm.val_zero {b:Nat} {xs:List Nat} (hb:0 < b) (h:Nrm b xs):val b xs=0 ↔ xs=[]:=by
 constructor
 ·intro e;by_cases hne:xs=[]
  ·exact hne
  ·have h1:=h.pos hne;have h2:0 < b ^ (xs.length - 1):=Nat.pow_pos hb;omega
 ·rintro rfl;rfl
theorem Nrm.length_le {b:Nat} {xs:List Nat} (hb:1 < b) (h:Nrm b xs) (k:Nat) (hv:val b xs < b ^ k):xs.length≤k:=by
 by_cases hne:xs=[]
 ·subst hne;simp
 ·have h1:=h.pos hne;have h2:b ^ (xs.length - 1) < b ^ k:=by omega
  have:=(Nat.pow_lt_pow_iff_right hb).1 h2
  omega
theorem Nrm.length_lt_of {b:Nat} {xs ys:List Nat} (hb:1 < b) (h:Nrm b xs) (k:Nrm b ys) (hl:xs.length < ys.length):val b xs < val b ys:=by
 have h1:=Zc2 h.1;have h2:=k.pos (by intro e;subst e;simp at hl);have h3:b ^ xs.length≤b ^ (ys.length - 1):=Nat.pow_le_pow_right (by omega) (by omega);omega
def cmpD:Nat→List Nat→List Nat→Int
 | 0,_,_=>0
 | k+1,xs,ys=>if xs.getD k 0=ys.getD k 0 then cmpD k xs ys else if xs.getD k 0 < ys.getD k 0 then -1 else 1
def sgn (a b:Nat):Int:=if a < b then -1 else if a=b then 0 else 1
theorem Zlb {a b:Nat} (h:a < b):sgn a b = -1:=by unfold sgn;rw [if_pos h]
theorem Zph {a b:Nat} (h:a=b):sgn a b=0:=by unfold sgn;rw [if_neg (by omega),if_pos h]
theorem Zjb {a b:Nat} (h:b < a):sgn a b=1:=by unfold sgn;rw [if_neg (by omega),if_neg (by omega)]
theorem Z2c (a b c:Nat):sgn (a+c) (b+c)=sgn a b:=by
 rcases Nat.lt_trichotomy a b with h | h | h
 ·rw [Zlb h,Zlb (by omega)]
 ·rw [Zph h,Zph (by omega)]
 ·rw [Zjb h,Zjb (by omega)]
theorem Zvn {b:Nat} (hb:1 < b) {xs ys:List Nat} (hx:Dig b xs) (hy:Dig b ys) (k:Nat) :
  cmpD k xs ys=sgn (val b (xs.take k)) (val b (ys.take k)):=by
 induction k with
 | zero=>simp [cmpD,sgn,val]
 | succ k ih =>
  have e1:=Zam b xs k;have e2:=Zam b ys k;have l1:val b (xs.take k) < b ^ k:=Nat.lt_of_lt_of_le (Zc2 (hx.take k)) (Nat.pow_le_pow_right (by omega) (by simp;omega));have l2:val b (ys.take k) < b ^ k:=Nat.lt_of_lt_of_le (Zc2 (hy.take k)) (Nat.pow_le_pow_right (by omega) (by simp;omega));rw [cmpD];by_cases h:xs.getD k 0=ys.getD k 0
  ·rw [if_pos h,ih,e1,e2,h,Z2c]
  ·rw [if_neg h,e1,e2];by_cases h1:xs.getD k 0 < ys.getD k 0
   ·have h3:=Nat.mul_le_mul_left (b ^ k) (show xs.getD k 0+1≤ys.getD k 0 by omega);rw [Nat.mul_add] at h3;rw [if_pos h1,Zlb (by omega)]
   ·have h3:=Nat.mul_le_mul_left (b ^ k) (show ys.getD k 0+1≤xs.getD k 0 by omega);rw [Nat.mul_add] at h3;rw [if_neg h1,Zjb (by omega)]
theorem Zyq {b:Nat} (hb:1 < b) {xs ys:List Nat} (hx:Nrm b xs) (hy:Nrm b ys) (hl:xs.length=ys.length) :
  cmpD xs.length xs ys=sgn (val b xs) (val b ys):=by
 rw [Zvn hb hx.1 hy.1,List.take_of_length_le (Nat.le_refl _),List.take_of_length_le (by omega)]
theorem Nrm.inj {b:Nat} (hb:1 < b) {xs ys:List Nat} (hx:Nrm b xs) (hy:Nrm b ys) (h:val b xs=val b ys):xs=ys:=by
 induction xs generalizing ys with
 | nil =>
  have:=(hy.val_zero (by omega)).1 (by rw [← h];rfl)
  exact this.symm
 | cons x xs ih =>
  cases ys with
  | nil =>
   have:=(hx.val_zero (by omega)).1 (by rw [h];rfl)
   exact this
  | cons y ys =>
   simp only [val] at h;have h1:x < b:=hx.1 x (by simp);have h2:y < b:=hy.1 y (by simp);have m1:(x+b * val b xs) % b=x:=by rw [Nat.add_mul_mod_self_left,Nat.mod_eq_of_lt h1]
   have m2:(y+b * val b ys) % b=y:=by rw [Nat.add_mul_mod_self_left,Nat.mod_eq_of_lt h2]
   have hxy:x=y:=by rw [← m1,← m2,h]
   subst hxy;have h3:b * val b xs=b * val b ys:=by omega
   have h4:val b xs=val b ys:=Nat.eq_of_mul_eq_mul_left (by omega) h3;rw [ih hx.tail hy.tail h4]
def Sl (w:World) (v:Value) (size n:Nat) (cs:List Value):Prop :=
 ∃ ad cap,v = .slice ad n cap∧n≤cap∧cs.length=n * size ∧
  (n=0∨∃ b off,ad=some ⟨b,off,none⟩∧∀ j u,cs[j]? = some u→w.cell? ⟨b,off+j,none⟩=some u)
theorem Sl.nil (w:World) (size:Nat):Sl w (.slice none 0 0) size 0 []:=⟨none,0,rfl,Nat.le_refl _,by simp,.inl rfl⟩
theorem Sl.empty (w:World) (ad:Option Addr) (cap size:Nat):Sl w (.slice ad 0 cap) size 0 []:=⟨ad,cap,rfl,Nat.zero_le _,by simp,.inl rfl⟩
theorem Sl.kept {w w':World} {v:Value} {size n:Nat} {cs:List Value} (h:Sl w v size n cs) (hk:∀ k,v.ownBlock=some k→k < w.heap.size→w'.heap[k]? = w.heap[k]?):Sl w' v size n cs:=by
 obtain ⟨ad,cap,rfl,h1,h2,h3⟩:=h;refine ⟨ad,cap,rfl,h1,h2,?_⟩;rcases h3 with h3 | ⟨b,off,rfl,h3⟩
 ·exact .inl h3
 ·refine .inr ⟨b,off,rfl,fun j u hj=>?_⟩;have e:=h3 j u hj;have hb:=World.block_lt_of_cell? w _ e;rw [World.cell?_of_block (w:=w) (hk b rfl hb)];exact e
theorem Sl.below {w w':World} {v:Value} {size n:Nat} {cs:List Value} (h:Sl w v size n cs) (hb:Below w.heap.size w w'):Sl w' v size n cs :=
 h.kept fun k _ hk=>hb.block k hk
theorem Sl.drewN {w:World} {v:Value} {size n:Nat} {cs:List Value} (h:Sl w v size n cs) (m:Nat):Sl (w.drewN m) v size n cs:=h.kept fun _ _ _=>rfl
theorem Sl.of_owns {w:World} {base:Nat} {e:TypeId} {size:Nat} {v:Value} {n:Nat} {xs:List Value} (h:w.ownsRow base e size v n xs):Sl w v size n xs:=by
 rcases h.2 with ⟨rfl,rfl⟩ | ⟨g,cap,cur,rfl,hb,hg,hn,hc,hs,ht⟩
 ·exact ⟨none,0,rfl,Nat.le_refl _,h.1,.inl rfl⟩
 ·refine ⟨_,cap,rfl,hn,h.1,.inr ⟨g,0,rfl,fun j u hj=>?_⟩⟩;rw [Nat.zero_add,cell_of_row w g j cur e (0,0) hg];rw [← ht,List.getElem?_take] at hj;split at hj
  ·simpa using hj
  ·cases hj
theorem Zca {w w':World} {base:Nat} {e:TypeId} {size:Nat} {v:Value} {n:Nat} {xs:List Value} (h:w.ownsRow base e size v n xs)
  (hk:∀ k,v.ownBlock=some k→k < w.heap.size→w'.heap[k]? = w.heap[k]?):w'.ownsRow base e size v n xs:=by
 refine ⟨h.1,?_⟩;rcases h.2 with h0 | ⟨g,cap,cur,rfl,hb,hg,r⟩
 ·exact .inl h0
 ·exact .inr ⟨g,cap,cur,rfl,hb,by rw [hk g rfl (Array.getElem?_eq_some_iff.1 hg).1];exact hg,r⟩
theorem Zag {w w':World} {base:Nat} {e:TypeId} {size:Nat} {v:Value} {n:Nat} {xs:List Value} (h:w.ownsRow base e size v n xs) (hb:Below w.heap.size w w'):w'.ownsRow base e size v n xs :=
 Zca h fun k _ hk=>hb.block k hk
theorem Zat {w:World} {base base':Nat} {e:TypeId} {size:Nat} {v:Value} {n:Nat} {xs:List Value} (h:w.ownsRow base e size v n xs) (hb:base'≤base):w.ownsRow base' e size v n xs:=by
 refine ⟨h.1,?_⟩;rcases h.2 with h0 | ⟨g,cap,cur,rfl,hg,r⟩
 ·exact .inl h0
 ·exact .inr ⟨g,cap,cur,rfl,Nat.le_trans hb hg,r⟩
def Zyv:Value→Nat→Value
 | .slice a _ c,k=>.slice a k c
 | v,_=>v
theorem Sl.cut {w:World} {v:Value} {size n:Nat} {cs:List Value} (h:Sl w v size n cs) (k:Nat) (hk:k≤n):Sl w (Zyv v k) size k (cs.take (k * size)):=by
 obtain ⟨ad,cap,rfl,h1,h2,h3⟩:=h;have hm:=Nat.mul_le_mul_right size hk;refine ⟨ad,cap,rfl,by omega,by rw [List.length_take];omega,?_⟩;rcases h3 with h3 | ⟨b,off,rfl,h3⟩
 ·exact .inl (by omega)
 ·refine .inr ⟨b,off,rfl,fun j u hj=>h3 j u ?_⟩;rw [List.getElem?_take] at hj;split at hj
  ·exact hj
  ·cases hj
theorem Zku {w:World} {base:Nat} {e:TypeId} {size:Nat} {v:Value} {n:Nat} {xs:List Value} (h:w.ownsRow base e size v n xs) (k:Nat) (hk:k≤n):w.ownsRow base e size (Zyv v k) k (xs.take (k * size)):=by
 have hm:=Nat.mul_le_mul_right size hk;have hl:=h.1;refine ⟨by rw [List.length_take];omega,?_⟩;rcases h.2 with ⟨rfl,rfl⟩ | ⟨g,cap,cur,rfl,hg,hh,hn,hc,hs,ht⟩
 ·exact .inl ⟨by rw [Nat.le_zero.1 hk];rfl,by omega⟩
 ·refine .inr ⟨g,cap,cur,rfl,hg,hh,by omega,hc,hs,?_⟩;rw [← ht,List.take_take,Nat.min_eq_left hm]
def nums (k:IntKind) (xs:List Nat):List Value:=xs.map fun n:Nat=>.int k (n:Int)
theorem Zhe (k:IntKind) (xs:List Nat):(nums k xs).length=xs.length:=by simp [nums]
theorem Zb5 (k:IntKind) (xs:List Nat) (n:Nat):(nums k xs).take n=nums k (xs.take n):=by simp [nums]
theorem Za1 (k:IntKind) (xs:List Nat) (d:Nat):nums k xs ++ [.int k (d:Int)]=nums k (xs ++ [d]):=by simp [nums]
theorem Zc4 (k:IntKind) (xs:List Nat) (i d:Nat):(nums k xs).set i (.int k (d:Int))=nums k (xs.set i d):=by simp [nums,List.map_set]
theorem Zbn (k:IntKind) (xs:List Nat) (j:Nat) (h:j < xs.length):(nums k xs)[j]? = some (.int k ((xs.getD j 0:Nat):Int)):=by
 simp [nums,List.getD,h]
theorem Zo4 (k:IntKind) (xs:List Nat):∀ u ∈ nums k xs,u.oneCell'=true:=by
 intro u hu;obtain ⟨_,_,rfl⟩:=List.mem_map.1 hu;rfl
theorem Sl.nums {w:World} {v:Value} {k:IntKind} {xs:List Nat} (h:Sl w v 1 xs.length (nums k xs)) :
  ∃ ad cap,v = .slice ad xs.length cap∧xs.length≤cap∧(xs.length=0∨∃ b off,ad=some ⟨b,off,none⟩∧∀ j,j < xs.length→w.cell? ⟨b,off+j,none⟩=some (.int k ((xs.getD j 0:Nat):Int))):=by
 obtain ⟨ad,cap,rfl,h1,h2,h3⟩:=h;refine ⟨ad,cap,rfl,h1,?_⟩;rcases h3 with h3 | ⟨b,off,rfl,h3⟩
 ·exact .inl h3
 ·exact .inr ⟨b,off,rfl,fun j hj=>h3 j _ (Zbn k xs j hj)⟩
theorem Zal {k:IntKind} {a b:Int} (h:a=b):Ending.returned (.int k a) = .returned (.int k b):=by rw [h]
theorem Zaf {a b:Bool} (h:a=b):Ending.returned (.bool a) = .returned (.bool b):=by rw [h]
def bl (s:ByteArray):List UInt8:=s.data.toList
theorem Zae (s:ByteArray):(bl s).length=s.size:=Array.length_toList
theorem Ziy (s:ByteArray) (k:Nat) (h:k < s.size):(bl s)[k]? = some s[k]:=by
 obtain ⟨⟨l⟩⟩:=s;have h':k < l.length:=by simpa [ByteArray.size] using h
 show l[k]? = some l[k];rw [List.getElem?_eq_getElem h']
theorem Zby (s:ByteArray) (h:0 < s.size):bl s=s[0] :: (bl s).tail:=by
 have e:=Ziy s 0 h
 cases hl:bl s with
 | nil=>rw [hl] at e;simp at e
 | cons a b=>rw [hl] at e;simp at e;rw [← e];rfl
theorem Zig (s:ByteArray) (_:0 < s.size):bl (s.extract 1 s.size)=(bl s).tail:=by
 show (s.extract 1 s.size).data.toList=_;rw [Lib.extract_to_end];show (bl s).drop 1=_
 cases bl s <;> rfl
theorem Zfl (s:ByteArray) (a:Nat):bl (s.extract a s.size)=(bl s).drop a:=Lib.extract_to_end s a
theorem Zbe (s:ByteArray) (a b:Nat):bl (s.extract a b)=((bl s).drop a).take (b - a):=Lib.extract_data s a b
theorem Zid (s:ByteArray) (h:0 < s.size):s.toList.isEmpty=false:=by
 rw [Lib.toList_data];have:=Zby s h
 show (bl s).isEmpty=false;rw [this];rfl
theorem Zdo (f:UInt8→Bool) (s:ByteArray) (k:Nat) (h:k < s.size):((bl s).take (k+1)).all f=(((bl s).take k).all f && f s[k]):=by
 rw [List.take_add_one,Ziy s k h];simp
theorem Zbc (f:UInt8→Bool) (l:List UInt8) (k:Nat) (h:l.all f=true):(l.take k).all f=true:=by
 rw [List.all_eq_true] at h ⊢;exact fun x hx=>h x (List.mem_of_mem_take hx)
theorem Zjz {s t:ByteArray} (h:bl s=bl t):s=t:=by
 obtain ⟨⟨l⟩⟩:=s;obtain ⟨⟨m⟩⟩:=t;simp [bl] at h
 rw [h]
theorem Zyj (l:List UInt8):bl ⟨l.toArray⟩=l:=rfl
def Rd {α:Type} (enc:α→List Value) (m:Nat) (w:World) (ad:Option Addr) (l:List α):Prop :=
 ∀ j x,l[j]? = some x→∃ b off,ad=some ⟨b,off,none⟩∧∀ i u,(enc x)[i]? = some u→w.cell? ⟨b,off+j * m+i,none⟩=some u
theorem Zm8 {α:Type} (enc:α→List Value) (m:Nat) (hm:∀ x,(enc x).length=m):∀ (l:List α) (j:Nat) (x:α) (i:Nat) (u:Value),l[j]? = some x→(enc x)[i]? = some u→(l.flatMap enc)[j * m+i]? = some u
 | [],j,x,i,u,h,_=>by simp at h
 | y :: l,0,x,i,u,h,hu=>by
  simp at h;subst h
  have hi:=(List.getElem?_eq_some_iff.1 hu).1;rw [List.flatMap_cons,Nat.zero_mul,Nat.zero_add,List.getElem?_append_left hi,hu]
 | y :: l,j+1,x,i,u,h,hu=>by
  have e:(j+1) * m+i=m+(j * m+i):=by rw [Nat.add_mul];omega
  rw [List.flatMap_cons,e,List.getElem?_append_right (by rw [hm];omega),hm,Nat.add_sub_cancel_left];exact Zm8 enc m hm l j x i u (by simpa using h) hu
theorem Zdv {α:Type} (enc:α→List Value) (m:Nat) (hm:∀ x,(enc x).length=m) (l:List α):(l.flatMap enc).length=l.length * m:=by
 induction l with
 | nil=>simp
 | cons x l ih=>rw [List.flatMap_cons,List.length_append,ih,hm,List.length_cons,Nat.add_mul];omega
theorem Rd.of_sl {α:Type} {enc:α→List Value} {m:Nat} (hm:∀ x,(enc x).length=m) (hm0:0 < m) {w:World} {ad:Option Addr} {n cap:Nat} {l:List α} (h:Sl w (.slice ad n cap) m n (l.flatMap enc)):Rd enc m w ad l:=by
 intro j x hj;obtain ⟨ad',cap',he,h1,h2,h3⟩:=h;obtain ⟨rfl,_,rfl⟩:=Value.slice.inj he;have hl:=Zdv enc m hm l;have hjl:=(List.getElem?_eq_some_iff.1 hj).1;rcases h3 with h3 | ⟨b,off,rfl,h3⟩
 ·exfalso
  rw [hl,h3,Nat.zero_mul] at h2;rcases Nat.mul_eq_zero.1 h2 with h | h <;> omega
 ·refine ⟨b,off,rfl,fun i u hu=>?_⟩;rw [Nat.add_assoc];exact h3 _ _ (Zm8 enc m hm l j x i u hj hu)
theorem Rd.kept {α:Type} {enc:α→List Value} {m:Nat} {w w':World} {ad:Option Addr} {l:List α} (h:Rd enc m w ad l) (hk:∀ k,k < w.heap.size→w'.heap[k]? = w.heap[k]?):Rd enc m w' ad l:=by
 intro j x hj;obtain ⟨b,off,rfl,h3⟩:=h j x hj;refine ⟨b,off,rfl,fun i u hu=>?_⟩;have e:=h3 i u hu;have hb:=World.block_lt_of_cell? w _ e;rw [World.cell?_of_block (w:=w) (hk b hb)];exact e
theorem Rd.below {α:Type} {enc:α→List Value} {m:Nat} {w w':World} {ad:Option Addr} {l:List α} (h:Rd enc m w ad l) (hb:Below w.heap.size w w'):Rd enc m w' ad l:=h.kept hb.block
theorem Za9 (s:ByteArray):s.toList=bl s:=Lib.toList_data s
theorem Zbm (a b:ByteArray):(a.toList == b.toList)=decide (a=b):=by
 rw [Za9,Za9];by_cases h:a=b
 ·subst h;simp
 ·have : ¬ bl a=bl b:=fun hh=>h (Zjz hh)
  simp [h,this]
noncomputable def eqB (p:Prop):Bool:=@decide p (Classical.propDecidable p)
theorem Zgm {p:Prop} (h:p):eqB p=true:=by unfold eqB;exact @decide_eq_true p (Classical.propDecidable p) h
theorem Zb3 {p:Prop} (h : ¬ p):eqB p=false:=by unfold eqB;exact @decide_eq_false p (Classical.propDecidable p) h
theorem Zau {α:Type} {l:List α} {k:Nat} {x:α} (h:l[k]? = some x):l.take (k+1)=l.take k ++ [x]:=by rw [List.take_add_one,h];rfl
theorem Zjc {α:Type} {l m:List α} {k:Nat} {x:α} (h1:l[k]? = some x) (h2:m[k]? = some x) (h:l.take k=m.take k):l.take (k+1)=m.take (k+1):=by
 rw [Zau h1,Zau h2,h]
theorem Zoz {α:Type} {l m:List α} {k:Nat} {x y:α} (h1:l[k]? = some x) (h2:m[k]? = some y) (h:x ≠ y):l ≠ m:=by
 rintro rfl;rw [h1] at h2;exact h (Option.some.inj h2)
theorem Zic (a b:ByteArray):a.toList=b.toList ↔ a=b:=by
 rw [Za9,Za9];exact ⟨Zjz,fun h=>by rw [h]⟩
end Go.Proofs.YtknpnhodpgajbaaGreatDoor
namespace Go.Proofs.YtknpnhodpgajbaaGreatDoor
open Go.RowKit Go.ChangeShapes Go.WideShapes Go.Deep
theorem Zyl {H:Type} (d:DataW H):1≤Rows.uptoBulk d:=by
 cases d with
 | lit l=>cases l <;> simp [Rows.uptoBulk]
 | _=>simp [Rows.uptoBulk]
theorem Zn0 {H:Type} {d:DataW H} {l:List (DataW H)} (h:d ∈ l):Rows.uptoBulk d≤Rows.uptoBulkAll l:=by
 induction l with
 | nil=>cases h
 | cons x r ih =>
  simp only [Rows.uptoBulkAll];rcases List.mem_cons.1 h with e | e
  ·subst e;omega
  ·have:=ih e;omega
theorem Zj0 {H:Type} (l:List (DataW H)):l.length≤Rows.uptoBulkAll l:=by
 induction l with
 | nil=>simp [Rows.uptoBulkAll]
 | cons x r ih=>have:=Zyl x;simp only [Rows.uptoBulkAll,List.length_cons];omega
theorem Zgk {H:Type} {d:DataW H} {l:List (DataW H)} (h:d ∈ l):Rows.uptoBulk d≤Rows.uptoBulk (.agg l):=by
 have:=Zn0 h
 simp only [Rows.uptoBulk];omega
theorem Zhp {H:Type} (s:ByteArray):s.size≤Rows.uptoBulk (DataW.lit (H:=H) (.string s.data.toList)):=by
 simp only [Rows.uptoBulk,Array.length_toList];show s.data.size≤_;omega
theorem Zkl {α:Type} {Q:Nat→α→Prop}:∀ n:Nat,(∀ i,i < n→∃ x,Q i x)→∃ l:List α,l.length=n∧∀ i x,l[i]? = some x→Q i x
 | 0,_=>⟨[],rfl,by simp⟩
 | n+1,h=>by
  obtain ⟨l,hl,hq⟩:=Zkl n (fun i hi=>h i (by omega));obtain ⟨x,hx⟩:=h n (by omega);refine ⟨l ++ [x],by simp [hl],fun i y hy=>?_⟩;by_cases hi:i < l.length
  ·rw [List.getElem?_append_left hi] at hy;exact hq i y hy
  ·have hi2:=(List.getElem?_eq_some_iff.1 hy).1;simp at hi2
   obtain rfl:i=l.length:=by omega
   simp at hy
   rw [hl,← hy];exact hx
theorem Zrw {α:Type} (enc:α→List Value) (m:Nat) (hm:∀ x,(enc x).length=m) (hm0:0 < m):∀ (l:List α) (j:Nat) (u:Value),(l.flatMap enc)[j]? = some u→∃ i k x,j=i * m+k∧k < m∧l[i]? = some x∧(enc x)[k]? = some u
 | [],j,u,h=>by simp at h
 | y :: l,j,u,h=>by
  rw [List.flatMap_cons] at h;by_cases hj:j < m
  ·rw [List.getElem?_append_left (by rw [hm];exact hj)] at h;exact ⟨0,j,y,by simp,hj,rfl,h⟩
  ·rw [List.getElem?_append_right (by rw [hm];omega),hm] at h;obtain ⟨i,k,x,h1,h2,h3,h4⟩:=Zrw enc m hm hm0 l (j - m) u h;exact ⟨i+1,k,x,by rw [Nat.add_mul,Nat.one_mul];omega,h2,by simpa using h3,h4⟩
section
variable {H:Type} {enc:TypeId × Value→H} {P:Program} {w:World} {sp:Nat→Bool} {held:Bool}
theorem Zo5 {α:Type} (en:α→List Value) (m:Nat) (hm:∀ x,(en x).length=m) (hm0:0 < m) (good:α→DataW H→Prop) {t e:TypeId} {fuel:Nat} {v:Value} {y:DataW H × List MemPlace}
  (ht:P.underlying t=some (.slice e)) (hc:P.cellsOf e=m)
  (dec:∀ (n:Nat) (cs:List Value) (z:DataW H × List MemPlace),cs.length=m→DataW.trod enc P w 0 sp held n e cs=some z→∃ x,cs=en x∧good x z.1)
  (h:DataW.trod enc P w 0 sp held fuel t [v]=some y) :
  ∃ (ad:Option Addr) (cap:Nat) (l:List α),v = .slice ad l.length cap∧(ad=none→cap=0)∧Sl w (.slice ad l.length cap) m l.length (l.flatMap en) ∧
   l.length≤Rows.uptoBulk y.1∧∀ x ∈ l,∃ d,good x d∧Rows.uptoBulk d≤Rows.uptoBulk y.1:=by
 rcases open_slice ht h with ⟨h0,hy⟩ | ⟨a,len,cap,mm,n,D,Pl,hcs,hb,hl,hmx,hmm,hx,hi⟩
 ·simp at h0
  exact ⟨none,0,[],h0,fun _=>rfl,Sl.empty w none 0 m,Nat.zero_le _,by simp⟩
 ·have hlm:len≤mm:=by rw [hmm];split <;> omega
  obtain ⟨l,hll,hq⟩:=Zkl (Q:=fun i x=>w.cells? 0 (a.add (i * m)) m=some (en x)∧good x (D i)) len (fun i hil=>by
   obtain ⟨cs',h1,h2⟩:=hi i (by omega);rw [hc] at h1;obtain ⟨x,hx,hg⟩:=dec n cs' _ (World.cells?_some h1).2.1 h2;exact ⟨x,by rw [← hx];exact h1,hg⟩)
  have hspot:0 < len→a.spot=none:=fun h0=>by
   obtain ⟨x,hx⟩:∃ x,l[0]? = some x:=⟨_,List.getElem?_eq_getElem (by omega)⟩
   have h1:=(World.cells?_some (hq 0 x hx).1).2.2 0 hm0;rw [Nat.zero_mul] at h1;have h2:w.cell? a=(en x)[0]?:=h1;rw [List.getElem?_eq_getElem (by rw [hm];exact hm0)] at h2;simp only [World.cell?] at h2
   cases hsp:a.spot with
   | none=>rfl
   | some k=>rw [hsp] at h2;simp at h2;split at h2 <;> simp at h2
  simp at hcs
  have hbulk:∀ i,i < len→Rows.uptoBulk (D i)≤Rows.uptoBulk y.1:=fun i hil=>by
   have:=Zn0 (H:=H) (d:=D i) (l:=(List.range len).map D) (List.mem_map.2 ⟨i,by simpa using hil,rfl⟩)
   rw [hx];simp only [Rows.uptoBulk];omega
  refine ⟨some a,cap,l,by rw [hll];exact hcs,fun h=>(by cases h),?_,?_,?_⟩
  ·refine ⟨some a,cap,rfl,by omega,Zdv en m hm l,?_⟩;by_cases h0:l.length=0
   ·exact .inl h0
   ·right
    have hs:=hspot (by omega);obtain ⟨b,off,sp⟩:=a;simp at hs
    subst hs;refine ⟨b,off,rfl,fun j u hj=>?_⟩;obtain ⟨i,k,x,rfl,hk,h3,h4⟩:=Zrw en m hm hm0 l j u hj;have h5:=(World.cells?_some (hq i x h3).1).2.2 k hk;rw [h4] at h5;rw [← h5];congr 1
    simp only [Addr.add];split <;> split <;> simp_all <;> omega
  ·have h1:=Zj0 ((List.range len).map D);rw [List.length_map,List.length_range] at h1;rw [hx];simp only [Rows.uptoBulk];omega
  ·intro x hxl;obtain ⟨i,hix⟩:=List.getElem?_of_mem hxl;have hil:=(List.getElem?_eq_some_iff.1 hix).1;exact ⟨D i,(hq i x hix).2,hbulk i (by omega)⟩
theorem arr2 {α:Type} {l:List α} (h:l.length=2):∃ a b,l=[a,b]:=by
 match l,h with
 | [a,b],_=>exact ⟨a,b,rfl⟩
theorem arr3 {α:Type} {l:List α} (h:l.length=3):∃ a b c,l=[a,b,c]:=by
 match l,h with
 | [a,b,c],_=>exact ⟨a,b,c,rfl⟩
theorem arr4 {α:Type} {l:List α} (h:l.length=4):∃ a b c d,l=[a,b,c,d]:=by
 match l,h with
 | [a,b,c,d],_=>exact ⟨a,b,c,d,rfl⟩
end
end Go.Proofs.YtknpnhodpgajbaaGreatDoor
namespace Go.Proofs.YtknpnhodpgajbaaGreatDoor
open Go.RowKit
theorem Zey:Tryz.prog.cellsOf 9=1:=by kernel_rfl
theorem Zf3:Tryz.prog.cellsOf 3=1:=by kernel_rfl
theorem Zs8:Tryz.prog.cellsOf 4=1:=by kernel_rfl
theorem Zn3:Tryz.prog.cellsOf 22=1:=by kernel_rfl
inductive Ex where
 | mk (k:Nat) (ra nm:ByteArray) (d:Int) (sub:List Ex)
def Ex.k:Ex→Nat | .mk k _ _ _ _=>k
def Ex.ra:Ex→ByteArray | .mk _ r _ _ _=>r
def Ex.nm:Ex→ByteArray | .mk _ _ n _ _=>n
def Ex.d:Ex→Int | .mk _ _ _ d _=>d
def Ex.sub:Ex→List Ex | .mk _ _ _ _ l=>l
mutual
def Ex.bulk:Ex→Nat
 | .mk _ r n _ l=>r.size+n.size+6+Ex.bulks l
def Ex.bulks:List Ex→Nat
 | []=>0
 | x :: l=>Ex.bulk x+Ex.bulks l
end
theorem Ex.bulk_eq (x:Ex):x.bulk=x.ra.size+x.nm.size+6+Ex.bulks x.sub:=by cases x;rw [Ex.bulk];rfl
theorem Ex.bulks_mem {x:Ex} {l:List Ex} (h:x ∈ l):x.bulk≤Ex.bulks l:=by
 induction l with
 | nil=>cases h
 | cons y l ih =>
  rw [Ex.bulks];rcases List.mem_cons.1 h with rfl | h
  ·omega
  ·have:=ih h;omega
theorem Ex.bulks_len (l:List Ex):l.length≤Ex.bulks l:=by
 induction l with
 | nil=>simp
 | cons y l ih=>rw [Ex.bulks,Ex.bulk_eq,List.length_cons];omega
theorem Ex.sub_lt (x:Ex):Ex.bulks x.sub < x.bulk:=by rw [Ex.bulk_eq];omega
theorem Ex.mem_lt {x y:Ex} (h:y ∈ x.sub):y.bulk < x.bulk:=Nat.lt_of_le_of_lt (Ex.bulks_mem h) x.sub_lt
def Ex.cells (x:Ex) (s:Value):List Value:=[.int .u8 x.k,.string x.ra,.string x.nm,.int .i64 x.d,s]
def Ex.val (x:Ex) (s:Value):Value:=.agg #[.int .u8 x.k,.string x.ra,.string x.nm,.int .i64 x.d,s]
inductive RdE (w:World):List Ex→Value→Prop
 | mk (ad:Option Addr) (cap:Nat) (xs:List Ex) (ss:Nat→Value)
   (hc:∀ j x,xs[j]? = some x→x.k < 256∧∃ b off,ad=some ⟨b,off,none⟩∧w.cell? ⟨b,off+j * 5,none⟩=some (.int .u8 x.k)∧w.cell? ⟨b,off+j * 5+1,none⟩=some (.string x.ra)∧w.cell? ⟨b,off+j * 5+2,none⟩=some (.string x.nm)∧w.cell? ⟨b,off+j * 5+3,none⟩=some (.int .i64 x.d)∧w.cell? ⟨b,off+j * 5+4,none⟩=some (ss j))
   (hs:∀ j x,xs[j]? = some x→RdE w x.sub (ss j)):RdE w xs (.slice ad xs.length cap)
theorem RdE.frame {w w':World} {xs:List Ex} {v:Value} (h:RdE w xs v) (hb:Below w.heap.size w w'):RdE w' xs v:=by
 induction h with
 | mk ad cap xs ss hc hs ih =>
  refine .mk ad cap xs ss (fun j x hx=>?_) ih;obtain ⟨h8,b,off,e,c0,c1,c2,c3,c4⟩:=hc j x hx;have hlt:=World.block_lt_of_cell? w _ c0;have k:∀ o u,w.cell? ⟨b,o,none⟩=some u→w'.cell? ⟨b,o,none⟩=some u:=fun o u hu=>by
   rw [hb.cell (p:=⟨b,o,none⟩) hlt];exact hu
  exact ⟨h8,b,off,e,k _ _ c0,k _ _ c1,k _ _ c2,k _ _ c3,k _ _ c4⟩
theorem RdE.len {w:World} {xs:List Ex} {v:Value} (h:RdE w xs v):∃ ad cap,v = .slice ad xs.length cap:=by
 cases h;exact ⟨_,_,rfl⟩
theorem RdE.at {w:World} {xs:List Ex} {ad:Option Addr} {n cap:Nat} (h:RdE w xs (.slice ad n cap)) {j:Nat} {x:Ex} (hx:xs[j]? = some x) :
  ∃ b off s,ad=some ⟨b,off,none⟩∧w.cell? ⟨b,off+j * 5,none⟩=some (.int .u8 x.k)∧w.cell? ⟨b,off+j * 5+1,none⟩=some (.string x.ra)∧w.cell? ⟨b,off+j * 5+2,none⟩=some (.string x.nm)∧w.cell? ⟨b,off+j * 5+3,none⟩=some (.int .i64 x.d)∧w.cell? ⟨b,off+j * 5+4,none⟩=some s∧RdE w x.sub s∧x.k < 256:=by
 cases h with
 | mk _ _ _ ss hc hs =>
  obtain ⟨h8,b,off,e,c0,c1,c2,c3,c4⟩:=hc j x hx;exact ⟨b,off,ss j,e,c0,c1,c2,c3,c4,hs j x hx,h8⟩
inductive Con where
 | mk (k:Nat) (fr rc nm:ByteArray) (ex:Ex) (d:Int) (ds:List Int) (sub:List Con)
def Con.k:Con→Nat | .mk k _ _ _ _ _ _ _=>k
def Con.fr:Con→ByteArray | .mk _ x _ _ _ _ _ _=>x
def Con.rc:Con→ByteArray | .mk _ _ x _ _ _ _ _=>x
def Con.nm:Con→ByteArray | .mk _ _ _ x _ _ _ _=>x
def Con.ex:Con→Ex | .mk _ _ _ _ x _ _ _=>x
def Con.d:Con→Int | .mk _ _ _ _ _ x _ _=>x
def Con.ds:Con→List Int | .mk _ _ _ _ _ _ x _=>x
def Con.sub:Con→List Con | .mk _ _ _ _ _ _ _ x=>x
mutual
def Con.bulk:Con→Nat
 | .mk _ f t n x _ ds l=>f.size+t.size+n.size+Ex.bulk x+ds.length+8+Con.bulks l
def Con.bulks:List Con→Nat
 | []=>0
 | x :: l=>Con.bulk x+Con.bulks l
end
theorem Con.bulk_eq (x:Con):x.bulk=x.fr.size+x.rc.size+x.nm.size+x.ex.bulk+x.ds.length+8+Con.bulks x.sub:=by cases x;rw [Con.bulk];rfl
theorem Con.bulks_mem {x:Con} {l:List Con} (h:x ∈ l):x.bulk≤Con.bulks l:=by
 induction l with
 | nil=>cases h
 | cons y l ih =>
  rw [Con.bulks];rcases List.mem_cons.1 h with rfl | h
  ·omega
  ·have:=ih h;omega
theorem Con.bulks_len (l:List Con):l.length≤Con.bulks l:=by
 induction l with
 | nil=>simp
 | cons y l ih=>rw [Con.bulks,Con.bulk_eq,List.length_cons];omega
theorem Con.sub_lt (x:Con):Con.bulks x.sub < x.bulk:=by rw [Con.bulk_eq];omega
theorem Con.mem_lt {x y:Con} (h:y ∈ x.sub):y.bulk < x.bulk:=Nat.lt_of_le_of_lt (Con.bulks_mem h) x.sub_lt
def RdI (w:World) (l:List Int) (v:Value):Prop:=∃ ad cap,v = .slice ad l.length cap∧(l.length≤cap∧(ad=none→cap=0))∧∀ j d,l[j]? = some d→∃ b off,ad=some ⟨b,off,none⟩∧w.cell? ⟨b,off+j,none⟩=some (.int .i64 d)
theorem RdI.frame {w w':World} {l:List Int} {v:Value} (h:RdI w l v) (hb:Below w.heap.size w w'):RdI w' l v:=by
 obtain ⟨ad,cap,rfl,h1,h2⟩:=h;refine ⟨ad,cap,rfl,h1,fun j d hj=>?_⟩;obtain ⟨b,off,e,hc⟩:=h2 j d hj;exact ⟨b,off,e,by rw [hb.cell (p:=⟨b,off+j,none⟩) (World.block_lt_of_cell? w _ hc)];exact hc⟩
def Con.cells (x:Con) (es dd ss:Value):List Value:=[.int .u8 x.k,.string x.fr,.string x.rc,.string x.nm,.int .u8 x.ex.k,.string x.ex.ra,.string x.ex.nm,.int .i64 x.ex.d,es,.int .i64 x.d,dd,ss]
inductive RdC (w:World):List Con→Value→Prop
 | mk (ad:Option Addr) (cap:Nat) (xs:List Con) (es dd ss:Nat→Value)
   (hc:∀ j x,xs[j]? = some x→(x.k < 256∧x.ex.k < 256)∧∃ b off,ad=some ⟨b,off,none⟩∧∀ i u,(x.cells (es j) (dd j) (ss j))[i]? = some u→w.cell? ⟨b,off+j * 12+i,none⟩=some u)
   (he:∀ j x,xs[j]? = some x→RdE w x.ex.sub (es j)) (hd:∀ j x,xs[j]? = some x→RdI w x.ds (dd j))
   (hs:∀ j x,xs[j]? = some x→RdC w x.sub (ss j)):RdC w xs (.slice ad xs.length cap)
theorem RdC.frame {w w':World} {xs:List Con} {v:Value} (h:RdC w xs v) (hb:Below w.heap.size w w'):RdC w' xs v:=by
 induction h with
 | mk ad cap xs es dd ss hc he hd hs ih =>
  refine .mk ad cap xs es dd ss (fun j x hx=>?_) (fun j x hx=>(he j x hx).frame hb) (fun j x hx=>(hd j x hx).frame hb) ih;obtain ⟨h8,b,off,e,h2⟩:=hc j x hx;refine ⟨h8,b,off,e,fun i u hu=>?_⟩;have h3:=h2 i u hu;rw [hb.cell (p:=⟨b,off+j * 12+i,none⟩) (World.block_lt_of_cell? w _ h3)];exact h3
theorem RdC.at {w:World} {xs:List Con} {ad:Option Addr} {n cap:Nat} (h:RdC w xs (.slice ad n cap)) {j:Nat} {x:Con} (hx:xs[j]? = some x) :
  ∃ b off es dd ss,ad=some ⟨b,off,none⟩∧(∀ i u,(x.cells es dd ss)[i]? = some u→w.cell? ⟨b,off+j * 12+i,none⟩=some u)∧RdE w x.ex.sub es∧RdI w x.ds dd∧RdC w x.sub ss∧x.k < 256∧x.ex.k < 256:=by
 cases h with
 | mk _ _ _ es dd ss hc he hd hs =>
  obtain ⟨h8,b,off,e,h2⟩:=hc j x hx;exact ⟨b,off,es j,dd j,ss j,e,h2,he j x hx,hd j x hx,hs j x hx,h8⟩
def Con.val (x:Con) (es dd ss:Value):Value:=.agg #[.int .u8 x.k,.string x.fr,.string x.rc,.string x.nm,.int .u8 x.ex.k,.string x.ex.ra,.string x.ex.nm,.int .i64 x.ex.d,es,.int .i64 x.d,dd,ss]
def RdN (w:World) (x:Con) (es dd ss:Value):Prop:=RdE w x.ex.sub es∧RdI w x.ds dd∧RdC w x.sub ss∧x.k < 256∧x.ex.k < 256
theorem RdN.frame {w w':World} {x:Con} {es dd ss:Value} (h:RdN w x es dd ss) (hb:Below w.heap.size w w'):RdN w' x es dd ss :=
 ⟨h.1.frame hb,h.2.1.frame hb,h.2.2.1.frame hb,h.2.2.2⟩
theorem RdC.len {w:World} {xs:List Con} {v:Value} (h:RdC w xs v):∃ ad cap,v = .slice ad xs.length cap:=by
 cases h;exact ⟨_,_,rfl⟩
theorem RdI.len {w:World} {xs:List Int} {v:Value} (h:RdI w xs v):∃ ad cap,v = .slice ad xs.length cap:=by
 obtain ⟨ad,cap,rfl,_⟩:=h;exact ⟨_,_,rfl⟩
theorem RdC.cells {w:World} {xs:List Con} {ad:Option Addr} {n cap:Nat} (h:RdC w xs (.slice ad n cap)) {j:Nat} {x:Con} (hx:xs[j]? = some x) :
  ∃ b off es dd ss,ad=some ⟨b,off,none⟩∧(w.cell? ⟨b,off+j * 12,none⟩=some (.int .u8 x.k)∧w.cell? ⟨b,off+j * 12+1,none⟩=some (.string x.fr)∧w.cell? ⟨b,off+j * 12+2,none⟩=some (.string x.rc)∧w.cell? ⟨b,off+j * 12+3,none⟩=some (.string x.nm)
   ∧ w.cell? ⟨b,off+j * 12+4,none⟩=some (.int .u8 x.ex.k)∧w.cell? ⟨b,off+j * 12+5,none⟩=some (.string x.ex.ra)∧w.cell? ⟨b,off+j * 12+6,none⟩=some (.string x.ex.nm)∧w.cell? ⟨b,off+j * 12+7,none⟩=some (.int .i64 x.ex.d)∧w.cell? ⟨b,off+j * 12+8,none⟩=some es
   ∧ w.cell? ⟨b,off+j * 12+9,none⟩=some (.int .i64 x.d)∧w.cell? ⟨b,off+j * 12+10,none⟩=some dd∧w.cell? ⟨b,off+j * 12+11,none⟩=some ss)∧RdN w x es dd ss:=by
 obtain ⟨b,off,es,dd,ss,e,h2,he,hd,hs,h8⟩:=h.at hx;exact ⟨b,off,es,dd,ss,e,⟨h2 0 _ rfl,h2 1 _ rfl,h2 2 _ rfl,h2 3 _ rfl,h2 4 _ rfl,h2 5 _ rfl,h2 6 _ rfl,h2 7 _ rfl,h2 8 _ rfl,h2 9 _ rfl,h2 10 _ rfl,h2 11 _ rfl⟩,he,hd,hs,h8⟩
end Go.Proofs.YtknpnhodpgajbaaGreatDoor
namespace Go.Proofs.YtknpnhodpgajbaaGreatDoor
open Go.RowKit Go.ChangeShapes Go.WideShapes Go.Deep
theorem arr5 {α:Type} {l:List α} (h:l.length=5):∃ a b c d e,l=[a,b,c,d,e]:=by
 match l,h with
 | [a,b,c,d,e],_=>exact ⟨a,b,c,d,e,rfl⟩
theorem arr8 {α:Type} {l:List α} (h:l.length=8):∃ a b c d e f g i,l=[a,b,c,d,e,f,g,i]:=by
 match l,h with
 | [a,b,c,d,e,f,g,i],_=>exact ⟨a,b,c,d,e,f,g,i,rfl⟩
theorem Z3j {α:Type} {l:List α} (h:l.length=12):∃ a b c d e f g i j k m n,l=[a,b,c,d,e,f,g,i,j,k,m,n]:=by
 match l,h with
 | [a,b,c,d,e,f,g,i,j,k,m,n],_=>exact ⟨a,b,c,d,e,f,g,i,j,k,m,n,rfl⟩
theorem Zrm:Tryz.prog.cellsOf 5=1:=by kernel_rfl
theorem Zrl:Tryz.prog.cellsOf 25=5:=by kernel_rfl
theorem Zn2:Tryz.prog.cellsOf 29=12:=by kernel_rfl
theorem Zvl:Tryz.prog.cellsOf 23=1:=by kernel_rfl
theorem Zs9:Tryz.prog.cellsOf 27=1:=by kernel_rfl
theorem Zta:Tryz.prog.cellsOf 26=1:=by kernel_rfl
theorem Z0v {k:Int} (h:(Lit.int .u8 k).wf=true):∃ n:Nat,k=(n:Int)∧n < 256:=by
 have h:(decide ((0:Int)≤k) && decide (k≤(255:Int)))=true:=h;simp only [Bool.and_eq_true,decide_eq_true_eq] at h;refine ⟨k.toNat,?_,?_⟩ <;> omega
section
variable {H:Type} {enc:TypeId × Value→H} {w:World} {sp:Nat→Bool} {held:Bool}
theorem Zni {t e:TypeId} {m:Nat} (hm:0 < m) {fuel:Nat} {v:Value} {y:DataW H × List MemPlace} (ht:Tryz.prog.underlying t=some (.slice e)) (hc:Tryz.prog.cellsOf e=m)
  (h:DataW.trod enc Tryz.prog w 0 sp held fuel t [v]=some y) :
  ∃ (ad:Option Addr) (cap:Nat) (D:List (DataW H)) (n:Nat),n+1≤fuel∧v = .slice ad D.length cap∧(D.length≤cap∧(ad=none→cap=0))∧Rows.uptoBulkAll D+1≤Rows.uptoBulk y.1 ∧
   ∀ i,i < D.length→∃ (a:Addr) (cs:List Value) (z:DataW H × List MemPlace),ad=some a∧a.spot=none∧cs.length=m∧(∀ k,k < m→w.cell? (a.add (i * m+k))=cs[k]?)∧DataW.trod enc Tryz.prog w 0 sp held n e cs=some z∧D[i]? = some z.1:=by
 rcases DataW.trod_slice ht h with ⟨h0,hy⟩ | ⟨a,len,cap,elems,rest,n,hf,hcs,hy,hb,hl,hmx,hlen,hel,_,_⟩
 ·simp at h0
  subst hy;refine ⟨none,0,[],0,?_,h0,⟨Nat.le_refl _,fun _=>rfl⟩,by simp [Rows.uptoBulkAll,Rows.uptoBulk],fun i hi=>absurd hi (Nat.not_lt_zero _)⟩
  cases fuel with
  | zero=>simp [DataW.trod] at h
  | succ n=>omega
 ·simp at hcs
  refine ⟨some a,cap,elems.map (·.1),n,by omega,by rw [List.length_map,hlen];exact hcs,⟨by rw [List.length_map,hlen];exact hl,fun h=>by cases h⟩,?_,fun i hi=>?_⟩
  ·rw [hy];simp only [Rows.uptoBulk];omega
  ·rw [List.length_map,hlen] at hi;have h1:=hel i hi;rw [List.getElem?_eq_getElem (by omega)] at h1;obtain ⟨cs,h2,h3⟩:=Option.bind_eq_some_iff.1 h1;rw [hc] at h2;obtain ⟨_,h4,h5⟩:=World.cells?_some h2;have ha:∀ k,(a.add (i * m)).add k=a.add (i * m+k):=fun k=>by
    simp only [Addr.add];split <;> split <;> simp_all <;> omega
   refine ⟨a,cs,_,rfl,?_,h4,fun k hk=>?_,h3,?_⟩
   ·have g1:=hel 0 (by omega);rw [List.getElem?_eq_getElem (by omega)] at g1;obtain ⟨cs0,g2,_⟩:=Option.bind_eq_some_iff.1 g1;rw [hc] at g2;obtain ⟨_,g4,g5⟩:=World.cells?_some g2;have g6:=g5 0 hm;rw [List.getElem?_eq_getElem (by omega),Nat.zero_mul,show (a.add 0).add 0=a from rfl] at g6;simp only [World.cell?] at g6
    cases hsp:a.spot with
    | none=>rfl
    | some q=>rw [hsp] at g6;simp at g6;split at g6 <;> simp at g6
   ·rw [← h5 k hk,ha]
   ·rw [List.getElem?_map,List.getElem?_eq_getElem (by omega)];rfl
theorem Zmw {α:Type} (f:α→Nat) (g:List α→Nat) (g0:g []=0) (g1:∀ x l,g (x :: l)=f x+g l):∀ (l:List α) (D:List (DataW H)),l.length=D.length→(∀ (i:Nat) (x:α) (d:DataW H),l[i]? = some x→D[i]? = some d→f x≤Rows.uptoBulk d)→g l≤Rows.uptoBulkAll D
 | [],_,_,_=>by rw [g0];exact Nat.zero_le _
 | x :: l,[],h,_=>by simp at h
 | x :: l,d :: D,h,k=>by
  rw [g1];simp only [Rows.uptoBulkAll];have h1:=k 0 x d rfl rfl;have h2:=Zmw f g g0 g1 l D (by simpa using h) fun i y e hy he=>k (i+1) y e (by simpa using hy) (by simpa using he)
  omega
def IsEx (w:World) (cs:List Value) (d:DataW H):Prop:=∃ (x:Ex) (s:Value),cs=x.cells s∧x.k < 256∧RdE w x.sub s∧x.bulk≤Rows.uptoBulk d
theorem Zjx {a:Addr} (h:a.spot=none) (k:Nat):a.add k=⟨a.block,a.off+k,none⟩:=by
 cases a;simp at h;subst h;simp [Addr.add]
theorem Z25 {t:TypeId} {fuel:Nat} {v:Value} {y:DataW H × List MemPlace} (ht:Tryz.prog.underlying t=some (.slice 25))
  (ih:∀ n < fuel,∀ cs (z:DataW H × List MemPlace),cs.length=5→DataW.trod enc Tryz.prog w 0 sp held n 25 cs=some z→IsEx w cs z.1)
  (h:DataW.trod enc Tryz.prog w 0 sp held fuel t [v]=some y):∃ l,RdE w l v∧Ex.bulks l+1≤Rows.uptoBulk y.1:=by
 obtain ⟨ad,cap,D,n,hn,rfl,hcap,hb,hel⟩:=Zni (m:=5) (by decide) ht Zrl h;obtain ⟨l,hll,hq⟩:=Zkl (α:=Ex × Value) (Q:=fun i p=>p.1.k < 256∧RdE w p.1.sub p.2∧(∃ a,ad=some a∧a.spot=none∧∀ k,k < 5→w.cell? (a.add (i * 5+k))=(p.1.cells p.2)[k]?)∧∀ d,D[i]? = some d→p.1.bulk≤Rows.uptoBulk d) D.length fun i hi=>by
  obtain ⟨a,cs,z,ha,hs,hlc,hcell,ht,hD⟩:=hel i hi;obtain ⟨x,s,rfl,h8,hr,hbx⟩:=ih n (by omega) cs z hlc ht;exact ⟨(x,s),h8,hr,⟨a,ha,hs,hcell⟩,fun d hd=>by rw [hD] at hd;cases hd;exact hbx⟩
 have hlen:(l.map (·.1)).length=D.length:=by rw [List.length_map,hll]
 have get:∀ j x,(l.map (·.1))[j]? = some x→∃ s,l[j]? = some (x,s):=fun j x hx=>by
  rw [List.getElem?_map,Option.map_eq_some_iff] at hx;obtain ⟨p,hp,rfl⟩:=hx;exact ⟨p.2,hp⟩
 refine ⟨l.map (·.1),?_,?_⟩
 ·rw [← hlen];refine .mk ad cap _ (fun j=>(l[j]?.map (·.2)).getD default) (fun j x hx=>?_) (fun j x hx=>?_)
  ·obtain ⟨s,hp⟩:=get j x hx;obtain ⟨h8,hr,⟨a,ha,hs,hcell⟩,_⟩:=hq j _ hp;have hc:∀ k,k < 5→w.cell? ⟨a.block,a.off+j * 5+k,none⟩=(x.cells s)[k]?:=fun k hk=>by
    rw [← hcell k hk,Zjx hs,Nat.add_assoc]
   refine ⟨h8,a.block,a.off,?_,hc 0 (by decide),hc 1 (by decide),hc 2 (by decide),hc 3 (by decide),?_⟩
   ·rw [ha];cases a;simp at hs;subst hs;rfl
   ·rw [hp];exact hc 4 (by decide)
  ·obtain ⟨s,hp⟩:=get j x hx;rw [hp];exact (hq j _ hp).2.1
 ·have:=Zmw Ex.bulk Ex.bulks rfl (fun _ _=>rfl) (l.map (·.1)) D hlen fun i x d hx hd=>by
   obtain ⟨s,hp⟩:=get i x hx;exact (hq i _ hp).2.2.2 d hd
  omega
theorem Z2r:∀ (n:Nat) (cs:List Value) (z:DataW H × List MemPlace),cs.length=5→DataW.trod enc Tryz.prog w 0 sp held n 25 cs=some z→IsEx w cs z.1:=by
 intro n;induction n using Nat.strongRecOn with
 | ind n ih =>
  intro cs z hl h;obtain ⟨c0,c1,c2,c3,c4,rfl⟩:=arr5 hl;obtain ⟨xs,n',hn,hz,_,hxl,hf⟩:=DataW.trod_struct Tryz.underlying25 h;obtain ⟨y0,y1,y2,y3,y4,rfl⟩:=arr5 hxl;have h0:=hf 0 _ rfl;have h1:=hf 1 _ rfl;have h2:=hf 2 _ rfl;have h3:=hf 3 _ rfl;have h4:=hf 4 _ rfl;simp [Zey,Zf3,Zn3,Zrm,Zvl] at h0 h1 h2 h3 h4
  obtain ⟨k,hk,rfl,hw⟩:=DataW.trod_int Tryz.underlying5 h0;obtain ⟨r,hr,rfl,_⟩:=DataW.trod_string Tryz.underlying22 h1;obtain ⟨s,hs,rfl,_⟩:=DataW.trod_string Tryz.underlying9 h2;obtain ⟨d,hd,rfl,_⟩:=DataW.trod_int Tryz.underlying3 h3;simp at hk hr hs hd
  subst hk hr hs hd;obtain ⟨k,rfl,hk8⟩:=Z0v hw;obtain ⟨l,hrd,hb⟩:=Z25 Tryz.underlying23 (fun m hm=>ih m (by omega)) h4;refine ⟨.mk k r s d l,c4,rfl,hk8,hrd,?_⟩;rw [hz,Ex.bulk_eq];simp [Rows.uptoBulk,Rows.uptoBulkAll]
  have e1:r.data.size=r.size:=rfl;have e2:s.data.size=s.size:=rfl;have e3:(Ex.mk k r s d l).ra=r:=rfl;have e4:(Ex.mk k r s d l).nm=s:=rfl;have e5:(Ex.mk k r s d l).sub=l:=rfl;rw [e3,e4,e5];omega
theorem Z26 {t:TypeId} {fuel:Nat} {v:Value} {y:DataW H × List MemPlace} (ht:Tryz.prog.underlying t=some (.slice 3))
  (h:DataW.trod enc Tryz.prog w 0 sp held fuel t [v]=some y):∃ l,RdI w l v∧l.length+1≤Rows.uptoBulk y.1:=by
 obtain ⟨ad,cap,D,n,hn,rfl,hcap,hb,hel⟩:=Zni (m:=1) (by decide) ht Zf3 h;obtain ⟨l,hll,hq⟩:=Zkl (α:=Int) (Q:=fun i d=>∃ a,ad=some a∧a.spot=none∧w.cell? (a.add (i * 1+0))=some (.int .i64 d)) D.length fun i hi=>by
  obtain ⟨a,cs,z,ha,hs,hlc,hcell,ht,hD⟩:=hel i hi;obtain ⟨d,rfl,_,_⟩:=DataW.trod_int Tryz.underlying3 ht;exact ⟨d,a,ha,hs,hcell 0 (by decide)⟩
 have:=Zj0 D
 obtain ⟨hcap,hnil⟩:=hcap;refine ⟨l,⟨ad,cap,by rw [hll],⟨by omega,hnil⟩,fun j d hj=>?_⟩,by omega⟩;obtain ⟨a,ha,hs,hc⟩:=hq j d hj;refine ⟨a.block,a.off,?_,?_⟩
 ·rw [ha];cases a;simp at hs;subst hs;rfl
 ·rw [Zjx hs,Nat.mul_one,Nat.add_zero] at hc;exact hc
def Z2l (w:World) (cs:List Value) (d:DataW H):Prop:=∃ (x:Con) (es dd ss:Value),cs=x.cells es dd ss∧RdN w x es dd ss∧x.bulk≤Rows.uptoBulk d
theorem Z24 {t:TypeId} {fuel:Nat} {v:Value} {y:DataW H × List MemPlace} (ht:Tryz.prog.underlying t=some (.slice 29))
  (ih:∀ n < fuel,∀ cs (z:DataW H × List MemPlace),cs.length=12→DataW.trod enc Tryz.prog w 0 sp held n 29 cs=some z→Z2l w cs z.1)
  (h:DataW.trod enc Tryz.prog w 0 sp held fuel t [v]=some y):∃ l,RdC w l v∧Con.bulks l+1≤Rows.uptoBulk y.1:=by
 obtain ⟨ad,cap,D,n,hn,rfl,hcap,hb,hel⟩:=Zni (m:=12) (by decide) ht Zn2 h;obtain ⟨l,hll,hq⟩:=Zkl (α:=Con × Value × Value × Value) (Q:=fun i p=>RdN w p.1 p.2.1 p.2.2.1 p.2.2.2∧(∃ a,ad=some a∧a.spot=none∧∀ k,k < 12→w.cell? (a.add (i * 12+k))=(p.1.cells p.2.1 p.2.2.1 p.2.2.2)[k]?)∧∀ d,D[i]? = some d→p.1.bulk≤Rows.uptoBulk d) D.length fun i hi=>by
  obtain ⟨a,cs,z,ha,hs,hlc,hcell,ht,hD⟩:=hel i hi;obtain ⟨x,es,dd,ss,rfl,hr,hbx⟩:=ih n (by omega) cs z hlc ht;exact ⟨(x,es,dd,ss),hr,⟨a,ha,hs,hcell⟩,fun d hd=>by rw [hD] at hd;cases hd;exact hbx⟩
 have hlen:(l.map (·.1)).length=D.length:=by rw [List.length_map,hll]
 have get:∀ j x,(l.map (·.1))[j]? = some x→∃ s,l[j]? = some (x,s):=fun j x hx=>by
  rw [List.getElem?_map,Option.map_eq_some_iff] at hx;obtain ⟨p,hp,rfl⟩:=hx;exact ⟨p.2,hp⟩
 refine ⟨l.map (·.1),?_,?_⟩
 ·rw [← hlen];refine .mk ad cap _ (fun j=>(l[j]?.map (·.2.1)).getD default) (fun j=>(l[j]?.map (·.2.2.1)).getD default) (fun j=>(l[j]?.map (·.2.2.2)).getD default) (fun j x hx=>?_) (fun j x hx=>?_) (fun j x hx=>?_) (fun j x hx=>?_)
  ·obtain ⟨s,hp⟩:=get j x hx;obtain ⟨hr,⟨a,ha,hs,hcell⟩,_⟩:=hq j _ hp;refine ⟨hr.2.2.2,a.block,a.off,?_,fun i u hu=>?_⟩
   ·rw [ha];cases a;simp at hs;subst hs;rfl
   ·have hi:i < 12:=(List.getElem?_eq_some_iff.1 hu).1;rw [hp] at hu;rw [Nat.add_assoc,← Zjx hs,hcell i hi];exact hu
  ·obtain ⟨s,hp⟩:=get j x hx;rw [hp];exact (hq j _ hp).1.1
  ·obtain ⟨s,hp⟩:=get j x hx;rw [hp];exact (hq j _ hp).1.2.1
  ·obtain ⟨s,hp⟩:=get j x hx;rw [hp];exact (hq j _ hp).1.2.2.1
 ·have:=Zmw Con.bulk Con.bulks rfl (fun _ _=>rfl) (l.map (·.1)) D hlen fun i x d hx hd=>by
   obtain ⟨s,hp⟩:=get i x hx;exact (hq i _ hp).2.2 d hd
  omega
theorem Z04:∀ (n:Nat) (cs:List Value) (z:DataW H × List MemPlace),cs.length=12→DataW.trod enc Tryz.prog w 0 sp held n 29 cs=some z→Z2l w cs z.1:=by
 intro n;induction n using Nat.strongRecOn with
 | ind n ih =>
  intro cs z hl h;obtain ⟨c0,c1,c2,c3,c4,c5,c6,c7,c8,c9,c10,c11,rfl⟩:=Z3j hl;obtain ⟨xs,n',hn,hz,_,hxl,hf⟩:=DataW.trod_struct Tryz.underlying29 h;obtain ⟨y0,y1,y2,y3,y4,y5,y6,y7,rfl⟩:=arr8 hxl;have h0:=hf 0 _ rfl;have h1:=hf 1 _ rfl;have h2:=hf 2 _ rfl;have h3:=hf 3 _ rfl;have h4:=hf 4 _ rfl;have h5:=hf 5 _ rfl;have h6:=hf 6 _ rfl;have h7:=hf 7 _ rfl;simp [Zey,Zf3,Zrm,Zrl,Zta,Zs9] at h0 h1 h2 h3 h4 h5 h6 h7
  obtain ⟨k,hk,rfl,hw⟩:=DataW.trod_int Tryz.underlying5 h0;obtain ⟨f,hff,rfl,_⟩:=DataW.trod_string Tryz.underlying9 h1;obtain ⟨r,hr,rfl,_⟩:=DataW.trod_string Tryz.underlying9 h2;obtain ⟨s,hs,rfl,_⟩:=DataW.trod_string Tryz.underlying9 h3;obtain ⟨x,es,hx,hx8,hxr,hxb⟩:=Z2r _ _ _ rfl h4;obtain ⟨d,hd,rfl,_⟩:=DataW.trod_int Tryz.underlying3 h5;obtain ⟨ds,hds,hdb⟩:=Z26 Tryz.underlying26 h6;obtain ⟨l,hrd,hb⟩:=Z24 Tryz.underlying27 (fun m hm=>ih m (by omega)) h7
  simp at hk hff hr hs hd
  simp [Ex.cells] at hx
  obtain ⟨rfl,rfl,rfl,rfl,rfl⟩:=hx;subst hk hff hr hs hd;obtain ⟨k,rfl,hk8⟩:=Z0v hw;refine ⟨.mk k f r s x d ds l,c8,c10,c11,rfl,⟨hxr,hds,hrd,hk8,hx8⟩,?_⟩;rw [hz,Con.bulk_eq];simp [Rows.uptoBulk,Rows.uptoBulkAll]
  have e1:f.data.size=f.size:=rfl;have e2:r.data.size=r.size:=rfl;have e3:s.data.size=s.size:=rfl;have e4:(Con.mk k f r s x d ds l).fr=f:=rfl;have e5:(Con.mk k f r s x d ds l).rc=r:=rfl;have e6:(Con.mk k f r s x d ds l).nm=s:=rfl;have e7:(Con.mk k f r s x d ds l).ex=x:=rfl;have e8:(Con.mk k f r s x d ds l).ds=ds:=rfl;have e9:(Con.mk k f r s x d ds l).sub=l:=rfl;rw [e4,e5,e6,e7,e8,e9];omega
end
end Go.Proofs.YtknpnhodpgajbaaGreatDoor
namespace Go.Proofs.YtknpnhodpgajbaaGreatDoor
open Go.RowKit
def Zav (c:UInt8):Bool:=decide (48≤c.toNat∧c.toNat≤57)
def body (l:List UInt8):List UInt8:=if l.head? = some 45 then l.tail else l
def Zaj (l:List UInt8):Bool:=l.head? == some 45
def Zcg (d:List UInt8) (neg:Bool):Bool:=!d.isEmpty && d.all Zav && !(d.head? == some 48 && (decide (1 < d.length) || neg))
def Zar (l:List UInt8):Bool:=Zcg (body l) (Zaj l)
def Zab (l:List UInt8):Int:=if Zar l then (if 1000 < (body l).length then 14 else 0) else 12
theorem Zf6 (d:List UInt8):Zab (45 :: d)=if Zcg d true then (if 1000 < d.length then 14 else 0) else 12:=by
 simp [Zab,Zar,body,Zaj]
theorem Zt1 {d:List UInt8} (h:d.head? ≠ some 45):Zab d=if Zcg d false then (if 1000 < d.length then 14 else 0) else 12:=by
 have e:(d.head? == some 45)=false:=by simpa using h
 simp [Zab,Zar,body,Zaj,h,e]
def Ze8 (c:UInt8):Bool:=(decide (97≤c.toNat) && decide (c.toNat≤122)) || (decide (65≤c.toNat) && decide (c.toNat≤90))
def Zow (c:UInt8):Bool:=Zav c || (decide (c.toNat=95) || decide (c.toNat=45))
def Zf8 (c:UInt8):Bool:=Ze8 c || Zow c
def isNm (l:List UInt8):Bool:=decide (1≤l.length) && (decide (l.length≤40) && (l.head?.any Ze8 && l.all Zf8))
def Zbh (d:Int):Bool:=decide (0≤d) && decide (d≤99999)
theorem Zdd (c:UInt8) (w:World):Calls Tryz.prog 127 #[.int .u8 c.toNat] w fun e w'=>e = .returned (.bool (Ze8 c))∧w=w':=by
 have hc:c.toNat < 256:=c.toNat_lt;go_enter Tryz.func127,Tryz.ntmps127
 go_wp2
 all_goals
  go_ret;refine ⟨Zaf ?_,rfl⟩;rw [Bool.eq_iff_iff];simp [Ze8];omega
theorem Zgp (d:Int) (w:World):Calls Tryz.prog 47 #[.int .i64 d] w fun e w'=>e = .returned (.bool (Zbh d))∧w=w':=by
 go_enter Tryz.func47,Tryz.ntmps47
 go_wp2
 all_goals
  go_ret;refine ⟨Zaf ?_,rfl⟩;rw [Bool.eq_iff_iff];simp [Zbh];omega
theorem Zl4 {l:List UInt8} (h:l.length=0):isNm l=false:=by simp [isNm,h]
theorem Zou {l:List UInt8} (h:40 < l.length):isNm l=false:=by
 have:decide (l.length≤40)=false:=by simpa using h
 simp [isNm,this]
theorem Zwe (s:ByteArray) (h1:0 < s.size) (h2:s.size≤40):isNm (bl s)=(Ze8 s[0] && (bl s).all Zf8):=by
 have e:=Zby s h1;have a1:decide (1≤(bl s).length)=true:=by rw [Zae,decide_eq_true_eq];omega
 have a2:decide ((bl s).length≤40)=true:=by rw [Zae,decide_eq_true_eq];omega
 have a3:(bl s).head?.any Ze8=Ze8 s[0]:=by rw [e];rfl
 rw [isNm,a1,a2,a3];rfl
theorem Zfa {f:UInt8→Bool} {l:List UInt8} {k:Nat} (h:(l.take k).all f=false):l.all f=false:=by
 rw [Bool.eq_false_iff] at h ⊢;exact fun hh=>h (Zbc f l k hh)
theorem Zw2 (s:ByteArray) (w:World) (h:s.size=0∨40 < s.size) (hl:s.size≤9223372036854775807) :
  Calls Tryz.prog 67 #[.string s] w fun e w'=>e = .returned (.bool (isNm (bl s)))∧w=w':=by
 have HR:Hid (isNm (bl s)=false):=by
  show _=_;rcases h with h | h
  ·exact Zl4 (by rw [Zae];exact h)
  ·exact Zou (by rw [Zae];exact h)
 rcases h with h | h
 ·have d1:decide ((s.size:Int) < 1)=true:=by simp [h]
  clear h;go_enter Tryz.func67,Tryz.ntmps67
  go_wp2;go_ret;exact ⟨Zaf HR.out.symm,rfl⟩
 ·have d1:decide ((s.size:Int) < 1)=false:=by rw [decide_eq_false_iff_not];omega
  have d2:decide ((40:Int) < (s.size:Int))=true:=by rw [decide_eq_true_eq];omega
  clear hl;go_enter Tryz.func67,Tryz.ntmps67
  go_wp2;go_ret;exact ⟨Zaf HR.out.symm,rfl⟩
theorem Zw0 (s:ByteArray) (w:World) (h1:0 < s.size) (h2:s.size≤40) (h3:Ze8 s[0]=false) :
  Calls Tryz.prog 67 #[.string s] w fun e w'=>e = .returned (.bool (isNm (bl s)))∧w=w':=by
 have HR:Hid (isNm (bl s)=false):=by show _=_;rw [Zwe s h1 h2,h3];rfl
 have d1:decide ((s.size:Int) < 1)=false:=by rw [decide_eq_false_iff_not];omega
 have d2:decide ((40:Int) < (s.size:Int))=false:=by rw [decide_eq_false_iff_not];omega
 go_enter Tryz.func67,Tryz.ntmps67
 go_wp2_with (go_at_call 127;refine (Zdd _ _).mono ?_;rintro e w' ⟨rfl,rfl⟩);go_ret;exact ⟨Zaf HR.out.symm,rfl⟩
theorem Zw1 (s:ByteArray) (w:World) (h1:0 < s.size) (h2:s.size≤40) (h3:Ze8 s[0]=true) :
  Calls Tryz.prog 67 #[.string s] w fun e w'=>e = .returned (.bool (isNm (bl s)))∧w=w':=by
 have HR:Hid (isNm (bl s)=(bl s).all Zf8):=by show _=_;rw [Zwe s h1 h2,h3];rfl
 have d1:decide ((s.size:Int) < 1)=false:=by rw [decide_eq_false_iff_not];omega
 have d2:decide ((40:Int) < (s.size:Int))=false:=by rw [decide_eq_false_iff_not];omega
 go_enter Tryz.func67,Tryz.ntmps67
 go_wp2_with (go_at_call 127;refine (Zdd _ _).mono ?_;rintro e w' ⟨rfl,rfl⟩);go_loop [21] (fun i=>∃ k:Nat,k≤s.size∧i = .int .i64 k∧Hid (((bl s).take k).all Zf8=true)) (fun i=>s.size - (intOf i).toNat)
 case atStart=>exact ⟨0,Nat.zero_le _,rfl,Lh (by rfl)⟩
 case round =>
  obtain ⟨k,hk,rfl,Hall⟩:=hrel;clear h3 d1 d2;by_cases hlt:k < s.size
  ·have Hs:=Lh (Zdo Zf8 s k hlt);obtain ⟨c,hc⟩:∃ c,s[k]=c:=⟨_,rfl⟩
   rw [hc] at Hs;have hcb:c.toNat < 256:=c.toNat_lt
   cases hl:Ze8 c with
   | true =>
    have Hok:Hid (((bl s).take (k+1)).all Zf8=true):=by show _=_;rw [Hs.out,Hall.out,Zf8,hl];rfl
    go_wp2_with (go_at_call 127;refine (Zdd _ _).mono ?_;rintro e w' ⟨rfl,rfl⟩);go_round
    case rel=>exact ⟨k+1,by omega,by go_num,Hok⟩
    case measure=>simp [intOf];omega
   | false =>
    cases ho:Zow c with
    | true =>
     have Hok:Hid (((bl s).take (k+1)).all Zf8=true):=by show _=_;rw [Hs.out,Hall.out,Zf8,ho];simp
     have ho':=ho;simp only [Zow,Zav,Bool.or_eq_true,decide_eq_true_eq] at ho';clear ho;rcases ho' with h | h | h
     ·have t1:decide (((c.toNat:Nat):Int) < 48)=false:=by rw [decide_eq_false_iff_not];omega
      have t2:decide ((57:Int) < ((c.toNat:Nat):Int))=false:=by rw [decide_eq_false_iff_not];omega
      clear h;go_wp2_with (go_at_call 127;refine (Zdd _ _).mono ?_;rintro e w' ⟨rfl,rfl⟩);go_round
      case rel=>exact ⟨k+1,by omega,by go_num,Hok⟩
      case measure=>simp [intOf];omega
     ·have t1:decide (((c.toNat:Nat):Int) < 48)=false:=by rw [decide_eq_false_iff_not];omega
      have t2:decide ((57:Int) < ((c.toNat:Nat):Int))=true:=by rw [decide_eq_true_eq];omega
      have t3:(((c.toNat:Nat):Int) != 95)=false:=by rw [bne_eq_false_iff_eq];omega
      have t5:(((c.toNat:Nat):Int) == 95)=true:=by rw [beq_iff_eq];omega
      clear h;go_wp2_with (go_at_call 127;refine (Zdd _ _).mono ?_;rintro e w' ⟨rfl,rfl⟩);go_round
      case rel=>exact ⟨k+1,by omega,by go_num,Hok⟩
      case measure=>simp [intOf];omega
     ·have t1:decide (((c.toNat:Nat):Int) < 48)=true:=by rw [decide_eq_true_eq];omega
      have t3:(((c.toNat:Nat):Int) != 95)=true:=by rw [bne_iff_ne];omega
      have t5:(((c.toNat:Nat):Int) == 95)=false:=by rw [beq_eq_false_iff_ne];omega
      have t4:(((c.toNat:Nat):Int) != 45)=false:=by rw [bne_eq_false_iff_eq];omega
      have t6:(((c.toNat:Nat):Int) == 45)=true:=by rw [beq_iff_eq];omega
      clear h;go_wp2_with (go_at_call 127;refine (Zdd _ _).mono ?_;rintro e w' ⟨rfl,rfl⟩);go_round
      case rel=>exact ⟨k+1,by omega,by go_num,Hok⟩
      case measure=>simp [intOf];omega
    | false =>
     have Hno:Hid (isNm (bl s)=false):=by
      show _=_;rw [HR.out];exact Zfa (k:=k+1) (by rw [Hs.out,Zf8,hl,ho];simp)
     have ho':=ho;simp only [Zow,Zav,Bool.or_eq_false_iff,decide_eq_false_iff_not] at ho';obtain ⟨h0,h95,h45⟩:=ho';have t3:(((c.toNat:Nat):Int) != 95)=true:=by rw [bne_iff_ne];omega
     have t4:(((c.toNat:Nat):Int) != 45)=true:=by rw [bne_iff_ne];omega
     have t5:(((c.toNat:Nat):Int) == 95)=false:=by rw [beq_eq_false_iff_ne];omega
     have t6:(((c.toNat:Nat):Int) == 45)=false:=by rw [beq_eq_false_iff_ne];omega
     clear ho h95 h45;by_cases h48:c.toNat < 48
     ·have t1:decide (((c.toNat:Nat):Int) < 48)=true:=by rw [decide_eq_true_eq];omega
      clear h0 h48;go_wp2_with (go_at_call 127;refine (Zdd _ _).mono ?_;rintro e w' ⟨rfl,rfl⟩);go_ret;exact ⟨Zaf Hno.out.symm,rfl⟩
     ·have t1:decide (((c.toNat:Nat):Int) < 48)=false:=by rw [decide_eq_false_iff_not];omega
      have t2:decide ((57:Int) < ((c.toNat:Nat):Int))=true:=by rw [decide_eq_true_eq];omega
      clear h0 h48;go_wp2_with (go_at_call 127;refine (Zdd _ _).mono ?_;rintro e w' ⟨rfl,rfl⟩);go_ret;exact ⟨Zaf Hno.out.symm,rfl⟩
  ·obtain rfl:k=s.size:=by omega
   have HY:Hid (isNm (bl s)=true):=by
    show _=_;rw [HR.out,← Hall.out,List.take_of_length_le (by rw [Zae];exact Nat.le_refl _)]
   go_wp2;go_ret;exact ⟨Zaf HY.out.symm,rfl⟩
theorem Zh2 (s:ByteArray) (w:World) (hl:s.size≤9223372036854775807) :
  Calls Tryz.prog 67 #[.string s] w fun e w'=>e = .returned (.bool (isNm (bl s)))∧w=w':=by
 by_cases h1:0 < s.size
 ·by_cases h2:s.size≤40
  ·cases h3:Ze8 s[0] with
   | true=>exact Zw1 s w h1 h2 h3
   | false=>exact Zw0 s w h1 h2 h3
  ·exact Zw2 s w (.inr (by omega)) hl
 ·exact Zw2 s w (.inl (by omega)) hl
theorem Zgw (d:Int) (w:World):Calls Tryz.prog 68 #[.int .i64 d] w fun e w'=>e = .returned (.bool (Zbh d))∧w=w':=by
 go_enter Tryz.func68,Tryz.ntmps68
 go_wp2
 all_goals
  go_ret;refine ⟨Zaf ?_,rfl⟩;rw [Bool.eq_iff_iff];simp [Zbh];omega
end Go.Proofs.YtknpnhodpgajbaaGreatDoor
