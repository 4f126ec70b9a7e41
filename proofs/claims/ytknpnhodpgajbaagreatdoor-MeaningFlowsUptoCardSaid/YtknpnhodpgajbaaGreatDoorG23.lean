/- A part. -/
import Derived.Test.YtknpnhodpgajbaaGreatDoorG15
import Derived.Deep.CutBlock
import Derived.ArgAppend
set_option maxHeartbeats 8000000
set_option maxRecDepth 100000
namespace Go.Proofs.YtknpnhodpgajbaaGreatDoor
open Go.RowKit
theorem Zxx {l:List UInt8} (h:∀ k:Nat,l[k]? ≠ some 47):Za2 (mkB l) = -1:=by
 rcases Zbr (mkB l) with k | ⟨o,k,_⟩
 ·exact k
 ·have:=(Zeh k).1
  rw [Zd8] at this;exact absurd this (h o)
theorem Zz6 {l m:List UInt8} (h:∀ k:Nat,l[k]? ≠ some 47):Za2 (mkB (l ++ [47] ++ m))=l.length:=by
 have hl:(l ++ [47] ++ m)[l.length]? = some 47:=by
  rw [List.append_assoc,List.getElem?_append_right (Nat.le_refl _)];simp
 rcases Zbr (mkB (l ++ [47] ++ m)) with k | ⟨o,k,_⟩
 ·exact absurd (by rw [Zd8];exact hl) (Zmi k l.length)
 ·rw [k];have h2:=Zeh k;rw [Zd8] at h2;by_cases h3:o < l.length
  ·have h4:=h2.1;rw [List.append_assoc,List.getElem?_append_left h3] at h4;exact absurd h4 (h o)
  ·by_cases h4:l.length < o
   ·exact absurd hl (h2.2 _ h4)
   ·have:o=l.length:=by omega
    rw [this]
theorem Zoa {l:List UInt8} (h:l.all Zav=true) (k:Nat):l[k]? ≠ some 47:=fun e=>by
 have:=List.all_eq_true.1 h 47 (List.mem_of_getElem? e)
 exact absurd this (by decide)
theorem Zwf (sg:Bool) (n:Nat):∃ d,d.all Zav=true∧(istr sg n=d∨istr sg n=45 :: d):=by
 by_cases h0:n=0
 ·subst h0;exact ⟨[48],by decide,.inl (by simp [istr])⟩
 ·rw [Zen sg h0];refine ⟨asc (Zfy n).reverse,Zvh (Dig.rev (Zdk n).1),?_⟩
  cases sg
  ·exact .inl rfl
  ·exact .inr rfl
theorem Zl6 (sg:Bool) (n:Nat) (k:Nat):(istr sg n)[k]? ≠ some 47:=by
 obtain ⟨d,hd,h | h⟩:=Zwf sg n
 ·rw [h];exact Zoa hd k
 ·rw [h]
  cases k with
  | zero=>simp
  | succ k=>rw [List.getElem?_cons_succ];exact Zoa hd k
theorem Zdf {sg:Bool} {N D:Nat} (h:Nat.gcd N D=1):Zbd sg N D=if D=1 then istr sg N else istr sg N ++ [47] ++ istr false D:=by
 unfold Zbd;rw [h,Nat.div_one,Nat.div_one]
theorem Zh8 (sg:Bool) (N D:Nat) (hD:0 < D):∃ N' D',Zbd sg N D=Zbd sg N' D'∧Nat.gcd N' D'=1∧0 < D'∧N'≤N∧D'≤D∧(N'=0 ↔ N=0):=by
 have hg:0 < Nat.gcd N D:=Nat.gcd_pos_of_pos_right _ hD;have h1:Nat.gcd (N / Nat.gcd N D) (D / Nat.gcd N D)=1:=Nat.gcd_div_gcd_div_gcd_of_pos_right hD;refine ⟨N / Nat.gcd N D,D / Nat.gcd N D,?_,h1,Nat.div_pos (Nat.le_of_dvd hD (Nat.gcd_dvd_right _ _)) hg,Nat.div_le_self _ _,Nat.div_le_self _ _,?_⟩
 ·rw [Zdf h1];rfl
 ·constructor
  ·intro h;have:=Nat.div_mul_cancel (Nat.gcd_dvd_left N D)
   rw [h] at this;omega
  ·rintro rfl;simp
theorem Zip (sg:Bool) {N D:Nat} (hN:N < ten 1000) (hD:D < ten 1000) (h0:0 < D) (hg:Nat.gcd N D=1) :
  Zah (mkB (Zbd sg N D))=0∧ival (bl (numS (mkB (Zbd sg N D))))=sgnv sg N∧ival (bl (denS (mkB (Zbd sg N D))))=D:=by
 rw [Zdf hg];by_cases h1:D=1
 ·rw [if_pos h1];have hs:=Zxx (Zl6 sg N);refine ⟨?_,?_,?_⟩
  ·rw [Zah,if_pos hs,Zd8];exact Zbw hN
  ·rw [numS,if_pos hs,Zd8,Zh0]
  ·rw [denS,if_pos hs,h1];decide
 ·rw [if_neg h1];have hs:=Zz6 (m:=istr false D) (Zl6 sg N);have hne : ¬ ((istr sg N).length:Int) = -1:=by omega
  have e1:(istr sg N ++ [47] ++ istr false D).take (istr sg N).length=istr sg N:=by rw [List.append_assoc,List.take_left'];rfl
  have e2:(istr sg N ++ [47] ++ istr false D).drop ((istr sg N).length+1)=istr false D:=by
   rw [List.drop_left'];simp
  refine ⟨?_,?_,?_⟩
  ·rw [Zah,hs,if_neg hne,Zd8];show Zbq (List.take (istr sg N).length _) (List.drop ((istr sg N).length+1) _)=0;rw [e1,e2];have hd:(istr false D).head? ≠ some 45:=by
    have:=Za8 false D
    rw [Zaj,Bool.false_and] at this;intro k;rw [k] at this;exact absurd this (by decide)
   have h48:istr false D ≠ [48]:=by
    intro k;have h2:=(Zfd (Zef false D)).1 k;rw [Zaq] at h2;omega
   have h49:istr false D ≠ [49]:=fun k=>h1 ((Zfr D).1 k)
   unfold Zbq;rw [if_neg (by rw [Zef];decide),if_neg (by rw [Zef];decide),if_neg hd,if_neg h48,if_neg h49,if_neg (fun k=>k (Zbw hN)),if_neg (fun k=>k (Zbw hD)),Zaq,Zaq,if_pos hg]
  ·rw [numS,hs,if_neg hne];show ival (bl ((mkB _).extract 0 (istr sg N).length))=_;rw [Zbe,Zd8,List.drop_zero,Nat.sub_zero,e1,Zh0]
  ·rw [denS,hs,if_neg hne];show ival (bl ((mkB _).extract ((istr sg N).length+1) _))=_;rw [Zbe,Zd8,e2,Ze2,List.take_of_length_le (by simp;omega),Zh0];rfl
theorem Zsi (sg:Bool) {N D:Nat} (hN:N < ten 1000) (hD:D < ten 1000) (h0:0 < D):Zah (mkB (Zbd sg N D))=0:=by
 obtain ⟨N',D',e,hg,h1,h2,h3,_⟩:=Zh8 sg N D h0;rw [e];exact (Zip sg (Nat.lt_of_le_of_lt h2 hN) (Nat.lt_of_le_of_lt h3 hD) h1 hg).1
theorem Zqo {l:List UInt8} (h:Zab l=0):l=istr (Zaj l) (dval (body l))∧dval (body l) < ten 1000:=⟨(Zdt (Zao h).1).symm,Zqn h⟩
theorem Zsh {t:ByteArray} (h:Zah t=0):∃ sg N D,t=mkB (Zbd sg N D)∧N < ten 1000∧D < ten 1000∧0 < D∧Nat.gcd N D=1∧(sg=true→N ≠ 0):=by
 unfold Zah at h;have hneg:∀ {l:List UInt8},Zab l=0→Zaj l=true→dval (body l) ≠ 0:=fun hl hn=>Zo0 (Zao hl).1 hn
 by_cases hs:Za2 t = -1
 ·rw [if_pos hs] at h;obtain ⟨h1,h2⟩:=Zqo h;refine ⟨Zaj (bl t),dval (body (bl t)),1,Zwu ?_,h2,?_,by decide,Nat.gcd_one_right _,hneg h⟩
  ·rw [Zdf (Nat.gcd_one_right _),if_pos rfl];exact h1
  ·have:ten 1≤ten 1000:=Zgt (by decide)
   exact Nat.lt_of_lt_of_le (by decide) this
 ·rw [if_neg hs] at h;rcases Zbr t with k | ⟨o,k,ho⟩
  ·exact absurd k hs
  rw [k] at h;have h47:=(Zeh k).1;have et:bl t=(bl t).take o ++ [47] ++ (bl t).drop (o+1):=by
   obtain ⟨h1,h2⟩:=List.getElem?_eq_some_iff.1 h47;conv=>lhs;rw [← List.take_append_drop o (bl t),List.drop_eq_getElem_cons h1,h2]
   simp
  have h:Zbq ((bl t).take o) ((bl t).drop (o+1))=0:=h;generalize (bl t).take o=n at h et;generalize (bl t).drop (o+1)=d at h et;unfold Zbq at h;by_cases c1:Zar n=false
  ·rw [if_pos c1] at h;cases h
  rw [if_neg c1] at h;by_cases c2:Zar d=false
  ·rw [if_pos c2] at h;cases h
  rw [if_neg c2] at h;by_cases c3:d.head? = some 45
  ·rw [if_pos c3] at h;cases h
  rw [if_neg c3] at h;by_cases c4:d=[48]
  ·rw [if_pos c4] at h;cases h
  rw [if_neg c4] at h;by_cases c5:d=[49]
  ·rw [if_pos c5] at h;cases h
  rw [if_neg c5] at h;by_cases c6:Zab n ≠ 0
  ·rw [if_pos c6] at h;cases h
  rw [if_neg c6] at h;by_cases c7:Zab d ≠ 0
  ·rw [if_pos c7] at h;cases h
  rw [if_neg c7] at h;by_cases c8:Nat.gcd (dval (body n)) (dval (body d))=1
  ·have k6:Zab n=0:=Decidable.not_not.1 c6;have k7:Zab d=0:=Decidable.not_not.1 c7;obtain ⟨n1,n2⟩:=Zqo k6;obtain ⟨d1,d2⟩:=Zqo k7;have hd:Zaj d=false:=by rw [Zaj];simpa using c3
   rw [hd] at d1;have e1:dval (body d) ≠ 1:=fun e=>c5 (by rw [d1,e];rfl)
   have e0:dval (body d) ≠ 0:=fun e=>c4 ((Zfd (Zao k7).1).2 e)
   refine ⟨Zaj n,dval (body n),dval (body d),Zwu ?_,n2,d2,by omega,c8,hneg k6⟩;rw [Zdf c8,if_neg e1,et,← n1,← d1]
  ·rw [if_neg c8] at h;cases h
theorem Zio (sg:Bool) {N D:Nat} (hD:0 < D):Zaj (Zbd sg N D)=(sg && decide (N ≠ 0)):=by
 obtain ⟨N',D',e,hg,h1,h2,h3,h4⟩:=Zh8 sg N D hD;have hz:decide (N ≠ 0)=decide (N' ≠ 0):=by rw [decide_eq_decide];exact ⟨fun k q=>k (h4.1 q),fun k q=>k (h4.2 q)⟩
 rw [e,hz,Zdf hg,← Za8];split
 ·rfl
 ·have hl:=Zjm sg N'
  cases hi:istr sg N' with
  | nil=>rw [hi] at hl;exact absurd hl (by decide)
  | cons c l=>rfl
theorem Zud (sg:Bool) {N D:Nat} (hD:0 < D):Zbd sg N D=[48] ↔ N=0:=by
 constructor
 ·intro h;obtain ⟨N',D',e,hg,h1,h2,h3,h4⟩:=Zh8 sg N D hD;rw [e,Zdf hg] at h;refine h4.1 ?_;split at h
  ·have:=(Zfd (Zef sg N')).1 h
   rwa [Zaq] at this
  ·have hl:=Zjm sg N';have:=congrArg List.length h
   simp at this
   omega
 ·rintro rfl;unfold Zbd;rw [Nat.gcd_zero_left,Nat.div_self hD,if_pos rfl,Nat.zero_div];rfl
theorem Zqy {N D:Nat} (hD:0 < D) (hN:N ≠ 0):(Zbd true N D).drop 1=Zbd false N D:=by
 have key:∀ n,n ≠ 0→istr true n=45 :: istr false n:=fun n hn=>by rw [Zen _ hn,Zen _ hn];rfl
 obtain ⟨N',D',e,hg,h1,h2,h3,h4⟩:=Zh8 true N D hD;have e':Zbd false N D=Zbd false N' D':=by
  have hgn:Nat.gcd N D=Nat.gcd N D:=rfl;unfold Zbd at e ⊢;rw [hg,Nat.div_one,Nat.div_one] at e ⊢;have hN0:N / Nat.gcd N D ≠ 0:=by
   have:=Nat.div_mul_cancel (Nat.gcd_dvd_left N D)
   intro k;rw [k] at this;omega
  have hN':N' ≠ 0:=fun k=>hN (h4.1 k)
  rw [key _ hN0,key _ hN'] at e;by_cases a1:D / Nat.gcd N D=1
  ·by_cases a2:D'=1
   ·rw [if_pos a1,if_pos a2] at e ⊢;exact List.cons.inj e |>.2
   ·rw [if_pos a1,if_neg a2] at e;rw [if_pos a1,if_neg a2];exact (List.cons.inj e).2
  ·by_cases a2:D'=1
   ·rw [if_neg a1,if_pos a2] at e;rw [if_neg a1,if_pos a2];exact (List.cons.inj e).2
   ·rw [if_neg a1,if_neg a2] at e ⊢;exact (List.cons.inj e).2
 rw [e,e',Zdf hg,Zdf hg,key N' (fun k=>hN (h4.1 k))];split <;> rfl
theorem Zyc {z:Int} (h:zErr z=0) (hz:0 < z):z.natAbs < ten 1000∧0 < z.natAbs:=⟨Zhj h,by omega⟩
theorem Zsx {a b:ByteArray} {z:Int} (h:sumE a b z=0):Zah (mkB (sumS a b z))=0:=by
 rw [sumS,if_pos h];unfold sumE at h;by_cases hb:bE a b ≠ 0
 ·rw [if_pos hb] at h;exact absurd h hb
 ·rw [if_neg hb] at h;obtain ⟨ra,rb,_,_,_,ea,_,eb⟩:=Zc8 (Decidable.not_not.1 hb);split at h
  ·cases h
  ·rename_i h2
   have h3:zErr z=0:=Decidable.not_not.1 fun k=>h2 (.inr (.inr (.inl k)))
   have h4:zErr (ival (bl (pD a)) * ival (bl (pD b)))=0:=Decidable.not_not.1 fun k=>h2 (.inr (.inr (.inr k)))
   have hp:0 < ival (bl (pD a)) * ival (bl (pD b)):=by rw [ea,eb];exact Int.mul_pos (Ze1 ra) (Ze1 rb)
   obtain ⟨h5,h6⟩:=Zyc h4 hp;exact Zsi _ (Zhj h3) h5 h6
theorem Zt6 {a b:ByteArray} (h:mulE a b=0):Zah a=0∧Zah b=0∧zErr (ival (bl (numS a)) * ival (bl (numS b)))=0∧zErr (ival (bl (denS a)) * ival (bl (denS b)))=0 ∧
  mulS a b=Zbd (decide (ival (bl (numS a)) * ival (bl (numS b)) < 0)) (ival (bl (numS a)) * ival (bl (numS b))).natAbs (ival (bl (denS a)) * ival (bl (denS b))).natAbs∧0 < ival (bl (denS a)) * ival (bl (denS b)):=by
 have h0:=h;unfold mulE frE at h;by_cases hb:bE a b ≠ 0
 ·rw [if_pos hb] at h;exact absurd h hb
 ·rw [if_neg hb] at h;obtain ⟨ra,rb,_,_,na,ea,nb,eb⟩:=Zc8 (Decidable.not_not.1 hb);split at h
  ·cases h
  ·rename_i h2
   have h3:=Decidable.not_not.1 fun k=>h2 (.inl k)
   have h4:=Decidable.not_not.1 fun k=>h2 (.inr k)
   have hp:0 < ival (bl (denS a)) * ival (bl (denS b)):=Int.mul_pos (Ze1 ra) (Ze1 rb);rw [na,nb] at h3;rw [ea,eb] at h4;refine ⟨ra,rb,h3,h4,?_,hp⟩;unfold mulE at h0;rw [mulS,frS,if_pos h0,na,nb,ea,eb,decide_eq_false (show ¬ ival (bl (denS a)) * ival (bl (denS b)) < 0 by omega)];congr 1
   cases decide (ival (bl (numS a)) * ival (bl (numS b)) < 0) <;> rfl
theorem Zr8 {a b:ByteArray} (h:mulE a b=0):Zah (mkB (mulS a b))=0:=by
 obtain ⟨_,_,h3,h4,e,hp⟩:=Zt6 h;rw [e];obtain ⟨h5,h6⟩:=Zyc h4 hp;exact Zsi _ (Zhj h3) h5 h6
theorem Z1s {k:Nat} {a b:ByteArray} (ha:Zah a=0) (hb:Zah b=0) (h:(op2 k a b).1=0):Zah (op2 k a b).2=0:=by
 unfold op2 at h ⊢;by_cases h4:k=4
 ·rw [if_pos h4] at h ⊢;exact Zsx h
 rw [if_neg h4] at h ⊢;by_cases h5:k=5
 ·rw [if_pos h5] at h ⊢;exact Zsx h
 rw [if_neg h5] at h ⊢;by_cases h6:k=6
 ·rw [if_pos h6] at h ⊢;exact Zr8 h
 rw [if_neg h6];by_cases h7:k=7
 ·rw [if_pos h7];show Zah (if cmpV a b < 0 then b else a)=0;split <;> assumption
 ·rw [if_neg h7];show Zah (if cmpV b a < 0 then b else a)=0;split <;> assumption
theorem Zet {F:List Fx} (hF:∀ f ∈ F,Zah f.vl=0) (day:Int):∀ (N:Nat) (x:Ex),x.bulk≤N→x.sort=1→(x.value F day).1=0→Zah (x.value F day).2=0
 | 0,x,hN,_,_=>by have:=x.sub_lt;omega
 | N+1,.mk k ra nm d l,hN,hs,h0=>by
  have IH:∀ y ∈ l,y.sort=1→(y.value F day).1=0→Zah (y.value F day).2=0:=fun y hy=>Zet hF day N y (by have:=Ex.mem_lt (x:=.mk k ra nm d l) hy;omega)
  have fk:∀ nm d,(fixR F nm d).1=0→Zah (fixR F nm d).2=0:=fun nm d h=>by
   rw [Zm7] at h ⊢
   cases hf:F.find? (fxIs ⟨nm,d,⟨#[]⟩⟩) with
   | none=>rw [hf] at h;cases h
   | some f=>exact hF f (List.mem_of_find?_eq_some hf)
  rcases Zh3 hs with ⟨rfl,rfl,h3⟩ | ⟨rfl,rfl⟩ | ⟨rfl,rfl⟩ | ⟨rfl,p,y,z,rfl,h1,h2,h3⟩ | ⟨h4,h8,y,z,rfl,h1,h2⟩
  ·have e:(Ex.mk 1 ra nm d []).value F day=(0,ra):=by simp [Ex.value]
   rw [e];exact h3
  ·have e:(Ex.mk 2 ra nm d []).value F day=fixR F nm d:=by simp [Ex.value]
   rw [e] at h0 ⊢;exact fk _ _ h0
  ·have e:(Ex.mk 3 ra nm d []).value F day=fixR F nm day:=by simp [Ex.value]
   rw [e] at h0 ⊢;exact fk _ _ h0
  ·have e:(Ex.mk 9 ra nm d [p,y,z]).value F day=andR (p.hold F day) ByteArray.empty fun b=>if b=true then y.value F day else z.value F day:=by
    rw [Ex.value,if_neg (by decide),if_neg (by decide),if_neg (by decide)]
   rw [e] at h0 ⊢;obtain ⟨_,e2⟩:=Zg7 h0;rw [e2] at h0 ⊢;by_cases hb:(p.hold F day).2=true
   ·rw [if_pos hb] at h0 ⊢;exact IH y (by simp) h2 h0
   ·rw [if_neg hb] at h0 ⊢;exact IH z (by simp) h3 h0
  ·have e:(Ex.mk k ra nm d [y,z]).value F day=andR (y.value F day) ByteArray.empty fun a=>andR (z.value F day) ByteArray.empty fun b=>op2 k a b:=by
    rw [Ex.value,if_neg (by omega),if_neg (by omega),if_neg (by omega)]
   rw [e] at h0 ⊢;obtain ⟨k1,e2⟩:=Zg7 h0;rw [e2] at h0 ⊢;obtain ⟨k2,e3⟩:=Zg7 h0;rw [e3] at h0 ⊢;exact Z1s (IH y (by simp) h1 k1) (IH z (by simp) h2 k2) h0
instance (k:Nat) (ra nm:ByteArray) (d:Int) (n:Nat):Decidable (Zb9 k ra nm d n):=by unfold Zb9;infer_instance
def m0:ByteArray:=⟨#[48]⟩
def m1:ByteArray:=⟨#[49]⟩
def m2:ByteArray:=⟨#[50]⟩
def m3:ByteArray:=⟨#[51]⟩
theorem Zrj (c:Con) (day fin:Int) (F:List Fx) (C:List Ch):(befR c day fin F C).2.length≤c.bulk:=by
 unfold befR;repeat' split
 all_goals first
  | exact Nat.zero_le _
  | skip
 unfold andR;split
 ·exact Nat.zero_le _
 ·show (Zbs _).length≤_;rw [Zeq];exact Zff F C c.bulk c (Nat.le_refl _) day fin
def kS (k:ByteArray):Int:=ival (bl (numS k))
theorem Zmr {a b:ByteArray} (ha:Zah a=0) (hb:Zah b=0):bE a b=0:=by rw [bE,if_pos ha,hb]
def m0T:ByteArray:=⟨#[48]⟩
theorem Zu8 {z:Int} (h:z.natAbs < ten 1000):zErr z=0:=(Zc3 h true).1
theorem Zmy {k:ByteArray} (h:Zah k=0):cmpE k m0T=0∧cmpV k m0T=sgnZ (kS k) 0:=by
 have r0:Zah m0T=0:=by decide +kernel
 have n0:ival (bl (numS m0T))=0:=by decide +kernel
 have d0:ival (bl (denS m0T))=1:=by decide +kernel
 have hb:bE k m0T=0:=Zmr h r0;obtain ⟨_,_,_,_,nk,dk,nz,dz⟩:=Zc8 hb;have eL:cmpL k m0T=kS k:=by rw [cmpL,nk,dz,d0,Int.mul_one];rfl
 have eR:cmpR k m0T=0:=by rw [cmpR,nz,n0,Int.zero_mul]
 have hs:(kS k).natAbs < ten 1000:=by
  obtain ⟨sg,N,D,rfl,hN,hD,h0,hg,_⟩:=Zsh h;rw [kS,(Zip sg hN hD h0 hg).2.1]
  cases sg <;> simp [sgnv] <;> exact hN
 have e:cmpE k m0T=0:=by
  rw [cmpE,if_neg fun q=>q hb,eL,eR,if_neg];rintro (q | q)
  ·exact q (Zu8 hs)
  ·exact q (by decide +kernel)
 exact ⟨e,by rw [cmpV,if_neg fun q=>q e,eL,eR]⟩
def Zb7 (is:Int→Int × Bool) (day fin:Int):List Int→Int × Int
 | []=>(0,fin)
 | d :: l=>if d < day∨fin≤d then Zb7 is day fin l else andR (is d) 0 (fun b=>if b=true then (0,d) else Zb7 is day fin l)
theorem Zj8 (is:Int→Int × Bool) (day fin:Int):∀ l:List Int,(∀ d ∈ l,fin≤d)→Zb7 is day fin l=(0,fin)
 | [],_=>rfl
 | d :: l,h=>by
  rw [Zb7,if_pos (.inr (h d (List.mem_cons_self ..)))];exact Zj8 is day fin l fun e he=>h e (List.mem_cons_of_mem _ he)
theorem Zhu (is:Int→Int × Bool) (day fin:Int):∀ l:List Int,l.Pairwise (· < ·)→Zb7 is day fin l=Zax is day fin l
 | [],_=>rfl
 | d :: l,h=>by
  have h2:=List.pairwise_cons.1 h;have ih:=Zhu is day fin l h2.2;rw [Zb7,Zax];by_cases h1:fin≤d
  ·rw [if_pos (.inr h1),if_pos h1];exact Zj8 is day fin l fun e he=>by have:=h2.1 e he;omega
  ·rw [if_neg h1];by_cases h3:day≤d
   ·rw [if_neg (by omega),if_pos h3,ih]
   ·rw [if_pos (by omega),if_neg h3,ih]
theorem Zzu {l:List Int} (h:Zk5 l l.length):l.Pairwise (· < ·) :=
 List.pairwise_iff_getElem.2 fun i j hi hj hij=>Zsm h j i _ _ hij hj (List.getElem?_eq_getElem hi) (List.getElem?_eq_getElem hj)
theorem Zp2 {l:List Int} (h:Zbi l=true):l.Pairwise (· < ·):=Zzu ((Zdc l).1 h).2.2
def insE (x:Fl):List Fl→List Fl
 | []=>[x]
 | y :: l=>if x.d < y.d then x :: y :: l else y :: insE x l
theorem Zww (x:Fl):∀ l:List Fl,Zc1 l [x]=insE x l
 | []=>by rw [Zeo];rfl
 | y :: l=>by
  rw [Zb4,insE];by_cases h:x.d < y.d
  ·rw [if_pos h,if_pos h,Zga]
  ·rw [if_neg h,if_neg h,Zww x l]
theorem Zuz (l:List Fl) (x:Fl):Zbs (l ++ [x])=insE x (Zbs l):=by
 rw [Zgg,show Zbs [x]=[x] from rfl,Zww]
theorem Zwd (x:Fl):∀ (l:List Fl) (k:Nat),Znw l→k≤l.length→(∀ j y,k≤j→l[j]? = some y→x.d < y.d)→(∀ j y,j < k→l[j]? = some y→y.d≤x.d)→insE x l=l.take k ++ x :: l.drop k
 | [],k,_,hk,_,_=>by
  have:k=0:=by simpa using hk
  subst this;rfl
 | y :: l,0,_,_,h1,_=>by
  rw [insE,if_pos (h1 0 y (Nat.le_refl _) rfl)];rfl
 | y :: l,k+1,hs,hk,h1,h2=>by
  have:=h2 0 y (by omega) rfl
  rw [insE,if_neg (by omega),Zwd x l k (List.pairwise_cons.1 hs).2 (by simpa using hk) (fun j z hj hz=>h1 (j+1) z (by omega) hz) (fun j z hj hz=>h2 (j+1) z (by omega) hz)];rfl
theorem Z3e {l:List Fl} (h:Znw l) {i j:Nat} {x y:Fl} (hij:i≤j) (hx:l[i]? = some x) (hy:l[j]? = some y):x.d≤y.d:=by
 rcases Nat.lt_or_eq_of_le hij with h1 | h1
 ·obtain ⟨hi,rfl⟩:=List.getElem?_eq_some_iff.1 hx;obtain ⟨hj,rfl⟩:=List.getElem?_eq_some_iff.1 hy;exact List.pairwise_iff_getElem.1 h i j hi hj h1
 ·subst h1;rw [hx] at hy;cases hy;exact Int.le_refl _
theorem Zl2 {x y:Fl} {l:List Fl} {k:Nat} (hs:Znw l) (hk:k≤l.length) (hall:∀ j z,k≤j→l[j]? = some z→x.d < z.d) (hy:k=0∨∃ i,k=i+1∧l[i]? = some y∧y.d≤x.d):insE x l=l.take k ++ x :: l.drop k:=by
 refine Zwd x l k hs hk hall fun j z hj hz=>?_
 rcases hy with h | ⟨i,h1,h2,h3⟩
 ·omega
 ·have:=Z3e hs (i:=j) (j:=i) (by omega) hz h2
  omega
theorem Zse {am:ByteArray} (h:Zah am=0) (d:Int) (fr rc cy:ByteArray):Zcd d fr rc cy am=if cmpV am m0T=0 then [] else if cmpV am m0T < 0 then [⟨d,rc,fr,cy,mkB ((bl am).drop 1)⟩] else [⟨d,fr,rc,cy,am⟩]:=by
 obtain ⟨c1,c2⟩:=Zmy h;obtain ⟨sg,N,D,rfl,hN,hD,h0,hg,hs⟩:=Zsh h;have hk:kS (mkB (Zbd sg N D))=sgnv sg N:=by rw [kS,(Zip sg hN hD h0 hg).2.1]
 rw [c2,hk];have hz:=Zud sg (N:=N) h0;have hn:=Zio sg (N:=N) h0;unfold Zcd;rw [Zd8,hn];by_cases hN0:N=0
 ·rw [if_pos (hz.2 hN0),if_pos];subst hN0;cases sg <;> rfl
 ·rw [if_neg fun q=>hN0 (hz.1 q)]
  cases sg
  ·have e:sgnZ (sgnv false N) 0=1:=by
    simp only [sgnZ,sgnv,Bool.false_eq_true,if_false];rw [if_neg (by omega),if_neg (by omega)]
   rw [e,Bool.false_and,if_neg Bool.false_ne_true,if_neg (by decide),if_neg (by decide)]
  ·have e:sgnZ (sgnv true N) 0 = -1:=by
    simp only [sgnZ,sgnv,if_true];rw [if_pos (by omega)]
   rw [e,Bool.true_and,if_pos (decide_eq_true hN0),if_neg (by decide),if_pos (by decide)]
theorem Zec (v:Value) (xs:List Nat) (k:Nat) (w:World) (hv:Sl w v 1 xs.length (nums .i64 xs)) (_:xs.length≤1000000) :
  Calls Tryz.prog 209 #[v,.int .i64 k] w fun e w'=>e = .returned (.int .i64 (xs.getD k 0:Nat))∧w=w':=by
 obtain ⟨ad,cap,rfl,h1,h3⟩:=hv.nums;clear hv;by_cases h:k < xs.length
 ·obtain ⟨b,off,rfl,hc⟩:=h3.resolve_left (by omega);have hck:=hc k h;clear hc h3;obtain ⟨y,hy⟩:∃ y,xs.getD k 0=y:=⟨_,rfl⟩
  rw [hy] at hck ⊢;go_enter Tryz.func209,Tryz.ntmps209
  go_wp2;go_ret;exact ⟨rfl,rfl⟩
 ·have e:xs.getD k 0=0:=by simp only [List.getD,List.getElem?_eq_none (by omega:xs.length≤k),Option.getD_none]
  rw [e];go_enter Tryz.func209,Tryz.ntmps209
  go_wp2;go_ret;exact ⟨rfl,rfl⟩
theorem Zro {b:Nat} (hb:1 < b) {xs ys:List Nat} (hx:Dig b xs) (hy:Dig b ys) (k:Nat) (h1:xs.length≤k) (h2:ys.length≤k):cmpD k xs ys=sgn (val b xs) (val b ys):=by
 rw [Zvn hb hx hy,List.take_of_length_le h1,List.take_of_length_le h2]
theorem Ztv (a b:Value) (xs ys:List Nat) (w:World) (ha:Sl w a 1 xs.length (nums .i64 xs)) (hb:Sl w b 1 ys.length (nums .i64 ys)) (dx:Dig 10 xs) (dy:Dig 10 ys) (lx:xs.length≤1000000) (ly:ys.length≤1000000) (hlt:xs.length < ys.length) :
  Calls Tryz.prog 198 #[a,b] w fun e w'=>e = .returned (.int .i64 (sgn (val 10 xs) (val 10 ys)))∧w=w':=by
 have HA:=Lh (fun k=>Zec a xs k w ha lx);have HB:=Lh (fun k=>Zec b ys k w hb ly);have HS:=Lh (Zro (by decide) dx dy ys.length (by omega) (by omega));obtain ⟨ad,ca,rfl,_⟩:=id ha;obtain ⟨bd,cb,rfl,_⟩:=id hb;clear ha hb dx dy;go_enter Tryz.func198,Tryz.ntmps198
 go_wp2;go_loopw [5] (fun i wr=>∃ k:Nat,k≤ys.length∧i = .int .i64 (k - 1)∧Hid (cmpD k xs ys=cmpD ys.length xs ys)∧Hid (wr=w))
  (fun i _=>(intOf i+1).toNat)
 case atStart=>exact ⟨ys.length,Nat.le_refl _,by go_num,rfl,rfl⟩
 case round =>
  obtain ⟨k,hk,rfl,Hrel,hw⟩:=hrel;obtain rfl:=hw.out;by_cases h0:0 < k
  ·obtain ⟨k,rfl⟩:∃ k',k=k'+1:=⟨k - 1,by omega⟩
   have e1:((k+1:Nat):Int) - 1=(k:Int):=by omega
   rw [e1];obtain ⟨x,hx⟩:∃ x,xs.getD k 0=x:=⟨_,rfl⟩
   obtain ⟨y,hy⟩:∃ y,ys.getD k 0=y:=⟨_,rfl⟩
   have HAk:=Lh (HA.out k);have HBk:=Lh (HB.out k);rw [hx] at HAk;rw [hy] at HBk;have Hx:=Lh hx;clear hx;have Hy:=Lh hy;clear hy;by_cases he:x=y
   ·subst he;have hq2:((x:Int) != (x:Int))=false:=by simp
    go_wp2_with fail;refine HAk.out.mono ?_;rintro e w1 ⟨rfl,rfl⟩;go_wp2_with fail;refine HBk.out.mono ?_;rintro e w1 ⟨rfl,rfl⟩;go_wp2;go_roundw
    case rel =>
     refine ⟨k,by omega,by go_num,?_,by first | exact rfl | exact trivial⟩;have e:=Hrel.out;rw [cmpD,if_pos (by rw [Hx.out,Hy.out])] at e;exact e
    case measure=>simp [intOf]
   ·have hne:((x:Int) != (y:Int))=true:=by rw [bne_iff_ne];omega
    by_cases hxy:x < y
    ·go_wp2_with fail;refine HAk.out.mono ?_;rintro e w1 ⟨rfl,rfl⟩;go_wp2_with fail;refine HBk.out.mono ?_;rintro e w1 ⟨rfl,rfl⟩;go_wp2_with fail;refine HAk.out.mono ?_;rintro e w1 ⟨rfl,rfl⟩;go_wp2_with fail;refine HBk.out.mono ?_;rintro e w1 ⟨rfl,rfl⟩;go_wp2;go_ret;refine ⟨Zal ?_,rfl⟩;have e:=Hrel.out;rw [cmpD,if_neg (by rw [Hx.out,Hy.out];exact he),if_pos (by rw [Hx.out,Hy.out];exact hxy)] at e;rw [← HS.out]
     exact e
    ·go_wp2_with fail;refine HAk.out.mono ?_;rintro e w1 ⟨rfl,rfl⟩;go_wp2_with fail;refine HBk.out.mono ?_;rintro e w1 ⟨rfl,rfl⟩;go_wp2_with fail;refine HAk.out.mono ?_;rintro e w1 ⟨rfl,rfl⟩;go_wp2_with fail;refine HBk.out.mono ?_;rintro e w1 ⟨rfl,rfl⟩;go_wp2;go_ret;refine ⟨Zal ?_,rfl⟩;have e:=Hrel.out;rw [cmpD,if_neg (by rw [Hx.out,Hy.out];exact he),if_neg (by rw [Hx.out,Hy.out];exact hxy)] at e;rw [← HS.out]
     exact e
  ·obtain rfl:k=0:=by omega
   go_wp2;go_ret;refine ⟨Zal ?_,rfl⟩;rw [← HS.out];exact Hrel.out
theorem Ztu (a b:Value) (xs ys:List Nat) (w:World) (ha:Sl w a 1 xs.length (nums .i64 xs)) (hb:Sl w b 1 ys.length (nums .i64 ys)) (dx:Dig 10 xs) (dy:Dig 10 ys) (lx:xs.length≤1000000) (ly:ys.length≤1000000) (hlt:ys.length≤xs.length) :
  Calls Tryz.prog 198 #[a,b] w fun e w'=>e = .returned (.int .i64 (sgn (val 10 xs) (val 10 ys)))∧w=w':=by
 have HA:=Lh (fun k=>Zec a xs k w ha lx);have HB:=Lh (fun k=>Zec b ys k w hb ly);have HS:=Lh (Zro (by decide) dx dy xs.length (by omega) (by omega));obtain ⟨ad,ca,rfl,_⟩:=id ha;obtain ⟨bd,cb,rfl,_⟩:=id hb;clear ha hb dx dy;go_enter Tryz.func198,Tryz.ntmps198
 go_wp2;go_loopw [5] (fun i wr=>∃ k:Nat,k≤xs.length∧i = .int .i64 (k - 1)∧Hid (cmpD k xs ys=cmpD xs.length xs ys)∧Hid (wr=w))
  (fun i _=>(intOf i+1).toNat)
 case atStart=>exact ⟨xs.length,Nat.le_refl _,by go_num,rfl,rfl⟩
 case round =>
  obtain ⟨k,hk,rfl,Hrel,hw⟩:=hrel;obtain rfl:=hw.out;by_cases h0:0 < k
  ·obtain ⟨k,rfl⟩:∃ k',k=k'+1:=⟨k - 1,by omega⟩
   have e1:((k+1:Nat):Int) - 1=(k:Int):=by omega
   rw [e1];obtain ⟨x,hx⟩:∃ x,xs.getD k 0=x:=⟨_,rfl⟩
   obtain ⟨y,hy⟩:∃ y,ys.getD k 0=y:=⟨_,rfl⟩
   have HAk:=Lh (HA.out k);have HBk:=Lh (HB.out k);rw [hx] at HAk;rw [hy] at HBk;have Hx:=Lh hx;clear hx;have Hy:=Lh hy;clear hy;by_cases he:x=y
   ·subst he;have hq2:((x:Int) != (x:Int))=false:=by simp
    go_wp2_with fail;refine HAk.out.mono ?_;rintro e w1 ⟨rfl,rfl⟩;go_wp2_with fail;refine HBk.out.mono ?_;rintro e w1 ⟨rfl,rfl⟩;go_wp2;go_roundw
    case rel =>
     refine ⟨k,by omega,by go_num,?_,by first | exact rfl | exact trivial⟩;have e:=Hrel.out;rw [cmpD,if_pos (by rw [Hx.out,Hy.out])] at e;exact e
    case measure=>simp [intOf]
   ·have hne:((x:Int) != (y:Int))=true:=by rw [bne_iff_ne];omega
    by_cases hxy:x < y
    ·go_wp2_with fail;refine HAk.out.mono ?_;rintro e w1 ⟨rfl,rfl⟩;go_wp2_with fail;refine HBk.out.mono ?_;rintro e w1 ⟨rfl,rfl⟩;go_wp2_with fail;refine HAk.out.mono ?_;rintro e w1 ⟨rfl,rfl⟩;go_wp2_with fail;refine HBk.out.mono ?_;rintro e w1 ⟨rfl,rfl⟩;go_wp2;go_ret;refine ⟨Zal ?_,rfl⟩;have e:=Hrel.out;rw [cmpD,if_neg (by rw [Hx.out,Hy.out];exact he),if_pos (by rw [Hx.out,Hy.out];exact hxy)] at e;rw [← HS.out]
     exact e
    ·go_wp2_with fail;refine HAk.out.mono ?_;rintro e w1 ⟨rfl,rfl⟩;go_wp2_with fail;refine HBk.out.mono ?_;rintro e w1 ⟨rfl,rfl⟩;go_wp2_with fail;refine HAk.out.mono ?_;rintro e w1 ⟨rfl,rfl⟩;go_wp2_with fail;refine HBk.out.mono ?_;rintro e w1 ⟨rfl,rfl⟩;go_wp2;go_ret;refine ⟨Zal ?_,rfl⟩;have e:=Hrel.out;rw [cmpD,if_neg (by rw [Hx.out,Hy.out];exact he),if_neg (by rw [Hx.out,Hy.out];exact hxy)] at e;rw [← HS.out]
     exact e
  ·obtain rfl:k=0:=by omega
   go_wp2;go_ret;refine ⟨Zal ?_,rfl⟩;rw [← HS.out];exact Hrel.out
theorem Zdw (a b:Value) (xs ys:List Nat) (w:World) (ha:Sl w a 1 xs.length (nums .i64 xs)) (hb:Sl w b 1 ys.length (nums .i64 ys)) (dx:Dig 10 xs) (dy:Dig 10 ys) (lx:xs.length≤1000000) (ly:ys.length≤1000000) :
  Calls Tryz.prog 198 #[a,b] w fun e w'=>e = .returned (.int .i64 (sgn (val 10 xs) (val 10 ys)))∧w=w':=by
 rcases Nat.lt_or_ge xs.length ys.length with h | h
 ·exact Ztv a b xs ys w ha hb dx dy lx ly h
 ·exact Ztu a b xs ys w ha hb dx dy lx ly h
theorem Zns (a:Value) (xs:List Nat) (w:World) (ha:Sl w a 1 xs.length (nums .i64 xs)) (dx:Dig 10 xs) (lx:xs.length≤1000000) :
  Calls Tryz.prog 179 #[a] w fun e w'=>e = .returned (.bool (val 10 xs == 0))∧w=w':=by
 have C:=Zdw a (.slice none 0 0) xs [] w ha (Sl.nil _ _) dx (Dig.nil _) lx (by simp);have e:(val 10 xs == 0)=(sgn (val 10 xs) (val 10 []) == 0):=by
  show (val 10 xs == 0)=(sgn (val 10 xs) 0 == 0);by_cases h:val 10 xs=0
  ·rw [h];rfl
  ·rw [Zjb (by omega)];have:(val 10 xs == 0)=false:=by simpa using h
   rw [this];rfl
 rw [e];obtain ⟨S,hS⟩:∃ S,sgn (val 10 xs) (val 10 [])=S:=⟨_,rfl⟩
 rw [hS] at C ⊢;have HC:=Lh C;clear C hS e ha dx;go_enter Tryz.func179,Tryz.ntmps179
 go_wp2_with fail;refine HC.out.mono ?_;rintro e w' ⟨rfl,rfl⟩;go_wp2;go_ret;exact ⟨rfl,rfl⟩
def MInv (xs ys o:List Nat) (k c:Nat):Prop :=
 o.length=k∧Dig 10 o∧val 10 (xs.take k)+c * 10 ^ k=val 10 o+val 10 (ys.take k)
theorem MInv.start (xs ys:List Nat):MInv xs ys [] 0 0:=⟨rfl,Dig.nil _,by simp [val]⟩
theorem Z20 (A Bv O P x y c d r:Nat) (h:A+c * P=O+Bv) (hd:d+y+c=x+r * 10):(A+P * x)+r * (P * 10)=(O+P * d)+(Bv+P * y):=by
 have e1:P * (d+y+c)=P * (x+r * 10):=by rw [hd]
 rw [Nat.mul_add,Nat.mul_add,Nat.mul_add] at e1;have e2:P * (r * 10)=r * (P * 10):=by rw [← Nat.mul_assoc,← Nat.mul_assoc,Nat.mul_comm P r]
 rw [e2] at e1;rw [Nat.mul_comm c P] at h;omega
theorem MInv.step {xs ys o:List Nat} {k c d r:Nat} (h:MInv xs ys o k c) (hd:d < 10) (e:d+ys.getD k 0+c=xs.getD k 0+r * 10):MInv xs ys (o ++ [d]) (k+1) r:=by
 obtain ⟨h1,h2,h3⟩:=h;refine ⟨by simp [h1],h2.snoc hd,?_⟩;rw [Zam,Zam,Zdr,h1,Nat.pow_succ];exact Z20 _ _ _ _ _ _ _ _ _ h3 e
theorem Zg5 {ys:List Nat} {k:Nat} (h:val 10 ys < 10 ^ k):val 10 (ys.take k)=val 10 ys:=by
 by_cases hk:k≤ys.length
 ·have e:=Zes 10 ys k hk;by_cases h0:val 10 (ys.drop k)=0
  ·rw [h0] at e;omega
  ·have:10 ^ k * 1≤10 ^ k * val 10 (ys.drop k):=Nat.mul_le_mul_left _ (by omega)
   omega
 ·rw [List.take_of_length_le (by omega)]
theorem MInv.fin {xs ys o:List Nat} {c:Nat} (h:MInv xs ys o xs.length c) (dx:Dig 10 xs) (hle:val 10 ys≤val 10 xs) (hc:c≤1) :
  val 10 o=val 10 xs - val 10 ys:=by
 obtain ⟨h1,h2,h3⟩:=h;have hx:=Zc2 dx;rw [List.take_of_length_le (Nat.le_refl _),Zg5 (by omega)] at h3;have h4:=Zc2 h2;rw [h1] at h4;by_cases h0:c=0
 ·subst h0;omega
 ·obtain rfl:c=1:=by omega
  omega
def Zhm (W:World) (w:World) (v:Value) (rs:List Nat):Prop :=
 w.ownsRow W.heap.size 3 1 v rs.length (nums .i64 rs)∧Dig 10 rs∧Below W.heap.size W w
theorem Zir (a b:Value) (xs ys:List Nat) (w:World) (ha:Sl w a 1 xs.length (nums .i64 xs)) (hb:Sl w b 1 ys.length (nums .i64 ys))
  (dx:Dig 10 xs) (dy:Dig 10 ys) (hle:val 10 ys≤val 10 xs) (lx:xs.length≤1000000) (ly:ys.length≤1000000) :
  Calls Tryz.prog 199 #[a,b] w fun e w'=>∃ v rs,e = .returned v∧Zhm w w' v rs∧rs.length=xs.length∧val 10 rs=val 10 xs - val 10 ys:=by
 obtain ⟨i0,hi,hz0,hz1,hz2⟩:=info_parts Tryz.info_int;obtain ⟨ad,ca,rfl,h1,h3⟩:=ha.nums;obtain ⟨bd,cb,rfl,_⟩:=id hb;have HB:=Lh (fun W (hW:Below w.heap.size w W) k m=>(Zec _ ys k (W.drewN m) ((hb.below hW).drewN m) ly).mono fun _ _ h=>And.intro h.1 h.2.symm);have Hle:=Lh hle;have Hdx:=Lh dx;clear ha hb hle;go_enter Tryz.func199,Tryz.ntmps199
 go_wp2_with fail;go_loopw [5,6,7] (fun o c i wr=>∃ (k b1:Nat) (os:List Nat) (adb:Option Addr) (capb:Nat),k≤xs.length∧b1≤1∧i = .int .i64 k∧c = .int .i64 b1∧o = .slice adb k capb ∧
   wr.ownsRow w.heap.size 3 1 (.slice adb k capb) k (nums .i64 os)∧Hid (MInv xs ys os k b1)∧Below w.heap.size w wr)
  (fun _ _ i _=>xs.length - (intOf i).toNat)
 case atStart=>exact ⟨0,0,[],none,0,Nat.zero_le _,by omega,rfl,rfl,rfl,World.ownsRow_nil _ _ _ _,MInv.start _ _,Below.refl _ _⟩
 case round =>
  obtain ⟨k,b1,os,adb,capb,hk,hb1,rfl,rfl,rfl,hown,Hinv,hbel⟩:=hrel;by_cases hlt:k < xs.length
  ·obtain ⟨b,off,rfl,hc⟩:=h3.resolve_left (by omega);have hck:=cell_later hbel (hc k hlt);have hx9:=dx.at (by decide) k;have hy9:=dy.at (by decide) k;have HBk:=Lh (HB.out wr hbel k);obtain ⟨x,hx⟩:∃ x,x=xs.getD k 0:=⟨_,rfl⟩
   obtain ⟨y,hy⟩:∃ y,y=ys.getD k 0:=⟨_,rfl⟩
   rw [← hx] at hck hx9;rw [← hy] at hy9 HBk;have Hx:=Lh hx;clear hx;have Hy:=Lh hy;clear hy;clear hc h3;have hsz:=hbel.size;by_cases hxy:x < y+b1
   ·have dn:decide ((x:Int) - (y:Int) - (b1:Int) < 0)=true:=by rw [decide_eq_true_eq];omega
    have dn':(x:Int) - (y:Int) - (b1:Int) < 0:=by omega
    go_wp2_with fail;go_quiet ((go_at_call 209;refine Calls.quiet_of_same (HBk.out _)))
    go_wp2_with (at_builtin;refine wpList_append_own _ rfl _ _ 26 rfl w.heap.size 3 i0 (.int .i64 0) 1 8 Tryz.ul_ints hi hz0 hz1 hz2 rfl (by decide) _ _ _ rfl ((Zca hown (fun _ _ _=>rfl)).alloc _) ⟨wr.heap.size,0,none⟩ 1 1 [_] rfl rfl (cell_one_new _ _ _) (Zas _ _) ?d1 ?d2 ?d3 ?_)
    case d1=>unfold maxLen;omega
    case d2=>omega
    case d3=>simp;omega
    intro v2 w2 hown2 hgrow2 _;have hbel2:Below w.heap.size w w2:=((below_drewN hbel _).alloc hsz _).grown hgrow2 (by simp;omega) (fun k hk=>(hown.lt k hk).1);have ed:(x:Int) - (y:Int) - (b1:Int)+10=((x+10 - y - b1:Nat):Int):=by omega
    rw [ed,Za1] at hown2;have HI:Hid (MInv xs ys (os ++ [x+10 - y - b1]) (k+1) 1):=Hinv.out.step (by omega) (by rw [← Hx.out,← Hy.out];omega);obtain ⟨ad3,cap3,rfl,_⟩:=Sl.of_owns hown2;clear hgrow2 hown hbel ed;go_wp2;go_roundw
    case rel=>exact ⟨k+1,1,_,ad3,cap3,by omega,by omega,by go_num,rfl,rfl,hown2,HI,hbel2⟩
    case measure=>simp [intOf];omega
   ·have dn:decide ((x:Int) - (y:Int) - (b1:Int) < 0)=false:=by rw [decide_eq_false_iff_not];omega
    have dn' : ¬ ((x:Int) - (y:Int) - (b1:Int) < 0):=by omega
    go_wp2_with fail;go_quiet ((go_at_call 209;refine Calls.quiet_of_same (HBk.out _)))
    go_wp2_with (at_builtin;refine wpList_append_own _ rfl _ _ 26 rfl w.heap.size 3 i0 (.int .i64 0) 1 8 Tryz.ul_ints hi hz0 hz1 hz2 rfl (by decide) _ _ _ rfl ((Zca hown (fun _ _ _=>rfl)).alloc _) ⟨wr.heap.size,0,none⟩ 1 1 [_] rfl rfl (cell_one_new _ _ _) (Zas _ _) ?d1 ?d2 ?d3 ?_)
    case d1=>unfold maxLen;omega
    case d2=>omega
    case d3=>simp;omega
    intro v2 w2 hown2 hgrow2 _;have hbel2:Below w.heap.size w w2:=((below_drewN hbel _).alloc hsz _).grown hgrow2 (by simp;omega) (fun k hk=>(hown.lt k hk).1);have ed:(x:Int) - (y:Int) - (b1:Int)=((x - y - b1:Nat):Int):=by omega
    rw [ed,Za1] at hown2;have HI:Hid (MInv xs ys (os ++ [x - y - b1]) (k+1) 0):=Hinv.out.step (by omega) (by rw [← Hx.out,← Hy.out];omega);obtain ⟨ad3,cap3,rfl,_⟩:=Sl.of_owns hown2;clear hgrow2 hown hbel ed;go_wp2;go_roundw
    case rel=>exact ⟨k+1,0,_,ad3,cap3,by omega,by omega,by go_num,rfl,rfl,hown2,HI,hbel2⟩
    case measure=>simp [intOf];omega
  ·obtain rfl:k=xs.length:=by omega
   have HF:=Lh (Hinv.out.fin Hdx.out Hle.out hb1);have hos:=Hinv.out.1;have Hdig:=Lh Hinv.out.2.1;rw [← hos] at hown;have HO:Hid (Zhm w wr (.slice adb os.length capb) os):=⟨hown,Hdig.out,hbel⟩
   rw [hos] at HO;have Hos:=Lh hos;clear hown hos hbel;go_wp2;go_ret;exact ⟨_,os,rfl,HO.out,Hos.out,HF.out⟩
def Znv (xs os rs:List Nat) (B n k:Nat):Prop :=
 os.length=xs.length∧Dig 10 os∧Dig 10 rs∧rs.length≤n+1∧val 10 rs < B∧val 10 (xs.drop k)=B * val 10 (os.drop k)+val 10 rs∧∀ i,i < k→os.getD i 0=0
theorem Znv.start (xs:List Nat) (B n:Nat) (hB:0 < B):Znv xs (List.replicate xs.length 0) [] B n xs.length :=
 ⟨by simp,fun x hx=>by rw [(List.mem_replicate.1 hx).2];decide,Dig.nil _,by simp,hB,by simp [val],fun i hi=>by simp [List.getD,hi]⟩
def DIn (xs os rs:List Nat) (B n k q:Nat):Prop :=
 os.length=xs.length∧Dig 10 os∧Dig 10 rs∧rs.length≤n+1∧q < 10∧os.getD k 0=q∧val 10 rs+q * B < 10 * B∧val 10 (xs.drop k)=B * val 10 (os.drop k)+val 10 rs∧∀ i,i < k→os.getD i 0=0
theorem DIn.start {xs os rs ts:List Nat} {B n k x:Nat} (h:Znv xs os rs B n (k+1)) (hk:k < xs.length) (hx:xs.getD k 0=x) (dx:x < 10) (hts:val 10 ts=x+10 * val 10 rs) (hd:Dig 10 ts) (hl:ts.length≤n+1):DIn xs os ts B n k 0:=by
 obtain ⟨h1,h2,h3,h4,h5,h6,h7⟩:=h;have e0:=h7 k (by omega);refine ⟨h1,h2,hd,hl,by decide,e0,by omega,?_,fun i hi=>h7 i (by omega)⟩;rw [Zee _ xs _ hk,Zee _ os _ (by omega),h6,e0,hx,hts];grind
theorem DIn.step {xs os rs ts:List Nat} {B n k q:Nat} (h:DIn xs os rs B n k q) (hk:k < xs.length) (hle:B≤val 10 rs) (hts:val 10 ts=val 10 rs - B) (hd:Dig 10 ts) (hl:ts.length=rs.length):DIn xs (os.set k (q+1)) ts B n k (q+1):=by
 obtain ⟨h1,h2,h3,h4,h5,h6,h7,h8,h9⟩:=h;have hq:(q+1) * B < 10 * B:=by rw [Nat.add_mul];omega
 have hq10:q+1 < 10:=Nat.lt_of_mul_lt_mul_right hq;refine ⟨by simpa using h1,h2.set _ hq10,hd,by omega,hq10,?_,?_,?_,fun i hi=>?_⟩
 ·simp [List.getD,show k < os.length by omega]
 ·rw [Nat.add_mul];omega
 ·rw [h8,Zee _ os _ (by omega),Zee _ (os.set k (q+1)) _ (by simp;omega),List.drop_set_of_lt (by omega),h6];have e6:(os.set k (q+1)).getD k 0=q+1:=by simp [List.getD,show k < os.length by omega]
  rw [e6,hts];have e1:B * (q+1+10 * val 10 (os.drop (k+1)))=B * (q+10 * val 10 (os.drop (k+1)))+B:=by grind
  rw [e1];omega
 ·have:=h9 i hi
  simp only [List.getD] at this ⊢;rw [List.getElem?_set_ne (by omega)];exact this
theorem DIn.fin {xs os rs:List Nat} {B n k q:Nat} (h:DIn xs os rs B n k q) (hlt:val 10 rs < B):Znv xs os rs B n k:=by
 obtain ⟨h1,h2,h3,h4,h5,h6,h7,h8,h9⟩:=h;exact ⟨h1,h2,h3,h4,hlt,h8,h9⟩
theorem Znv.fin {xs os rs:List Nat} {B n:Nat} (h:Znv xs os rs B n 0):val 10 os=val 10 xs / B∧val 10 rs=val 10 xs % B:=by
 obtain ⟨h1,h2,h3,h4,h5,h6,h7⟩:=h;rw [List.drop_zero,List.drop_zero] at h6;rw [h6];have hB:0 < B:=by omega
 exact ⟨by rw [Nat.mul_add_div hB,Nat.div_eq_of_lt h5];simp,by rw [Nat.mul_add_mod,Nat.mod_eq_of_lt h5]⟩
theorem Z1v (W:World) (k:IntKind) (r:Nat) (t:TypeId):(W.alloc (.cells #[.int k (r:Int)] t)).ownsRow W.heap.size t 1 (.slice (some ⟨W.heap.size,0,none⟩) 1 1) 1 (nums k [r]) :=
 ⟨rfl,.inr ⟨W.heap.size,1,#[.int k (r:Int)],rfl,Nat.le_refl _,heap_alloc_new W _,Nat.le_refl _,by decide,rfl,rfl⟩⟩
theorem Sl.cells_at {w:World} {ad:Option Addr} {size n cap:Nat} {cs:List Value} (h:Sl w (.slice ad n cap) size n cs) (hn:0 < n) :
  ∃ b off,ad=some ⟨b,off,none⟩∧∀ j u,cs[j]? = some u→w.cell? ⟨b,off+j,none⟩=some u:=by
 obtain ⟨_,_,e,_,_,h3⟩:=h
 cases e
 exact h3.resolve_left (by omega)
def Zrg (w:World) (xs ys:List Nat) (e:Ending) (w':World):Prop :=
 ∃ vq vr qs rs,e = .returned (.tuple #[vq,vr])∧Sl w' vq 1 qs.length (nums .i64 qs)∧Sl w' vr 1 rs.length (nums .i64 rs)∧Dig 10 qs∧Dig 10 rs∧qs.length=xs.length∧rs.length≤(Zan ys).length+1 ∧
  val 10 qs=val 10 xs / val 10 ys∧val 10 rs=val 10 xs % val 10 ys∧Below w.heap.size w w'
theorem Zk2 (a b:Value) (xs ys:List Nat) (w:World) (ha:Sl w a 1 xs.length (nums .i64 xs)) (hb:Sl w b 1 ys.length (nums .i64 ys))
  (dx:Dig 10 xs) (dy:Dig 10 ys) (hp:0 < val 10 ys) (lx:xs.length≤100000) (ly:ys.length≤100000) :
  Calls Tryz.prog 180 #[a,b] w (Zrg w xs ys):=by
 obtain ⟨i0,hi,hz0,hz1,hz2⟩:=info_parts Tryz.info_int;obtain ⟨ad,ca,rfl,h1,h3⟩:=ha.nums;obtain ⟨bd,cb,rfl,h4,h5⟩:=hb.nums;have hyp:0 < ys.length:=List.length_pos_iff.2 (fun e=>by rw [e] at hp;simp [val] at hp);have HB:=Lh hb;have Hp:=Lh hp;obtain ⟨bb,bo,rfl,h6⟩:=h5.resolve_left (by omega);clear ha hb hp h5;go_enter Tryz.func180,Tryz.ntmps180
 go_upto_block 0 with fail
 go_cut [6] from 12 to 23 (fun n wc=>∃ k:Nat,1≤k∧k≤ys.length∧n = .int .i64 k∧Hid (val 10 (ys.take k)=val 10 ys∧k≤(Zan ys).length)∧Hid (wc=w))
 case first =>
  go_wp2_with fail;go_loopw [6] (fun n wr=>∃ k:Nat,1≤k∧k≤ys.length∧n = .int .i64 k∧Hid (Zan (ys.take k)=Zan ys)∧Hid (wr=w))
   (fun n _=>(intOf n).toNat)
  case atStart=>exact ⟨ys.length,hyp,Nat.le_refl _,rfl,by show _=_;rw [List.take_of_length_le (Nat.le_refl _)],rfl⟩
  case round =>
   obtain ⟨k,hk1,hk2,rfl,Hv,hw⟩:=hrel;obtain rfl:=hw.out;by_cases h1k:1 < k
   ·obtain ⟨k,rfl⟩:∃ k',k=k'+1:=⟨k - 1,by omega⟩
    have hck:=h6 k (by omega);by_cases hz:ys.getD k 0=0
    ·have Hv2:Hid (Zan (ys.take k)=Zan ys):=by
      show _=_;rw [← Hv.out,Zco ys k (by omega) hz]
     rw [hz] at hck;clear hz;go_wp2;go_roundw
     case rel=>exact ⟨k,by omega,by omega,by go_num,Hv2,by first | exact rfl | exact trivial⟩
     case measure=>simp [intOf]
    ·have HvE:Hid (val 10 (ys.take (k+1))=val 10 ys∧k+1≤(Zan ys).length):=by
      refine ⟨by rw [← Zay,Hv.out,Zay],?_⟩;rw [← Hv.out,Zdq ys k (by omega) hz,List.length_take];omega
     obtain ⟨y,hy⟩:∃ y,ys.getD k 0=y:=⟨_,rfl⟩
     rw [hy] at hck hz;have hyb:((y:Int) == 0)=false:=by rw [beq_eq_false_iff_ne];omega
     clear hy;go_wp2;go_meet
     exact ⟨k+1,by omega,hk2,rfl,HvE,by first | exact rfl | exact trivial⟩
   ·obtain rfl:k=1:=by omega
    have HvE:Hid (val 10 (ys.take 1)=val 10 ys∧1≤(Zan ys).length):=by
     refine ⟨by rw [← Zay,Hv.out,Zay],?_⟩;refine List.length_pos_iff.2 (fun e=>?_);have h0:=Hp.out;rw [← Zay,e] at h0;simp [val] at h0
    go_wp2;go_meet
    exact ⟨1,by omega,hk2,rfl,HvE,by first | exact rfl | exact trivial⟩
 case rest =>
  obtain ⟨n,hn1,hn2,rfl,Hv,hw⟩:=hcut;have hW:=hw.out.symm;subst hW;have HnT:=Lh Hv.out.2;have HZ0:=HB.out.cut n hn2;rw [Nat.mul_one,Zb5] at HZ0;have hZ1:Sl w (.slice (some ⟨bb,bo,none⟩) n cb) 1 n (nums .i64 (ys.take n)):=HZ0;obtain ⟨zs,hzs⟩:∃ zs,ys.take n=zs:=⟨_,rfl⟩
  have Hzl:Hid (zs.length=n):=by show _=_;rw [← hzs,List.length_take];omega
  have Hzd:Hid (Dig 10 zs):=by show Dig _ _;rw [← hzs];exact dy.take _
  have Hzv:Hid (val 10 zs=val 10 ys):=by show _=_;rw [← hzs];exact Hv.out.1
  rw [hzs] at hZ1;obtain ⟨B,hB⟩:∃ B,val 10 ys=B:=⟨_,rfl⟩
  rw [hB] at Hzv Hp;have HBy:=Lh hB;have HBn:Hid (B < 10 ^ n):=by show _ < _;rw [← Hzv.out,← Hzl.out];exact Zc2 Hzd.out
  have HZ:=Lh hZ1;clear HZ0 hZ1 hzs hB Hv hw HB h6;have hn100:n≤100000:=by omega
  go_wp2_with (at_make;refine wpList_make_full _ rfl _ _ 26 rfl w.heap.size 3 i0 (.int .i64 0) 1 Tryz.ul_ints hi hz0 hz1 _ _ _ _ xs.length rfl rfl rfl rfl ?b2 ?b3 ?b4 ?_)
  case b2=>rw [hz2];omega
  case b3=>unfold maxLen;omega
  case b4=>exact Nat.le_refl _
  intro w1 hown hgrow;have hbel:Below w.heap.size w w1:=(Below.refl _ _).grown hgrow (Nat.le_refl _) (by simp);have hown1:w1.ownsRow w.heap.size 3 1 (.slice (some ⟨w.heap.size,0,none⟩) xs.length xs.length) xs.length (nums .i64 (List.replicate xs.length 0)):=by
   rw [toList_madeCells_one] at hown;simpa [nums] using hown
  clear hgrow hown;go_wp2_with fail;go_loopw [8,9] (fun r i wr=>∃ (k:Nat) (os rs:List Nat) (adr:Option Addr) (capr:Nat),k≤xs.length∧i = .int .i64 (k - 1)∧r = .slice adr rs.length capr ∧
    Sl wr (.slice adr rs.length capr) 1 rs.length (nums .i64 rs)∧(rs.length=0→adr=none∧capr=0) ∧
    wr.ownsRow w.heap.size 3 1 (.slice (some ⟨w.heap.size,0,none⟩) xs.length xs.length) xs.length (nums .i64 os)∧Hid (Znv xs os rs B n k)∧Below w.heap.size w wr)
   (fun _ i _=>(intOf i+1).toNat)
  case atStart=>exact ⟨xs.length,_,[],none,0,Nat.le_refl _,by go_num,rfl,Sl.nil _ _,fun _=>⟨rfl,rfl⟩,hown1,Znv.start xs B n Hp.out,hbel⟩
  case round =>
   clear hown1 hbel;obtain ⟨k,os,rs,adr,capr,hk,rfl,rfl,hS,hnil,hown,Hinv,hbel⟩:=hrel;by_cases h0:0 < k
   ·obtain ⟨k,rfl⟩:∃ k',k=k'+1:=⟨k - 1,by omega⟩
    have e1:((k+1:Nat):Int) - 1=(k:Int):=by omega
    rw [e1];obtain ⟨b,off,rfl,hc⟩:=h3.resolve_left (by omega);have hck:=cell_later hbel (hc k (by omega));have hx9:=dx.at (by decide) k;obtain ⟨x,hx⟩:∃ x,xs.getD k 0=x:=⟨_,rfl⟩
    rw [hx] at hck hx9;have Hx:=Lh hx;clear hx hc h3 e1;have hrl:rs.length≤n+1:=Hinv.out.2.2.2.1;go_upto_region 10 with fail
    go_cut [8] (fun r wc=>∃ (ar cr:Nat),r = .slice (some ⟨ar,0,none⟩) (rs.length+1) cr ∧
     wc.ownsRow wr.heap.size 3 1 (.slice (some ⟨ar,0,none⟩) (rs.length+1) cr) (rs.length+1) (nums .i64 (x :: rs))∧Below wr.heap.size wr wc)
    case first =>
     have ho1:=Z1v wr .i64 x 3;have hb1:Below wr.heap.size wr (wr.alloc (.cells #[.int .i64 (x:Int)] 3)):=(Below.refl _ _).alloc (Nat.le_refl _) _;by_cases hr0:rs.length=0
     ·obtain ⟨rfl,rfl⟩:=hnil hr0;have hrs:rs=[]:=List.eq_nil_of_length_eq_zero hr0;subst hrs;go_wp2_with (at_builtin;refine wpList_append_own_none _ _ 26 rfl wr.heap.size 3 i0 1 Tryz.ul_ints hi _ _ _ rfl ho1 rfl ?_);go_wp2;go_meet
      exact ⟨_,_,rfl,ho1,hb1⟩
     ·obtain ⟨rb,ro,rfl,hcs⟩:=Sl.cells_at hS (by omega);go_wp2_with (at_builtin;refine wpList_append_own _ rfl _ _ 26 rfl wr.heap.size 3 i0 (.int .i64 0) 1 8 Tryz.ul_ints hi hz0 hz1 hz2 rfl (by decide) _ _ _ rfl ho1 ⟨rb,ro,none⟩ rs.length capr (nums .i64 rs) rfl (by rw [Zhe,Nat.mul_one]) (fun j u hj=>by rw [Addr.add_lit];exact cell_later hb1 (hcs j u hj)) (Zo4 _ _) ?d1 ?d2 ?d3 ?_)
      case d1=>unfold maxLen;omega
      case d2=>omega
      case d3=>simp
      intro v2 w2 hown2 hgrow2 _;have hb2:Below wr.heap.size wr w2:=hb1.grown hgrow2 (by simp) (fun k hk=>(ho1.lt k hk).1);obtain ⟨g,cr,rfl,_⟩:=Zep hown2 (by omega);rw [Nat.add_comm 1 rs.length] at hown2 ⊢;go_wp2;go_meet
      exact ⟨_,_,rfl,hown2,hb2⟩
    case rest =>
     obtain ⟨ar,cr,rfl,hown2,hb2⟩:=hcut;have hbel2:Below w.heap.size w wc:=hbel.trans (hb2.mono hbel.size);have hownQ:=Zag hown hb2;have hSx:=Sl.of_owns hown2;have hcr:rs.length+1≤cr:=by
      obtain ⟨_,_,e,h,_⟩:=Zep hown2 (by omega)
      cases e;omega
     have hval:val 10 (x :: rs)=x+10 * val 10 rs:=rfl;have hdig:Dig 10 (x :: rs):=fun z hz=>by
      rcases List.mem_cons.1 hz with rfl | hz
      ·exact hx9
      ·exact Hinv.out.2.2.1 z hz
     have hlt10:val 10 (x :: rs) < 10 ^ (n+1):=by
      have h5:=Hinv.out.2.2.2.2.1;have:=HBn.out
      rw [hval,Nat.pow_succ];omega
     have Hval:=Lh hval;have Hdig:=Lh hdig;have Hlt10:=Lh hlt10;have HQ:=Lh hownQ;have Hb2:=Lh hbel2;clear hval hdig hlt10 hownQ hbel2 hown2 hb2 hown hS hbel hnil;go_upto_if 48 with (fail)
     go_cut [8] (fun r wd=>∃ (ts:List Nat) (ar cr:Nat),r = .slice (some ⟨ar,0,none⟩) ts.length cr∧Sl wd (.slice (some ⟨ar,0,none⟩) ts.length cr) 1 ts.length (nums .i64 ts)∧0 < ts.length ∧
      Hid (Dig 10 ts∧val 10 ts=x+10 * val 10 rs∧ts.length≤n+1)∧Hid (wd=wc))
     case first =>
      by_cases hlong:n < rs.length
      ·have dl:decide ((n:Int)+1 < (rs.length:Int)+1)=true:=by rw [decide_eq_true_eq];omega
       have hSc:=hSx.cut (n+1) (by omega);rw [Nat.mul_one,Zb5] at hSc;have hv:=Zg5 Hlt10.out;have hd:=Hdig.out.take (n+1);have htl:((x :: rs).take (n+1)).length=n+1:=by rw [List.length_take];simp;omega
       obtain ⟨ts,hts⟩:∃ ts,(x :: rs).take (n+1)=ts:=⟨_,rfl⟩
       rw [hts] at hSc hv hd htl;have HR:Hid (Dig 10 ts∧val 10 ts=x+10 * val 10 rs∧ts.length≤n+1):=⟨hd,by rw [hv];exact Hval.out,by omega⟩
       have Htl:=Lh htl;clear hts hv hd htl;go_wp2;go_meet
       exact ⟨ts,ar,cr,by rw [Htl.out],by rw [Htl.out];exact hSc,by rw [Htl.out];omega,HR,by first | exact rfl | exact trivial⟩
      ·have dl:decide ((n:Int)+1 < (rs.length:Int)+1)=false:=by rw [decide_eq_false_iff_not];omega
       have HR:Hid (Dig 10 (x :: rs)∧val 10 (x :: rs)=x+10 * val 10 rs∧(x :: rs).length≤n+1):=⟨Hdig.out,Hval.out,by simp;omega⟩
       go_wp2;go_meet
       exact ⟨x :: rs,ar,cr,rfl,hSx,by simp,HR,by first | exact rfl | exact trivial⟩
     case rest =>
      obtain ⟨ts,ar2,cr2,rfl,hT,htp,HT,hw2⟩:=hcut;have hW2:=hw2.out.symm;subst hW2;clear hSx hcr;have HI0:Hid (DIn xs os ts B n k 0):=DIn.start Hinv.out (by omega) Hx.out hx9 HT.out.2.1 HT.out.1 HT.out.2.2;go_wp2_with fail;go_loopg [8] (val 10 ts) (fun kk r wr2=>∃ (ts2 os2:List Nat) (q ar cr:Nat),val 10 ts2=kk∧r = .slice (some ⟨ar,0,none⟩) ts2.length cr ∧
       Sl wr2 (.slice (some ⟨ar,0,none⟩) ts2.length cr) 1 ts2.length (nums .i64 ts2)∧0 < ts2.length ∧
       wr2.ownsRow w.heap.size 3 1 (.slice (some ⟨w.heap.size,0,none⟩) xs.length xs.length) xs.length (nums .i64 os2)∧Hid (DIn xs os2 ts2 B n k q)∧Below w.heap.size w wr2)
      case atStart=>exact ⟨ts,os,0,ar2,cr2,rfl,rfl,hT,htp,HQ.out,HI0,Hb2.out⟩
      case round =>
       clear hT htp HT HI0 HQ Hb2;obtain ⟨ts2,os2,q,ar3,cr3,hkk,rfl,hT,htp,hown,HI,hbel⟩:=hrel;have Hkk:=Lh hkk;have hZ3:=HZ.out.below hbel;have htl:ts2.length≤n+1:=HI.out.2.2.2.1;have C:=Zdw _ _ ts2 zs wr hT (by rw [Hzl.out];exact hZ3) HI.out.2.2.1 Hzd.out (by omega) (by rw [Hzl.out];omega);rw [Hzv.out] at C;clear hkk;by_cases hlt:val 10 ts2 < B
       ·rw [Zlb hlt] at C;have HF:=Lh (HI.out.fin hlt);have HC:=Lh C;clear C hlt;go_wp2_with fail;refine HC.out.mono ?_;rintro e w3 ⟨rfl,rfl⟩;go_wp2;go_roundw
        case rel=>exact ⟨k,os2,ts2,_,cr3,by omega,by go_num,rfl,hT,fun e=>by omega,hown,HF,hbel⟩
        case measure=>simp [intOf]
       ·obtain ⟨S,hS⟩:∃ S,sgn (val 10 ts2) B=S:=⟨_,rfl⟩
        have hS0:(0:Int)≤S:=by
         rw [← hS];unfold sgn;rw [if_neg hlt];split <;> decide
        have dS:decide ((0:Int)≤S)=true:=by rw [decide_eq_true_eq];exact hS0
        rw [hS] at C;have HC:=Lh C;have HM:=Lh (Zir _ _ ts2 zs wr hT (by rw [Hzl.out];exact hZ3) HI.out.2.2.1 Hzd.out (by rw [Hzv.out];omega) (by omega) (by rw [Hzl.out];omega));have hle:B≤val 10 ts2:=by omega
        have Hle:=Lh hle;clear C hS hlt hle hZ3;go_wp2_with fail;refine HC.out.mono ?_;rintro e w3 ⟨rfl,rfl⟩;go_wp2_with fail;refine HM.out.mono ?_;rintro e w3 ⟨v,us,rfl,⟨hu1,hu2,hu3⟩,hul,huv⟩;obtain ⟨g,cg,rfl,hg1,_,_⟩:=Zep hu1 (by omega);have hq3:=Zag hown hu3;have hb3:Below w.heap.size w w3:=hbel.trans (hu3.mono hbel.size);have hq10:q < 10:=HI.out.2.2.2.2.1;have hol:k < os2.length:=by rw [HI.out.1];omega
        have hcq:=(hq3.cellAt k (by omega)).trans (Zbn .i64 os2 k hol);rw [HI.out.2.2.2.2.2.1] at hcq;have hfq:=hq3.frozenAt k;rw [Hzv.out] at huv;have HI2:Hid (DIn xs (os2.set k (q+1)) us B n k (q+1)):=HI.out.step (by omega) Hle.out huv hu2 hul;have hmeas:Hid (val 10 us < val 10 ts2):=by
         show _ < _;have:=Hp.out
         have:=Hle.out
         omega
        have est:=hq3.stored k (.int .i64 ((q+1:Nat):Int));have hgw:g ≠ w.heap.size:=by
         have:=hq3.lt w.heap.size rfl
         have:=hown.lt w.heap.size rfl
         omega
        have hSu:=(Sl.of_owns hu1).kept (fun j hj hjl=>est.2.block j hjl (by
         have e2:g=j:=by simpa [Value.ownBlock] using hj
         rw [← e2];exact fun e=>hgw (by simpa using e)))
        have hb4:=hb3.grown est.2 hb3.size (by intro j hj;simp at hj;omega);rw [Zc4] at est;have hup:0 < us.length:=by omega
        have HE:=Lh (And.intro est.1 (And.intro hSu hb4));clear est hSu hb4 hq3 hb3 hu1 hu2 hu3 huv hul hown hT hbel hgw hg1 HC HM;go_wp2;go_roundg (val 10 us)
        case measure=>rw [← Hkk.out];exact hmeas.out
        case rel=>exact ⟨us,os2.set k (q+1),q+1,g,cg,rfl,rfl,HE.out.2.1,hup,HE.out.1,HI2,HE.out.2.2⟩
   ·obtain rfl:k=0:=by omega
    have HF:=Lh Hinv.out.fin;have HP:Hid (Zrg w xs ys (.returned (.tuple #[.slice (some ⟨w.heap.size,0,none⟩) xs.length xs.length,.slice adr rs.length capr])) wr):=by
     refine ⟨_,_,os,rs,rfl,by rw [Hinv.out.1];exact Sl.of_owns hown,hS,Hinv.out.2.1,Hinv.out.2.2.1,Hinv.out.1,by have:=Hinv.out.2.2.2.1;have:=HnT.out;omega,by rw [HBy.out];exact HF.out.1,by rw [HBy.out];exact HF.out.2,hbel⟩
    clear hown hS hbel;go_wp2;go_ret2;exact HP.out
theorem Zl5 (xs:List Nat) (dx:Dig 10 xs):istr false (val 10 xs)=if (Zan xs).length=0 then [48] else asc (Zan xs).reverse:=by
 have hT:val 10 (Zan xs)=val 10 xs:=Zay 10 xs;have hN:Nrm 10 (Zan xs):=Za6 dx;have hd:Zfy (val 10 xs)=Zan xs:=by rw [← hT];exact Zm2 hN
 rw [istr,hd];by_cases h:(Zan xs).length=0
 ·have e:Zan xs=[]:=List.eq_nil_of_length_eq_zero h;rw [if_pos h,if_pos (by rw [← hT,e];rfl)]
 ·rw [if_neg h,if_neg (fun e=>h (by rw [(hN.val_zero (by decide)).1 (by rw [hT];exact e)];rfl))];rfl
def Zji (w:World) (l:List UInt8) (e:Ending) (w':World):Prop:=∃ t,e = .returned (.string t)∧bl t=l∧Below w.heap.size w w'
theorem Zsy (a:Value) (xs:List Nat) (w:World) (ha:Sl w a 1 xs.length (nums .i64 xs)) (dx:Dig 10 xs) (lx:xs.length≤1000000) :
  Calls Tryz.prog 181 #[a,.bool false] w (Zji w (istr false (val 10 xs))):=by
 obtain ⟨i0,hi,hz0,hz1,hz2⟩:=info_parts Tryz.info_u8;obtain ⟨ad,ca,rfl,h1,h3⟩:=ha.nums;have HI:=Lh (Zl5 xs dx);have HT:=Lh (Zak xs);have hTd:Dig 10 (Zan xs):=(Za6 dx).1;clear ha;go_enter Tryz.func181,Tryz.ntmps181
 go_upto_block 0 with fail
 go_cut [5] from 10 to 21 (fun n wc=>n = .int .i64 ((Zan xs).length:Nat)∧Hid (wc=w))
 case first =>
  go_wp2_with fail;go_loopw [5] (fun n wr=>∃ k:Nat,k≤xs.length∧n = .int .i64 k∧Hid (Zan (xs.take k)=Zan xs)∧Hid (wr=w))
   (fun n _=>(intOf n).toNat)
  case atStart=>exact ⟨xs.length,Nat.le_refl _,rfl,by show _=_;rw [List.take_of_length_le (Nat.le_refl _)],rfl⟩
  case round =>
   obtain ⟨k,hk,rfl,Hv,hw⟩:=hrel;obtain rfl:=hw.out;by_cases h0:0 < k
   ·obtain ⟨k,rfl⟩:∃ k',k=k'+1:=⟨k - 1,by omega⟩
    obtain ⟨b,off,rfl,hc⟩:=h3.resolve_left (by omega);have hck:=hc k (by omega);clear hc h3;by_cases hz:xs.getD k 0=0
    ·have Hv2:Hid (Zan (xs.take k)=Zan xs):=by
      show _=_;rw [← Hv.out,Zco xs k (by omega) hz]
     rw [hz] at hck;clear hz;go_wp2;go_roundw
     case rel=>exact ⟨k,by omega,by go_num,Hv2,by first | exact rfl | exact trivial⟩
     case measure=>simp [intOf]
    ·have hl:Hid ((Zan xs).length=k+1):=by
      show _=_;rw [← Hv.out,Zdq xs k (by omega) hz,List.length_take];omega
     obtain ⟨y,hy⟩:∃ y,xs.getD k 0=y:=⟨_,rfl⟩
     rw [hy] at hck hz;have hyb:((y:Int) == 0)=false:=by rw [beq_eq_false_iff_ne];omega
     clear hy;go_wp2;go_meet
     exact ⟨by rw [hl.out];first | done | (congr 1;done) | (congr 1;omega) | simp,by first | exact rfl | exact trivial⟩
   ·obtain rfl:k=0:=by omega
    have hl:Hid ((Zan xs).length=0):=by show _=_;rw [← Hv.out];rfl
    go_wp2;go_meet
    exact ⟨by rw [hl.out];first | done | (congr 1;done) | (congr 1;omega) | simp,by first | exact rfl | exact trivial⟩
 case rest =>
  obtain ⟨rfl,hw⟩:=hcut;have hW:=hw.out.symm;subst hW;obtain ⟨T,hT⟩:∃ T,Zan xs=T:=⟨_,rfl⟩
  rw [hT] at HI HT hTd ⊢;obtain ⟨L,hL⟩:∃ L,T.length=L:=⟨_,rfl⟩
  rw [hL] at HI HT ⊢;have HL:=Lh hL;have hLx:L≤xs.length:=HT.out.2;clear hT hL;by_cases hL0:L=0
  ·have HF:Hid (istr false (val 10 xs)=[48]):=by show _=_;rw [HI.out,if_pos hL0]
   subst hL0;go_wp2;go_ret;exact ⟨_,rfl,by rw [HF.out];rfl,Below.refl _ _⟩
  ·have HF:Hid (istr false (val 10 xs)=asc T.reverse):=by show _=_;rw [HI.out,if_neg hL0]
   have hLb:((L:Int) == 0)=false:=by rw [beq_eq_false_iff_ne];omega
   obtain ⟨b,off,rfl,hc⟩:=h3.resolve_left (by omega);go_wp2_with fail;go_loopw [6,7] (fun t i wr=>∃ (k:Nat) (adb:Option Addr) (capb:Nat),k≤L∧i = .int .i64 (k - 1)∧t = .slice adb (L - k) capb ∧
     wr.ownsRow w.heap.size 5 1 (.slice adb (L - k) capb) (L - k) (nums .u8 (asN (T.drop k).reverse))∧Below w.heap.size w wr)
    (fun _ i _=>(intOf i+1).toNat)
   case atStart=>exact ⟨L,none,0,Nat.le_refl _,by go_num,by rw [Nat.sub_self],by rw [Nat.sub_self,List.drop_of_length_le (by rw [HL.out];exact Nat.le_refl _)];exact World.ownsRow_nil _ _ _ _,Below.refl _ _⟩
   case round =>
    obtain ⟨k,adb,capb,hk,rfl,rfl,hown,hbel⟩:=hrel;by_cases h0:0 < k
    ·obtain ⟨k,rfl⟩:∃ k',k=k'+1:=⟨k - 1,by omega⟩
     have e1:((k+1:Nat):Int) - 1=(k:Int):=by omega
     rw [e1];have hck:=cell_later hbel (hc k (by omega));have hd9:=hTd.at (show 0 < 10 by decide) k;have hxk:xs.getD k 0=T.getD k 0:=by
      have e:=HT.out.1;have h2:=HL.out;rw [e];simp only [List.getD];rw [List.getElem?_take,if_pos (by omega)]
     rw [hxk] at hck;have Hcons:Hid ((T.drop k).reverse=(T.drop (k+1)).reverse ++ [T.getD k 0]):=by
      show _=_;rw [List.drop_eq_getElem_cons (by rw [HL.out];omega),List.reverse_cons];congr 2
      have h2:=HL.out;simp [List.getD,show k < T.length by omega]
     obtain ⟨d,hd⟩:∃ d,T.getD k 0=d:=⟨_,rfl⟩
     rw [hd] at hck hd9 Hcons;clear hd hxk;have hsz:=hbel.size;have x1:IntKind.u8.wrap (48+(d:Int))=((48+d:Nat):Int):=by rw [IntWalk.u8_in _ (by omega)];omega
     obtain ⟨N,hN⟩:∃ N,L - (k+1)=N:=⟨_,rfl⟩
     have hN1:L - k=N+1:=by omega
     have hNb:N≤1000000:=by omega
     have HN1:=Lh hN1;rw [hN] at hown ⊢;clear hN hN1;go_wp2_with (at_builtin;refine wpList_append_own _ rfl _ _ 203 rfl w.heap.size 5 i0 (.int .u8 0) 1 1 Tryz.ul_bytes hi hz0 hz1 hz2 rfl (by decide) _ _ _ rfl (hown.alloc _) ⟨wr.heap.size,0,none⟩ 1 1 [_] rfl rfl (cell_one_new _ _ _) (Zas _ _) ?d1 ?d2 ?d3 ?_)
     case d1=>unfold maxLen;omega
     case d2=>omega
     case d3=>simp;omega
     intro v2 w2 hown2 hgrow2 _;have hbel2:Below w.heap.size w w2:=(hbel.alloc hsz _).grown hgrow2 (by simp;omega) (fun k hk=>(hown.lt k hk).1);have ed:(48:Int)+(d:Int)=((48+d:Nat):Int):=by omega
     try rw [ed] at hown2
     rw [Za1,Zmq,← Hcons.out,← HN1.out] at hown2;obtain ⟨ad3,cap3,rfl,_⟩:=Sl.of_owns hown2;clear hgrow2 hown hbel;go_wp2;go_roundw
     case rel=>exact ⟨k,ad3,cap3,by omega,by go_num,rfl,hown2,hbel2⟩
     case measure=>simp [intOf]
    ·obtain rfl:k=0:=by omega
     rw [Nat.sub_zero] at hown ⊢;rw [List.drop_zero] at hown;obtain ⟨g,cg,hform,_,_,_⟩:=Zep hown (by omega)
     cases hform
     have hlen:(asN T.reverse).length=L:=by rw [Zfb,List.length_reverse,HL.out]
     have hcv:=run_convert_bytes_back (P:=Tryz.prog) wr 203 99 5 ⟨g,0,none⟩ capb ((asN T.reverse).map UInt8.ofNat) Tryz.ul_bytes Tryz.ul_u8 Tryz.ul_Int
      (Zfm hown hlen (fun x hx=>by
       obtain ⟨y,hy,rfl⟩:=List.mem_map.1 hx;have:=hTd y (List.mem_reverse.1 hy);omega))
     rw [List.length_map,hlen] at hcv;obtain ⟨ll,hll⟩:∃ ll,(asN T.reverse).map UInt8.ofNat=ll:=⟨_,rfl⟩
     rw [hll] at hcv;have HE:=Lh (show bl ⟨ll.toArray⟩=istr false (val 10 xs) by
      rw [HF.out,Zyj,← hll];simp [asN,asc])
     clear hll hown;go_wp2;go_ret;exact ⟨_,rfl,HE.out,hbel⟩
end Go.Proofs.YtknpnhodpgajbaaGreatDoor
