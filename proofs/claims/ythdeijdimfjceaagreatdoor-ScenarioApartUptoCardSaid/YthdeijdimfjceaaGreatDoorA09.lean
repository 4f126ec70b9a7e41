/- A part. -/
import Derived.Test.YthdeijdimfjceaaGreatDoorA08
namespace Go.Proofs.YthdeijdimfjceaaGreatDoor
open Go.RowKit
theorem plus_step (A Bv O P x y c d r:Nat) (h:O+c * P=A+Bv) (hd:d+r * 1000000000=x+y+c):(O+P * d)+r * (P * 1000000000)=(A+P * x)+(Bv+P * y):=by
 have e1:P * (d+r * 1000000000)=P * (x+y+c):=by rw [hd]
 rw [Nat.mul_add,Nat.mul_add,Nat.mul_add] at e1
 have e2:P * (r * 1000000000)=r * (P * 1000000000):=by rw [← Nat.mul_assoc,← Nat.mul_assoc,Nat.mul_comm P r]
 rw [e2] at e1
 rw [Nat.mul_comm c P] at h
 omega
def PlusInv (xs ys o:List Nat) (k c:Nat):Prop :=
 o.length=k∧Dig 1000000000 o∧val 1000000000 o+c * 1000000000 ^ k=val 1000000000 (xs.take k)+val 1000000000 (ys.take k)
theorem PlusInv.start (xs ys:List Nat):PlusInv xs ys [] 0 0:=⟨rfl,Dig.nil _,by simp [val]⟩
theorem PlusInv.step {xs ys o:List Nat} {k c d r:Nat} (h:PlusInv xs ys o k c) (hd:d < 1000000000) (e:d+r * 1000000000=xs.getD k 0+ys.getD k 0+c):PlusInv xs ys (o ++ [d]) (k+1) r:=by
 obtain ⟨h1,h2,h3⟩:=h
 refine ⟨by simp [h1],h2.snoc hd,?_⟩
 rw [val_take_succ,val_take_succ,val_snoc,h1,Nat.pow_succ]
 exact plus_step _ _ _ _ _ _ _ _ _ h3 e
theorem PlusInv.fin {xs ys o:List Nat} {c:Nat} (h:PlusInv xs ys o xs.length c) (hl:ys.length≤xs.length):val 1000000000 (o ++ [c])=val 1000000000 xs+val 1000000000 ys:=by
 obtain ⟨h1,h2,h3⟩:=h
 rw [List.take_of_length_le (Nat.le_refl _),List.take_of_length_le hl] at h3
 rw [val_snoc,h1,Nat.mul_comm]
 exact h3
set_option maxHeartbeats 1000000 in
set_option maxRecDepth 100000 in
theorem plus_ge (a b:Value) (xs ys:List Nat) (w:World) (ha:Sl w a 1 xs.length (nums .u32 xs)) (hb:Sl w b 1 ys.length (nums .u32 ys))
  (dx:Dig 1000000000 xs) (dy:Dig 1000000000 ys) (lx:xs.length≤100000) (_ly:ys.length≤100000) (hlen:ys.length≤xs.length) :
  Calls Tryz.prog 116 #[a,b] w fun e w' => ∃ v rs,e = .returned v∧OwnMag w w' v rs∧val 1000000000 rs=val 1000000000 xs+val 1000000000 ys:=by
 obtain ⟨ad,ca,rfl,h1,h3⟩:=ha.nums
 obtain ⟨bd,cb,rfl,h1',h3'⟩:=hb.nums
 obtain ⟨i0,hi,hz0,hz1,hz2⟩:=info_parts Tryz.info_u32
 clear ha hb
 obtain ⟨N,hN⟩:∃ N,N=xs.length+1:=⟨_,rfl⟩
 have HN:=Lib.hid hN
 have hNl:N≤100001:=by omega
 have hN1:xs.length+1≤N:=by omega
 have hN2:N≤xs.length+1:=by omega
 clear hN
 go_enter Tryz.func116,Tryz.ntmps116
 go_wp2_with (at_make;refine wpList_make_own _ rfl _ _ 146 rfl w.heap.size 177 i0 (.int .u32 0) 1 Tryz.ul_u32s hi hz0 hz1 _ _ _ N rfl rfl ?b0 ?b1 ?b2 ?b3 ?_)
 case b0 => rw [HN.out];simp
 case b1 => rw [hz2];omega
 case b2 => unfold maxLen;omega
 case b3 => exact Nat.le_refl _
 intro w1 hown hgrow
 have hbel:Below w.heap.size w w1:=(Below.refl _ _).grown hgrow (Nat.le_refl _) (by simp)
 clear hgrow
 go_wp2
 go_loopw [5,6,23] (fun o c i wr => ∃ (k b1:Nat) (os:List Nat),k≤xs.length∧b1≤1∧i = .int .i64 k∧c = .int .u32 b1∧o = .slice (some ⟨w.heap.size,0,none⟩) k N ∧
   wr.ownsRow w.heap.size 177 1 (.slice (some ⟨w.heap.size,0,none⟩) k N) k (nums .u32 os)∧Hid (PlusInv xs ys os k b1)∧Below w.heap.size w wr)
  (fun _ _ i _ => xs.length - (intOf i).toNat)
 case atStart => exact ⟨0,0,[],Nat.zero_le _,by omega,rfl,rfl,rfl,hown,PlusInv.start _ _,hbel⟩
 case round =>
  clear hown hbel
  obtain ⟨k,b1,os,hk,hb1,rfl,rfl,rfl,hown,Hinv,hbel⟩:=hrel
  by_cases hlt:k < xs.length
  ·obtain ⟨b,off,rfl,hc⟩:=h3.resolve_left (by omega)
   have hck:=cell_later hbel (hc k hlt)
   have hx9:=dx.at (by decide) k
   have hy9:=dy.at (by decide) k
   obtain ⟨x,hx⟩:∃ x,x=xs.getD k 0:=⟨_,rfl⟩
   obtain ⟨y,hy⟩:∃ y,y=ys.getD k 0:=⟨_,rfl⟩
   rw [← hx] at hck hx9
   rw [← hy] at hy9
   have Hx:=Lib.hid hx;clear hx
   have Hy:=Lib.hid hy;clear hy
   clear hc h3
   have hsz:=hbel.size
   by_cases hly:k < ys.length
   ·obtain ⟨b',off',rfl,hd⟩:=h3'.resolve_left (by omega)
    have hdk:=cell_later hbel (hd k hly)
    rw [← Hy.out] at hdk
    clear hd h3'
    go_wp2_with (at_builtin;refine wpList_append_fits _ rfl _ _ 146 rfl w.heap.size 177 i0 1 Tryz.ul_u32s hi hz1 w.heap.size k N (nums .u32 os) rfl (hown.alloc _) ⟨wr.heap.size,0,none⟩ 1 1 [_] rfl rfl (cell_one_new _ _ _) (int_oneCell _ _) (by omega) ?_)
    intro w2 hown2 hgrow2
    have ed:(((x:Int)+b1+y) % 1000000000:Int)=(((x+b1+y) % 1000000000:Nat):Int):=by omega
    rw [ed,nums_snoc] at hown2
    have hbel2:Below w.heap.size w w2:=(hbel.alloc hsz _).grown hgrow2 (by simp;omega) (by intro k hk;simp at hk;omega)
    have HR:Hid (PlusInv xs ys (os ++ [(x+b1+y) % 1000000000]) (k+1) ((x+b1+y) / 1000000000)):=Hinv.out.step (Nat.mod_lt _ (by decide)) (by rw [← Hx.out,← Hy.out];omega)
    clear ed hgrow2 hown hbel
    go_wp2
    go_roundw
    case rel => exact ⟨k+1,(x+b1+y) / 1000000000,os ++ [(x+b1+y) % 1000000000],by omega,by omega,by go_num,by go_num,rfl,hown2,HR,hbel2⟩
    case measure => simp [intOf];omega
   ·have hy0:ys.getD k 0=0:=by simp only [List.getD,List.getElem?_eq_none (by omega:ys.length≤k),Option.getD_none]
    have Hy0:=Lib.hid hy0;clear hy0
    go_wp2_with (at_builtin;refine wpList_append_fits _ rfl _ _ 146 rfl w.heap.size 177 i0 1 Tryz.ul_u32s hi hz1 w.heap.size k N (nums .u32 os) rfl (hown.alloc _) ⟨wr.heap.size,0,none⟩ 1 1 [_] rfl rfl (cell_one_new _ _ _) (int_oneCell _ _) (by omega) ?_)
    intro w2 hown2 hgrow2
    have ed:(((x:Int)+b1) % 1000000000:Int)=(((x+b1) % 1000000000:Nat):Int):=by omega
    rw [ed,nums_snoc] at hown2
    have hbel2:Below w.heap.size w w2:=(hbel.alloc hsz _).grown hgrow2 (by simp;omega) (by intro k hk;simp at hk;omega)
    have HR:Hid (PlusInv xs ys (os ++ [(x+b1) % 1000000000]) (k+1) ((x+b1) / 1000000000)):=Hinv.out.step (Nat.mod_lt _ (by decide)) (by rw [← Hx.out,Hy0.out];omega)
    clear ed hgrow2 hown hbel
    go_wp2
    go_roundw
    case rel => exact ⟨k+1,(x+b1) / 1000000000,os ++ [(x+b1) % 1000000000],by omega,by omega,by go_num,by go_num,rfl,hown2,HR,hbel2⟩
    case measure => simp [intOf];omega
  ·obtain rfl:k=xs.length:=by omega
   have hdg:=Hinv.out.2.1
   have hos:os.length=xs.length:=Hinv.out.1
   have Hos:=Lib.hid hos;clear hos
   have hsz:=hbel.size
   go_wp2_with (at_builtin;refine wpList_append_fits _ rfl _ _ 146 rfl w.heap.size 177 i0 1 Tryz.ul_u32s hi hz1 w.heap.size xs.length N (nums .u32 os) rfl (hown.alloc _) ⟨wr.heap.size,0,none⟩ 1 1 [_] rfl rfl (cell_one_new _ _ _) (int_oneCell _ _) (by omega) ?_)
   intro w2 hown2 hgrow2
   rw [nums_snoc] at hown2
   have hbel2:Below w.heap.size w w2:=(hbel.alloc hsz _).grown hgrow2 (by simp;omega) (by intro k hk;simp at hk;omega)
   have e1:xs.length+1=(os ++ [b1]).length:=by rw [List.length_append,Hos.out];rfl
   have HF:=Lib.hid (Hinv.out.fin (by omega))
   have hdg2:Dig 1000000000 (os ++ [b1]):=hdg.snoc (by omega)
   have hown3:w2.ownsRow w.heap.size 177 1 (.slice (some ⟨w.heap.size,0,none⟩) (xs.length+1) N) (os ++ [b1]).length (nums .u32 (os ++ [b1])):=by rw [← e1];exact hown2
   have hsl:Sl w2 (.slice (some ⟨w.heap.size,0,none⟩) (xs.length+1) N) 1 (os ++ [b1]).length (nums .u32 (os ++ [b1])):=Sl.of_owns hown3
   have E1:=Lib.hid e1
   clear e1 hgrow2 hown hbel hown2
   go_wp2_with fail
   refine (trim_any (.slice (some ⟨w.heap.size,0,none⟩) (xs.length+1) N) (os ++ [b1]) w2 hsl (by have:=E1.out;omega)).mono ?_
   rintro e w' ⟨v',rfl,Hv,rfl⟩
   go_wp2
   go_ret
   exact ⟨_,_,rfl,⟨own_trim hown3 Hv.out,trimL_nrm hdg2,hbel2⟩,(trimL_val _ _).trans HF.out⟩
set_option maxHeartbeats 1000000 in
set_option maxRecDepth 100000 in
theorem plus_lt (a b:Value) (xs ys:List Nat) (w:World) (ha:Sl w a 1 xs.length (nums .u32 xs)) (hb:Sl w b 1 ys.length (nums .u32 ys))
  (dx:Dig 1000000000 xs) (dy:Dig 1000000000 ys) (lx:xs.length≤100000) (ly:ys.length≤100000) (hlen:xs.length < ys.length) :
  Calls Tryz.prog 116 #[a,b] w fun e w' => ∃ v rs,e = .returned v∧OwnMag w w' v rs∧val 1000000000 rs=val 1000000000 xs+val 1000000000 ys:=by
 obtain ⟨ad,ca,rfl,h1,h3⟩:=ha.nums
 obtain ⟨bd,cb,rfl,h1',h3'⟩:=hb.nums
 obtain ⟨i0,hi,hz0,hz1,hz2⟩:=info_parts Tryz.info_u32
 clear ha hb
 obtain ⟨N,hN⟩:∃ N,N=ys.length+1:=⟨_,rfl⟩
 have HN:=Lib.hid hN
 have hNl:N≤100001:=by omega
 have hN1:ys.length+1≤N:=by omega
 have hN2:N≤ys.length+1:=by omega
 clear hN
 go_enter Tryz.func116,Tryz.ntmps116
 go_wp2_with (at_make;refine wpList_make_own _ rfl _ _ 146 rfl w.heap.size 177 i0 (.int .u32 0) 1 Tryz.ul_u32s hi hz0 hz1 _ _ _ N rfl rfl ?b0 ?b1 ?b2 ?b3 ?_)
 case b0 => rw [HN.out];simp
 case b1 => rw [hz2];omega
 case b2 => unfold maxLen;omega
 case b3 => exact Nat.le_refl _
 intro w1 hown hgrow
 have hbel:Below w.heap.size w w1:=(Below.refl _ _).grown hgrow (Nat.le_refl _) (by simp)
 clear hgrow
 go_wp2
 go_loopw [5,6,23] (fun o c i wr => ∃ (k b1:Nat) (os:List Nat),k≤ys.length∧b1≤1∧i = .int .i64 k∧c = .int .u32 b1∧o = .slice (some ⟨w.heap.size,0,none⟩) k N ∧
   wr.ownsRow w.heap.size 177 1 (.slice (some ⟨w.heap.size,0,none⟩) k N) k (nums .u32 os)∧Hid (PlusInv ys xs os k b1)∧Below w.heap.size w wr)
  (fun _ _ i _ => ys.length - (intOf i).toNat)
 case atStart => exact ⟨0,0,[],Nat.zero_le _,by omega,rfl,rfl,rfl,hown,PlusInv.start _ _,hbel⟩
 case round =>
  clear hown hbel
  obtain ⟨k,b1,os,hk,hb1,rfl,rfl,rfl,hown,Hinv,hbel⟩:=hrel
  by_cases hlt:k < ys.length
  ·obtain ⟨b,off,rfl,hc⟩:=h3'.resolve_left (by omega)
   have hck:=cell_later hbel (hc k hlt)
   have hx9:=dy.at (by decide) k
   have hy9:=dx.at (by decide) k
   obtain ⟨x,hx⟩:∃ x,x=ys.getD k 0:=⟨_,rfl⟩
   obtain ⟨y,hy⟩:∃ y,y=xs.getD k 0:=⟨_,rfl⟩
   rw [← hx] at hck hx9
   rw [← hy] at hy9
   have Hx:=Lib.hid hx;clear hx
   have Hy:=Lib.hid hy;clear hy
   clear hc h3'
   have hsz:=hbel.size
   by_cases hly:k < xs.length
   ·obtain ⟨b',off',rfl,hd⟩:=h3.resolve_left (by omega)
    have hdk:=cell_later hbel (hd k hly)
    rw [← Hy.out] at hdk
    clear hd h3
    go_wp2_with (at_builtin;refine wpList_append_fits _ rfl _ _ 146 rfl w.heap.size 177 i0 1 Tryz.ul_u32s hi hz1 w.heap.size k N (nums .u32 os) rfl (hown.alloc _) ⟨wr.heap.size,0,none⟩ 1 1 [_] rfl rfl (cell_one_new _ _ _) (int_oneCell _ _) (by omega) ?_)
    intro w2 hown2 hgrow2
    have ed:(((x:Int)+b1+y) % 1000000000:Int)=(((x+b1+y) % 1000000000:Nat):Int):=by omega
    rw [ed,nums_snoc] at hown2
    have hbel2:Below w.heap.size w w2:=(hbel.alloc hsz _).grown hgrow2 (by simp;omega) (by intro k hk;simp at hk;omega)
    have HR:Hid (PlusInv ys xs (os ++ [(x+b1+y) % 1000000000]) (k+1) ((x+b1+y) / 1000000000)):=Hinv.out.step (Nat.mod_lt _ (by decide)) (by rw [← Hx.out,← Hy.out];omega)
    clear ed hgrow2 hown hbel
    go_wp2
    go_roundw
    case rel => exact ⟨k+1,(x+b1+y) / 1000000000,os ++ [(x+b1+y) % 1000000000],by omega,by omega,by go_num,by go_num,rfl,hown2,HR,hbel2⟩
    case measure => simp [intOf];omega
   ·have hy0:xs.getD k 0=0:=by simp only [List.getD,List.getElem?_eq_none (by omega:xs.length≤k),Option.getD_none]
    have Hy0:=Lib.hid hy0;clear hy0
    go_wp2_with (at_builtin;refine wpList_append_fits _ rfl _ _ 146 rfl w.heap.size 177 i0 1 Tryz.ul_u32s hi hz1 w.heap.size k N (nums .u32 os) rfl (hown.alloc _) ⟨wr.heap.size,0,none⟩ 1 1 [_] rfl rfl (cell_one_new _ _ _) (int_oneCell _ _) (by omega) ?_)
    intro w2 hown2 hgrow2
    have ed:(((x:Int)+b1) % 1000000000:Int)=(((x+b1) % 1000000000:Nat):Int):=by omega
    rw [ed,nums_snoc] at hown2
    have hbel2:Below w.heap.size w w2:=(hbel.alloc hsz _).grown hgrow2 (by simp;omega) (by intro k hk;simp at hk;omega)
    have HR:Hid (PlusInv ys xs (os ++ [(x+b1) % 1000000000]) (k+1) ((x+b1) / 1000000000)):=Hinv.out.step (Nat.mod_lt _ (by decide)) (by rw [← Hx.out,Hy0.out];omega)
    clear ed hgrow2 hown hbel
    go_wp2
    go_roundw
    case rel => exact ⟨k+1,(x+b1) / 1000000000,os ++ [(x+b1) % 1000000000],by omega,by omega,by go_num,by go_num,rfl,hown2,HR,hbel2⟩
    case measure => simp [intOf];omega
  ·obtain rfl:k=ys.length:=by omega
   have hdg:=Hinv.out.2.1
   have hos:os.length=ys.length:=Hinv.out.1
   have Hos:=Lib.hid hos;clear hos
   have hsz:=hbel.size
   go_wp2_with (at_builtin;refine wpList_append_fits _ rfl _ _ 146 rfl w.heap.size 177 i0 1 Tryz.ul_u32s hi hz1 w.heap.size ys.length N (nums .u32 os) rfl (hown.alloc _) ⟨wr.heap.size,0,none⟩ 1 1 [_] rfl rfl (cell_one_new _ _ _) (int_oneCell _ _) (by omega) ?_)
   intro w2 hown2 hgrow2
   rw [nums_snoc] at hown2
   have hbel2:Below w.heap.size w w2:=(hbel.alloc hsz _).grown hgrow2 (by simp;omega) (by intro k hk;simp at hk;omega)
   have e1:ys.length+1=(os ++ [b1]).length:=by rw [List.length_append,Hos.out];rfl
   have HF:=Lib.hid (Hinv.out.fin (by omega))
   have hdg2:Dig 1000000000 (os ++ [b1]):=hdg.snoc (by omega)
   have hown3:w2.ownsRow w.heap.size 177 1 (.slice (some ⟨w.heap.size,0,none⟩) (ys.length+1) N) (os ++ [b1]).length (nums .u32 (os ++ [b1])):=by rw [← e1];exact hown2
   have hsl:Sl w2 (.slice (some ⟨w.heap.size,0,none⟩) (ys.length+1) N) 1 (os ++ [b1]).length (nums .u32 (os ++ [b1])):=Sl.of_owns hown3
   have E1:=Lib.hid e1
   clear e1 hgrow2 hown hbel hown2
   go_wp2_with fail
   refine (trim_any (.slice (some ⟨w.heap.size,0,none⟩) (ys.length+1) N) (os ++ [b1]) w2 hsl (by have:=E1.out;omega)).mono ?_
   rintro e w' ⟨v',rfl,Hv,rfl⟩
   go_wp2
   go_ret
   exact ⟨_,_,rfl,⟨own_trim hown3 Hv.out,trimL_nrm hdg2,hbel2⟩,(trimL_val _ _).trans (HF.out.trans (Nat.add_comm _ _))⟩
theorem plus_any (a b:Value) (xs ys:List Nat) (w:World) (ha:Sl w a 1 xs.length (nums .u32 xs)) (hb:Sl w b 1 ys.length (nums .u32 ys))
  (dx:Dig 1000000000 xs) (dy:Dig 1000000000 ys) (lx:xs.length≤100000) (ly:ys.length≤100000) :
  Calls Tryz.prog 116 #[a,b] w fun e w' => ∃ v rs,e = .returned v∧OwnMag w w' v rs∧val 1000000000 rs=val 1000000000 xs+val 1000000000 ys:=by
 rcases Nat.lt_or_ge xs.length ys.length with h | h
 ·exact plus_lt a b xs ys w ha hb dx dy lx ly h
 ·exact plus_ge a b xs ys w ha hb dx dy lx ly h
end Go.Proofs.YthdeijdimfjceaaGreatDoor

namespace Go.Proofs.YthdeijdimfjceaaGreatDoor
open Go.RowKit
def sgnv (neg:Bool) (n:Nat):Int:=if neg then -(n:Int) else (n:Int)
def SumPost (w:World) (z:Int) (e:Ending) (w':World):Prop :=
 ∃ neg v rs,e = .returned (.agg #[.bool neg,v])∧Sl w' v 1 rs.length (nums .u32 rs)∧Nrm 1000000000 rs∧sgnv neg (val 1000000000 rs)=z∧Below w.heap.size w w'
theorem sgnv_cut (neg:Bool) (n:Nat) (l:Nat) (h:n=0 ↔ l=0):sgnv (neg && decide (0 < l)) n=sgnv neg n:=by
 by_cases h0:n=0
 ·have:=h.1 h0;subst h0;subst this;cases neg <;> rfl
 ·have : 0 < l := by rcases Nat.eq_zero_or_pos l with e | e
                     ·exact absurd (h.2 e) h0
                     ·exact e
  simp [this]
set_option maxRecDepth 100000 in
theorem sumk_any (neg:Bool) (ad:Option Addr) (n c:Nat) (w:World) :
  Calls Tryz.prog 115 #[.bool neg,.slice ad n c] w fun e w' => e = .returned (.agg #[.bool (neg && decide (0 < n)),.slice ad n c])∧Below w.heap.size w w':=by
 have HB:=fun b => Lib.hid (Boxed2.new w (.bool b) (.slice ad n c) 148)
 obtain ⟨r,hr⟩:∃ r,r=decide (0 < n):=⟨_,rfl⟩
 rw [← hr]
 have t1:decide (0 < n)=r:=hr.symm
 clear hr
 cases neg
 ·go_enter Tryz.func115,Tryz.ntmps115
  go_wp2
  refine bodyPost_ret (v:=.agg #[.bool false,.slice ad n c]) (by simp [results,Tryz.results115,go_sem,(HB false).out.cell0,(HB false).out.cell1]) rfl ⟨by simp,below_a1 _ _⟩
 ·go_enter Tryz.func115,Tryz.ntmps115
  go_wp2
  refine bodyPost_ret (v:=.agg #[.bool r,.slice ad n c]) (by simp [results,Tryz.results115,go_sem,(HB r).out.cell0,(HB r).out.cell1]) rfl ⟨by simp,below_a1 _ _⟩
theorem sgnv_add (b:Bool) (x y:Nat):sgnv b (x+y)=sgnv b x+sgnv b y:=by
 cases b <;> simp [sgnv];omega
theorem sgnv_sub {a b:Bool} {x y:Nat} (h:a ≠ b) (hl:y≤x):sgnv a (x - y)=sgnv a x+sgnv b y:=by
 cases a <;> cases b <;> simp_all [sgnv] <;> omega
set_option maxHeartbeats 1000000 in
set_option maxRecDepth 100000 in
theorem sum_same (na nb:Bool) (va vb:Value) (xs ys:List Nat) (w:World) (ha:Sl w va 1 xs.length (nums .u32 xs)) (hb:Sl w vb 1 ys.length (nums .u32 ys))
  (hx:Nrm 1000000000 xs) (hy:Nrm 1000000000 ys) (lx:xs.length≤100000) (ly:ys.length≤100000) (he2:na=nb) :
  Calls Tryz.prog 93 #[.agg #[.bool na,va],.agg #[.bool nb,vb]] w (SumPost w (sgnv na (val 1000000000 xs)+sgnv nb (val 1000000000 ys))):=by
 have he:(na == nb)=true:=by rw [beq_iff_eq];exact he2
 have Ha:=Lib.hid ha
 have Hb:=Lib.hid hb
 have Hx:=Lib.hid hx
 have Hy:=Lib.hid hy
 clear ha hb hx hy
 have He2:=Lib.hid he2
 clear he2
 go_enter Tryz.func93,Tryz.ntmps93
 have b2:=fun (o3 o4:Obj) => ((Boxed2.new w (.bool na) va 148).alloc o3).alloc o4
 have b3:=fun (o2 o4:Obj) => (Boxed2.new (w.alloc o2) (.bool nb) vb 148).alloc o4
 have b4:=fun (o2 o3:Obj) => Boxed2.new ((w.alloc o2).alloc o3) (.bool false) (.slice none 0 0) 148
 have HBX:=Lib.hid (And.intro b2 (And.intro b3 b4))
 clear b2 b3 b4
 go_wp2
 obtain ⟨W0,hW0⟩:∃ W0,W0=((w.alloc (.cells #[.bool na,va] 148)).alloc (.cells #[.bool nb,vb] 148)).alloc (.cells #[.bool false,.slice none 0 0] 148):=⟨_,rfl⟩
 rw [← hW0]
 have b2:Boxed2 W0 w.heap.size 148 (.bool na) va:=by rw [hW0];exact HBX.out.1 _ _
 have b3:Boxed2 W0 (w.heap.size+1) 148 (.bool nb) vb:=by rw [hW0];have h:=HBX.out.2.1 (.cells #[.bool na,va] 148) (.cells #[.bool false,.slice none 0 0] 148);simp at h;exact h
 have b4:Boxed2 W0 (w.heap.size+1+1) 148 (.bool false) (.slice none 0 0):=by rw [hW0];have h:=HBX.out.2.2 (.cells #[.bool na,va] 148) (.cells #[.bool nb,vb] 148);simp at h;exact h
 have hbl:Below w.heap.size w W0:=by rw [hW0];exact below_a3 _ _ _ _
 have hz:=b4.lt
 clear hW0 HBX
 have HP:Hid (∀ W,Ext W0 W→Calls Tryz.prog 116 #[va,vb] W fun e w' => ∃ ad n c rs,e = .returned (.slice ad n c)∧Hid (w'.ownsRow W0.heap.size 177 1 (.slice ad n c) rs.length (nums .u32 rs)∧Nrm 1000000000 rs∧n=rs.length∧val 1000000000 rs=val 1000000000 xs+val 1000000000 ys)∧Ext W0 w'∧Below W.heap.size W w'):=by
  intro W hx
  have hS:=hbl.trans (Below.mono hx hbl.size)
  refine (plus_any va vb xs ys W (Ha.out.below hS) (Hb.out.below hS) Hx.out.1 Hy.out.1 lx ly).mono ?_
  rintro e w' ⟨v,rs,rfl,⟨own,hn,hb1⟩,hv⟩
  obtain ⟨ad,c,rfl,_⟩:=Sl.of_owns own
  exact ⟨ad,_,c,rs,rfl,⟨ownsRow_base' own (Below.size hx),hn,rfl,hv⟩,Below.trans hx (hb1.mono (Below.size hx)),hb1⟩
 have HK:Hid (∀ W neg ad n c,Ext W0 W→Calls Tryz.prog 115 #[.bool neg,.slice ad n c] W fun e w' => e = .returned (.agg #[.bool (neg && decide (0 < n)),.slice ad n c])∧Ext W0 w'∧Below W.heap.size W w'):=by
  intro W neg ad n c hx
  refine (sumk_any neg ad n c W).mono ?_
  rintro e w' ⟨rfl,hb1⟩
  exact ⟨rfl,Below.trans hx (hb1.mono (Below.size hx)),hb1⟩
 have h0:=b2.cell0
 have h1:=b2.cell1
 have h2:=b3.cell0
 have h3:=b3.cell1
 have r0:=b4.cell0
 have r1:=b4.cell1
 have z0:=b4.frozen 0
 have z1:=b4.frozen 1
 have B4:=Lib.hid b4
 clear b2 b3 b4
 have HZ:Hid (∀ W,Ext W0 W→(W.cell? ⟨w.heap.size,0,none⟩=some (.bool na)∧W.cell? ⟨w.heap.size,1,none⟩=some va∧W.cell? ⟨w.heap.size+1,0,none⟩=some (.bool nb)∧W.cell? ⟨w.heap.size+1,1,none⟩=some vb)∧W.cell? ⟨w.heap.size+1+1,0,none⟩=some (.bool false)∧W.cell? ⟨w.heap.size+1+1,1,none⟩=some (.slice none 0 0)∧W.frozen? ⟨w.heap.size+1+1,0,none⟩=false∧W.frozen? ⟨w.heap.size+1+1,1,none⟩=false):=fun W hx => ⟨⟨Ext.cell hx h0,Ext.cell hx h1,Ext.cell hx h2,Ext.cell hx h3⟩,Ext.cell hx r0,Ext.cell hx r1,(B4.out.below hx).frozen 0,(B4.out.below hx).frozen 1⟩
 have hx0:Ext W0 W0.drew:=Below.drew (Below.refl _ _)
 go_region_held3 (fun w' => w'.cell? ⟨w.heap.size,0,none⟩=some (.bool na)∧w'.cell? ⟨w.heap.size,1,none⟩=some va∧w'.cell? ⟨w.heap.size+1,0,none⟩=some (.bool nb)∧w'.cell? ⟨w.heap.size+1,1,none⟩=some vb)
  (first | assumption | exact ⟨by assumption,by assumption,by assumption,by assumption⟩ | (refine ⟨?_,?_,?_,?_⟩ <;> (rw [World.cell?_setCell_far _ _ _ _ (by first | (show w.heap.size+1+1 ≠ w.heap.size;omega) | (show w.heap.size+1+1 ≠ w.heap.size+1;omega)),World.cell?_setCell_far _ _ _ _ (by first | (show w.heap.size+1+1 ≠ w.heap.size;omega) | (show w.heap.size+1+1 ≠ w.heap.size+1;omega))];assumption)) | go_keep)
  (first | (go_at_call 116;refine (HP.out _ hx0).mono ?_;rintro e w2 ⟨ad2,n2,cap2,rs2,rfl,own2,hx2,hb2⟩;obtain ⟨⟨p1,p2,p3,p4⟩,p5⟩:=HZ.out _ hx2) | (go_at_call 115;refine (HK.out _ _ _ _ _ hx2).mono ?_;rintro e w3 ⟨rfl,hx3,hb3⟩;obtain ⟨⟨p1,p2,p3,p4⟩,p5,p6,p7,p8⟩:=HZ.out _ hx3))
 go_wp2
 obtain ⟨ow,hn,rfl,hv⟩:=own2.out
 have HS:=Lib.hid ((B4.out.below hx3).store (.bool (na && decide (0 < rs2.length))) (.slice ad2 rs2.length cap2))
 have HF:Hid (SumPost w (sgnv na (val 1000000000 xs)+sgnv nb (val 1000000000 ys)) (.returned (.agg #[.bool (na && decide (0 < rs2.length)),.slice ad2 rs2.length cap2])) ((w3.setCell ⟨w.heap.size+1+1,0,none⟩ (.bool (na && decide (0 < rs2.length)))).setCell ⟨w.heap.size+1+1,1,none⟩ (.slice ad2 rs2.length cap2))):=by
  refine ⟨_,_,rs2,rfl,Sl.of_owns (ownsRow_setCell_below (ownsRow_setCell_below (ownsRow_below' ow hb3) (a:=⟨w.heap.size+1+1,0,none⟩) hz _) (a:=⟨w.heap.size+1+1,1,none⟩) hz _),hn,?_,below_store (hbl.trans (Below.mono hx3 hbl.size)) (by omega) _ _⟩
  rw [sgnv_cut _ _ _ (by rw [hn.val_zero (by decide),List.length_eq_zero_iff]),hv]
  rw [← He2.out];exact sgnv_add _ _ _
 obtain ⟨W3,hW3⟩:∃ W3,W3=(w3.setCell ⟨w.heap.size+1+1,0,none⟩ (.bool (na && decide (0 < rs2.length)))).setCell ⟨w.heap.size+1+1,1,none⟩ (.slice ad2 rs2.length cap2):=⟨_,rfl⟩
 rw [← hW3]
 rw [← hW3] at HS HF
 refine bodyPost_ret (v:=.agg #[.bool (na && decide (0 < rs2.length)),.slice ad2 rs2.length cap2]) (by simp [results,Tryz.results93,go_sem,HS.out.cell0,HS.out.cell1]) rfl HF.out
set_option maxHeartbeats 1000000 in
set_option maxRecDepth 100000 in
theorem sum_ge (na nb:Bool) (va vb:Value) (xs ys:List Nat) (w:World) (ha:Sl w va 1 xs.length (nums .u32 xs)) (hb:Sl w vb 1 ys.length (nums .u32 ys))
  (hx:Nrm 1000000000 xs) (hy:Nrm 1000000000 ys) (lx:xs.length≤100000) (ly:ys.length≤100000) (he2:na ≠ nb) (hle:val 1000000000 ys≤val 1000000000 xs) :
  Calls Tryz.prog 93 #[.agg #[.bool na,va],.agg #[.bool nb,vb]] w (SumPost w (sgnv na (val 1000000000 xs)+sgnv nb (val 1000000000 ys))):=by
 have he:(na == nb)=false:=by rw [beq_eq_false_iff_ne];exact he2
 have HC:=Lib.hid (fun W (hS:Below w.heap.size w W) => compare_any va vb xs ys W (ha.below hS) (hb.below hS) hx hy (by omega) (by omega))
 have hs:decide (0≤sgn (val 1000000000 xs) (val 1000000000 ys))=true:=by
  unfold sgn;rw [decide_eq_true_eq];split <;> (try split) <;> omega
 generalize sgn (val 1000000000 xs) (val 1000000000 ys)=g at HC hs
 have Ha:=Lib.hid ha
 have Hb:=Lib.hid hb
 have Hx:=Lib.hid hx
 have Hy:=Lib.hid hy
 have Hle:=Lib.hid hle
 clear ha hb hx hy hle
 have He2:=Lib.hid he2
 clear he2
 go_enter Tryz.func93,Tryz.ntmps93
 have b2:=fun (o3 o4:Obj) => ((Boxed2.new w (.bool na) va 148).alloc o3).alloc o4
 have b3:=fun (o2 o4:Obj) => (Boxed2.new (w.alloc o2) (.bool nb) vb 148).alloc o4
 have b4:=fun (o2 o3:Obj) => Boxed2.new ((w.alloc o2).alloc o3) (.bool false) (.slice none 0 0) 148
 have HBX:=Lib.hid (And.intro b2 (And.intro b3 b4))
 clear b2 b3 b4
 go_wp2_with fail
 obtain ⟨W0,hW0⟩:∃ W0,W0=((w.alloc (.cells #[.bool na,va] 148)).alloc (.cells #[.bool nb,vb] 148)).alloc (.cells #[.bool false,.slice none 0 0] 148):=⟨_,rfl⟩
 rw [← hW0]
 have b2:Boxed2 W0 w.heap.size 148 (.bool na) va:=by rw [hW0];exact HBX.out.1 _ _
 have b3:Boxed2 W0 (w.heap.size+1) 148 (.bool nb) vb:=by rw [hW0];have h:=HBX.out.2.1 (.cells #[.bool na,va] 148) (.cells #[.bool false,.slice none 0 0] 148);simp at h;exact h
 have b4:Boxed2 W0 (w.heap.size+1+1) 148 (.bool false) (.slice none 0 0):=by rw [hW0];have h:=HBX.out.2.2 (.cells #[.bool na,va] 148) (.cells #[.bool nb,vb] 148);simp at h;exact h
 have hbl:Below w.heap.size w W0:=by rw [hW0];exact below_a3 _ _ _ _
 have hz:=b4.lt
 clear hW0 HBX
 have HP:Hid (∀ W,Ext W0 W→Calls Tryz.prog 118 #[va,vb] W fun e w' => ∃ ad n c rs,e = .returned (.slice ad n c)∧Hid (w'.ownsRow W0.heap.size 177 1 (.slice ad n c) rs.length (nums .u32 rs)∧Nrm 1000000000 rs∧n=rs.length∧val 1000000000 rs=val 1000000000 xs - val 1000000000 ys)∧Ext W0 w'∧Below W.heap.size W w'):=by
  intro W hx
  have hS:=hbl.trans (Below.mono hx hbl.size)
  refine (minus_any va vb xs ys W (Ha.out.below hS) (Hb.out.below hS) Hx.out.1 Hy.out Hle.out lx).mono ?_
  rintro e w' ⟨v,rs,rfl,⟨own,hn,hb1⟩,hv⟩
  obtain ⟨ad,c,rfl,_⟩:=Sl.of_owns own
  exact ⟨ad,_,c,rs,rfl,⟨ownsRow_base' own (Below.size hx),hn,rfl,hv⟩,Below.trans hx (hb1.mono (Below.size hx)),hb1⟩
 have HK:Hid (∀ W neg ad n c,Ext W0 W→Calls Tryz.prog 115 #[.bool neg,.slice ad n c] W fun e w' => e = .returned (.agg #[.bool (neg && decide (0 < n)),.slice ad n c])∧Ext W0 w'∧Below W.heap.size W w'):=by
  intro W neg ad n c hx
  refine (sumk_any neg ad n c W).mono ?_
  rintro e w' ⟨rfl,hb1⟩
  exact ⟨rfl,Below.trans hx (hb1.mono (Below.size hx)),hb1⟩
 have h0:=b2.cell0
 have h1:=b2.cell1
 have h2:=b3.cell0
 have h3:=b3.cell1
 have r0:=b4.cell0
 have r1:=b4.cell1
 have z0:=b4.frozen 0
 have z1:=b4.frozen 1
 have B4:=Lib.hid b4
 clear b2 b3 b4
 go_wp2_with (go_at_call 117;refine (HC.out _ hbl).mono ?_;rintro e wq ⟨rfl,nq,rfl⟩)
 have HZ:Hid (∀ W,Ext W0 W→(W.cell? ⟨w.heap.size,0,none⟩=some (.bool na)∧W.cell? ⟨w.heap.size,1,none⟩=some va∧W.cell? ⟨w.heap.size+1,0,none⟩=some (.bool nb)∧W.cell? ⟨w.heap.size+1,1,none⟩=some vb)∧W.cell? ⟨w.heap.size+1+1,0,none⟩=some (.bool false)∧W.cell? ⟨w.heap.size+1+1,1,none⟩=some (.slice none 0 0)∧W.frozen? ⟨w.heap.size+1+1,0,none⟩=false∧W.frozen? ⟨w.heap.size+1+1,1,none⟩=false):=fun W hx => ⟨⟨Ext.cell hx h0,Ext.cell hx h1,Ext.cell hx h2,Ext.cell hx h3⟩,Ext.cell hx r0,Ext.cell hx r1,(B4.out.below hx).frozen 0,(B4.out.below hx).frozen 1⟩
 have hx0:Ext W0 (W0.drewN nq).drew:=Below.drew (below_drewN (Below.refl _ _) _)
 go_region_held3 (fun w' => w'.cell? ⟨w.heap.size,0,none⟩=some (.bool na)∧w'.cell? ⟨w.heap.size,1,none⟩=some va∧w'.cell? ⟨w.heap.size+1,0,none⟩=some (.bool nb)∧w'.cell? ⟨w.heap.size+1,1,none⟩=some vb)
  (first | assumption | exact ⟨by assumption,by assumption,by assumption,by assumption⟩ | (refine ⟨?_,?_,?_,?_⟩ <;> (rw [World.cell?_setCell_far _ _ _ _ (by first | (show w.heap.size+1+1 ≠ w.heap.size;omega) | (show w.heap.size+1+1 ≠ w.heap.size+1;omega)),World.cell?_setCell_far _ _ _ _ (by first | (show w.heap.size+1+1 ≠ w.heap.size;omega) | (show w.heap.size+1+1 ≠ w.heap.size+1;omega))];assumption)) | go_keep)
  (first | (go_at_call 118;refine (HP.out _ hx0).mono ?_;rintro e w2 ⟨ad2,n2,cap2,rs2,rfl,own2,hx2,hb2⟩;obtain ⟨⟨p1,p2,p3,p4⟩,p5⟩:=HZ.out _ hx2) | (go_at_call 115;refine (HK.out _ _ _ _ _ hx2).mono ?_;rintro e w3 ⟨rfl,hx3,hb3⟩;obtain ⟨⟨p1,p2,p3,p4⟩,p5,p6,p7,p8⟩:=HZ.out _ hx3))
 go_wp2
 obtain ⟨ow,hn,rfl,hv⟩:=own2.out
 have HS:=Lib.hid ((B4.out.below hx3).store (.bool (na && decide (0 < rs2.length))) (.slice ad2 rs2.length cap2))
 have HF:Hid (SumPost w (sgnv na (val 1000000000 xs)+sgnv nb (val 1000000000 ys)) (.returned (.agg #[.bool (na && decide (0 < rs2.length)),.slice ad2 rs2.length cap2])) ((w3.setCell ⟨w.heap.size+1+1,0,none⟩ (.bool (na && decide (0 < rs2.length)))).setCell ⟨w.heap.size+1+1,1,none⟩ (.slice ad2 rs2.length cap2))):=by
  refine ⟨_,_,rs2,rfl,Sl.of_owns (ownsRow_setCell_below (ownsRow_setCell_below (ownsRow_below' ow hb3) (a:=⟨w.heap.size+1+1,0,none⟩) hz _) (a:=⟨w.heap.size+1+1,1,none⟩) hz _),hn,?_,below_store (hbl.trans (Below.mono hx3 hbl.size)) (by omega) _ _⟩
  rw [sgnv_cut _ _ _ (by rw [hn.val_zero (by decide),List.length_eq_zero_iff]),hv]
  exact sgnv_sub He2.out Hle.out
 obtain ⟨W3,hW3⟩:∃ W3,W3=(w3.setCell ⟨w.heap.size+1+1,0,none⟩ (.bool (na && decide (0 < rs2.length)))).setCell ⟨w.heap.size+1+1,1,none⟩ (.slice ad2 rs2.length cap2):=⟨_,rfl⟩
 rw [← hW3]
 rw [← hW3] at HS HF
 refine bodyPost_ret (v:=.agg #[.bool (na && decide (0 < rs2.length)),.slice ad2 rs2.length cap2]) (by simp [results,Tryz.results93,go_sem,HS.out.cell0,HS.out.cell1]) rfl HF.out
set_option maxHeartbeats 1000000 in
set_option maxRecDepth 100000 in
theorem sum_lt (na nb:Bool) (va vb:Value) (xs ys:List Nat) (w:World) (ha:Sl w va 1 xs.length (nums .u32 xs)) (hb:Sl w vb 1 ys.length (nums .u32 ys))
  (hx:Nrm 1000000000 xs) (hy:Nrm 1000000000 ys) (lx:xs.length≤100000) (ly:ys.length≤100000) (he2:na ≠ nb) (hle:val 1000000000 xs≤val 1000000000 ys) (hne:val 1000000000 xs ≠ val 1000000000 ys) :
  Calls Tryz.prog 93 #[.agg #[.bool na,va],.agg #[.bool nb,vb]] w (SumPost w (sgnv na (val 1000000000 xs)+sgnv nb (val 1000000000 ys))):=by
 have he:(na == nb)=false:=by rw [beq_eq_false_iff_ne];exact he2
 have HC:=Lib.hid (fun W (hS:Below w.heap.size w W) => compare_any va vb xs ys W (ha.below hS) (hb.below hS) hx hy (by omega) (by omega))
 have hs:decide (0≤sgn (val 1000000000 xs) (val 1000000000 ys))=false:=by
  unfold sgn;rw [decide_eq_false_iff_not];split <;> (try split) <;> omega
 generalize sgn (val 1000000000 xs) (val 1000000000 ys)=g at HC hs
 have Ha:=Lib.hid ha
 have Hb:=Lib.hid hb
 have Hx:=Lib.hid hx
 have Hy:=Lib.hid hy
 have Hle:=Lib.hid hle
 clear ha hb hx hy hle
 have He2:=Lib.hid he2
 clear he2
 go_enter Tryz.func93,Tryz.ntmps93
 have b2:=fun (o3 o4:Obj) => ((Boxed2.new w (.bool na) va 148).alloc o3).alloc o4
 have b3:=fun (o2 o4:Obj) => (Boxed2.new (w.alloc o2) (.bool nb) vb 148).alloc o4
 have b4:=fun (o2 o3:Obj) => Boxed2.new ((w.alloc o2).alloc o3) (.bool false) (.slice none 0 0) 148
 have HBX:=Lib.hid (And.intro b2 (And.intro b3 b4))
 clear b2 b3 b4
 go_wp2_with fail
 obtain ⟨W0,hW0⟩:∃ W0,W0=((w.alloc (.cells #[.bool na,va] 148)).alloc (.cells #[.bool nb,vb] 148)).alloc (.cells #[.bool false,.slice none 0 0] 148):=⟨_,rfl⟩
 rw [← hW0]
 have b2:Boxed2 W0 w.heap.size 148 (.bool na) va:=by rw [hW0];exact HBX.out.1 _ _
 have b3:Boxed2 W0 (w.heap.size+1) 148 (.bool nb) vb:=by rw [hW0];have h:=HBX.out.2.1 (.cells #[.bool na,va] 148) (.cells #[.bool false,.slice none 0 0] 148);simp at h;exact h
 have b4:Boxed2 W0 (w.heap.size+1+1) 148 (.bool false) (.slice none 0 0):=by rw [hW0];have h:=HBX.out.2.2 (.cells #[.bool na,va] 148) (.cells #[.bool nb,vb] 148);simp at h;exact h
 have hbl:Below w.heap.size w W0:=by rw [hW0];exact below_a3 _ _ _ _
 have hz:=b4.lt
 clear hW0 HBX
 have HP:Hid (∀ W,Ext W0 W→Calls Tryz.prog 118 #[vb,va] W fun e w' => ∃ ad n c rs,e = .returned (.slice ad n c)∧Hid (w'.ownsRow W0.heap.size 177 1 (.slice ad n c) rs.length (nums .u32 rs)∧Nrm 1000000000 rs∧n=rs.length∧val 1000000000 rs=val 1000000000 ys - val 1000000000 xs)∧Ext W0 w'∧Below W.heap.size W w'):=by
  intro W hx
  have hS:=hbl.trans (Below.mono hx hbl.size)
  refine (minus_any vb va ys xs W (Hb.out.below hS) (Ha.out.below hS) Hy.out.1 Hx.out Hle.out ly).mono ?_
  rintro e w' ⟨v,rs,rfl,⟨own,hn,hb1⟩,hv⟩
  obtain ⟨ad,c,rfl,_⟩:=Sl.of_owns own
  exact ⟨ad,_,c,rs,rfl,⟨ownsRow_base' own (Below.size hx),hn,rfl,hv⟩,Below.trans hx (hb1.mono (Below.size hx)),hb1⟩
 have HK:Hid (∀ W neg ad n c,Ext W0 W→Calls Tryz.prog 115 #[.bool neg,.slice ad n c] W fun e w' => e = .returned (.agg #[.bool (neg && decide (0 < n)),.slice ad n c])∧Ext W0 w'∧Below W.heap.size W w'):=by
  intro W neg ad n c hx
  refine (sumk_any neg ad n c W).mono ?_
  rintro e w' ⟨rfl,hb1⟩
  exact ⟨rfl,Below.trans hx (hb1.mono (Below.size hx)),hb1⟩
 have h0:=b2.cell0
 have h1:=b2.cell1
 have h2:=b3.cell0
 have h3:=b3.cell1
 have r0:=b4.cell0
 have r1:=b4.cell1
 have z0:=b4.frozen 0
 have z1:=b4.frozen 1
 have B4:=Lib.hid b4
 clear b2 b3 b4
 go_wp2_with (go_at_call 117;refine (HC.out _ hbl).mono ?_;rintro e wq ⟨rfl,nq,rfl⟩)
 have HZ:Hid (∀ W,Ext W0 W→(W.cell? ⟨w.heap.size,0,none⟩=some (.bool na)∧W.cell? ⟨w.heap.size,1,none⟩=some va∧W.cell? ⟨w.heap.size+1,0,none⟩=some (.bool nb)∧W.cell? ⟨w.heap.size+1,1,none⟩=some vb)∧W.cell? ⟨w.heap.size+1+1,0,none⟩=some (.bool false)∧W.cell? ⟨w.heap.size+1+1,1,none⟩=some (.slice none 0 0)∧W.frozen? ⟨w.heap.size+1+1,0,none⟩=false∧W.frozen? ⟨w.heap.size+1+1,1,none⟩=false):=fun W hx => ⟨⟨Ext.cell hx h0,Ext.cell hx h1,Ext.cell hx h2,Ext.cell hx h3⟩,Ext.cell hx r0,Ext.cell hx r1,(B4.out.below hx).frozen 0,(B4.out.below hx).frozen 1⟩
 have hx0:Ext W0 (W0.drewN nq).drew:=Below.drew (below_drewN (Below.refl _ _) _)
 go_region_held3 (fun w' => w'.cell? ⟨w.heap.size,0,none⟩=some (.bool na)∧w'.cell? ⟨w.heap.size,1,none⟩=some va∧w'.cell? ⟨w.heap.size+1,0,none⟩=some (.bool nb)∧w'.cell? ⟨w.heap.size+1,1,none⟩=some vb)
  (first | assumption | exact ⟨by assumption,by assumption,by assumption,by assumption⟩ | (refine ⟨?_,?_,?_,?_⟩ <;> (rw [World.cell?_setCell_far _ _ _ _ (by first | (show w.heap.size+1+1 ≠ w.heap.size;omega) | (show w.heap.size+1+1 ≠ w.heap.size+1;omega)),World.cell?_setCell_far _ _ _ _ (by first | (show w.heap.size+1+1 ≠ w.heap.size;omega) | (show w.heap.size+1+1 ≠ w.heap.size+1;omega))];assumption)) | go_keep)
  (first | (go_at_call 118;refine (HP.out _ hx0).mono ?_;rintro e w2 ⟨ad2,n2,cap2,rs2,rfl,own2,hx2,hb2⟩;obtain ⟨⟨p1,p2,p3,p4⟩,p5⟩:=HZ.out _ hx2) | (go_at_call 115;refine (HK.out _ _ _ _ _ hx2).mono ?_;rintro e w3 ⟨rfl,hx3,hb3⟩;obtain ⟨⟨p1,p2,p3,p4⟩,p5,p6,p7,p8⟩:=HZ.out _ hx3))
 go_wp2
 obtain ⟨ow,hn,rfl,hv⟩:=own2.out
 have HS:=Lib.hid ((B4.out.below hx3).store (.bool (nb && decide (0 < rs2.length))) (.slice ad2 rs2.length cap2))
 have HF:Hid (SumPost w (sgnv na (val 1000000000 xs)+sgnv nb (val 1000000000 ys)) (.returned (.agg #[.bool (nb && decide (0 < rs2.length)),.slice ad2 rs2.length cap2])) ((w3.setCell ⟨w.heap.size+1+1,0,none⟩ (.bool (nb && decide (0 < rs2.length)))).setCell ⟨w.heap.size+1+1,1,none⟩ (.slice ad2 rs2.length cap2))):=by
  refine ⟨_,_,rs2,rfl,Sl.of_owns (ownsRow_setCell_below (ownsRow_setCell_below (ownsRow_below' ow hb3) (a:=⟨w.heap.size+1+1,0,none⟩) hz _) (a:=⟨w.heap.size+1+1,1,none⟩) hz _),hn,?_,below_store (hbl.trans (Below.mono hx3 hbl.size)) (by omega) _ _⟩
  rw [sgnv_cut _ _ _ (by rw [hn.val_zero (by decide),List.length_eq_zero_iff]),hv]
  rw [Int.add_comm];exact sgnv_sub (fun e => He2.out e.symm) Hle.out
 obtain ⟨W3,hW3⟩:∃ W3,W3=(w3.setCell ⟨w.heap.size+1+1,0,none⟩ (.bool (nb && decide (0 < rs2.length)))).setCell ⟨w.heap.size+1+1,1,none⟩ (.slice ad2 rs2.length cap2):=⟨_,rfl⟩
 rw [← hW3]
 rw [← hW3] at HS HF
 refine bodyPost_ret (v:=.agg #[.bool (nb && decide (0 < rs2.length)),.slice ad2 rs2.length cap2]) (by simp [results,Tryz.results93,go_sem,HS.out.cell0,HS.out.cell1]) rfl HF.out
theorem sum_any (na nb:Bool) (va vb:Value) (xs ys:List Nat) (w:World) (ha:Sl w va 1 xs.length (nums .u32 xs)) (hb:Sl w vb 1 ys.length (nums .u32 ys))
  (hx:Nrm 1000000000 xs) (hy:Nrm 1000000000 ys) (lx:xs.length≤100000) (ly:ys.length≤100000) :
  Calls Tryz.prog 93 #[.agg #[.bool na,va],.agg #[.bool nb,vb]] w (SumPost w (sgnv na (val 1000000000 xs)+sgnv nb (val 1000000000 ys))):=by
 by_cases he:na=nb
 ·exact sum_same na nb va vb xs ys w ha hb hx hy lx ly he
 ·by_cases hle:val 1000000000 ys≤val 1000000000 xs
  ·exact sum_ge na nb va vb xs ys w ha hb hx hy lx ly he hle
  ·exact sum_lt na nb va vb xs ys w ha hb hx hy lx ly he (by omega) (by omega)
end Go.Proofs.YthdeijdimfjceaaGreatDoor

namespace Go.Proofs.YthdeijdimfjceaaGreatDoor
open Go.RowKit
def ival (l:List UInt8):Int:=sgnv (isNeg l) (dval (body l))
def zStr (z:Int):List UInt8:=wStr (decide (z < 0)) z.natAbs
def zErr (z:Int):Int:=wErr z.natAbs
theorem sgnv_abs (b:Bool) (n:Nat):(sgnv b n).natAbs=n:=by cases b <;> simp [sgnv]
theorem sgnv_neg {b:Bool} {n:Nat} (h:n ≠ 0):decide (sgnv b n < 0)=b:=by cases b <;> simp [sgnv] <;> omega
theorem wErr_sgnv (b:Bool) (n:Nat):wErr n=zErr (sgnv b n):=by rw [zErr,sgnv_abs]
theorem wStr_zero (b c:Bool):wStr b 0=wStr c 0:=by simp [wStr,istr]
theorem wStr_sgnv (b:Bool) (n:Nat):wStr b n=zStr (sgnv b n):=by
 rw [zStr,sgnv_abs]
 by_cases h:n=0
 ·subst h;exact wStr_zero _ _
 ·rw [sgnv_neg h]
def IntPost (w:World) (z:Int) (e:Ending) (w':World):Prop:=∃ t,e = .returned (.tuple #[.string t,.int .i64 (zErr z)])∧bl t=zStr z∧Below w.heap.size w w'
theorem sgnv_mul (a b:Bool) (x y:Nat):sgnv (!(a == b)) (x * y)=sgnv a x * sgnv b y:=by
 cases a <;> cases b <;> simp [sgnv,Int.neg_mul,Int.mul_neg]
theorem ten_succ (k:Nat):ten (k+1)=10 * ten k:=by rw [ten,ten,Nat.pow_succ,Nat.mul_comm]
theorem ten_add (j k:Nat):ten j * ten k=ten (j+k):=by rw [ten,ten,ten,Nat.pow_add]
theorem mul_len {rs xs ys:List Nat} (hv:val 1000000000 rs=val 1000000000 xs * val 1000000000 ys) (hn:Nrm 1000000000 rs) (hx:val 1000000000 xs < ten 1000) (hy:val 1000000000 ys < ten 1000):rs.length≤100000:=by
 refine Nat.le_trans (grp_ten (k:=223) hn ?_) (by decide)
 rw [hv]
 refine Nat.lt_of_lt_of_le (Nat.mul_lt_mul'' hx hy) ?_
 rw [ten_add]
 exact ten_mono (by decide)
theorem sum_len {neg na nb:Bool} {rs xs ys:List Nat} (hv:sgnv neg (val 1000000000 rs)=sgnv na (val 1000000000 xs)+sgnv nb (val 1000000000 ys)) (hn:Nrm 1000000000 rs) (hx:val 1000000000 xs < ten 1000) (hy:val 1000000000 ys < ten 1000):rs.length≤113:=by
 refine grp_ten hn ?_
 have h1:val 1000000000 rs≤val 1000000000 xs+val 1000000000 ys:=by
  generalize val 1000000000 rs=r at hv ⊢
  generalize val 1000000000 xs=x at hv ⊢
  generalize val 1000000000 ys=y at hv ⊢
  cases neg <;> cases na <;> cases nb <;> simp [sgnv] at hv <;> omega
 have h2:ten 1001=10 * ten 1000:=ten_succ 1000
 have h3:=ten_mono (show 1001≤9 * 113 by decide)
 omega
set_option maxHeartbeats 1000000 in
set_option maxRecDepth 100000 in
theorem iadd_err (a b:ByteArray) (w:World) (er:Int) (h:er ≠ 0) (C:∀ W,Calls Tryz.prog 90 #[.string a,.string b] W (PairErr W er)) :
  Calls Tryz.prog 51 #[.string a,.string b] w (GcdErr w er):=by
 have HC:=Lib.hid C
 have h2:(er != 0)=true:=by rw [bne_iff_ne];exact h
 clear C h
 go_enter Tryz.func51,Tryz.ntmps51
 go_wp2_with fail
 refine (HC.out _).mono ?_
 rintro e w' ⟨rfl,hbel⟩
 go_wp2
 go_ret2
 exact ⟨rfl,(hbel.alloc hbel.size _).alloc (by have:=hbel.size;simp;omega) _⟩
set_option maxHeartbeats 2000000 in
set_option maxRecDepth 100000 in
theorem iadd_ok (a b:ByteArray) (w:World) (ha:a.size≤9223372036854775807) (hb:b.size≤9223372036854775807) (h0:intErr (bl a)=0) (h:intErr (bl b)=0) :
  Calls Tryz.prog 51 #[.string a,.string b] w (IntPost w (ival (bl a)+ival (bl b))):=by
 have HC:=Lib.hid (fun W => pair_ok a b W ha hb h0 h)
 have HA:=Lib.hid (dval_body_lt h0)
 have HB:=Lib.hid (dval_body_lt h)
 clear ha hb h0 h
 go_enter Tryz.func51,Tryz.ntmps51
 go_wp2_with fail
 refine (HC.out _).mono ?_
 rintro e w1 ⟨va,vb,xs,ys,rfl,sa,sb,nx,ny,vx,vy,hb1⟩
 rw [← vx] at HA
 rw [← vy] at HB
 have HVa:Hid (ival (bl a)=sgnv (isNeg (bl a)) (val 1000000000 xs)):=by show _=_;rw [ival,vx]
 have HVb:Hid (ival (bl b)=sgnv (isNeg (bl b)) (val 1000000000 ys)):=by show _=_;rw [ival,vy]
 clear vx vy HC
 generalize isNeg (bl a)=na at *
 generalize isNeg (bl b)=nb at *
 obtain ⟨aa,ca,rfl,_⟩:=id sa
 obtain ⟨ab,cb,rfl,_⟩:=id sb
 have hb0:Below w1.heap.size w1 ((w1.alloc (.cells #[.bool na,.slice aa xs.length ca] 148)).alloc (.cells #[.bool nb,.slice ab ys.length cb] 148)):=below_a2 _ _ _
 have bx:Boxed2 ((w1.alloc (.cells #[.bool na,.slice aa xs.length ca] 148)).alloc (.cells #[.bool nb,.slice ab ys.length cb] 148)) w1.heap.size 148 (.bool na) (.slice aa xs.length ca):=(Boxed2.new _ _ _ _).alloc _
 have by1:Boxed2 ((w1.alloc (.cells #[.bool na,.slice aa xs.length ca] 148)).alloc (.cells #[.bool nb,.slice ab ys.length cb] 148)) (w1.heap.size+1) 148 (.bool nb) (.slice ab ys.length cb):=by
  have h:=Boxed2.new (w1.alloc (.cells #[.bool na,.slice aa xs.length ca] 148)) (.bool nb) (.slice ab ys.length cb) 148
  simp at h
  exact h
 have hbW:=hb1.trans (hb0.mono hb1.size)
 have sa0:=Lib.hid (sa.below hb0)
 have sb0:=Lib.hid (sb.below hb0)
 have lx:=grp_len nx HA.out
 have ly:=grp_len ny HB.out
 have x0:=bx.cell0
 have x1:=bx.cell1
 have y0:=by1.cell0
 have y1:=by1.cell1
 have BY:=Lib.hid by1
 clear bx by1 hb0 hb1 sa sb
 have HS:=Lib.hid (sum_any na nb _ _ xs ys _ sa0.out sb0.out nx ny (by omega) (by omega))
 clear nx ny
 go_wp2_with fail
 refine HS.out.mono ?_
 rintro e w2 ⟨neg,v,rs,rfl,sv,hn,hv,hb2⟩
 have hlen:rs.length≤100000:=by
  have:=sum_len hv hn HA.out HB.out;omega
 have HW:=Lib.hid (write_any neg v rs w2 sv hn hlen)
 clear HS x0 x1 y0 y1 sv hlen
 go_wp2_with fail
 refine HW.out.mono ?_
 rintro e w3 ⟨t,rfl,ht,hb3⟩
 have hE:Hid (wErr (val 1000000000 rs)=zErr (sgnv na (val 1000000000 xs)+sgnv nb (val 1000000000 ys))):=by show _=_;rw [← hv];exact wErr_sgnv _ _
 have hS:Hid (wStr neg (val 1000000000 rs)=zStr (sgnv na (val 1000000000 xs)+sgnv nb (val 1000000000 ys))):=by show _=_;rw [← hv];exact wStr_sgnv _ _
 have hbz:=hbW.trans ((hb2.mono hbW.size).trans (hb3.mono (Nat.le_trans hbW.size hb2.size)))
 rw [hE.out]
 rw [hS.out] at ht
 have Ht:=Lib.hid ht
 clear hE hS ht hv
 go_wp2
 go_ret2
 rw [HVa.out,HVb.out]
 exact ⟨t,rfl,Ht.out,hbz⟩
set_option maxHeartbeats 1000000 in
set_option maxRecDepth 100000 in
theorem imul_err (a b:ByteArray) (w:World) (er:Int) (h:er ≠ 0) (C:∀ W,Calls Tryz.prog 90 #[.string a,.string b] W (PairErr W er)) :
  Calls Tryz.prog 50 #[.string a,.string b] w (GcdErr w er):=by
 have HC:=Lib.hid C
 have h2:(er != 0)=true:=by rw [bne_iff_ne];exact h
 clear C h
 go_enter Tryz.func50,Tryz.ntmps50
 go_wp2_with fail
 refine (HC.out _).mono ?_
 rintro e w' ⟨rfl,hbel⟩
 go_wp2
 go_ret2
 exact ⟨rfl,(hbel.alloc hbel.size _).alloc (by have:=hbel.size;simp;omega) _⟩
set_option maxHeartbeats 2000000 in
set_option maxRecDepth 100000 in
theorem imul_ok (a b:ByteArray) (w:World) (ha:a.size≤9223372036854775807) (hb:b.size≤9223372036854775807) (h0:intErr (bl a)=0) (h:intErr (bl b)=0) :
  Calls Tryz.prog 50 #[.string a,.string b] w (IntPost w (ival (bl a) * ival (bl b))):=by
 have HC:=Lib.hid (fun W => pair_ok a b W ha hb h0 h)
 have HA:=Lib.hid (dval_body_lt h0)
 have HB:=Lib.hid (dval_body_lt h)
 clear ha hb h0 h
 go_enter Tryz.func50,Tryz.ntmps50
 go_wp2_with fail
 refine (HC.out _).mono ?_
 rintro e w1 ⟨va,vb,xs,ys,rfl,sa,sb,nx,ny,vx,vy,hb1⟩
 rw [← vx] at HA
 rw [← vy] at HB
 have HVa:Hid (ival (bl a)=sgnv (isNeg (bl a)) (val 1000000000 xs)):=by show _=_;rw [ival,vx]
 have HVb:Hid (ival (bl b)=sgnv (isNeg (bl b)) (val 1000000000 ys)):=by show _=_;rw [ival,vy]
 clear vx vy HC
 generalize isNeg (bl a)=na at *
 generalize isNeg (bl b)=nb at *
 obtain ⟨aa,ca,rfl,_⟩:=id sa
 obtain ⟨ab,cb,rfl,_⟩:=id sb
 have hb0:Below w1.heap.size w1 ((w1.alloc (.cells #[.bool na,.slice aa xs.length ca] 148)).alloc (.cells #[.bool nb,.slice ab ys.length cb] 148)):=below_a2 _ _ _
 have bx:Boxed2 ((w1.alloc (.cells #[.bool na,.slice aa xs.length ca] 148)).alloc (.cells #[.bool nb,.slice ab ys.length cb] 148)) w1.heap.size 148 (.bool na) (.slice aa xs.length ca):=(Boxed2.new _ _ _ _).alloc _
 have by1:Boxed2 ((w1.alloc (.cells #[.bool na,.slice aa xs.length ca] 148)).alloc (.cells #[.bool nb,.slice ab ys.length cb] 148)) (w1.heap.size+1) 148 (.bool nb) (.slice ab ys.length cb):=by
  have h:=Boxed2.new (w1.alloc (.cells #[.bool na,.slice aa xs.length ca] 148)) (.bool nb) (.slice ab ys.length cb) 148
  simp at h
  exact h
 have hbW:=hb1.trans (hb0.mono hb1.size)
 have sa0:=Lib.hid (sa.below hb0)
 have sb0:=Lib.hid (sb.below hb0)
 have lx:=grp_len nx HA.out
 have ly:=grp_len ny HB.out
 have x0:=bx.cell0
 have x1:=bx.cell1
 have y0:=by1.cell0
 have y1:=by1.cell1
 have BY:=Lib.hid by1
 clear bx by1 hb0 hb1 sa sb
 go_wp2_with fail
 obtain ⟨W0,hW0⟩:∃ W0,W0=((w1.alloc (.cells #[.bool na,.slice aa xs.length ca] 148)).alloc (.cells #[.bool nb,.slice ab ys.length cb] 148)):=⟨_,rfl⟩
 rw [← hW0] at x0 x1 y0 y1 hbW sa0 sb0 ⊢
 clear hW0 BY
 have HP:Hid (∀ W,Ext W0 W→Calls Tryz.prog 92 #[.slice aa xs.length ca,.slice ab ys.length cb] W fun e w' => ∃ ad c rs,e = .returned (.slice ad rs.length c)∧Hid (Sl w' (.slice ad rs.length c) 1 rs.length (nums .u32 rs)∧Nrm 1000000000 rs∧rs.length≤100000∧val 1000000000 rs=val 1000000000 xs * val 1000000000 ys)∧Ext W0 w'∧Below W.heap.size W w'):=by
  intro W hx
  refine (times_any _ _ xs ys W (sa0.out.below hx) (sb0.out.below hx) nx.1 ny.1 (by omega) (by omega)).mono ?_
  rintro e w' ⟨v,rs,rfl,⟨own,hn,hb1⟩,hv⟩
  have sl:=Sl.of_owns own
  obtain ⟨ad,c,rfl,_⟩:=id sl
  exact ⟨ad,c,rs,rfl,⟨sl,hn,mul_len hv hn HA.out HB.out,hv⟩,Below.trans hx (hb1.mono (Below.size hx)),hb1⟩
 have HZ:Hid (∀ W,Ext W0 W→W.cell? ⟨w1.heap.size,0,none⟩=some (.bool na)∧W.cell? ⟨w1.heap.size,1,none⟩=some (.slice aa xs.length ca)∧W.cell? ⟨w1.heap.size+1,0,none⟩=some (.bool nb)∧W.cell? ⟨w1.heap.size+1,1,none⟩=some (.slice ab ys.length cb)):=fun W hx => ⟨Ext.cell hx x0,Ext.cell hx x1,Ext.cell hx y0,Ext.cell hx y1⟩
 have hx0:Ext W0 W0.drew:=Below.drew (Below.refl _ _)
 clear nx ny
 go_region_held3 (fun w' => w'.cell? ⟨w1.heap.size,0,none⟩=some (.bool na)∧w'.cell? ⟨w1.heap.size,1,none⟩=some (.slice aa xs.length ca)∧w'.cell? ⟨w1.heap.size+1,0,none⟩=some (.bool nb)∧w'.cell? ⟨w1.heap.size+1,1,none⟩=some (.slice ab ys.length cb))
  (first | assumption | exact ⟨by assumption,by assumption,by assumption,by assumption⟩ | go_keep)
  (first | (go_at_call 92;refine (HP.out _ hx0).mono ?_;rintro e w2 ⟨ad2,cap2,rs2,rfl,own2,hx2,hb2⟩;obtain ⟨p1,p2,p3,p4⟩:=HZ.out _ hx2) | (go_at_call 91;refine (write_any _ _ rs2 _ own2.out.1 own2.out.2.1 own2.out.2.2.1).mono ?_;rintro e w3 ⟨t,rfl,ht,hb3⟩;have hx3:=Below.trans hx2 (hb3.mono (Below.size hx2));obtain ⟨p1,p2,p3,p4⟩:=HZ.out _ hx3))
 have hv:=own2.out.2.2.2
 have hE:Hid (wErr (val 1000000000 rs2)=zErr (sgnv na (val 1000000000 xs) * sgnv nb (val 1000000000 ys))):=by show _=_;rw [← sgnv_mul,← hv];exact wErr_sgnv _ _
 have hS:Hid (wStr (!(na == nb)) (val 1000000000 rs2)=zStr (sgnv na (val 1000000000 xs) * sgnv nb (val 1000000000 ys))):=by show _=_;rw [← sgnv_mul,← hv];exact wStr_sgnv _ _
 have hbz:=hbW.trans (Below.mono hx3 hbW.size)
 rw [hE.out]
 rw [hS.out] at ht
 have Ht:=Lib.hid ht
 clear hE hS ht hv
 go_wp2
 go_ret2
 rw [HVa.out,HVb.out]
 exact ⟨t,rfl,Ht.out,hbz⟩
def pairErr (a b:List UInt8):Int:=if intErr a ≠ 0 then intErr a else intErr b
def OpPost (w:World) (a b:List UInt8) (z:Int) (e:Ending) (w':World):Prop:=if pairErr a b=0 then IntPost w z e w' else GcdErr w (pairErr a b) e w'
theorem pairErr_a {a b:List UInt8} (h0:intErr a ≠ 0):pairErr a b=intErr a:=by rw [pairErr,if_pos h0]
theorem pairErr_b {a b:List UInt8} (h0:intErr a=0):pairErr a b=intErr b:=by rw [pairErr,if_neg (fun h => h h0)]
theorem opPost_ok {w:World} {a b:List UInt8} {z:Int} {e:Ending} {w':World} (h0:intErr a=0) (h:intErr b=0) (k:IntPost w z e w'):OpPost w a b z e w':=by
 rw [OpPost,pairErr_b h0,if_pos h];exact k
theorem opPost_err2 {w:World} {a b:List UInt8} {z:Int} {e:Ending} {w':World} (h0:intErr a=0) (h:intErr b ≠ 0) (k:GcdErr w (intErr b) e w'):OpPost w a b z e w':=by
 rw [OpPost,pairErr_b h0,if_neg h];exact k
theorem opPost_err1 {w:World} {a b:List UInt8} {z:Int} {e:Ending} {w':World} (h0:intErr a ≠ 0) (k:GcdErr w (intErr a) e w'):OpPost w a b z e w':=by
 rw [OpPost,pairErr_a h0,if_neg h0];exact k
theorem iadd_any (a b:ByteArray) (w:World) (ha:a.size≤9223372036854775807) (hb:b.size≤9223372036854775807) :
  Calls Tryz.prog 51 #[.string a,.string b] w (OpPost w (bl a) (bl b) (ival (bl a)+ival (bl b))):=by
 by_cases h0:intErr (bl a)=0
 ·by_cases h:intErr (bl b)=0
  ·exact (iadd_ok a b w ha hb h0 h).mono fun e w' k => opPost_ok h0 h k
  ·exact (iadd_err a b w _ h (fun W => pair_err2 a b W ha hb h0 h)).mono fun e w' k => opPost_err2 h0 h k
 ·exact (iadd_err a b w _ h0 (fun W => pair_err1 a b W ha h0)).mono fun e w' k => opPost_err1 h0 k
theorem imul_any (a b:ByteArray) (w:World) (ha:a.size≤9223372036854775807) (hb:b.size≤9223372036854775807) :
  Calls Tryz.prog 50 #[.string a,.string b] w (OpPost w (bl a) (bl b) (ival (bl a) * ival (bl b))):=by
 by_cases h0:intErr (bl a)=0
 ·by_cases h:intErr (bl b)=0
  ·exact (imul_ok a b w ha hb h0 h).mono fun e w' k => opPost_ok h0 h k
  ·exact (imul_err a b w _ h (fun W => pair_err2 a b W ha hb h0 h)).mono fun e w' k => opPost_err2 h0 h k
 ·exact (imul_err a b w _ h0 (fun W => pair_err1 a b W ha h0)).mono fun e w' k => opPost_err1 h0 k
end Go.Proofs.YthdeijdimfjceaaGreatDoor

namespace Go.Proofs.YthdeijdimfjceaaGreatDoor
open Go.RowKit
def rdig (l:List UInt8):List Nat:=(l.map fun c => c.toNat - 48).reverse
theorem rdig_cons (c:UInt8) (l:List UInt8):rdig (c :: l)=rdig l ++ [c.toNat - 48]:=by simp [rdig]
theorem rdig_val (l:List UInt8):val 10 (rdig l)=dval l:=by
 refine Nat.rec (motive:=fun n => ∀ m:List UInt8,m.length=n→val 10 (rdig m)=dval m) ?_ ?_ l.length l rfl
 ·intro m hm;rw [List.eq_nil_of_length_eq_zero hm];rfl
 ·intro n ih m hm
  rcases List.eq_nil_or_concat m with rfl | ⟨m,c,rfl⟩
  ·rfl
  ·rw [List.concat_eq_append] at hm ⊢
   have e:rdig (m ++ [c])=(c.toNat - 48) :: rdig m:=by simp [rdig]
   rw [e,dval_snoc,val,ih m (by simp at hm;exact hm)]
   omega
theorem rdig_dig {l:List UInt8} (h:l.all isDig=true):Dig 10 (rdig l):=by
 intro x hx
 simp only [rdig,List.mem_reverse,List.mem_map] at hx
 obtain ⟨c,hc,rfl⟩:=hx
 have:=List.all_eq_true.1 h c hc
 simp [isDig] at this
 omega
end Go.Proofs.YthdeijdimfjceaaGreatDoor

namespace Go.Proofs.YthdeijdimfjceaaGreatDoor
open Go.RowKit
theorem ofNat_dig {d:Nat} (h:d < 10):(UInt8.ofNat (48+d)).toNat=48+d:=by
 rw [UInt8.toNat_ofNat']
 exact Nat.mod_eq_of_lt (by omega)
theorem asc_dig {D:List Nat} (h:Dig 10 D):(asc D).all isDig=true:=by
 rw [List.all_eq_true]
 intro c hc
 obtain ⟨d,hd,rfl⟩:=List.mem_map.1 hc
 have:=h d hd
 rw [isDig,ofNat_dig this];simp;omega
theorem rdig_asc {D:List Nat} (h:Dig 10 D):rdig (asc D.reverse)=D:=by
 have e:(asc D.reverse).map (fun c => c.toNat - 48)=D.reverse:=by
  rw [asc,List.map_map]
  conv => rhs;rw [← List.map_id D.reverse]
  apply List.map_congr_left
  intro d hd
  have:=h d (List.mem_reverse.1 hd)
  simp only [Function.comp,ofNat_dig this,id];omega
 rw [rdig,e,List.reverse_reverse]
theorem dval_asc {D:List Nat} (h:Dig 10 D):dval (asc D.reverse)=val 10 D:=by rw [← rdig_val,rdig_asc h]
theorem Dig.rev {D:List Nat} (h:Dig 10 D):Dig 10 D.reverse:=fun x hx => h x (List.mem_reverse.1 hx)
theorem asc_head {D:List Nat} (h:Nrm 10 D) (hne:D ≠ []):∃ c l,asc D.reverse=c :: l∧c ≠ 48∧c ≠ 45:=by
 obtain ⟨d,hd⟩:∃ d,D.getLast? = some d:=by
  cases hD:D.getLast? with
  | none => exact absurd (List.getLast?_eq_none_iff.1 hD) hne
  | some d => exact ⟨d,rfl⟩
 have hd0:d ≠ 0:=fun e => h.2 (by rw [hd,e])
 have hdm:=List.mem_of_getLast? hd
 have hd10:=h.1 d hdm
 have hr:D.reverse.head? = some d:=by rw [List.head?_reverse];exact hd
 cases hR:D.reverse with
 | nil => rw [hR] at hr;cases hr
 | cons x t =>
  rw [hR] at hr
  cases hr
  refine ⟨UInt8.ofNat (48+d),asc t,rfl,?_,?_⟩
  ·intro e
   have:=congrArg UInt8.toNat e
   rw [ofNat_dig hd10] at this
   have h48:(48:UInt8).toNat=48:=rfl
   omega
  ·intro e
   have:=congrArg UInt8.toNat e
   rw [ofNat_dig hd10] at this
   have h45:(45:UInt8).toNat=45:=rfl
   omega
theorem istr_ne {n:Nat} (neg:Bool) (h:n ≠ 0):istr neg n=(if neg then [45] else []) ++ asc (dig10 n).reverse:=by rw [istr,if_neg h]
theorem body_istr {n:Nat} (neg:Bool) (h:n ≠ 0):body (istr neg n)=asc (dig10 n).reverse∧isNeg (istr neg n)=neg:=by
 obtain ⟨c,l,e,h1,h2⟩:=asc_head (dig10_nrm n) (dig10_ne h)
 rw [istr_ne neg h,e]
 cases neg <;> simp [body,isNeg,h2]
theorem dval_istr (neg:Bool) (n:Nat):dval (body (istr neg n))=n:=by
 by_cases h:n=0
 ·subst h;cases neg <;> decide
 ·rw [(body_istr neg h).1,dval_asc (dig10_nrm n).1,dig10_val]
theorem isNeg_istr (neg:Bool) (n:Nat):isNeg (istr neg n)=(neg && decide (n ≠ 0)):=by
 by_cases h:n=0
 ·subst h;cases neg <;> decide
 ·rw [(body_istr neg h).2];simp [h]
theorem canon_istr (neg:Bool) (n:Nat):canonI (istr neg n)=true:=by
 by_cases h:n=0
 ·subst h;cases neg <;> decide
 ·obtain ⟨c,l,e,h1,h2⟩:=asc_head (dig10_nrm n) (dig10_ne h)
  have ha:=asc_dig (dig10_nrm n).1.rev
  rw [canonI,(body_istr neg h).1,(body_istr neg h).2,canonD,ha,e]
  simp [h1]
theorem len_istr (neg:Bool) (n:Nat):(body (istr neg n)).length=if n=0 then 1 else (dig10 n).length:=by
 by_cases h:n=0
 ·subst h;cases neg <;> decide
 ·rw [(body_istr neg h).1,if_neg h];simp [asc]
theorem intErr_istr (neg:Bool) (n:Nat):intErr (istr neg n)=wErr n:=by
 rw [intErr,if_pos (canon_istr neg n),len_istr,wErr]
 by_cases h:n=0
 ·subst h;rfl
 ·rw [if_neg h]
theorem ival_istr (neg:Bool) (n:Nat):ival (istr neg n)=sgnv neg n:=by
 rw [ival,dval_istr,isNeg_istr]
 by_cases h:n=0
 ·subst h;cases neg <;> rfl
 ·simp [h]
theorem intErr_text {l:List UInt8} (h:intErr l=0):dval (body l) < ten 1000:=dval_body_lt h
theorem asc_rdig {d:List UInt8} (h:d.all isDig=true):asc (rdig d).reverse=d:=by
 rw [rdig,List.reverse_reverse,asc,List.map_map]
 conv => rhs;rw [← List.map_id d]
 apply List.map_congr_left
 intro c hc
 have h1:=(List.all_eq_true.1 h) c hc
 simp [isDig] at h1
 simp only [Function.comp,id]
 apply UInt8.toNat_inj.1
 rw [UInt8.toNat_ofNat']
 have:=c.toNat_lt
 rw [Nat.mod_eq_of_lt (by omega)]
 omega
theorem canonD_text {d:List UInt8} {neg:Bool} (h:canonD d neg=true):istr neg (dval d)=(if neg then [45] else []) ++ d:=by
 rw [canonD] at h
 simp only [Bool.and_eq_true,Bool.not_eq_true'] at h
 obtain ⟨⟨h1,h2⟩,h3⟩:=h
 cases d with
 | nil => simp at h1
 | cons c t =>
  by_cases hc:c=48
  ·subst hc
   simp at h3
   obtain ⟨h3,rfl⟩:=h3
   obtain rfl:t=[]:=h3
   rfl
  ·have hN:Nrm 10 (rdig (c :: t)):=by
    refine ⟨rdig_dig h2,?_⟩
    rw [rdig_cons,List.getLast?_append]
    simp
    have h4:=(List.all_eq_true.1 h2) c (by simp)
    simp [isDig] at h4
    intro e
    apply hc
    apply UInt8.toNat_inj.1
    show c.toNat=48
    omega
   have hne:rdig (c :: t) ≠ []:=by rw [rdig_cons];simp
   have hv:dval (c :: t) ≠ 0:=by
    rw [← rdig_val];exact fun e => hne ((hN.val_zero (by decide)).1 e)
   rw [istr_ne neg hv,← rdig_val,dig10_of hN,asc_rdig h2]
theorem canon_text {l:List UInt8} (h:canonI l=true):istr (isNeg l) (dval (body l))=l:=by
 rw [canonI] at h
 rw [canonD_text h]
 cases l with
 | nil => rfl
 | cons c t =>
  by_cases hc:c=45
  ·subst hc;rfl
  ·simp [isNeg,body,hc]
end Go.Proofs.YthdeijdimfjceaaGreatDoor

namespace Go.Proofs.YthdeijdimfjceaaGreatDoor
open Go.RowKit
def sgnZ (a b:Int):Int:=if a < b then -1 else if a=b then 0 else 1
theorem neg_nz {l:List UInt8} (h:canonI l=true) (hn:isNeg l=true):dval (body l) ≠ 0:=by
 intro h0
 have e:=canon_text h
 rw [hn,h0] at e
 have:l=[48]:=by rw [← e];rfl
 rw [this] at hn
 exact absurd hn (by decide)
theorem sgnZ_ff (a b:Nat):sgnZ (sgnv false a) (sgnv false b)=sgn a b:=by
 simp only [sgnZ,sgnv,sgn,Bool.false_eq_true,if_false]
 rcases Nat.lt_trichotomy a b with h | h | h
 ·rw [if_pos (by omega),if_pos h]
 ·rw [if_neg (by omega),if_pos (by omega),if_neg (by omega),if_pos h]
 ·rw [if_neg (by omega),if_neg (by omega),if_neg (by omega),if_neg (by omega)]
theorem sgnZ_tt (a b:Nat):sgnZ (sgnv true a) (sgnv true b)=sgn b a:=by
 simp only [sgnZ,sgnv,sgn,if_true]
 rcases Nat.lt_trichotomy a b with h | h | h
 ·rw [if_neg (by omega),if_neg (by omega),if_neg (by omega),if_neg (by omega)]
 ·rw [if_neg (by omega),if_pos (by omega),if_neg (by omega),if_pos (by omega)]
 ·rw [if_pos (by omega),if_pos h]
theorem sgnZ_tf (a b:Nat) (h:a ≠ 0):sgnZ (sgnv true a) (sgnv false b) = -1:=by
 simp only [sgnZ,sgnv,if_true,Bool.false_eq_true,if_false]
 rw [if_pos (by omega)]
theorem sgnZ_ft (a b:Nat) (h:b ≠ 0):sgnZ (sgnv false a) (sgnv true b)=1:=by
 simp only [sgnZ,sgnv,if_true,Bool.false_eq_true,if_false]
 rw [if_neg (by omega),if_neg (by omega)]
set_option maxHeartbeats 2000000 in
set_option maxRecDepth 100000 in
theorem icmp_ok (a b:ByteArray) (w:World) (ha:a.size≤9223372036854775807) (hb:b.size≤9223372036854775807) (h0:intErr (bl a)=0) (h:intErr (bl b)=0) :
  Calls Tryz.prog 180 #[.string a,.string b] w fun e w' => e = .returned (.tuple #[.int .i64 (sgnZ (ival (bl a)) (ival (bl b))),.int .i64 0])∧Below w.heap.size w w':=by
 have HC:=Lib.hid (fun W => pair_ok a b W ha hb h0 h)
 have HA:=Lib.hid (dval_body_lt h0)
 have HB:=Lib.hid (dval_body_lt h)
 have HNa:=Lib.hid (fun k => neg_nz (intErr_zero h0).1 k)
 have HNb:=Lib.hid (fun k => neg_nz (intErr_zero h).1 k)
 clear ha hb h0 h
 go_enter Tryz.func180,Tryz.ntmps180
 go_wp2_with fail
 refine (HC.out _).mono ?_
 rintro e w1 ⟨va,vb,xs,ys,rfl,sa,sb,nx,ny,vx,vy,hb1⟩
 rw [← vx] at HA HNa
 rw [← vy] at HB HNb
 have HVa:Hid (ival (bl a)=sgnv (isNeg (bl a)) (val 1000000000 xs)):=by show _=_;rw [ival,vx]
 have HVb:Hid (ival (bl b)=sgnv (isNeg (bl b)) (val 1000000000 ys)):=by show _=_;rw [ival,vy]
 clear vx vy HC
 generalize isNeg (bl a)=na at *
 generalize isNeg (bl b)=nb at *
 obtain ⟨aa,ca,rfl,_⟩:=id sa
 obtain ⟨ab,cb,rfl,_⟩:=id sb
 have hb0:Below w1.heap.size w1 ((w1.alloc (.cells #[.bool na,.slice aa xs.length ca] 148)).alloc (.cells #[.bool nb,.slice ab ys.length cb] 148)):=below_a2 _ _ _
 have hbW:=hb1.trans (hb0.mono hb1.size)
 have lx:=grp_len nx HA.out
 have ly:=grp_len ny HB.out
 have HS1:=Lib.hid (compare_any _ _ xs ys _ (sa.below hb0) (sb.below hb0) nx ny (by omega) (by omega))
 have HS2:=Lib.hid (compare_any _ _ ys xs _ (sb.below hb0) (sa.below hb0) ny nx (by omega) (by omega))
 clear sa sb hb1 hb0 nx ny lx ly
 cases na <;> cases nb
 ·have HF:Hid (sgnZ (ival (bl a)) (ival (bl b))=sgn (val 1000000000 xs) (val 1000000000 ys)):=by show _=_;rw [HVa.out,HVb.out];exact sgnZ_ff _ _
  clear HVa HVb HNa HNb HA HB HS2
  go_wp2_with fail
  refine HS1.out.mono ?_
  rintro e w2 ⟨rfl,n,rfl⟩
  go_wp2
  go_ret2
  exact ⟨by rw [HF.out];rfl,below_drewN hbW _⟩
 ·have HF:Hid (sgnZ (ival (bl a)) (ival (bl b))=1):=by show _=_;rw [HVa.out,HVb.out];exact sgnZ_ft _ _ (HNb.out rfl)
  clear HVa HVb HNa HNb HA HB HS2 HS1
  go_wp2
  go_ret2
  exact ⟨by rw [HF.out];rfl,hbW⟩
 ·have HF:Hid (sgnZ (ival (bl a)) (ival (bl b)) = -1):=by show _=_;rw [HVa.out,HVb.out];exact sgnZ_tf _ _ (HNa.out rfl)
  clear HVa HVb HNa HNb HA HB HS2 HS1
  go_wp2
  go_ret2
  exact ⟨by rw [HF.out];rfl,hbW⟩
 ·have HF:Hid (sgnZ (ival (bl a)) (ival (bl b))=sgn (val 1000000000 ys) (val 1000000000 xs)):=by show _=_;rw [HVa.out,HVb.out];exact sgnZ_tt _ _
  clear HVa HVb HNa HNb HA HB HS1
  go_wp2_with fail
  refine HS2.out.mono ?_
  rintro e w2 ⟨rfl,n,rfl⟩
  go_wp2
  go_ret2
  exact ⟨by rw [HF.out];rfl,below_drewN hbW _⟩
end Go.Proofs.YthdeijdimfjceaaGreatDoor
