/-
  integer.minus and integer.plus. integer.plus: the sum of two magnitudes.  Printed by tools/genplus.py.
-/
import Derived.Test.YtknpnhodpgajbaaGreatDoorE02
namespace Go.Proofs.YtknpnhodpgajbaaGreatDoor
open Go.RowKit
theorem Tryz.ul_u32s:Tryz.prog.underlying 157=some (.slice 197):=by kernel_rfl
theorem Tryz.info_u32:(Tryz.prog.info? 197).map (fun i => (i.zero,i.size,i.bytes))=some (some (.int .u32 0),1,4):=by kernel_rfl
def OwnMag (W:World) (w:World) (v:Value) (rs:List Nat):Prop :=
 w.ownsRow W.heap.size 197 1 v rs.length (nums .u32 rs)∧Nrm 1000000000 rs∧Below W.heap.size W w
theorem own_trim {w:World} {base:Nat} {e:TypeId} {v v':Value} {xs:List Nat} {k:IntKind} (h:w.ownsRow base e 1 v xs.length (nums k xs)) (hv:v'=cutTo v (trimL xs).length) :
  w.ownsRow base e 1 v' (trimL xs).length (nums k (trimL xs)):=by
 subst hv
 have h2:=ownsRow_cut h (trimL xs).length (trimL_prefix xs).2
 rw [Nat.mul_one,nums_take,← (trimL_prefix xs).1] at h2
 exact h2
theorem int_oneCell (k:IntKind) (n:Int):∀ u ∈ [Value.int k n],u.oneCell'=true:=by
 intro u hu;rw [List.mem_singleton] at hu;subst hu;rfl
theorem minus_step (A Bv O P x y c d r:Nat) (h:A+c * P=O+Bv) (hd:d+y+c=x+r * 1000000000):(A+P * x)+r * (P * 1000000000)=(O+P * d)+(Bv+P * y):=by
 have e1:P * (d+y+c)=P * (x+r * 1000000000):=by rw [hd]
 rw [Nat.mul_add,Nat.mul_add,Nat.mul_add] at e1
 have e2:P * (r * 1000000000)=r * (P * 1000000000):=by rw [← Nat.mul_assoc,← Nat.mul_assoc,Nat.mul_comm P r]
 rw [e2] at e1
 rw [Nat.mul_comm c P] at h
 omega
theorem nrm_len_le {xs ys:List Nat} (hx:Dig 1000000000 xs) (hy:Nrm 1000000000 ys) (h:val 1000000000 ys≤val 1000000000 xs):ys.length≤xs.length:=by
 by_cases hne:ys=[]
 ·subst hne;simp
 ·have h1:=hy.pos hne
  have h2:=val_lt hx
  have h3:=(Nat.pow_lt_pow_iff_right (show 1 < 1000000000 by decide)).1 (Nat.lt_of_le_of_lt (Nat.le_trans h1 h) h2)
  omega
def MinusInv (xs ys o:List Nat) (k c:Nat):Prop :=
 o.length=k∧Dig 1000000000 o∧val 1000000000 (xs.take k)+c * 1000000000 ^ k=val 1000000000 o+val 1000000000 (ys.take k)
theorem MinusInv.start (xs ys:List Nat):MinusInv xs ys [] 0 0:=⟨rfl,Dig.nil _,by simp [val]⟩
theorem MinusInv.step {xs ys o:List Nat} {k c d r:Nat} (h:MinusInv xs ys o k c) (hd:d < 1000000000) (e:d+ys.getD k 0+c=xs.getD k 0+r * 1000000000):MinusInv xs ys (o ++ [d]) (k+1) r:=by
 obtain ⟨h1,h2,h3⟩:=h
 refine ⟨by simp [h1],h2.snoc hd,?_⟩
 rw [val_take_succ,val_take_succ,val_snoc,h1,Nat.pow_succ]
 exact minus_step _ _ _ _ _ _ _ _ _ h3 e
theorem MinusInv.fin {xs ys o:List Nat} {c:Nat} (h:MinusInv xs ys o xs.length c) (hl:ys.length≤xs.length) (hle:val 1000000000 ys≤val 1000000000 xs) (hc:c≤1) :
  val 1000000000 (trimL o)=val 1000000000 xs - val 1000000000 ys:=by
 obtain ⟨h1,h2,h3⟩:=h
 rw [List.take_of_length_le (Nat.le_refl _),List.take_of_length_le hl] at h3
 rw [trimL_val]
 have h4:=val_lt h2
 rw [h1] at h4
 by_cases h0:c=0
 ·subst h0;omega
 ·obtain rfl:c=1:=by omega
  omega
set_option maxHeartbeats 1000000 in
set_option maxRecDepth 100000 in
theorem minus_any (a b:Value) (xs ys:List Nat) (w:World) (ha:Sl w a 1 xs.length (nums .u32 xs)) (hb:Sl w b 1 ys.length (nums .u32 ys))
  (dx:Dig 1000000000 xs) (dy:Nrm 1000000000 ys) (hle:val 1000000000 ys≤val 1000000000 xs) (lx:xs.length≤100000) :
  Calls Tryz.prog 165 #[a,b] w fun e w' => ∃ v rs,e = .returned v∧OwnMag w w' v rs∧val 1000000000 rs=val 1000000000 xs - val 1000000000 ys:=by
 have hlen:=nrm_len_le dx dy hle
 obtain ⟨ad,ca,rfl,h1,h3⟩:=ha.nums
 obtain ⟨bd,cb,rfl,h1',h3'⟩:=hb.nums
 obtain ⟨i0,hi,hz0,hz1,hz2⟩:=info_parts Tryz.info_u32
 have Hle:=Lib.hid hle;clear hle ha hb
 go_enter Tryz.func165,Tryz.ntmps165
 go_wp2_with (at_make;refine wpList_make_own _ rfl _ _ 157 rfl w.heap.size 197 i0 (.int .u32 0) 1 Tryz.ul_u32s hi hz0 hz1 _ _ _ xs.length rfl rfl rfl ?b1 ?b2 ?b3 ?_)
 case b1 => rw [hz2];omega
 case b2 => unfold maxLen;omega
 case b3 => exact Nat.le_refl _
 intro w1 hown hgrow
 have hbel:Below w.heap.size w w1:=(Below.refl _ _).grown hgrow (Nat.le_refl _) (by simp)
 clear hgrow
 go_wp2
 go_loopw [5,6,15] (fun o c i wr => ∃ (k b1:Nat) (os:List Nat),k≤xs.length∧b1≤1∧i = .int .i64 k∧c = .int .u32 b1∧o = .slice (some ⟨w.heap.size,0,none⟩) k xs.length ∧
   wr.ownsRow w.heap.size 197 1 (.slice (some ⟨w.heap.size,0,none⟩) k xs.length) k (nums .u32 os)∧Hid (MinusInv xs ys os k b1)∧Below w.heap.size w wr)
  (fun _ _ i _ => xs.length - (intOf i).toNat)
 case atStart => exact ⟨0,0,[],Nat.zero_le _,by omega,rfl,rfl,rfl,hown,MinusInv.start _ _,hbel⟩
 case round =>
  clear hown hbel
  obtain ⟨k,b1,os,hk,hb1,rfl,rfl,rfl,hown,Hinv,hbel⟩:=hrel
  by_cases hlt:k < xs.length
  ·obtain ⟨b,off,rfl,hc⟩:=h3.resolve_left (by omega)
   have hck:=cell_later hbel (hc k hlt)
   have hx9:=dx.at (by decide) k
   have hy9:=dy.1.at (by decide) k
   obtain ⟨x,hx⟩:∃ x,x=xs.getD k 0:=⟨_,rfl⟩
   obtain ⟨y,hy⟩:∃ y,y=ys.getD k 0:=⟨_,rfl⟩
   rw [← hx] at hck hx9
   rw [← hy] at hy9
   have Hx:=Lib.hid hx;clear hx
   have Hy:=Lib.hid hy;clear hy
   clear hc h3
   have hsz:=hbel.size
   by_cases hly:k < ys.length
   ·obtain ⟨b',off',rfl,hd⟩:=h3'.resolve_left (by omega)
    have hdk:=cell_later hbel (hd k hly)
    rw [← Hy.out] at hdk
    clear hd h3'
    by_cases hxy:x < b1+y
    ·go_wp2_with (at_builtin;refine wpList_append_fits _ rfl _ _ 157 rfl w.heap.size 197 i0 1 Tryz.ul_u32s hi hz1 w.heap.size k xs.length (nums .u32 os) rfl (hown.alloc _) ⟨wr.heap.size,0,none⟩ 1 1 [_] rfl rfl (cell_one_new _ _ _) (int_oneCell _ _) (by omega) ?_)
     intro w2 hown2 hgrow2
     have ed:((x:Int)+1000000000 - ((b1:Int)+(y:Int)):Int)=((x+1000000000 - (b1+y):Nat):Int):=by omega
     rw [ed,nums_snoc] at hown2
     have hbel2:Below w.heap.size w w2:=(hbel.alloc hsz _).grown hgrow2 (by simp;omega) (by intro k hk;simp at hk;omega)
     have HR:Hid (MinusInv xs ys (os ++ [x+1000000000 - (b1+y)]) (k+1) 1):=Hinv.out.step (by omega) (by rw [← Hx.out,← Hy.out];omega)
     clear ed hgrow2 hown hbel
     go_wp2
     go_roundw
     case rel => exact ⟨k+1,1,os ++ [x+1000000000 - (b1+y)],by omega,by omega,by go_num,rfl,rfl,hown2,HR,hbel2⟩
     case measure => simp [intOf];omega
    ·go_wp2_with (at_builtin;refine wpList_append_fits _ rfl _ _ 157 rfl w.heap.size 197 i0 1 Tryz.ul_u32s hi hz1 w.heap.size k xs.length (nums .u32 os) rfl (hown.alloc _) ⟨wr.heap.size,0,none⟩ 1 1 [_] rfl rfl (cell_one_new _ _ _) (int_oneCell _ _) (by omega) ?_)
     intro w2 hown2 hgrow2
     have ed:((x:Int) - ((b1:Int)+(y:Int)):Int)=((x - (b1+y):Nat):Int):=by omega
     rw [ed,nums_snoc] at hown2
     have hbel2:Below w.heap.size w w2:=(hbel.alloc hsz _).grown hgrow2 (by simp;omega) (by intro k hk;simp at hk;omega)
     have HR:Hid (MinusInv xs ys (os ++ [x - (b1+y)]) (k+1) 0):=Hinv.out.step (by omega) (by rw [← Hx.out,← Hy.out];omega)
     clear ed hgrow2 hown hbel
     go_wp2
     go_roundw
     case rel => exact ⟨k+1,0,os ++ [x - (b1+y)],by omega,by omega,by go_num,rfl,rfl,hown2,HR,hbel2⟩
     case measure => simp [intOf];omega
   ·have hy0:ys.getD k 0=0:=by simp only [List.getD,List.getElem?_eq_none (by omega:ys.length≤k),Option.getD_none]
    have Hy0:=Lib.hid hy0;clear hy0
    by_cases hxy:x < b1
    ·go_wp2_with (at_builtin;refine wpList_append_fits _ rfl _ _ 157 rfl w.heap.size 197 i0 1 Tryz.ul_u32s hi hz1 w.heap.size k xs.length (nums .u32 os) rfl (hown.alloc _) ⟨wr.heap.size,0,none⟩ 1 1 [_] rfl rfl (cell_one_new _ _ _) (int_oneCell _ _) (by omega) ?_)
     intro w2 hown2 hgrow2
     have ed:((x:Int)+1000000000 - (b1:Int):Int)=((x+1000000000 - b1:Nat):Int):=by omega
     rw [ed,nums_snoc] at hown2
     have hbel2:Below w.heap.size w w2:=(hbel.alloc hsz _).grown hgrow2 (by simp;omega) (by intro k hk;simp at hk;omega)
     have HR:Hid (MinusInv xs ys (os ++ [x+1000000000 - b1]) (k+1) 1):=Hinv.out.step (by omega) (by rw [← Hx.out,Hy0.out];omega)
     clear ed hgrow2 hown hbel
     go_wp2
     go_roundw
     case rel => exact ⟨k+1,1,os ++ [x+1000000000 - b1],by omega,by omega,by go_num,rfl,rfl,hown2,HR,hbel2⟩
     case measure => simp [intOf];omega
    ·go_wp2_with (at_builtin;refine wpList_append_fits _ rfl _ _ 157 rfl w.heap.size 197 i0 1 Tryz.ul_u32s hi hz1 w.heap.size k xs.length (nums .u32 os) rfl (hown.alloc _) ⟨wr.heap.size,0,none⟩ 1 1 [_] rfl rfl (cell_one_new _ _ _) (int_oneCell _ _) (by omega) ?_)
     intro w2 hown2 hgrow2
     have ed:((x:Int) - (b1:Int):Int)=((x - b1:Nat):Int):=by omega
     rw [ed,nums_snoc] at hown2
     have hbel2:Below w.heap.size w w2:=(hbel.alloc hsz _).grown hgrow2 (by simp;omega) (by intro k hk;simp at hk;omega)
     have HR:Hid (MinusInv xs ys (os ++ [x - b1]) (k+1) 0):=Hinv.out.step (by omega) (by rw [← Hx.out,Hy0.out];omega)
     clear ed hgrow2 hown hbel
     go_wp2
     go_roundw
     case rel => exact ⟨k+1,0,os ++ [x - b1],by omega,by omega,by go_num,rfl,rfl,hown2,HR,hbel2⟩
     case measure => simp [intOf];omega
  ·obtain rfl:k=xs.length:=by omega
   have HF:=Hinv.out.fin hlen Hle.out hb1
   have hos:os.length=xs.length:=Hinv.out.1
   have hdg:=Hinv.out.2.1
   have hsl:=Sl.of_owns hown
   rw [← hos] at hsl hown
   have HF':=Lib.hid HF;clear HF
   have Hos:=Lib.hid hos;clear hos
   rw [show xs.length=os.length from Hos.out.symm]
   go_wp2_with fail
   refine (trim_any _ os _ hsl (by have:=Hos.out;omega)).mono ?_
   rintro e w' ⟨v',rfl,Hv,rfl⟩
   go_wp2
   go_ret
   exact ⟨_,_,rfl,⟨own_trim hown Hv.out,trimL_nrm hdg,hbel⟩,HF'.out⟩
end Go.Proofs.YtknpnhodpgajbaaGreatDoor

namespace Go.Proofs.YtknpnhodpgajbaaGreatDoor
open Go.RowKit
theorem plus_step (A Bv O P x y c d r:Nat) (h:O+c * P=A+Bv) (hd:d+r * 1000000000=x+y+c):(O+P * d)+r * (P * 1000000000)=(A+P * x)+(Bv+P * y):=by
 have e1:P * (d+r * 1000000000)=P * (x+y+c):=by rw [hd]
 rw [Nat.mul_add,Nat.mul_add,Nat.mul_add] at e1
 have e2:P * (r * 1000000000)=r * (P * 1000000000):=by rw [← Nat.mul_assoc,← Nat.mul_assoc,Nat.mul_comm P r]
 rw [e2] at e1
 rw [Nat.mul_comm c P] at h
 omega
def PlusInv (xs ys o:List Nat) (k c:Nat):Prop :=
 o.length=k∧Dig 1000000000 o∧val 1000000000 o+c * 1000000000 ^ k=val 1000000000 (xs.take k)+val 1000000000 (ys.take k)
theorem PlusInv.start (xs ys:List Nat):PlusInv xs ys [] 0 0:=⟨rfl,Dig.nil _,by simp [val]⟩
theorem PlusInv.step {xs ys o:List Nat} {k c d r:Nat} (h:PlusInv xs ys o k c) (hd:d < 1000000000) (e:d+r * 1000000000=xs.getD k 0+ys.getD k 0+c):PlusInv xs ys (o ++ [d]) (k+1) r:=by
 obtain ⟨h1,h2,h3⟩:=h
 refine ⟨by simp [h1],h2.snoc hd,?_⟩
 rw [val_take_succ,val_take_succ,val_snoc,h1,Nat.pow_succ]
 exact plus_step _ _ _ _ _ _ _ _ _ h3 e
theorem PlusInv.fin {xs ys o:List Nat} {c:Nat} (h:PlusInv xs ys o xs.length c) (hl:ys.length≤xs.length):val 1000000000 (o ++ [c])=val 1000000000 xs+val 1000000000 ys:=by
 obtain ⟨h1,h2,h3⟩:=h
 rw [List.take_of_length_le (Nat.le_refl _),List.take_of_length_le hl] at h3
 rw [val_snoc,h1,Nat.mul_comm]
 exact h3
set_option maxHeartbeats 1000000 in
set_option maxRecDepth 100000 in
theorem plus_ge (a b:Value) (xs ys:List Nat) (w:World) (ha:Sl w a 1 xs.length (nums .u32 xs)) (hb:Sl w b 1 ys.length (nums .u32 ys))
  (dx:Dig 1000000000 xs) (dy:Dig 1000000000 ys) (lx:xs.length≤100000) (_ly:ys.length≤100000) (hlen:ys.length≤xs.length) :
  Calls Tryz.prog 193 #[a,b] w fun e w' => ∃ v rs,e = .returned v∧OwnMag w w' v rs∧val 1000000000 rs=val 1000000000 xs+val 1000000000 ys:=by
 obtain ⟨ad,ca,rfl,h1,h3⟩:=ha.nums
 obtain ⟨bd,cb,rfl,h1',h3'⟩:=hb.nums
 obtain ⟨i0,hi,hz0,hz1,hz2⟩:=info_parts Tryz.info_u32
 clear ha hb
 obtain ⟨N,hN⟩:∃ N,N=xs.length+1:=⟨_,rfl⟩
 have HN:=Lib.hid hN
 have hNl:N≤100001:=by omega
 have hN1:xs.length+1≤N:=by omega
 have hN2:N≤xs.length+1:=by omega
 clear hN
 go_enter Tryz.func193,Tryz.ntmps193
 go_wp2_with (at_make;refine wpList_make_own _ rfl _ _ 157 rfl w.heap.size 197 i0 (.int .u32 0) 1 Tryz.ul_u32s hi hz0 hz1 _ _ _ N rfl rfl ?b0 ?b1 ?b2 ?b3 ?_)
 case b0 => rw [HN.out];simp
 case b1 => rw [hz2];omega
 case b2 => unfold maxLen;omega
 case b3 => exact Nat.le_refl _
 intro w1 hown hgrow
 have hbel:Below w.heap.size w w1:=(Below.refl _ _).grown hgrow (Nat.le_refl _) (by simp)
 clear hgrow
 go_wp2
 go_loopw [5,6,23] (fun o c i wr => ∃ (k b1:Nat) (os:List Nat),k≤xs.length∧b1≤1∧i = .int .i64 k∧c = .int .u32 b1∧o = .slice (some ⟨w.heap.size,0,none⟩) k N ∧
   wr.ownsRow w.heap.size 197 1 (.slice (some ⟨w.heap.size,0,none⟩) k N) k (nums .u32 os)∧Hid (PlusInv xs ys os k b1)∧Below w.heap.size w wr)
  (fun _ _ i _ => xs.length - (intOf i).toNat)
 case atStart => exact ⟨0,0,[],Nat.zero_le _,by omega,rfl,rfl,rfl,hown,PlusInv.start _ _,hbel⟩
 case round =>
  clear hown hbel
  obtain ⟨k,b1,os,hk,hb1,rfl,rfl,rfl,hown,Hinv,hbel⟩:=hrel
  by_cases hlt:k < xs.length
  ·obtain ⟨b,off,rfl,hc⟩:=h3.resolve_left (by omega)
   have hck:=cell_later hbel (hc k hlt)
   have hx9:=dx.at (by decide) k
   have hy9:=dy.at (by decide) k
   obtain ⟨x,hx⟩:∃ x,x=xs.getD k 0:=⟨_,rfl⟩
   obtain ⟨y,hy⟩:∃ y,y=ys.getD k 0:=⟨_,rfl⟩
   rw [← hx] at hck hx9
   rw [← hy] at hy9
   have Hx:=Lib.hid hx;clear hx
   have Hy:=Lib.hid hy;clear hy
   clear hc h3
   have hsz:=hbel.size
   by_cases hly:k < ys.length
   ·obtain ⟨b',off',rfl,hd⟩:=h3'.resolve_left (by omega)
    have hdk:=cell_later hbel (hd k hly)
    rw [← Hy.out] at hdk
    clear hd h3'
    go_wp2_with (at_builtin;refine wpList_append_fits _ rfl _ _ 157 rfl w.heap.size 197 i0 1 Tryz.ul_u32s hi hz1 w.heap.size k N (nums .u32 os) rfl (hown.alloc _) ⟨wr.heap.size,0,none⟩ 1 1 [_] rfl rfl (cell_one_new _ _ _) (int_oneCell _ _) (by omega) ?_)
    intro w2 hown2 hgrow2
    have ed:(((x:Int)+b1+y) % 1000000000:Int)=(((x+b1+y) % 1000000000:Nat):Int):=by omega
    rw [ed,nums_snoc] at hown2
    have hbel2:Below w.heap.size w w2:=(hbel.alloc hsz _).grown hgrow2 (by simp;omega) (by intro k hk;simp at hk;omega)
    have HR:Hid (PlusInv xs ys (os ++ [(x+b1+y) % 1000000000]) (k+1) ((x+b1+y) / 1000000000)):=Hinv.out.step (Nat.mod_lt _ (by decide)) (by rw [← Hx.out,← Hy.out];omega)
    clear ed hgrow2 hown hbel
    go_wp2
    go_roundw
    case rel => exact ⟨k+1,(x+b1+y) / 1000000000,os ++ [(x+b1+y) % 1000000000],by omega,by omega,by go_num,by go_num,rfl,hown2,HR,hbel2⟩
    case measure => simp [intOf];omega
   ·have hy0:ys.getD k 0=0:=by simp only [List.getD,List.getElem?_eq_none (by omega:ys.length≤k),Option.getD_none]
    have Hy0:=Lib.hid hy0;clear hy0
    go_wp2_with (at_builtin;refine wpList_append_fits _ rfl _ _ 157 rfl w.heap.size 197 i0 1 Tryz.ul_u32s hi hz1 w.heap.size k N (nums .u32 os) rfl (hown.alloc _) ⟨wr.heap.size,0,none⟩ 1 1 [_] rfl rfl (cell_one_new _ _ _) (int_oneCell _ _) (by omega) ?_)
    intro w2 hown2 hgrow2
    have ed:(((x:Int)+b1) % 1000000000:Int)=(((x+b1) % 1000000000:Nat):Int):=by omega
    rw [ed,nums_snoc] at hown2
    have hbel2:Below w.heap.size w w2:=(hbel.alloc hsz _).grown hgrow2 (by simp;omega) (by intro k hk;simp at hk;omega)
    have HR:Hid (PlusInv xs ys (os ++ [(x+b1) % 1000000000]) (k+1) ((x+b1) / 1000000000)):=Hinv.out.step (Nat.mod_lt _ (by decide)) (by rw [← Hx.out,Hy0.out];omega)
    clear ed hgrow2 hown hbel
    go_wp2
    go_roundw
    case rel => exact ⟨k+1,(x+b1) / 1000000000,os ++ [(x+b1) % 1000000000],by omega,by omega,by go_num,by go_num,rfl,hown2,HR,hbel2⟩
    case measure => simp [intOf];omega
  ·obtain rfl:k=xs.length:=by omega
   have hdg:=Hinv.out.2.1
   have hos:os.length=xs.length:=Hinv.out.1
   have Hos:=Lib.hid hos;clear hos
   have hsz:=hbel.size
   go_wp2_with (at_builtin;refine wpList_append_fits _ rfl _ _ 157 rfl w.heap.size 197 i0 1 Tryz.ul_u32s hi hz1 w.heap.size xs.length N (nums .u32 os) rfl (hown.alloc _) ⟨wr.heap.size,0,none⟩ 1 1 [_] rfl rfl (cell_one_new _ _ _) (int_oneCell _ _) (by omega) ?_)
   intro w2 hown2 hgrow2
   rw [nums_snoc] at hown2
   have hbel2:Below w.heap.size w w2:=(hbel.alloc hsz _).grown hgrow2 (by simp;omega) (by intro k hk;simp at hk;omega)
   have e1:xs.length+1=(os ++ [b1]).length:=by rw [List.length_append,Hos.out];rfl
   have HF:=Lib.hid (Hinv.out.fin (by omega))
   have hdg2:Dig 1000000000 (os ++ [b1]):=hdg.snoc (by omega)
   have hown3:w2.ownsRow w.heap.size 197 1 (.slice (some ⟨w.heap.size,0,none⟩) (xs.length+1) N) (os ++ [b1]).length (nums .u32 (os ++ [b1])):=by rw [← e1];exact hown2
   have hsl:Sl w2 (.slice (some ⟨w.heap.size,0,none⟩) (xs.length+1) N) 1 (os ++ [b1]).length (nums .u32 (os ++ [b1])):=Sl.of_owns hown3
   have E1:=Lib.hid e1
   clear e1 hgrow2 hown hbel hown2
   go_wp2_with fail
   refine (trim_any (.slice (some ⟨w.heap.size,0,none⟩) (xs.length+1) N) (os ++ [b1]) w2 hsl (by have:=E1.out;omega)).mono ?_
   rintro e w' ⟨v',rfl,Hv,rfl⟩
   go_wp2
   go_ret
   exact ⟨_,_,rfl,⟨own_trim hown3 Hv.out,trimL_nrm hdg2,hbel2⟩,(trimL_val _ _).trans HF.out⟩
set_option maxHeartbeats 1000000 in
set_option maxRecDepth 100000 in
theorem plus_lt (a b:Value) (xs ys:List Nat) (w:World) (ha:Sl w a 1 xs.length (nums .u32 xs)) (hb:Sl w b 1 ys.length (nums .u32 ys))
  (dx:Dig 1000000000 xs) (dy:Dig 1000000000 ys) (lx:xs.length≤100000) (ly:ys.length≤100000) (hlen:xs.length < ys.length) :
  Calls Tryz.prog 193 #[a,b] w fun e w' => ∃ v rs,e = .returned v∧OwnMag w w' v rs∧val 1000000000 rs=val 1000000000 xs+val 1000000000 ys:=by
 obtain ⟨ad,ca,rfl,h1,h3⟩:=ha.nums
 obtain ⟨bd,cb,rfl,h1',h3'⟩:=hb.nums
 obtain ⟨i0,hi,hz0,hz1,hz2⟩:=info_parts Tryz.info_u32
 clear ha hb
 obtain ⟨N,hN⟩:∃ N,N=ys.length+1:=⟨_,rfl⟩
 have HN:=Lib.hid hN
 have hNl:N≤100001:=by omega
 have hN1:ys.length+1≤N:=by omega
 have hN2:N≤ys.length+1:=by omega
 clear hN
 go_enter Tryz.func193,Tryz.ntmps193
 go_wp2_with (at_make;refine wpList_make_own _ rfl _ _ 157 rfl w.heap.size 197 i0 (.int .u32 0) 1 Tryz.ul_u32s hi hz0 hz1 _ _ _ N rfl rfl ?b0 ?b1 ?b2 ?b3 ?_)
 case b0 => rw [HN.out];simp
 case b1 => rw [hz2];omega
 case b2 => unfold maxLen;omega
 case b3 => exact Nat.le_refl _
 intro w1 hown hgrow
 have hbel:Below w.heap.size w w1:=(Below.refl _ _).grown hgrow (Nat.le_refl _) (by simp)
 clear hgrow
 go_wp2
 go_loopw [5,6,23] (fun o c i wr => ∃ (k b1:Nat) (os:List Nat),k≤ys.length∧b1≤1∧i = .int .i64 k∧c = .int .u32 b1∧o = .slice (some ⟨w.heap.size,0,none⟩) k N ∧
   wr.ownsRow w.heap.size 197 1 (.slice (some ⟨w.heap.size,0,none⟩) k N) k (nums .u32 os)∧Hid (PlusInv ys xs os k b1)∧Below w.heap.size w wr)
  (fun _ _ i _ => ys.length - (intOf i).toNat)
 case atStart => exact ⟨0,0,[],Nat.zero_le _,by omega,rfl,rfl,rfl,hown,PlusInv.start _ _,hbel⟩
 case round =>
  clear hown hbel
  obtain ⟨k,b1,os,hk,hb1,rfl,rfl,rfl,hown,Hinv,hbel⟩:=hrel
  by_cases hlt:k < ys.length
  ·obtain ⟨b,off,rfl,hc⟩:=h3'.resolve_left (by omega)
   have hck:=cell_later hbel (hc k hlt)
   have hx9:=dy.at (by decide) k
   have hy9:=dx.at (by decide) k
   obtain ⟨x,hx⟩:∃ x,x=ys.getD k 0:=⟨_,rfl⟩
   obtain ⟨y,hy⟩:∃ y,y=xs.getD k 0:=⟨_,rfl⟩
   rw [← hx] at hck hx9
   rw [← hy] at hy9
   have Hx:=Lib.hid hx;clear hx
   have Hy:=Lib.hid hy;clear hy
   clear hc h3'
   have hsz:=hbel.size
   by_cases hly:k < xs.length
   ·obtain ⟨b',off',rfl,hd⟩:=h3.resolve_left (by omega)
    have hdk:=cell_later hbel (hd k hly)
    rw [← Hy.out] at hdk
    clear hd h3
    go_wp2_with (at_builtin;refine wpList_append_fits _ rfl _ _ 157 rfl w.heap.size 197 i0 1 Tryz.ul_u32s hi hz1 w.heap.size k N (nums .u32 os) rfl (hown.alloc _) ⟨wr.heap.size,0,none⟩ 1 1 [_] rfl rfl (cell_one_new _ _ _) (int_oneCell _ _) (by omega) ?_)
    intro w2 hown2 hgrow2
    have ed:(((x:Int)+b1+y) % 1000000000:Int)=(((x+b1+y) % 1000000000:Nat):Int):=by omega
    rw [ed,nums_snoc] at hown2
    have hbel2:Below w.heap.size w w2:=(hbel.alloc hsz _).grown hgrow2 (by simp;omega) (by intro k hk;simp at hk;omega)
    have HR:Hid (PlusInv ys xs (os ++ [(x+b1+y) % 1000000000]) (k+1) ((x+b1+y) / 1000000000)):=Hinv.out.step (Nat.mod_lt _ (by decide)) (by rw [← Hx.out,← Hy.out];omega)
    clear ed hgrow2 hown hbel
    go_wp2
    go_roundw
    case rel => exact ⟨k+1,(x+b1+y) / 1000000000,os ++ [(x+b1+y) % 1000000000],by omega,by omega,by go_num,by go_num,rfl,hown2,HR,hbel2⟩
    case measure => simp [intOf];omega
   ·have hy0:xs.getD k 0=0:=by simp only [List.getD,List.getElem?_eq_none (by omega:xs.length≤k),Option.getD_none]
    have Hy0:=Lib.hid hy0;clear hy0
    go_wp2_with (at_builtin;refine wpList_append_fits _ rfl _ _ 157 rfl w.heap.size 197 i0 1 Tryz.ul_u32s hi hz1 w.heap.size k N (nums .u32 os) rfl (hown.alloc _) ⟨wr.heap.size,0,none⟩ 1 1 [_] rfl rfl (cell_one_new _ _ _) (int_oneCell _ _) (by omega) ?_)
    intro w2 hown2 hgrow2
    have ed:(((x:Int)+b1) % 1000000000:Int)=(((x+b1) % 1000000000:Nat):Int):=by omega
    rw [ed,nums_snoc] at hown2
    have hbel2:Below w.heap.size w w2:=(hbel.alloc hsz _).grown hgrow2 (by simp;omega) (by intro k hk;simp at hk;omega)
    have HR:Hid (PlusInv ys xs (os ++ [(x+b1) % 1000000000]) (k+1) ((x+b1) / 1000000000)):=Hinv.out.step (Nat.mod_lt _ (by decide)) (by rw [← Hx.out,Hy0.out];omega)
    clear ed hgrow2 hown hbel
    go_wp2
    go_roundw
    case rel => exact ⟨k+1,(x+b1) / 1000000000,os ++ [(x+b1) % 1000000000],by omega,by omega,by go_num,by go_num,rfl,hown2,HR,hbel2⟩
    case measure => simp [intOf];omega
  ·obtain rfl:k=ys.length:=by omega
   have hdg:=Hinv.out.2.1
   have hos:os.length=ys.length:=Hinv.out.1
   have Hos:=Lib.hid hos;clear hos
   have hsz:=hbel.size
   go_wp2_with (at_builtin;refine wpList_append_fits _ rfl _ _ 157 rfl w.heap.size 197 i0 1 Tryz.ul_u32s hi hz1 w.heap.size ys.length N (nums .u32 os) rfl (hown.alloc _) ⟨wr.heap.size,0,none⟩ 1 1 [_] rfl rfl (cell_one_new _ _ _) (int_oneCell _ _) (by omega) ?_)
   intro w2 hown2 hgrow2
   rw [nums_snoc] at hown2
   have hbel2:Below w.heap.size w w2:=(hbel.alloc hsz _).grown hgrow2 (by simp;omega) (by intro k hk;simp at hk;omega)
   have e1:ys.length+1=(os ++ [b1]).length:=by rw [List.length_append,Hos.out];rfl
   have HF:=Lib.hid (Hinv.out.fin (by omega))
   have hdg2:Dig 1000000000 (os ++ [b1]):=hdg.snoc (by omega)
   have hown3:w2.ownsRow w.heap.size 197 1 (.slice (some ⟨w.heap.size,0,none⟩) (ys.length+1) N) (os ++ [b1]).length (nums .u32 (os ++ [b1])):=by rw [← e1];exact hown2
   have hsl:Sl w2 (.slice (some ⟨w.heap.size,0,none⟩) (ys.length+1) N) 1 (os ++ [b1]).length (nums .u32 (os ++ [b1])):=Sl.of_owns hown3
   have E1:=Lib.hid e1
   clear e1 hgrow2 hown hbel hown2
   go_wp2_with fail
   refine (trim_any (.slice (some ⟨w.heap.size,0,none⟩) (ys.length+1) N) (os ++ [b1]) w2 hsl (by have:=E1.out;omega)).mono ?_
   rintro e w' ⟨v',rfl,Hv,rfl⟩
   go_wp2
   go_ret
   exact ⟨_,_,rfl,⟨own_trim hown3 Hv.out,trimL_nrm hdg2,hbel2⟩,(trimL_val _ _).trans (HF.out.trans (Nat.add_comm _ _))⟩
theorem plus_any (a b:Value) (xs ys:List Nat) (w:World) (ha:Sl w a 1 xs.length (nums .u32 xs)) (hb:Sl w b 1 ys.length (nums .u32 ys))
  (dx:Dig 1000000000 xs) (dy:Dig 1000000000 ys) (lx:xs.length≤100000) (ly:ys.length≤100000) :
  Calls Tryz.prog 193 #[a,b] w fun e w' => ∃ v rs,e = .returned v∧OwnMag w w' v rs∧val 1000000000 rs=val 1000000000 xs+val 1000000000 ys:=by
 rcases Nat.lt_or_ge xs.length ys.length with h | h
 ·exact plus_lt a b xs ys w ha hb dx dy lx ly h
 ·exact plus_ge a b xs ys w ha hb dx dy lx ly h
end Go.Proofs.YtknpnhodpgajbaaGreatDoor
