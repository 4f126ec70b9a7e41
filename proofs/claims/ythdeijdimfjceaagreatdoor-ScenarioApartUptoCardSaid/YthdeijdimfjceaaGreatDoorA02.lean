/- A part. -/
import Derived.Test.YthdeijdimfjceaaGreatDoorA01
import Derived.Deep.RegionHeld3
import Derived.Lib.Bytealg
import Derived.Lib.IndexLaws
namespace Go.Proofs.YthdeijdimfjceaaGreatDoor
open Go.RowKit
theorem trimL_take_zero (xs:List Nat) (k:Nat) (h:k < xs.length) (hz:xs.getD k 0=0):trimL (xs.take (k+1))=trimL (xs.take k):=by
 rw [take_succ_getD _ _ h,hz,trimL_snoc_zero]
theorem trimL_take_ne (xs:List Nat) (k:Nat) (h:k < xs.length) (hz:xs.getD k 0 ≠ 0):trimL (xs.take (k+1))=xs.take (k+1):=by
 rw [take_succ_getD _ _ h,trimL_snoc _ _ hz]
set_option maxHeartbeats 400000 in
theorem trim_any (v:Value) (xs:List Nat) (w:World) (hv:Sl w v 1 xs.length (nums .u32 xs)) (hl:xs.length≤1000000) :
  Calls Tryz.prog 114 #[v] w fun e w' => ∃ v',e = .returned v'∧Hid (v'=cutTo v (trimL xs).length)∧w=w':=by
 obtain ⟨ad,cap,rfl,h1,h3⟩:=hv.nums
 clear hv
 go_enter Tryz.func114,Tryz.ntmps114
 go_wp2
 go_loop [0] (fun m => ∃ k:Nat,k≤xs.length∧m = .slice ad k cap∧Hid (trimL (xs.take k)=trimL xs))
  (fun m => match m with | .slice _ n _ => n | _ => 0)
 case atStart => exact ⟨xs.length,Nat.le_refl _,rfl,by rw [List.take_of_length_le (Nat.le_refl _)];rfl⟩
 case round =>
  obtain ⟨k,hk,rfl,Hrel⟩:=hrel
  by_cases h0:0 < k
  ·obtain ⟨b,off,rfl,hc⟩:=h3.resolve_left (by omega)
   obtain ⟨k,rfl⟩:∃ k',k=k'+1:=⟨k - 1,by omega⟩
   have hck:=hc k (by omega)
   clear hc h3
   by_cases hz:xs.getD k 0=0
   ·rw [hz] at hck
    have Hz:=Lib.hid hz;clear hz
    go_wp2
    go_round
    case rel => exact ⟨k,by omega,rfl,by rw [← trimL_take_zero xs k (by omega) Hz.out];exact Hrel⟩
    case measure => simp
   ·obtain ⟨y,hy⟩:∃ y,y=xs.getD k 0:=⟨_,rfl⟩
    rw [← hy] at hck hz
    have Hy:=Lib.hid hy;clear hy
    have hz':((y:Int) == 0)=false:=by simp;omega
    go_wp2
    go_ret
    refine ⟨_,rfl,?_,rfl⟩
    have hz2:xs.getD k 0 ≠ 0:=by rw [← Hy.out];exact hz
    have e:=Hrel.out
    rw [trimL_take_ne xs k (by omega) hz2] at e
    show _=Value.slice _ _ _
    rw [← e,List.length_take,Nat.min_eq_left hk]
    rfl
  ·obtain rfl:k=0:=by omega
   go_wp2
   go_ret
   refine ⟨_,rfl,?_,rfl⟩
   have e:=Hrel.out
   show _=Value.slice _ _ _
   rw [← e]
   rfl
theorem drewN_3 (w:World) (a b c:Nat):∃ n,((w.drewN a).drewN b).drewN c=w.drewN n:=⟨a+b+c,by rw [World.drewN_drewN,World.drewN_drewN,Nat.add_assoc]⟩
set_option maxHeartbeats 400000 in
theorem compare_len (ad bd:Option Addr) (m n ca cb:Nat) (w:World) (hm:m≤1000000) (hn:n≤1000000) (hne:m ≠ n) :
  Calls Tryz.prog 117 #[.slice ad m ca,.slice bd n cb] w fun e w' =>
   e = .returned (.int .i64 (if m < n then -1 else 1))∧w=w':=by
 by_cases hlt:m < n
 ·have hb:((m:Int) != (n:Int))=true:=by rw [bne_iff_ne];omega
  go_enter Tryz.func117,Tryz.ntmps117
  go_wp2
  go_ret
  exact ⟨rfl,rfl⟩
 ·have hb:((m:Int) != (n:Int))=true:=by rw [bne_iff_ne];omega
  go_enter Tryz.func117,Tryz.ntmps117
  go_wp2
  go_ret
  exact ⟨rfl,rfl⟩
set_option maxHeartbeats 400000 in
theorem compare_eq (ad ad':Option Addr) (ca cb:Nat) (xs ys:List Nat) (w:World) (hn:xs.length=ys.length) (hb:xs.length≤1000000)
  (hc:xs.length=0∨∃ b off,ad=some ⟨b,off,none⟩∧∀ j,j < xs.length→w.cell? ⟨b,off+j,none⟩=some (.int .u32 ((xs.getD j 0:Nat):Int)))
  (hd:ys.length=0∨∃ b off,ad'=some ⟨b,off,none⟩∧∀ j,j < ys.length→w.cell? ⟨b,off+j,none⟩=some (.int .u32 ((ys.getD j 0:Nat):Int))) :
  Calls Tryz.prog 117 #[.slice ad xs.length ca,.slice ad' ys.length cb] w fun e w' =>
   e = .returned (.int .i64 (cmpD xs.length xs ys))∧∃ n,w'=w.drewN n:=by
 rw [← hn] at hd ⊢
 clear hn
 have hq:((xs.length:Int) != (xs.length:Int))=false:=by simp
 go_enter Tryz.func117,Tryz.ntmps117
 go_wp2
 go_loopw [5] (fun i wr => ∃ k:Nat,k≤xs.length∧i = .int .i64 (k - 1)∧Hid (cmpD k xs ys=cmpD xs.length xs ys)∧∃ n,wr=w.drewN n)
  (fun i _ => (intOf i+1).toNat)
 case atStart => exact ⟨xs.length,Nat.le_refl _,by go_num,rfl,0,rfl⟩
 case round =>
  obtain ⟨k,hk,rfl,Hrel,n,rfl⟩:=hrel
  by_cases h0:0 < k
  ·obtain ⟨k,rfl⟩:∃ k',k=k'+1:=⟨k - 1,by omega⟩
   obtain ⟨b,off,rfl,hc2⟩:=hc.resolve_left (by omega)
   obtain ⟨b',off',rfl,hd2⟩:=hd.resolve_left (by omega)
   have h1:=hc2 k (by omega)
   have h2:=hd2 k (by omega)
   clear hc2 hd2
   obtain ⟨x,hx⟩:∃ x,x=xs.getD k 0:=⟨_,rfl⟩
   obtain ⟨y,hy⟩:∃ y,y=ys.getD k 0:=⟨_,rfl⟩
   rw [← hx] at h1
   rw [← hy] at h2
   have Hx:=Lib.hid hx;clear hx
   have Hy:=Lib.hid hy;clear hy
   clear hc hd
   by_cases he:x=y
   ·subst he
    have hq2:((x:Int) != (x:Int))=false:=by simp
    go_wp2_with fail
    go_quiet (fail)
    go_wp2
    go_roundw
    case rel =>
     refine ⟨k,by omega,by go_num,?_,n+nq,rfl⟩
     have e:=Hrel.out
     rw [cmpD,if_pos (by rw [← Hx.out,← Hy.out])] at e
     exact e
    case measure => simp [intOf]
   ·have hne:((x:Int) != (y:Int))=true:=by rw [bne_iff_ne];omega
    by_cases hlt:x < y
    ·go_wp2_with fail
     go_quiet (fail)
     go_wp2_with fail
     go_quiet (fail)
     go_wp2
     go_ret
     refine ⟨ret_int' ?_,drewN_3 _ _ _ _⟩
     have e:=Hrel.out
     rw [cmpD,if_neg (by rw [← Hx.out,← Hy.out];exact he),if_pos (by rw [← Hx.out,← Hy.out];exact hlt)] at e
     exact e
    ·go_wp2_with fail
     go_quiet (fail)
     go_wp2_with fail
     go_quiet (fail)
     go_wp2
     go_ret
     refine ⟨ret_int' ?_,drewN_3 _ _ _ _⟩
     have e:=Hrel.out
     rw [cmpD,if_neg (by rw [← Hx.out,← Hy.out];exact he),if_neg (by rw [← Hx.out,← Hy.out];exact hlt)] at e
     exact e
  ·obtain rfl:k=0:=by omega
   go_wp2
   go_ret
   refine ⟨ret_int' ?_,_,rfl⟩
   exact Hrel.out
theorem compare_any (a b:Value) (xs ys:List Nat) (w:World) (ha:Sl w a 1 xs.length (nums .u32 xs)) (hb:Sl w b 1 ys.length (nums .u32 ys))
  (hx:Nrm 1000000000 xs) (hy:Nrm 1000000000 ys) (lx:xs.length≤1000000) (ly:ys.length≤1000000) :
  Calls Tryz.prog 117 #[a,b] w fun e w' =>
   e = .returned (.int .i64 (sgn (val 1000000000 xs) (val 1000000000 ys)))∧∃ n,w'=w.drewN n:=by
 obtain ⟨ad,ca,rfl,h1,h3⟩:=ha.nums
 obtain ⟨bd,cb,rfl,h1',h3'⟩:=hb.nums
 by_cases hl:xs.length=ys.length
 ·rw [← cmpD_nrm (by decide) hx hy hl]
  exact compare_eq ad bd ca cb xs ys w hl lx h3 h3'
 ·refine (compare_len ad bd _ _ ca cb w lx ly hl).mono ?_
  rintro e w' ⟨rfl,rfl⟩
  refine ⟨ret_int' ?_,0,rfl⟩
  by_cases hlt:xs.length < ys.length
  ·rw [if_pos hlt,sgn_lt (hx.length_lt_of (by decide) hy hlt)]
  ·rw [if_neg hlt,sgn_gt (hy.length_lt_of (by decide) hx (by omega))]
end Go.Proofs.YthdeijdimfjceaaGreatDoor

namespace Go.Proofs.YthdeijdimfjceaaGreatDoor
open Go.RowKit
theorem Tryz.ul_u32s:Tryz.prog.underlying 146=some (.slice 177):=by kernel_rfl
theorem Tryz.info_u32:(Tryz.prog.info? 177).map (fun i => (i.zero,i.size,i.bytes))=some (some (.int .u32 0),1,4):=by kernel_rfl
def OwnMag (W:World) (w:World) (v:Value) (rs:List Nat):Prop :=
 w.ownsRow W.heap.size 177 1 v rs.length (nums .u32 rs)∧Nrm 1000000000 rs∧Below W.heap.size W w
theorem own_trim {w:World} {base:Nat} {e:TypeId} {v v':Value} {xs:List Nat} {k:IntKind} (h:w.ownsRow base e 1 v xs.length (nums k xs)) (hv:v'=cutTo v (trimL xs).length) :
  w.ownsRow base e 1 v' (trimL xs).length (nums k (trimL xs)):=by
 subst hv
 have h2:=ownsRow_cut h (trimL xs).length (trimL_prefix xs).2
 rw [Nat.mul_one,nums_take,← (trimL_prefix xs).1] at h2
 exact h2
theorem int_oneCell (k:IntKind) (n:Int):∀ u ∈ [Value.int k n],u.oneCell'=true:=by
 intro u hu;rw [List.mem_singleton] at hu;subst hu;rfl
theorem minus_step (A Bv O P x y c d r:Nat) (h:A+c * P=O+Bv) (hd:d+y+c=x+r * 1000000000):(A+P * x)+r * (P * 1000000000)=(O+P * d)+(Bv+P * y):=by
 have e1:P * (d+y+c)=P * (x+r * 1000000000):=by rw [hd]
 rw [Nat.mul_add,Nat.mul_add,Nat.mul_add] at e1
 have e2:P * (r * 1000000000)=r * (P * 1000000000):=by rw [← Nat.mul_assoc,← Nat.mul_assoc,Nat.mul_comm P r]
 rw [e2] at e1
 rw [Nat.mul_comm c P] at h
 omega
theorem nrm_len_le {xs ys:List Nat} (hx:Dig 1000000000 xs) (hy:Nrm 1000000000 ys) (h:val 1000000000 ys≤val 1000000000 xs):ys.length≤xs.length:=by
 by_cases hne:ys=[]
 ·subst hne;simp
 ·have h1:=hy.pos hne
  have h2:=val_lt hx
  have h3:=(Nat.pow_lt_pow_iff_right (show 1 < 1000000000 by decide)).1 (Nat.lt_of_le_of_lt (Nat.le_trans h1 h) h2)
  omega
def MinusInv (xs ys o:List Nat) (k c:Nat):Prop :=
 o.length=k∧Dig 1000000000 o∧val 1000000000 (xs.take k)+c * 1000000000 ^ k=val 1000000000 o+val 1000000000 (ys.take k)
theorem MinusInv.start (xs ys:List Nat):MinusInv xs ys [] 0 0:=⟨rfl,Dig.nil _,by simp [val]⟩
theorem MinusInv.step {xs ys o:List Nat} {k c d r:Nat} (h:MinusInv xs ys o k c) (hd:d < 1000000000) (e:d+ys.getD k 0+c=xs.getD k 0+r * 1000000000):MinusInv xs ys (o ++ [d]) (k+1) r:=by
 obtain ⟨h1,h2,h3⟩:=h
 refine ⟨by simp [h1],h2.snoc hd,?_⟩
 rw [val_take_succ,val_take_succ,val_snoc,h1,Nat.pow_succ]
 exact minus_step _ _ _ _ _ _ _ _ _ h3 e
theorem MinusInv.fin {xs ys o:List Nat} {c:Nat} (h:MinusInv xs ys o xs.length c) (hl:ys.length≤xs.length) (hle:val 1000000000 ys≤val 1000000000 xs) (hc:c≤1) :
  val 1000000000 (trimL o)=val 1000000000 xs - val 1000000000 ys:=by
 obtain ⟨h1,h2,h3⟩:=h
 rw [List.take_of_length_le (Nat.le_refl _),List.take_of_length_le hl] at h3
 rw [trimL_val]
 have h4:=val_lt h2
 rw [h1] at h4
 by_cases h0:c=0
 ·subst h0;omega
 ·obtain rfl:c=1:=by omega
  omega
set_option maxHeartbeats 1000000 in
set_option maxRecDepth 100000 in
theorem minus_any (a b:Value) (xs ys:List Nat) (w:World) (ha:Sl w a 1 xs.length (nums .u32 xs)) (hb:Sl w b 1 ys.length (nums .u32 ys))
  (dx:Dig 1000000000 xs) (dy:Nrm 1000000000 ys) (hle:val 1000000000 ys≤val 1000000000 xs) (lx:xs.length≤100000) :
  Calls Tryz.prog 118 #[a,b] w fun e w' => ∃ v rs,e = .returned v∧OwnMag w w' v rs∧val 1000000000 rs=val 1000000000 xs - val 1000000000 ys:=by
 have hlen:=nrm_len_le dx dy hle
 obtain ⟨ad,ca,rfl,h1,h3⟩:=ha.nums
 obtain ⟨bd,cb,rfl,h1',h3'⟩:=hb.nums
 obtain ⟨i0,hi,hz0,hz1,hz2⟩:=info_parts Tryz.info_u32
 have Hle:=Lib.hid hle;clear hle ha hb
 go_enter Tryz.func118,Tryz.ntmps118
 go_wp2_with (at_make;refine wpList_make_own _ rfl _ _ 146 rfl w.heap.size 177 i0 (.int .u32 0) 1 Tryz.ul_u32s hi hz0 hz1 _ _ _ xs.length rfl rfl rfl ?b1 ?b2 ?b3 ?_)
 case b1 => rw [hz2];omega
 case b2 => unfold maxLen;omega
 case b3 => exact Nat.le_refl _
 intro w1 hown hgrow
 have hbel:Below w.heap.size w w1:=(Below.refl _ _).grown hgrow (Nat.le_refl _) (by simp)
 clear hgrow
 go_wp2
 go_loopw [5,6,15] (fun o c i wr => ∃ (k b1:Nat) (os:List Nat),k≤xs.length∧b1≤1∧i = .int .i64 k∧c = .int .u32 b1∧o = .slice (some ⟨w.heap.size,0,none⟩) k xs.length ∧
   wr.ownsRow w.heap.size 177 1 (.slice (some ⟨w.heap.size,0,none⟩) k xs.length) k (nums .u32 os)∧Hid (MinusInv xs ys os k b1)∧Below w.heap.size w wr)
  (fun _ _ i _ => xs.length - (intOf i).toNat)
 case atStart => exact ⟨0,0,[],Nat.zero_le _,by omega,rfl,rfl,rfl,hown,MinusInv.start _ _,hbel⟩
 case round =>
  clear hown hbel
  obtain ⟨k,b1,os,hk,hb1,rfl,rfl,rfl,hown,Hinv,hbel⟩:=hrel
  by_cases hlt:k < xs.length
  ·obtain ⟨b,off,rfl,hc⟩:=h3.resolve_left (by omega)
   have hck:=cell_later hbel (hc k hlt)
   have hx9:=dx.at (by decide) k
   have hy9:=dy.1.at (by decide) k
   obtain ⟨x,hx⟩:∃ x,x=xs.getD k 0:=⟨_,rfl⟩
   obtain ⟨y,hy⟩:∃ y,y=ys.getD k 0:=⟨_,rfl⟩
   rw [← hx] at hck hx9
   rw [← hy] at hy9
   have Hx:=Lib.hid hx;clear hx
   have Hy:=Lib.hid hy;clear hy
   clear hc h3
   have hsz:=hbel.size
   by_cases hly:k < ys.length
   ·obtain ⟨b',off',rfl,hd⟩:=h3'.resolve_left (by omega)
    have hdk:=cell_later hbel (hd k hly)
    rw [← Hy.out] at hdk
    clear hd h3'
    by_cases hxy:x < b1+y
    ·go_wp2_with (at_builtin;refine wpList_append_fits _ rfl _ _ 146 rfl w.heap.size 177 i0 1 Tryz.ul_u32s hi hz1 w.heap.size k xs.length (nums .u32 os) rfl (hown.alloc _) ⟨wr.heap.size,0,none⟩ 1 1 [_] rfl rfl (cell_one_new _ _ _) (int_oneCell _ _) (by omega) ?_)
     intro w2 hown2 hgrow2
     have ed:((x:Int)+1000000000 - ((b1:Int)+(y:Int)):Int)=((x+1000000000 - (b1+y):Nat):Int):=by omega
     rw [ed,nums_snoc] at hown2
     have hbel2:Below w.heap.size w w2:=(hbel.alloc hsz _).grown hgrow2 (by simp;omega) (by intro k hk;simp at hk;omega)
     have HR:Hid (MinusInv xs ys (os ++ [x+1000000000 - (b1+y)]) (k+1) 1):=Hinv.out.step (by omega) (by rw [← Hx.out,← Hy.out];omega)
     clear ed hgrow2 hown hbel
     go_wp2
     go_roundw
     case rel => exact ⟨k+1,1,os ++ [x+1000000000 - (b1+y)],by omega,by omega,by go_num,rfl,rfl,hown2,HR,hbel2⟩
     case measure => simp [intOf];omega
    ·go_wp2_with (at_builtin;refine wpList_append_fits _ rfl _ _ 146 rfl w.heap.size 177 i0 1 Tryz.ul_u32s hi hz1 w.heap.size k xs.length (nums .u32 os) rfl (hown.alloc _) ⟨wr.heap.size,0,none⟩ 1 1 [_] rfl rfl (cell_one_new _ _ _) (int_oneCell _ _) (by omega) ?_)
     intro w2 hown2 hgrow2
     have ed:((x:Int) - ((b1:Int)+(y:Int)):Int)=((x - (b1+y):Nat):Int):=by omega
     rw [ed,nums_snoc] at hown2
     have hbel2:Below w.heap.size w w2:=(hbel.alloc hsz _).grown hgrow2 (by simp;omega) (by intro k hk;simp at hk;omega)
     have HR:Hid (MinusInv xs ys (os ++ [x - (b1+y)]) (k+1) 0):=Hinv.out.step (by omega) (by rw [← Hx.out,← Hy.out];omega)
     clear ed hgrow2 hown hbel
     go_wp2
     go_roundw
     case rel => exact ⟨k+1,0,os ++ [x - (b1+y)],by omega,by omega,by go_num,rfl,rfl,hown2,HR,hbel2⟩
     case measure => simp [intOf];omega
   ·have hy0:ys.getD k 0=0:=by simp only [List.getD,List.getElem?_eq_none (by omega:ys.length≤k),Option.getD_none]
    have Hy0:=Lib.hid hy0;clear hy0
    by_cases hxy:x < b1
    ·go_wp2_with (at_builtin;refine wpList_append_fits _ rfl _ _ 146 rfl w.heap.size 177 i0 1 Tryz.ul_u32s hi hz1 w.heap.size k xs.length (nums .u32 os) rfl (hown.alloc _) ⟨wr.heap.size,0,none⟩ 1 1 [_] rfl rfl (cell_one_new _ _ _) (int_oneCell _ _) (by omega) ?_)
     intro w2 hown2 hgrow2
     have ed:((x:Int)+1000000000 - (b1:Int):Int)=((x+1000000000 - b1:Nat):Int):=by omega
     rw [ed,nums_snoc] at hown2
     have hbel2:Below w.heap.size w w2:=(hbel.alloc hsz _).grown hgrow2 (by simp;omega) (by intro k hk;simp at hk;omega)
     have HR:Hid (MinusInv xs ys (os ++ [x+1000000000 - b1]) (k+1) 1):=Hinv.out.step (by omega) (by rw [← Hx.out,Hy0.out];omega)
     clear ed hgrow2 hown hbel
     go_wp2
     go_roundw
     case rel => exact ⟨k+1,1,os ++ [x+1000000000 - b1],by omega,by omega,by go_num,rfl,rfl,hown2,HR,hbel2⟩
     case measure => simp [intOf];omega
    ·go_wp2_with (at_builtin;refine wpList_append_fits _ rfl _ _ 146 rfl w.heap.size 177 i0 1 Tryz.ul_u32s hi hz1 w.heap.size k xs.length (nums .u32 os) rfl (hown.alloc _) ⟨wr.heap.size,0,none⟩ 1 1 [_] rfl rfl (cell_one_new _ _ _) (int_oneCell _ _) (by omega) ?_)
     intro w2 hown2 hgrow2
     have ed:((x:Int) - (b1:Int):Int)=((x - b1:Nat):Int):=by omega
     rw [ed,nums_snoc] at hown2
     have hbel2:Below w.heap.size w w2:=(hbel.alloc hsz _).grown hgrow2 (by simp;omega) (by intro k hk;simp at hk;omega)
     have HR:Hid (MinusInv xs ys (os ++ [x - b1]) (k+1) 0):=Hinv.out.step (by omega) (by rw [← Hx.out,Hy0.out];omega)
     clear ed hgrow2 hown hbel
     go_wp2
     go_roundw
     case rel => exact ⟨k+1,0,os ++ [x - b1],by omega,by omega,by go_num,rfl,rfl,hown2,HR,hbel2⟩
     case measure => simp [intOf];omega
  ·obtain rfl:k=xs.length:=by omega
   have HF:=Hinv.out.fin hlen Hle.out hb1
   have hos:os.length=xs.length:=Hinv.out.1
   have hdg:=Hinv.out.2.1
   have hsl:=Sl.of_owns hown
   rw [← hos] at hsl hown
   have HF':=Lib.hid HF;clear HF
   have Hos:=Lib.hid hos;clear hos
   rw [show xs.length=os.length from Hos.out.symm]
   go_wp2_with fail
   refine (trim_any _ os _ hsl (by have:=Hos.out;omega)).mono ?_
   rintro e w' ⟨v',rfl,Hv,rfl⟩
   go_wp2
   go_ret
   exact ⟨_,_,rfl,⟨own_trim hown Hv.out,trimL_nrm hdg,hbel⟩,HF'.out⟩
end Go.Proofs.YthdeijdimfjceaaGreatDoor

namespace Go.Proofs.YthdeijdimfjceaaGreatDoor
open Go.RowKit Go.Shelf
attribute [local go_sem] Oper.semAt_some
def Boxed2 (W:World) (B:Nat) (t:TypeId) (u v:Value):Prop:=W.heap[B]? = some (.cells #[u,v] t (0,0))
theorem Boxed2.lt {W:World} {B:Nat} {t:TypeId} {u v:Value} (h:Boxed2 W B t u v):B < W.heap.size:=(Array.getElem?_eq_some_iff.1 h).1
theorem Boxed2.cell0 {W:World} {B:Nat} {t:TypeId} {u v:Value} (h:Boxed2 W B t u v):W.cell? ⟨B,0,none⟩=some u:=by simp [World.cell?,show W.heap[B]? = _ from h]
theorem Boxed2.cell1 {W:World} {B:Nat} {t:TypeId} {u v:Value} (h:Boxed2 W B t u v):W.cell? ⟨B,1,none⟩=some v:=by simp [World.cell?,show W.heap[B]? = _ from h]
theorem Boxed2.frozen {W:World} {B:Nat} {t:TypeId} {u v:Value} (h:Boxed2 W B t u v) (o:Nat):W.frozen? ⟨B,o,none⟩=false:=by simp [World.frozen?,show W.heap[B]? = _ from h]
theorem Boxed2.of_block {W W':World} {B:Nat} {t:TypeId} {u v:Value} (h:Boxed2 W B t u v) (e:W'.heap[B]? = W.heap[B]?):Boxed2 W' B t u v:=e.trans h
theorem heap_set_same {W:World} {B:Nat} {c:Array Value} {t:TypeId} {q:Nat × Nat} (h:W.heap[B]? = some (.cells c t q)) (o:Nat) (x:Value):(W.setCell ⟨B,o,none⟩ x).heap[B]? = some (.cells (c.setIfInBounds o x) t q):=by
 obtain ⟨hlt,hk⟩:=Array.getElem?_eq_some_iff.1 h
 show (W.heap.modify B _)[B]? = _
 rw [Array.getElem?_eq_getElem (by rw [Array.size_modify];exact hlt),Array.getElem_modify_self,hk]
 rfl
theorem Boxed2.set1 {W:World} {B:Nat} {t:TypeId} {u v:Value} (h:Boxed2 W B t u v) (x:Value):Boxed2 (W.setCell ⟨B,1,none⟩ x) B t u x:=heap_set_same h 1 x
theorem Boxed2.set0 {W:World} {B:Nat} {t:TypeId} {u v:Value} (h:Boxed2 W B t u v) (x:Value):Boxed2 (W.setCell ⟨B,0,none⟩ x) B t x v:=heap_set_same h 0 x
theorem own_not_block {W:World} {e t:TypeId} {base size k B:Nat} {v:Value} {xs:List Value} {c:Array Value} (hr:W.ownsRow base e size v k xs) (hb:W.heap[B]? = some (.cells c t (0,0))) (hte:t ≠ e):v.ownBlock ≠ some B:=by
 intro e'
 rcases hr.2 with ⟨rfl,_⟩ | ⟨g,cap,cur,rfl,_,hgb,_⟩
 ·simp [Value.ownBlock] at e'
 ·obtain rfl:g=B:=by simpa [Value.ownBlock] using e'
  rw [hb] at hgb
  simp at hgb
  exact hte hgb.2
theorem Boxed2.appended {W w1:World} {n₀ B:Nat} {t e:TypeId} {u v v':Value} {k m:Nat} {xs ys:List Value} {tmp:Obj}
  (hv:Boxed2 W B t u v) (hte:t ≠ e) (hrow:W.ownsRow n₀ e 1 v k xs) (hn₀:n₀≤W.heap.size) (hB:n₀≤B)
  (hown':w1.ownsRow n₀ e 1 v' m ys) (hgrow:(W.alloc tmp).grownBy w1 v.ownBlock) :
  Boxed2 w1 B t u v∧Boxed2 (w1.setCell ⟨B,1,none⟩ v') B t u v'∧(w1.setCell ⟨B,1,none⟩ v').ownsRow n₀ e 1 v' m ys∧KeepsOthers W (w1.setCell ⟨B,1,none⟩ v')∧Below n₀ W (w1.setCell ⟨B,1,none⟩ v') ∧
   (∀ (C:Nat) (c:Array Value) (tc:TypeId),W.heap[C]? = some (.cells c tc (0,0))→tc ≠ e→C ≠ B→(w1.setCell ⟨B,1,none⟩ v').heap[C]? = W.heap[C]?):=by
 have ha:∀ C,C < W.heap.size→(W.alloc tmp).heap[C]? = W.heap[C]?:=fun C hC => Below.heap_alloc W tmp C hC
 have hne:v.ownBlock ≠ some B:=own_not_block hrow hv hte
 have hv1:Boxed2 w1 B t u v:=hv.of_block ((hgrow.block B (by have:=hv.lt;simp;omega) (Ne.symm hne)).trans (ha B hv.lt))
 refine ⟨hv1,hv1.set1 v',ownsRow_kept hown' (fun g hg _ => Below.heap_setCell _ _ _ _ (fun e2 => own_not_block hown' hv1 hte (by rw [hg];exact congrArg some e2))),?_,?_,?_⟩
 ·refine ((KeepsOthers.alloc W tmp).trans (KeepsOthers.of_grownBy hgrow fun j o ej hj => ?_)).trans (KeepsOthers.setCell _ _ _)
  rcases (hrow.alloc tmp).2 with ⟨rfl,_⟩ | ⟨g,cap,cur,rfl,_,hgb,_⟩
  ·simp [Value.ownBlock] at ej
  ·obtain rfl:g=j:=by simpa [Value.ownBlock] using ej
   rw [hgb] at hj;cases hj;rfl
 ·refine (((Below.refl n₀ W).alloc hn₀ tmp).grown hgrow (by simp;omega) fun j ej => (hrow.lt j ej).1).setCell (p:=⟨B,1,none⟩) hB v'
 ·intro C c tc hC htc hCB
  have hlt:=(Array.getElem?_eq_some_iff.1 hC).1
  rw [Below.heap_setCell _ _ _ _ hCB,hgrow.block C (by simp;omega) (Ne.symm (own_not_block hrow hC htc)),ha C hlt]
def ReadI (w:World) (neg:Bool) (t:ByteArray) (pre:List Grp) (W:World):Prop :=
 (∃ v,Boxed2 W (w.heap.size+1) 148 (.bool neg) v∧W.ownsRow w.heap.size 177 1 v pre.length (nums .u32 (pre.map gval))) ∧
  Boxed2 W w.heap.size 148 (.bool false) (.slice none 0 0)∧W.heap[w.heap.size+1+1]? = some (.cells #[.string t] 9 (0,0))∧Below w.heap.size w W
theorem kept_cells {X Y:World} {row:Option Nat} {B:Nat} {c:Array Value} {t:TypeId} {q:Nat × Nat} (h:X.heap[B]? = some (.cells c t q)) (hg:X.grownBy Y row)
  (hrow:∀ r,row=some r→∃ o:Obj,X.heap[r]? = some o∧o.isCells=false):Y.heap[B]? = X.heap[B]?:=by
 refine hg.block B (Array.getElem?_eq_some_iff.1 h).1 (fun e => ?_)
 obtain ⟨o,ho,hc⟩:=hrow B e.symm
 rw [h] at ho;cases ho;cases hc
theorem readI_own (w:World) (neg:Bool) (t:ByteArray) (B:Nat) (hB:w.heap.size≤B):OwnFrom B (ReadI w neg t):=by
 rintro pre X Y row ⟨⟨v,hv,hr⟩,hb,hs,hbel⟩ hg hrow
 have hrow2:∀ r,row=some r→∃ o:Obj,X.heap[r]? = some o∧o.isCells=false:=fun r e => (hrow r e).2
 refine ⟨⟨v,hv.of_block (kept_cells hv hg hrow2),?_⟩,hb.of_block (kept_cells hb hg hrow2),(kept_cells hs hg hrow2).trans hs,hbel.grown hg hbel.size (fun k e => Nat.le_trans hB (hrow k e).1)⟩
 refine ownsRow_kept hr (fun k hk _ => ?_)
 rcases hr.2 with ⟨rfl,_⟩ | ⟨g,cap,cur,rfl,_,hgb,_⟩
 ·simp [Value.ownBlock] at hk
 ·obtain rfl:g=k:=by simpa [Value.ownBlock] using hk
  exact kept_cells hgb hg hrow2
def ReadPost (w:World) (neg:Bool) (n:Nat) (e:Ending) (w':World):Prop :=
 ∃ v rs,e = .returned (.agg #[.bool neg,v])∧Sl w' v 1 rs.length (nums .u32 rs)∧Nrm 1000000000 rs∧Go.Proofs.YthdeijdimfjceaaGreatDoor.val 1000000000 rs=n∧Below w.heap.size w w'
set_option maxHeartbeats 2000000 in
set_option maxRecDepth 100000 in
theorem read_pos (s:ByteArray) (w:World) (hs:s.size≤100000) (h0:0 < s.size) (hd:(bl s).all isDig=true) :
  Calls Tryz.prog 113 #[.string s] w (ReadPost w false (dval (bl s))):=by
 obtain ⟨i0,hi,hz0,hz1,hz2⟩:=info_parts Tryz.info_u32
 obtain ⟨c0,hc0⟩:∃ c,s[0]=c:=⟨_,rfl⟩
 have hcd:=isDig_at s hd 0 h0
 rw [hc0] at hcd
 have hm1:((c0.toNat:Int) == 45)=false:=by rw [beq_eq_false_iff_ne];omega
 refine (callsIn_wide (n:=4)).1 ?_
 refine callsIn_of_wp_marks Tryz.func113 rfl trivial ?_ rfl
 simp only [Tryz.ntmps113,List.size_toArray,List.length_cons,List.length_nil,Nat.reduceAdd,Nat.reduceSub,Array.replicate_succ,Array.replicate_zero,List.push_toArray,List.append_toArray,List.nil_append,List.cons_append]
 gi_wp2_with (refine ⟨trivial,?_⟩;gi_at_call 143;refine (groups_in Fence.wide _ trivial rfl _ _).mono ?_;rintro e w' ⟨rfl,rfl⟩)
 obtain ⟨W0,hW0⟩:∃ W0,W0=(((w.alloc (.cells #[.bool false,.slice none 0 0] 148)).alloc (.cells #[.bool false,.slice none 0 0] 148)).alloc (.cells #[.string s] 9)):=⟨_,rfl⟩
 rw [← hW0]
 have hsz:W0.heap.size=w.heap.size+3:=by rw [hW0];simp
 have hI0:ReadI w false s [] W0:=by
  rw [hW0]
  refine ⟨⟨.slice none 0 0,?_,World.ownsRow_nil _ _ _ _⟩,?_,?_,?_⟩
  ·show (((w.heap.push _).push _).push _)[w.heap.size+1]? = _
   rw [Array.getElem?_push,if_neg (by simp),Array.getElem?_push,if_pos (by simp)]
  ·show (((w.heap.push _).push _).push _)[w.heap.size]? = _
   rw [Array.getElem?_push,if_neg (by simp;omega),Array.getElem?_push,if_neg (by simp),Array.getElem?_push,if_pos rfl]
  ·show (((w.heap.push _).push _).push _)[w.heap.size+1+1]? = _
   rw [Array.getElem?_push,if_pos (by simp)]
  ·exact (((Below.refl _ w).alloc (Nat.le_refl _) _).alloc (by simp) _).alloc (by simp;omega) _
 clear hW0
 refine wpIn_rangeFunc_ownG rfl (by decide) (gf:=160) (lb:=#[.pointer (some ⟨w.heap.size+1+1,0,none⟩)]) rfl trivial (enters_of Tryz.func160 (by kernel_rfl) rfl)
  (groups_stops Fence.wide _ trivial rfl (by decide) (w.heap.size+1+1) s hd (by omega) W0 hI0.2.2.1) (fun h k => Eq.trans k h) (fun W l o o' hl ho hc hk => World.putObj_heap_other (by omega)) (Below.refl _ _) (fun _ => rfl)
  (ReadI w false s) (fun _ _ _ => False) (readI_own _ _ _ _ (by omega)) (fun _ _ _ _ _ hs _ _ => hs) hI0
  (fun x => { tmps:=#[.string s,undef,.pointer (some ⟨w.heap.size,0,none⟩),.pointer (some ⟨w.heap.size+1,0,none⟩),.string s,.string x.1,undef,undef,.string s,.string s,.int .u8 c0.toNat,.bool false,undef,undef,undef,.string s,.func (.func 160) #[] #[.pointer (some ⟨w.heap.size+1+1,0,none⟩)],.string x.1,undef,undef,undef,undef,undef,undef,undef,undef,undef,undef,undef,undef,undef,undef,undef,undef,undef,undef,undef,undef,undef,undef,undef,undef,undef],defers:=[] }) ?assign ?body ?done ?stop
 case assign =>
  intro l x W K hK
  gi_wp2
  exact hK
 case body =>
  rintro l pre x W ⟨⟨v,hv,hrow⟩,hb0,hst,hbel⟩ hlt
  obtain ⟨g,hg9,hgd⟩:=x
  have hg9':g.size≤9:=hg9
  have hgd':(bl g).all isDig=true:=hgd
  have hpl:pre.length≤12000:=by omega
  gi_wp2_with fail
  gi_loopw [6,20] (fun a i wr => ∃ k:Nat,k≤g.size∧i = .int .i64 k∧a = .int .u32 (dval ((bl g).take k):Nat)∧Hid (wr=W))
   (fun _ i _ => g.size - (intOf i).toNat)
  case atStart => exact ⟨0,Nat.zero_le _,rfl,rfl,rfl⟩
  case round =>
   obtain ⟨k,hk,rfl,rfl,Hw⟩:=hrel
   obtain rfl:wr=W:=Hw.out
   clear Hw
   by_cases hlt2:k < g.size
   ·have hc:=isDig_at g hgd' k hlt2
    have hs1:=dval_take_succ g k hlt2
    obtain ⟨c,hcc⟩:∃ c,g[k]=c:=⟨_,rfl⟩
    rw [hcc] at hc hs1
    have hlv:dval ((bl g).take k) < 100000000:=by
     have h1:=dval_lt ((bl g).take k) (all_take_of_all isDig _ k hgd')
     have h2:((bl g).take k).length≤8:=by rw [List.length_take];omega
     exact Nat.lt_of_lt_of_le h1 (Nat.pow_le_pow_right (by decide) h2)
    obtain ⟨d,hdd⟩:∃ d,dval ((bl g).take k)=d:=⟨_,rfl⟩
    rw [hdd] at hs1 hlv ⊢
    have Hs1:=Lib.hid hs1
    clear hs1 hdd
    gi_wp2
    go_roundw
    case rel => exact ⟨k+1,by omega,by go_num,by rw [Hs1.out];go_num,by first | exact rfl | exact trivial⟩
    case measure => simp [intOf];omega
   ·obtain rfl:k=g.size:=by omega
    have hgv:dval ((bl g).take g.size)=gval ⟨g,hg9,hgd⟩:=by rw [List.take_of_length_le (by rw [bl_length];exact Nat.le_refl _)];rfl
    rw [hgv]
    have hc0:=hv.cell1
    have hf0:=hv.frozen 1
    have hsize:=hbel.size
    clear hgv hlt2 hk
    gi_wp2_with (gi_at_builtin;refine wpListIn_append_own _ rfl _ _ 146 rfl w.heap.size 177 i0 (.int .u32 0) 1 4 Tryz.ul_u32s hi hz0 hz1 hz2 rfl (by decide) _ _ _ rfl (hrow.alloc _) ⟨wr.heap.size,0,none⟩ 1 1 [.int .u32 ((gval ⟨g,hg9,hgd⟩:Nat):Int)] rfl rfl (cell_one_new _ _ _) (int_oneCell _ _) (by unfold maxLen;omega) (by omega) (by simp;omega) ?_;intro v' w1 hown' hgrow _;obtain ⟨g',cap',rfl⟩:=ownsRow_succ hown';obtain ⟨hv1,hv2,hr2,hk2,hb2,ho2⟩:=hv.appended (by decide) hrow hsize (by omega) hown' hgrow;have hc1:=hv1.cell1;have hf1:=hv1.frozen 1)
    refine ⟨hk2.from _,ho2 _ _ _ hst (by decide) (by omega),⟨_,hv2,?_⟩,hb0.of_block (ho2 _ _ _ hb0 (by decide) (by omega)),(ho2 _ _ _ hst (by decide) (by omega)).trans hst,hbel.trans hb2⟩
    rw [List.length_append,List.length_singleton,List.map_append,List.map_singleton,← nums_snoc]
    exact hr2
 case done =>
  rintro D ys W hD rfl ⟨⟨v,hv,hrow⟩,hb0,hst,hbel⟩ hK
  have hsl:=Sl.of_owns hrow
  obtain ⟨ad,cap,rfl,_⟩:=id hsl
  have hn:=grps_length s hd ((s.size+8) / 9)
  have hval:=grps_full s hd
  obtain ⟨ms,hms⟩:∃ ms,(grps s hd ((s.size+8) / 9)).map gval=ms:=⟨_,rfl⟩
  have hdig:=grps_dig (grps s hd ((s.size+8) / 9))
  have hlen:(grps s hd ((s.size+8) / 9)).length=ms.length:=by rw [← hms,List.length_map]
  rw [hlen] at hv
  rw [hlen,hms] at hsl hrow
  rw [hms] at hval hdig
  have hml:ms.length≤100000:=by omega
  have Hval:=Lib.hid hval
  clear hval hms hlen hn
  have hc1:=hv.cell1
  have hc0:=hv.cell0
  have hf1:=hv.frozen 1
  have hr0:=hb0.cell0
  have hr1:=hb0.cell1
  have hrf0:=hb0.frozen 0
  have hrf1:=hb0.frozen 1
  have Htr:=Lib.hid (trim_any _ ms W hsl (by omega))
  clear hsl
  gi_wp2_with fail
  refine ⟨trivial,?_⟩
  refine (callsIn_wide.2 Htr.out).mono ?_
  rintro e w' ⟨v',rfl,Hv',rfl⟩
  obtain rfl:v'=Value.slice ad (trimL ms).length cap:=Hv'.out
  have HK:=Lib.hid hK
  have Hrow:=Lib.hid hrow
  clear hK hrow
  gi_wp2
  obtain ⟨W3,hW3⟩:∃ W3,W3=(((W.setCell ⟨w.heap.size+1,1,none⟩ (Value.slice ad (trimL ms).length cap)).setCell ⟨w.heap.size,0,none⟩ (Value.bool false)).setCell ⟨w.heap.size,1,none⟩ (Value.slice ad (trimL ms).length cap)):=⟨_,rfl⟩
  rw [← hW3]
  have hK3:W3.heap[D]? = some (.deferred (some [])):=by
   rw [hW3]
   exact (((KeepsOthers.setCell W _ _).trans (KeepsOthers.setCell _ _ _)).trans (KeepsOthers.setCell _ _ _)).same D _ HK.out rfl
  have hB3:Boxed2 W3 w.heap.size 148 (.bool false) (Value.slice ad (trimL ms).length cap):=by
   rw [hW3]
   exact ((hb0.of_block (Below.heap_setCell _ _ _ _ (by simp))).set0 _).set1 _
  have hB4:Boxed2 (W3.putObj D (.deferred none)) w.heap.size 148 (.bool false) (Value.slice ad (trimL ms).length cap):=hB3.of_block (World.putObj_heap_other (by omega))
  have hoth:∀ k,(Value.slice ad ms.length cap).ownBlock=some k→(W3.putObj D (.deferred none)).heap[k]? = W.heap[k]?:=by
   intro k hk
   have k1:k ≠ w.heap.size:=fun e => own_not_block Hrow.out hb0 (by decide) (by rw [hk,e])
   have k2:k ≠ w.heap.size+1:=fun e => own_not_block Hrow.out hv (by decide) (by rw [hk,e])
   have k3:k ≠ D:=fun e => by
    rcases Hrow.out.2 with ⟨he,_⟩ | ⟨g,_,_,he,_,hgb,_⟩
    ·rw [he] at hk;simp [Value.ownBlock] at hk
    ·rw [he] at hk
     obtain rfl:g=k:=by simpa [Value.ownBlock] using hk
     rw [e,HK.out] at hgb;cases hgb
   rw [World.putObj_heap_other k3,hW3,Below.heap_setCell _ _ _ _ k1,Below.heap_setCell _ _ _ _ k1,Below.heap_setCell _ _ _ _ k2]
  have hcut:=((Sl.of_owns Hrow.out).kept (w':=W3.putObj D (.deferred none)) (fun k hk _ => hoth k hk)).cut (trimL ms).length (trimL_prefix ms).2
  rw [Nat.mul_one,nums_take,← (trimL_prefix ms).1] at hcut
  have hbel4:Below w.heap.size w (W3.putObj D (.deferred none)):=by
   refine Below.trans ?_ (belowK_b (w:=w) (Nat.le_refl _) W3 D _ _ (by omega) hK3 rfl rfl)
   rw [hW3]
   exact ((hbel.setCell (p:=⟨w.heap.size+1,1,none⟩) (by simp) _).setCell (p:=⟨w.heap.size,0,none⟩) (Nat.le_refl _) _).setCell (p:=⟨w.heap.size,1,none⟩) (Nat.le_refl _) _
  refine ⟨by simp,.inl ⟨_,_,rfl,run_takeDeferred hK3,?_⟩⟩
  refine ⟨.agg #[.bool false,Value.slice ad (trimL ms).length cap],?_,?_⟩
  ·simp [results,Tryz.results113,go_sem,hB4.cell0,hB4.cell1]
  ·exact ⟨_,trimL ms,rfl,hcut,trimL_nrm hdig,by rw [trimL_val];exact Hval.out,hbel4⟩
 case stop =>
  rintro D c pre W _ _ h _
  exact h.elim
set_option maxHeartbeats 2000000 in
set_option maxRecDepth 100000 in
theorem read_neg (s:ByteArray) (w:World) (hs:s.size≤100000) (h0:0 < s.size) (hm:s[0]=45) (t:ByteArray) (ht:s.extract 1 s.size=t) (hd:(bl t).all isDig=true) :
  Calls Tryz.prog 113 #[.string s] w (ReadPost w true (dval (bl t))):=by
 obtain ⟨i0,hi,hz0,hz1,hz2⟩:=info_parts Tryz.info_u32
 have hts:t.size≤100000:=by
  have:=bl_tail s h0
  rw [ht] at this
  rw [← bl_length,this,List.length_tail,bl_length];omega
 refine (callsIn_wide (n:=4)).1 ?_
 refine callsIn_of_wp_marks Tryz.func113 rfl trivial ?_ rfl
 simp only [Tryz.ntmps113,List.size_toArray,List.length_cons,List.length_nil,Nat.reduceAdd,Nat.reduceSub,Array.replicate_succ,Array.replicate_zero,List.push_toArray,List.append_toArray,List.nil_append,List.cons_append]
 gi_wp2_with fail
 gi_region
 all_goals gi_wp2_with fail
 gi_wp2_with (refine ⟨trivial,?_⟩;gi_at_call 143;refine (groups_in Fence.wide _ trivial rfl _ _).mono ?_;rintro e w' ⟨rfl,rfl⟩)
 obtain ⟨W0,hW0⟩:∃ W0,W0=(((w.alloc (.cells #[.bool false,.slice none 0 0] 148)).alloc (.cells #[.bool true,.slice none 0 0] 148)).alloc (.cells #[.string t] 9)).drew:=⟨_,rfl⟩
 rw [← hW0]
 have hsz:W0.heap.size=w.heap.size+3:=by rw [hW0];simp
 have hI0:ReadI w true t [] W0:=by
  rw [hW0]
  refine ⟨⟨.slice none 0 0,?_,World.ownsRow_nil _ _ _ _⟩,?_,?_,?_⟩
  ·show (((w.heap.push _).push _).push _)[w.heap.size+1]? = _
   rw [Array.getElem?_push,if_neg (by simp),Array.getElem?_push,if_pos (by simp)]
  ·show (((w.heap.push _).push _).push _)[w.heap.size]? = _
   rw [Array.getElem?_push,if_neg (by simp;omega),Array.getElem?_push,if_neg (by simp),Array.getElem?_push,if_pos rfl]
  ·show (((w.heap.push _).push _).push _)[w.heap.size+1+1]? = _
   rw [Array.getElem?_push,if_pos (by simp)]
  ·exact ((((Below.refl _ w).alloc (Nat.le_refl _) _).alloc (by simp) _).alloc (by simp;omega) _).drew
 clear hW0
 refine wpIn_rangeFunc_ownG rfl (by decide) (gf:=160) (lb:=#[.pointer (some ⟨w.heap.size+1+1,0,none⟩)]) rfl trivial (enters_of Tryz.func160 (by kernel_rfl) rfl)
  (groups_stops Fence.wide _ trivial rfl (by decide) (w.heap.size+1+1) t hd (by omega) W0 hI0.2.2.1) (fun h k => Eq.trans k h) (fun W l o o' hl ho hc hk => World.putObj_heap_other (by omega)) (Below.refl _ _) (fun _ => rfl)
  (ReadI w true t) (fun _ _ _ => False) (readI_own _ _ _ _ (by omega)) (fun _ _ _ _ _ hs _ _ => hs) hI0
  (fun x => { tmps:=#[.string s,undef,.pointer (some ⟨w.heap.size,0,none⟩),.pointer (some ⟨w.heap.size+1,0,none⟩),.string t,.string x.1,undef,undef,.string s,.string s,.int .u8 45,.bool true,.string s,.string t,.pointer (some ⟨w.heap.size+1,0,none⟩),.string t,.func (.func 160) #[] #[.pointer (some ⟨w.heap.size+1+1,0,none⟩)],.string x.1,undef,undef,undef,undef,undef,undef,undef,undef,undef,undef,undef,undef,undef,undef,undef,undef,undef,undef,undef,undef,undef,undef,undef,undef,undef],defers:=[] }) ?assign ?body ?done ?stop
 case assign =>
  intro l x W K hK
  gi_wp2
  exact hK
 case body =>
  rintro l pre x W ⟨⟨v,hv,hrow⟩,hb0,hst,hbel⟩ hlt
  obtain ⟨g,hg9,hgd⟩:=x
  have hg9':g.size≤9:=hg9
  have hgd':(bl g).all isDig=true:=hgd
  have hpl:pre.length≤12000:=by omega
  gi_wp2_with fail
  gi_loopw [6,20] (fun a i wr => ∃ k:Nat,k≤g.size∧i = .int .i64 k∧a = .int .u32 (dval ((bl g).take k):Nat)∧Hid (wr=W))
   (fun _ i _ => g.size - (intOf i).toNat)
  case atStart => exact ⟨0,Nat.zero_le _,rfl,rfl,rfl⟩
  case round =>
   obtain ⟨k,hk,rfl,rfl,Hw⟩:=hrel
   obtain rfl:wr=W:=Hw.out
   clear Hw
   by_cases hlt2:k < g.size
   ·have hc:=isDig_at g hgd' k hlt2
    have hs1:=dval_take_succ g k hlt2
    obtain ⟨c,hcc⟩:∃ c,g[k]=c:=⟨_,rfl⟩
    rw [hcc] at hc hs1
    have hlv:dval ((bl g).take k) < 100000000:=by
     have h1:=dval_lt ((bl g).take k) (all_take_of_all isDig _ k hgd')
     have h2:((bl g).take k).length≤8:=by rw [List.length_take];omega
     exact Nat.lt_of_lt_of_le h1 (Nat.pow_le_pow_right (by decide) h2)
    obtain ⟨d,hdd⟩:∃ d,dval ((bl g).take k)=d:=⟨_,rfl⟩
    rw [hdd] at hs1 hlv ⊢
    have Hs1:=Lib.hid hs1
    clear hs1 hdd
    gi_wp2
    go_roundw
    case rel => exact ⟨k+1,by omega,by go_num,by rw [Hs1.out];go_num,by first | exact rfl | exact trivial⟩
    case measure => simp [intOf];omega
   ·obtain rfl:k=g.size:=by omega
    have hgv:dval ((bl g).take g.size)=gval ⟨g,hg9,hgd⟩:=by rw [List.take_of_length_le (by rw [bl_length];exact Nat.le_refl _)];rfl
    rw [hgv]
    have hc0:=hv.cell1
    have hf0:=hv.frozen 1
    have hsize:=hbel.size
    clear hgv hlt2 hk
    gi_wp2_with (gi_at_builtin;refine wpListIn_append_own _ rfl _ _ 146 rfl w.heap.size 177 i0 (.int .u32 0) 1 4 Tryz.ul_u32s hi hz0 hz1 hz2 rfl (by decide) _ _ _ rfl (hrow.alloc _) ⟨wr.heap.size,0,none⟩ 1 1 [.int .u32 ((gval ⟨g,hg9,hgd⟩:Nat):Int)] rfl rfl (cell_one_new _ _ _) (int_oneCell _ _) (by unfold maxLen;omega) (by omega) (by simp;omega) ?_;intro v' w1 hown' hgrow _;obtain ⟨g',cap',rfl⟩:=ownsRow_succ hown';obtain ⟨hv1,hv2,hr2,hk2,hb2,ho2⟩:=hv.appended (by decide) hrow hsize (by omega) hown' hgrow;have hc1:=hv1.cell1;have hf1:=hv1.frozen 1)
    refine ⟨hk2.from _,ho2 _ _ _ hst (by decide) (by omega),⟨_,hv2,?_⟩,hb0.of_block (ho2 _ _ _ hb0 (by decide) (by omega)),(ho2 _ _ _ hst (by decide) (by omega)).trans hst,hbel.trans hb2⟩
    rw [List.length_append,List.length_singleton,List.map_append,List.map_singleton,← nums_snoc]
    exact hr2
 case done =>
  rintro D ys W hD rfl ⟨⟨v,hv,hrow⟩,hb0,hst,hbel⟩ hK
  have hsl:=Sl.of_owns hrow
  obtain ⟨ad,cap,rfl,_⟩:=id hsl
  have hn:=grps_length t hd ((t.size+8) / 9)
  have hval:=grps_full t hd
  obtain ⟨ms,hms⟩:∃ ms,(grps t hd ((t.size+8) / 9)).map gval=ms:=⟨_,rfl⟩
  have hdig:=grps_dig (grps t hd ((t.size+8) / 9))
  have hlen:(grps t hd ((t.size+8) / 9)).length=ms.length:=by rw [← hms,List.length_map]
  rw [hlen] at hv
  rw [hlen,hms] at hsl hrow
  rw [hms] at hval hdig
  have hml:ms.length≤100000:=by omega
  have Hval:=Lib.hid hval
  clear hval hms hlen hn
  have hc1:=hv.cell1
  have hc0:=hv.cell0
  have hf1:=hv.frozen 1
  have hr0:=hb0.cell0
  have hr1:=hb0.cell1
  have hrf0:=hb0.frozen 0
  have hrf1:=hb0.frozen 1
  have Htr:=Lib.hid (trim_any _ ms W hsl (by omega))
  clear hsl
  gi_wp2_with fail
  refine ⟨trivial,?_⟩
  refine (callsIn_wide.2 Htr.out).mono ?_
  rintro e w' ⟨v',rfl,Hv',rfl⟩
  obtain rfl:v'=Value.slice ad (trimL ms).length cap:=Hv'.out
  have HK:=Lib.hid hK
  have Hrow:=Lib.hid hrow
  clear hK hrow
  gi_wp2
  obtain ⟨W3,hW3⟩:∃ W3,W3=(((W.setCell ⟨w.heap.size+1,1,none⟩ (Value.slice ad (trimL ms).length cap)).setCell ⟨w.heap.size,0,none⟩ (Value.bool true)).setCell ⟨w.heap.size,1,none⟩ (Value.slice ad (trimL ms).length cap)):=⟨_,rfl⟩
  rw [← hW3]
  have hK3:W3.heap[D]? = some (.deferred (some [])):=by
   rw [hW3]
   exact (((KeepsOthers.setCell W _ _).trans (KeepsOthers.setCell _ _ _)).trans (KeepsOthers.setCell _ _ _)).same D _ HK.out rfl
  have hB3:Boxed2 W3 w.heap.size 148 (.bool true) (Value.slice ad (trimL ms).length cap):=by
   rw [hW3]
   exact ((hb0.of_block (Below.heap_setCell _ _ _ _ (by simp))).set0 _).set1 _
  have hB4:Boxed2 (W3.putObj D (.deferred none)) w.heap.size 148 (.bool true) (Value.slice ad (trimL ms).length cap):=hB3.of_block (World.putObj_heap_other (by omega))
  have hoth:∀ k,(Value.slice ad ms.length cap).ownBlock=some k→(W3.putObj D (.deferred none)).heap[k]? = W.heap[k]?:=by
   intro k hk
   have k1:k ≠ w.heap.size:=fun e => own_not_block Hrow.out hb0 (by decide) (by rw [hk,e])
   have k2:k ≠ w.heap.size+1:=fun e => own_not_block Hrow.out hv (by decide) (by rw [hk,e])
   have k3:k ≠ D:=fun e => by
    rcases Hrow.out.2 with ⟨he,_⟩ | ⟨g,_,_,he,_,hgb,_⟩
    ·rw [he] at hk;simp [Value.ownBlock] at hk
    ·rw [he] at hk
     obtain rfl:g=k:=by simpa [Value.ownBlock] using hk
     rw [e,HK.out] at hgb;cases hgb
   rw [World.putObj_heap_other k3,hW3,Below.heap_setCell _ _ _ _ k1,Below.heap_setCell _ _ _ _ k1,Below.heap_setCell _ _ _ _ k2]
  have hcut:=((Sl.of_owns Hrow.out).kept (w':=W3.putObj D (.deferred none)) (fun k hk _ => hoth k hk)).cut (trimL ms).length (trimL_prefix ms).2
  rw [Nat.mul_one,nums_take,← (trimL_prefix ms).1] at hcut
  have hbel4:Below w.heap.size w (W3.putObj D (.deferred none)):=by
   refine Below.trans ?_ (belowK_b (w:=w) (Nat.le_refl _) W3 D _ _ (by omega) hK3 rfl rfl)
   rw [hW3]
   exact ((hbel.setCell (p:=⟨w.heap.size+1,1,none⟩) (by simp) _).setCell (p:=⟨w.heap.size,0,none⟩) (Nat.le_refl _) _).setCell (p:=⟨w.heap.size,1,none⟩) (Nat.le_refl _) _
  refine ⟨by simp,.inl ⟨_,_,rfl,run_takeDeferred hK3,?_⟩⟩
  refine ⟨.agg #[.bool true,Value.slice ad (trimL ms).length cap],?_,?_⟩
  ·simp [results,Tryz.results113,go_sem,hB4.cell0,hB4.cell1]
  ·exact ⟨_,trimL ms,rfl,hcut,trimL_nrm hdig,by rw [trimL_val];exact Hval.out,hbel4⟩
 case stop =>
  rintro D c pre W _ _ h _
  exact h.elim
theorem read_any (s:ByteArray) (w:World) (hs:s.size≤100000) (hc:canonI (bl s)=true) :
  Calls Tryz.prog 113 #[.string s] w (ReadPost w (isNeg (bl s)) (dval (body (bl s)))):=by
 have hne:0 < s.size:=by
  rcases Nat.eq_zero_or_pos s.size with h | h
  ·have e:bl s=[]:=List.eq_nil_of_length_eq_zero (by rw [bl_length];exact h)
   rw [e] at hc;simp [canonI,canonD,body] at hc
  ·exact h
 have e:=bl_cons s hne
 by_cases hm:s[0]=45
 ·have et:=bl_tail s hne
  have e1:isNeg (bl s)=true:=by rw [e,hm];rfl
  have e2:body (bl s)=bl (s.extract 1 s.size):=by rw [et,e,hm];rfl
  rw [e1,e2]
  refine read_neg s w hs hne hm _ rfl ?_
  rw [canonI,e2,canonD] at hc
  simp only [Bool.and_eq_true] at hc
  exact hc.1.2
 ·have e0:(bl s).head? = some s[0]:=by rw [e];rfl
  have e1:isNeg (bl s)=false:=by rw [isNeg,e0];simpa using hm
  have e2:body (bl s)=bl s:=by rw [body,e0,if_neg];simpa using hm
  rw [e1,e2]
  refine read_pos s w hs hne ?_
  rw [canonI,e2,canonD] at hc
  simp only [Bool.and_eq_true] at hc
  exact hc.1.2
end Go.Proofs.YthdeijdimfjceaaGreatDoor

namespace Go.Proofs.YthdeijdimfjceaaGreatDoor
open Go.RowKit
theorem below_a1 (w:World) (a:Obj):Below w.heap.size w (w.alloc a):=(Below.refl _ _).alloc (Nat.le_refl _) _
theorem below_a2 (w:World) (a b:Obj):Below w.heap.size w ((w.alloc a).alloc b):=(below_a1 w a).alloc (by simp) _
theorem below_a3 (w:World) (a b c:Obj):Below w.heap.size w (((w.alloc a).alloc b).alloc c):=(below_a2 w a b).alloc (by simp;omega) _
theorem Boxed2.new (w:World) (u v:Value) (t:TypeId):Boxed2 (w.alloc (.cells #[u,v] t)) w.heap.size t u v:=by
 show (w.heap.push _)[w.heap.size]? = _
 simp
theorem Boxed2.alloc {w:World} {B:Nat} {t:TypeId} {u v:Value} (h:Boxed2 w B t u v) (o:Obj):Boxed2 (w.alloc o) B t u v:=h.of_block (Below.heap_alloc _ _ _ h.lt)
theorem Boxed2.below {w w':World} {B:Nat} {t:TypeId} {u v:Value} (h:Boxed2 w B t u v) (hb:Below w.heap.size w w'):Boxed2 w' B t u v:=h.of_block (hb.block _ h.lt)
theorem Boxed2.store {w:World} {B:Nat} {t:TypeId} {u v:Value} (h:Boxed2 w B t u v) (x y:Value):Boxed2 ((w.setCell ⟨B,0,none⟩ x).setCell ⟨B,1,none⟩ y) B t x y:=(h.set0 x).set1 y
theorem below_store {B0 B:Nat} {w w1:World} (hb:Below B0 w w1) (h:B0≤B) (x y:Value):Below B0 w ((w1.setCell ⟨B,0,none⟩ x).setCell ⟨B,1,none⟩ y) :=
 (hb.setCell (p:=⟨B,0,none⟩) h _).setCell (p:=⟨B,1,none⟩) h _
end Go.Proofs.YthdeijdimfjceaaGreatDoor

namespace Go.Proofs.YthdeijdimfjceaaGreatDoor
open Go.RowKit
def slt (a b:ByteArray):Bool:=Op.bytesLess (bl a) (bl b)
theorem bytesLess_irrefl (l:List UInt8):Op.bytesLess l l=false:=by
 induction l with
 | nil => rfl
 | cons a l ih => simp [Op.bytesLess,ih]
def cmpS (a b:ByteArray):Int:=if slt a b=true then -1 else if a=b then 0 else 1
def cmpI (a b:Int):Int:=if a < b then -1 else if b < a then 1 else 0
def orI:List Int→Int
 | [] => 0
 | a :: l => if a=0 then orI l else a
def fxCmp (n1:ByteArray) (d1:Int) (n2:ByteArray) (d2:Int):Int:=orI [cmpS n1 n2,cmpI d1 d2]
def chCmp (p1 n1:ByteArray) (d1:Int) (p2 n2:ByteArray) (d2:Int):Int:=orI [cmpS p1 p2,cmpS n1 n2,cmpI d1 d2]
def fxLt (n1:ByteArray) (d1:Int) (n2:ByteArray) (d2:Int):Bool:=slt n1 n2 || (decide (n1=n2) && decide (d1 < d2))
def chLt (p1 n1:ByteArray) (d1:Int) (p2 n2:ByteArray) (d2:Int):Bool:=if p1=p2 then fxLt n1 d1 n2 d2 else slt p1 p2
theorem slt_irrefl (a:ByteArray):slt a a=false:=bytesLess_irrefl _
theorem fxCmp_lt (n1 n2:ByteArray) (d1 d2:Int):decide (fxCmp n1 d1 n2 d2 < 0)=fxLt n1 d1 n2 d2:=by
 unfold fxCmp fxLt orI orI orI cmpS cmpI
 by_cases h:slt n1 n2=true
 ·simp [h]
 ·by_cases h2:n1=n2
  ·subst h2
   simp [slt_irrefl]
   by_cases h3:d1 < d2
   ·simp [h3]
   ·by_cases h4:d2 < d1 <;> simp [h3,h4]
  ·simp [h,h2]
theorem chCmp_lt (p1 p2 n1 n2:ByteArray) (d1 d2:Int):decide (chCmp p1 n1 d1 p2 n2 d2 < 0)=chLt p1 n1 d1 p2 n2 d2:=by
 by_cases h2:p1=p2
 ·subst h2
  rw [chLt,if_pos rfl,← fxCmp_lt]
  have e:chCmp p1 n1 d1 p1 n2 d2=fxCmp n1 d1 n2 d2:=by
   rw [chCmp,orI,if_pos (by simp [cmpS,slt_irrefl]),fxCmp]
  rw [e]
 ·rw [chLt,if_neg h2,chCmp,orI,cmpS]
  by_cases h:slt p1 p2=true
  ·simp [h]
  ·simp [h,h2]
end Go.Proofs.YthdeijdimfjceaaGreatDoor

namespace Go.Proofs.YthdeijdimfjceaaGreatDoor
open Go.RowKit
set_option maxRecDepth 100000 in
theorem nanS_any (a:ByteArray) (w:World):Calls Tryz.prog 122 #[.string a] w fun e w' => e = .returned (.bool false)∧w=w':=by
 go_enter Tryz.func122,Tryz.ntmps122
 go_wp2
 go_ret
 exact ⟨ret_bool' (by simp),rfl⟩
set_option maxRecDepth 100000 in
theorem cmpS_any (a b:ByteArray) (w:World):Calls Tryz.prog 101 #[.string a,.string b] w fun e w' => e = .returned (.int .i64 (cmpS a b))∧w=w':=by
 cases h1:Op.bytesLess a.toList b.toList with
 | true =>
  have HR:Hid (cmpS a b = -1):=by show _=_;rw [cmpS,slt,← toList_bl,← toList_bl,h1];rfl
  go_enter Tryz.func101,Tryz.ntmps101
  go_wp2_with (go_at_call 122;refine (nanS_any _ _).mono ?_;rintro e w' ⟨rfl,rfl⟩)
  go_ret
  exact ⟨ret_int' HR.out.symm,rfl⟩
 | false =>
  cases h2:(a.toList == b.toList) with
  | true =>
   have HR:Hid (cmpS a b=0):=by
    show _=_
    rw [toList_beq,decide_eq_true_eq] at h2
    rw [cmpS,slt,← toList_bl,← toList_bl,h1,if_pos h2];rfl
   go_enter Tryz.func101,Tryz.ntmps101
   go_wp2_with (go_at_call 122;refine (nanS_any _ _).mono ?_;rintro e w' ⟨rfl,rfl⟩)
   go_ret
   exact ⟨ret_int' HR.out.symm,rfl⟩
  | false =>
   have HR:Hid (cmpS a b=1):=by
    show _=_
    rw [toList_beq,decide_eq_false_iff_not] at h2
    rw [cmpS,slt,← toList_bl,← toList_bl,h1,if_neg h2];rfl
   go_enter Tryz.func101,Tryz.ntmps101
   go_wp2_with (go_at_call 122;refine (nanS_any _ _).mono ?_;rintro e w' ⟨rfl,rfl⟩)
   go_ret
   exact ⟨ret_int' HR.out.symm,rfl⟩
theorem orI_drop (zs:List Int) (k:Nat) (h:k < zs.length):orI (zs.drop k)=if zs.getD k 0=0 then orI (zs.drop (k+1)) else zs.getD k 0:=by
 rw [List.drop_eq_getElem_cons h,orI]
 have e:zs.getD k 0=zs[k]:=by simp [List.getD,h]
 rw [e]
set_option maxRecDepth 100000 in
theorem or_any (zs:List Int) (b cap:Nat) (w:World) (hn:zs.length≤100) (hc:∀ j,j < zs.length→w.cell? ⟨b,j,none⟩=some (.int .i64 (zs.getD j 0))) :
  Calls Tryz.prog 100 #[.slice (some ⟨b,0,none⟩) zs.length cap] w fun e w' => e = .returned (.int .i64 (orI zs))∧w=w':=by
 have Hc:=Lib.hid hc
 clear hc
 go_enter Tryz.func100,Tryz.ntmps100
 go_wp2
 go_loop [8] (fun i => ∃ k:Nat,k≤zs.length∧i = .int .i64 k∧Hid (orI (zs.drop k)=orI zs)) (fun i => zs.length - (intOf i).toNat)
 case atStart => exact ⟨0,Nat.zero_le _,rfl,Lib.hid (by rfl)⟩
 case round =>
  obtain ⟨k,hk,rfl,HO⟩:=hrel
  by_cases hlt:k < zs.length
  ·have hcell:=Hc.out k hlt
   have Hd:=Lib.hid (orI_drop zs k hlt)
   obtain ⟨z,hz⟩:∃ z,zs.getD k 0=z:=⟨_,rfl⟩
   rw [hz] at hcell Hd
   clear hz
   by_cases h0:z=0
   ·have t1:(z != 0)=false:=by rw [bne_eq_false_iff_eq];exact h0
    have HO2:Hid (orI (zs.drop (k+1))=orI zs):=by show _=_;rw [← HO.out,Hd.out,if_pos h0]
    clear h0
    go_wp2
    go_round
    case rel => exact ⟨k+1,by omega,by go_num,HO2⟩
    case measure => simp [intOf];omega
   ·have t1:(z != 0)=true:=by rw [bne_iff_ne];exact h0
    have HO2:Hid (orI zs=z):=by show _=_;rw [← HO.out,Hd.out,if_neg h0]
    clear h0
    go_wp2
    go_ret
    exact ⟨ret_int' HO2.out.symm,rfl⟩
  ·obtain rfl:k=zs.length:=by omega
   have HO2:Hid (orI zs=0):=by show _=_;rw [← HO.out,List.drop_length];rfl
   go_wp2
   go_ret
   exact ⟨ret_int' HO2.out.symm,rfl⟩
theorem or2_any (x y:Int) (b:Nat) (w:World) (h0:w.cell? ⟨b,0,none⟩=some (.int .i64 x)) (h1:w.cell? ⟨b,1,none⟩=some (.int .i64 y)) :
  Calls Tryz.prog 100 #[.slice (some ⟨b,0,none⟩) 2 2] w fun e w' => e = .returned (.int .i64 (orI [x,y]))∧w=w' :=
 or_any [x,y] b 2 w (by simp) fun j hj => by
  match j,hj with
  | 0,_ => exact h0
  | 1,_ => exact h1
theorem or3_any (x y z:Int) (b:Nat) (w:World) (h0:w.cell? ⟨b,0,none⟩=some (.int .i64 x)) (h1:w.cell? ⟨b,1,none⟩=some (.int .i64 y)) (h2:w.cell? ⟨b,2,none⟩=some (.int .i64 z)) :
  Calls Tryz.prog 100 #[.slice (some ⟨b,0,none⟩) 3 3] w fun e w' => e = .returned (.int .i64 (orI [x,y,z]))∧w=w' :=
 or_any [x,y,z] b 3 w (by simp) fun j hj => by
  match j,hj with
  | 0,_ => exact h0
  | 1,_ => exact h1
  | 2,_ => exact h2
end Go.Proofs.YthdeijdimfjceaaGreatDoor

namespace Go.Proofs.YthdeijdimfjceaaGreatDoor
open Go.RowKit
set_option maxRecDepth 100000 in
theorem nanI_any (a:Int) (w:World):Calls Tryz.prog 123 #[.int .i64 a] w fun e w' => e = .returned (.bool false)∧w=w':=by
 go_enter Tryz.func123,Tryz.ntmps123
 go_wp2
 go_ret
 exact ⟨ret_bool' (by simp),rfl⟩
set_option maxRecDepth 100000 in
theorem cmpI_any (a b:Int) (w:World):Calls Tryz.prog 102 #[.int .i64 a,.int .i64 b] w fun e w' => e = .returned (.int .i64 (cmpI a b))∧w=w':=by
 go_enter Tryz.func102,Tryz.ntmps102
 go_wp2_with (go_at_call 123;refine (nanI_any _ _).mono ?_;rintro e w' ⟨rfl,rfl⟩)
 all_goals
  go_ret
  refine ⟨ret_int' ?_,rfl⟩
  unfold cmpI
  split <;> first | omega | (split <;> omega)
end Go.Proofs.YthdeijdimfjceaaGreatDoor

namespace Go.Proofs.YthdeijdimfjceaaGreatDoor
open Go.RowKit
def fxV (n:ByteArray) (d:Int) (v:ByteArray):Value:=.agg #[.string n,.int .i64 d,.string v]
def chV (p n:ByteArray) (d:Int) (f:Bool):Value:=.agg #[.string p,.string n,.int .i64 d,.bool f]
set_option maxHeartbeats 400000 in
set_option maxRecDepth 100000 in
theorem fixings_any (n1 v1 n2 v2:ByteArray) (d1 d2:Int) (w:World) :
  Calls Tryz.prog 63 #[fxV n1 d1 v1,fxV n2 d2 v2] w fun e w' => e = .returned (.int .i64 (fxCmp n1 d1 n2 d2))∧Below w.heap.size w w':=by
 unfold fxV fxCmp
 go_enter Tryz.func63,Tryz.ntmps63
 go_wp2
 go_region_held3 (fun w' => w'.cell? ⟨w.heap.size,0,none⟩=some (.string n1)∧w'.cell? ⟨w.heap.size,1,none⟩=some (.int .i64 d1)∧w'.cell? ⟨w.heap.size+1,0,none⟩=some (.string n2)∧w'.cell? ⟨w.heap.size+1,1,none⟩=some (.int .i64 d2)) (go_keep)
  (first | (go_at_call 101;refine (cmpS_any _ _ _).mono ?_;rintro e w' ⟨rfl,rfl⟩) | (go_at_call 102;refine (cmpI_any _ _ _).mono ?_;rintro e w' ⟨rfl,rfl⟩) | (go_at_call 100;refine (or2_any (cmpS n1 n2) (cmpI d1 d2) _ _ ?_ ?_).mono ?_;(go_simp);(go_simp);rintro e w' ⟨rfl,rfl⟩))
 all_goals
  go_wp2
  go_ret
  exact ⟨rfl,(below_a3 _ _ _ _).drew⟩
set_option maxHeartbeats 1000000 in
set_option maxRecDepth 100000 in
theorem choices_any (p1 n1 p2 n2:ByteArray) (d1 d2:Int) (f1 f2:Bool) (w:World) :
  Calls Tryz.prog 65 #[chV p1 n1 d1 f1,chV p2 n2 d2 f2] w fun e w' => e = .returned (.int .i64 (chCmp p1 n1 d1 p2 n2 d2))∧Below w.heap.size w w':=by
 unfold chV chCmp
 go_enter Tryz.func65,Tryz.ntmps65
 go_wp2
 go_region_held3 (fun w' => w'.cell? ⟨w.heap.size,0,none⟩=some (.string p1)∧w'.cell? ⟨w.heap.size,1,none⟩=some (.string n1)∧w'.cell? ⟨w.heap.size,2,none⟩=some (.int .i64 d1)∧w'.cell? ⟨w.heap.size+1,0,none⟩=some (.string p2)∧w'.cell? ⟨w.heap.size+1,1,none⟩=some (.string n2)∧w'.cell? ⟨w.heap.size+1,2,none⟩=some (.int .i64 d2)) (go_keep)
  (first | (go_at_call 101;refine (cmpS_any _ _ _).mono ?_;rintro e w' ⟨rfl,rfl⟩) | (go_at_call 102;refine (cmpI_any _ _ _).mono ?_;rintro e w' ⟨rfl,rfl⟩) | (go_at_call 100;refine (or3_any (cmpS p1 p2) (cmpS n1 n2) (cmpI d1 d2) _ _ ?_ ?_ ?_).mono ?_;(go_simp);(go_simp);(go_simp);rintro e w' ⟨rfl,rfl⟩))
 all_goals
  go_wp2
  go_ret
  exact ⟨rfl,(below_a3 _ _ _ _).drew⟩
end Go.Proofs.YthdeijdimfjceaaGreatDoor

namespace Go.Proofs.YthdeijdimfjceaaGreatDoor
open Go.RowKit
def slashI (s:ByteArray):Int:=Lib.indexByte (bl s) 47
set_option maxHeartbeats 400000 in
set_option maxRecDepth 100000 in
theorem indexByte_slash (s:ByteArray) (w:World) :
  Calls Tryz.prog 166 #[.string s,.int .u8 47] w fun e w' => e = .returned (.int .i64 (slashI s))∧w=w':=by
 have hr:=fun w => Lib.run_indexByteString (P:=Tryz.prog) s 47 w
 have e:Lib.indexByte s.data.toList (47:Int).toNat.toUInt8=slashI s:=rfl
 rw [e] at hr
 clear e
 go_enter Tryz.func166,Tryz.ntmps166
 go_wp2
 rw [run_callFunc_extern Tryz.func175 (by kernel_rfl) (by kernel_rfl) (by kernel_rfl) (e:=Extern.BytealgIndexByte.indexByte) (by kernel_rfl),hr]
 simp only [Result.andThen]
 rw [Oper.upon_value]
 go_wp2
 go_ret
 exact ⟨rfl,rfl⟩
set_option maxHeartbeats 400000 in
set_option maxRecDepth 200000 in
theorem index_slash (s:ByteArray) (w:World) :
  Calls Tryz.prog 155 #[.string s,.string ⟨#[47]⟩] w fun e w' => e = .returned (.int .i64 (slashI s))∧w=w':=by
 have hs:(⟨#[47]⟩:ByteArray).size=1:=rfl
 have h0:(⟨#[47]⟩:ByteArray)[0]=47:=rfl
 go_enter Tryz.func155,Tryz.ntmps155
 go_wp2_with fail
 ·have h1:([47] == s.toList)=true:=by assumption
  have h2:slashI s=0:=by
   have e:[47]=bl s:=by show [47]=s.data.toList;rw [← Lib.toList_data];exact eq_of_beq h1
   rw [slashI,← e];rfl
  go_ret
  exact ⟨by rw [h2];rfl,rfl⟩
 ·refine (indexByte_slash s _).mono ?_
  rintro e w' ⟨rfl,rfl⟩
  go_wp2
  go_ret
  exact ⟨rfl,rfl⟩
theorem slash_none {s:ByteArray} (h:slashI s = -1):∀ k:Nat,(bl s)[k]? ≠ some 47:=Lib.indexByte_none h
theorem slash_some {s:ByteArray} {o:Nat} (h:slashI s=o):(bl s)[o]? = some 47∧∀ k:Nat,k < o→(bl s)[k]? ≠ some 47:=Lib.indexByte_some h
theorem slash_cases (s:ByteArray):slashI s = -1∨∃ o:Nat,slashI s=o∧o < s.size:=by
 have h:=Lib.indexByte_ge (bl s) 47
 by_cases h0:slashI s = -1
 ·exact .inl h0
 ·refine .inr ⟨(slashI s).toNat,?_,?_⟩
  ·have : -1≤slashI s:=h
   omega
  ·have e:slashI s=((slashI s).toNat:Int):=by have : -1≤slashI s:=h;omega
   have h2:=(slash_some e).1
   have:=(List.getElem?_eq_some_iff.1 h2).1
   rw [bl_length] at this
   exact this
def CutPost (w:World) (a b:ByteArray) (f:Bool) (e:Ending) (w':World):Prop:=e = .returned (.tuple #[.string a,.string b,.bool f])∧∃ n,w'=w.drewN n
set_option maxHeartbeats 400000 in
set_option maxRecDepth 100000 in
theorem cut0_none (s:ByteArray) (w:World) (h:slashI s = -1) :
  Calls Tryz.prog 124 #[.string s,.string ⟨#[47]⟩] w (CutPost w s ⟨#[]⟩ false):=by
 have C:=index_slash s w
 rw [h] at C
 have HC:=Lib.hid C
 clear C h
 go_enter Tryz.func124,Tryz.ntmps124
 go_wp2_with fail
 refine HC.out.mono ?_
 rintro e w' ⟨rfl,rfl⟩
 go_wp2
 go_ret3
 exact ⟨rfl,0,rfl⟩
set_option maxHeartbeats 400000 in
set_option maxRecDepth 100000 in
theorem cut0_some (s:ByteArray) (w:World) (o:Nat) (h:slashI s=o) (ho:o < s.size) (hs:s.size≤4611686018427387904) :
  Calls Tryz.prog 124 #[.string s,.string ⟨#[47]⟩] w (CutPost w (s.extract 0 o) (s.extract (o+1) s.size) true):=by
 have C:=index_slash s w
 rw [h] at C
 have HC:=Lib.hid C
 clear C h
 have hb:(⟨#[47]⟩:ByteArray).size=1:=rfl
 have x1:IntKind.i64.wrap ((o:Int)+1)=(o:Int)+1:=IntWalk.i64_in _ (by omega)
 have t1:((o:Int)+1).toNat=o+1:=by omega
 have k1:(0:Int)≤(o:Int)+1:=by omega
 have k2:(o:Int)+1≤(s.size:Int):=by omega
 have k3:(o:Int)≤(s.size:Int):=by omega
 go_enter Tryz.func124,Tryz.ntmps124
 go_wp2_with fail
 refine HC.out.mono ?_
 rintro e w' ⟨rfl,rfl⟩
 go_wp2_with fail
 go_quiet (fail)
 go_wp2
 go_ret3
 exact ⟨rfl,_,rfl⟩
set_option maxHeartbeats 400000 in
set_option maxRecDepth 100000 in
theorem cut_of (s a b:ByteArray) (f:Bool) (w:World) (C:∀ W,Calls Tryz.prog 124 #[.string s,.string ⟨#[47]⟩] W (CutPost W a b f)) :
  Calls Tryz.prog 103 #[.string s,.string ⟨#[47]⟩] w (CutPost w a b f):=by
 have HC:=Lib.hid C
 clear C
 go_enter Tryz.func103,Tryz.ntmps103
 go_wp2_with fail
 refine (HC.out _).mono ?_
 rintro e w' ⟨rfl,n,rfl⟩
 go_wp2
 go_ret3
 exact ⟨rfl,n,rfl⟩
set_option maxHeartbeats 400000 in
set_option maxRecDepth 100000 in
theorem split_of (s a b:ByteArray) (f:Bool) (w:World) (C:∀ W,Calls Tryz.prog 103 #[.string s,.string ⟨#[47]⟩] W (CutPost W a b f)) :
  Calls Tryz.prog 67 #[.string s] w (CutPost w a b f):=by
 have HC:=Lib.hid C
 clear C
 go_enter Tryz.func67,Tryz.ntmps67
 go_wp2_with fail
 refine (HC.out _).mono ?_
 rintro e w' ⟨rfl,n,rfl⟩
 go_wp2
 go_ret3
 exact ⟨rfl,n,rfl⟩
theorem split_none (s:ByteArray) (w:World) (h:slashI s = -1):Calls Tryz.prog 67 #[.string s] w (CutPost w s ⟨#[]⟩ false) :=
 split_of s _ _ _ w fun W => cut_of s _ _ _ W fun W' => cut0_none s W' h
theorem split_some (s:ByteArray) (w:World) (o:Nat) (h:slashI s=o) (ho:o < s.size) (hs:s.size≤4611686018427387904):Calls Tryz.prog 67 #[.string s] w (CutPost w (s.extract 0 o) (s.extract (o+1) s.size) true) :=
 split_of s _ _ _ w fun W => cut_of s _ _ _ W fun W' => cut0_some s W' o h ho hs
end Go.Proofs.YthdeijdimfjceaaGreatDoor

namespace Go.Proofs.YthdeijdimfjceaaGreatDoor
def dig10F:Nat→Nat→List Nat
 | 0,_ => []
 | k+1,n => if n=0 then [] else n % 10 :: dig10F k (n / 10)
def dig10 (n:Nat):List Nat:=dig10F n n
theorem dig10F_ok (k:Nat):∀ n,n≤k→Nrm 10 (dig10F k n)∧val 10 (dig10F k n)=n:=by
 induction k with
 | zero => intro n h; obtain rfl : n = 0 := by omega
           exact ⟨Nrm.nil _,rfl⟩
 | succ k ih =>
  intro n h
  rw [dig10F]
  by_cases h0:n=0
  ·rw [if_pos h0,h0];exact ⟨Nrm.nil _,rfl⟩
  ·rw [if_neg h0]
   obtain ⟨i1,i2⟩:=ih (n / 10) (by omega)
   refine ⟨⟨fun x hx => ?_,?_⟩,by simp only [val,i2];omega⟩
   ·rcases List.mem_cons.1 hx with rfl | hx
    ·omega
    ·exact i1.1 x hx
   ·cases hd:dig10F k (n / 10) with
    | nil =>
     rw [hd] at i2
     simp [val] at i2
     simp;omega
    | cons y ys =>
     have:=i1.2
     rw [hd] at this
     simpa [List.getLast?_cons_cons] using this
theorem dig10_nrm (n:Nat):Nrm 10 (dig10 n):=(dig10F_ok n n (Nat.le_refl _)).1
theorem dig10_val (n:Nat):val 10 (dig10 n)=n:=(dig10F_ok n n (Nat.le_refl _)).2
theorem dig10_of {D:List Nat} (h:Nrm 10 D):dig10 (val 10 D)=D:=Nrm.inj (by decide) (dig10_nrm _) h (dig10_val _)
theorem dig10_ne {n:Nat} (h:n ≠ 0):dig10 n ≠ []:=fun e => by have:=dig10_val n;rw [e] at this;exact h this.symm
theorem dig10_le {n k:Nat} (h:n < 10 ^ k):(dig10 n).length≤k:=(dig10_nrm n).length_le (by decide) k (by rw [dig10_val];exact h)
def asc (ds:List Nat):List UInt8:=ds.map fun d => UInt8.ofNat (48+d)
def istr (neg:Bool) (n:Nat):List UInt8:=if n=0 then [48] else (if neg then [45] else []) ++ asc (dig10 n).reverse
def wStr (neg:Bool) (n:Nat):List UInt8:=if 1000 < (dig10 n).length then [] else istr neg n
def wErr (n:Nat):Int:=if 1000 < (dig10 n).length then 14 else 0
def GInv (D:List Nat) (b:Nat) (xs:List Nat) (k:Nat):Prop:=D.length=9 * k∧Dig 10 D∧val 10 D=val b (xs.take k)
end Go.Proofs.YthdeijdimfjceaaGreatDoor
