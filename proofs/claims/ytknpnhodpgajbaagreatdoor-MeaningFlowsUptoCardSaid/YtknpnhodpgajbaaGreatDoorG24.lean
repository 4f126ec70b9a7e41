/- A part. -/
import Derived.Test.YtknpnhodpgajbaaGreatDoorG23
import Derived.IntWalk
set_option maxHeartbeats 8000000
set_option maxRecDepth 100000
namespace Go.Proofs.YtknpnhodpgajbaaGreatDoor
open Go.RowKit
theorem Zwg (xs:List Nat) (dx:Dig 10 xs):istr true (val 10 xs)=if (Zan xs).length=0 then [48] else 45 :: asc (Zan xs).reverse:=by
 have e:=Zl5 xs dx;by_cases h:(Zan xs).length=0
 ·rw [if_pos h] at e ⊢;have h0:val 10 xs=0:=by rw [← Zay,List.eq_nil_of_length_eq_zero h];rfl
  rw [h0];rfl
 ·rw [if_neg h] at e ⊢;have h0:val 10 xs ≠ 0:=fun h0=>h (by
   have hN:Nrm 10 (Zan xs):=Za6 dx;rw [(hN.val_zero (by decide)).1 (by rw [Zay];exact h0)];rfl)
  rw [istr,if_neg h0] at e ⊢;simpa using e
theorem Z0d (a:Value) (xs:List Nat) (w:World) (ha:Sl w a 1 xs.length (nums .i64 xs)) (dx:Dig 10 xs) (lx:xs.length≤1000000) :
  Calls Tryz.prog 181 #[a,.bool true] w (Zji w (istr true (val 10 xs))):=by
 obtain ⟨i0,hi,hz0,hz1,hz2⟩:=info_parts Tryz.info_u8;obtain ⟨ad,ca,rfl,h1,h3⟩:=ha.nums;have HI:=Lh (Zwg xs dx);have HT:=Lh (Zak xs);have hTd:Dig 10 (Zan xs):=(Za6 dx).1;clear ha;go_enter Tryz.func181,Tryz.ntmps181
 go_upto_block 0 with fail
 go_cut [5] from 10 to 21 (fun n wc=>n = .int .i64 ((Zan xs).length:Nat)∧Hid (wc=w))
 case first =>
  go_wp2_with fail;go_loopw [5] (fun n wr=>∃ k:Nat,k≤xs.length∧n = .int .i64 k∧Hid (Zan (xs.take k)=Zan xs)∧Hid (wr=w))
   (fun n _=>(intOf n).toNat)
  case atStart=>exact ⟨xs.length,Nat.le_refl _,rfl,by show _=_;rw [List.take_of_length_le (Nat.le_refl _)],rfl⟩
  case round =>
   obtain ⟨k,hk,rfl,Hv,hw⟩:=hrel;obtain rfl:=hw.out;by_cases h0:0 < k
   ·obtain ⟨k,rfl⟩:∃ k',k=k'+1:=⟨k - 1,by omega⟩
    obtain ⟨b,off,rfl,hc⟩:=h3.resolve_left (by omega);have hck:=hc k (by omega);clear hc h3;by_cases hz:xs.getD k 0=0
    ·have Hv2:Hid (Zan (xs.take k)=Zan xs):=by
      show _=_;rw [← Hv.out,Zco xs k (by omega) hz]
     rw [hz] at hck;clear hz;go_wp2;go_roundw
     case rel=>exact ⟨k,by omega,by go_num,Hv2,by first | exact rfl | exact trivial⟩
     case measure=>simp [intOf]
    ·have hl:Hid ((Zan xs).length=k+1):=by
      show _=_;rw [← Hv.out,Zdq xs k (by omega) hz,List.length_take];omega
     obtain ⟨y,hy⟩:∃ y,xs.getD k 0=y:=⟨_,rfl⟩
     rw [hy] at hck hz;have hyb:((y:Int) == 0)=false:=by rw [beq_eq_false_iff_ne];omega
     clear hy;go_wp2;go_meet
     exact ⟨by rw [hl.out];first | done | (congr 1;done) | (congr 1;omega) | simp,by first | exact rfl | exact trivial⟩
   ·obtain rfl:k=0:=by omega
    have hl:Hid ((Zan xs).length=0):=by show _=_;rw [← Hv.out];rfl
    go_wp2;go_meet
    exact ⟨by rw [hl.out];first | done | (congr 1;done) | (congr 1;omega) | simp,by first | exact rfl | exact trivial⟩
 case rest =>
  obtain ⟨rfl,hw⟩:=hcut;have hW:=hw.out.symm;subst hW;obtain ⟨T,hT⟩:∃ T,Zan xs=T:=⟨_,rfl⟩
  rw [hT] at HI HT hTd ⊢;obtain ⟨L,hL⟩:∃ L,T.length=L:=⟨_,rfl⟩
  rw [hL] at HI HT ⊢;have HL:=Lh hL;have hLx:L≤xs.length:=HT.out.2;clear hT hL;by_cases hL0:L=0
  ·have HF:Hid (istr true (val 10 xs)=[48]):=by show _=_;rw [HI.out,if_pos hL0]
   subst hL0;go_wp2;go_ret;exact ⟨_,rfl,by rw [HF.out];rfl,Below.refl _ _⟩
  ·have HF:Hid (istr true (val 10 xs)=45 :: asc T.reverse):=by show _=_;rw [HI.out,if_neg hL0]
   have hLb:((L:Int) == 0)=false:=by rw [beq_eq_false_iff_ne];omega
   obtain ⟨b,off,rfl,hc⟩:=h3.resolve_left (by omega);go_wp2_with (at_builtin;refine wpList_append_own _ rfl _ _ 203 rfl w.heap.size 5 i0 (.int .u8 0) 1 1 Tryz.ul_bytes hi hz0 hz1 hz2 rfl (by decide) _ _ _ rfl (World.ownsRow_nil _ _ _ _) ⟨w.heap.size,0,none⟩ 1 1 [_] rfl rfl (cell_one_new _ _ _) (Zas _ _) (by unfold maxLen;omega) (by omega) (by simp) ?_);intro v1 w1 hown1 hgrow1 _;have hbel1:Below w.heap.size w w1:=((Below.refl _ _).alloc (Nat.le_refl _) _).grown hgrow1 (by simp) (fun k hk=>by cases hk)
   have hown1':w1.ownsRow w.heap.size 5 1 v1 1 (nums .u8 [45]):=by simpa [nums] using hown1
   obtain ⟨ad1,cap1,rfl,_⟩:=Sl.of_owns hown1';clear hgrow1 hown1;go_wp2_with fail;go_loopw [6,7] (fun t i wr=>∃ (k:Nat) (adb:Option Addr) (capb:Nat),k≤L∧i = .int .i64 (k - 1)∧t = .slice adb (L - k+1) capb ∧
     wr.ownsRow w.heap.size 5 1 (.slice adb (L - k+1) capb) (L - k+1) (nums .u8 (45 :: asN (T.drop k).reverse))∧Below w.heap.size w wr)
    (fun _ i _=>(intOf i+1).toNat)
   case atStart=>exact ⟨L,ad1,cap1,Nat.le_refl _,by go_num,by rw [Nat.sub_self],by rw [Nat.sub_self,List.drop_of_length_le (by rw [HL.out];exact Nat.le_refl _)];exact hown1',hbel1⟩
   case round =>
    clear hown1' hbel1;obtain ⟨k,adb,capb,hk,rfl,rfl,hown,hbel⟩:=hrel;by_cases h0:0 < k
    ·obtain ⟨k,rfl⟩:∃ k',k=k'+1:=⟨k - 1,by omega⟩
     have e1:((k+1:Nat):Int) - 1=(k:Int):=by omega
     rw [e1];have hck:=cell_later hbel (hc k (by omega));have hd9:=hTd.at (show 0 < 10 by decide) k;have hxk:xs.getD k 0=T.getD k 0:=by
      have e:=HT.out.1;have h2:=HL.out;rw [e];simp only [List.getD];rw [List.getElem?_take,if_pos (by omega)]
     rw [hxk] at hck;have Hcons:Hid ((T.drop k).reverse=(T.drop (k+1)).reverse ++ [T.getD k 0]):=by
      show _=_;rw [List.drop_eq_getElem_cons (by rw [HL.out];omega),List.reverse_cons];congr 2
      have h2:=HL.out;simp [List.getD,show k < T.length by omega]
     obtain ⟨d,hd⟩:∃ d,T.getD k 0=d:=⟨_,rfl⟩
     rw [hd] at hck hd9 Hcons;clear hd hxk;have hsz:=hbel.size;have x1:IntKind.u8.wrap (48+(d:Int))=((48+d:Nat):Int):=by rw [IntWalk.u8_in _ (by omega)];omega
     obtain ⟨N,hN⟩:∃ N,L - (k+1)=N:=⟨_,rfl⟩
     have hN1:L - k=N+1:=by omega
     have hNb:N≤1000000:=by omega
     have HN1:=Lh hN1;rw [hN] at hown ⊢;clear hN hN1;go_wp2_with (at_builtin;refine wpList_append_own _ rfl _ _ 203 rfl w.heap.size 5 i0 (.int .u8 0) 1 1 Tryz.ul_bytes hi hz0 hz1 hz2 rfl (by decide) _ _ _ rfl (hown.alloc _) ⟨wr.heap.size,0,none⟩ 1 1 [_] rfl rfl (cell_one_new _ _ _) (Zas _ _) ?d1 ?d2 ?d3 ?_)
     case d1=>unfold maxLen;omega
     case d2=>omega
     case d3=>simp;omega
     intro v2 w2 hown2 hgrow2 _;have hbel2:Below w.heap.size w w2:=(hbel.alloc hsz _).grown hgrow2 (by simp;omega) (fun k hk=>(hown.lt k hk).1);have ed:(48:Int)+(d:Int)=((48+d:Nat):Int):=by omega
     try rw [ed] at hown2
     rw [Za1,List.cons_append,Zmq,← Hcons.out,← HN1.out] at hown2;obtain ⟨ad3,cap3,rfl,_⟩:=Sl.of_owns hown2;clear hgrow2 hown hbel;go_wp2;go_roundw
     case rel=>exact ⟨k,ad3,cap3,by omega,by go_num,rfl,hown2,hbel2⟩
     case measure=>simp [intOf]
    ·obtain rfl:k=0:=by omega
     rw [Nat.sub_zero] at hown ⊢;rw [List.drop_zero] at hown;obtain ⟨g,cg,hform,_,_,_⟩:=Zep hown (by omega)
     cases hform
     have hlen:(45 :: asN T.reverse).length=L+1:=by rw [List.length_cons,Zfb,List.length_reverse,HL.out]
     have hcv:=run_convert_bytes_back (P:=Tryz.prog) wr 203 99 5 ⟨g,0,none⟩ capb ((45 :: asN T.reverse).map UInt8.ofNat) Tryz.ul_bytes Tryz.ul_u8 Tryz.ul_Int
      (Zfm hown hlen (fun x hx=>by
       rcases List.mem_cons.1 hx with rfl | hx
       ·decide
       obtain ⟨y,hy,rfl⟩:=List.mem_map.1 hx;have:=hTd y (List.mem_reverse.1 hy);omega))
     rw [List.length_map,hlen] at hcv;obtain ⟨ll,hll⟩:∃ ll,(45 :: asN T.reverse).map UInt8.ofNat=ll:=⟨_,rfl⟩
     rw [hll] at hcv;have HE:=Lh (show bl ⟨ll.toArray⟩=istr true (val 10 xs) by
      rw [HF.out,Zyj,← hll];simp [asN,asc])
     clear hll hown;go_wp2;go_ret;exact ⟨_,rfl,HE.out,hbel⟩
theorem Zjq (neg:Bool) (a:Value) (xs:List Nat) (w:World) (ha:Sl w a 1 xs.length (nums .i64 xs)) (dx:Dig 10 xs) (lx:xs.length≤1000000) :
  Calls Tryz.prog 181 #[a,.bool neg] w (Zji w (istr neg (val 10 xs))):=by
 cases neg
 ·exact Zsy a xs w ha dx lx
 ·exact Z0d a xs w ha dx lx
theorem Zuo (A Bv O P x y c d r:Nat) (h:O+c * P=A+Bv) (hd:d+r * 10=x+y+c):(O+P * d)+r * (P * 10)=(A+P * x)+(Bv+P * y):=by
 have e1:P * (d+r * 10)=P * (x+y+c):=by rw [hd]
 rw [Nat.mul_add,Nat.mul_add,Nat.mul_add] at e1;have e2:P * (r * 10)=r * (P * 10):=by rw [← Nat.mul_assoc,← Nat.mul_assoc,Nat.mul_comm P r]
 rw [e2] at e1;rw [Nat.mul_comm c P] at h;omega
def Zcq (xs ys o:List Nat) (k c:Nat):Prop :=
 o.length=k∧Dig 10 o∧val 10 o+c * 10 ^ k=val 10 (xs.take k)+val 10 (ys.take k)
theorem Zcq.start (xs ys:List Nat):Zcq xs ys [] 0 0:=⟨rfl,Dig.nil _,by simp [val]⟩
theorem Zcq.step {xs ys o:List Nat} {k c d r:Nat} (h:Zcq xs ys o k c) (hd:d < 10) (e:d+r * 10=xs.getD k 0+ys.getD k 0+c):Zcq xs ys (o ++ [d]) (k+1) r:=by
 obtain ⟨h1,h2,h3⟩:=h;refine ⟨by simp [h1],h2.snoc hd,?_⟩;rw [Zam,Zam,Zdr,h1,Nat.pow_succ];exact Zuo _ _ _ _ _ _ _ _ _ h3 e
theorem Zcq.fin {xs ys o:List Nat} {m c:Nat} (h:Zcq xs ys o (m+1) c) (dx:Dig 10 xs) (dy:Dig 10 ys) (h1:xs.length≤m) (h2:ys.length≤m):val 10 o=val 10 xs+val 10 ys:=by
 obtain ⟨_,_,h3⟩:=h;rw [List.take_of_length_le (by omega),List.take_of_length_le (by omega)] at h3;have a:=Nat.lt_of_lt_of_le (Zc2 dx) (Nat.pow_le_pow_right (by decide) h1);have b:=Nat.lt_of_lt_of_le (Zc2 dy) (Nat.pow_le_pow_right (by decide) h2);rw [Nat.pow_succ] at h3;generalize 10 ^ m=P at a b h3;rcases Nat.eq_zero_or_pos c with rfl | hc
 ·omega
 ·have:P * 10≤c * (P * 10):=Nat.le_mul_of_pos_left _ hc
  omega
theorem Zzz (a b:Value) (xs ys:List Nat) (w:World) (ha:Sl w a 1 xs.length (nums .i64 xs)) (hb:Sl w b 1 ys.length (nums .i64 ys))
  (dx:Dig 10 xs) (dy:Dig 10 ys) (lx:xs.length≤100000) (ly:ys.length≤100000) (hle:xs.length < ys.length) :
  Calls Tryz.prog 200 #[a,b] w fun e w'=>∃ v rs,e = .returned v∧Zhm w w' v rs∧rs.length≤xs.length+ys.length+1∧val 10 rs=val 10 xs+val 10 ys:=by
 obtain ⟨i0,hi,hz0,hz1,hz2⟩:=info_parts Tryz.info_int;obtain ⟨ad,ca,rfl,_⟩:=id ha;obtain ⟨bd,cb,rfl,_⟩:=id hb;have HA:=Lh (fun W (hW:Below w.heap.size w W) k=>Zec _ xs k W (ha.below hW) (by omega));have HB:=Lh (fun W (hW:Below w.heap.size w W) k=>Zec _ ys k W (hb.below hW) (by omega));have Hdx:=Lh dx;have Hdy:=Lh dy;clear ha hb dx dy;go_enter Tryz.func200,Tryz.ntmps200
 go_wp2_with fail;go_loopw [5,6,7] (fun o c i wr=>∃ (k b1:Nat) (os:List Nat) (adb:Option Addr) (capb:Nat),k≤ys.length+1∧b1≤1∧i = .int .i64 k∧c = .int .i64 b1∧o = .slice adb k capb ∧
   wr.ownsRow w.heap.size 3 1 (.slice adb k capb) k (nums .i64 os)∧Hid (Zcq xs ys os k b1)∧Below w.heap.size w wr)
  (fun _ _ i _=>ys.length+1 - (intOf i).toNat)
 case atStart=>exact ⟨0,0,[],none,0,Nat.zero_le _,by omega,rfl,rfl,rfl,World.ownsRow_nil _ _ _ _,Zcq.start _ _,Below.refl _ _⟩
 case round =>
  obtain ⟨k,b1,os,adb,capb,hk,hb1,rfl,rfl,rfl,hown,Hinv,hbel⟩:=hrel;by_cases hlt:k≤ys.length
  ·have hx9:=Hdx.out.at (by decide) k;have hy9:=Hdy.out.at (by decide) k;have HAk:=Lh (HA.out wr hbel k);have HBk:=Lh (HB.out wr hbel k);obtain ⟨x,hx⟩:∃ x,x=xs.getD k 0:=⟨_,rfl⟩
   obtain ⟨y,hy⟩:∃ y,y=ys.getD k 0:=⟨_,rfl⟩
   rw [← hx] at hx9 HAk;rw [← hy] at hy9 HBk;have Hx:=Lh hx;clear hx;have Hy:=Lh hy;clear hy;have hsz:=hbel.size;have tm:decide ((k:Int)≤(ys.length:Int))=true:=by rw [decide_eq_true_eq];omega
   go_wp2_with fail;refine HAk.out.mono ?_;rintro e w1 ⟨rfl,rfl⟩;go_wp2_with fail;refine HBk.out.mono ?_;rintro e w1 ⟨rfl,rfl⟩;go_wp2_with (at_builtin;refine wpList_append_own _ rfl _ _ 26 rfl w.heap.size 3 i0 (.int .i64 0) 1 8 Tryz.ul_ints hi hz0 hz1 hz2 rfl (by decide) _ _ _ rfl (hown.alloc _) ⟨wr.heap.size,0,none⟩ 1 1 [_] rfl rfl (cell_one_new _ _ _) (Zas _ _) ?d1 ?d2 ?d3 ?_)
   case d1=>unfold maxLen;omega
   case d2=>omega
   case d3=>simp;omega
   intro v2 w2 hown2 hgrow2 _;have hbel2:Below w.heap.size w w2:=(hbel.alloc hsz _).grown hgrow2 (by simp;omega) (fun k hk=>(hown.lt k hk).1);have ed:((x:Int)+y+b1) % 10=(((x+y+b1) % 10:Nat):Int):=by omega
   rw [ed,Za1] at hown2;have HI:Hid (Zcq xs ys (os ++ [(x+y+b1) % 10]) (k+1) ((x+y+b1) / 10)):=Hinv.out.step (Nat.mod_lt _ (by decide)) (by rw [← Hx.out,← Hy.out];omega);obtain ⟨ad3,cap3,rfl,_⟩:=Sl.of_owns hown2;clear hgrow2 hown hbel ed;go_wp2;go_roundw
   case rel=>exact ⟨k+1,(x+y+b1) / 10,_,ad3,cap3,by omega,by omega,by go_num,by go_num,rfl,hown2,HI,hbel2⟩
   case measure=>simp [intOf];omega
  ·obtain rfl:k=ys.length+1:=by omega
   have HF:=Lh (Hinv.out.fin Hdx.out Hdy.out (by omega) (by omega));have hos:=Hinv.out.1;have Hdig:=Lh Hinv.out.2.1;rw [← hos] at hown;have HO:Hid (Zhm w wr (.slice adb os.length capb) os):=⟨hown,Hdig.out,hbel⟩
   rw [hos] at HO;have Hos:=Lh hos;have tm:decide ((((ys.length+1:Nat)):Int)≤(ys.length:Int))=false:=by rw [decide_eq_false_iff_not];omega
   have tm' : ¬ (ys.length:Int)+1≤(ys.length:Int):=by omega
   clear hown hos hbel;go_wp2;go_ret;exact ⟨_,rfl,os,HO.out,by rw [Hos.out];omega,HF.out⟩
theorem Zzy (a b:Value) (xs ys:List Nat) (w:World) (ha:Sl w a 1 xs.length (nums .i64 xs)) (hb:Sl w b 1 ys.length (nums .i64 ys))
  (dx:Dig 10 xs) (dy:Dig 10 ys) (lx:xs.length≤100000) (ly:ys.length≤100000) (hle:ys.length≤xs.length) :
  Calls Tryz.prog 200 #[a,b] w fun e w'=>∃ v rs,e = .returned v∧Zhm w w' v rs∧rs.length≤xs.length+ys.length+1∧val 10 rs=val 10 xs+val 10 ys:=by
 obtain ⟨i0,hi,hz0,hz1,hz2⟩:=info_parts Tryz.info_int;obtain ⟨ad,ca,rfl,_⟩:=id ha;obtain ⟨bd,cb,rfl,_⟩:=id hb;have HA:=Lh (fun W (hW:Below w.heap.size w W) k=>Zec _ xs k W (ha.below hW) (by omega));have HB:=Lh (fun W (hW:Below w.heap.size w W) k=>Zec _ ys k W (hb.below hW) (by omega));have Hdx:=Lh dx;have Hdy:=Lh dy;clear ha hb dx dy;go_enter Tryz.func200,Tryz.ntmps200
 go_wp2_with fail;go_loopw [5,6,7] (fun o c i wr=>∃ (k b1:Nat) (os:List Nat) (adb:Option Addr) (capb:Nat),k≤xs.length+1∧b1≤1∧i = .int .i64 k∧c = .int .i64 b1∧o = .slice adb k capb ∧
   wr.ownsRow w.heap.size 3 1 (.slice adb k capb) k (nums .i64 os)∧Hid (Zcq xs ys os k b1)∧Below w.heap.size w wr)
  (fun _ _ i _=>xs.length+1 - (intOf i).toNat)
 case atStart=>exact ⟨0,0,[],none,0,Nat.zero_le _,by omega,rfl,rfl,rfl,World.ownsRow_nil _ _ _ _,Zcq.start _ _,Below.refl _ _⟩
 case round =>
  obtain ⟨k,b1,os,adb,capb,hk,hb1,rfl,rfl,rfl,hown,Hinv,hbel⟩:=hrel;by_cases hlt:k≤xs.length
  ·have hx9:=Hdx.out.at (by decide) k;have hy9:=Hdy.out.at (by decide) k;have HAk:=Lh (HA.out wr hbel k);have HBk:=Lh (HB.out wr hbel k);obtain ⟨x,hx⟩:∃ x,x=xs.getD k 0:=⟨_,rfl⟩
   obtain ⟨y,hy⟩:∃ y,y=ys.getD k 0:=⟨_,rfl⟩
   rw [← hx] at hx9 HAk;rw [← hy] at hy9 HBk;have Hx:=Lh hx;clear hx;have Hy:=Lh hy;clear hy;have hsz:=hbel.size;have tm:decide ((k:Int)≤(xs.length:Int))=true:=by rw [decide_eq_true_eq];omega
   go_wp2_with fail;refine HAk.out.mono ?_;rintro e w1 ⟨rfl,rfl⟩;go_wp2_with fail;refine HBk.out.mono ?_;rintro e w1 ⟨rfl,rfl⟩;go_wp2_with (at_builtin;refine wpList_append_own _ rfl _ _ 26 rfl w.heap.size 3 i0 (.int .i64 0) 1 8 Tryz.ul_ints hi hz0 hz1 hz2 rfl (by decide) _ _ _ rfl (hown.alloc _) ⟨wr.heap.size,0,none⟩ 1 1 [_] rfl rfl (cell_one_new _ _ _) (Zas _ _) ?d1 ?d2 ?d3 ?_)
   case d1=>unfold maxLen;omega
   case d2=>omega
   case d3=>simp;omega
   intro v2 w2 hown2 hgrow2 _;have hbel2:Below w.heap.size w w2:=(hbel.alloc hsz _).grown hgrow2 (by simp;omega) (fun k hk=>(hown.lt k hk).1);have ed:((x:Int)+y+b1) % 10=(((x+y+b1) % 10:Nat):Int):=by omega
   rw [ed,Za1] at hown2;have HI:Hid (Zcq xs ys (os ++ [(x+y+b1) % 10]) (k+1) ((x+y+b1) / 10)):=Hinv.out.step (Nat.mod_lt _ (by decide)) (by rw [← Hx.out,← Hy.out];omega);obtain ⟨ad3,cap3,rfl,_⟩:=Sl.of_owns hown2;clear hgrow2 hown hbel ed;go_wp2;go_roundw
   case rel=>exact ⟨k+1,(x+y+b1) / 10,_,ad3,cap3,by omega,by omega,by go_num,by go_num,rfl,hown2,HI,hbel2⟩
   case measure=>simp [intOf];omega
  ·obtain rfl:k=xs.length+1:=by omega
   have HF:=Lh (Hinv.out.fin Hdx.out Hdy.out (by omega) (by omega));have hos:=Hinv.out.1;have Hdig:=Lh Hinv.out.2.1;rw [← hos] at hown;have HO:Hid (Zhm w wr (.slice adb os.length capb) os):=⟨hown,Hdig.out,hbel⟩
   rw [hos] at HO;have Hos:=Lh hos;have tm:decide ((((xs.length+1:Nat)):Int)≤(xs.length:Int))=false:=by rw [decide_eq_false_iff_not];omega
   have tm' : ¬ (xs.length:Int)+1≤(xs.length:Int):=by omega
   clear hown hos hbel;go_wp2;go_ret;exact ⟨_,rfl,os,HO.out,by rw [Hos.out];omega,HF.out⟩
theorem Zxn (a b:Value) (xs ys:List Nat) (w:World) (ha:Sl w a 1 xs.length (nums .i64 xs)) (hb:Sl w b 1 ys.length (nums .i64 ys))
  (dx:Dig 10 xs) (dy:Dig 10 ys) (lx:xs.length≤100000) (ly:ys.length≤100000) :
  Calls Tryz.prog 200 #[a,b] w fun e w'=>∃ v rs,e = .returned v∧Zhm w w' v rs∧rs.length≤xs.length+ys.length+1∧val 10 rs=val 10 xs+val 10 ys:=by
 rcases Nat.lt_or_ge xs.length ys.length with h | h
 ·exact Zzz a b xs ys w ha hb dx dy lx ly h
 ·exact Zzy a b xs ys w ha hb dx dy lx ly h
def Zll (xs ys os:List Nat) (k:Nat):Prop :=
 os.length=xs.length+ys.length∧(∀ i,os.getD i 0≤81 * k)∧val 10 os=val 10 (xs.take k) * val 10 ys
def RTIn (xs ys os:List Nat) (k x j:Nat):Prop :=
 os.length=xs.length+ys.length∧(∀ i,os.getD i 0≤81 * (k+1))∧(∀ i,k+j≤i→os.getD i 0≤81 * k) ∧
  val 10 os=val 10 (xs.take k) * val 10 ys+x * val 10 (ys.take j) * 10 ^ k
theorem Zts (n i:Nat):(List.replicate n 0).getD i 0=0:=by
 simp only [List.getD,List.getElem?_replicate];split <;> rfl
theorem Zll.start (xs ys:List Nat):Zll xs ys (List.replicate (xs.length+ys.length) 0) 0 :=
 ⟨by simp,fun i=>by rw [Zts];omega,by rw [Zpq];simp [val]⟩
theorem Zll.into {xs ys os:List Nat} {k:Nat} (h:Zll xs ys os k) (x:Nat):RTIn xs ys os k x 0 :=
 ⟨h.1,fun i=>by have:=h.2.1 i;omega,fun i _=>h.2.1 i,by rw [h.2.2];simp [val]⟩
theorem Zha (os:List Nat) (i d:Nat) (h:i < os.length):(os.set i d).getD i 0=d:=by simp [List.getD,h]
theorem Zb8 (os:List Nat) (i j d:Nat) (h:i ≠ j):(os.set i d).getD j 0=os.getD j 0:=by simp only [List.getD];rw [List.getElem?_set_ne h]
theorem RTIn.step {xs ys os:List Nat} {k x j y q p:Nat} (h:RTIn xs ys os k x j) (hk:k < xs.length) (hj:j < ys.length) (hy:y=ys.getD j 0) (hq:q=os.getD (k+j) 0) (hp:p=x * y) (h81:p≤81) :
  RTIn xs ys (os.set (k+j) (q+p)) k x (j+1):=by
 obtain ⟨h1,h2,h3,h4⟩:=h;have hl:k+j < os.length:=by omega
 have hq2:=h3 (k+j) (Nat.le_refl _);rw [← hq] at hq2;refine ⟨by simpa using h1,fun i=>?_,fun i hi=>?_,?_⟩
 ·by_cases hi:k+j=i
  ·subst hi;rw [Zha _ _ _ hl];omega
  ·rw [Zb8 _ _ _ _ hi];exact h2 i
 ·rw [Zb8 _ _ _ _ (by omega)];exact h3 i (by omega)
 ·have e1:=Ziv 10 os (k+j) (q+p) hl;rw [← hq,Nat.mul_add] at e1;rw [Zam,← hy];have e4:10 ^ j * 10 ^ k=10 ^ (k+j):=by rw [← Nat.pow_add,Nat.add_comm]
  have e7:x * (val 10 (ys.take j)+10 ^ j * y) * 10 ^ k=x * val 10 (ys.take j) * 10 ^ k+10 ^ (k+j) * p:=by
   rw [← e4,hp];grind
  rw [e7];omega
theorem RTIn.fin {xs ys os:List Nat} {k:Nat} (h:RTIn xs ys os k (xs.getD k 0) ys.length):Zll xs ys os (k+1):=by
 obtain ⟨h1,h2,h3,h4⟩:=h;rw [List.take_of_length_le (Nat.le_refl _)] at h4;refine ⟨h1,h2,?_⟩;rw [h4,Zam,Nat.add_mul];congr 1
 grind
def Zlk (os:List Nat) (N B V k:Nat):Prop :=
 os.length=N∧(∀ i,i < k→os.getD i 0 < 10)∧os.getD k 0≤2 * B∧(∀ i,k < i→os.getD i 0≤B)∧val 10 os=V
theorem Zll.fin {xs ys os:List Nat} {N:Nat} (h:Zll xs ys os xs.length) (hN:N=xs.length+ys.length):Zlk os N (81 * xs.length) (val 10 xs * val 10 ys) 0:=by
 obtain ⟨h1,h2,h3⟩:=h;rw [List.take_of_length_le (Nat.le_refl _)] at h3;exact ⟨by omega,fun i hi=>by omega,by have:=h2 0;omega,fun i _=>h2 i,h3⟩
theorem Zlk.step {os:List Nat} {N B V k q r:Nat} (h:Zlk os N B V k) (hk:k+1 < N) (hq:q=os.getD k 0) (hr:r=os.getD (k+1) 0) :
  Zlk ((os.set (k+1) (r+q / 10)).set k (q % 10)) N B V (k+1):=by
 obtain ⟨h1,h2,h3,h4,h5⟩:=h;have hr2:=h4 (k+1) (by omega);rw [← hr] at hr2;rw [← hq] at h3;refine ⟨by simpa using h1,fun i hi=>?_,?_,fun i hi=>?_,?_⟩
 ·by_cases hik:k=i
  ·subst hik;rw [Zha _ _ _ (by simp;omega)];exact Nat.mod_lt _ (by decide)
  ·rw [Zb8 _ _ _ _ hik,Zb8 _ _ _ _ (by omega)];exact h2 i (by omega)
 ·rw [Zb8 _ _ _ _ (by omega),Zha _ _ _ (by omega)];omega
 ·rw [Zb8 _ _ _ _ (by omega),Zb8 _ _ _ _ (by omega)];exact h4 i (by omega)
 ·have e1:=Ziv 10 os (k+1) (r+q / 10) (by omega);have e2:=Ziv 10 (os.set (k+1) (r+q / 10)) k (q % 10) (by simp;omega);rw [Zb8 _ _ _ _ (by omega),← hq] at e2;rw [← hr,Nat.mul_add] at e1;have e3:=Nat.div_add_mod q 10;have e4:10 ^ k * q=10 ^ k * (10 * (q / 10)+q % 10):=by rw [e3]
  rw [Nat.mul_add,← Nat.mul_assoc] at e4;have e5:10 ^ (k+1)=10 ^ k * 10:=Nat.pow_succ ..;rw [e5] at e1;omega
theorem Zlk.done {os:List Nat} {N B V k:Nat} (h:Zlk os N B V k) (hk:N≤k+1) (hk2:k < N∨N=0) (hV:V < 10 ^ N):Dig 10 os:=by
 obtain ⟨h1,h2,h3,h4,h5⟩:=h;intro x hx;obtain ⟨i,hi⟩:=List.getElem?_of_mem hx;have hil:=(List.getElem?_eq_some_iff.1 hi).1;have e:os.getD i 0=x:=by simp [List.getD,hi]
 rcases hk2 with hk2 | hk2
 ·by_cases hik:i < k
  ·rw [← e];exact h2 i hik
  ·obtain rfl:i=k:=by omega
   have e1:=Zes 10 os i (by omega);have e2:=Zee 10 os i hil;have ed:os.drop (i+1)=[]:=List.drop_of_length_le (by omega);rw [e,ed] at e2;rw [e2] at e1;have e3:10 ^ i * x≤V:=by rw [← h5,e1];simp [val]
   have e4:N=i+1:=by omega
   rw [e4,Nat.pow_succ] at hV;exact Nat.lt_of_mul_lt_mul_left (Nat.lt_of_le_of_lt e3 hV)
 ·omega
theorem Z1z {xs ys:List Nat} (dx:Dig 10 xs) (dy:Dig 10 ys):val 10 xs * val 10 ys < 10 ^ (xs.length+ys.length):=by
 rw [Nat.pow_add];exact Nat.mul_lt_mul'' (Zc2 dx) (Zc2 dy)
def RTP (w:World) (N V:Nat) (e:Ending) (w':World):Prop:=∃ v rs,e = .returned v∧Zhm w w' v rs∧rs.length=N∧val 10 rs=V
def Z2o (w:World) (xs ys:List Nat) (e:Ending) (w':World):Prop :=
 ∃ v rs,e = .returned v∧Zhm w w' v rs∧rs.length=xs.length+ys.length∧val 10 rs=val 10 xs * val 10 ys
theorem Zuu (a b:Value) (xs ys:List Nat) (w:World) (ha:Sl w a 1 xs.length (nums .i64 xs)) (hb:Sl w b 1 ys.length (nums .i64 ys))
  (dx:Dig 10 xs) (dy:Dig 10 ys) (lx:xs.length≤100000) (ly:ys.length≤100000) :
  Calls Tryz.prog 187 #[a,b] w (Z2o w xs ys):=by
 obtain ⟨ad,ca,rfl,h1,h3⟩:=ha.nums;obtain ⟨bd,cb,rfl,h1',h3'⟩:=hb.nums;obtain ⟨i0,hi,hz0,hz1,hz2⟩:=info_parts Tryz.info_int;have Hdx:=Lh dx;have Hdy:=Lh dy;clear ha hb dx dy;obtain ⟨N,hN⟩:∃ N,N=xs.length+ys.length:=⟨_,rfl⟩
 have HN:=Lh hN;have hNl:N≤200000:=by omega
 have hN1:xs.length+ys.length≤N:=by omega
 have hN2:N≤xs.length+ys.length:=by omega
 clear hN;go_enter Tryz.func187,Tryz.ntmps187
 go_upto_block 0 with (at_make;refine wpList_make_full _ rfl _ _ 26 rfl w.heap.size 3 i0 (.int .i64 0) 1 Tryz.ul_ints hi hz0 hz1 _ _ _ _ N rfl rfl ?b0 ?b1 ?b2 ?b3 ?b4 ?_)
 case b0=>rw [HN.out];simp
 case b1=>rw [HN.out];simp
 case b2=>rw [hz2];omega
 case b3=>unfold maxLen;omega
 case b4=>exact Nat.le_refl _
 intro w1 hown hgrow;have hbel:Below w.heap.size w w1:=(Below.refl _ _).grown hgrow (Nat.le_refl _) (by simp);have hown1:w1.ownsRow w.heap.size 3 1 (.slice (some ⟨w.heap.size,0,none⟩) N N) N (nums .i64 (List.replicate (xs.length+ys.length) 0)):=by
  rw [← HN.out];rw [toList_madeCells_one] at hown;simpa [nums] using hown
 clear hgrow hown;go_upto_block 0 with fail
 go_cut [6,7] from 15 to 47 (fun _ _ wc=>∃ os,wc.ownsRow w.heap.size 3 1 (.slice (some ⟨w.heap.size,0,none⟩) N N) N (nums .i64 os)∧Hid (Zlk os N (81 * xs.length) (val 10 xs * val 10 ys) 0)∧Below w.heap.size w wc)
 case first =>
  go_wp2_with fail;go_loopw [6] (fun i wr=>∃ (k:Nat) (os:List Nat),k≤xs.length∧i = .int .i64 k∧wr.ownsRow w.heap.size 3 1 (.slice (some ⟨w.heap.size,0,none⟩) N N) N (nums .i64 os)∧Hid (Zll xs ys os k)∧Below w.heap.size w wr) (fun i _=>xs.length - (intOf i).toNat)
  case atStart=>exact ⟨0,_,Nat.zero_le _,rfl,hown1,Zll.start _ _,hbel⟩
  case round =>
   clear hown1 hbel;obtain ⟨k,os,hk,rfl,hown,Hinv,hbel⟩:=hrel;by_cases hlt:k < xs.length
   ·obtain ⟨b,off,rfl,hc⟩:=h3.resolve_left (by omega);have hck0:=hc k hlt;have hx9:=Hdx.out.at (by decide) k;obtain ⟨x,hx⟩:∃ x,x=xs.getD k 0:=⟨_,rfl⟩
    rw [← hx] at hck0 hx9;have Hx:=Lh hx;clear hx;clear hc h3;obtain ⟨wo,rfl⟩:∃ wo:World,wo=wr:=⟨_,rfl⟩
    go_wp2_with fail;go_loopw [7] (fun i wr=>∃ (j:Nat) (os:List Nat),j≤ys.length∧i = .int .i64 j∧wr.ownsRow w.heap.size 3 1 (.slice (some ⟨w.heap.size,0,none⟩) N N) N (nums .i64 os)∧Hid (RTIn xs ys os k x j)∧Below w.heap.size w wr) (fun i _=>ys.length - (intOf i).toNat)
    case atStart=>exact ⟨0,_,Nat.zero_le _,rfl,hown,Hinv.out.into x,hbel⟩
    case round =>
     clear hown Hinv hbel;obtain ⟨j,os,hj,rfl,hown,Hin,hbel⟩:=hrel;by_cases hjt:j < ys.length
     ·obtain ⟨b',off',rfl,hd⟩:=h3'.resolve_left (by omega);have hdk:=cell_later hbel (hd j hjt);have hck:=cell_later hbel hck0;have hy9:=Hdy.out.at (by decide) j;obtain ⟨y,hy⟩:∃ y,y=ys.getD j 0:=⟨_,rfl⟩
      rw [← hy] at hdk hy9;have Hy:=Lh hy;clear hy;clear hd h3';have hol:os.length=N:=by rw [HN.out];exact Hin.out.1
      have ho9:=Hin.out.2.1 (k+j);have hok:=(hown.cellAt (k+j) (by omega)).trans (Zbn .i64 os (k+j) (by omega));have hfr:=hown.frozenAt (k+j);obtain ⟨q,hq⟩:∃ q,q=os.getD (k+j) 0:=⟨_,rfl⟩
      rw [← hq] at hok ho9;have Hq:=Lh hq;clear hq;have Hol:=Lh hol;clear hol;have hm:x * y≤81:=Nat.mul_le_mul (show x≤9 by omega) (show y≤9 by omega);obtain ⟨p,hp⟩:∃ p,p=x * y:=⟨_,rfl⟩
      have hpi:(x:Int) * (y:Int)=(p:Int):=by rw [hp];simp
      rw [← hp] at hm;have HR:Hid (RTIn xs ys (os.set (k+j) (q+p)) k x (j+1)):=Hin.out.step hlt hjt Hy.out Hq.out hp hm;have Hown:=Lh hown;have Hbel:=Lh hbel;clear hp hown hbel;have w1_:IntKind.i64.wrap ((k:Int)+j)=(k:Int)+j:=IntWalk.i64_in _ (by omega);have w2_:IntKind.i64.wrap ((x:Int) * y)=(p:Int):=by rw [hpi];exact IntWalk.i64_in _ (by omega)
      have w3_:IntKind.i64.wrap ((q:Int)+p)=(q:Int)+p:=IntWalk.i64_in _ (by omega);have w4_:(0:Int)≤(k:Int)+j:=by omega
      have w5_:((k:Int)+j).toNat=k+j:=by omega
      have w6_:(k:Int)+j < (N:Int):=by omega
      clear hpi;go_wp2_with fail;go_still_tail 21,(by kernel_rfl)
      clear w1_ w2_ w3_ w4_ w5_ w6_;change wpList _ _ _ _ _ wr.drew
      obtain ⟨wd,hwd⟩:∃ wd,wd=wr.drew:=⟨_,rfl⟩
      rw [← hwd];have hown:wd.ownsRow w.heap.size 3 1 (.slice (some ⟨w.heap.size,0,none⟩) N N) N (nums .i64 os):=by rw [hwd];exact Zca Hown.out (fun _ _ _=>rfl)
      have hbel:Below w.heap.size w wd:=by rw [hwd];exact Hbel.out.drew
      clear hwd hok hfr hck hdk Hown Hbel;have hok:=(hown.cellAt (k+j) (by have:=Hol.out;omega)).trans (Zbn .i64 os (k+j) (by have:=Hol.out;omega));rw [← Hq.out] at hok;have hfr:=hown.frozenAt (k+j);have est:=hown.stored (k+j) (.int .i64 ((q:Int)+p));have hbel2:=hbel.grown est.2 hbel.size (by intro k hk;simp at hk;omega);have ed:(q:Int)+p=((q+p:Nat):Int):=by omega
      have est1:(wd.setCell ⟨w.heap.size,k+j,none⟩ (.int .i64 ((q:Int)+p))).ownsRow w.heap.size 3 1 (.slice (some ⟨w.heap.size,0,none⟩) N N) N (nums .i64 (os.set (k+j) (q+p))):=by
       have h:=est.1;rw [← Zc4,← ed];exact h
      have Est:=Lh est1;have Hbel2:=Lh hbel2;clear est hbel2 est1 ed hown hbel;go_wp2;go_roundw
      case rel=>exact ⟨j+1,_,by omega,by go_num,Est.out,HR,Hbel2.out⟩
      case measure=>simp [intOf];omega
     ·obtain rfl:j=ys.length:=by omega
      have HR:Hid (Zll xs ys os (k+1)):=by
       have e:=Hin.out;rw [Hx.out] at e;exact e.fin
      go_wp2;go_roundw
      case rel=>exact ⟨k+1,_,by omega,by go_num,hown,HR,hbel⟩
      case measure=>simp [intOf];omega
   ·obtain rfl:k=xs.length:=by omega
    have HF:Hid (Zlk os N (81 * xs.length) (val 10 xs * val 10 ys) 0):=Hinv.out.fin HN.out;go_wp2;go_meet
    exact ⟨os,hown,HF,hbel⟩
 case rest =>
  clear hown1 hbel;obtain ⟨os,hown,HF,hbel⟩:=hcut;have HV:=Lh (Z1z Hdx.out Hdy.out);obtain ⟨V,hVV⟩:∃ V,V=val 10 xs * val 10 ys:=⟨_,rfl⟩
  have HVV:=Lh hVV;rw [← hVV] at HF HV;clear hVV;go_wp2_with fail;go_loopw [8] (fun i wr=>∃ (k:Nat) (os:List Nat),k≤N∧(k < N∨N=0)∧i = .int .i64 k∧wr.ownsRow w.heap.size 3 1 (.slice (some ⟨w.heap.size,0,none⟩) N N) N (nums .i64 os)∧Hid (Zlk os N (81 * xs.length) V k)∧Below w.heap.size w wr) (fun i _=>N - (intOf i).toNat)
  case atStart=>exact ⟨0,os,Nat.zero_le _,by omega,rfl,hown,HF,hbel⟩
  case round =>
   clear hown HF hbel;obtain ⟨k,os,hk,hk2,rfl,hown,Hin,hbel⟩:=hrel;by_cases hlt:k+1 < N
   ·have hol:os.length=N:=Hin.out.1;have hq9:=Hin.out.2.2.1;have hr9:=Hin.out.2.2.2.1 (k+1) (by omega);obtain ⟨q,hq⟩:∃ q,q=os.getD k 0:=⟨_,rfl⟩
    obtain ⟨r,hr⟩:∃ r,r=os.getD (k+1) 0:=⟨_,rfl⟩
    have hok:=(hown.cellAt k (by omega)).trans (Zbn .i64 os k (by omega));have hok1:=(hown.cellAt (k+1) (by omega)).trans (Zbn .i64 os (k+1) (by omega));rw [← hq] at hok hq9;rw [← hr] at hok1 hr9;have HR:Hid (Zlk ((os.set (k+1) (r+q / 10)).set k (q % 10)) N (81 * xs.length) V (k+1)):=Hin.out.step hlt hq hr;have Hol:=Lh hol;clear hol;have Hq:=Lh hq;clear hq;have Hr:=Lh hr;clear hr;have Hown:=Lh hown
    have Hbel:=Lh hbel;have hfr:=hown.frozenAt (k+1);clear hown hbel;have w1_:IntKind.i64.wrap ((k:Int)+1)=(k:Int)+1:=IntWalk.i64_in _ (by omega);have w4_:(0:Int)≤(k:Int)+1:=by omega
    have w5_:((k:Int)+1).toNat=k+1:=by omega
    have w6_:(k:Int)+1 < (N:Int):=by omega
    have w7_:(k:Int) < (N:Int):=by omega
    have w8_:(q:Int).tdiv 10=((q / 10:Nat):Int):=by rw [Int.tdiv_eq_ediv_of_nonneg (by omega)];omega
    have w9_:IntKind.i64.wrap ((q / 10:Nat):Int)=((q / 10:Nat):Int):=IntWalk.i64_in _ (by omega);have w0_:IntKind.i64.wrap ((r:Int)+((q / 10:Nat):Int))=((r+q / 10:Nat):Int):=by rw [IntWalk.i64_in _ (by omega)];omega
    go_wp2_with fail;go_still_tail 15,(by kernel_rfl)
    clear w1_ w4_ w5_ w6_ w7_;change wpList _ _ _ _ _ wr.drew
    obtain ⟨wd,hwd⟩:∃ wd,wd=wr.drew:=⟨_,rfl⟩
    rw [← hwd];have hown:wd.ownsRow w.heap.size 3 1 (.slice (some ⟨w.heap.size,0,none⟩) N N) N (nums .i64 os):=by rw [hwd];exact Zca Hown.out (fun _ _ _=>rfl)
    have hbel:Below w.heap.size w wd:=by rw [hwd];exact Hbel.out.drew
    clear hwd hok hok1 hfr Hown Hbel;have hok:=(hown.cellAt k (by omega)).trans (Zbn .i64 os k (by have:=Hol.out;omega));have hok1:=(hown.cellAt (k+1) (by omega)).trans (Zbn .i64 os (k+1) (by have:=Hol.out;omega));rw [← Hq.out] at hok;rw [← Hr.out] at hok1;have hfr:=hown.frozenAt (k+1);have hfr0:=hown.frozenAt k;have e1:=hown.stored (k+1) (.int .i64 ((r:Int)+(q:Int) / 10));have e2:=e1.1.stored k (.int .i64 ((q:Int) % 10))
    have hb2:=(hbel.grown e1.2 hbel.size (by intro k hk;simp at hk;omega)).grown e2.2 (by simpa using hbel.size) (by intro k hk;simp at hk;omega);have HO:Hid (((wd.setCell ⟨w.heap.size,k+1,none⟩ (.int .i64 ((r:Int)+(q:Int) / 10))).setCell ⟨w.heap.size,k,none⟩ (.int .i64 ((q:Int) % 10))).ownsRow w.heap.size 3 1 (.slice (some ⟨w.heap.size,0,none⟩) N N) N (nums .i64 ((os.set (k+1) (r+q / 10)).set k (q % 10)))):=by
     show _;have h:=e2.1;have ea:(r:Int)+(q:Int) / 10=((r+q / 10:Nat):Int):=by omega
     have eb:(q:Int) % 10=((q % 10:Nat):Int):=by omega
     rw [← Zc4,← Zc4,← ea,← eb];exact h
    have HB2:=Lh hb2;clear e1 e2 hb2 hown hbel;go_wp2;go_roundw
    case rel=>exact ⟨k+1,_,by omega,by omega,by go_num,HO.out,HR,HB2.out⟩
    case measure=>simp [intOf];omega
   ·have hd:=Hin.out.done (by omega) hk2 (by rw [HN.out];exact HV.out);have hv:=Hin.out.2.2.2.2;have hol:=Hin.out.1;have t1:decide ((k:Int)+1 < (N:Int))=false:=by rw [decide_eq_false_iff_not];omega
    have HP:Hid (RTP w N V (.returned (.slice (some ⟨w.heap.size,0,none⟩) N N)) wr):=⟨_,os,rfl,⟨by rw [hol];exact hown,hd,hbel⟩,hol,hv⟩
    clear hown hbel hd hv hol Hin;go_wp2;go_ret;obtain ⟨v,rs,e,p1,p2,p3⟩:=HP.out;exact ⟨v,rs,e,p1,by rw [p2,HN.out],by rw [p3,HVV.out]⟩
def Z2n (w:World) (v:Int) (e:Ending) (w':World):Prop:=e = .returned (.int .i64 v)∧Below w.heap.size w w'
theorem Zbf (s:ByteArray) (w:World) (hl:s.size≤1100000) (h:Zar (bl s)=true) :
  Calls Tryz.prog 147 #[.string s] w (Z2k w (Zaj (bl s)) (rdig (body (bl s)))) :=
 (Zlv s w hl).mono fun e w' k=>by rw [Zei,if_pos h] at k;exact k
theorem Zij (s:ByteArray) (w:World) (hl:s.size≤1100000) (h:Zar (bl s)=false) :
  Calls Tryz.prog 147 #[.string s] w (Zix w) :=
 (Zlv s w hl).mono fun e w' k=>by rw [Zei,if_neg (by rw [h];simp)] at k;exact k
theorem Ziq (s:ByteArray) (w:World) (hl:s.size≤1100000) :
  Calls Tryz.prog 197 #[.string s] w (Z2n w (Zab (bl s))):=by
 have HI:Hid (Zab (bl s)=if Zar (bl s) then (if 1000 < (body (bl s)).length then 14 else 0) else 12):=rfl;have hbl:(body (bl s)).length≤1100000:=by
  have e:=Zae s;unfold body;split
  ·rw [List.length_tail];omega
  ·omega
 by_cases hc:Zar (bl s)=true
 ·have C:=Zbf s w hl hc;have HI2:Hid (Zab (bl s)=if 1000 < (body (bl s)).length then 14 else 0):=by show _=_;rw [HI.out,if_pos hc]
  have HL:=Lh (Zda (body (bl s)));have HC:=Lh C;clear C HI hc;obtain ⟨neg,hneg⟩:∃ n,Zaj (bl s)=n:=⟨_,rfl⟩
  obtain ⟨xs,hxs⟩:∃ n,rdig (body (bl s))=n:=⟨_,rfl⟩
  obtain ⟨L,hL⟩:∃ n,(body (bl s)).length=n:=⟨_,rfl⟩
  rw [hneg,hxs] at HC;rw [hxs,hL] at HL;rw [hL] at HI2 hbl;clear hneg hxs hL;by_cases hb:1000 < L
  ·have hI:Hid (Zab (bl s)=14):=by show _=_;rw [HI2.out,if_pos hb]
   rw [hI.out];go_enter Tryz.func197,Tryz.ntmps197
   go_wp2_with fail;refine HC.out.mono ?_;rintro e w' ⟨v,rfl,hs,hbel⟩;obtain ⟨ad,cap,rfl,_⟩:=hs;rw [HL.out];go_wp2;go_ret;exact ⟨rfl,hbel⟩
  ·have hI:Hid (Zab (bl s)=0):=by show _=_;rw [HI2.out,if_neg hb]
   rw [hI.out];go_enter Tryz.func197,Tryz.ntmps197
   go_wp2_with fail;refine HC.out.mono ?_;rintro e w' ⟨v,rfl,hs,hbel⟩;obtain ⟨ad,cap,rfl,_⟩:=hs;rw [HL.out];go_wp2;go_ret;exact ⟨rfl,hbel⟩
 ·have C:=Zij s w hl (by simpa using hc);have hI:Hid (Zab (bl s)=12):=by show _=_;rw [HI.out,if_neg hc]
  rw [hI.out];have HC:=Lh C;clear C HI hc hbl;go_enter Tryz.func197,Tryz.ntmps197
  go_wp2_with fail;refine HC.out.mono ?_;rintro e w' ⟨rfl,hbel⟩;go_wp2;go_ret;exact ⟨rfl,hbel⟩
theorem Zeb (a b:ByteArray) (w:World) (ha:a.size≤1100000) (hb:b.size≤1100000) :
  Calls Tryz.prog 178 #[.string a,.string b] w (Z2n w (if Zab (bl a) ≠ 0 then Zab (bl a) else Zab (bl b))):=by
 have HA:=Lh (fun W=>Ziq a W ha);have HB:=Lh (fun W=>Ziq b W hb);obtain ⟨x,hx⟩:∃ x,Zab (bl a)=x:=⟨_,rfl⟩
 obtain ⟨y,hy⟩:∃ y,Zab (bl b)=y:=⟨_,rfl⟩
 rw [hx] at HA ⊢;rw [hy] at HB ⊢;clear hx hy;by_cases h:x=0
 ·rw [if_neg (by simpa using h)];have d1:(x != 0)=false:=by simpa using h
  go_enter Tryz.func178,Tryz.ntmps178
  go_wp2_with fail;refine (HA.out _).mono ?_;rintro e w1 ⟨rfl,hb1⟩;go_wp2_with fail;refine (HB.out _).mono ?_;rintro e w2 ⟨rfl,hb2⟩;go_wp2;go_ret;exact ⟨rfl,hb1.trans (hb2.mono hb1.size)⟩
 ·rw [if_pos h];have d1:(x != 0)=true:=by simpa using h
  have d2:(x == 0)=false:=by simpa using h
  go_enter Tryz.func178,Tryz.ntmps178
  go_wp2_with fail;refine (HA.out _).mono ?_;rintro e w1 ⟨rfl,hb1⟩;go_wp2_with fail;refine (HA.out _).mono ?_;rintro e w2 ⟨rfl,hb2⟩;go_wp2;go_ret;exact ⟨rfl,hb1.trans (hb2.mono hb1.size)⟩
theorem Z2g {zs:List Nat} {k:Nat} (h:Dig 10 zs) (hv:val 10 zs < ten k):(Zan zs).length≤k :=
 (Za6 h).length_le (by decide) k (by rw [Zay];exact hv)
def RInv (N:Nat) (xs ys:List Nat):Prop:=Dig 10 xs∧Dig 10 ys∧val 10 xs < ten 1000∧val 10 ys < ten 1000∧Nat.gcd (val 10 xs) (val 10 ys)=N
theorem Zxl (a b:ByteArray) (w:World) (ha:a.size≤1100000) (hb:b.size≤1100000) (h0:Zab (bl a)=0) (h:Zab (bl b)=0) :
  Calls Tryz.prog 149 #[.string a,.string b] w (Z0y w (Nat.gcd (dval (body (bl a))) (dval (body (bl b))))):=by
 have HBo:=Lh (fun W=>Zeb a b W ha hb);have HBe:Hid ((if Zab (bl a) ≠ 0 then Zab (bl a) else Zab (bl b))=0):=by show _=_;rw [if_neg (by rw [h0];simp),h]
 obtain ⟨ca,la⟩:=Zao h0;obtain ⟨cb,lb⟩:=Zao h;have HA:=Lh (fun W=>Zbf a W ha ca);have HB:=Lh (fun W=>Zbf b W hb cb);obtain ⟨N,hN⟩:∃ N,Nat.gcd (dval (body (bl a))) (dval (body (bl b)))=N:=⟨_,rfl⟩
 have hda:(body (bl a)).all Zav=true:=by rw [Zar,Zcg] at ca;simp only [Bool.and_eq_true] at ca;exact ca.1.2
 have hdb:(body (bl b)).all Zav=true:=by rw [Zar,Zcg] at cb;simp only [Bool.and_eq_true] at cb;exact cb.1.2
 have HI:Hid (RInv N (rdig (body (bl a))) (rdig (body (bl b)))) :=
  ⟨Zjn hda,Zjn hdb,by rw [Ze4];exact Zap h0,by rw [Ze4];exact Zap h,by rw [Ze4,Ze4];exact hN⟩
 have hla:=Zda (body (bl a));have hlb:=Zda (body (bl b));have hNlt:=Zv3 (Zap h0) (Zap h);rw [hN] at hNlt ⊢;have HNlt:=Lh hNlt;obtain ⟨xs,hxs⟩:∃ xs,rdig (body (bl a))=xs:=⟨_,rfl⟩
 obtain ⟨ys,hys⟩:∃ ys,rdig (body (bl b))=ys:=⟨_,rfl⟩
 obtain ⟨na,hna⟩:∃ na,Zaj (bl a)=na:=⟨_,rfl⟩
 obtain ⟨nb,hnb⟩:∃ nb,Zaj (bl b)=nb:=⟨_,rfl⟩
 rw [hxs] at HI HA hla;rw [hys] at HI HB hlb;rw [hna] at HA;rw [hnb] at HB;have hlx:xs.length≤1002:=by omega
 have hly:ys.length≤1002:=by omega
 clear hxs hys hna hnb hN hNlt hda hdb hla hlb ca cb la lb h0 h ha hb;go_enter Tryz.func149,Tryz.ntmps149
 go_wp2_with fail;refine (HBo.out _).mono ?_;rintro e w1 ⟨rfl,hb1⟩;rw [HBe.out];go_wp2_with fail;refine (HA.out _).mono ?_;rintro e w2 ⟨vx,rfl,hsx,hb2⟩;go_wp2_with fail;refine (HB.out _).mono ?_;rintro e w3 ⟨vy,rfl,hsy,hb3⟩;have hsx3:=hsx.below hb3;have hbel:Below w.heap.size w w3:=hb1.trans ((hb2.trans (hb3.mono hb2.size)).mono hb1.size);clear hsx hb1 hb2 hb3 HA HB HBo;go_wp2_with fail;go_loopg [7,10] (val 10 ys) (fun k s7 s10 wr=>∃ (xs ys:List Nat),val 10 ys=k∧xs.length≤1002∧ys.length≤1002 ∧
  Sl wr s7 1 xs.length (nums .i64 xs)∧Sl wr s10 1 ys.length (nums .i64 ys)∧Hid (RInv N xs ys)∧Below w.heap.size w wr)
 case atStart=>exact ⟨xs,ys,rfl,hlx,hly,hsx3,hsy,HI,hbel⟩
 case round =>
  clear hsx3 hsy HI hbel hlx hly;obtain ⟨xs,ys,hk,hlx,hly,hsx,hsy,HI,hbel⟩:=hrel;have Hk:=Lh hk;have HZ:=Lh (Zns _ ys wr hsy HI.out.2.1 (by omega));clear hk;by_cases hy:val 10 ys=0
  ·have hd:(val 10 ys == 0)=true:=by simpa using hy
   rw [hd] at HZ;have hv:Hid (val 10 xs=N):=by
    have e:=HI.out.2.2.2.2;rw [hy,Nat.gcd_zero_right] at e;exact e
   have HT:=Lh (Zsy _ xs wr hsx HI.out.1 (by omega));rw [hv.out] at HT;clear hd hy;go_wp2_with fail;refine HZ.out.mono ?_;rintro e w4 ⟨rfl,rfl⟩;go_wp2_with fail;refine HT.out.mono ?_;rintro e w5 ⟨t,rfl,ht,hb5⟩;have HF:Hid (bl t=istr false N∧Below w.heap.size w w5):=⟨ht,hbel.trans (hb5.mono hbel.size)⟩
   clear ht hb5 hbel;go_wp2;go_ret2;exact ⟨t,rfl,HF.out.1,HF.out.2⟩
  ·have hd:(val 10 ys == 0)=false:=by simpa using hy
   rw [hd] at HZ;have HD:=Lh (Zk2 _ _ xs ys wr hsx hsy HI.out.1 HI.out.2.1 (by omega) (by omega) (by omega));have htl:=Z2g HI.out.2.1 HI.out.2.2.2.1;have Hy:=Lh hy;clear hd hy;go_wp2_with fail;refine HZ.out.mono ?_;rintro e w4 ⟨rfl,rfl⟩;go_wp2_with fail;refine HD.out.mono ?_;rintro e w5 ⟨vq,vr,qs,rs,rfl,sq,sr,dq,dr,lq,lr,eq,er,hb5⟩;have hlr:rs.length≤1002:=by omega
   have sy5:=hsy.below hb5;have HI2:Hid (RInv N ys rs):=by
    obtain ⟨g1,g2,g3,g4,g5⟩:=HI.out;refine ⟨g2,dr,g4,?_,?_⟩
    ·rw [er];exact Nat.lt_trans (Nat.mod_lt _ (Nat.pos_of_ne_zero Hy.out)) g4
    ·rw [er,← g5,Nat.gcd_comm,← Nat.gcd_rec,Nat.gcd_comm]
   have hlt:Hid (val 10 rs < val 10 ys):=by
    show _ < _;rw [er];exact Nat.mod_lt _ (Nat.pos_of_ne_zero Hy.out)
   have hbel2:Below w.heap.size w w5:=hbel.trans (hb5.mono hbel.size);clear eq er sq dq dr hb5 hbel hsx hsy htl;go_wp2;go_roundg (val 10 rs)
   case measure=>rw [← Hk.out];exact hlt.out
   case rel=>exact ⟨ys,rs,rfl,hly,hlr,sy5,sr,HI2,hbel2⟩
theorem Zbp {l:List UInt8} (h:Zab l=0):Dig 10 (rdig (body l))∧(rdig (body l)).length≤1000∧val 10 (rdig (body l))=dval (body l)∧Zar l=true:=by
 obtain ⟨h1,h2⟩:=Zao h;have h3:=h1;rw [Zar,Zcg] at h3;simp only [Bool.and_eq_true] at h3;exact ⟨Zjn h3.1.2,by rw [Zda];exact h2,Ze4 _,h1⟩
theorem Zft (neg:Bool) (a:Value) (xs:List Nat) (w:World) (ha:Sl w a 1 xs.length (nums .i64 xs)) (dx:Dig 10 xs) (lx:xs.length≤1000000) :
  Calls Tryz.prog 186 #[a,.bool neg] w (Zcv w (sgnv neg (val 10 xs))):=by
 have HT:=Lh (Zjq neg a xs w ha dx lx);have HL:=Lh (Zqq (neg:=neg) (Zc2 dx));have HE:=Zgi neg (val 10 xs);have HS:=Zce neg (val 10 xs);obtain ⟨ad,ca,rfl,_⟩:=id ha;clear ha dx;unfold Zcv;rw [← HE,← HS];have HI:=Zhd neg (val 10 xs);have HC:=Ziw (val 10 xs);generalize wErr (val 10 xs)=er at HI HC ⊢;have HW:∃ l,l=wStr neg (val 10 xs):=⟨_,rfl⟩
 obtain ⟨l,hl⟩:=HW;rw [← hl];have hl2:(er=0∧l=istr neg (val 10 xs))∨(er=14∧l=[]):=by
  rcases HC with ⟨h1,h2⟩ | ⟨h1,h2⟩
  ·exact .inl ⟨h1,by rw [hl];exact h2 neg⟩
  ·exact .inr ⟨h1,by rw [hl];exact h2 neg⟩
 clear HE HS HC hl;generalize istr neg (val 10 xs)=s at HT HL HI hl2;have HI:=Lh HI;rcases hl2 with ⟨rfl,rfl⟩ | ⟨rfl,rfl⟩
 all_goals
  go_enter Tryz.func186,Tryz.ntmps186
  go_wp2_with fail;refine HT.out.mono ?_;rintro e w1 ⟨t,rfl,ht,hb1⟩;have HC:=Ziq t w1 (by rw [← Zae,ht];have:=HL.out;omega);rw [ht,HI.out] at HC;have HC:=Lh HC;have Ht:=Lh ht;clear ht;go_wp2_with fail;refine HC.out.mono ?_;rintro e w2 ⟨rfl,hb2⟩;have hbz:=hb1.trans (hb2.mono hb1.size);clear hb1 hb2 HC;go_wp2;go_ret2;first | exact ⟨t,rfl,Ht.out,hbz⟩ | exact ⟨_,rfl,rfl,hbz⟩
theorem Zzo (a b:ByteArray) (w:World) (ha:a.size≤1100000) (hb:b.size≤1100000) (h:Zb6 (bl a) (bl b) ≠ 0) :
  Calls Tryz.prog 184 #[.string a,.string b] w (Zhl w (Zb6 (bl a) (bl b))):=by
 have HB:=Zeb a b w ha hb;rw [show (if Zab (bl a) ≠ 0 then Zab (bl a) else Zab (bl b))=Zb6 (bl a) (bl b) from rfl] at HB;generalize Zb6 (bl a) (bl b)=er at HB h ⊢;have HB:=Lh HB;have h2:(er != 0)=true:=by rw [bne_iff_ne];exact h
 clear h;go_enter Tryz.func184,Tryz.ntmps184
 go_wp2_with fail;refine HB.out.mono ?_;rintro e w1 ⟨rfl,hb1⟩;go_wp2;go_ret2;exact ⟨rfl,hb1⟩
theorem Zxh (a b:ByteArray) (w:World) (ha:a.size≤1100000) (hb:b.size≤1100000) (h0:Zab (bl a)=0) (h:Zab (bl b)=0) (he:Zaj (bl a)=Zaj (bl b)) :
  Calls Tryz.prog 184 #[.string a,.string b] w (Zcv w (ival (bl a)+ival (bl b))):=by
 have HB:=Zeb a b w ha hb;rw [Zcm h0 h] at HB;have HB:=Lh HB;obtain ⟨dx,lx,vx,cx⟩:=Zbp h0;obtain ⟨dy,ly,vy,cy⟩:=Zbp h;have HDa:=Lh (fun W=>Zbf a W ha cx);have HDb:=Lh (fun W=>Zbf b W hb cy);unfold ival;rw [← vx,← vy];clear vx vy cx cy h0 h ha hb;generalize Zaj (bl a)=na at *;generalize Zaj (bl b)=nb at *;generalize rdig (body (bl a))=xs at *;generalize rdig (body (bl b))=ys at *;have t1:(na == nb)=true:=by rw [beq_iff_eq];exact he
 have He:=Lh he;clear he;go_enter Tryz.func184,Tryz.ntmps184
 go_wp2_with fail;refine HB.out.mono ?_;rintro e w1 ⟨rfl,hb1⟩;go_wp2_with fail;refine (HDa.out _).mono ?_;rintro e w2 ⟨va,rfl,sa,hb2⟩;go_wp2_with fail;refine (HDb.out _).mono ?_;rintro e w3 ⟨vb,rfl,sb,hb3⟩;have sa3:=sa.below hb3;have hbz:=hb1.trans ((hb2.trans (hb3.mono hb2.size)).mono hb1.size);obtain ⟨aa,ca,rfl,_⟩:=id sa3;obtain ⟨ab,cb,rfl,_⟩:=id sb;clear sa hb1 hb2 hb3 HB HDa HDb;have HP:=Lh (Zxn _ _ xs ys w3 sa3 sb dx dy (by omega) (by omega))
 go_wp2_with fail;refine HP.out.mono ?_;rintro e w4 ⟨v,rs,rfl,⟨own,dr,hb4⟩,hlen,hv⟩;have HR:=Zft na v rs w4 (Sl.of_owns own) dr (by omega);rw [hv,Zst,show sgnv na (val 10 ys)=sgnv nb (val 10 ys) by rw [He.out]] at HR;have HR:=Lh HR;clear HP own dr hlen hv;go_wp2_with fail;refine HR.out.mono ?_;rintro e w5 ⟨t,rfl,ht,hb5⟩;have hbf:=hbz.trans ((hb4.trans (hb5.mono hb4.size)).mono hbz.size);have Ht:=Lh ht
 clear ht;go_wp2;go_ret2;exact ⟨t,rfl,Ht.out,hbf⟩
theorem Z12 (a b:ByteArray) (w:World) (ha:a.size≤1100000) (hb:b.size≤1100000) (h0:Zab (bl a)=0) (h:Zab (bl b)=0) (he:Zaj (bl a) ≠ Zaj (bl b)) (hle:dval (body (bl b))≤dval (body (bl a))) :
  Calls Tryz.prog 184 #[.string a,.string b] w (Zcv w (ival (bl a)+ival (bl b))):=by
 have HB:=Zeb a b w ha hb;rw [Zcm h0 h] at HB;have HB:=Lh HB;obtain ⟨dx,lx,vx,cx⟩:=Zbp h0;obtain ⟨dy,ly,vy,cy⟩:=Zbp h;have HDa:=Lh (fun W=>Zbf a W ha cx);have HDb:=Lh (fun W=>Zbf b W hb cy);unfold ival;rw [← vx,← vy];rw [← vx,← vy] at hle;clear vx vy cx cy h0 h ha hb;generalize Zaj (bl a)=na at *;generalize Zaj (bl b)=nb at *;generalize rdig (body (bl a))=xs at *;generalize rdig (body (bl b))=ys at *
 have t1:(na == nb)=false:=by rw [beq_eq_false_iff_ne];exact he
 have He:=Lh he;have Hle:=Lh hle;have hs:decide (0≤sgn (val 10 xs) (val 10 ys))=true:=by
  unfold sgn;rw [decide_eq_true_eq];split <;> (try split) <;> omega
 have Hs:=Lh hs;clear he hle hs;go_enter Tryz.func184,Tryz.ntmps184
 go_wp2_with fail;refine HB.out.mono ?_;rintro e w1 ⟨rfl,hb1⟩;go_wp2_with fail;refine (HDa.out _).mono ?_;rintro e w2 ⟨va,rfl,sa,hb2⟩;go_wp2_with fail;refine (HDb.out _).mono ?_;rintro e w3 ⟨vb,rfl,sb,hb3⟩;have sa3:=sa.below hb3;have hbz:=hb1.trans ((hb2.trans (hb3.mono hb2.size)).mono hb1.size);obtain ⟨aa,ca,rfl,_⟩:=id sa3;obtain ⟨ab,cb,rfl,_⟩:=id sb;clear sa hb1 hb2 hb3 HB HDa HDb;have HG:=Zdw _ _ xs ys w3 sa3 sb dx dy (by omega) (by omega)
 have hs:=Hs.out;obtain ⟨g,hg⟩:∃ g,g=sgn (val 10 xs) (val 10 ys):=⟨_,rfl⟩
 rw [← hg] at HG hs;have HG:=Lh HG;clear hg;go_wp2_with fail;refine HG.out.mono ?_;rintro e w' ⟨rfl,rfl⟩;have HP:=Lh (Zir _ _ xs ys w3 sa3 sb dx dy Hle.out (by omega) (by omega));go_wp2_with fail;refine HP.out.mono ?_;rintro e w4 ⟨v,rs,rfl,⟨own,dr,hb4⟩,hlen,hv⟩;have HR:=Zft na v rs w4 (Sl.of_owns own) dr (by omega);rw [hv,Zjp He.out Hle.out] at HR;have HR:=Lh HR;clear HP own dr hlen hv;go_wp2_with fail
 refine HR.out.mono ?_;rintro e w5 ⟨t,rfl,ht,hb5⟩;have hbf:=hbz.trans ((hb4.trans (hb5.mono hb4.size)).mono hbz.size);have Ht:=Lh ht;clear ht;go_wp2;go_ret2;exact ⟨t,rfl,Ht.out,hbf⟩
theorem Z13 (a b:ByteArray) (w:World) (ha:a.size≤1100000) (hb:b.size≤1100000) (h0:Zab (bl a)=0) (h:Zab (bl b)=0) (he:Zaj (bl a) ≠ Zaj (bl b)) (hle:dval (body (bl a)) < dval (body (bl b))) :
  Calls Tryz.prog 184 #[.string a,.string b] w (Zcv w (ival (bl a)+ival (bl b))):=by
 have HB:=Zeb a b w ha hb;rw [Zcm h0 h] at HB;have HB:=Lh HB;obtain ⟨dx,lx,vx,cx⟩:=Zbp h0;obtain ⟨dy,ly,vy,cy⟩:=Zbp h;have HDa:=Lh (fun W=>Zbf a W ha cx);have HDb:=Lh (fun W=>Zbf b W hb cy);unfold ival;rw [← vx,← vy];rw [← vx,← vy] at hle;clear vx vy cx cy h0 h ha hb;generalize Zaj (bl a)=na at *;generalize Zaj (bl b)=nb at *;generalize rdig (body (bl a))=xs at *;generalize rdig (body (bl b))=ys at *
 have t1:(na == nb)=false:=by rw [beq_eq_false_iff_ne];exact he
 have He:=Lh he;have Hle:=Lh hle;have hs:decide (0≤sgn (val 10 xs) (val 10 ys))=false:=by
  unfold sgn;rw [decide_eq_false_iff_not];split <;> (try split) <;> omega
 have Hs:=Lh hs;clear he hle hs;go_enter Tryz.func184,Tryz.ntmps184
 go_wp2_with fail;refine HB.out.mono ?_;rintro e w1 ⟨rfl,hb1⟩;go_wp2_with fail;refine (HDa.out _).mono ?_;rintro e w2 ⟨va,rfl,sa,hb2⟩;go_wp2_with fail;refine (HDb.out _).mono ?_;rintro e w3 ⟨vb,rfl,sb,hb3⟩;have sa3:=sa.below hb3;have hbz:=hb1.trans ((hb2.trans (hb3.mono hb2.size)).mono hb1.size);obtain ⟨aa,ca,rfl,_⟩:=id sa3;obtain ⟨ab,cb,rfl,_⟩:=id sb;clear sa hb1 hb2 hb3 HB HDa HDb;have HG:=Zdw _ _ xs ys w3 sa3 sb dx dy (by omega) (by omega)
 have hs:=Hs.out;obtain ⟨g,hg⟩:∃ g,g=sgn (val 10 xs) (val 10 ys):=⟨_,rfl⟩
 rw [← hg] at HG hs;have HG:=Lh HG;clear hg;go_wp2_with fail;refine HG.out.mono ?_;rintro e w' ⟨rfl,rfl⟩;have HP:=Lh (Zir _ _ ys xs w3 sb sa3 dy dx (Nat.le_of_lt Hle.out) (by omega) (by omega));go_wp2_with fail;refine HP.out.mono ?_;rintro e w4 ⟨v,rs,rfl,⟨own,dr,hb4⟩,hlen,hv⟩;have HR:=Zft nb v rs w4 (Sl.of_owns own) dr (by omega);rw [hv,Zjp (fun e=>He.out e.symm) (Nat.le_of_lt Hle.out),Int.add_comm] at HR
 have HR:=Lh HR;clear HP own dr hlen hv;go_wp2_with fail;refine HR.out.mono ?_;rintro e w5 ⟨t,rfl,ht,hb5⟩;have hbf:=hbz.trans ((hb4.trans (hb5.mono hb4.size)).mono hbz.size);have Ht:=Lh ht;clear ht;go_wp2;go_ret2;exact ⟨t,rfl,Ht.out,hbf⟩
theorem Zhi (a b:ByteArray) (w:World) (ha:a.size≤1100000) (hb:b.size≤1100000) (h0:Zab (bl a)=0) (h:Zab (bl b)=0) :
  Calls Tryz.prog 156 #[.string a,.string b] w (Zcv w (ival (bl a) * ival (bl b))):=by
 have HB:=Zeb a b w ha hb;rw [Zcm h0 h] at HB;have HB:=Lh HB;obtain ⟨dx,lx,vx,cx⟩:=Zbp h0;obtain ⟨dy,ly,vy,cy⟩:=Zbp h;have HDa:=Lh (fun W=>Zbf a W ha cx);have HDb:=Lh (fun W=>Zbf b W hb cy);unfold ival;rw [← vx,← vy];clear vx vy cx cy h0 h ha hb;generalize Zaj (bl a)=na at *;generalize Zaj (bl b)=nb at *;generalize rdig (body (bl a))=xs at *;generalize rdig (body (bl b))=ys at *;go_enter Tryz.func156,Tryz.ntmps156
 go_wp2_with fail;refine HB.out.mono ?_;rintro e w1 ⟨rfl,hb1⟩;go_wp2_with fail;refine (HDa.out _).mono ?_;rintro e w2 ⟨va,rfl,sa,hb2⟩;go_wp2_with fail;refine (HDb.out _).mono ?_;rintro e w3 ⟨vb,rfl,sb,hb3⟩;have sa3:=sa.below hb3;have hbz:=hb1.trans ((hb2.trans (hb3.mono hb2.size)).mono hb1.size);obtain ⟨aa,ca,rfl,_⟩:=id sa3;obtain ⟨ab,cb,rfl,_⟩:=id sb;clear sa hb1 hb2 hb3 HB HDa HDb;have HP:=Lh (Zuu _ _ xs ys w3 sa3 sb dx dy (by omega) (by omega))
 go_wp2_with fail;refine HP.out.mono ?_;rintro e w4 ⟨v,rs,rfl,⟨own,dr,hb4⟩,hlen,hv⟩;have HR:=Zft (!(na == nb)) v rs w4 (Sl.of_owns own) dr (by omega);rw [hv,Znp] at HR;have HR:=Lh HR;clear HP own dr hlen hv;go_wp2_with fail;refine HR.out.mono ?_;rintro e w5 ⟨t,rfl,ht,hb5⟩;have hbf:=hbz.trans ((hb4.trans (hb5.mono hb4.size)).mono hbz.size);have Ht:=Lh ht;clear ht;go_wp2;go_ret2;exact ⟨t,rfl,Ht.out,hbf⟩
theorem Zzn (a b:ByteArray) (w:World) (ha:a.size≤1100000) (hb:b.size≤1100000) :
  Calls Tryz.prog 184 #[.string a,.string b] w (Zev w (bl a) (bl b) (ival (bl a)+ival (bl b))):=by
 by_cases hp:Zb6 (bl a) (bl b)=0
 ·obtain ⟨h0,h⟩:=Znl hp;by_cases he:Zaj (bl a)=Zaj (bl b)
  ·exact (Zxh a b w ha hb h0 h he).mono fun e w' k=>Zfh h0 h k
  ·by_cases hle:dval (body (bl b))≤dval (body (bl a))
   ·exact (Z12 a b w ha hb h0 h he hle).mono fun e w' k=>Zfh h0 h k
   ·exact (Z13 a b w ha hb h0 h he (by omega)).mono fun e w' k=>Zfh h0 h k
 ·exact (Zzo a b w ha hb hp).mono fun e w' k=>by rw [Zev,if_neg hp];exact k
theorem Zsp (a:ByteArray) (w:World) (ha:a.size≤1100000) (h0:Zab (bl a)=0) :
  Calls Tryz.prog 201 #[.string a] w (Zji w (istr (!Zaj (bl a)) (dval (body (bl a))))):=by
 obtain ⟨dx,lx,vx,cx⟩:=Zbp h0;have HDa:=Lh (Zbf a w ha cx);rw [← vx];clear vx cx h0 ha;generalize Zaj (bl a)=na at *;generalize rdig (body (bl a))=xs at *;go_enter Tryz.func201,Tryz.ntmps201
 go_wp2_with fail;refine HDa.out.mono ?_;rintro e w2 ⟨va,rfl,sa,hb2⟩;have HT:=Lh (Zjq (!na) va xs w2 sa dx (by omega));obtain ⟨aa,ca,rfl,_⟩:=id sa;clear sa dx HDa;go_wp2_with fail;refine HT.out.mono ?_;rintro e w3 ⟨t,rfl,ht,hb3⟩;have hbz:=hb2.trans (hb3.mono hb2.size);have Ht:=Lh ht;clear ht;go_wp2;go_ret;exact ⟨t,rfl,Ht.out,hbz⟩
theorem Zmg (a b:ByteArray) (w:World) (ha:a.size≤1100000) (hb:b.size≤1100000) (h0:Zab (bl a)=0) (h:Zab (bl b)=0) (hy0:dval (body (bl b)) ≠ 0) (hd:dval (body (bl b)) ∣ dval (body (bl a))) :
  Calls Tryz.prog 202 #[.string a,.string b] w (Zs2 w (sgnv (!(Zaj (bl a) == Zaj (bl b))) (dval (body (bl a)) / dval (body (bl b))))):=by
 have HB:=Zeb a b w ha hb;rw [Zcm h0 h] at HB;have HB:=Lh HB;obtain ⟨dx,lx,vx,cx⟩:=Zbp h0;obtain ⟨dy,ly,vy,cy⟩:=Zbp h;have HDa:=Lh (fun W=>Zbf a W ha cx);have HDb:=Lh (fun W=>Zbf b W hb cy);rw [← vx] at hd;rw [← vy] at hd hy0;rw [← vx,← vy];have Hlt:Hid (val 10 (rdig (body (bl a))) < ten 1000):=by show _ < _;rw [vx];exact Zap h0
 clear vx vy cx cy h0 h ha hb;generalize Zaj (bl a)=na at *;generalize Zaj (bl b)=nb at *;generalize rdig (body (bl a))=xs at *;generalize rdig (body (bl b))=ys at *;have Hd:=Lh hd;have Hy0:=Lh hy0;clear hd hy0;go_enter Tryz.func202,Tryz.ntmps202
 go_wp2_with fail;refine HB.out.mono ?_;rintro e w1 ⟨rfl,hb1⟩;go_wp2_with fail;refine (HDa.out _).mono ?_;rintro e w2 ⟨va,rfl,sa,hb2⟩;go_wp2_with fail;refine (HDb.out _).mono ?_;rintro e w3 ⟨vb,rfl,sb,hb3⟩;have sa3:=sa.below hb3;have hbz:=hb1.trans ((hb2.trans (hb3.mono hb2.size)).mono hb1.size);obtain ⟨aa,ca,rfl,_⟩:=id sa3;obtain ⟨ab,cb,rfl,_⟩:=id sb;clear sa hb1 hb2 hb3 HB HDa HDb;have HZ:=Zns _ ys w3 sb dy (by omega)
 rw [show (val 10 ys == 0)=false by rw [beq_eq_false_iff_ne];exact Hy0.out] at HZ;have HZ:=Lh HZ;have HQ:=Lh (Zk2 _ _ xs ys w3 sa3 sb dx dy (Nat.pos_of_ne_zero Hy0.out) (by omega) (by omega));go_wp2_with fail;refine HZ.out.mono ?_;rintro e w' ⟨rfl,rfl⟩;go_wp2_with fail;refine HQ.out.mono ?_;rintro e w4 ⟨vq,vr,qs,rs,rfl,sq,sr,dq,dr,lq,lr,eq,er,hb4⟩;obtain ⟨aq,cq,rfl,_⟩:=id sq;obtain ⟨ar,cr,rfl,_⟩:=id sr
 have hr0:val 10 rs=0:=by rw [er];exact Nat.mod_eq_zero_of_dvd Hd.out
 have hlr:rs.length≤1001:=by have:=(Zak ys).2;omega
 have HZr:=Zns _ rs w4 sr dr (by omega);rw [show (val 10 rs == 0)=true by rw [hr0];rfl] at HZr;have HZr:=Lh HZr;have HTq:=Lh (fun neg=>Zjq neg _ qs w4 sq dq (by omega));have HTr:=Lh (fun W (hW:Below w4.heap.size w4 W)=>Zjq false _ rs W (sr.below hW) dr (by omega));rw [hr0] at HTr;rw [eq] at HTq;have Hql:Hid (val 10 xs / val 10 ys < ten 1000):=Nat.lt_of_le_of_lt (Nat.div_le_self _ _) Hlt.out;have hbz4:=hbz.trans (hb4.mono hbz.size)
 clear sq sr dq dr lq lr eq er hr0 hlr HZ HQ sa3 sb hbz hb4
 cases na
 case false =>
  go_wp2_with fail;refine (HTq.out nb).mono ?_;rintro e w5 ⟨t,rfl,ht,hb5⟩;have HT2:=Lh (HTr.out w5 hb5);have Ht:Hid (bl t=zStr (sgnv nb (val 10 xs / val 10 ys))):=by show _=_;rw [ht,← Zce];exact (Zc3 Hql.out _).2.symm
  have hbz5:=hbz4.trans (hb5.mono hbz4.size);clear ht HTq HTr hbz4 hb5;go_wp2_with fail;refine HT2.out.mono ?_;rintro e w6 ⟨u,rfl,hu,hb6⟩;have Hu:=Lh hu;have hbz6:=hbz5.trans (hb6.mono hbz5.size);clear hu hbz5 hb6;go_wp2;go_ret3;exact ⟨t,u,rfl,by rw [Ht.out];simp,Hu.out,hbz6⟩
 case true =>
  go_wp2_with (go_at_call 179;refine HZr.out.mono ?_;rintro e w' ⟨rfl,rfl⟩);refine (HTq.out (!nb)).mono ?_;rintro e w5 ⟨t,rfl,ht,hb5⟩;have HT2:=Lh (HTr.out w5 hb5);have Ht:Hid (bl t=zStr (sgnv (!nb) (val 10 xs / val 10 ys))):=by show _=_;rw [ht,← Zce];exact (Zc3 Hql.out _).2.symm
  have hbz5:=hbz4.trans (hb5.mono hbz4.size);clear ht HTq HTr hbz4 hb5;go_wp2_with fail;refine HT2.out.mono ?_;rintro e w6 ⟨u,rfl,hu,hb6⟩;have Hu:=Lh hu;have hbz6:=hbz5.trans (hb6.mono hbz5.size);clear hu hbz5 hb6;go_wp2;go_ret3;exact ⟨t,u,rfl,by rw [Ht.out];simp,Hu.out,hbz6⟩
end Go.Proofs.YtknpnhodpgajbaaGreatDoor
