/- A part. -/
import Derived.Test.YtknpnhodpgajbaaGreatDoorG08
set_option maxHeartbeats 8000000
set_option maxRecDepth 100000
namespace Go.Proofs.YtknpnhodpgajbaaGreatDoor
open Go.RowKit
theorem Zxf (A Bv O P x y c d r:Nat) (h:O+c * P=A+Bv) (hd:d+r * 1000000000=x+y+c):(O+P * d)+r * (P * 1000000000)=(A+P * x)+(Bv+P * y):=by
 have e1:P * (d+r * 1000000000)=P * (x+y+c):=by rw [hd]
 rw [Nat.mul_add,Nat.mul_add,Nat.mul_add] at e1;have e2:P * (r * 1000000000)=r * (P * 1000000000):=by rw [← Nat.mul_assoc,← Nat.mul_assoc,Nat.mul_comm P r]
 rw [e2] at e1;rw [Nat.mul_comm c P] at h;omega
def Zc7 (xs ys o:List Nat) (k c:Nat):Prop :=
 o.length=k∧Dig 1000000000 o∧val 1000000000 o+c * 1000000000 ^ k=val 1000000000 (xs.take k)+val 1000000000 (ys.take k)
theorem Zc7.start (xs ys:List Nat):Zc7 xs ys [] 0 0:=⟨rfl,Dig.nil _,by simp [val]⟩
theorem Zc7.step {xs ys o:List Nat} {k c d r:Nat} (h:Zc7 xs ys o k c) (hd:d < 1000000000) (e:d+r * 1000000000=xs.getD k 0+ys.getD k 0+c):Zc7 xs ys (o ++ [d]) (k+1) r:=by
 obtain ⟨h1,h2,h3⟩:=h;refine ⟨by simp [h1],h2.snoc hd,?_⟩;rw [Zam,Zam,Zdr,h1,Nat.pow_succ];exact Zxf _ _ _ _ _ _ _ _ _ h3 e
theorem Zc7.fin {xs ys o:List Nat} {c:Nat} (h:Zc7 xs ys o xs.length c) (hl:ys.length≤xs.length):val 1000000000 (o ++ [c])=val 1000000000 xs+val 1000000000 ys:=by
 obtain ⟨h1,h2,h3⟩:=h;rw [List.take_of_length_le (Nat.le_refl _),List.take_of_length_le hl] at h3;rw [Zdr,h1,Nat.mul_comm];exact h3
theorem Z1x (a b:Value) (xs ys:List Nat) (w:World) (ha:Sl w a 1 xs.length (nums .u32 xs)) (hb:Sl w b 1 ys.length (nums .u32 ys))
  (dx:Dig 1000000000 xs) (dy:Dig 1000000000 ys) (lx:xs.length≤100000) (_ly:ys.length≤100000) (hlen:ys.length≤xs.length) :
  Calls Tryz.prog 193 #[a,b] w fun e w'=>∃ v rs,e = .returned v∧Zlq w w' v rs∧val 1000000000 rs=val 1000000000 xs+val 1000000000 ys:=by
 obtain ⟨ad,ca,rfl,h1,h3⟩:=ha.nums;obtain ⟨bd,cb,rfl,h1',h3'⟩:=hb.nums;obtain ⟨i0,hi,hz0,hz1,hz2⟩:=info_parts Tryz.info_u32;clear ha hb;obtain ⟨N,hN⟩:∃ N,N=xs.length+1:=⟨_,rfl⟩
 have HN:=Lh hN;have hNl:N≤100001:=by omega
 have hN1:xs.length+1≤N:=by omega
 have hN2:N≤xs.length+1:=by omega
 clear hN;go_enter Tryz.func193,Tryz.ntmps193
 go_wp2_with (at_make;refine wpList_make_own _ rfl _ _ 157 rfl w.heap.size 197 i0 (.int .u32 0) 1 Tryz.ul_u32s hi hz0 hz1 _ _ _ N rfl rfl ?b0 ?b1 ?b2 ?b3 ?_)
 case b0=>rw [HN.out];simp
 case b1=>rw [hz2];omega
 case b2=>unfold maxLen;omega
 case b3=>exact Nat.le_refl _
 intro w1 hown hgrow;have hbel:Below w.heap.size w w1:=(Below.refl _ _).grown hgrow (Nat.le_refl _) (by simp);clear hgrow;go_wp2;go_loopw [5,6,23] (fun o c i wr=>∃ (k b1:Nat) (os:List Nat),k≤xs.length∧b1≤1∧i = .int .i64 k∧c = .int .u32 b1∧o = .slice (some ⟨w.heap.size,0,none⟩) k N ∧
   wr.ownsRow w.heap.size 197 1 (.slice (some ⟨w.heap.size,0,none⟩) k N) k (nums .u32 os)∧Hid (Zc7 xs ys os k b1)∧Below w.heap.size w wr)
  (fun _ _ i _=>xs.length - (intOf i).toNat)
 case atStart=>exact ⟨0,0,[],Nat.zero_le _,by omega,rfl,rfl,rfl,hown,Zc7.start _ _,hbel⟩
 case round =>
  clear hown hbel;obtain ⟨k,b1,os,hk,hb1,rfl,rfl,rfl,hown,Hinv,hbel⟩:=hrel;by_cases hlt:k < xs.length
  ·obtain ⟨b,off,rfl,hc⟩:=h3.resolve_left (by omega);have hck:=cell_later hbel (hc k hlt);have hx9:=dx.at (by decide) k;have hy9:=dy.at (by decide) k;obtain ⟨x,hx⟩:∃ x,x=xs.getD k 0:=⟨_,rfl⟩
   obtain ⟨y,hy⟩:∃ y,y=ys.getD k 0:=⟨_,rfl⟩
   rw [← hx] at hck hx9;rw [← hy] at hy9;have Hx:=Lh hx;clear hx;have Hy:=Lh hy;clear hy;clear hc h3;have hsz:=hbel.size;by_cases hly:k < ys.length
   ·obtain ⟨b',off',rfl,hd⟩:=h3'.resolve_left (by omega);have hdk:=cell_later hbel (hd k hly);rw [← Hy.out] at hdk;clear hd h3';go_wp2_with (at_builtin;refine wpList_append_fits _ rfl _ _ 157 rfl w.heap.size 197 i0 1 Tryz.ul_u32s hi hz1 w.heap.size k N (nums .u32 os) rfl (hown.alloc _) ⟨wr.heap.size,0,none⟩ 1 1 [_] rfl rfl (cell_one_new _ _ _) (Zas _ _) (by omega) ?_);intro w2 hown2 hgrow2;have ed:(((x:Int)+b1+y) % 1000000000:Int)=(((x+b1+y) % 1000000000:Nat):Int):=by omega
    rw [ed,Za1] at hown2;have hbel2:Below w.heap.size w w2:=(hbel.alloc hsz _).grown hgrow2 (by simp;omega) (by intro k hk;simp at hk;omega);have HR:Hid (Zc7 xs ys (os ++ [(x+b1+y) % 1000000000]) (k+1) ((x+b1+y) / 1000000000)):=Hinv.out.step (Nat.mod_lt _ (by decide)) (by rw [← Hx.out,← Hy.out];omega);clear ed hgrow2 hown hbel;go_wp2;go_roundw
    case rel=>exact ⟨k+1,(x+b1+y) / 1000000000,os ++ [(x+b1+y) % 1000000000],by omega,by omega,by go_num,by go_num,rfl,hown2,HR,hbel2⟩
    case measure=>simp [intOf];omega
   ·have hy0:ys.getD k 0=0:=by simp only [List.getD,List.getElem?_eq_none (by omega:ys.length≤k),Option.getD_none]
    have Hy0:=Lh hy0;clear hy0;go_wp2_with (at_builtin;refine wpList_append_fits _ rfl _ _ 157 rfl w.heap.size 197 i0 1 Tryz.ul_u32s hi hz1 w.heap.size k N (nums .u32 os) rfl (hown.alloc _) ⟨wr.heap.size,0,none⟩ 1 1 [_] rfl rfl (cell_one_new _ _ _) (Zas _ _) (by omega) ?_);intro w2 hown2 hgrow2;have ed:(((x:Int)+b1) % 1000000000:Int)=(((x+b1) % 1000000000:Nat):Int):=by omega
    rw [ed,Za1] at hown2;have hbel2:Below w.heap.size w w2:=(hbel.alloc hsz _).grown hgrow2 (by simp;omega) (by intro k hk;simp at hk;omega);have HR:Hid (Zc7 xs ys (os ++ [(x+b1) % 1000000000]) (k+1) ((x+b1) / 1000000000)):=Hinv.out.step (Nat.mod_lt _ (by decide)) (by rw [← Hx.out,Hy0.out];omega);clear ed hgrow2 hown hbel;go_wp2;go_roundw
    case rel=>exact ⟨k+1,(x+b1) / 1000000000,os ++ [(x+b1) % 1000000000],by omega,by omega,by go_num,by go_num,rfl,hown2,HR,hbel2⟩
    case measure=>simp [intOf];omega
  ·obtain rfl:k=xs.length:=by omega
   have hdg:=Hinv.out.2.1;have hos:os.length=xs.length:=Hinv.out.1;have Hos:=Lh hos;clear hos;have hsz:=hbel.size;go_wp2_with (at_builtin;refine wpList_append_fits _ rfl _ _ 157 rfl w.heap.size 197 i0 1 Tryz.ul_u32s hi hz1 w.heap.size xs.length N (nums .u32 os) rfl (hown.alloc _) ⟨wr.heap.size,0,none⟩ 1 1 [_] rfl rfl (cell_one_new _ _ _) (Zas _ _) (by omega) ?_);intro w2 hown2 hgrow2;rw [Za1] at hown2
   have hbel2:Below w.heap.size w w2:=(hbel.alloc hsz _).grown hgrow2 (by simp;omega) (by intro k hk;simp at hk;omega);have e1:xs.length+1=(os ++ [b1]).length:=by rw [List.length_append,Hos.out];rfl
   have HF:=Lh (Hinv.out.fin (by omega));have hdg2:Dig 1000000000 (os ++ [b1]):=hdg.snoc (by omega);have hown3:w2.ownsRow w.heap.size 197 1 (.slice (some ⟨w.heap.size,0,none⟩) (xs.length+1) N) (os ++ [b1]).length (nums .u32 (os ++ [b1])):=by rw [← e1];exact hown2
   have hsl:Sl w2 (.slice (some ⟨w.heap.size,0,none⟩) (xs.length+1) N) 1 (os ++ [b1]).length (nums .u32 (os ++ [b1])):=Sl.of_owns hown3;have E1:=Lh e1;clear e1 hgrow2 hown hbel hown2;go_wp2_with fail;refine (Zcj (.slice (some ⟨w.heap.size,0,none⟩) (xs.length+1) N) (os ++ [b1]) w2 hsl (by have:=E1.out;omega)).mono ?_;rintro e w' ⟨v',rfl,Hv,rfl⟩;go_wp2;go_ret;exact ⟨_,_,rfl,⟨Zh6 hown3 Hv.out,Za6 hdg2,hbel2⟩,(Zay _ _).trans HF.out⟩
theorem Z1y (a b:Value) (xs ys:List Nat) (w:World) (ha:Sl w a 1 xs.length (nums .u32 xs)) (hb:Sl w b 1 ys.length (nums .u32 ys))
  (dx:Dig 1000000000 xs) (dy:Dig 1000000000 ys) (lx:xs.length≤100000) (ly:ys.length≤100000) (hlen:xs.length < ys.length) :
  Calls Tryz.prog 193 #[a,b] w fun e w'=>∃ v rs,e = .returned v∧Zlq w w' v rs∧val 1000000000 rs=val 1000000000 xs+val 1000000000 ys:=by
 obtain ⟨ad,ca,rfl,h1,h3⟩:=ha.nums;obtain ⟨bd,cb,rfl,h1',h3'⟩:=hb.nums;obtain ⟨i0,hi,hz0,hz1,hz2⟩:=info_parts Tryz.info_u32;clear ha hb;obtain ⟨N,hN⟩:∃ N,N=ys.length+1:=⟨_,rfl⟩
 have HN:=Lh hN;have hNl:N≤100001:=by omega
 have hN1:ys.length+1≤N:=by omega
 have hN2:N≤ys.length+1:=by omega
 clear hN;go_enter Tryz.func193,Tryz.ntmps193
 go_wp2_with (at_make;refine wpList_make_own _ rfl _ _ 157 rfl w.heap.size 197 i0 (.int .u32 0) 1 Tryz.ul_u32s hi hz0 hz1 _ _ _ N rfl rfl ?b0 ?b1 ?b2 ?b3 ?_)
 case b0=>rw [HN.out];simp
 case b1=>rw [hz2];omega
 case b2=>unfold maxLen;omega
 case b3=>exact Nat.le_refl _
 intro w1 hown hgrow;have hbel:Below w.heap.size w w1:=(Below.refl _ _).grown hgrow (Nat.le_refl _) (by simp);clear hgrow;go_wp2;go_loopw [5,6,23] (fun o c i wr=>∃ (k b1:Nat) (os:List Nat),k≤ys.length∧b1≤1∧i = .int .i64 k∧c = .int .u32 b1∧o = .slice (some ⟨w.heap.size,0,none⟩) k N ∧
   wr.ownsRow w.heap.size 197 1 (.slice (some ⟨w.heap.size,0,none⟩) k N) k (nums .u32 os)∧Hid (Zc7 ys xs os k b1)∧Below w.heap.size w wr)
  (fun _ _ i _=>ys.length - (intOf i).toNat)
 case atStart=>exact ⟨0,0,[],Nat.zero_le _,by omega,rfl,rfl,rfl,hown,Zc7.start _ _,hbel⟩
 case round =>
  clear hown hbel;obtain ⟨k,b1,os,hk,hb1,rfl,rfl,rfl,hown,Hinv,hbel⟩:=hrel;by_cases hlt:k < ys.length
  ·obtain ⟨b,off,rfl,hc⟩:=h3'.resolve_left (by omega);have hck:=cell_later hbel (hc k hlt);have hx9:=dy.at (by decide) k;have hy9:=dx.at (by decide) k;obtain ⟨x,hx⟩:∃ x,x=ys.getD k 0:=⟨_,rfl⟩
   obtain ⟨y,hy⟩:∃ y,y=xs.getD k 0:=⟨_,rfl⟩
   rw [← hx] at hck hx9;rw [← hy] at hy9;have Hx:=Lh hx;clear hx;have Hy:=Lh hy;clear hy;clear hc h3';have hsz:=hbel.size;by_cases hly:k < xs.length
   ·obtain ⟨b',off',rfl,hd⟩:=h3.resolve_left (by omega);have hdk:=cell_later hbel (hd k hly);rw [← Hy.out] at hdk;clear hd h3;go_wp2_with (at_builtin;refine wpList_append_fits _ rfl _ _ 157 rfl w.heap.size 197 i0 1 Tryz.ul_u32s hi hz1 w.heap.size k N (nums .u32 os) rfl (hown.alloc _) ⟨wr.heap.size,0,none⟩ 1 1 [_] rfl rfl (cell_one_new _ _ _) (Zas _ _) (by omega) ?_);intro w2 hown2 hgrow2;have ed:(((x:Int)+b1+y) % 1000000000:Int)=(((x+b1+y) % 1000000000:Nat):Int):=by omega
    rw [ed,Za1] at hown2;have hbel2:Below w.heap.size w w2:=(hbel.alloc hsz _).grown hgrow2 (by simp;omega) (by intro k hk;simp at hk;omega);have HR:Hid (Zc7 ys xs (os ++ [(x+b1+y) % 1000000000]) (k+1) ((x+b1+y) / 1000000000)):=Hinv.out.step (Nat.mod_lt _ (by decide)) (by rw [← Hx.out,← Hy.out];omega);clear ed hgrow2 hown hbel;go_wp2;go_roundw
    case rel=>exact ⟨k+1,(x+b1+y) / 1000000000,os ++ [(x+b1+y) % 1000000000],by omega,by omega,by go_num,by go_num,rfl,hown2,HR,hbel2⟩
    case measure=>simp [intOf];omega
   ·have hy0:xs.getD k 0=0:=by simp only [List.getD,List.getElem?_eq_none (by omega:xs.length≤k),Option.getD_none]
    have Hy0:=Lh hy0;clear hy0;go_wp2_with (at_builtin;refine wpList_append_fits _ rfl _ _ 157 rfl w.heap.size 197 i0 1 Tryz.ul_u32s hi hz1 w.heap.size k N (nums .u32 os) rfl (hown.alloc _) ⟨wr.heap.size,0,none⟩ 1 1 [_] rfl rfl (cell_one_new _ _ _) (Zas _ _) (by omega) ?_);intro w2 hown2 hgrow2;have ed:(((x:Int)+b1) % 1000000000:Int)=(((x+b1) % 1000000000:Nat):Int):=by omega
    rw [ed,Za1] at hown2;have hbel2:Below w.heap.size w w2:=(hbel.alloc hsz _).grown hgrow2 (by simp;omega) (by intro k hk;simp at hk;omega);have HR:Hid (Zc7 ys xs (os ++ [(x+b1) % 1000000000]) (k+1) ((x+b1) / 1000000000)):=Hinv.out.step (Nat.mod_lt _ (by decide)) (by rw [← Hx.out,Hy0.out];omega);clear ed hgrow2 hown hbel;go_wp2;go_roundw
    case rel=>exact ⟨k+1,(x+b1) / 1000000000,os ++ [(x+b1) % 1000000000],by omega,by omega,by go_num,by go_num,rfl,hown2,HR,hbel2⟩
    case measure=>simp [intOf];omega
  ·obtain rfl:k=ys.length:=by omega
   have hdg:=Hinv.out.2.1;have hos:os.length=ys.length:=Hinv.out.1;have Hos:=Lh hos;clear hos;have hsz:=hbel.size;go_wp2_with (at_builtin;refine wpList_append_fits _ rfl _ _ 157 rfl w.heap.size 197 i0 1 Tryz.ul_u32s hi hz1 w.heap.size ys.length N (nums .u32 os) rfl (hown.alloc _) ⟨wr.heap.size,0,none⟩ 1 1 [_] rfl rfl (cell_one_new _ _ _) (Zas _ _) (by omega) ?_);intro w2 hown2 hgrow2;rw [Za1] at hown2
   have hbel2:Below w.heap.size w w2:=(hbel.alloc hsz _).grown hgrow2 (by simp;omega) (by intro k hk;simp at hk;omega);have e1:ys.length+1=(os ++ [b1]).length:=by rw [List.length_append,Hos.out];rfl
   have HF:=Lh (Hinv.out.fin (by omega));have hdg2:Dig 1000000000 (os ++ [b1]):=hdg.snoc (by omega);have hown3:w2.ownsRow w.heap.size 197 1 (.slice (some ⟨w.heap.size,0,none⟩) (ys.length+1) N) (os ++ [b1]).length (nums .u32 (os ++ [b1])):=by rw [← e1];exact hown2
   have hsl:Sl w2 (.slice (some ⟨w.heap.size,0,none⟩) (ys.length+1) N) 1 (os ++ [b1]).length (nums .u32 (os ++ [b1])):=Sl.of_owns hown3;have E1:=Lh e1;clear e1 hgrow2 hown hbel hown2;go_wp2_with fail;refine (Zcj (.slice (some ⟨w.heap.size,0,none⟩) (ys.length+1) N) (os ++ [b1]) w2 hsl (by have:=E1.out;omega)).mono ?_;rintro e w' ⟨v',rfl,Hv,rfl⟩;go_wp2;go_ret;exact ⟨_,_,rfl,⟨Zh6 hown3 Hv.out,Za6 hdg2,hbel2⟩,(Zay _ _).trans (HF.out.trans (Nat.add_comm _ _))⟩
theorem Zzl (a b:Value) (xs ys:List Nat) (w:World) (ha:Sl w a 1 xs.length (nums .u32 xs)) (hb:Sl w b 1 ys.length (nums .u32 ys))
  (dx:Dig 1000000000 xs) (dy:Dig 1000000000 ys) (lx:xs.length≤100000) (ly:ys.length≤100000) :
  Calls Tryz.prog 193 #[a,b] w fun e w'=>∃ v rs,e = .returned v∧Zlq w w' v rs∧val 1000000000 rs=val 1000000000 xs+val 1000000000 ys:=by
 rcases Nat.lt_or_ge xs.length ys.length with h | h
 ·exact Z1y a b xs ys w ha hb dx dy lx ly h
 ·exact Z1x a b xs ys w ha hb dx dy lx ly h
def sgnv (neg:Bool) (n:Nat):Int:=if neg then -(n:Int) else (n:Int)
def Zg6 (w:World) (z:Int) (e:Ending) (w':World):Prop :=
 ∃ neg v rs,e = .returned (.agg #[.bool neg,v])∧Sl w' v 1 rs.length (nums .u32 rs)∧Nrm 1000000000 rs∧sgnv neg (val 1000000000 rs)=z∧Below w.heap.size w w'
theorem Zjo (neg:Bool) (n:Nat) (l:Nat) (h:n=0 ↔ l=0):sgnv (neg && decide (0 < l)) n=sgnv neg n:=by
 by_cases h0:n=0
 ·have:=h.1 h0;subst h0;subst this;cases neg <;> rfl
 ·have : 0 < l := by rcases Nat.eq_zero_or_pos l with e | e
                     ·exact absurd (h.2 e) h0
                     ·exact e
  simp [this]
theorem Znr (neg:Bool) (ad:Option Addr) (n c:Nat) (w:World) :
  Calls Tryz.prog 194 #[.bool neg,.slice ad n c] w fun e w'=>e = .returned (.agg #[.bool (neg && decide (0 < n)),.slice ad n c])∧Below w.heap.size w w':=by
 have HB:=fun b=>Lh (Zai.new w (.bool b) (.slice ad n c) 159)
 obtain ⟨r,hr⟩:∃ r,r=decide (0 < n):=⟨_,rfl⟩
 rw [← hr];have t1:decide (0 < n)=r:=hr.symm;clear hr
 cases neg
 ·go_enter Tryz.func194,Tryz.ntmps194
  go_wp2;refine bodyPost_ret (v:=.agg #[.bool false,.slice ad n c]) (by simp [results,Tryz.results194,go_sem,(HB false).out.cell0,(HB false).out.cell1]) rfl ⟨by simp,Zac _ _⟩
 ·go_enter Tryz.func194,Tryz.ntmps194
  go_wp2;refine bodyPost_ret (v:=.agg #[.bool r,.slice ad n c]) (by simp [results,Tryz.results194,go_sem,(HB r).out.cell0,(HB r).out.cell1]) rfl ⟨by simp,Zac _ _⟩
theorem Zst (b:Bool) (x y:Nat):sgnv b (x+y)=sgnv b x+sgnv b y:=by
 cases b <;> simp [sgnv];omega
theorem Zjp {a b:Bool} {x y:Nat} (h:a ≠ b) (hl:y≤x):sgnv a (x - y)=sgnv a x+sgnv b y:=by
 cases a <;> cases b <;> simp_all [sgnv] <;> omega
theorem Z0a (na nb:Bool) (va vb:Value) (xs ys:List Nat) (w:World) (ha:Sl w va 1 xs.length (nums .u32 xs)) (hb:Sl w vb 1 ys.length (nums .u32 ys))
  (hx:Nrm 1000000000 xs) (hy:Nrm 1000000000 ys) (lx:xs.length≤100000) (ly:ys.length≤100000) (he2:na=nb) :
  Calls Tryz.prog 170 #[.agg #[.bool na,va],.agg #[.bool nb,vb]] w (Zg6 w (sgnv na (val 1000000000 xs)+sgnv nb (val 1000000000 ys))):=by
 have he:(na == nb)=true:=by rw [beq_iff_eq];exact he2
 have Ha:=Lh ha;have Hb:=Lh hb;have Hx:=Lh hx;have Hy:=Lh hy;clear ha hb hx hy;have He2:=Lh he2;clear he2;go_enter Tryz.func170,Tryz.ntmps170
 have b2:=fun (o3 o4:Obj)=>((Zai.new w (.bool na) va 159).alloc o3).alloc o4
 have b3:=fun (o2 o4:Obj)=>(Zai.new (w.alloc o2) (.bool nb) vb 159).alloc o4
 have b4:=fun (o2 o3:Obj)=>Zai.new ((w.alloc o2).alloc o3) (.bool false) (.slice none 0 0) 159
 have HBX:=Lh (And.intro b2 (And.intro b3 b4));clear b2 b3 b4;go_wp2;obtain ⟨W0,hW0⟩:∃ W0,W0=((w.alloc (.cells #[.bool na,va] 159)).alloc (.cells #[.bool nb,vb] 159)).alloc (.cells #[.bool false,.slice none 0 0] 159):=⟨_,rfl⟩
 rw [← hW0];have b2:Zai W0 w.heap.size 159 (.bool na) va:=by rw [hW0];exact HBX.out.1 _ _
 have b3:Zai W0 (w.heap.size+1) 159 (.bool nb) vb:=by rw [hW0];have h:=HBX.out.2.1 (.cells #[.bool na,va] 159) (.cells #[.bool false,.slice none 0 0] 159);simp at h;exact h
 have b4:Zai W0 (w.heap.size+1+1) 159 (.bool false) (.slice none 0 0):=by rw [hW0];have h:=HBX.out.2.2 (.cells #[.bool na,va] 159) (.cells #[.bool nb,vb] 159);simp at h;exact h
 have hbl:Below w.heap.size w W0:=by rw [hW0];exact Zdh _ _ _ _
 have hz:=b4.lt;clear hW0 HBX;have HP:Hid (∀ W,Ext W0 W→Calls Tryz.prog 193 #[va,vb] W fun e w'=>∃ ad n c rs,e = .returned (.slice ad n c)∧Hid (w'.ownsRow W0.heap.size 197 1 (.slice ad n c) rs.length (nums .u32 rs)∧Nrm 1000000000 rs∧n=rs.length∧val 1000000000 rs=val 1000000000 xs+val 1000000000 ys)∧Ext W0 w'∧Below W.heap.size W w'):=by
  intro W hx;have hS:=hbl.trans (Below.mono hx hbl.size);refine (Zzl va vb xs ys W (Ha.out.below hS) (Hb.out.below hS) Hx.out.1 Hy.out.1 lx ly).mono ?_;rintro e w' ⟨v,rs,rfl,⟨own,hn,hb1⟩,hv⟩;obtain ⟨ad,c,rfl,_⟩:=Sl.of_owns own;exact ⟨ad,_,c,rs,rfl,⟨Zat own (Below.size hx),hn,rfl,hv⟩,Below.trans hx (hb1.mono (Below.size hx)),hb1⟩
 have HK:Hid (∀ W neg ad n c,Ext W0 W→Calls Tryz.prog 194 #[.bool neg,.slice ad n c] W fun e w'=>e = .returned (.agg #[.bool (neg && decide (0 < n)),.slice ad n c])∧Ext W0 w'∧Below W.heap.size W w'):=by
  intro W neg ad n c hx;refine (Znr neg ad n c W).mono ?_;rintro e w' ⟨rfl,hb1⟩;exact ⟨rfl,Below.trans hx (hb1.mono (Below.size hx)),hb1⟩
 have h0:=b2.cell0;have h1:=b2.cell1;have h2:=b3.cell0;have h3:=b3.cell1;have r0:=b4.cell0;have r1:=b4.cell1;have z0:=b4.frozen 0;have z1:=b4.frozen 1;have B4:=Lh b4;clear b2 b3 b4;have HZ:Hid (∀ W,Ext W0 W→(W.cell? ⟨w.heap.size,0,none⟩=some (.bool na)∧W.cell? ⟨w.heap.size,1,none⟩=some va∧W.cell? ⟨w.heap.size+1,0,none⟩=some (.bool nb)∧W.cell? ⟨w.heap.size+1,1,none⟩=some vb)∧W.cell? ⟨w.heap.size+1+1,0,none⟩=some (.bool false)∧W.cell? ⟨w.heap.size+1+1,1,none⟩=some (.slice none 0 0)∧W.frozen? ⟨w.heap.size+1+1,0,none⟩=false∧W.frozen? ⟨w.heap.size+1+1,1,none⟩=false):=fun W hx=>⟨⟨Ext.cell hx h0,Ext.cell hx h1,Ext.cell hx h2,Ext.cell hx h3⟩,Ext.cell hx r0,Ext.cell hx r1,(B4.out.below hx).frozen 0,(B4.out.below hx).frozen 1⟩
 have hx0:Ext W0 W0.drew:=Below.drew (Below.refl _ _);go_region_held3 (fun w'=>w'.cell? ⟨w.heap.size,0,none⟩=some (.bool na)∧w'.cell? ⟨w.heap.size,1,none⟩=some va∧w'.cell? ⟨w.heap.size+1,0,none⟩=some (.bool nb)∧w'.cell? ⟨w.heap.size+1,1,none⟩=some vb)
  (first | assumption | exact ⟨by assumption,by assumption,by assumption,by assumption⟩ | (refine ⟨?_,?_,?_,?_⟩ <;> (rw [World.cell?_setCell_far _ _ _ _ (by first | (show w.heap.size+1+1 ≠ w.heap.size;omega) | (show w.heap.size+1+1 ≠ w.heap.size+1;omega)),World.cell?_setCell_far _ _ _ _ (by first | (show w.heap.size+1+1 ≠ w.heap.size;omega) | (show w.heap.size+1+1 ≠ w.heap.size+1;omega))];assumption)) | go_keep)
  (first | (go_at_call 193;refine (HP.out _ hx0).mono ?_;rintro e w2 ⟨ad2,n2,cap2,rs2,rfl,own2,hx2,hb2⟩;obtain ⟨⟨p1,p2,p3,p4⟩,p5⟩:=HZ.out _ hx2) | (go_at_call 194;refine (HK.out _ _ _ _ _ hx2).mono ?_;rintro e w3 ⟨rfl,hx3,hb3⟩;obtain ⟨⟨p1,p2,p3,p4⟩,p5,p6,p7,p8⟩:=HZ.out _ hx3))
 go_wp2;obtain ⟨ow,hn,rfl,hv⟩:=own2.out;have HS:=Lh ((B4.out.below hx3).store (.bool (na && decide (0 < rs2.length))) (.slice ad2 rs2.length cap2));have HF:Hid (Zg6 w (sgnv na (val 1000000000 xs)+sgnv nb (val 1000000000 ys)) (.returned (.agg #[.bool (na && decide (0 < rs2.length)),.slice ad2 rs2.length cap2])) ((w3.setCell ⟨w.heap.size+1+1,0,none⟩ (.bool (na && decide (0 < rs2.length)))).setCell ⟨w.heap.size+1+1,1,none⟩ (.slice ad2 rs2.length cap2))):=by
  refine ⟨_,_,rs2,rfl,Sl.of_owns (ownsRow_setCell_below (ownsRow_setCell_below (Zag ow hb3) (a:=⟨w.heap.size+1+1,0,none⟩) hz _) (a:=⟨w.heap.size+1+1,1,none⟩) hz _),hn,?_,Zds (hbl.trans (Below.mono hx3 hbl.size)) (by omega) _ _⟩;rw [Zjo _ _ _ (by rw [hn.val_zero (by decide),List.length_eq_zero_iff]),hv];rw [← He2.out];exact Zst _ _ _
 obtain ⟨W3,hW3⟩:∃ W3,W3=(w3.setCell ⟨w.heap.size+1+1,0,none⟩ (.bool (na && decide (0 < rs2.length)))).setCell ⟨w.heap.size+1+1,1,none⟩ (.slice ad2 rs2.length cap2):=⟨_,rfl⟩
 rw [← hW3];rw [← hW3] at HS HF;refine bodyPost_ret (v:=.agg #[.bool (na && decide (0 < rs2.length)),.slice ad2 rs2.length cap2]) (by simp [results,Tryz.results170,go_sem,HS.out.cell0,HS.out.cell1]) rfl HF.out
theorem Z3f (na nb:Bool) (va vb:Value) (xs ys:List Nat) (w:World) (ha:Sl w va 1 xs.length (nums .u32 xs)) (hb:Sl w vb 1 ys.length (nums .u32 ys))
  (hx:Nrm 1000000000 xs) (hy:Nrm 1000000000 ys) (lx:xs.length≤100000) (ly:ys.length≤100000) (he2:na ≠ nb) (hle:val 1000000000 ys≤val 1000000000 xs) :
  Calls Tryz.prog 170 #[.agg #[.bool na,va],.agg #[.bool nb,vb]] w (Zg6 w (sgnv na (val 1000000000 xs)+sgnv nb (val 1000000000 ys))):=by
 have he:(na == nb)=false:=by rw [beq_eq_false_iff_ne];exact he2
 have HC:=Lh (fun W (hS:Below w.heap.size w W)=>Zck va vb xs ys W (ha.below hS) (hb.below hS) hx hy (by omega) (by omega));have hs:decide (0≤sgn (val 1000000000 xs) (val 1000000000 ys))=true:=by
  unfold sgn;rw [decide_eq_true_eq];split <;> (try split) <;> omega
 generalize sgn (val 1000000000 xs) (val 1000000000 ys)=g at HC hs;have Ha:=Lh ha;have Hb:=Lh hb;have Hx:=Lh hx;have Hy:=Lh hy;have Hle:=Lh hle;clear ha hb hx hy hle;have He2:=Lh he2;clear he2;go_enter Tryz.func170,Tryz.ntmps170
 have b2:=fun (o3 o4:Obj)=>((Zai.new w (.bool na) va 159).alloc o3).alloc o4
 have b3:=fun (o2 o4:Obj)=>(Zai.new (w.alloc o2) (.bool nb) vb 159).alloc o4
 have b4:=fun (o2 o3:Obj)=>Zai.new ((w.alloc o2).alloc o3) (.bool false) (.slice none 0 0) 159
 have HBX:=Lh (And.intro b2 (And.intro b3 b4));clear b2 b3 b4;go_wp2_with fail;obtain ⟨W0,hW0⟩:∃ W0,W0=((w.alloc (.cells #[.bool na,va] 159)).alloc (.cells #[.bool nb,vb] 159)).alloc (.cells #[.bool false,.slice none 0 0] 159):=⟨_,rfl⟩
 rw [← hW0];have b2:Zai W0 w.heap.size 159 (.bool na) va:=by rw [hW0];exact HBX.out.1 _ _
 have b3:Zai W0 (w.heap.size+1) 159 (.bool nb) vb:=by rw [hW0];have h:=HBX.out.2.1 (.cells #[.bool na,va] 159) (.cells #[.bool false,.slice none 0 0] 159);simp at h;exact h
 have b4:Zai W0 (w.heap.size+1+1) 159 (.bool false) (.slice none 0 0):=by rw [hW0];have h:=HBX.out.2.2 (.cells #[.bool na,va] 159) (.cells #[.bool nb,vb] 159);simp at h;exact h
 have hbl:Below w.heap.size w W0:=by rw [hW0];exact Zdh _ _ _ _
 have hz:=b4.lt;clear hW0 HBX;have HP:Hid (∀ W,Ext W0 W→Calls Tryz.prog 165 #[va,vb] W fun e w'=>∃ ad n c rs,e = .returned (.slice ad n c)∧Hid (w'.ownsRow W0.heap.size 197 1 (.slice ad n c) rs.length (nums .u32 rs)∧Nrm 1000000000 rs∧n=rs.length∧val 1000000000 rs=val 1000000000 xs - val 1000000000 ys)∧Ext W0 w'∧Below W.heap.size W w'):=by
  intro W hx;have hS:=hbl.trans (Below.mono hx hbl.size);refine (Zkm va vb xs ys W (Ha.out.below hS) (Hb.out.below hS) Hx.out.1 Hy.out Hle.out lx).mono ?_;rintro e w' ⟨v,rs,rfl,⟨own,hn,hb1⟩,hv⟩;obtain ⟨ad,c,rfl,_⟩:=Sl.of_owns own;exact ⟨ad,_,c,rs,rfl,⟨Zat own (Below.size hx),hn,rfl,hv⟩,Below.trans hx (hb1.mono (Below.size hx)),hb1⟩
 have HK:Hid (∀ W neg ad n c,Ext W0 W→Calls Tryz.prog 194 #[.bool neg,.slice ad n c] W fun e w'=>e = .returned (.agg #[.bool (neg && decide (0 < n)),.slice ad n c])∧Ext W0 w'∧Below W.heap.size W w'):=by
  intro W neg ad n c hx;refine (Znr neg ad n c W).mono ?_;rintro e w' ⟨rfl,hb1⟩;exact ⟨rfl,Below.trans hx (hb1.mono (Below.size hx)),hb1⟩
 have h0:=b2.cell0;have h1:=b2.cell1;have h2:=b3.cell0;have h3:=b3.cell1;have r0:=b4.cell0;have r1:=b4.cell1;have z0:=b4.frozen 0;have z1:=b4.frozen 1;have B4:=Lh b4;clear b2 b3 b4;go_wp2_with (go_at_call 125;refine (HC.out _ hbl).mono ?_;rintro e wq ⟨rfl,nq,rfl⟩);have HZ:Hid (∀ W,Ext W0 W→(W.cell? ⟨w.heap.size,0,none⟩=some (.bool na)∧W.cell? ⟨w.heap.size,1,none⟩=some va∧W.cell? ⟨w.heap.size+1,0,none⟩=some (.bool nb)∧W.cell? ⟨w.heap.size+1,1,none⟩=some vb)∧W.cell? ⟨w.heap.size+1+1,0,none⟩=some (.bool false)∧W.cell? ⟨w.heap.size+1+1,1,none⟩=some (.slice none 0 0)∧W.frozen? ⟨w.heap.size+1+1,0,none⟩=false∧W.frozen? ⟨w.heap.size+1+1,1,none⟩=false):=fun W hx=>⟨⟨Ext.cell hx h0,Ext.cell hx h1,Ext.cell hx h2,Ext.cell hx h3⟩,Ext.cell hx r0,Ext.cell hx r1,(B4.out.below hx).frozen 0,(B4.out.below hx).frozen 1⟩
 have hx0:Ext W0 (W0.drewN nq).drew:=Below.drew (below_drewN (Below.refl _ _) _);go_region_held3 (fun w'=>w'.cell? ⟨w.heap.size,0,none⟩=some (.bool na)∧w'.cell? ⟨w.heap.size,1,none⟩=some va∧w'.cell? ⟨w.heap.size+1,0,none⟩=some (.bool nb)∧w'.cell? ⟨w.heap.size+1,1,none⟩=some vb)
  (first | assumption | exact ⟨by assumption,by assumption,by assumption,by assumption⟩ | (refine ⟨?_,?_,?_,?_⟩ <;> (rw [World.cell?_setCell_far _ _ _ _ (by first | (show w.heap.size+1+1 ≠ w.heap.size;omega) | (show w.heap.size+1+1 ≠ w.heap.size+1;omega)),World.cell?_setCell_far _ _ _ _ (by first | (show w.heap.size+1+1 ≠ w.heap.size;omega) | (show w.heap.size+1+1 ≠ w.heap.size+1;omega))];assumption)) | go_keep)
  (first | (go_at_call 165;refine (HP.out _ hx0).mono ?_;rintro e w2 ⟨ad2,n2,cap2,rs2,rfl,own2,hx2,hb2⟩;obtain ⟨⟨p1,p2,p3,p4⟩,p5⟩:=HZ.out _ hx2) | (go_at_call 194;refine (HK.out _ _ _ _ _ hx2).mono ?_;rintro e w3 ⟨rfl,hx3,hb3⟩;obtain ⟨⟨p1,p2,p3,p4⟩,p5,p6,p7,p8⟩:=HZ.out _ hx3))
 go_wp2;obtain ⟨ow,hn,rfl,hv⟩:=own2.out;have HS:=Lh ((B4.out.below hx3).store (.bool (na && decide (0 < rs2.length))) (.slice ad2 rs2.length cap2));have HF:Hid (Zg6 w (sgnv na (val 1000000000 xs)+sgnv nb (val 1000000000 ys)) (.returned (.agg #[.bool (na && decide (0 < rs2.length)),.slice ad2 rs2.length cap2])) ((w3.setCell ⟨w.heap.size+1+1,0,none⟩ (.bool (na && decide (0 < rs2.length)))).setCell ⟨w.heap.size+1+1,1,none⟩ (.slice ad2 rs2.length cap2))):=by
  refine ⟨_,_,rs2,rfl,Sl.of_owns (ownsRow_setCell_below (ownsRow_setCell_below (Zag ow hb3) (a:=⟨w.heap.size+1+1,0,none⟩) hz _) (a:=⟨w.heap.size+1+1,1,none⟩) hz _),hn,?_,Zds (hbl.trans (Below.mono hx3 hbl.size)) (by omega) _ _⟩;rw [Zjo _ _ _ (by rw [hn.val_zero (by decide),List.length_eq_zero_iff]),hv];exact Zjp He2.out Hle.out
 obtain ⟨W3,hW3⟩:∃ W3,W3=(w3.setCell ⟨w.heap.size+1+1,0,none⟩ (.bool (na && decide (0 < rs2.length)))).setCell ⟨w.heap.size+1+1,1,none⟩ (.slice ad2 rs2.length cap2):=⟨_,rfl⟩
 rw [← hW3];rw [← hW3] at HS HF;refine bodyPost_ret (v:=.agg #[.bool (na && decide (0 < rs2.length)),.slice ad2 rs2.length cap2]) (by simp [results,Tryz.results170,go_sem,HS.out.cell0,HS.out.cell1]) rfl HF.out
theorem Z3g (na nb:Bool) (va vb:Value) (xs ys:List Nat) (w:World) (ha:Sl w va 1 xs.length (nums .u32 xs)) (hb:Sl w vb 1 ys.length (nums .u32 ys))
  (hx:Nrm 1000000000 xs) (hy:Nrm 1000000000 ys) (lx:xs.length≤100000) (ly:ys.length≤100000) (he2:na ≠ nb) (hle:val 1000000000 xs≤val 1000000000 ys) (hne:val 1000000000 xs ≠ val 1000000000 ys) :
  Calls Tryz.prog 170 #[.agg #[.bool na,va],.agg #[.bool nb,vb]] w (Zg6 w (sgnv na (val 1000000000 xs)+sgnv nb (val 1000000000 ys))):=by
 have he:(na == nb)=false:=by rw [beq_eq_false_iff_ne];exact he2
 have HC:=Lh (fun W (hS:Below w.heap.size w W)=>Zck va vb xs ys W (ha.below hS) (hb.below hS) hx hy (by omega) (by omega));have hs:decide (0≤sgn (val 1000000000 xs) (val 1000000000 ys))=false:=by
  unfold sgn;rw [decide_eq_false_iff_not];split <;> (try split) <;> omega
 generalize sgn (val 1000000000 xs) (val 1000000000 ys)=g at HC hs;have Ha:=Lh ha;have Hb:=Lh hb;have Hx:=Lh hx;have Hy:=Lh hy;have Hle:=Lh hle;clear ha hb hx hy hle;have He2:=Lh he2;clear he2;go_enter Tryz.func170,Tryz.ntmps170
 have b2:=fun (o3 o4:Obj)=>((Zai.new w (.bool na) va 159).alloc o3).alloc o4
 have b3:=fun (o2 o4:Obj)=>(Zai.new (w.alloc o2) (.bool nb) vb 159).alloc o4
 have b4:=fun (o2 o3:Obj)=>Zai.new ((w.alloc o2).alloc o3) (.bool false) (.slice none 0 0) 159
 have HBX:=Lh (And.intro b2 (And.intro b3 b4));clear b2 b3 b4;go_wp2_with fail;obtain ⟨W0,hW0⟩:∃ W0,W0=((w.alloc (.cells #[.bool na,va] 159)).alloc (.cells #[.bool nb,vb] 159)).alloc (.cells #[.bool false,.slice none 0 0] 159):=⟨_,rfl⟩
 rw [← hW0];have b2:Zai W0 w.heap.size 159 (.bool na) va:=by rw [hW0];exact HBX.out.1 _ _
 have b3:Zai W0 (w.heap.size+1) 159 (.bool nb) vb:=by rw [hW0];have h:=HBX.out.2.1 (.cells #[.bool na,va] 159) (.cells #[.bool false,.slice none 0 0] 159);simp at h;exact h
 have b4:Zai W0 (w.heap.size+1+1) 159 (.bool false) (.slice none 0 0):=by rw [hW0];have h:=HBX.out.2.2 (.cells #[.bool na,va] 159) (.cells #[.bool nb,vb] 159);simp at h;exact h
 have hbl:Below w.heap.size w W0:=by rw [hW0];exact Zdh _ _ _ _
 have hz:=b4.lt;clear hW0 HBX;have HP:Hid (∀ W,Ext W0 W→Calls Tryz.prog 165 #[vb,va] W fun e w'=>∃ ad n c rs,e = .returned (.slice ad n c)∧Hid (w'.ownsRow W0.heap.size 197 1 (.slice ad n c) rs.length (nums .u32 rs)∧Nrm 1000000000 rs∧n=rs.length∧val 1000000000 rs=val 1000000000 ys - val 1000000000 xs)∧Ext W0 w'∧Below W.heap.size W w'):=by
  intro W hx;have hS:=hbl.trans (Below.mono hx hbl.size);refine (Zkm vb va ys xs W (Hb.out.below hS) (Ha.out.below hS) Hy.out.1 Hx.out Hle.out ly).mono ?_;rintro e w' ⟨v,rs,rfl,⟨own,hn,hb1⟩,hv⟩;obtain ⟨ad,c,rfl,_⟩:=Sl.of_owns own;exact ⟨ad,_,c,rs,rfl,⟨Zat own (Below.size hx),hn,rfl,hv⟩,Below.trans hx (hb1.mono (Below.size hx)),hb1⟩
 have HK:Hid (∀ W neg ad n c,Ext W0 W→Calls Tryz.prog 194 #[.bool neg,.slice ad n c] W fun e w'=>e = .returned (.agg #[.bool (neg && decide (0 < n)),.slice ad n c])∧Ext W0 w'∧Below W.heap.size W w'):=by
  intro W neg ad n c hx;refine (Znr neg ad n c W).mono ?_;rintro e w' ⟨rfl,hb1⟩;exact ⟨rfl,Below.trans hx (hb1.mono (Below.size hx)),hb1⟩
 have h0:=b2.cell0;have h1:=b2.cell1;have h2:=b3.cell0;have h3:=b3.cell1;have r0:=b4.cell0;have r1:=b4.cell1;have z0:=b4.frozen 0;have z1:=b4.frozen 1;have B4:=Lh b4;clear b2 b3 b4;go_wp2_with (go_at_call 125;refine (HC.out _ hbl).mono ?_;rintro e wq ⟨rfl,nq,rfl⟩);have HZ:Hid (∀ W,Ext W0 W→(W.cell? ⟨w.heap.size,0,none⟩=some (.bool na)∧W.cell? ⟨w.heap.size,1,none⟩=some va∧W.cell? ⟨w.heap.size+1,0,none⟩=some (.bool nb)∧W.cell? ⟨w.heap.size+1,1,none⟩=some vb)∧W.cell? ⟨w.heap.size+1+1,0,none⟩=some (.bool false)∧W.cell? ⟨w.heap.size+1+1,1,none⟩=some (.slice none 0 0)∧W.frozen? ⟨w.heap.size+1+1,0,none⟩=false∧W.frozen? ⟨w.heap.size+1+1,1,none⟩=false):=fun W hx=>⟨⟨Ext.cell hx h0,Ext.cell hx h1,Ext.cell hx h2,Ext.cell hx h3⟩,Ext.cell hx r0,Ext.cell hx r1,(B4.out.below hx).frozen 0,(B4.out.below hx).frozen 1⟩
 have hx0:Ext W0 (W0.drewN nq).drew:=Below.drew (below_drewN (Below.refl _ _) _);go_region_held3 (fun w'=>w'.cell? ⟨w.heap.size,0,none⟩=some (.bool na)∧w'.cell? ⟨w.heap.size,1,none⟩=some va∧w'.cell? ⟨w.heap.size+1,0,none⟩=some (.bool nb)∧w'.cell? ⟨w.heap.size+1,1,none⟩=some vb)
  (first | assumption | exact ⟨by assumption,by assumption,by assumption,by assumption⟩ | (refine ⟨?_,?_,?_,?_⟩ <;> (rw [World.cell?_setCell_far _ _ _ _ (by first | (show w.heap.size+1+1 ≠ w.heap.size;omega) | (show w.heap.size+1+1 ≠ w.heap.size+1;omega)),World.cell?_setCell_far _ _ _ _ (by first | (show w.heap.size+1+1 ≠ w.heap.size;omega) | (show w.heap.size+1+1 ≠ w.heap.size+1;omega))];assumption)) | go_keep)
  (first | (go_at_call 165;refine (HP.out _ hx0).mono ?_;rintro e w2 ⟨ad2,n2,cap2,rs2,rfl,own2,hx2,hb2⟩;obtain ⟨⟨p1,p2,p3,p4⟩,p5⟩:=HZ.out _ hx2) | (go_at_call 194;refine (HK.out _ _ _ _ _ hx2).mono ?_;rintro e w3 ⟨rfl,hx3,hb3⟩;obtain ⟨⟨p1,p2,p3,p4⟩,p5,p6,p7,p8⟩:=HZ.out _ hx3))
 go_wp2;obtain ⟨ow,hn,rfl,hv⟩:=own2.out;have HS:=Lh ((B4.out.below hx3).store (.bool (nb && decide (0 < rs2.length))) (.slice ad2 rs2.length cap2));have HF:Hid (Zg6 w (sgnv na (val 1000000000 xs)+sgnv nb (val 1000000000 ys)) (.returned (.agg #[.bool (nb && decide (0 < rs2.length)),.slice ad2 rs2.length cap2])) ((w3.setCell ⟨w.heap.size+1+1,0,none⟩ (.bool (nb && decide (0 < rs2.length)))).setCell ⟨w.heap.size+1+1,1,none⟩ (.slice ad2 rs2.length cap2))):=by
  refine ⟨_,_,rs2,rfl,Sl.of_owns (ownsRow_setCell_below (ownsRow_setCell_below (Zag ow hb3) (a:=⟨w.heap.size+1+1,0,none⟩) hz _) (a:=⟨w.heap.size+1+1,1,none⟩) hz _),hn,?_,Zds (hbl.trans (Below.mono hx3 hbl.size)) (by omega) _ _⟩;rw [Zjo _ _ _ (by rw [hn.val_zero (by decide),List.length_eq_zero_iff]),hv];rw [Int.add_comm];exact Zjp (fun e=>He2.out e.symm) Hle.out
 obtain ⟨W3,hW3⟩:∃ W3,W3=(w3.setCell ⟨w.heap.size+1+1,0,none⟩ (.bool (nb && decide (0 < rs2.length)))).setCell ⟨w.heap.size+1+1,1,none⟩ (.slice ad2 rs2.length cap2):=⟨_,rfl⟩
 rw [← hW3];rw [← hW3] at HS HF;refine bodyPost_ret (v:=.agg #[.bool (nb && decide (0 < rs2.length)),.slice ad2 rs2.length cap2]) (by simp [results,Tryz.results170,go_sem,HS.out.cell0,HS.out.cell1]) rfl HF.out
theorem Zrb (na nb:Bool) (va vb:Value) (xs ys:List Nat) (w:World) (ha:Sl w va 1 xs.length (nums .u32 xs)) (hb:Sl w vb 1 ys.length (nums .u32 ys))
  (hx:Nrm 1000000000 xs) (hy:Nrm 1000000000 ys) (lx:xs.length≤100000) (ly:ys.length≤100000) :
  Calls Tryz.prog 170 #[.agg #[.bool na,va],.agg #[.bool nb,vb]] w (Zg6 w (sgnv na (val 1000000000 xs)+sgnv nb (val 1000000000 ys))):=by
 by_cases he:na=nb
 ·exact Z0a na nb va vb xs ys w ha hb hx hy lx ly he
 ·by_cases hle:val 1000000000 ys≤val 1000000000 xs
  ·exact Z3f na nb va vb xs ys w ha hb hx hy lx ly he hle
  ·exact Z3g na nb va vb xs ys w ha hb hx hy lx ly he (by omega) (by omega)
def ival (l:List UInt8):Int:=sgnv (Zaj l) (dval (body l))
def zStr (z:Int):List UInt8:=wStr (decide (z < 0)) z.natAbs
def zErr (z:Int):Int:=wErr z.natAbs
theorem Zss (b:Bool) (n:Nat):(sgnv b n).natAbs=n:=by cases b <;> simp [sgnv]
theorem Zz4 {b:Bool} {n:Nat} (h:n ≠ 0):decide (sgnv b n < 0)=b:=by cases b <;> simp [sgnv] <;> omega
theorem Zgi (b:Bool) (n:Nat):wErr n=zErr (sgnv b n):=by rw [zErr,Zss]
theorem Zya (b c:Bool):wStr b 0=wStr c 0:=by simp [wStr,istr]
theorem Zce (b:Bool) (n:Nat):wStr b n=zStr (sgnv b n):=by
 rw [zStr,Zss];by_cases h:n=0
 ·subst h;exact Zya _ _
 ·rw [Zz4 h]
def Zcv (w:World) (z:Int) (e:Ending) (w':World):Prop:=∃ t,e = .returned (.tuple #[.string t,.int .i64 (zErr z)])∧bl t=zStr z∧Below w.heap.size w w'
theorem Znp (a b:Bool) (x y:Nat):sgnv (!(a == b)) (x * y)=sgnv a x * sgnv b y:=by
 cases a <;> cases b <;> simp [sgnv,Int.neg_mul,Int.mul_neg]
theorem Z0c (k:Nat):ten (k+1)=10 * ten k:=by rw [ten,ten,Nat.pow_succ,Nat.mul_comm]
theorem Z2e (j k:Nat):ten j * ten k=ten (j+k):=by rw [ten,ten,ten,Nat.pow_add]
theorem Z1q {rs xs ys:List Nat} (hv:val 1000000000 rs=val 1000000000 xs * val 1000000000 ys) (hn:Nrm 1000000000 rs) (hx:val 1000000000 xs < ten 1000) (hy:val 1000000000 ys < ten 1000):rs.length≤100000:=by
 refine Nat.le_trans (Zqg (k:=223) hn ?_) (by decide);rw [hv];refine Nat.lt_of_lt_of_le (Nat.mul_lt_mul'' hx hy) ?_;rw [Z2e];exact Zgt (by decide)
theorem Zrc {neg na nb:Bool} {rs xs ys:List Nat} (hv:sgnv neg (val 1000000000 rs)=sgnv na (val 1000000000 xs)+sgnv nb (val 1000000000 ys)) (hn:Nrm 1000000000 rs) (hx:val 1000000000 xs < ten 1000) (hy:val 1000000000 ys < ten 1000):rs.length≤113:=by
 refine Zqg hn ?_;have h1:val 1000000000 rs≤val 1000000000 xs+val 1000000000 ys:=by
  generalize val 1000000000 rs=r at hv ⊢;generalize val 1000000000 xs=x at hv ⊢;generalize val 1000000000 ys=y at hv ⊢
  cases neg <;> cases na <;> cases nb <;> simp [sgnv] at hv <;> omega
 have h2:ten 1001=10 * ten 1000:=Z0c 1000;have h3:=Zgt (show 1001≤9 * 113 by decide);omega
theorem Zr3 (a b:ByteArray) (w:World) (er:Int) (h:er ≠ 0) (C:∀ W,Calls Tryz.prog 119 #[.string a,.string b] W (Zjt W er)) :
  Calls Tryz.prog 134 #[.string a,.string b] w (Zhl w er):=by
 have HC:=Lh C;have h2:(er != 0)=true:=by rw [bne_iff_ne];exact h
 clear C h;go_enter Tryz.func134,Tryz.ntmps134
 go_wp2_with fail;refine (HC.out _).mono ?_;rintro e w' ⟨rfl,hbel⟩;go_wp2;go_ret2;exact ⟨rfl,(hbel.alloc hbel.size _).alloc (by have:=hbel.size;simp;omega) _⟩
theorem Z1h (a b:ByteArray) (w:World) (ha:a.size≤9223372036854775807) (hb:b.size≤9223372036854775807) (h0:Zab (bl a)=0) (h:Zab (bl b)=0) :
  Calls Tryz.prog 134 #[.string a,.string b] w (Zcv w (ival (bl a)+ival (bl b))):=by
 have HC:=Lh (fun W=>Zin a b W ha hb h0 h);have HA:=Lh (Zap h0);have HB:=Lh (Zap h);clear ha hb h0 h;go_enter Tryz.func134,Tryz.ntmps134
 go_wp2_with fail;refine (HC.out _).mono ?_;rintro e w1 ⟨va,vb,xs,ys,rfl,sa,sb,nx,ny,vx,vy,hb1⟩;rw [← vx] at HA;rw [← vy] at HB;have HVa:Hid (ival (bl a)=sgnv (Zaj (bl a)) (val 1000000000 xs)):=by show _=_;rw [ival,vx]
 have HVb:Hid (ival (bl b)=sgnv (Zaj (bl b)) (val 1000000000 ys)):=by show _=_;rw [ival,vy]
 clear vx vy HC;generalize Zaj (bl a)=na at *;generalize Zaj (bl b)=nb at *;obtain ⟨aa,ca,rfl,_⟩:=id sa;obtain ⟨ab,cb,rfl,_⟩:=id sb;have hb0:Below w1.heap.size w1 ((w1.alloc (.cells #[.bool na,.slice aa xs.length ca] 159)).alloc (.cells #[.bool nb,.slice ab ys.length cb] 159)):=Zaz _ _ _;have bx:Zai ((w1.alloc (.cells #[.bool na,.slice aa xs.length ca] 159)).alloc (.cells #[.bool nb,.slice ab ys.length cb] 159)) w1.heap.size 159 (.bool na) (.slice aa xs.length ca):=(Zai.new _ _ _ _).alloc _
 have by1:Zai ((w1.alloc (.cells #[.bool na,.slice aa xs.length ca] 159)).alloc (.cells #[.bool nb,.slice ab ys.length cb] 159)) (w1.heap.size+1) 159 (.bool nb) (.slice ab ys.length cb):=by
  have h:=Zai.new (w1.alloc (.cells #[.bool na,.slice aa xs.length ca] 159)) (.bool nb) (.slice ab ys.length cb) 159;simp at h
  exact h
 have hbW:=hb1.trans (hb0.mono hb1.size);have sa0:=Lh (sa.below hb0);have sb0:=Lh (sb.below hb0);have lx:=Zdm nx HA.out;have ly:=Zdm ny HB.out;have x0:=bx.cell0;have x1:=bx.cell1;have y0:=by1.cell0;have y1:=by1.cell1;have BY:=Lh by1;clear bx by1 hb0 hb1 sa sb;have HS:=Lh (Zrb na nb _ _ xs ys _ sa0.out sb0.out nx ny (by omega) (by omega));clear nx ny;go_wp2_with fail;refine HS.out.mono ?_;rintro e w2 ⟨neg,v,rs,rfl,sv,hn,hv,hb2⟩
 have hlen:rs.length≤100000:=by
  have:=Zrc hv hn HA.out HB.out;omega
 have HW:=Lh (Zeu neg v rs w2 sv hn hlen);clear HS x0 x1 y0 y1 sv hlen;go_wp2_with fail;refine HW.out.mono ?_;rintro e w3 ⟨t,rfl,ht,hb3⟩;have hE:Hid (wErr (val 1000000000 rs)=zErr (sgnv na (val 1000000000 xs)+sgnv nb (val 1000000000 ys))):=by show _=_;rw [← hv];exact Zgi _ _
 have hS:Hid (wStr neg (val 1000000000 rs)=zStr (sgnv na (val 1000000000 xs)+sgnv nb (val 1000000000 ys))):=by show _=_;rw [← hv];exact Zce _ _
 have hbz:=hbW.trans ((hb2.mono hbW.size).trans (hb3.mono (Nat.le_trans hbW.size hb2.size)));rw [hE.out];rw [hS.out] at ht;have Ht:=Lh ht;clear hE hS ht hv;go_wp2;go_ret2;rw [HVa.out,HVb.out];exact ⟨t,rfl,Ht.out,hbz⟩
theorem Zr5 (a b:ByteArray) (w:World) (er:Int) (h:er ≠ 0) (C:∀ W,Calls Tryz.prog 119 #[.string a,.string b] W (Zjt W er)) :
  Calls Tryz.prog 63 #[.string a,.string b] w (Zhl w er):=by
 have HC:=Lh C;have h2:(er != 0)=true:=by rw [bne_iff_ne];exact h
 clear C h;go_enter Tryz.func63,Tryz.ntmps63
 go_wp2_with fail;refine (HC.out _).mono ?_;rintro e w' ⟨rfl,hbel⟩;go_wp2;go_ret2;exact ⟨rfl,(hbel.alloc hbel.size _).alloc (by have:=hbel.size;simp;omega) _⟩
theorem Z1j (a b:ByteArray) (w:World) (ha:a.size≤9223372036854775807) (hb:b.size≤9223372036854775807) (h0:Zab (bl a)=0) (h:Zab (bl b)=0) :
  Calls Tryz.prog 63 #[.string a,.string b] w (Zcv w (ival (bl a) * ival (bl b))):=by
 have HC:=Lh (fun W=>Zin a b W ha hb h0 h);have HA:=Lh (Zap h0);have HB:=Lh (Zap h);clear ha hb h0 h;go_enter Tryz.func63,Tryz.ntmps63
 go_wp2_with fail;refine (HC.out _).mono ?_;rintro e w1 ⟨va,vb,xs,ys,rfl,sa,sb,nx,ny,vx,vy,hb1⟩;rw [← vx] at HA;rw [← vy] at HB;have HVa:Hid (ival (bl a)=sgnv (Zaj (bl a)) (val 1000000000 xs)):=by show _=_;rw [ival,vx]
 have HVb:Hid (ival (bl b)=sgnv (Zaj (bl b)) (val 1000000000 ys)):=by show _=_;rw [ival,vy]
 clear vx vy HC;generalize Zaj (bl a)=na at *;generalize Zaj (bl b)=nb at *;obtain ⟨aa,ca,rfl,_⟩:=id sa;obtain ⟨ab,cb,rfl,_⟩:=id sb;have hb0:Below w1.heap.size w1 ((w1.alloc (.cells #[.bool na,.slice aa xs.length ca] 159)).alloc (.cells #[.bool nb,.slice ab ys.length cb] 159)):=Zaz _ _ _;have bx:Zai ((w1.alloc (.cells #[.bool na,.slice aa xs.length ca] 159)).alloc (.cells #[.bool nb,.slice ab ys.length cb] 159)) w1.heap.size 159 (.bool na) (.slice aa xs.length ca):=(Zai.new _ _ _ _).alloc _
 have by1:Zai ((w1.alloc (.cells #[.bool na,.slice aa xs.length ca] 159)).alloc (.cells #[.bool nb,.slice ab ys.length cb] 159)) (w1.heap.size+1) 159 (.bool nb) (.slice ab ys.length cb):=by
  have h:=Zai.new (w1.alloc (.cells #[.bool na,.slice aa xs.length ca] 159)) (.bool nb) (.slice ab ys.length cb) 159;simp at h
  exact h
 have hbW:=hb1.trans (hb0.mono hb1.size);have sa0:=Lh (sa.below hb0);have sb0:=Lh (sb.below hb0);have lx:=Zdm nx HA.out;have ly:=Zdm ny HB.out;have x0:=bx.cell0;have x1:=bx.cell1;have y0:=by1.cell0;have y1:=by1.cell1;have BY:=Lh by1;clear bx by1 hb0 hb1 sa sb;go_wp2_with fail;obtain ⟨W0,hW0⟩:∃ W0,W0=((w1.alloc (.cells #[.bool na,.slice aa xs.length ca] 159)).alloc (.cells #[.bool nb,.slice ab ys.length cb] 159)):=⟨_,rfl⟩
 rw [← hW0] at x0 x1 y0 y1 hbW sa0 sb0 ⊢;clear hW0 BY;have HP:Hid (∀ W,Ext W0 W→Calls Tryz.prog 124 #[.slice aa xs.length ca,.slice ab ys.length cb] W fun e w'=>∃ ad c rs,e = .returned (.slice ad rs.length c)∧Hid (Sl w' (.slice ad rs.length c) 1 rs.length (nums .u32 rs)∧Nrm 1000000000 rs∧rs.length≤100000∧val 1000000000 rs=val 1000000000 xs * val 1000000000 ys)∧Ext W0 w'∧Below W.heap.size W w'):=by
  intro W hx;refine (Zgh _ _ xs ys W (sa0.out.below hx) (sb0.out.below hx) nx.1 ny.1 (by omega) (by omega)).mono ?_;rintro e w' ⟨v,rs,rfl,⟨own,hn,hb1⟩,hv⟩;have sl:=Sl.of_owns own;obtain ⟨ad,c,rfl,_⟩:=id sl;exact ⟨ad,c,rs,rfl,⟨sl,hn,Z1q hv hn HA.out HB.out,hv⟩,Below.trans hx (hb1.mono (Below.size hx)),hb1⟩
 have HZ:Hid (∀ W,Ext W0 W→W.cell? ⟨w1.heap.size,0,none⟩=some (.bool na)∧W.cell? ⟨w1.heap.size,1,none⟩=some (.slice aa xs.length ca)∧W.cell? ⟨w1.heap.size+1,0,none⟩=some (.bool nb)∧W.cell? ⟨w1.heap.size+1,1,none⟩=some (.slice ab ys.length cb)):=fun W hx=>⟨Ext.cell hx x0,Ext.cell hx x1,Ext.cell hx y0,Ext.cell hx y1⟩
 have hx0:Ext W0 W0.drew:=Below.drew (Below.refl _ _);clear nx ny;go_region_held3 (fun w'=>w'.cell? ⟨w1.heap.size,0,none⟩=some (.bool na)∧w'.cell? ⟨w1.heap.size,1,none⟩=some (.slice aa xs.length ca)∧w'.cell? ⟨w1.heap.size+1,0,none⟩=some (.bool nb)∧w'.cell? ⟨w1.heap.size+1,1,none⟩=some (.slice ab ys.length cb))
  (first | assumption | exact ⟨by assumption,by assumption,by assumption,by assumption⟩ | go_keep)
  (first | (go_at_call 124;refine (HP.out _ hx0).mono ?_;rintro e w2 ⟨ad2,cap2,rs2,rfl,own2,hx2,hb2⟩;obtain ⟨p1,p2,p3,p4⟩:=HZ.out _ hx2) | (go_at_call 121;refine (Zeu _ _ rs2 _ own2.out.1 own2.out.2.1 own2.out.2.2.1).mono ?_;rintro e w3 ⟨t,rfl,ht,hb3⟩;have hx3:=Below.trans hx2 (hb3.mono (Below.size hx2));obtain ⟨p1,p2,p3,p4⟩:=HZ.out _ hx3))
 have hv:=own2.out.2.2.2;have hE:Hid (wErr (val 1000000000 rs2)=zErr (sgnv na (val 1000000000 xs) * sgnv nb (val 1000000000 ys))):=by show _=_;rw [← Znp,← hv];exact Zgi _ _
 have hS:Hid (wStr (!(na == nb)) (val 1000000000 rs2)=zStr (sgnv na (val 1000000000 xs) * sgnv nb (val 1000000000 ys))):=by show _=_;rw [← Znp,← hv];exact Zce _ _
 have hbz:=hbW.trans (Below.mono hx3 hbW.size);rw [hE.out];rw [hS.out] at ht;have Ht:=Lh ht;clear hE hS ht hv;go_wp2;go_ret2;rw [HVa.out,HVb.out];exact ⟨t,rfl,Ht.out,hbz⟩
def Zb6 (a b:List UInt8):Int:=if Zab a ≠ 0 then Zab a else Zab b
def Zev (w:World) (a b:List UInt8) (z:Int) (e:Ending) (w':World):Prop:=if Zb6 a b=0 then Zcv w z e w' else Zhl w (Zb6 a b) e w'
theorem Zo8 {a b:List UInt8} (h0:Zab a ≠ 0):Zb6 a b=Zab a:=by rw [Zb6,if_pos h0]
theorem Zh7 {a b:List UInt8} (h0:Zab a=0):Zb6 a b=Zab b:=by rw [Zb6,if_neg (fun h=>h h0)]
theorem Zfh {w:World} {a b:List UInt8} {z:Int} {e:Ending} {w':World} (h0:Zab a=0) (h:Zab b=0) (k:Zcv w z e w'):Zev w a b z e w':=by
 rw [Zev,Zh7 h0,if_pos h];exact k
theorem Zhg {w:World} {a b:List UInt8} {z:Int} {e:Ending} {w':World} (h0:Zab a=0) (h:Zab b ≠ 0) (k:Zhl w (Zab b) e w'):Zev w a b z e w':=by
 rw [Zev,Zh7 h0,if_neg h];exact k
theorem Zhf {w:World} {a b:List UInt8} {z:Int} {e:Ending} {w':World} (h0:Zab a ≠ 0) (k:Zhl w (Zab a) e w'):Zev w a b z e w':=by
 rw [Zev,Zo8 h0,if_neg h0];exact k
theorem Zy9 (a b:ByteArray) (w:World) (ha:a.size≤9223372036854775807) (hb:b.size≤9223372036854775807) :
  Calls Tryz.prog 134 #[.string a,.string b] w (Zev w (bl a) (bl b) (ival (bl a)+ival (bl b))):=by
 by_cases h0:Zab (bl a)=0
 ·by_cases h:Zab (bl b)=0
  ·exact (Z1h a b w ha hb h0 h).mono fun e w' k=>Zfh h0 h k
  ·exact (Zr3 a b w _ h (fun W=>Zkw a b W ha hb h0 h)).mono fun e w' k=>Zhg h0 h k
 ·exact (Zr3 a b w _ h0 (fun W=>Zkv a b W ha h0)).mono fun e w' k=>Zhf h0 k
theorem Zza (a b:ByteArray) (w:World) (ha:a.size≤9223372036854775807) (hb:b.size≤9223372036854775807) :
  Calls Tryz.prog 63 #[.string a,.string b] w (Zev w (bl a) (bl b) (ival (bl a) * ival (bl b))):=by
 by_cases h0:Zab (bl a)=0
 ·by_cases h:Zab (bl b)=0
  ·exact (Z1j a b w ha hb h0 h).mono fun e w' k=>Zfh h0 h k
  ·exact (Zr5 a b w _ h (fun W=>Zkw a b W ha hb h0 h)).mono fun e w' k=>Zhg h0 h k
 ·exact (Zr5 a b w _ h0 (fun W=>Zkv a b W ha h0)).mono fun e w' k=>Zhf h0 k
theorem Tryz.ul_ints:Tryz.prog.underlying 26=some (.slice 3):=by kernel_rfl
theorem Tryz.info_int:(Tryz.prog.info? 3).map (fun i=>(i.zero,i.size,i.bytes))=some (some (.int .i64 0),1,8):=by kernel_rfl
def rdig (l:List UInt8):List Nat:=(l.map fun c=>c.toNat - 48).reverse
theorem Zk1 (c:UInt8) (l:List UInt8):rdig (c :: l)=rdig l ++ [c.toNat - 48]:=by simp [rdig]
theorem Zda (l:List UInt8):(rdig l).length=l.length:=by simp [rdig]
theorem Ze4 (l:List UInt8):val 10 (rdig l)=dval l:=by
 refine Nat.rec (motive:=fun n=>∀ m:List UInt8,m.length=n→val 10 (rdig m)=dval m) ?_ ?_ l.length l rfl
 ·intro m hm;rw [List.eq_nil_of_length_eq_zero hm];rfl
 ·intro n ih m hm;rcases List.eq_nil_or_concat m with rfl | ⟨m,c,rfl⟩
  ·rfl
  ·rw [List.concat_eq_append] at hm ⊢;have e:rdig (m ++ [c])=(c.toNat - 48) :: rdig m:=by simp [rdig]
   rw [e,Zf4,val,ih m (by simp at hm;exact hm)];omega
theorem Zjn {l:List UInt8} (h:l.all Zav=true):Dig 10 (rdig l):=by
 intro x hx;simp only [rdig,List.mem_reverse,List.mem_map] at hx;obtain ⟨c,hc,rfl⟩:=hx;have:=List.all_eq_true.1 h c hc
 simp [Zav] at this
 omega
theorem Zjk (d:List UInt8):body (45 :: d)=d:=by simp [body]
theorem Zhz (d:List UInt8):Zaj (45 :: d)=true:=by simp [Zaj]
theorem Znz (s:ByteArray) (k:Nat) (h:k < s.size):(bl s).drop k=s[k] :: (bl s).drop (k+1):=by
 have hl:k < (bl s).length:=by rw [Zae];exact h
 rw [List.drop_eq_getElem_cons hl];have e:=Ziy s k h;rw [List.getElem?_eq_getElem hl] at e;rw [Option.some.inj e]
theorem Zjy (f:UInt8→Bool) (l:List UInt8) (k:Nat) (h:l.all f=true):(l.drop k).all f=true:=by
 rw [List.all_eq_true] at h ⊢;exact fun x hx=>h x (List.mem_of_mem_drop hx)
def Zix (w:World) (e:Ending) (w':World):Prop:=e = .returned (.tuple #[.slice none 0 0,.bool false,.bool false])∧Below w.heap.size w w'
def Z2k (w:World) (neg:Bool) (xs:List Nat) (e:Ending) (w':World):Prop :=
 ∃ v,e = .returned (.tuple #[v,.bool neg,.bool true])∧Sl w' v 1 xs.length (nums .i64 xs)∧Below w.heap.size w w'
def Zei (w:World) (s:ByteArray) (e:Ending) (w':World):Prop :=
 if Zar (bl s)=true then Z2k w (Zaj (bl s)) (rdig (body (bl s))) e w' else Zix w e w'
theorem Zj7 {w:World} {s:ByteArray} {e:Ending} {w':World} (h:Zar (bl s)=false) (k:Zix w e w'):Zei w s e w':=by
 rw [Zei,if_neg (by rw [h];simp)];exact k
theorem Zob (s:ByteArray) (w:World) (h0:s.size=0) :
  Calls Tryz.prog 147 #[.string s] w (Zix w):=by
 have h1:s.toList=[]:=by rw [Lib.toList_data];exact List.eq_nil_of_length_eq_zero (by rw [← Zae] at h0;exact h0)
 have h2 : ¬ 0 < s.size:=by omega
 have h3:((s.size:Int) == 0)=true:=by rw [h0];rfl
 go_enter Tryz.func147,Tryz.ntmps147
 go_wp2;go_ret3;exact ⟨rfl,Below.refl _ _⟩
theorem Zp4 (s:ByteArray) (w:World) (hl:s.size≤1100000) (h1:1 < s.size) (h0:s[0]=48) :
  Calls Tryz.prog 147 #[.string s] w (Zix w):=by
 have h4:(0:Nat) < s.size:=by omega
 have h3:((s.size:Int) == 0)=false:=by rw [beq_eq_false_iff_ne];omega
 go_enter Tryz.func147,Tryz.ntmps147
 go_wp2;go_ret3;exact ⟨rfl,Below.refl _ _⟩
theorem Zp3 (s:ByteArray) (w:World) (hl:s.size≤1100000) (h1:0 < s.size) (h0:s[0]=45) (t:ByteArray) (ht:s.extract 1 s.size=t) (h2:t.size=0) :
  Calls Tryz.prog 147 #[.string s] w (Zix w):=by
 have h3:((t.size:Int) == 0)=true:=by rw [h2];rfl
 go_enter Tryz.func147,Tryz.ntmps147
 go_wp2;go_ret3;exact ⟨rfl,Below.refl _ _⟩
theorem Zoc (s:ByteArray) (w:World) (hl:s.size≤1100000) (h1:0 < s.size) (h0:s[0]=45) (t:ByteArray) (ht:s.extract 1 s.size=t) (h2:0 < t.size) (h5:t[0]=48) :
  Calls Tryz.prog 147 #[.string s] w (Zix w):=by
 have h3:((t.size:Int) == 0)=false:=by rw [beq_eq_false_iff_ne];omega
 have hme:t.size≤1100000:=by
  have et:=congrArg List.length (Zig s h1);rw [ht,Zae,List.length_tail,Zae] at et;omega
 by_cases h6:1 < t.size
 all_goals
  go_enter Tryz.func147,Tryz.ntmps147
  go_wp2;go_ret3;exact ⟨rfl,Below.refl _ _⟩
theorem Zg9 (s u:ByteArray) (neg:Bool) (w:World) (hl:s.size≤1100000) (hlu:u.size≤1100000) (h1:0 < s.size) (h2:0 < u.size) (HC:Zar (bl s)=(bl u).all Zav) (HB:body (bl s)=bl u) (HNg:Zaj (bl s)=neg)
  (hc:neg=false∧u=s∧s[0] ≠ 45∧s[0] ≠ 48∨neg=false∧u=s∧s.size=1∧s[0]=48∨neg=true∧s[0]=45∧s.extract 1 s.size=u∧u[0] ≠ 48) :
  Calls Tryz.prog 147 #[.string s] w (Zei w s):=by
 obtain ⟨i0,hi,hz0,hz1,hz2⟩:=info_parts Tryz.info_int;have HX:Hid (∀ wr,(bl u).all Zav=false→Below w.heap.size w wr→Zei w s (.returned (.tuple #[.slice none 0 0,.bool false,.bool false])) wr):=Lh fun wr h hb=>Zj7 (by rw [HC];exact h) ⟨rfl,hb⟩
 have HY:Hid (∀ wr ad cap,(bl u).all Zav=true→wr.ownsRow w.heap.size 3 1 (.slice ad u.size cap) u.size (nums .i64 (rdig (bl u)))→Below w.heap.size w wr→Zei w s (.returned (.tuple #[.slice ad u.size cap,.bool neg,.bool true])) wr):=Lh fun wr ad cap h ho hb=>by
  rw [Zei,if_pos (by rw [HC];exact h),HB,HNg];exact ⟨_,rfl,by rw [Zda,Zae];exact Sl.of_owns ho,hb⟩
 have hne:((u.size:Int) == 0)=false:=by rw [beq_eq_false_iff_ne];omega
 have hn:∀ (c:UInt8) (n:Nat),n < 256→c ≠ UInt8.ofNat n→((c.toNat:Int) == (n:Int))=false:=fun c n hn h=>by
  rw [beq_eq_false_iff_ne];exact fun e=>h (UInt8.toNat_inj.1 (by simp;omega))
 have hn45:=fun c=>hn c 45 (by decide)
 have hn48:=fun c=>hn c 48 (by decide)
 obtain ⟨c0,hc0⟩:∃ c,u[0]=c:=⟨_,rfl⟩
 clear hn HC HB HNg;generalize Zei w s=P at *;rcases hc with ⟨rfl,rfl,hm,h0⟩ | ⟨rfl,rfl,h0,hz⟩ | ⟨rfl,hm,ht,h0⟩
 have hm1:((c0.toNat:Int) == 45)=false:=hn45 c0 (by rw [← hc0];exact hm);have hp:((c0.toNat:Int) == 48)=false:=hn48 c0 (by rw [← hc0];exact h0);clear hm h0;rotate_left
 have hm1:((c0.toNat:Int) == 45)=false:=by rw [← hc0,hz];rfl
 have hp:((c0.toNat:Int) == 48)=true:=by rw [← hc0,hz];rfl
 have hq : ¬ 1 < u.size:=by omega
 clear hz;rotate_left
 have hp:((c0.toNat:Int) == 48)=false:=hn48 c0 (by rw [← hc0];exact h0);clear h0;rotate_left
 all_goals
  clear hn45 hn48;go_enter Tryz.func147,Tryz.ntmps147
  go_wp2_with fail;go_loopw [7,8] (fun ds i wr=>∃ (k:Nat) (adb:Option Addr) (capb:Nat),k≤u.size∧i = .int .i64 (k - 1)∧ds = .slice adb (u.size - k) capb ∧
    wr.ownsRow w.heap.size 3 1 (.slice adb (u.size - k) capb) (u.size - k) (nums .i64 (rdig ((bl u).drop k)))∧Hid (((bl u).drop k).all Zav=true)∧Below w.heap.size w wr)
   (fun _ i _=>(intOf i+1).toNat)
  case atStart=>exact ⟨u.size,none,0,Nat.le_refl _,by go_num,by rw [Nat.sub_self],by rw [Nat.sub_self,List.drop_of_length_le (by rw [Zae];exact Nat.le_refl _)];exact World.ownsRow_nil _ _ _ _,by show _=_;rw [List.drop_of_length_le (by rw [Zae];exact Nat.le_refl _)];rfl,Below.refl _ _⟩
  case round =>
   obtain ⟨k,adb,capb,hk,rfl,rfl,hown,Hall,hbel⟩:=hrel;by_cases h0:0 < k
   ·obtain ⟨k,rfl⟩:∃ k',k=k'+1:=⟨k - 1,by omega⟩
    have e1:((k+1:Nat):Int) - 1=(k:Int):=by omega
    rw [e1];have Hcons:=Lh (Znz u k (by omega));have hkl:k < u.size:=by omega
    obtain ⟨c,hc⟩:∃ c,u[k]=c:=⟨_,rfl⟩
    rw [hc] at Hcons;have hcb:c.toNat < 256:=c.toNat_lt;have HF:Hid (c.toNat < 48∨57 < c.toNat→(bl u).all Zav=false):=Lh (by
     intro h;rw [Bool.eq_false_iff];intro hall;have:=Zjy Zav (bl u) k hall
     rw [Hcons.out] at this;simp [Zav] at this
     omega)
    by_cases h1:c.toNat < 48
    ·have HG:=Lh (HX.out wr (HF.out (.inl h1)) hbel);have d1:decide (((c.toNat:Nat):Int) < 48)=true:=by rw [decide_eq_true_eq];omega
     have d1' : ¬ ((48:Int)≤((c.toNat:Nat):Int)):=by omega
     go_wp2;go_ret3;exact HG.out
    ·have d1:decide (((c.toNat:Nat):Int) < 48)=false:=by rw [decide_eq_false_iff_not];omega
     by_cases h2:c.toNat≤57
     ·have d2:decide ((57:Int) < ((c.toNat:Nat):Int))=false:=by rw [decide_eq_false_iff_not];omega
      have Hall2:Hid (((bl u).drop k).all Zav=true):=by
       show _=true;rw [Hcons.out,List.all_cons,Hall.out];simp [Zav];omega
      have hsz:=hbel.size;have x1:IntKind.u8.wrap ((c.toNat:Int) - 48)=((c.toNat - 48:Nat):Int):=by
       rw [IntWalk.u8_in _ (by omega)];omega
      obtain ⟨N,hN⟩:∃ N,u.size - (k+1)=N:=⟨_,rfl⟩
      have hN1:u.size - k=N+1:=by omega
      have hNb:N≤1100000:=by omega
      have HN1:=Lh hN1;rw [hN] at hown ⊢;clear hN hN1;go_wp2_with (at_builtin;refine wpList_append_own _ rfl _ _ 26 rfl w.heap.size 3 i0 (.int .i64 0) 1 8 Tryz.ul_ints hi hz0 hz1 hz2 rfl (by decide) _ _ _ rfl (hown.alloc _) ⟨wr.heap.size,0,none⟩ 1 1 [_] rfl rfl (cell_one_new _ _ _) (Zas _ _) ?d1 ?d2 ?d3 ?_)
      case d1=>unfold maxLen;omega
      case d2=>omega
      case d3=>simp;omega
      intro v2 w2 hown2 hgrow2 _;have hbel2:Below w.heap.size w w2:=(hbel.alloc hsz _).grown hgrow2 (by simp;omega) (fun k hk=>(hown.lt k hk).1);have ed:((c.toNat:Int) - 48)=((c.toNat - 48:Nat):Int):=by omega
      try rw [ed] at hown2
      rw [Za1,← Zk1,← Hcons.out,← HN1.out] at hown2;obtain ⟨ad3,cap3,rfl,_⟩:=Sl.of_owns hown2;clear hgrow2 hown hbel;go_wp2;go_roundw
      case rel=>exact ⟨k,ad3,cap3,by omega,by go_num,rfl,hown2,Hall2,hbel2⟩
      case measure=>simp [intOf]
     ·have HG:=Lh (HX.out wr (HF.out (.inr (by omega))) hbel);have d2:decide ((57:Int) < ((c.toNat:Nat):Int))=true:=by rw [decide_eq_true_eq];omega
      have d2' : ¬ (((c.toNat:Nat):Int)≤57):=by omega
      go_wp2;go_ret3;exact HG.out
   ·obtain rfl:k=0:=by omega
    rw [Nat.sub_zero] at hown ⊢;have HP:=Lh (HY.out wr adb capb Hall.out hown hbel);go_wp2;go_ret3;exact HP.out
theorem Zlv (s:ByteArray) (w:World) (hl:s.size≤1100000) :
  Calls Tryz.prog 147 #[.string s] w (Zei w s):=by
 have bad:Zar (bl s)=false→Calls Tryz.prog 147 #[.string s] w (Zix w)→Calls Tryz.prog 147 #[.string s] w (Zei w s) :=
  fun h k=>k.mono fun e w' hb=>Zj7 h hb
 by_cases h1:0 < s.size
 ·have e:=Zby s h1;by_cases hm:s[0]=45
  ·have et:=Zig s h1;by_cases h2:0 < (s.extract 1 s.size).size
   ·by_cases h0:(s.extract 1 s.size)[0]=48
    ·refine bad ?_ (Zoc s w hl h1 hm _ rfl h2 h0);have e2:=Zby _ h2;rw [h0] at e2;rw [e,hm,← et,e2];simp [Zar,body,Zaj,Zcg]
    ·rw [hm,← et] at e;refine Zg9 s (s.extract 1 s.size) true w hl (by simp;omega) h1 h2 ?_ (by rw [e,Zjk]) (by rw [e,Zhz]) (.inr (.inr ⟨rfl,hm,rfl,h0⟩));rw [Zar,e,Zjk,Zhz,Zcg];have a1:(bl (s.extract 1 s.size)).isEmpty=false:=by rw [Zby _ h2];rfl
     have a2:((bl (s.extract 1 s.size)).head? == some 48 && (decide (1 < (bl (s.extract 1 s.size)).length) || true))=false:=by rw [Zby _ h2];simpa using h0
     rw [a1,a2];simp
   ·refine bad ?_ (Zp3 s w hl h1 hm _ rfl (by omega));have e2:bl (s.extract 1 s.size)=[]:=List.eq_nil_of_length_eq_zero (by rw [Zae];omega);rw [e,hm,← et,e2];rfl
  ·have hh:(bl s).head? ≠ some 45:=by rw [e];simpa using hm
   have HB:body (bl s)=bl s:=by rw [body,if_neg hh]
   have HN:Zaj (bl s)=false:=by rw [Zaj];simpa using hh
   have HC:((bl s).head? == some 48 && decide (1 < (bl s).length))=false→Zar (bl s)=(bl s).all Zav:=fun h=>by
    rw [Zar,HB,HN,Zcg,Bool.or_false,h,show (bl s).isEmpty=false by rw [e];rfl];simp
   by_cases h0:s[0]=48
   ·by_cases h2:1 < s.size
    ·refine bad ?_ (Zp4 s w hl h2 h0);have hn:(bl s).tail ≠ []:=fun hh=>by have:=congrArg List.length e;rw [hh,Zae] at this;simp at this;omega
     rw [e,h0]
     cases ht:(bl s).tail with
     | nil=>exact absurd ht hn
     | cons a b=>simp [Zar,body,Zaj,Zcg]
    ·exact Zg9 s s false w hl hl h1 h1 (HC (by simp [Zae];omega)) HB HN (.inr (.inl ⟨rfl,rfl,by omega,h0⟩))
   ·exact Zg9 s s false w hl hl h1 h1 (HC (by rw [e];simp;intro hh;exact absurd hh h0)) HB HN (.inl ⟨rfl,rfl,hm,h0⟩)
 ·refine bad ?_ (Zob s w (by omega));have:bl s=[]:=List.eq_nil_of_length_eq_zero (by rw [Zae];omega)
  rw [this];rfl
end Go.Proofs.YtknpnhodpgajbaaGreatDoor
