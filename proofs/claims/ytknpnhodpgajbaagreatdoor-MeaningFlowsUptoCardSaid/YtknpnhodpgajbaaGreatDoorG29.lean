/- A part. -/
import Derived.Test.YtknpnhodpgajbaaGreatDoorG25
set_option maxHeartbeats 8000000
set_option maxRecDepth 100000
namespace Go.Proofs.YtknpnhodpgajbaaGreatDoor
open Go.RowKit
theorem Zlg:Tryz.prog.underlying 26=some (.slice 3):=by kernel_rfl
theorem Zl1:(Tryz.prog.info? 3).map (fun i=>(i.zero,i.size,i.bytes))=some (some (.int .i64 0),1,8):=by kernel_rfl
theorem Zi7 (n:Int):∀ u ∈ [Value.int .i64 n],u.oneCell'=true:=by intro u hu;simp at hu;subst hu;rfl
theorem Zlc {k:Nat} {ra nm:ByteArray} {d:Int} {l:List Nat} (hs:Zbl k=none) (h:Zb9 k ra nm d l.length):Zd9 k ra nm d l=1:=by
 unfold Zd9 Zdn;rw [hs];exact @if_pos _ (Classical.propDecidable _) h _ _ _
theorem Zg2 {k:Nat} {ra nm:ByteArray} {d:Int} {l:List Nat} (hs:Zbl k=none) (h : ¬ Zb9 k ra nm d l.length):Zd9 k ra nm d l=0:=by
 unfold Zd9 Zdn;rw [hs];exact @if_neg _ (Classical.propDecidable _) h _ _ _
theorem Zld {k:Nat} {ra nm:ByteArray} {d:Int} {l ps:List Nat} {own:Nat} (hs:Zbl k=some (ps,own)) (h:ra.size=0∧nm.size=0∧d=0∧l=ps):Zd9 k ra nm d l=own:=by
 unfold Zd9;rw [hs];exact if_pos h
theorem Zg3 {k:Nat} {ra nm:ByteArray} {d:Int} {l ps:List Nat} {own:Nat} (hs:Zbl k=some (ps,own)) (h : ¬ (ra.size=0∧nm.size=0∧d=0∧l=ps)):Zd9 k ra nm d l=0:=by
 unfold Zd9;rw [hs];exact if_neg h
def RSrt (w:World) (x:Ex) (s:Value) (v:Value) (wc:World):Prop:=wc.ownsRow (w.heap.size+1) 3 1 v x.sub.length (nums .i64 (Ex.sorts x.sub))∧Below w.heap.size w wc∧EBox wc w.heap.size x s
theorem Zw6 {k:Nat} (h:4≤k∧k≤8∨16≤k):((k:Int) == 1)=false∧((k:Int) == 2)=false∧((k:Int) == 3)=false∧decide ((4:Int)≤(k:Int))=true∧((k:Int) == 9)=false∧((k:Int) == 11)=false∧((k:Int) == 12)=false∧((k:Int) == 13)=false∧((k:Int) == 14)=false∧((k:Int) == 15)=false:=by
 refine ⟨?_,?_,?_,?_,?_,?_,?_,?_,?_,?_⟩ <;> simp <;> omega
theorem is_1 (a:Nat):a=1∨(a ≠ 1∧((a:Int) == 1)=false):=by
 by_cases h:a=1
 ·exact .inl h
 ·exact .inr ⟨h,by simp;omega⟩
theorem is_2 (a:Nat):a=2∨(a ≠ 2∧((a:Int) == 2)=false):=by
 by_cases h:a=2
 ·exact .inl h
 ·exact .inr ⟨h,by simp;omega⟩
theorem Zxd {k:Nat} {ra nm:ByteArray} {d:Int} {l ps:List Nat} {own R:Nat} {B:Bool} (HR:R=Zd9 k ra nm d l) (HB:B=(decide (ra.size=0) && (decide (nm.size=0) && decide (d=0)))) (hs:Zbl k=some (ps,own)):(B=false→R=0)∧(B=true→l=ps→R=own)∧(l ≠ ps→R=0):=by
 refine ⟨fun h=>?_,fun h hl=>?_,fun h=>?_⟩
 ·rw [HR];exact Zg3 hs (fun q=>by subst h;simp [q.1,q.2.1,q.2.2.1] at HB)
 ·have hp:ra.size=0∧nm.size=0∧d=0:=by subst h;simpa using HB.symm
  rw [HR];exact Zld hs ⟨hp.1,hp.2.1,hp.2.2,hl⟩
 ·rw [HR];exact Zg3 hs (fun q=>h q.2.2.2)
theorem rs_a (x:Ex) (s:Value) (w:World) (hkk:x.k=1∨x.k=2∨x.k=3∨(x.k=0∨x.k=10∨16≤x.k)∨x.k=9∨x.k=15) (hB:x.bulk≤1100000) (HI:Hid (∀ y,y ∈ x.sub→∀ (s:Value) (W:World),y.k < 256→RdE W y.sub s→Calls Tryz.prog 177 #[y.val s] W fun e w'=>e = .returned (.int .i64 ((y.sort:Nat):Int))∧Below W.heap.size W w')) (hs:RdE w x.sub s) :
  Calls Tryz.prog 177 #[x.val s] w fun e w'=>e = .returned (.int .i64 ((x.sort:Nat):Int))∧Below w.heap.size w w':=by
 obtain ⟨ad,cap,rfl⟩:=hs.len;obtain ⟨i0,hi,hz0,hz1,hz2⟩:=info_parts Zl1;have HS:=Lh hs;have hlen:=Ex.bulks_len x.sub;have hlt0:=x.sub_lt;have hbq:=x.bulk_eq;have hn:x.sub.length≤1100000:=by omega
 have hra:x.ra.size≤1100000:=by omega
 have hnm:x.nm.size≤1100000:=by omega
 have hb0:=Zac w (.cells #[.int .u8 x.k,.string x.ra,.string x.nm,.int .i64 x.d,.slice ad x.sub.length cap] 25);have HX0:=Lh (EBox.new w x (.slice ad x.sub.length cap) 25);obtain ⟨B,HBB⟩:∃ B:Bool,Hid (B=(decide (x.ra.size=0) && (decide (x.nm.size=0) && decide (x.d=0)))):=⟨_,rfl⟩
 have HR:Hid (x.sort=Zd9 x.k x.ra x.nm x.d (Ex.sorts x.sub)):=Lh x.sort_eq;generalize x.sort=R at HR ⊢;clear hs hbq;unfold Ex.val;go_enter Tryz.func177,Tryz.ntmps177
 go_upto_region 1 with fail
 go_cut [3] from 7 to 19 (fun b wc=>b = .bool B∧wc=w.alloc (.cells #[.int .u8 x.k,.string x.ra,.string x.nm,.int .i64 x.d,.slice ad x.sub.length cap] 25))
 case first =>
  go_wp2_with fail
  all_goals
   go_meet
   refine ⟨?_,rfl⟩;rw [HBB.out];simp [*,Zcl] <;> rfl
 case rest =>
  obtain ⟨rfl,rfl⟩:=hcut;go_upto_block 0 with fail
  go_cut [4,5] from 20 to 35 (fun v _ wc=>RSrt w x (.slice ad x.sub.length cap) v wc)
  case first =>
   go_wp2_with fail;go_loopw [4,5] (fun v i wr=>∃ (k:Nat) (adb:Option Addr) (capb:Nat),k≤x.sub.length∧i = .int .i64 (k:Int)∧v = .slice adb k capb∧wr.ownsRow (w.heap.size+1) 3 1 (.slice adb k capb) k (nums .i64 ((Ex.sorts x.sub).take k))∧Below w.heap.size w wr∧EBox wr w.heap.size x (.slice ad x.sub.length cap)) (fun _ i _=>x.sub.length - (intOf i).toNat)
   case atStart=>exact ⟨0,none,0,Nat.zero_le _,rfl,rfl,World.ownsRow_nil _ _ _ _,hb0,HX0.out⟩
   case round =>
    clear hb0 HX0;obtain ⟨k,adb,capb,hk,rfl,rfl,hown,hbel,hbox⟩:=hrel;have HBX:=Lh hbox;by_cases hlt:k < x.sub.length
    ·obtain ⟨y,hy⟩:∃ y,x.sub[k]? = some y:=⟨_,List.getElem?_eq_getElem hlt⟩
     obtain ⟨b,off,s',rfl,c0,c1,c2,c3,c4,hs',hy8⟩:=(HS.out.frame hbel).at hy;obtain ⟨_,_,_,_,q4⟩:=hbox;have hblk:b < wr.heap.size:=World.block_lt_of_cell? wr _ c0;have hbx:w.heap.size < wr.heap.size:=World.block_lt_of_cell? wr _ q4;have hzw:=hbel.size;have hk1:(0:Int)≤(k:Int):=by omega
     have hk2:(k:Int) < (x.sub.length:Int):=by omega
     have HSn:Hid (nums .i64 ((Ex.sorts x.sub).take (k+1))=nums .i64 ((Ex.sorts x.sub).take k) ++ [.int .i64 ((y.sort:Nat):Int)]):=Lh (by
      rw [Zau (show (Ex.sorts x.sub)[k]? = some y.sort by rw [Ex.sorts_eq,List.getElem?_map,hy];rfl),Za1])
     have HC:=Lh (HI.out y (List.mem_of_getElem? hy) s' wr hy8 hs');unfold Ex.val at HC;generalize y.sort=Y at HC HSn;clear hy hs';go_wp2_with fail;refine HC.out.mono ?_;rintro e w1 ⟨rfl,hb1⟩;have hown1:=Zag hown hb1;have hbel1:=hbel.trans (hb1.mono hzw);have hbox1:=HBX.out.low hb1;have hy1:=hb1.size;clear hown hbel hb1 c0 c1 c2 c3 c4 HC;have hlt1:=hown1.lt;go_wp2_with (at_builtin;refine wpList_append_own _ rfl _ _ 26 rfl (w.heap.size+1) 3 i0 (.int .i64 0) 1 8 Zlg hi hz0 hz1 hz2 rfl (by decide) _ _ _ rfl (hown1.alloc _) ⟨w1.heap.size,0,none⟩ 1 1 [_] rfl rfl (cell_one_new _ _ _) (Zi7 _) ?d1 ?d2 ?d3 ?_)
     case d1=>unfold maxLen;omega
     case d2=>omega
     case d3=>simp;omega
     intro v2 w2 hown2 hgrow2 _;have hbel2:Below w.heap.size w w2:=(hbel1.alloc (by omega) _).grown hgrow2 (by simp;omega) (fun k hk=>by have:=(hlt1 k hk).1;omega);have hbox2:EBox w2 w.heap.size x (.slice (some ⟨b,off,none⟩) x.sub.length cap):=(hbox1.low (Zac _ _)).kept fun o u hc=>by
      rw [World.cell?_of_block (w:=w1.alloc (.cells #[.int .i64 (Y:Int)] 3)) (hgrow2.block w.heap.size (by simp;omega) (fun e=>by have:=(hlt1 _ e.symm).1;omega))];exact hc
     obtain ⟨ad3,cap3,rfl,_⟩:=Sl.of_owns hown2;rw [← HSn.out] at hown2;clear hgrow2 hown1 hbel1 hlt1 hbox1;go_wp2;go_roundw
     case rel=>exact ⟨k+1,ad3,cap3,by omega,by go_num,rfl,hown2,hbel2,hbox2⟩
     case measure=>simp [intOf];omega
    ·obtain rfl:k=x.sub.length:=by omega
     have HR:Hid (RSrt w x (.slice ad x.sub.length cap) (.slice adb x.sub.length capb) wr):=by
      rw [List.take_of_length_le (by rw [Ex.sorts_length];exact Nat.le_refl _)] at hown;exact ⟨hown,hbel,hbox⟩
     obtain ⟨_,_,_,_,q4⟩:=hbox;clear hown hbel;go_wp2;go_meet
     exact HR.out
  case rest =>
   obtain ⟨hown,hbel,hbox⟩:=hcut;obtain ⟨adv,capv,rfl,hcl,_,hsl⟩:=Sl.of_owns hown;have hLl:=Ex.sorts_length x.sub;obtain ⟨c0,c1,c2,c3,_⟩:=hbox;have hbx:w.heap.size < wc.heap.size:=World.block_lt_of_cell? wc _ c0;generalize Ex.sorts x.sub=L at *;clear HS HI hb0 HX0 hown hlen hlt0 hB;have HRt:=Lh (fun W=>Zdx x.ra W hra);have HNa:=Lh (fun W=>Zd4 x.nm W (by omega));have HDa:=Lh (fun W=>Zgp x.d W);have HLf:∀ n,x.k=n→Zbl n=none→Hid (Zb9 n x.ra x.nm x.d x.sub.length→R=1)∧Hid (¬ Zb9 n x.ra x.nm x.d x.sub.length→R=0):=fun n hk hs=>⟨Lh fun h=>by rw [HR.out,hk];exact Zlc hs (by rw [hLl];exact h),Lh fun h=>by rw [HR.out,hk];exact Zg2 hs (by rw [hLl];exact h)⟩
   rcases hkk with hk | hk | hk | hk | hk | hk
   ·obtain ⟨HY,HX⟩:=HLf 1 hk rfl;rw [hk] at c0;replace c0:wc.cell? ⟨w.heap.size,0,none⟩=some (.int .u8 1):=c0;clear HR hsl hk HLf HNa HDa;go_wp2_with (go_at_call 97;refine (HRt.out _).mono ?_;rintro e w1 ⟨rfl,hb1⟩;have d0:w1.cell? ⟨w.heap.size,0,none⟩=some (.int .u8 1):=(by rw [hb1.cell (p:=⟨w.heap.size,0,none⟩) hbx];exact c0);have hb2:Below w.heap.size w w1:=hbel.trans (hb1.mono hbel.size))
    all_goals
     go_ret;first
      | exact ⟨by rw [HY.out (by clear HRt;simp_all [Zb9,Zcl])];rfl,by assumption⟩
      | exact ⟨by rw [HX.out (by clear HRt;simp_all [Zb9,Zcl])];rfl,by assumption⟩
   ·obtain ⟨HY,HX⟩:=HLf 2 hk rfl;rw [hk] at c0;replace c0:wc.cell? ⟨w.heap.size,0,none⟩=some (.int .u8 2):=c0;clear HR hsl hk HLf HRt
    cases hnm:isNm (bl x.nm) <;> cases hdy:Zbh x.d <;> rw [hnm] at HNa <;> rw [hdy] at HDa
    all_goals
     go_wp2_with (first
      | (go_at_call 96;refine (HNa.out _).mono ?_;rintro e w1 ⟨rfl,rfl⟩)
      | (go_at_call 47;refine (HDa.out _).mono ?_;rintro e w1 ⟨rfl,rfl⟩))
    all_goals
     go_ret;first
      | exact ⟨by rw [HY.out (by clear HNa HDa;simp_all [Zb9,Zcl])];rfl,by assumption⟩
      | exact ⟨by rw [HX.out (by clear HNa HDa;simp_all [Zb9,Zcl])];rfl,by assumption⟩
   ·obtain ⟨HY,HX⟩:=HLf 3 hk rfl;rw [hk] at c0;replace c0:wc.cell? ⟨w.heap.size,0,none⟩=some (.int .u8 3):=c0;clear HR hsl hk HLf HRt HDa
    cases hnm:isNm (bl x.nm) <;> rw [hnm] at HNa
    all_goals
     go_wp2_with (go_at_call 96;refine (HNa.out _).mono ?_;rintro e w1 ⟨rfl,rfl⟩)
    all_goals
     go_ret;first
      | exact ⟨by rw [HY.out (by clear HNa;simp_all [Zb9,Zcl])];rfl,by assumption⟩
      | exact ⟨by rw [HX.out (by clear HNa;simp_all [Zb9,Zcl])];rfl,by assumption⟩
   ·clear HRt HNa HDa HLf;have hS:Zbl x.k=none:=by
     unfold Zbl;rw [if_neg (by omega),if_neg (by omega),if_neg (by omega),if_neg (by omega),if_neg (by omega)]
    have HF:Hid (R=0):=Lh (by rw [HR.out];exact Zg2 hS (by unfold Zb9;omega));clear HR hS hsl;rcases hk with hk | hk | hk
    all_goals
     first
      | (rw [hk] at c0;simp only [Int.cast_ofNat_Int] at c0;clear hk)
      | (obtain ⟨t1,t2,t3,t4,t9,t11,t12,t13,t14,t15⟩:=Zw6 (.inr hk);have t8:decide ((x.k:Int)≤8)=false:=by simp;omega)
     go_wp2_with fail;go_ret;exact ⟨by rw [HF.out];rfl,hbel⟩
   ·clear HRt HNa HDa HLf;have hS:Zbl x.k=some ([2,1,1],1):=by rw [hk];rfl
    obtain ⟨HF,HY,HX⟩:=Zxd HR.out HBB.out hS;rw [hk] at c0;replace c0:wc.cell? ⟨w.heap.size,0,none⟩=some (.int .u8 9):=c0;clear HR hS HBB hk
    cases B
    ·clear hsl HX HY;replace HF:=Lh (HF rfl);go_wp2_with fail;go_ret;exact ⟨by rw [HF.out];rfl,hbel⟩
    ·clear HF;by_cases hln:x.sub.length=3
     ·obtain ⟨a,b,c,rfl⟩:∃ a b c,L=[a,b,c]:=by
       rw [hln] at hLl;match L,hLl with
       | [a,b,c],_=>exact ⟨a,b,c,rfl⟩
      obtain h0 | ⟨g,off,rfl,hg⟩:=hsl
      ·omega
      have g0:wc.cell? ⟨g,off,none⟩=some (.int .i64 (a:Int)):=hg 0 _ rfl;have g1:=hg 1 _ rfl;have g2:=hg 2 _ rfl;have hgl:g < wc.heap.size:=World.block_lt_of_cell? wc _ g0;rw [hln];clear hg hLl;rcases is_2 a with rfl | ⟨h0,t0⟩
      rcases is_1 b with rfl | ⟨h1,t0⟩
      rcases is_1 c with rfl | ⟨h2,t0⟩
      all_goals
       first
        | (have HF:=Lh (HY rfl rfl))
        | (have HF:=Lh (HX (fun e=>h2 (List.cons.inj (List.cons.inj (List.cons.inj e).2).2).1)))
        | (have HF:=Lh (HX (fun e=>h1 (List.cons.inj (List.cons.inj e).2).1)))
        | (have HF:=Lh (HX (fun e=>h0 (List.cons.inj e).1)))
       clear HX HY;try simp only [Int.cast_ofNat_Int] at g0 g1 g2
       go_wp2_with fail;go_ret;exact ⟨by rw [HF.out];rfl,hbel⟩
     ·have HF:=Lh (HX (fun h=>hln (by rw [← hLl,h];rfl)));have t0:((x.sub.length:Int) == 3)=false:=by simp;omega
      clear HX HY hsl;go_wp2_with fail;go_ret;exact ⟨by rw [HF.out];rfl,hbel⟩
   ·clear HRt HNa HDa HLf;have hS:Zbl x.k=some ([2],2):=by rw [hk];rfl
    obtain ⟨HF,HY,HX⟩:=Zxd HR.out HBB.out hS;rw [hk] at c0;replace c0:wc.cell? ⟨w.heap.size,0,none⟩=some (.int .u8 15):=c0;clear HR hS HBB hk
    cases B
    ·clear hsl HX HY;replace HF:=Lh (HF rfl);go_wp2_with fail;go_ret;exact ⟨by rw [HF.out];rfl,hbel⟩
    ·clear HF;by_cases hln:x.sub.length=1
     ·obtain ⟨a,rfl⟩:∃ a,L=[a]:=by
       rw [hln] at hLl;match L,hLl with
       | [a],_=>exact ⟨a,rfl⟩
      obtain h0 | ⟨g,off,rfl,hg⟩:=hsl
      ·omega
      have g0:wc.cell? ⟨g,off,none⟩=some (.int .i64 (a:Int)):=hg 0 _ rfl;have hgl:g < wc.heap.size:=World.block_lt_of_cell? wc _ g0;rw [hln];clear hg hLl;rcases is_2 a with rfl | ⟨h0,t0⟩
      all_goals
       first
        | (have HF:=Lh (HY rfl rfl))
        | (have HF:=Lh (HX (fun e=>h0 (List.cons.inj e).1)))
       clear HX HY;try simp only [Int.cast_ofNat_Int] at g0
       go_wp2_with fail;go_ret;exact ⟨by rw [HF.out];rfl,hbel⟩
     ·have HF:=Lh (HX (fun h=>hln (by rw [← hLl,h];rfl)));have t0:((x.sub.length:Int) == 1)=false:=by simp;omega
      clear HX HY hsl;go_wp2_with fail;go_ret;exact ⟨by rw [HF.out];rfl,hbel⟩
theorem rs_b (x:Ex) (s:Value) (w:World) (hkk:x.k=11∨x.k=12∨x.k=13∨x.k=14∨(4≤x.k∧x.k≤8)) (hB:x.bulk≤1100000) (HI:Hid (∀ y,y ∈ x.sub→∀ (s:Value) (W:World),y.k < 256→RdE W y.sub s→Calls Tryz.prog 177 #[y.val s] W fun e w'=>e = .returned (.int .i64 ((y.sort:Nat):Int))∧Below W.heap.size W w')) (hs:RdE w x.sub s) :
  Calls Tryz.prog 177 #[x.val s] w fun e w'=>e = .returned (.int .i64 ((x.sort:Nat):Int))∧Below w.heap.size w w':=by
 obtain ⟨ad,cap,rfl⟩:=hs.len;obtain ⟨i0,hi,hz0,hz1,hz2⟩:=info_parts Zl1;have HS:=Lh hs;have hlen:=Ex.bulks_len x.sub;have hlt0:=x.sub_lt;have hbq:=x.bulk_eq;have hn:x.sub.length≤1100000:=by omega
 have hra:x.ra.size≤1100000:=by omega
 have hnm:x.nm.size≤1100000:=by omega
 have hb0:=Zac w (.cells #[.int .u8 x.k,.string x.ra,.string x.nm,.int .i64 x.d,.slice ad x.sub.length cap] 25);have HX0:=Lh (EBox.new w x (.slice ad x.sub.length cap) 25);obtain ⟨B,HBB⟩:∃ B:Bool,Hid (B=(decide (x.ra.size=0) && (decide (x.nm.size=0) && decide (x.d=0)))):=⟨_,rfl⟩
 have HR:Hid (x.sort=Zd9 x.k x.ra x.nm x.d (Ex.sorts x.sub)):=Lh x.sort_eq;generalize x.sort=R at HR ⊢;clear hs hbq;unfold Ex.val;go_enter Tryz.func177,Tryz.ntmps177
 go_upto_region 1 with fail
 go_cut [3] from 7 to 19 (fun b wc=>b = .bool B∧wc=w.alloc (.cells #[.int .u8 x.k,.string x.ra,.string x.nm,.int .i64 x.d,.slice ad x.sub.length cap] 25))
 case first =>
  go_wp2_with fail
  all_goals
   go_meet
   refine ⟨?_,rfl⟩;rw [HBB.out];simp [*,Zcl] <;> rfl
 case rest =>
  obtain ⟨rfl,rfl⟩:=hcut;go_upto_block 0 with fail
  go_cut [4,5] from 20 to 35 (fun v _ wc=>RSrt w x (.slice ad x.sub.length cap) v wc)
  case first =>
   go_wp2_with fail;go_loopw [4,5] (fun v i wr=>∃ (k:Nat) (adb:Option Addr) (capb:Nat),k≤x.sub.length∧i = .int .i64 (k:Int)∧v = .slice adb k capb∧wr.ownsRow (w.heap.size+1) 3 1 (.slice adb k capb) k (nums .i64 ((Ex.sorts x.sub).take k))∧Below w.heap.size w wr∧EBox wr w.heap.size x (.slice ad x.sub.length cap)) (fun _ i _=>x.sub.length - (intOf i).toNat)
   case atStart=>exact ⟨0,none,0,Nat.zero_le _,rfl,rfl,World.ownsRow_nil _ _ _ _,hb0,HX0.out⟩
   case round =>
    clear hb0 HX0;obtain ⟨k,adb,capb,hk,rfl,rfl,hown,hbel,hbox⟩:=hrel;have HBX:=Lh hbox;by_cases hlt:k < x.sub.length
    ·obtain ⟨y,hy⟩:∃ y,x.sub[k]? = some y:=⟨_,List.getElem?_eq_getElem hlt⟩
     obtain ⟨b,off,s',rfl,c0,c1,c2,c3,c4,hs',hy8⟩:=(HS.out.frame hbel).at hy;obtain ⟨_,_,_,_,q4⟩:=hbox;have hblk:b < wr.heap.size:=World.block_lt_of_cell? wr _ c0;have hbx:w.heap.size < wr.heap.size:=World.block_lt_of_cell? wr _ q4;have hzw:=hbel.size;have hk1:(0:Int)≤(k:Int):=by omega
     have hk2:(k:Int) < (x.sub.length:Int):=by omega
     have HSn:Hid (nums .i64 ((Ex.sorts x.sub).take (k+1))=nums .i64 ((Ex.sorts x.sub).take k) ++ [.int .i64 ((y.sort:Nat):Int)]):=Lh (by
      rw [Zau (show (Ex.sorts x.sub)[k]? = some y.sort by rw [Ex.sorts_eq,List.getElem?_map,hy];rfl),Za1])
     have HC:=Lh (HI.out y (List.mem_of_getElem? hy) s' wr hy8 hs');unfold Ex.val at HC;generalize y.sort=Y at HC HSn;clear hy hs';go_wp2_with fail;refine HC.out.mono ?_;rintro e w1 ⟨rfl,hb1⟩;have hown1:=Zag hown hb1;have hbel1:=hbel.trans (hb1.mono hzw);have hbox1:=HBX.out.low hb1;have hy1:=hb1.size;clear hown hbel hb1 c0 c1 c2 c3 c4 HC;have hlt1:=hown1.lt;go_wp2_with (at_builtin;refine wpList_append_own _ rfl _ _ 26 rfl (w.heap.size+1) 3 i0 (.int .i64 0) 1 8 Zlg hi hz0 hz1 hz2 rfl (by decide) _ _ _ rfl (hown1.alloc _) ⟨w1.heap.size,0,none⟩ 1 1 [_] rfl rfl (cell_one_new _ _ _) (Zi7 _) ?d1 ?d2 ?d3 ?_)
     case d1=>unfold maxLen;omega
     case d2=>omega
     case d3=>simp;omega
     intro v2 w2 hown2 hgrow2 _;have hbel2:Below w.heap.size w w2:=(hbel1.alloc (by omega) _).grown hgrow2 (by simp;omega) (fun k hk=>by have:=(hlt1 k hk).1;omega);have hbox2:EBox w2 w.heap.size x (.slice (some ⟨b,off,none⟩) x.sub.length cap):=(hbox1.low (Zac _ _)).kept fun o u hc=>by
      rw [World.cell?_of_block (w:=w1.alloc (.cells #[.int .i64 (Y:Int)] 3)) (hgrow2.block w.heap.size (by simp;omega) (fun e=>by have:=(hlt1 _ e.symm).1;omega))];exact hc
     obtain ⟨ad3,cap3,rfl,_⟩:=Sl.of_owns hown2;rw [← HSn.out] at hown2;clear hgrow2 hown1 hbel1 hlt1 hbox1;go_wp2;go_roundw
     case rel=>exact ⟨k+1,ad3,cap3,by omega,by go_num,rfl,hown2,hbel2,hbox2⟩
     case measure=>simp [intOf];omega
    ·obtain rfl:k=x.sub.length:=by omega
     have HR:Hid (RSrt w x (.slice ad x.sub.length cap) (.slice adb x.sub.length capb) wr):=by
      rw [List.take_of_length_le (by rw [Ex.sorts_length];exact Nat.le_refl _)] at hown;exact ⟨hown,hbel,hbox⟩
     obtain ⟨_,_,_,_,q4⟩:=hbox;clear hown hbel;go_wp2;go_meet
     exact HR.out
  case rest =>
   obtain ⟨hown,hbel,hbox⟩:=hcut;obtain ⟨adv,capv,rfl,hcl,_,hsl⟩:=Sl.of_owns hown;have hLl:=Ex.sorts_length x.sub;obtain ⟨c0,c1,c2,c3,_⟩:=hbox;have hbx:w.heap.size < wc.heap.size:=World.block_lt_of_cell? wc _ c0;generalize Ex.sorts x.sub=L at *;clear HS HI hb0 HX0 hown hlen hlt0 hB;rcases hkk with hk | hk | hk | hk | hk
   all_goals
    first
     | (have hS:Zbl x.k=some ([1,1],2):=by rw [hk];rfl
        have E:=is_1)
     | (have hS:Zbl x.k=some ([2,2],2):=by rw [hk];rfl
        have E:=is_2)
     | (have hS:Zbl x.k=some ([1,1],1):=by unfold Zbl;rw [if_pos hk]
        have E:=is_1;obtain ⟨t1,t2,t3,t4,t9,t11,t12,t13,t14,t15⟩:=Zw6 (.inl hk);have t8:decide ((x.k:Int)≤8)=true:=by simp;omega)
    obtain ⟨HF,HY,HX⟩:=Zxd HR.out HBB.out hS;first
     | (rw [hk] at c0;simp only [Int.cast_ofNat_Int] at c0)
     | skip
    clear HR hS HBB hk
    cases B
    ·clear hsl HX HY E;replace HF:=Lh (HF rfl);go_wp2_with fail;go_ret;exact ⟨by rw [HF.out];rfl,hbel⟩
    ·clear HF;by_cases hln:x.sub.length=2
     ·obtain ⟨a,b,rfl⟩:∃ a b,L=[a,b]:=by
       rw [hln] at hLl;match L,hLl with
       | [a,b],_=>exact ⟨a,b,rfl⟩
      obtain h0 | ⟨g,off,rfl,hg⟩:=hsl
      ·omega
      have g0:wc.cell? ⟨g,off,none⟩=some (.int .i64 (a:Int)):=hg 0 _ rfl;have g1:=hg 1 _ rfl;have hgl:g < wc.heap.size:=World.block_lt_of_cell? wc _ g0;rw [hln];clear hg hLl;rcases E a with rfl | ⟨h0,t0⟩
      ·rcases E b with rfl | ⟨h1,t0⟩
       ·have HF:=Lh (HY rfl rfl);clear HX HY E;simp only [Int.cast_ofNat_Int] at g0 g1;go_wp2_with fail;go_ret;exact ⟨by rw [HF.out];rfl,hbel⟩
       ·have HF:=Lh (HX (by simp [h1]));clear HX HY E;simp only [Int.cast_ofNat_Int] at g0 g1;go_wp2_with fail;go_ret;exact ⟨by rw [HF.out];rfl,hbel⟩
      ·have HF:=Lh (HX (by simp [h0]));clear HX HY E;go_wp2_with fail;go_ret;exact ⟨by rw [HF.out];rfl,hbel⟩
     ·have HF:=Lh (HX (fun h=>hln (by rw [← hLl,h];rfl)));have t0:((x.sub.length:Int) == 2)=false:=by simp;omega
      clear HX HY hsl E;go_wp2_with fail;go_ret;exact ⟨by rw [HF.out];rfl,hbel⟩
theorem Zk9:∀ (N:Nat) (x:Ex) (s:Value) (w:World),x.bulk≤N→x.bulk≤1100000→x.k < 256→RdE w x.sub s →
  Calls Tryz.prog 177 #[x.val s] w fun e w'=>e = .returned (.int .i64 ((x.sort:Nat):Int))∧Below w.heap.size w w':=by
 intro N;induction N with
 | zero=>intro x s w h0;rw [Ex.bulk_eq] at h0;omega
 | succ N ih =>
  intro x s w hN hB hk8 hs;have HI:∀ y,y ∈ x.sub→∀ (s:Value) (W:World),y.k < 256→RdE W y.sub s→Calls Tryz.prog 177 #[y.val s] W fun e w'=>e = .returned (.int .i64 ((y.sort:Nat):Int))∧Below W.heap.size W w':=fun y hy s W h8 hr=>ih y s W (by have:=Ex.mem_lt hy;omega) (by have:=Ex.mem_lt hy;omega) h8 hr
  by_cases h:(x.k=11∨x.k=12∨x.k=13∨x.k=14∨(4≤x.k∧x.k≤8))
  ·exact rs_b x s w h hB (Lh HI) hs
  ·exact rs_a x s w (by omega) hB (Lh HI) hs
theorem Zj2 (w:World) (vs:List Value) (t:TypeId) {i:Nat} {u:Value} (h:vs[i]? = some u):(w.alloc (.cells vs.toArray t)).cell? ⟨w.heap.size,i,none⟩=some u:=by
 have e:(w.alloc (.cells vs.toArray t)).heap[w.heap.size]? = some (.cells vs.toArray t (0,0)):=by
  show (w.heap.push _)[w.heap.size]? = _;simp
 unfold World.cell?;simp only [e,Option.isSome_none,Bool.false_eq_true,if_false];simpa using h
theorem Zvw {x:Ex} (h:500 < x.size∨60 < x.depth):x.err=4:=if_pos h
theorem Z06 {x:Ex} (h : ¬ (500 < x.size∨60 < x.depth)) (h0:x.sort=0):x.err=8:=by unfold Ex.err;rw [if_neg h,if_pos h0]
theorem Z2x {x:Ex} (h : ¬ (500 < x.size∨60 < x.depth)) (h0:x.sort ≠ 0):x.err=0:=by unfold Ex.err;rw [if_neg h,if_neg h0]
theorem Zla (x:Ex) (s:Value) (w:World) (hB:x.bulk≤1100000) (hk8:x.k < 256) (hs:RdE w x.sub s) :
  Calls Tryz.prog 176 #[x.val s] w fun e w'=>e = .returned (.int .i64 x.err)∧Below w.heap.size w w':=by
 obtain ⟨ad,cap,rfl⟩:=hs.len;have HS:=Lh hs;have H1:=Lh fun (V:World) (h:RdE V x.sub (.slice ad x.sub.length cap))=>Zh9 x.bulk x _ V (Nat.le_refl _) (by omega) h
 have H2:=Lh fun (V:World) (h:RdE V x.sub (.slice ad x.sub.length cap))=>Zmf x.bulk x _ V (Nat.le_refl _) (by omega) h
 have H3:=Lh fun (V:World) (h:RdE V x.sub (.slice ad x.sub.length cap))=>Zk9 x.bulk x _ V (Nat.le_refl _) hB hk8 h
 have hb0:=Zac w (.cells #[.int .u8 x.k,.string x.ra,.string x.nm,.int .i64 x.d,.slice ad x.sub.length cap] 25);have hc:∀ (i:Nat) (u:Value),[Value.int .u8 x.k,.string x.ra,.string x.nm,.int .i64 x.d,.slice ad x.sub.length cap][i]? = some u→(w.alloc (.cells #[.int .u8 x.k,.string x.ra,.string x.nm,.int .i64 x.d,.slice ad x.sub.length cap] 25)).cell? ⟨w.heap.size,i,none⟩=some u:=fun i u h=>Zj2 w _ _ h
 have HC:=Lh hc;unfold Ex.val at H1 H2 H3 ⊢;clear hs hc;go_enter Tryz.func176,Tryz.ntmps176
 go_wp2_with fail;refine (H1.out _ (HS.out.frame hb0)).mono ?_;rintro e w1 ⟨rfl,hb1⟩;have hw1:=hb0.trans (hb1.mono hb0.size);have cl:∀ V,Below (w.alloc (.cells #[.int .u8 x.k,.string x.ra,.string x.nm,.int .i64 x.d,.slice ad x.sub.length cap] 25)).heap.size (w.alloc (.cells #[.int .u8 x.k,.string x.ra,.string x.nm,.int .i64 x.d,.slice ad x.sub.length cap] 25)) V→∀ (i:Nat) (u:Value),[Value.int .u8 x.k,.string x.ra,.string x.nm,.int .i64 x.d,.slice ad x.sub.length cap][i]? = some u→V.cell? ⟨w.heap.size,i,none⟩=some u:=fun V hV i u h=>by
  rw [hV.cell (p:=⟨w.heap.size,i,none⟩) (World.block_lt_of_cell? _ _ (HC.out i u h))];exact HC.out i u h
 have HL:=Lh cl;clear cl;by_cases h1:500 < x.size
 ·have g1:decide ((500:Int) < (x.size:Int))=true:=by rw [decide_eq_true_eq];omega
  have HE:=Lh (Zvw (x:=x) (.inl h1));clear h1;go_wp2;go_ret;exact ⟨by rw [HE.out];rfl,hw1⟩
 ·have g1:decide ((500:Int) < (x.size:Int))=false:=by rw [decide_eq_false_iff_not];omega
  have c0:=HL.out _ hb1 0 _ rfl;have c1:=HL.out _ hb1 1 _ rfl;have c2:=HL.out _ hb1 2 _ rfl;have c3:=HL.out _ hb1 3 _ rfl;have c4:=HL.out _ hb1 4 _ rfl;go_wp2_with fail;refine (H2.out _ (HS.out.frame hw1)).mono ?_;rintro e w2 ⟨rfl,hb2⟩;have hw2:=hw1.trans (hb2.mono hw1.size);have hb2':=hb1.trans (hb2.mono hb1.size);clear c0 c1 c2 c3 c4;by_cases h2:60 < x.depth
  ·have g2:decide ((60:Int) < (x.depth:Int))=true:=by rw [decide_eq_true_eq];omega
   have HE:=Lh (Zvw (x:=x) (.inr h2));clear h2;go_wp2;go_ret;exact ⟨by rw [HE.out];rfl,hw2⟩
  ·have g2:decide ((60:Int) < (x.depth:Int))=false:=by rw [decide_eq_false_iff_not];omega
   have hn : ¬ (500 < x.size∨60 < x.depth):=by omega
   have HNn:=Lh hn;have c0:=HL.out _ hb2' 0 _ rfl;have c1:=HL.out _ hb2' 1 _ rfl;have c2:=HL.out _ hb2' 2 _ rfl;have c3:=HL.out _ hb2' 3 _ rfl;have c4:=HL.out _ hb2' 4 _ rfl;clear h1 h2 hn;go_wp2_with fail;refine (H3.out _ (HS.out.frame hw2)).mono ?_;rintro e w3 ⟨rfl,hb3⟩;have hw3:=hw2.trans (hb3.mono hw2.size);clear c0 c1 c2 c3 c4;by_cases h3:x.sort=0
   ·have HE:=Lh (Z06 HNn.out h3);have g3:(((x.sort:Nat):Int) == 0)=true:=by rw [h3];rfl
    clear h3;go_wp2;go_ret;exact ⟨by rw [HE.out];rfl,hw3⟩
   ·have HE:=Lh (Z2x HNn.out h3);have g3:(((x.sort:Nat):Int) == 0)=false:=by rw [beq_eq_false_iff_ne];omega
    clear h3;go_wp2;go_ret;exact ⟨by rw [HE.out];rfl,hw3⟩
theorem Zq6 (x:Ex) (s:Value) (w:World) (hB:x.bulk≤1100000) (hk8:x.k < 256) (hs:RdE w x.sub s) :
  Calls Tryz.prog 144 #[x.val s] w fun e w'=>e = .returned (.bool (x.isA 1))∧Below w.heap.size w w':=by
 obtain ⟨ad,cap,rfl⟩:=hs.len;have HS:=Lh hs;have H1:=Lh fun (V:World) (h:RdE V x.sub (.slice ad x.sub.length cap))=>Zla x _ V hB hk8 h
 have H3:=Lh fun (V:World) (h:RdE V x.sub (.slice ad x.sub.length cap))=>Zk9 x.bulk x _ V (Nat.le_refl _) hB hk8 h
 have hb0:=Zac w (.cells #[.int .u8 x.k,.string x.ra,.string x.nm,.int .i64 x.d,.slice ad x.sub.length cap] 25);have hc:∀ (i:Nat) (u:Value),[Value.int .u8 x.k,.string x.ra,.string x.nm,.int .i64 x.d,.slice ad x.sub.length cap][i]? = some u→(w.alloc (.cells #[.int .u8 x.k,.string x.ra,.string x.nm,.int .i64 x.d,.slice ad x.sub.length cap] 25)).cell? ⟨w.heap.size,i,none⟩=some u:=fun i u h=>Zj2 w _ _ h
 have HC:=Lh hc;have HA:Hid (x.isA 1=(decide (x.err=0) && decide (x.sort=1))):=Lh rfl;unfold Ex.val at H1 H3 ⊢;clear hs hc;go_enter Tryz.func144,Tryz.ntmps144
 go_wp2_with fail;refine (H1.out _ (HS.out.frame hb0)).mono ?_;rintro e w1 ⟨rfl,hb1⟩;have hw1:=hb0.trans (hb1.mono hb0.size);by_cases h1:x.err=0
 ·have g1:(x.err == 0)=true:=by rw [h1];rfl
  have HQ:Hid (x.isA 1=decide (x.sort=1)):=Lh (by rw [HA.out,decide_eq_true h1];rfl);have cl:∀ (i:Nat) (u:Value),[Value.int .u8 x.k,.string x.ra,.string x.nm,.int .i64 x.d,.slice ad x.sub.length cap][i]? = some u→w1.cell? ⟨w.heap.size,i,none⟩=some u:=fun i u h=>by
   rw [hb1.cell (p:=⟨w.heap.size,i,none⟩) (World.block_lt_of_cell? _ _ (HC.out i u h))];exact HC.out i u h
  have c0:=cl 0 _ rfl;have c1:=cl 1 _ rfl;have c2:=cl 2 _ rfl;have c3:=cl 3 _ rfl;have c4:=cl 4 _ rfl;clear h1 cl;go_wp2_with fail;refine (H3.out _ (HS.out.frame hw1)).mono ?_;rintro e w2 ⟨rfl,hb2⟩;have hw2:=hw1.trans (hb2.mono hw1.size);clear c0 c1 c2 c3 c4;go_wp2;go_ret;exact ⟨Zaf (by rw [HQ.out,Bool.eq_iff_iff];simp;omega),hw2⟩
 ·have g1:(x.err == 0)=false:=by rw [beq_eq_false_iff_ne];exact h1
  have HQ:Hid (x.isA 1=false):=Lh (by rw [HA.out,decide_eq_false h1];rfl);clear h1;go_wp2;go_ret;exact ⟨Zaf (by rw [HQ.out]),hw1⟩
theorem Zuv (x:Ex) (s:Value) (w:World) (hB:x.bulk≤1100000) (hk8:x.k < 256) (hs:RdE w x.sub s) :
  Calls Tryz.prog 145 #[x.val s] w fun e w'=>e = .returned (.bool (x.isA 2))∧Below w.heap.size w w':=by
 obtain ⟨ad,cap,rfl⟩:=hs.len;have HS:=Lh hs;have H1:=Lh fun (V:World) (h:RdE V x.sub (.slice ad x.sub.length cap))=>Zla x _ V hB hk8 h
 have H3:=Lh fun (V:World) (h:RdE V x.sub (.slice ad x.sub.length cap))=>Zk9 x.bulk x _ V (Nat.le_refl _) hB hk8 h
 have hb0:=Zac w (.cells #[.int .u8 x.k,.string x.ra,.string x.nm,.int .i64 x.d,.slice ad x.sub.length cap] 25);have hc:∀ (i:Nat) (u:Value),[Value.int .u8 x.k,.string x.ra,.string x.nm,.int .i64 x.d,.slice ad x.sub.length cap][i]? = some u→(w.alloc (.cells #[.int .u8 x.k,.string x.ra,.string x.nm,.int .i64 x.d,.slice ad x.sub.length cap] 25)).cell? ⟨w.heap.size,i,none⟩=some u:=fun i u h=>Zj2 w _ _ h
 have HC:=Lh hc;have HA:Hid (x.isA 2=(decide (x.err=0) && decide (x.sort=2))):=Lh rfl;unfold Ex.val at H1 H3 ⊢;clear hs hc;go_enter Tryz.func145,Tryz.ntmps145
 go_wp2_with fail;refine (H1.out _ (HS.out.frame hb0)).mono ?_;rintro e w1 ⟨rfl,hb1⟩;have hw1:=hb0.trans (hb1.mono hb0.size);by_cases h1:x.err=0
 ·have g1:(x.err == 0)=true:=by rw [h1];rfl
  have HQ:Hid (x.isA 2=decide (x.sort=2)):=Lh (by rw [HA.out,decide_eq_true h1];rfl);have cl:∀ (i:Nat) (u:Value),[Value.int .u8 x.k,.string x.ra,.string x.nm,.int .i64 x.d,.slice ad x.sub.length cap][i]? = some u→w1.cell? ⟨w.heap.size,i,none⟩=some u:=fun i u h=>by
   rw [hb1.cell (p:=⟨w.heap.size,i,none⟩) (World.block_lt_of_cell? _ _ (HC.out i u h))];exact HC.out i u h
  have c0:=cl 0 _ rfl;have c1:=cl 1 _ rfl;have c2:=cl 2 _ rfl;have c3:=cl 3 _ rfl;have c4:=cl 4 _ rfl;clear h1 cl;go_wp2_with fail;refine (H3.out _ (HS.out.frame hw1)).mono ?_;rintro e w2 ⟨rfl,hb2⟩;have hw2:=hw1.trans (hb2.mono hw1.size);clear c0 c1 c2 c3 c4;go_wp2;go_ret;exact ⟨Zaf (by rw [HQ.out,Bool.eq_iff_iff];simp;omega),hw2⟩
 ·have g1:(x.err == 0)=false:=by rw [beq_eq_false_iff_ne];exact h1
  have HQ:Hid (x.isA 2=false):=Lh (by rw [HA.out,decide_eq_false h1];rfl);clear h1;go_wp2;go_ret;exact ⟨Zaf (by rw [HQ.out]),hw1⟩
theorem sz_e (s:ByteArray):((s.size:Int) == 0)=s.toList.isEmpty:=by
 rw [Bool.eq_iff_iff,beq_iff_eq,List.isEmpty_iff,← Zpo];omega
theorem d_e (d:Int):decide (d=0)=(d == 0):=rfl
theorem l_e0 (n:Nat):decide (n=0)=((n:Int) == 0):=by rw [Bool.eq_iff_iff,decide_eq_true_eq,beq_iff_eq];omega
theorem l_e1 (n:Nat):decide (n=1)=((n:Int) == 1):=by rw [Bool.eq_iff_iff,decide_eq_true_eq,beq_iff_eq];omega
theorem l_e2 (n:Nat):decide (n=2)=((n:Int) == 2):=by rw [Bool.eq_iff_iff,decide_eq_true_eq,beq_iff_eq];omega
theorem s_e (a b:ByteArray):decide (a=b)=(a.toList == b.toList):=by rw [Zbm]
theorem kt {k n:Nat} (h:k=n):((k:Int) == 1)=(n == 1)∧((k:Int) == 2)=(n == 2)∧((k:Int) == 3)=(n == 3)∧((k:Int) == 4)=(n == 4)∧((k:Int) == 5)=(n == 5)∧((k:Int) == 6)=(n == 6)∧((k:Int) == 7)=(n == 7)∧((k:Int) == 8)=(n == 8)∧((k:Int) == 9)=(n == 9)∧((k:Int) == 10)=(n == 10):=by
 subst h;refine ⟨?_,?_,?_,?_,?_,?_,?_,?_,?_,?_⟩ <;> (rw [Bool.eq_iff_iff];simp;omega)
theorem Z21 {k:Nat} (h:k=0∨11≤k):((k:Int) == 1)=false∧((k:Int) == 2)=false∧((k:Int) == 3)=false∧((k:Int) == 4)=false∧((k:Int) == 5)=false∧((k:Int) == 6)=false∧((k:Int) == 7)=false∧((k:Int) == 8)=false∧((k:Int) == 9)=false∧((k:Int) == 10)=false:=by
 refine ⟨?_,?_,?_,?_,?_,?_,?_,?_,?_,?_⟩ <;> simp <;> omega
theorem Zq4:∀ (B:Nat) (x:Con) (es dd ss:Value) (w:World),x.bulk≤B→x.bulk≤1100000→RdN w x es dd ss →
  Calls Tryz.prog 95 #[x.val es dd ss] w fun e w'=>e = .returned (.bool x.formed)∧Below w.heap.size w w':=by
 intro B;induction B with
 | zero =>
  intro x es dd ss w h0;rw [Con.bulk_eq] at h0;omega
 | succ B ih =>
  intro x es dd ss w hB hM hs;obtain ⟨ad,cap,rfl⟩:=hs.2.2.1.len;obtain ⟨ad1,cap1,rfl⟩:=hs.1.len;obtain ⟨ad2,cap2,rfl⟩:=hs.2.1.len;have HS:=Lh hs;have HI:=Lh ih;have hbq:=x.bulk_eq;have hlen:=Con.bulks_len x.sub;have hlt0:=x.sub_lt;have hn:x.sub.length≤2000000:=by omega
  have hnd:x.ds.length≤2000000:=by omega
  have hxb:x.ex.bulk≤1100000:=by omega
  have hs1:x.fr.size≤9223372036854775807:=by omega
  have hs2:x.rc.size≤9223372036854775807:=by omega
  have hs3:x.nm.size≤9223372036854775807:=by omega
  have hk8:=hs.2.2.2.2;have HNm:=Lh fun (W:World)=>And.intro (Zd4 x.fr W hs1) (And.intro (Zd4 x.rc W hs2) (Zd4 x.nm W hs3))
  have HDy:=Lh fun (W:World)=>Zgp x.d W
  have HBr:=Lh fun (W:World) (hb:Below w.heap.size w W)=>Zkz x.ex _ W (hs.1.frame hb)
  have HDs:=Lh fun (W:World) (hb:Below w.heap.size w W)=>Zxj x.ds _ W hnd (hs.2.1.frame hb)
  have HNu:=Lh fun (W:World) (hb:Below w.heap.size w W)=>Zq6 x.ex _ W hxb hk8 (hs.1.frame hb)
  have HTr:=Lh fun (W:World) (hb:Below w.heap.size w W)=>Zuv x.ex _ W hxb hk8 (hs.1.frame hb)
  unfold Ex.val at HBr HNu HTr;have hx0:∃ W0,w.alloc (.cells #[.int .u8 x.k,.string x.fr,.string x.rc,.string x.nm,.int .u8 x.ex.k,.string x.ex.ra,.string x.ex.nm,.int .i64 x.ex.d,.slice ad1 x.ex.sub.length cap1,.int .i64 x.d,.slice ad2 x.ds.length cap2,.slice ad x.sub.length cap] 29)=W0∧CBox W0 w.heap.size x (.slice ad1 x.ex.sub.length cap1) (.slice ad2 x.ds.length cap2) (.slice ad x.sub.length cap)∧Below w.heap.size w W0:=⟨_,rfl,CBox.new _ _ _ _ _ _,Zac _ _⟩
  obtain ⟨W0,hW0,bx,hb0⟩:=hx0;clear hs ih hbq;unfold Con.val;go_enter Tryz.func95,Tryz.ntmps95
  go_upto_block 0 with fail
  clear hW0;go_cut [3] from 16 to 29 (fun _ wc=>Hid (Con.formeds x.sub=true)∧Below w.heap.size w wc∧CBox wc w.heap.size x (.slice ad1 x.ex.sub.length cap1) (.slice ad2 x.ds.length cap2) (.slice ad x.sub.length cap))
  case first =>
   go_wp2_with fail;go_loopw [3] (fun i wr=>∃ k:Nat,k≤x.sub.length∧i = .int .i64 (k:Int)∧Hid (Con.formeds (x.sub.take k)=true)∧Below w.heap.size w wr∧CBox wr w.heap.size x (.slice ad1 x.ex.sub.length cap1) (.slice ad2 x.ds.length cap2) (.slice ad x.sub.length cap)) (fun i _=>x.sub.length - (intOf i).toNat)
   case atStart=>exact ⟨0,Nat.zero_le _,rfl,Lh (by rw [List.take_zero,Con.formeds]),hb0,bx⟩
   case round =>
    obtain ⟨k,hk,rfl,HQ,hbw,hbx⟩:=hrel;have HX:=Lh hbx;have q4:=hbx.2.2.2.2.2.2.2.2.2.2.2;clear hbx;by_cases hlt:k < x.sub.length
    ·obtain ⟨y,hy⟩:∃ y,x.sub[k]? = some y:=⟨_,List.getElem?_eq_getElem hlt⟩
     obtain ⟨b,off,e9,f9,s9,rfl,hc,hs'⟩:=(HS.out.2.2.1.frame hbw).cells hy;obtain ⟨c0,c1,c2,c3,c4,c5,c6,c7,c8,c9,c10,c11⟩:=hc;have hk1:(0:Int)≤(k:Int):=by omega
     have hk2:(k:Int) < (x.sub.length:Int):=by omega
     have hym:=Con.mem_lt (List.mem_of_getElem? hy);have HC:=Lh (HI.out y e9 f9 s9 wr (by omega) (by omega) hs');have HY:=Lh hy;unfold Con.val at HC;clear hy hym hs';go_wp2_with fail;refine HC.out.mono ?_;rintro e w4 ⟨rfl,hb4⟩;have HX4:=Lh (HX.out.low hb4);have hb5:=hbw.trans (hb4.mono hbw.size)
     cases hf:y.formed with
     | true =>
      have HZ:Hid (Con.formeds (x.sub.take (k+1))=true):=Lh (by rw [Zau HY.out,Con.formeds_eq,List.all_append,← Con.formeds_eq,HQ.out];simp [hf]);clear hf HC c0 c1 c2 c3 c4 c5 c6 c7 c8 c9 c10 c11 q4 hb4;go_wp2;go_roundw
      case rel=>exact ⟨k+1,by omega,by go_num,HZ,hb5,HX4.out⟩
      case measure=>simp [intOf];omega
     | false =>
      have HZ:Hid (x.formed=false):=Lh (by
       rw [Con.formed_eq,Con.formeds_eq];have h2:x.sub.all Con.formed=false:=List.all_eq_false.2 ⟨y,List.mem_of_getElem? HY.out,by simp [hf]⟩;rw [h2,Bool.and_false])
      clear hf HC c0 c1 c2 c3 c4 c5 c6 c7 c8 c9 c10 c11 q4 hb4;go_wp2;go_ret;exact ⟨Zaf HZ.out.symm,hb5⟩
    ·obtain rfl:k=x.sub.length:=by omega
     rw [List.take_length] at HQ;go_wp2;go_meet
     exact ⟨HQ,hbw,HX.out⟩
  case rest =>
   obtain ⟨HQ,hbw,hbx⟩:=hcut;have HX:=Lh hbx;obtain ⟨c0,c1,c2,c3,c4,c5,c6,c7,c8,c9,c10,c11⟩:=hbx;go_wp2_with fail;go_region_held3 (fun w'=>w'.cell? ⟨w.heap.size,1,none⟩=some (.string x.fr)∧w'.cell? ⟨w.heap.size,3,none⟩=some (.string x.nm)) (first | assumption | exact ⟨by assumption,by assumption⟩ | go_keep)
    (first | (go_at_call 96;refine (Zd4 _ _ (by assumption)).mono ?_;rintro e w4 ⟨rfl,rfl⟩))
   have hd:Below wc.heap.size wc wc.drew:=(Below.refl _ _).drew;have HX1:=Lh (HX.out.low hd);have hw1:=hbw.trans (hd.mono hbw.size);clear c0 c1 c2 c3 c4 c5 c6 c7 c8 c9 c10 c11;obtain ⟨c0,c1,c2,c3,c4,c5,c6,c7,c8,c9,c10,c11⟩:=HX1.out;go_wp2_with fail;refine (HBr.out _ hw1).mono ?_;rintro e w2 ⟨rfl,hb2⟩;have HX2:=Lh (HX1.out.low hb2);have hw2:=hw1.trans (hb2.mono hw1.size);clear c0 c1 c2 c3 c4 c5 c6 c7 c8 c9 c10 c11 hb2
   obtain ⟨c0,c1,c2,c3,c4,c5,c6,c7,c8,c9,c10,c11⟩:=HX2.out;go_wp2_with fail;refine (HDs.out _ hw2).mono ?_;rintro e w3 ⟨rfl,hb3⟩;have HX3:=Lh (HX2.out.low hb3);have hw3:=hw2.trans (hb3.mono hw2.size);clear c0 c1 c2 c3 c4 c5 c6 c7 c8 c9 c10 c11 hb3;obtain ⟨c0,c1,c2,c3,c4,c5,c6,c7,c8,c9,c10,c11⟩:=HX3.out;go_wp2_with fail;refine (HNu.out _ hw3).mono ?_;rintro e w4 ⟨rfl,hb4⟩;have HX4:=Lh (HX3.out.low hb4)
   have hw4:=hw3.trans (hb4.mono hw3.size);clear c0 c1 c2 c3 c4 c5 c6 c7 c8 c9 c10 c11 hb4;obtain ⟨c0,c1,c2,c3,c4,c5,c6,c7,c8,c9,c10,c11⟩:=HX4.out;go_wp2_with fail;refine (HTr.out _ hw4).mono ?_;rintro e w5 ⟨rfl,hb5⟩;have HX5:=Lh (HX4.out.low hb5);have hw5:=hw4.trans (hb5.mono hw4.size);clear c0 c1 c2 c3 c4 c5 c6 c7 c8 c9 c10 c11 hb5;obtain ⟨c0,c1,c2,c3,c4,c5,c6,c7,c8,c9,c10,c11⟩:=HX5.out;have HQ2:Hid (x.formed=Zbt x):=Lh (by rw [Con.formed_eq,HQ.out,Bool.and_true])
   go_upto_block 2 with fail
   have hk:x.k=1∨x.k=2∨x.k=3∨x.k=4∨x.k=5∨x.k=6∨x.k=7∨x.k=8∨x.k=9∨x.k=10∨(x.k=0∨11≤x.k):=by omega
   have HN:=HQ2.out;have HNR:=Lh fun W=>(HNm.out W).2.1
   unfold Zbt at HN;dsimp only at HN
   clear HQ2 HQ HNm;rcases hk with h | h | h | h | h | h | h | h | h | h | h
   all_goals
    first
     | (obtain ⟨t1,t2,t3,t4,t5,t6,t7,t8,t9,t10⟩:=kt h
        simp only [Nat.reduceBEq] at t1 t2 t3 t4 t5 t6 t7 t8 t9 t10;simp (decide:=true) only [h,if_true,if_false,l_e0,l_e1,l_e2,sz_e,d_e,s_e] at HN)
     | (obtain ⟨t1,t2,t3,t4,t5,t6,t7,t8,t9,t10⟩:=Z21 h
        rw [if_neg (by omega),if_neg (by omega),if_neg (by omega),if_neg (by omega),if_neg (by omega),if_neg (by omega),if_neg (by omega),if_neg (by omega),if_neg (by omega)] at HN)
    have HR:=Lh HN;clear HN h;generalize isNm (bl x.fr)=B0 at *;generalize isNm (bl x.rc)=B1 at *;generalize isNm (bl x.nm)=B2 at *;generalize x.fr.toList.isEmpty=B3 at *;generalize x.rc.toList.isEmpty=B4 at *;generalize x.nm.toList.isEmpty=B5 at *;generalize x.ex.bare=B6 at *;generalize Zbi x.ds=B7 at *;generalize x.ex.isA 1=B8 at *;generalize x.ex.isA 2=B9 at *;generalize Zbh x.d=B10 at *;go_wp2_with (first | (go_at_call 96;refine (HNR.out _).mono ?_;rintro e w1 ⟨rfl,rfl⟩) | (go_at_call 47;refine (HDy.out _).mono ?_;rintro e w1 ⟨rfl,rfl⟩))
   all_goals
    go_ret;exact ⟨Zaf (by rw [HR.out] <;> simp [*]),hw5⟩
theorem Zrn {x:Con} (h:500 < x.size∨60 < x.depth):x.err=4:=by unfold Con.err;rw [if_pos h]
theorem Zyn {x:Con} (h : ¬ (500 < x.size∨60 < x.depth)) (h0:x.formed=false):x.err=8:=by unfold Con.err;rw [if_neg h,h0];rfl
theorem Z03 {x:Con} (h : ¬ (500 < x.size∨60 < x.depth)) (h0:x.formed=true):x.err=0:=by unfold Con.err;rw [if_neg h,h0];rfl
theorem Zqx (x:Con) (es dd ss:Value) (w:World) (hM:x.bulk≤1100000) (hs:RdN w x es dd ss) :
  Calls Tryz.prog 45 #[x.val es dd ss] w fun e w'=>e = .returned (.int .i64 x.err)∧Below w.heap.size w w':=by
 obtain ⟨ad,cap,rfl⟩:=hs.2.2.1.len;obtain ⟨ad1,cap1,rfl⟩:=hs.1.len;obtain ⟨ad2,cap2,rfl⟩:=hs.2.1.len;have HS:=Lh hs;have H1:=Lh fun (V:World) (h:Below w.heap.size w V)=>Zuh x.bulk x _ _ _ V (Nat.le_refl _) (by omega) (hs.frame h)
 have H2:=Lh fun (V:World) (h:Below w.heap.size w V)=>Zq2 x.bulk x _ _ _ V (Nat.le_refl _) (by omega) (hs.frame h)
 have H3:=Lh fun (V:World) (h:Below w.heap.size w V)=>Zq4 x.bulk x _ _ _ V (Nat.le_refl _) hM (hs.frame h)
 have hx0:∃ W0,w.alloc (.cells #[.int .u8 x.k,.string x.fr,.string x.rc,.string x.nm,.int .u8 x.ex.k,.string x.ex.ra,.string x.ex.nm,.int .i64 x.ex.d,.slice ad1 x.ex.sub.length cap1,.int .i64 x.d,.slice ad2 x.ds.length cap2,.slice ad x.sub.length cap] 29)=W0∧CBox W0 w.heap.size x (.slice ad1 x.ex.sub.length cap1) (.slice ad2 x.ds.length cap2) (.slice ad x.sub.length cap)∧Below w.heap.size w W0:=⟨_,rfl,CBox.new _ _ _ _ _ _,Zac _ _⟩
 obtain ⟨W0,hW0,bx,hb0⟩:=hx0;have HX0:=Lh bx;obtain ⟨c0,c1,c2,c3,c4,c5,c6,c7,c8,c9,c10,c11⟩:=bx;unfold Con.val at H1 H2 H3 ⊢;clear hs;go_enter Tryz.func45,Tryz.ntmps45
 go_upto_region 1 with fail
 clear hW0;go_wp2_with fail;refine (H1.out _ hb0).mono ?_;rintro e w1 ⟨rfl,hb1⟩;have HX1:=Lh (HX0.out.low hb1);have hw1:=hb0.trans (hb1.mono hb0.size);clear c0 c1 c2 c3 c4 c5 c6 c7 c8 c9 c10 c11 hb1;obtain ⟨c0,c1,c2,c3,c4,c5,c6,c7,c8,c9,c10,c11⟩:=HX1.out;by_cases h1:500 < x.size
 ·have g1:decide ((500:Int) < (x.size:Int))=true:=by rw [decide_eq_true_eq];omega
  have HE:=Lh (Zrn (x:=x) (.inl h1));clear h1;go_wp2;go_ret;exact ⟨by rw [HE.out];rfl,hw1⟩
 ·have g1:decide ((500:Int) < (x.size:Int))=false:=by rw [decide_eq_false_iff_not];omega
  go_wp2_with fail;refine (H2.out _ hw1).mono ?_;rintro e w2 ⟨rfl,hb2⟩;have HX2:=Lh (HX1.out.low hb2);have hw2:=hw1.trans (hb2.mono hw1.size);clear c0 c1 c2 c3 c4 c5 c6 c7 c8 c9 c10 c11 hb2;obtain ⟨c0,c1,c2,c3,c4,c5,c6,c7,c8,c9,c10,c11⟩:=HX2.out;by_cases h2:60 < x.depth
  ·have g2:decide ((60:Int) < (x.depth:Int))=true:=by rw [decide_eq_true_eq];omega
   have HE:=Lh (Zrn (x:=x) (.inr h2));clear h2;go_wp2;go_ret;exact ⟨by rw [HE.out];rfl,hw2⟩
  ·have g2:decide ((60:Int) < (x.depth:Int))=false:=by rw [decide_eq_false_iff_not];omega
   have hn : ¬ (500 < x.size∨60 < x.depth):=by omega
   have HNn:=Lh hn;clear h1 h2 hn;go_wp2_with fail;refine (H3.out _ hw2).mono ?_;rintro e w3 ⟨rfl,hb3⟩;have hw3:=hw2.trans (hb3.mono hw2.size);clear c0 c1 c2 c3 c4 c5 c6 c7 c8 c9 c10 c11 hb3
   cases h3:x.formed with
   | false =>
    have HE:=Lh (Zyn HNn.out h3);clear h3;go_wp2;go_ret;exact ⟨by rw [HE.out];rfl,hw3⟩
   | true =>
    have HE:=Lh (Z03 HNn.out h3);clear h3;go_wp2;go_ret;exact ⟨by rw [HE.out];rfl,hw3⟩
theorem Zm6 (n1 v1 n2 v2:ByteArray) (d1 d2:Int) (w:World) :
  Calls Tryz.prog 98 #[fxV n1 d1 v1,fxV n2 d2 v2] w fun e w'=>e = .returned (.bool (fxLt n1 d1 n2 d2))∧Below w.heap.size w w':=by
 have HR:Hid (fxLt n1 d1 n2 d2=(Op.bytesLess n1.toList n2.toList || ((n1.toList == n2.toList) && decide (d1 < d2)))):=by
  show _=_;rw [Zbm,fxLt,slt,Za9,Za9]
 unfold fxV;go_enter Tryz.func98,Tryz.ntmps98
 go_wp2
 all_goals
  go_ret;exact ⟨Zaf (by rw [HR.out];first | (simp [*];done) | simp_all [Zd5]),Zaz _ _ _⟩
theorem Zlo (p1 n1 p2 n2:ByteArray) (d1 d2:Int) (f1 f2:Bool) (w:World) :
  Calls Tryz.prog 99 #[chV p1 n1 d1 f1,chV p2 n2 d2 f2] w fun e w'=>e = .returned (.bool (chLt p1 n1 d1 p2 n2 d2))∧Below w.heap.size w w':=by
 have HR:Hid (chLt p1 n1 d1 p2 n2 d2=if (p1.toList == p2.toList)=true then (Op.bytesLess n1.toList n2.toList || ((n1.toList == n2.toList) && decide (d1 < d2))) else Op.bytesLess p1.toList p2.toList):=by
  show _=_;rw [Zbm,Zbm,chLt,fxLt,slt,slt,Za9,Za9,Za9,Za9];by_cases h:p1=p2 <;> simp [h]
 unfold chV;go_enter Tryz.func99,Tryz.ntmps99
 go_wp2
 all_goals
  go_ret;exact ⟨Zaf (by rw [HR.out];first | (simp [*];done) | simp_all [Zd5]),Zaz _ _ _⟩
end Go.Proofs.YtknpnhodpgajbaaGreatDoor
