/- A part. -/
import Derived.RangeFuncNested
import Derived.RangeFuncBound
import Derived.RangeFuncCalls
import Derived.RangeFuncLeaves
import Derived.RangeFuncBox
import Derived.Shelf.Abstract
import Derived.Shelf.RegionOpen
import Derived.OwnWalkIn
import Derived.TacticsInMore
import Derived.LoopNIn
import Derived.LoopIn
import Derived.Test.YtknpnhodpgajbaaGreatDoorG01
import Derived.Deep.RegionHeld3
set_option maxHeartbeats 8000000
set_option maxRecDepth 100000
namespace Go.Proofs.YtknpnhodpgajbaaGreatDoor
open Go.RowKit Go.Shelf
attribute [local go_sem] Oper.semAt_some
abbrev Grp:={ g:ByteArray // g.size≤9∧(bl g).all Zav=true }
def grpB (s:ByteArray) (k:Nat):ByteArray:=s.extract (s.size - 9 * (k+1)) (s.size - 9 * k)
theorem Zv5 (s:ByteArray) (k:Nat):(grpB s k).size≤9:=by
 rw [← Zae,grpB,Zbe,List.length_take,List.length_drop];omega
theorem Zy6 (s:ByteArray) (h:(bl s).all Zav=true) (k:Nat):(bl (grpB s k)).all Zav=true:=by
 rw [grpB,Zbe];rw [List.all_eq_true] at h ⊢;exact fun x hx=>h x (List.mem_of_mem_drop (List.mem_of_mem_take hx))
def grp (s:ByteArray) (h:(bl s).all Zav=true) (k:Nat):Grp:=⟨grpB s k,Zv5 s k,Zy6 s h k⟩
def grps (s:ByteArray) (h:(bl s).all Zav=true) (k:Nat):List Grp:=(List.range k).map (grp s h)
theorem Zke (s:ByteArray) (h:(bl s).all Zav=true) (k:Nat):grps s h (k+1)=grps s h k ++ [grp s h k]:=by
 simp [grps,List.range_succ]
theorem Zem (s:ByteArray) (h:(bl s).all Zav=true) (k:Nat):(grps s h k).length=k:=by simp [grps]
def Zve (B:Nat) (W W':World):Prop:=W'.heap[B]? = W.heap[B]?
theorem Ztw (F:Fence) (n:Nat) (hf:F.fn 207) (hro:F.round=none) (hn:1≤n) (l Bn:Nat) (s:ByteArray) (hd:(bl s).all Zav=true) (hs:s.size≤100000) (J Jx:List Grp→World→Prop)
  (hY:∀ pre x W,J pre W→pre.length < (s.size+8) / 9→YieldAt F (n - 1) Tryz.prog l #[.string x.1] W fun e W' =>
   (e = .returned (.bool true)∧J (pre ++ [x]) W'∧Zve Bn W W')∨(e = .returned (.bool false)∧Jx (pre ++ [x]) W'))
  (W:World) (hBn:W.heap[Bn]? = some (.cells #[.string s] 9 (0,0))) (h0:J [] W) :
  CallsIn F n Tryz.prog 207 #[.func (.yield l) #[] #[],.pointer (some ⟨Bn,0,none⟩)] W fun e W'=>(∃ v,e = .returned v) ∧
   ((∃ ys,ys=grps s hd ((s.size+8) / 9)∧J ys W')∨(∃ pre,True∧Jx pre W')):=by
 have hc0:=cell_of_one hBn;refine callsIn_of_wp Tryz.func207 rfl hf ?_ hro;simp only [Tryz.ntmps207,List.size_toArray,List.length_cons,List.length_nil,Nat.reduceAdd,Nat.reduceSub,Array.replicate_succ,Array.replicate_zero,List.push_toArray,List.append_toArray,List.nil_append,List.cons_append];gi_wp2
 gi_loopw [3] (fun p wr=>∃ (k:Nat),p = .int .i64 ((s.size:Int) - 9 * (k:Int))∧9 * k≤s.size+8∧wr.heap[Bn]? = some (.cells #[.string s] 9 (0,0))∧Hid (J (grps s hd k) wr))
  (fun p wr=>(intOf p).toNat)
 case atStart =>
  exact ⟨0,by simp,by omega,hBn,h0⟩
 case round =>
  obtain ⟨k,rfl,hk,hb,hJs⟩:=hrel;by_cases hlt:9 * k < s.size
  ·have hcr:=cell_of_one hb;by_cases h9:9 * (k+1) < s.size
   ·have e1:((s.size:Int) - 9 * (k:Int) - 9).toNat=s.size - 9 * (k+1):=by omega
    have m1:(0:Int) < (s.size:Int) - 9 * (k:Int) - 9:=by omega
    obtain ⟨fn,tmps,assign,body,hy,hR⟩:=hY (grps s hd k) (grp s hd k) wr hJs.out (by rw [Zem];omega);have hy2:(Instr.yield l #[.string (s.extract (s.size - 9 * (k+1)) (s.size - 9 * k))]).run Tryz.prog wr = .ok (.round l fn tmps assign body) wr:=hy;clear hy;gi_wp2
    refine hR.mono ?_;rintro e W3 (⟨rfl,hJ3,hk3⟩ | ⟨rfl,hJx3⟩)
    ·rw [← Zke] at hJ3;have hb3:W3.heap[Bn]? = some (.cells #[.string s] 9 (0,0)):=Eq.trans hk3 hb;have HJ3:=Lh hJ3;clear hJ3 hk3 hJs hy2 e1;gi_wp2
     go_roundw
     case rel=>exact ⟨k+1,by go_num,by omega,hb3,HJ3⟩
     case measure=>simp [intOf];omega
    ·have HJx:=Lh hJx3;clear hJx3 hJs hy2 e1;gi_wp2
     refine bodyPost_ret (results_none rfl _ _ _) rfl ?_;exact ⟨⟨_,rfl⟩,.inr ⟨_,trivial,HJx.out⟩⟩
   ·have e1:s.size - 9 * (k+1)=0:=by omega
    have m1 : ¬ (0:Int) < (s.size:Int) - 9 * (k:Int) - 9:=by omega
    obtain ⟨fn,tmps,assign,body,hy,hR⟩:=hY (grps s hd k) (grp s hd k) wr hJs.out (by rw [Zem];omega);have hy2:(Instr.yield l #[.string (s.extract 0 (s.size - 9 * k))]).run Tryz.prog wr = .ok (.round l fn tmps assign body) wr:=by rw [← e1];exact hy
    clear hy;gi_wp2
    refine hR.mono ?_;rintro e W3 (⟨rfl,hJ3,hk3⟩ | ⟨rfl,hJx3⟩)
    ·rw [← Zke] at hJ3;have hb3:W3.heap[Bn]? = some (.cells #[.string s] 9 (0,0)):=Eq.trans hk3 hb;have HJ3:=Lh hJ3;clear hJ3 hk3 hJs hy2 e1;gi_wp2
     go_roundw
     case rel=>exact ⟨k+1,by go_num,by omega,hb3,HJ3⟩
     case measure=>simp [intOf];omega
    ·have HJx:=Lh hJx3;clear hJx3 hJs hy2 e1;gi_wp2
     refine bodyPost_ret (results_none rfl _ _ _) rfl ?_;exact ⟨⟨_,rfl⟩,.inr ⟨_,trivial,HJx.out⟩⟩
  ·have hkk:(s.size+8) / 9=k:=by omega
   have HF:Hid ((∃ ys,ys=grps s hd ((s.size+8) / 9)∧J ys wr)∨(∃ pre,True∧Jx pre wr)):=by
    show _∨_;rw [hkk];exact .inl ⟨_,rfl,hJs.out⟩
   clear hkk hJs;gi_wp2
   go_end0
   exact ⟨⟨_,rfl⟩,HF.out⟩
theorem Zoj (F:Fence) (n:Nat) (hf:F.fn 192) (hro:F.round=none) (s:ByteArray) (w:World) :
  CallsIn F n Tryz.prog 192 #[.string s] w fun e w'=>e = .returned (.func (.func 207) #[] #[.pointer (some ⟨w.heap.size,0,none⟩)])∧w'=w.alloc (.cells #[.string s] 9):=by
 refine callsIn_of_wp Tryz.func192 rfl hf ?_ hro;simp only [Tryz.ntmps192,List.size_toArray,List.length_cons,List.length_nil,Nat.reduceAdd,Nat.reduceSub,Array.replicate_succ,Array.replicate_zero,List.push_toArray,List.append_toArray,List.nil_append,List.cons_append];gi_wp2
 go_ret;exact ⟨rfl,rfl⟩
theorem Zi5 (F:Fence) (n:Nat) (hf:F.fn 207) (hro:F.round=none) (hn:1≤n) (Bn:Nat) (s:ByteArray) (hd:(bl s).all Zav=true) (hs:s.size≤100000) (w:World)
  (hBn:w.heap[Bn]? = some (.cells #[.string s] 9 (0,0))) :
  SeqStopsK F n Tryz.prog 207 #[.pointer (some ⟨Bn,0,none⟩)] (fun x:Grp=>#[Value.string x.1]) (Zve Bn) (fun ys=>ys=grps s hd ((s.size+8) / 9)) (fun _=>True) ((s.size+8) / 9) w:=fun l J Jx W hW _ _ hY h0 =>
 Ztw F n hf hro hn l Bn s hd hs J Jx hY W ((hW.block Bn (Array.getElem?_eq_some_iff.1 hBn).1).trans hBn) h0
end Go.Proofs.YtknpnhodpgajbaaGreatDoor
namespace Go.Proofs.YtknpnhodpgajbaaGreatDoor
open Go.RowKit
def dval (l:List UInt8):Nat:=l.foldl (fun a c=>a * 10+(c.toNat - 48)) 0
theorem Zrv:dval []=0:=rfl
theorem Zf4 (l:List UInt8) (c:UInt8):dval (l ++ [c])=dval l * 10+(c.toNat - 48):=by simp [dval]
theorem Zp6 (l m:List UInt8):dval (l ++ m)=dval l * 10 ^ m.length+dval m:=by
 refine Nat.rec (motive:=fun n=>∀ m:List UInt8,m.length=n→dval (l ++ m)=dval l * 10 ^ m.length+dval m) ?_ ?_ m.length m rfl
 ·intro m hm;rw [List.eq_nil_of_length_eq_zero hm];simp [Zrv]
 ·intro n ih m hm;rcases List.eq_nil_or_concat m with rfl | ⟨m,c,rfl⟩
  ·simp at hm
  ·rw [List.concat_eq_append] at hm ⊢;rw [← List.append_assoc,Zf4,Zf4,ih m (by simp at hm;exact hm)];simp only [List.length_append,List.length_singleton,Nat.pow_succ];rw [Nat.add_mul,Nat.mul_assoc];omega
theorem Zm3 (l:List UInt8) (h:l.all Zav=true):dval l < 10 ^ l.length:=by
 refine Nat.rec (motive:=fun n=>∀ m:List UInt8,m.length=n→m.all Zav=true→dval m < 10 ^ m.length) ?_ ?_ l.length l rfl h
 ·intro m hm _;rw [List.eq_nil_of_length_eq_zero hm];decide
 ·intro n ih m hm hd;rcases List.eq_nil_or_concat m with rfl | ⟨m,c,rfl⟩
  ·simp at hm
  ·rw [List.concat_eq_append] at hm hd ⊢;rw [List.all_append] at hd;simp only [Bool.and_eq_true] at hd;have h1:=ih m (by simp at hm;exact hm) hd.1;have h2:Zav c=true:=by simpa using hd.2
   simp [Zav] at h2
   rw [Zf4];simp only [List.length_append,List.length_singleton,Nat.pow_succ];omega
theorem Zg0 (s:ByteArray) (k:Nat) (h:k < s.size):dval ((bl s).take (k+1))=dval ((bl s).take k) * 10+(s[k].toNat - 48):=by
 rw [List.take_add_one,Ziy s k h];exact Zf4 _ _
theorem Znc (s:ByteArray) (h:(bl s).all Zav=true) (k:Nat) (hk:k < s.size):48≤s[k].toNat∧s[k].toNat≤57:=by
 have:=(List.all_eq_true.1 h) s[k] (List.mem_of_getElem? (Ziy s k hk))
 simpa [Zav] using this
def gval (g:Grp):Nat:=dval (bl g.1)
theorem Z1e (g:Grp):gval g < 1000000000:=by
 have h:=Zm3 _ g.2.2;have h2:(bl g.1).length≤9:=by rw [Zae];exact g.2.1
 exact Nat.lt_of_lt_of_le h (Nat.pow_le_pow_right (by decide) h2)
theorem Zy7 (s:ByteArray) (hd:(bl s).all Zav=true) (k:Nat) (hk:9 * k≤s.size+8):Go.Proofs.YtknpnhodpgajbaaGreatDoor.val 1000000000 ((grps s hd k).map gval)=dval ((bl s).drop (s.size - 9 * k)):=by
 induction k with
 | zero=>simp [grps,Go.Proofs.YtknpnhodpgajbaaGreatDoor.val,Zrv,← Zae]
 | succ k ih =>
  rw [Zke,List.map_append,List.map_singleton,Zdr,ih (by omega),List.length_map,Zem];have e:(bl s).drop (s.size - 9 * (k+1))=bl (grpB s k) ++ (bl s).drop (s.size - 9 * k):=by
   rw [grpB,Zbe];have h1:(bl s).drop (s.size - 9 * k)=((bl s).drop (s.size - 9 * (k+1))).drop (s.size - 9 * k - (s.size - 9 * (k+1))):=by
    rw [List.drop_drop];congr 1;omega
   rw [h1,List.take_append_drop]
  rw [e,Zp6,List.length_drop,Zae];have h2:s.size - (s.size - 9 * k)=9 * k:=by omega
  rw [h2,Nat.add_comm,Nat.mul_comm (1000000000 ^ k)];congr 1
  rw [show (1000000000:Nat)=10 ^ 9 from rfl,← Nat.pow_mul];rfl
theorem Zol (s:ByteArray) (hd:(bl s).all Zav=true):Go.Proofs.YtknpnhodpgajbaaGreatDoor.val 1000000000 ((grps s hd ((s.size+8) / 9)).map gval)=dval (bl s):=by
 rw [Zy7 s hd _ (by omega),show s.size - 9 * ((s.size+8) / 9)=0 by omega,List.drop_zero]
theorem Zr0 (l:List Grp):Dig 1000000000 (l.map gval):=fun x hx=>by
 obtain ⟨g,_,rfl⟩:=List.mem_map.1 hx;exact Z1e g
theorem Zco (xs:List Nat) (k:Nat) (h:k < xs.length) (hz:xs.getD k 0=0):Zan (xs.take (k+1))=Zan (xs.take k):=by
 rw [Zd0 _ _ h,hz,Zdp]
theorem Zdq (xs:List Nat) (k:Nat) (h:k < xs.length) (hz:xs.getD k 0 ≠ 0):Zan (xs.take (k+1))=xs.take (k+1):=by
 rw [Zd0 _ _ h,Zgu _ _ hz]
theorem Zcj (v:Value) (xs:List Nat) (w:World) (hv:Sl w v 1 xs.length (nums .u32 xs)) (hl:xs.length≤1000000) :
  Calls Tryz.prog 163 #[v] w fun e w'=>∃ v',e = .returned v'∧Hid (v'=Zyv v (Zan xs).length)∧w=w':=by
 obtain ⟨ad,cap,rfl,h1,h3⟩:=hv.nums;clear hv;go_enter Tryz.func163,Tryz.ntmps163
 go_wp2;go_loop [0] (fun m=>∃ k:Nat,k≤xs.length∧m = .slice ad k cap∧Hid (Zan (xs.take k)=Zan xs))
  (fun m=>match m with | .slice _ n _=>n | _=>0)
 case atStart=>exact ⟨xs.length,Nat.le_refl _,rfl,by rw [List.take_of_length_le (Nat.le_refl _)];rfl⟩
 case round =>
  obtain ⟨k,hk,rfl,Hrel⟩:=hrel;by_cases h0:0 < k
  ·obtain ⟨b,off,rfl,hc⟩:=h3.resolve_left (by omega);obtain ⟨k,rfl⟩:∃ k',k=k'+1:=⟨k - 1,by omega⟩
   have hck:=hc k (by omega);clear hc h3;by_cases hz:xs.getD k 0=0
   ·rw [hz] at hck;have Hz:=Lh hz;clear hz;go_wp2;go_round
    case rel=>exact ⟨k,by omega,rfl,by rw [← Zco xs k (by omega) Hz.out];exact Hrel⟩
    case measure=>simp
   ·obtain ⟨y,hy⟩:∃ y,y=xs.getD k 0:=⟨_,rfl⟩
    rw [← hy] at hck hz;have Hy:=Lh hy;clear hy;have hz':((y:Int) == 0)=false:=by simp;omega
    go_wp2;go_ret;refine ⟨_,rfl,?_,rfl⟩;have hz2:xs.getD k 0 ≠ 0:=by rw [← Hy.out];exact hz
    have e:=Hrel.out;rw [Zdq xs k (by omega) hz2] at e;show _=Value.slice _ _ _;rw [← e,List.length_take,Nat.min_eq_left hk];rfl
  ·obtain rfl:k=0:=by omega
   go_wp2;go_ret;refine ⟨_,rfl,?_,rfl⟩;have e:=Hrel.out;show _=Value.slice _ _ _;rw [← e];rfl
theorem Zvt (w:World) (a b c:Nat):∃ n,((w.drewN a).drewN b).drewN c=w.drewN n:=⟨a+b+c,by rw [World.drewN_drewN,World.drewN_drewN,Nat.add_assoc]⟩
theorem Zpy (ad bd:Option Addr) (m n ca cb:Nat) (w:World) (hm:m≤1000000) (hn:n≤1000000) (hne:m ≠ n) :
  Calls Tryz.prog 125 #[.slice ad m ca,.slice bd n cb] w fun e w' =>
   e = .returned (.int .i64 (if m < n then -1 else 1))∧w=w':=by
 by_cases hlt:m < n
 ·have hb:((m:Int) != (n:Int))=true:=by rw [bne_iff_ne];omega
  go_enter Tryz.func125,Tryz.ntmps125
  go_wp2;go_ret;exact ⟨rfl,rfl⟩
 ·have hb:((m:Int) != (n:Int))=true:=by rw [bne_iff_ne];omega
  go_enter Tryz.func125,Tryz.ntmps125
  go_wp2;go_ret;exact ⟨rfl,rfl⟩
theorem Ztf (ad ad':Option Addr) (ca cb:Nat) (xs ys:List Nat) (w:World) (hn:xs.length=ys.length) (hb:xs.length≤1000000)
  (hc:xs.length=0∨∃ b off,ad=some ⟨b,off,none⟩∧∀ j,j < xs.length→w.cell? ⟨b,off+j,none⟩=some (.int .u32 ((xs.getD j 0:Nat):Int)))
  (hd:ys.length=0∨∃ b off,ad'=some ⟨b,off,none⟩∧∀ j,j < ys.length→w.cell? ⟨b,off+j,none⟩=some (.int .u32 ((ys.getD j 0:Nat):Int))) :
  Calls Tryz.prog 125 #[.slice ad xs.length ca,.slice ad' ys.length cb] w fun e w' =>
   e = .returned (.int .i64 (cmpD xs.length xs ys))∧∃ n,w'=w.drewN n:=by
 rw [← hn] at hd ⊢;clear hn;have hq:((xs.length:Int) != (xs.length:Int))=false:=by simp
 go_enter Tryz.func125,Tryz.ntmps125
 go_wp2;go_loopw [5] (fun i wr=>∃ k:Nat,k≤xs.length∧i = .int .i64 (k - 1)∧Hid (cmpD k xs ys=cmpD xs.length xs ys)∧∃ n,wr=w.drewN n)
  (fun i _=>(intOf i+1).toNat)
 case atStart=>exact ⟨xs.length,Nat.le_refl _,by go_num,rfl,0,rfl⟩
 case round =>
  obtain ⟨k,hk,rfl,Hrel,n,rfl⟩:=hrel;by_cases h0:0 < k
  ·obtain ⟨k,rfl⟩:∃ k',k=k'+1:=⟨k - 1,by omega⟩
   obtain ⟨b,off,rfl,hc2⟩:=hc.resolve_left (by omega);obtain ⟨b',off',rfl,hd2⟩:=hd.resolve_left (by omega);have h1:=hc2 k (by omega);have h2:=hd2 k (by omega);clear hc2 hd2;obtain ⟨x,hx⟩:∃ x,x=xs.getD k 0:=⟨_,rfl⟩
   obtain ⟨y,hy⟩:∃ y,y=ys.getD k 0:=⟨_,rfl⟩
   rw [← hx] at h1;rw [← hy] at h2;have Hx:=Lh hx;clear hx;have Hy:=Lh hy;clear hy;clear hc hd;by_cases he:x=y
   ·subst he;have hq2:((x:Int) != (x:Int))=false:=by simp
    go_wp2_with fail;go_quiet (fail)
    go_wp2;go_roundw
    case rel =>
     refine ⟨k,by omega,by go_num,?_,n+nq,rfl⟩;have e:=Hrel.out;rw [cmpD,if_pos (by rw [← Hx.out,← Hy.out])] at e;exact e
    case measure=>simp [intOf]
   ·have hne:((x:Int) != (y:Int))=true:=by rw [bne_iff_ne];omega
    by_cases hlt:x < y
    ·go_wp2_with fail;go_quiet (fail)
     go_wp2_with fail;go_quiet (fail)
     go_wp2;go_ret;refine ⟨Zal ?_,Zvt _ _ _ _⟩;have e:=Hrel.out;rw [cmpD,if_neg (by rw [← Hx.out,← Hy.out];exact he),if_pos (by rw [← Hx.out,← Hy.out];exact hlt)] at e;exact e
    ·go_wp2_with fail;go_quiet (fail)
     go_wp2_with fail;go_quiet (fail)
     go_wp2;go_ret;refine ⟨Zal ?_,Zvt _ _ _ _⟩;have e:=Hrel.out;rw [cmpD,if_neg (by rw [← Hx.out,← Hy.out];exact he),if_neg (by rw [← Hx.out,← Hy.out];exact hlt)] at e;exact e
  ·obtain rfl:k=0:=by omega
   go_wp2;go_ret;refine ⟨Zal ?_,_,rfl⟩;exact Hrel.out
theorem Zck (a b:Value) (xs ys:List Nat) (w:World) (ha:Sl w a 1 xs.length (nums .u32 xs)) (hb:Sl w b 1 ys.length (nums .u32 ys))
  (hx:Nrm 1000000000 xs) (hy:Nrm 1000000000 ys) (lx:xs.length≤1000000) (ly:ys.length≤1000000) :
  Calls Tryz.prog 125 #[a,b] w fun e w' =>
   e = .returned (.int .i64 (sgn (val 1000000000 xs) (val 1000000000 ys)))∧∃ n,w'=w.drewN n:=by
 obtain ⟨ad,ca,rfl,h1,h3⟩:=ha.nums;obtain ⟨bd,cb,rfl,h1',h3'⟩:=hb.nums;by_cases hl:xs.length=ys.length
 ·rw [← Zyq (by decide) hx hy hl];exact Ztf ad bd ca cb xs ys w hl lx h3 h3'
 ·refine (Zpy ad bd _ _ ca cb w lx ly hl).mono ?_;rintro e w' ⟨rfl,rfl⟩;refine ⟨Zal ?_,0,rfl⟩;by_cases hlt:xs.length < ys.length
  ·rw [if_pos hlt,Zlb (hx.length_lt_of (by decide) hy hlt)]
  ·rw [if_neg hlt,Zjb (hy.length_lt_of (by decide) hx (by omega))]
theorem Tryz.ul_u32s:Tryz.prog.underlying 157=some (.slice 197):=by kernel_rfl
theorem Tryz.info_u32:(Tryz.prog.info? 197).map (fun i=>(i.zero,i.size,i.bytes))=some (some (.int .u32 0),1,4):=by kernel_rfl
def Zlq (W:World) (w:World) (v:Value) (rs:List Nat):Prop :=
 w.ownsRow W.heap.size 197 1 v rs.length (nums .u32 rs)∧Nrm 1000000000 rs∧Below W.heap.size W w
theorem Zh6 {w:World} {base:Nat} {e:TypeId} {v v':Value} {xs:List Nat} {k:IntKind} (h:w.ownsRow base e 1 v xs.length (nums k xs)) (hv:v'=Zyv v (Zan xs).length) :
  w.ownsRow base e 1 v' (Zan xs).length (nums k (Zan xs)):=by
 subst hv;have h2:=Zku h (Zan xs).length (Zak xs).2;rw [Nat.mul_one,Zb5,← (Zak xs).1] at h2;exact h2
theorem Zas (k:IntKind) (n:Int):∀ u ∈ [Value.int k n],u.oneCell'=true:=by
 intro u hu;rw [List.mem_singleton] at hu;subst hu;rfl
theorem Zt5 (A Bv O P x y c d r:Nat) (h:A+c * P=O+Bv) (hd:d+y+c=x+r * 1000000000):(A+P * x)+r * (P * 1000000000)=(O+P * d)+(Bv+P * y):=by
 have e1:P * (d+y+c)=P * (x+r * 1000000000):=by rw [hd]
 rw [Nat.mul_add,Nat.mul_add,Nat.mul_add] at e1;have e2:P * (r * 1000000000)=r * (P * 1000000000):=by rw [← Nat.mul_assoc,← Nat.mul_assoc,Nat.mul_comm P r]
 rw [e2] at e1;rw [Nat.mul_comm c P] at h;omega
theorem Zma {xs ys:List Nat} (hx:Dig 1000000000 xs) (hy:Nrm 1000000000 ys) (h:val 1000000000 ys≤val 1000000000 xs):ys.length≤xs.length:=by
 by_cases hne:ys=[]
 ·subst hne;simp
 ·have h1:=hy.pos hne;have h2:=Zc2 hx;have h3:=(Nat.pow_lt_pow_iff_right (show 1 < 1000000000 by decide)).1 (Nat.lt_of_le_of_lt (Nat.le_trans h1 h) h2);omega
def Zcp (xs ys o:List Nat) (k c:Nat):Prop :=
 o.length=k∧Dig 1000000000 o∧val 1000000000 (xs.take k)+c * 1000000000 ^ k=val 1000000000 o+val 1000000000 (ys.take k)
theorem Zcp.start (xs ys:List Nat):Zcp xs ys [] 0 0:=⟨rfl,Dig.nil _,by simp [val]⟩
theorem Zcp.step {xs ys o:List Nat} {k c d r:Nat} (h:Zcp xs ys o k c) (hd:d < 1000000000) (e:d+ys.getD k 0+c=xs.getD k 0+r * 1000000000):Zcp xs ys (o ++ [d]) (k+1) r:=by
 obtain ⟨h1,h2,h3⟩:=h;refine ⟨by simp [h1],h2.snoc hd,?_⟩;rw [Zam,Zam,Zdr,h1,Nat.pow_succ];exact Zt5 _ _ _ _ _ _ _ _ _ h3 e
theorem Zcp.fin {xs ys o:List Nat} {c:Nat} (h:Zcp xs ys o xs.length c) (hl:ys.length≤xs.length) (hle:val 1000000000 ys≤val 1000000000 xs) (hc:c≤1) :
  val 1000000000 (Zan o)=val 1000000000 xs - val 1000000000 ys:=by
 obtain ⟨h1,h2,h3⟩:=h;rw [List.take_of_length_le (Nat.le_refl _),List.take_of_length_le hl] at h3;rw [Zay];have h4:=Zc2 h2;rw [h1] at h4;by_cases h0:c=0
 ·subst h0;omega
 ·obtain rfl:c=1:=by omega
  omega
theorem Zkm (a b:Value) (xs ys:List Nat) (w:World) (ha:Sl w a 1 xs.length (nums .u32 xs)) (hb:Sl w b 1 ys.length (nums .u32 ys))
  (dx:Dig 1000000000 xs) (dy:Nrm 1000000000 ys) (hle:val 1000000000 ys≤val 1000000000 xs) (lx:xs.length≤100000) :
  Calls Tryz.prog 165 #[a,b] w fun e w'=>∃ v rs,e = .returned v∧Zlq w w' v rs∧val 1000000000 rs=val 1000000000 xs - val 1000000000 ys:=by
 have hlen:=Zma dx dy hle;obtain ⟨ad,ca,rfl,h1,h3⟩:=ha.nums;obtain ⟨bd,cb,rfl,h1',h3'⟩:=hb.nums;obtain ⟨i0,hi,hz0,hz1,hz2⟩:=info_parts Tryz.info_u32;have Hle:=Lh hle;clear hle ha hb;go_enter Tryz.func165,Tryz.ntmps165
 go_wp2_with (at_make;refine wpList_make_own _ rfl _ _ 157 rfl w.heap.size 197 i0 (.int .u32 0) 1 Tryz.ul_u32s hi hz0 hz1 _ _ _ xs.length rfl rfl rfl ?b1 ?b2 ?b3 ?_)
 case b1=>rw [hz2];omega
 case b2=>unfold maxLen;omega
 case b3=>exact Nat.le_refl _
 intro w1 hown hgrow;have hbel:Below w.heap.size w w1:=(Below.refl _ _).grown hgrow (Nat.le_refl _) (by simp);clear hgrow;go_wp2;go_loopw [5,6,15] (fun o c i wr=>∃ (k b1:Nat) (os:List Nat),k≤xs.length∧b1≤1∧i = .int .i64 k∧c = .int .u32 b1∧o = .slice (some ⟨w.heap.size,0,none⟩) k xs.length ∧
   wr.ownsRow w.heap.size 197 1 (.slice (some ⟨w.heap.size,0,none⟩) k xs.length) k (nums .u32 os)∧Hid (Zcp xs ys os k b1)∧Below w.heap.size w wr)
  (fun _ _ i _=>xs.length - (intOf i).toNat)
 case atStart=>exact ⟨0,0,[],Nat.zero_le _,by omega,rfl,rfl,rfl,hown,Zcp.start _ _,hbel⟩
 case round =>
  clear hown hbel;obtain ⟨k,b1,os,hk,hb1,rfl,rfl,rfl,hown,Hinv,hbel⟩:=hrel;by_cases hlt:k < xs.length
  ·obtain ⟨b,off,rfl,hc⟩:=h3.resolve_left (by omega);have hck:=cell_later hbel (hc k hlt);have hx9:=dx.at (by decide) k;have hy9:=dy.1.at (by decide) k;obtain ⟨x,hx⟩:∃ x,x=xs.getD k 0:=⟨_,rfl⟩
   obtain ⟨y,hy⟩:∃ y,y=ys.getD k 0:=⟨_,rfl⟩
   rw [← hx] at hck hx9;rw [← hy] at hy9;have Hx:=Lh hx;clear hx;have Hy:=Lh hy;clear hy;clear hc h3;have hsz:=hbel.size;by_cases hly:k < ys.length
   ·obtain ⟨b',off',rfl,hd⟩:=h3'.resolve_left (by omega);have hdk:=cell_later hbel (hd k hly);rw [← Hy.out] at hdk;clear hd h3';by_cases hxy:x < b1+y
    ·go_wp2_with (at_builtin;refine wpList_append_fits _ rfl _ _ 157 rfl w.heap.size 197 i0 1 Tryz.ul_u32s hi hz1 w.heap.size k xs.length (nums .u32 os) rfl (hown.alloc _) ⟨wr.heap.size,0,none⟩ 1 1 [_] rfl rfl (cell_one_new _ _ _) (Zas _ _) (by omega) ?_);intro w2 hown2 hgrow2;have ed:((x:Int)+1000000000 - ((b1:Int)+(y:Int)):Int)=((x+1000000000 - (b1+y):Nat):Int):=by omega
     rw [ed,Za1] at hown2;have hbel2:Below w.heap.size w w2:=(hbel.alloc hsz _).grown hgrow2 (by simp;omega) (by intro k hk;simp at hk;omega);have HR:Hid (Zcp xs ys (os ++ [x+1000000000 - (b1+y)]) (k+1) 1):=Hinv.out.step (by omega) (by rw [← Hx.out,← Hy.out];omega);clear ed hgrow2 hown hbel;go_wp2;go_roundw
     case rel=>exact ⟨k+1,1,os ++ [x+1000000000 - (b1+y)],by omega,by omega,by go_num,rfl,rfl,hown2,HR,hbel2⟩
     case measure=>simp [intOf];omega
    ·go_wp2_with (at_builtin;refine wpList_append_fits _ rfl _ _ 157 rfl w.heap.size 197 i0 1 Tryz.ul_u32s hi hz1 w.heap.size k xs.length (nums .u32 os) rfl (hown.alloc _) ⟨wr.heap.size,0,none⟩ 1 1 [_] rfl rfl (cell_one_new _ _ _) (Zas _ _) (by omega) ?_);intro w2 hown2 hgrow2;have ed:((x:Int) - ((b1:Int)+(y:Int)):Int)=((x - (b1+y):Nat):Int):=by omega
     rw [ed,Za1] at hown2;have hbel2:Below w.heap.size w w2:=(hbel.alloc hsz _).grown hgrow2 (by simp;omega) (by intro k hk;simp at hk;omega);have HR:Hid (Zcp xs ys (os ++ [x - (b1+y)]) (k+1) 0):=Hinv.out.step (by omega) (by rw [← Hx.out,← Hy.out];omega);clear ed hgrow2 hown hbel;go_wp2;go_roundw
     case rel=>exact ⟨k+1,0,os ++ [x - (b1+y)],by omega,by omega,by go_num,rfl,rfl,hown2,HR,hbel2⟩
     case measure=>simp [intOf];omega
   ·have hy0:ys.getD k 0=0:=by simp only [List.getD,List.getElem?_eq_none (by omega:ys.length≤k),Option.getD_none]
    have Hy0:=Lh hy0;clear hy0;by_cases hxy:x < b1
    ·go_wp2_with (at_builtin;refine wpList_append_fits _ rfl _ _ 157 rfl w.heap.size 197 i0 1 Tryz.ul_u32s hi hz1 w.heap.size k xs.length (nums .u32 os) rfl (hown.alloc _) ⟨wr.heap.size,0,none⟩ 1 1 [_] rfl rfl (cell_one_new _ _ _) (Zas _ _) (by omega) ?_);intro w2 hown2 hgrow2;have ed:((x:Int)+1000000000 - (b1:Int):Int)=((x+1000000000 - b1:Nat):Int):=by omega
     rw [ed,Za1] at hown2;have hbel2:Below w.heap.size w w2:=(hbel.alloc hsz _).grown hgrow2 (by simp;omega) (by intro k hk;simp at hk;omega);have HR:Hid (Zcp xs ys (os ++ [x+1000000000 - b1]) (k+1) 1):=Hinv.out.step (by omega) (by rw [← Hx.out,Hy0.out];omega);clear ed hgrow2 hown hbel;go_wp2;go_roundw
     case rel=>exact ⟨k+1,1,os ++ [x+1000000000 - b1],by omega,by omega,by go_num,rfl,rfl,hown2,HR,hbel2⟩
     case measure=>simp [intOf];omega
    ·go_wp2_with (at_builtin;refine wpList_append_fits _ rfl _ _ 157 rfl w.heap.size 197 i0 1 Tryz.ul_u32s hi hz1 w.heap.size k xs.length (nums .u32 os) rfl (hown.alloc _) ⟨wr.heap.size,0,none⟩ 1 1 [_] rfl rfl (cell_one_new _ _ _) (Zas _ _) (by omega) ?_);intro w2 hown2 hgrow2;have ed:((x:Int) - (b1:Int):Int)=((x - b1:Nat):Int):=by omega
     rw [ed,Za1] at hown2;have hbel2:Below w.heap.size w w2:=(hbel.alloc hsz _).grown hgrow2 (by simp;omega) (by intro k hk;simp at hk;omega);have HR:Hid (Zcp xs ys (os ++ [x - b1]) (k+1) 0):=Hinv.out.step (by omega) (by rw [← Hx.out,Hy0.out];omega);clear ed hgrow2 hown hbel;go_wp2;go_roundw
     case rel=>exact ⟨k+1,0,os ++ [x - b1],by omega,by omega,by go_num,rfl,rfl,hown2,HR,hbel2⟩
     case measure=>simp [intOf];omega
  ·obtain rfl:k=xs.length:=by omega
   have HF:=Hinv.out.fin hlen Hle.out hb1;have hos:os.length=xs.length:=Hinv.out.1;have hdg:=Hinv.out.2.1;have hsl:=Sl.of_owns hown;rw [← hos] at hsl hown;have HF':=Lh HF;clear HF;have Hos:=Lh hos;clear hos;rw [show xs.length=os.length from Hos.out.symm];go_wp2_with fail;refine (Zcj _ os _ hsl (by have:=Hos.out;omega)).mono ?_;rintro e w' ⟨v',rfl,Hv,rfl⟩;go_wp2;go_ret;exact ⟨_,_,rfl,⟨Zh6 hown Hv.out,Za6 hdg,hbel⟩,HF'.out⟩
end Go.Proofs.YtknpnhodpgajbaaGreatDoor
namespace Go.Proofs.YtknpnhodpgajbaaGreatDoor
open Go.RowKit Go.Shelf
attribute [local go_sem] Oper.semAt_some
def Zai (W:World) (B:Nat) (t:TypeId) (u v:Value):Prop:=W.heap[B]? = some (.cells #[u,v] t (0,0))
theorem Zai.lt {W:World} {B:Nat} {t:TypeId} {u v:Value} (h:Zai W B t u v):B < W.heap.size:=(Array.getElem?_eq_some_iff.1 h).1
theorem Zai.cell0 {W:World} {B:Nat} {t:TypeId} {u v:Value} (h:Zai W B t u v):W.cell? ⟨B,0,none⟩=some u:=by simp [World.cell?,show W.heap[B]? = _ from h]
theorem Zai.cell1 {W:World} {B:Nat} {t:TypeId} {u v:Value} (h:Zai W B t u v):W.cell? ⟨B,1,none⟩=some v:=by simp [World.cell?,show W.heap[B]? = _ from h]
theorem Zai.frozen {W:World} {B:Nat} {t:TypeId} {u v:Value} (h:Zai W B t u v) (o:Nat):W.frozen? ⟨B,o,none⟩=false:=by simp [World.frozen?,show W.heap[B]? = _ from h]
theorem Zai.of_block {W W':World} {B:Nat} {t:TypeId} {u v:Value} (h:Zai W B t u v) (e:W'.heap[B]? = W.heap[B]?):Zai W' B t u v:=e.trans h
theorem Zbj {W:World} {B:Nat} {c:Array Value} {t:TypeId} {q:Nat × Nat} (h:W.heap[B]? = some (.cells c t q)) (o:Nat) (x:Value):(W.setCell ⟨B,o,none⟩ x).heap[B]? = some (.cells (c.setIfInBounds o x) t q):=by
 obtain ⟨hlt,hk⟩:=Array.getElem?_eq_some_iff.1 h;show (W.heap.modify B _)[B]? = _;rw [Array.getElem?_eq_getElem (by rw [Array.size_modify];exact hlt),Array.getElem_modify_self,hk];rfl
theorem Zai.set1 {W:World} {B:Nat} {t:TypeId} {u v:Value} (h:Zai W B t u v) (x:Value):Zai (W.setCell ⟨B,1,none⟩ x) B t u x:=Zbj h 1 x
theorem Zai.set0 {W:World} {B:Nat} {t:TypeId} {u v:Value} (h:Zai W B t u v) (x:Value):Zai (W.setCell ⟨B,0,none⟩ x) B t x v:=Zbj h 0 x
theorem Zbx {W:World} {e t:TypeId} {base size k B:Nat} {v:Value} {xs:List Value} {c:Array Value} (hr:W.ownsRow base e size v k xs) (hb:W.heap[B]? = some (.cells c t (0,0))) (hte:t ≠ e):v.ownBlock ≠ some B:=by
 intro e';rcases hr.2 with ⟨rfl,_⟩ | ⟨g,cap,cur,rfl,_,hgb,_⟩
 ·simp [Value.ownBlock] at e'
 ·obtain rfl:g=B:=by simpa [Value.ownBlock] using e'
  rw [hb] at hgb;simp at hgb
  exact hte hgb.2
theorem Zai.appended {W w1:World} {n₀ B:Nat} {t e:TypeId} {u v v':Value} {k m:Nat} {xs ys:List Value} {tmp:Obj}
  (hv:Zai W B t u v) (hte:t ≠ e) (hrow:W.ownsRow n₀ e 1 v k xs) (hn₀:n₀≤W.heap.size) (hB:n₀≤B)
  (hown':w1.ownsRow n₀ e 1 v' m ys) (hgrow:(W.alloc tmp).grownBy w1 v.ownBlock) :
  Zai w1 B t u v∧Zai (w1.setCell ⟨B,1,none⟩ v') B t u v'∧(w1.setCell ⟨B,1,none⟩ v').ownsRow n₀ e 1 v' m ys∧KeepsOthers W (w1.setCell ⟨B,1,none⟩ v')∧Below n₀ W (w1.setCell ⟨B,1,none⟩ v') ∧
   (∀ (C:Nat) (c:Array Value) (tc:TypeId),W.heap[C]? = some (.cells c tc (0,0))→tc ≠ e→C ≠ B→(w1.setCell ⟨B,1,none⟩ v').heap[C]? = W.heap[C]?):=by
 have ha:∀ C,C < W.heap.size→(W.alloc tmp).heap[C]? = W.heap[C]?:=fun C hC=>Below.heap_alloc W tmp C hC
 have hne:v.ownBlock ≠ some B:=Zbx hrow hv hte;have hv1:Zai w1 B t u v:=hv.of_block ((hgrow.block B (by have:=hv.lt;simp;omega) (Ne.symm hne)).trans (ha B hv.lt));refine ⟨hv1,hv1.set1 v',Zca hown' (fun g hg _=>Below.heap_setCell _ _ _ _ (fun e2=>Zbx hown' hv1 hte (by rw [hg];exact congrArg some e2))),?_,?_,?_⟩
 ·refine ((KeepsOthers.alloc W tmp).trans (KeepsOthers.of_grownBy hgrow fun j o ej hj=>?_)).trans (KeepsOthers.setCell _ _ _);rcases (hrow.alloc tmp).2 with ⟨rfl,_⟩ | ⟨g,cap,cur,rfl,_,hgb,_⟩
  ·simp [Value.ownBlock] at ej
  ·obtain rfl:g=j:=by simpa [Value.ownBlock] using ej
   rw [hgb] at hj;cases hj;rfl
 ·refine (((Below.refl n₀ W).alloc hn₀ tmp).grown hgrow (by simp;omega) fun j ej=>(hrow.lt j ej).1).setCell (p:=⟨B,1,none⟩) hB v'
 ·intro C c tc hC htc hCB;have hlt:=(Array.getElem?_eq_some_iff.1 hC).1;rw [Below.heap_setCell _ _ _ _ hCB,hgrow.block C (by simp;omega) (Ne.symm (Zbx hrow hC htc)),ha C hlt]
def Zvf (w:World) (neg:Bool) (t:ByteArray) (pre:List Grp) (W:World):Prop :=
 (∃ v,Zai W (w.heap.size+1) 159 (.bool neg) v∧W.ownsRow w.heap.size 197 1 v pre.length (nums .u32 (pre.map gval))) ∧
  Zai W w.heap.size 159 (.bool false) (.slice none 0 0)∧W.heap[w.heap.size+1+1]? = some (.cells #[.string t] 9 (0,0))∧Below w.heap.size w W
theorem Zgo {X Y:World} {row:Option Nat} {B:Nat} {c:Array Value} {t:TypeId} {q:Nat × Nat} (h:X.heap[B]? = some (.cells c t q)) (hg:X.grownBy Y row)
  (hrow:∀ r,row=some r→∃ o:Obj,X.heap[r]? = some o∧o.isCells=false):Y.heap[B]? = X.heap[B]?:=by
 refine hg.block B (Array.getElem?_eq_some_iff.1 h).1 (fun e=>?_);obtain ⟨o,ho,hc⟩:=hrow B e.symm;rw [h] at ho;cases ho;cases hc
theorem Zpb (w:World) (neg:Bool) (t:ByteArray) (B:Nat) (hB:w.heap.size≤B):OwnFrom B (Zvf w neg t):=by
 rintro pre X Y row ⟨⟨v,hv,hr⟩,hb,hs,hbel⟩ hg hrow;have hrow2:∀ r,row=some r→∃ o:Obj,X.heap[r]? = some o∧o.isCells=false:=fun r e=>(hrow r e).2
 refine ⟨⟨v,hv.of_block (Zgo hv hg hrow2),?_⟩,hb.of_block (Zgo hb hg hrow2),(Zgo hs hg hrow2).trans hs,hbel.grown hg hbel.size (fun k e=>Nat.le_trans hB (hrow k e).1)⟩;refine Zca hr (fun k hk _=>?_);rcases hr.2 with ⟨rfl,_⟩ | ⟨g,cap,cur,rfl,_,hgb,_⟩
 ·simp [Value.ownBlock] at hk
 ·obtain rfl:g=k:=by simpa [Value.ownBlock] using hk
  exact Zgo hgb hg hrow2
def Zmn (w:World) (neg:Bool) (n:Nat) (e:Ending) (w':World):Prop :=
 ∃ v rs,e = .returned (.agg #[.bool neg,v])∧Sl w' v 1 rs.length (nums .u32 rs)∧Nrm 1000000000 rs∧Go.Proofs.YtknpnhodpgajbaaGreatDoor.val 1000000000 rs=n∧Below w.heap.size w w'
theorem Zzs (s:ByteArray) (w:World) (hs:s.size≤100000) (h0:0 < s.size) (hd:(bl s).all Zav=true) :
  Calls Tryz.prog 161 #[.string s] w (Zmn w false (dval (bl s))):=by
 obtain ⟨i0,hi,hz0,hz1,hz2⟩:=info_parts Tryz.info_u32;obtain ⟨c0,hc0⟩:∃ c,s[0]=c:=⟨_,rfl⟩
 have hcd:=Znc s hd 0 h0;rw [hc0] at hcd;have hm1:((c0.toNat:Int) == 45)=false:=by rw [beq_eq_false_iff_ne];omega
 refine (callsIn_wide (n:=4)).1 ?_;refine callsIn_of_wp_marks Tryz.func161 rfl trivial ?_ rfl;simp only [Tryz.ntmps161,List.size_toArray,List.length_cons,List.length_nil,Nat.reduceAdd,Nat.reduceSub,Array.replicate_succ,Array.replicate_zero,List.push_toArray,List.append_toArray,List.nil_append,List.cons_append];gi_wp2_with (refine ⟨trivial,?_⟩;gi_at_call 192;refine (Zoj Fence.wide _ trivial rfl _ _).mono ?_;rintro e w' ⟨rfl,rfl⟩)
 obtain ⟨W0,hW0⟩:∃ W0,W0=(((w.alloc (.cells #[.bool false,.slice none 0 0] 159)).alloc (.cells #[.bool false,.slice none 0 0] 159)).alloc (.cells #[.string s] 9)):=⟨_,rfl⟩
 rw [← hW0];have hsz:W0.heap.size=w.heap.size+3:=by rw [hW0];simp
 have hI0:Zvf w false s [] W0:=by
  rw [hW0];refine ⟨⟨.slice none 0 0,?_,World.ownsRow_nil _ _ _ _⟩,?_,?_,?_⟩
  ·show (((w.heap.push _).push _).push _)[w.heap.size+1]? = _;rw [Array.getElem?_push,if_neg (by simp),Array.getElem?_push,if_pos (by simp)]
  ·show (((w.heap.push _).push _).push _)[w.heap.size]? = _;rw [Array.getElem?_push,if_neg (by simp;omega),Array.getElem?_push,if_neg (by simp),Array.getElem?_push,if_pos rfl]
  ·show (((w.heap.push _).push _).push _)[w.heap.size+1+1]? = _;rw [Array.getElem?_push,if_pos (by simp)]
  ·exact (((Below.refl _ w).alloc (Nat.le_refl _) _).alloc (by simp) _).alloc (by simp;omega) _
 clear hW0;refine wpIn_rangeFunc_ownG rfl (by decide) (gf:=207) (lb:=#[.pointer (some ⟨w.heap.size+1+1,0,none⟩)]) rfl trivial (enters_of Tryz.func207 (by kernel_rfl) rfl)
  (Zi5 Fence.wide _ trivial rfl (by decide) (w.heap.size+1+1) s hd (by omega) W0 hI0.2.2.1) (fun h k=>Eq.trans k h) (fun W l o o' hl ho hc hk=>World.putObj_heap_other (by omega)) (Below.refl _ _) (fun _=>rfl)
  (Zvf w false s) (fun _ _ _=>False) (Zpb _ _ _ _ (by omega)) (fun _ _ _ _ _ hs _ _=>hs) hI0
  (fun x=>{ tmps:=#[.string s,undef,.pointer (some ⟨w.heap.size,0,none⟩),.pointer (some ⟨w.heap.size+1,0,none⟩),.string s,.string x.1,undef,undef,.string s,.string s,.int .u8 c0.toNat,.bool false,undef,undef,undef,.string s,.func (.func 207) #[] #[.pointer (some ⟨w.heap.size+1+1,0,none⟩)],.string x.1,undef,undef,undef,undef,undef,undef,undef,undef,undef,undef,undef,undef,undef,undef,undef,undef,undef,undef,undef,undef,undef,undef,undef,undef,undef],defers:=[] }) ?assign ?body ?done ?stop
 case assign =>
  intro l x W K hK;gi_wp2
  exact hK
 case body =>
  rintro l pre x W ⟨⟨v,hv,hrow⟩,hb0,hst,hbel⟩ hlt;obtain ⟨g,hg9,hgd⟩:=x;have hg9':g.size≤9:=hg9;have hgd':(bl g).all Zav=true:=hgd;have hpl:pre.length≤12000:=by omega
  gi_wp2_with fail
  gi_loopw [6,20] (fun a i wr=>∃ k:Nat,k≤g.size∧i = .int .i64 k∧a = .int .u32 (dval ((bl g).take k):Nat)∧Hid (wr=W))
   (fun _ i _=>g.size - (intOf i).toNat)
  case atStart=>exact ⟨0,Nat.zero_le _,rfl,rfl,rfl⟩
  case round =>
   obtain ⟨k,hk,rfl,rfl,Hw⟩:=hrel;obtain rfl:wr=W:=Hw.out;clear Hw;by_cases hlt2:k < g.size
   ·have hc:=Znc g hgd' k hlt2;have hs1:=Zg0 g k hlt2;obtain ⟨c,hcc⟩:∃ c,g[k]=c:=⟨_,rfl⟩
    rw [hcc] at hc hs1;have hlv:dval ((bl g).take k) < 100000000:=by
     have h1:=Zm3 ((bl g).take k) (Zbc Zav _ k hgd');have h2:((bl g).take k).length≤8:=by rw [List.length_take];omega
     exact Nat.lt_of_lt_of_le h1 (Nat.pow_le_pow_right (by decide) h2)
    obtain ⟨d,hdd⟩:∃ d,dval ((bl g).take k)=d:=⟨_,rfl⟩
    rw [hdd] at hs1 hlv ⊢;have Hs1:=Lh hs1;clear hs1 hdd;gi_wp2
    go_roundw
    case rel=>exact ⟨k+1,by omega,by go_num,by rw [Hs1.out];go_num,by first | exact rfl | exact trivial⟩
    case measure=>simp [intOf];omega
   ·obtain rfl:k=g.size:=by omega
    have hgv:dval ((bl g).take g.size)=gval ⟨g,hg9,hgd⟩:=by rw [List.take_of_length_le (by rw [Zae];exact Nat.le_refl _)];rfl
    rw [hgv];have hc0:=hv.cell1;have hf0:=hv.frozen 1;have hsize:=hbel.size;clear hgv hlt2 hk;gi_wp2_with (gi_at_builtin;refine wpListIn_append_own _ rfl _ _ 157 rfl w.heap.size 197 i0 (.int .u32 0) 1 4 Tryz.ul_u32s hi hz0 hz1 hz2 rfl (by decide) _ _ _ rfl (hrow.alloc _) ⟨wr.heap.size,0,none⟩ 1 1 [.int .u32 ((gval ⟨g,hg9,hgd⟩:Nat):Int)] rfl rfl (cell_one_new _ _ _) (Zas _ _) (by unfold maxLen;omega) (by omega) (by simp;omega) ?_;intro v' w1 hown' hgrow _;obtain ⟨g',cap',rfl⟩:=ownsRow_succ hown';obtain ⟨hv1,hv2,hr2,hk2,hb2,ho2⟩:=hv.appended (by decide) hrow hsize (by omega) hown' hgrow;have hc1:=hv1.cell1;have hf1:=hv1.frozen 1)
    refine ⟨hk2.from _,ho2 _ _ _ hst (by decide) (by omega),⟨_,hv2,?_⟩,hb0.of_block (ho2 _ _ _ hb0 (by decide) (by omega)),(ho2 _ _ _ hst (by decide) (by omega)).trans hst,hbel.trans hb2⟩;rw [List.length_append,List.length_singleton,List.map_append,List.map_singleton,← Za1];exact hr2
 case done =>
  rintro D ys W hD rfl ⟨⟨v,hv,hrow⟩,hb0,hst,hbel⟩ hK;have hsl:=Sl.of_owns hrow;obtain ⟨ad,cap,rfl,_⟩:=id hsl;have hn:=Zem s hd ((s.size+8) / 9);have hval:=Zol s hd;obtain ⟨ms,hms⟩:∃ ms,(grps s hd ((s.size+8) / 9)).map gval=ms:=⟨_,rfl⟩
  have hdig:=Zr0 (grps s hd ((s.size+8) / 9));have hlen:(grps s hd ((s.size+8) / 9)).length=ms.length:=by rw [← hms,List.length_map]
  rw [hlen] at hv;rw [hlen,hms] at hsl hrow;rw [hms] at hval hdig;have hml:ms.length≤100000:=by omega
  have Hval:=Lh hval;clear hval hms hlen hn;have hc1:=hv.cell1;have hc0:=hv.cell0;have hf1:=hv.frozen 1;have hr0:=hb0.cell0;have hr1:=hb0.cell1;have hrf0:=hb0.frozen 0;have hrf1:=hb0.frozen 1;have Htr:=Lh (Zcj _ ms W hsl (by omega));clear hsl;gi_wp2_with fail
  refine ⟨trivial,?_⟩;refine (callsIn_wide.2 Htr.out).mono ?_;rintro e w' ⟨v',rfl,Hv',rfl⟩;obtain rfl:v'=Value.slice ad (Zan ms).length cap:=Hv'.out;have HK:=Lh hK;have Hrow:=Lh hrow;clear hK hrow;gi_wp2
  obtain ⟨W3,hW3⟩:∃ W3,W3=(((W.setCell ⟨w.heap.size+1,1,none⟩ (Value.slice ad (Zan ms).length cap)).setCell ⟨w.heap.size,0,none⟩ (Value.bool false)).setCell ⟨w.heap.size,1,none⟩ (Value.slice ad (Zan ms).length cap)):=⟨_,rfl⟩
  rw [← hW3];have hK3:W3.heap[D]? = some (.deferred (some [])):=by
   rw [hW3];exact (((KeepsOthers.setCell W _ _).trans (KeepsOthers.setCell _ _ _)).trans (KeepsOthers.setCell _ _ _)).same D _ HK.out rfl
  have hB3:Zai W3 w.heap.size 159 (.bool false) (Value.slice ad (Zan ms).length cap):=by
   rw [hW3];exact ((hb0.of_block (Below.heap_setCell _ _ _ _ (by simp))).set0 _).set1 _
  have hB4:Zai (W3.putObj D (.deferred none)) w.heap.size 159 (.bool false) (Value.slice ad (Zan ms).length cap):=hB3.of_block (World.putObj_heap_other (by omega));have hoth:∀ k,(Value.slice ad ms.length cap).ownBlock=some k→(W3.putObj D (.deferred none)).heap[k]? = W.heap[k]?:=by
   intro k hk;have k1:k ≠ w.heap.size:=fun e=>Zbx Hrow.out hb0 (by decide) (by rw [hk,e])
   have k2:k ≠ w.heap.size+1:=fun e=>Zbx Hrow.out hv (by decide) (by rw [hk,e])
   have k3:k ≠ D:=fun e=>by
    rcases Hrow.out.2 with ⟨he,_⟩ | ⟨g,_,_,he,_,hgb,_⟩
    ·rw [he] at hk;simp [Value.ownBlock] at hk
    ·rw [he] at hk;obtain rfl:g=k:=by simpa [Value.ownBlock] using hk
     rw [e,HK.out] at hgb;cases hgb
   rw [World.putObj_heap_other k3,hW3,Below.heap_setCell _ _ _ _ k1,Below.heap_setCell _ _ _ _ k1,Below.heap_setCell _ _ _ _ k2]
  have hcut:=((Sl.of_owns Hrow.out).kept (w':=W3.putObj D (.deferred none)) (fun k hk _=>hoth k hk)).cut (Zan ms).length (Zak ms).2;rw [Nat.mul_one,Zb5,← (Zak ms).1] at hcut;have hbel4:Below w.heap.size w (W3.putObj D (.deferred none)):=by
   refine Below.trans ?_ (belowK_b (w:=w) (Nat.le_refl _) W3 D _ _ (by omega) hK3 rfl rfl);rw [hW3];exact ((hbel.setCell (p:=⟨w.heap.size+1,1,none⟩) (by simp) _).setCell (p:=⟨w.heap.size,0,none⟩) (Nat.le_refl _) _).setCell (p:=⟨w.heap.size,1,none⟩) (Nat.le_refl _) _
  refine ⟨by simp,.inl ⟨_,_,rfl,run_takeDeferred hK3,?_⟩⟩;refine ⟨.agg #[.bool false,Value.slice ad (Zan ms).length cap],?_,?_⟩
  ·simp [results,Tryz.results161,go_sem,hB4.cell0,hB4.cell1]
  ·exact ⟨_,Zan ms,rfl,hcut,Za6 hdig,by rw [Zay];exact Hval.out,hbel4⟩
 case stop =>
  rintro D c pre W _ _ h _;exact h.elim
theorem Zzr (s:ByteArray) (w:World) (hs:s.size≤100000) (h0:0 < s.size) (hm:s[0]=45) (t:ByteArray) (ht:s.extract 1 s.size=t) (hd:(bl t).all Zav=true) :
  Calls Tryz.prog 161 #[.string s] w (Zmn w true (dval (bl t))):=by
 obtain ⟨i0,hi,hz0,hz1,hz2⟩:=info_parts Tryz.info_u32;have hts:t.size≤100000:=by
  have:=Zig s h0
  rw [ht] at this;rw [← Zae,this,List.length_tail,Zae];omega
 refine (callsIn_wide (n:=4)).1 ?_;refine callsIn_of_wp_marks Tryz.func161 rfl trivial ?_ rfl;simp only [Tryz.ntmps161,List.size_toArray,List.length_cons,List.length_nil,Nat.reduceAdd,Nat.reduceSub,Array.replicate_succ,Array.replicate_zero,List.push_toArray,List.append_toArray,List.nil_append,List.cons_append];gi_wp2_with fail
 gi_region
 all_goals gi_wp2_with fail
 gi_wp2_with (refine ⟨trivial,?_⟩;gi_at_call 192;refine (Zoj Fence.wide _ trivial rfl _ _).mono ?_;rintro e w' ⟨rfl,rfl⟩)
 obtain ⟨W0,hW0⟩:∃ W0,W0=(((w.alloc (.cells #[.bool false,.slice none 0 0] 159)).alloc (.cells #[.bool true,.slice none 0 0] 159)).alloc (.cells #[.string t] 9)).drew:=⟨_,rfl⟩
 rw [← hW0];have hsz:W0.heap.size=w.heap.size+3:=by rw [hW0];simp
 have hI0:Zvf w true t [] W0:=by
  rw [hW0];refine ⟨⟨.slice none 0 0,?_,World.ownsRow_nil _ _ _ _⟩,?_,?_,?_⟩
  ·show (((w.heap.push _).push _).push _)[w.heap.size+1]? = _;rw [Array.getElem?_push,if_neg (by simp),Array.getElem?_push,if_pos (by simp)]
  ·show (((w.heap.push _).push _).push _)[w.heap.size]? = _;rw [Array.getElem?_push,if_neg (by simp;omega),Array.getElem?_push,if_neg (by simp),Array.getElem?_push,if_pos rfl]
  ·show (((w.heap.push _).push _).push _)[w.heap.size+1+1]? = _;rw [Array.getElem?_push,if_pos (by simp)]
  ·exact ((((Below.refl _ w).alloc (Nat.le_refl _) _).alloc (by simp) _).alloc (by simp;omega) _).drew
 clear hW0;refine wpIn_rangeFunc_ownG rfl (by decide) (gf:=207) (lb:=#[.pointer (some ⟨w.heap.size+1+1,0,none⟩)]) rfl trivial (enters_of Tryz.func207 (by kernel_rfl) rfl)
  (Zi5 Fence.wide _ trivial rfl (by decide) (w.heap.size+1+1) t hd (by omega) W0 hI0.2.2.1) (fun h k=>Eq.trans k h) (fun W l o o' hl ho hc hk=>World.putObj_heap_other (by omega)) (Below.refl _ _) (fun _=>rfl)
  (Zvf w true t) (fun _ _ _=>False) (Zpb _ _ _ _ (by omega)) (fun _ _ _ _ _ hs _ _=>hs) hI0
  (fun x=>{ tmps:=#[.string s,undef,.pointer (some ⟨w.heap.size,0,none⟩),.pointer (some ⟨w.heap.size+1,0,none⟩),.string t,.string x.1,undef,undef,.string s,.string s,.int .u8 45,.bool true,.string s,.string t,.pointer (some ⟨w.heap.size+1,0,none⟩),.string t,.func (.func 207) #[] #[.pointer (some ⟨w.heap.size+1+1,0,none⟩)],.string x.1,undef,undef,undef,undef,undef,undef,undef,undef,undef,undef,undef,undef,undef,undef,undef,undef,undef,undef,undef,undef,undef,undef,undef,undef,undef],defers:=[] }) ?assign ?body ?done ?stop
 case assign =>
  intro l x W K hK;gi_wp2
  exact hK
 case body =>
  rintro l pre x W ⟨⟨v,hv,hrow⟩,hb0,hst,hbel⟩ hlt;obtain ⟨g,hg9,hgd⟩:=x;have hg9':g.size≤9:=hg9;have hgd':(bl g).all Zav=true:=hgd;have hpl:pre.length≤12000:=by omega
  gi_wp2_with fail
  gi_loopw [6,20] (fun a i wr=>∃ k:Nat,k≤g.size∧i = .int .i64 k∧a = .int .u32 (dval ((bl g).take k):Nat)∧Hid (wr=W))
   (fun _ i _=>g.size - (intOf i).toNat)
  case atStart=>exact ⟨0,Nat.zero_le _,rfl,rfl,rfl⟩
  case round =>
   obtain ⟨k,hk,rfl,rfl,Hw⟩:=hrel;obtain rfl:wr=W:=Hw.out;clear Hw;by_cases hlt2:k < g.size
   ·have hc:=Znc g hgd' k hlt2;have hs1:=Zg0 g k hlt2;obtain ⟨c,hcc⟩:∃ c,g[k]=c:=⟨_,rfl⟩
    rw [hcc] at hc hs1;have hlv:dval ((bl g).take k) < 100000000:=by
     have h1:=Zm3 ((bl g).take k) (Zbc Zav _ k hgd');have h2:((bl g).take k).length≤8:=by rw [List.length_take];omega
     exact Nat.lt_of_lt_of_le h1 (Nat.pow_le_pow_right (by decide) h2)
    obtain ⟨d,hdd⟩:∃ d,dval ((bl g).take k)=d:=⟨_,rfl⟩
    rw [hdd] at hs1 hlv ⊢;have Hs1:=Lh hs1;clear hs1 hdd;gi_wp2
    go_roundw
    case rel=>exact ⟨k+1,by omega,by go_num,by rw [Hs1.out];go_num,by first | exact rfl | exact trivial⟩
    case measure=>simp [intOf];omega
   ·obtain rfl:k=g.size:=by omega
    have hgv:dval ((bl g).take g.size)=gval ⟨g,hg9,hgd⟩:=by rw [List.take_of_length_le (by rw [Zae];exact Nat.le_refl _)];rfl
    rw [hgv];have hc0:=hv.cell1;have hf0:=hv.frozen 1;have hsize:=hbel.size;clear hgv hlt2 hk;gi_wp2_with (gi_at_builtin;refine wpListIn_append_own _ rfl _ _ 157 rfl w.heap.size 197 i0 (.int .u32 0) 1 4 Tryz.ul_u32s hi hz0 hz1 hz2 rfl (by decide) _ _ _ rfl (hrow.alloc _) ⟨wr.heap.size,0,none⟩ 1 1 [.int .u32 ((gval ⟨g,hg9,hgd⟩:Nat):Int)] rfl rfl (cell_one_new _ _ _) (Zas _ _) (by unfold maxLen;omega) (by omega) (by simp;omega) ?_;intro v' w1 hown' hgrow _;obtain ⟨g',cap',rfl⟩:=ownsRow_succ hown';obtain ⟨hv1,hv2,hr2,hk2,hb2,ho2⟩:=hv.appended (by decide) hrow hsize (by omega) hown' hgrow;have hc1:=hv1.cell1;have hf1:=hv1.frozen 1)
    refine ⟨hk2.from _,ho2 _ _ _ hst (by decide) (by omega),⟨_,hv2,?_⟩,hb0.of_block (ho2 _ _ _ hb0 (by decide) (by omega)),(ho2 _ _ _ hst (by decide) (by omega)).trans hst,hbel.trans hb2⟩;rw [List.length_append,List.length_singleton,List.map_append,List.map_singleton,← Za1];exact hr2
 case done =>
  rintro D ys W hD rfl ⟨⟨v,hv,hrow⟩,hb0,hst,hbel⟩ hK;have hsl:=Sl.of_owns hrow;obtain ⟨ad,cap,rfl,_⟩:=id hsl;have hn:=Zem t hd ((t.size+8) / 9);have hval:=Zol t hd;obtain ⟨ms,hms⟩:∃ ms,(grps t hd ((t.size+8) / 9)).map gval=ms:=⟨_,rfl⟩
  have hdig:=Zr0 (grps t hd ((t.size+8) / 9));have hlen:(grps t hd ((t.size+8) / 9)).length=ms.length:=by rw [← hms,List.length_map]
  rw [hlen] at hv;rw [hlen,hms] at hsl hrow;rw [hms] at hval hdig;have hml:ms.length≤100000:=by omega
  have Hval:=Lh hval;clear hval hms hlen hn;have hc1:=hv.cell1;have hc0:=hv.cell0;have hf1:=hv.frozen 1;have hr0:=hb0.cell0;have hr1:=hb0.cell1;have hrf0:=hb0.frozen 0;have hrf1:=hb0.frozen 1;have Htr:=Lh (Zcj _ ms W hsl (by omega));clear hsl;gi_wp2_with fail
  refine ⟨trivial,?_⟩;refine (callsIn_wide.2 Htr.out).mono ?_;rintro e w' ⟨v',rfl,Hv',rfl⟩;obtain rfl:v'=Value.slice ad (Zan ms).length cap:=Hv'.out;have HK:=Lh hK;have Hrow:=Lh hrow;clear hK hrow;gi_wp2
  obtain ⟨W3,hW3⟩:∃ W3,W3=(((W.setCell ⟨w.heap.size+1,1,none⟩ (Value.slice ad (Zan ms).length cap)).setCell ⟨w.heap.size,0,none⟩ (Value.bool true)).setCell ⟨w.heap.size,1,none⟩ (Value.slice ad (Zan ms).length cap)):=⟨_,rfl⟩
  rw [← hW3];have hK3:W3.heap[D]? = some (.deferred (some [])):=by
   rw [hW3];exact (((KeepsOthers.setCell W _ _).trans (KeepsOthers.setCell _ _ _)).trans (KeepsOthers.setCell _ _ _)).same D _ HK.out rfl
  have hB3:Zai W3 w.heap.size 159 (.bool true) (Value.slice ad (Zan ms).length cap):=by
   rw [hW3];exact ((hb0.of_block (Below.heap_setCell _ _ _ _ (by simp))).set0 _).set1 _
  have hB4:Zai (W3.putObj D (.deferred none)) w.heap.size 159 (.bool true) (Value.slice ad (Zan ms).length cap):=hB3.of_block (World.putObj_heap_other (by omega));have hoth:∀ k,(Value.slice ad ms.length cap).ownBlock=some k→(W3.putObj D (.deferred none)).heap[k]? = W.heap[k]?:=by
   intro k hk;have k1:k ≠ w.heap.size:=fun e=>Zbx Hrow.out hb0 (by decide) (by rw [hk,e])
   have k2:k ≠ w.heap.size+1:=fun e=>Zbx Hrow.out hv (by decide) (by rw [hk,e])
   have k3:k ≠ D:=fun e=>by
    rcases Hrow.out.2 with ⟨he,_⟩ | ⟨g,_,_,he,_,hgb,_⟩
    ·rw [he] at hk;simp [Value.ownBlock] at hk
    ·rw [he] at hk;obtain rfl:g=k:=by simpa [Value.ownBlock] using hk
     rw [e,HK.out] at hgb;cases hgb
   rw [World.putObj_heap_other k3,hW3,Below.heap_setCell _ _ _ _ k1,Below.heap_setCell _ _ _ _ k1,Below.heap_setCell _ _ _ _ k2]
  have hcut:=((Sl.of_owns Hrow.out).kept (w':=W3.putObj D (.deferred none)) (fun k hk _=>hoth k hk)).cut (Zan ms).length (Zak ms).2;rw [Nat.mul_one,Zb5,← (Zak ms).1] at hcut;have hbel4:Below w.heap.size w (W3.putObj D (.deferred none)):=by
   refine Below.trans ?_ (belowK_b (w:=w) (Nat.le_refl _) W3 D _ _ (by omega) hK3 rfl rfl);rw [hW3];exact ((hbel.setCell (p:=⟨w.heap.size+1,1,none⟩) (by simp) _).setCell (p:=⟨w.heap.size,0,none⟩) (Nat.le_refl _) _).setCell (p:=⟨w.heap.size,1,none⟩) (Nat.le_refl _) _
  refine ⟨by simp,.inl ⟨_,_,rfl,run_takeDeferred hK3,?_⟩⟩;refine ⟨.agg #[.bool true,Value.slice ad (Zan ms).length cap],?_,?_⟩
  ·simp [results,Tryz.results161,go_sem,hB4.cell0,hB4.cell1]
  ·exact ⟨_,Zan ms,rfl,hcut,Za6 hdig,by rw [Zay];exact Hval.out,hbel4⟩
 case stop =>
  rintro D c pre W _ _ h _;exact h.elim
theorem Zsl (s:ByteArray) (w:World) (hs:s.size≤100000) (hc:Zar (bl s)=true) :
  Calls Tryz.prog 161 #[.string s] w (Zmn w (Zaj (bl s)) (dval (body (bl s)))):=by
 have hne:0 < s.size:=by
  rcases Nat.eq_zero_or_pos s.size with h | h
  ·have e:bl s=[]:=List.eq_nil_of_length_eq_zero (by rw [Zae];exact h);rw [e] at hc;simp [Zar,Zcg,body] at hc
  ·exact h
 have e:=Zby s hne;by_cases hm:s[0]=45
 ·have et:=Zig s hne;have e1:Zaj (bl s)=true:=by rw [e,hm];rfl
  have e2:body (bl s)=bl (s.extract 1 s.size):=by rw [et,e,hm];rfl
  rw [e1,e2];refine Zzr s w hs hne hm _ rfl ?_;rw [Zar,e2,Zcg] at hc;simp only [Bool.and_eq_true] at hc;exact hc.1.2
 ·have e0:(bl s).head? = some s[0]:=by rw [e];rfl
  have e1:Zaj (bl s)=false:=by rw [Zaj,e0];simpa using hm
  have e2:body (bl s)=bl s:=by rw [body,e0,if_neg];simpa using hm
  rw [e1,e2];refine Zzs s w hs hne ?_;rw [Zar,e2,Zcg] at hc;simp only [Bool.and_eq_true] at hc;exact hc.1.2
end Go.Proofs.YtknpnhodpgajbaaGreatDoor
namespace Go.Proofs.YtknpnhodpgajbaaGreatDoor
open Go.RowKit
theorem Zac (w:World) (a:Obj):Below w.heap.size w (w.alloc a):=(Below.refl _ _).alloc (Nat.le_refl _) _
theorem Zaz (w:World) (a b:Obj):Below w.heap.size w ((w.alloc a).alloc b):=(Zac w a).alloc (by simp) _
theorem Zdh (w:World) (a b c:Obj):Below w.heap.size w (((w.alloc a).alloc b).alloc c):=(Zaz w a b).alloc (by simp;omega) _
theorem Zai.new (w:World) (u v:Value) (t:TypeId):Zai (w.alloc (.cells #[u,v] t)) w.heap.size t u v:=by
 show (w.heap.push _)[w.heap.size]? = _;simp
theorem Zai.alloc {w:World} {B:Nat} {t:TypeId} {u v:Value} (h:Zai w B t u v) (o:Obj):Zai (w.alloc o) B t u v:=h.of_block (Below.heap_alloc _ _ _ h.lt)
theorem Zai.below {w w':World} {B:Nat} {t:TypeId} {u v:Value} (h:Zai w B t u v) (hb:Below w.heap.size w w'):Zai w' B t u v:=h.of_block (hb.block _ h.lt)
theorem Zai.store {w:World} {B:Nat} {t:TypeId} {u v:Value} (h:Zai w B t u v) (x y:Value):Zai ((w.setCell ⟨B,0,none⟩ x).setCell ⟨B,1,none⟩ y) B t x y:=(h.set0 x).set1 y
theorem Zds {B0 B:Nat} {w w1:World} (hb:Below B0 w w1) (h:B0≤B) (x y:Value):Below B0 w ((w1.setCell ⟨B,0,none⟩ x).setCell ⟨B,1,none⟩ y) :=
 (hb.setCell (p:=⟨B,0,none⟩) h _).setCell (p:=⟨B,1,none⟩) h _
def slt (a b:ByteArray):Bool:=Op.bytesLess (bl a) (bl b)
theorem Zd5 (l:List UInt8):Op.bytesLess l l=false:=by
 induction l with
 | nil=>rfl
 | cons a l ih=>simp [Op.bytesLess,ih]
def cmpS (a b:ByteArray):Int:=if slt a b=true then -1 else if a=b then 0 else 1
def cmpI (a b:Int):Int:=if a < b then -1 else if b < a then 1 else 0
def orI:List Int→Int
 | []=>0
 | a :: l=>if a=0 then orI l else a
def Zhv (n1:ByteArray) (d1:Int) (n2:ByteArray) (d2:Int):Int:=orI [cmpS n1 n2,cmpI d1 d2]
def Zhq (p1 n1:ByteArray) (d1:Int) (p2 n2:ByteArray) (d2:Int):Int:=orI [cmpS p1 p2,cmpS n1 n2,cmpI d1 d2]
def fxLt (n1:ByteArray) (d1:Int) (n2:ByteArray) (d2:Int):Bool:=slt n1 n2 || (decide (n1=n2) && decide (d1 < d2))
def chLt (p1 n1:ByteArray) (d1:Int) (p2 n2:ByteArray) (d2:Int):Bool:=if p1=p2 then fxLt n1 d1 n2 d2 else slt p1 p2
theorem Zgr (a:ByteArray):slt a a=false:=Zd5 _
theorem Zry (n1 n2:ByteArray) (d1 d2:Int):decide (Zhv n1 d1 n2 d2 < 0)=fxLt n1 d1 n2 d2:=by
 unfold Zhv fxLt orI orI orI cmpS cmpI;by_cases h:slt n1 n2=true
 ·simp [h]
 ·by_cases h2:n1=n2
  ·subst h2;simp [Zgr]
   by_cases h3:d1 < d2
   ·simp [h3]
   ·by_cases h4:d2 < d1 <;> simp [h3,h4]
  ·simp [h,h2]
theorem Zyo (p1 p2 n1 n2:ByteArray) (d1 d2:Int):decide (Zhq p1 n1 d1 p2 n2 d2 < 0)=chLt p1 n1 d1 p2 n2 d2:=by
 by_cases h2:p1=p2
 ·subst h2;rw [chLt,if_pos rfl,← Zry];have e:Zhq p1 n1 d1 p1 n2 d2=Zhv n1 d1 n2 d2:=by
   rw [Zhq,orI,if_pos (by simp [cmpS,Zgr]),Zhv]
  rw [e]
 ·rw [chLt,if_neg h2,Zhq,orI,cmpS];by_cases h:slt p1 p2=true
  ·simp [h]
  ·simp [h,h2]
theorem Zng (a:ByteArray) (w:World):Calls Tryz.prog 168 #[.string a] w fun e w'=>e = .returned (.bool false)∧w=w':=by
 go_enter Tryz.func168,Tryz.ntmps168
 go_wp2;go_ret;exact ⟨Zaf (by simp),rfl⟩
theorem Zrq (a b:ByteArray) (w:World):Calls Tryz.prog 131 #[.string a,.string b] w fun e w'=>e = .returned (.int .i64 (cmpS a b))∧w=w':=by
 cases h1:Op.bytesLess a.toList b.toList with
 | true =>
  have HR:Hid (cmpS a b = -1):=by show _=_;rw [cmpS,slt,← Za9,← Za9,h1];rfl
  go_enter Tryz.func131,Tryz.ntmps131
  go_wp2_with (go_at_call 168;refine (Zng _ _).mono ?_;rintro e w' ⟨rfl,rfl⟩);go_ret;exact ⟨Zal HR.out.symm,rfl⟩
 | false =>
  cases h2:(a.toList == b.toList) with
  | true =>
   have HR:Hid (cmpS a b=0):=by
    show _=_;rw [Zbm,decide_eq_true_eq] at h2;rw [cmpS,slt,← Za9,← Za9,h1,if_pos h2];rfl
   go_enter Tryz.func131,Tryz.ntmps131
   go_wp2_with (go_at_call 168;refine (Zng _ _).mono ?_;rintro e w' ⟨rfl,rfl⟩);go_ret;exact ⟨Zal HR.out.symm,rfl⟩
  | false =>
   have HR:Hid (cmpS a b=1):=by
    show _=_;rw [Zbm,decide_eq_false_iff_not] at h2;rw [cmpS,slt,← Za9,← Za9,h1,if_neg h2];rfl
   go_enter Tryz.func131,Tryz.ntmps131
   go_wp2_with (go_at_call 168;refine (Zng _ _).mono ?_;rintro e w' ⟨rfl,rfl⟩);go_ret;exact ⟨Zal HR.out.symm,rfl⟩
theorem Zzk (zs:List Int) (k:Nat) (h:k < zs.length):orI (zs.drop k)=if zs.getD k 0=0 then orI (zs.drop (k+1)) else zs.getD k 0:=by
 rw [List.drop_eq_getElem_cons h,orI];have e:zs.getD k 0=zs[k]:=by simp [List.getD,h]
 rw [e]
theorem Z0p (zs:List Int) (b cap:Nat) (w:World) (hn:zs.length≤100) (hc:∀ j,j < zs.length→w.cell? ⟨b,j,none⟩=some (.int .i64 (zs.getD j 0))) :
  Calls Tryz.prog 130 #[.slice (some ⟨b,0,none⟩) zs.length cap] w fun e w'=>e = .returned (.int .i64 (orI zs))∧w=w':=by
 have Hc:=Lh hc;clear hc;go_enter Tryz.func130,Tryz.ntmps130
 go_wp2;go_loop [8] (fun i=>∃ k:Nat,k≤zs.length∧i = .int .i64 k∧Hid (orI (zs.drop k)=orI zs)) (fun i=>zs.length - (intOf i).toNat)
 case atStart=>exact ⟨0,Nat.zero_le _,rfl,Lh (by rfl)⟩
 case round =>
  obtain ⟨k,hk,rfl,HO⟩:=hrel;by_cases hlt:k < zs.length
  ·have hcell:=Hc.out k hlt;have Hd:=Lh (Zzk zs k hlt);obtain ⟨z,hz⟩:∃ z,zs.getD k 0=z:=⟨_,rfl⟩
   rw [hz] at hcell Hd;clear hz;by_cases h0:z=0
   ·have t1:(z != 0)=false:=by rw [bne_eq_false_iff_eq];exact h0
    have HO2:Hid (orI (zs.drop (k+1))=orI zs):=by show _=_;rw [← HO.out,Hd.out,if_pos h0]
    clear h0;go_wp2;go_round
    case rel=>exact ⟨k+1,by omega,by go_num,HO2⟩
    case measure=>simp [intOf];omega
   ·have t1:(z != 0)=true:=by rw [bne_iff_ne];exact h0
    have HO2:Hid (orI zs=z):=by show _=_;rw [← HO.out,Hd.out,if_neg h0]
    clear h0;go_wp2;go_ret;exact ⟨Zal HO2.out.symm,rfl⟩
  ·obtain rfl:k=zs.length:=by omega
   have HO2:Hid (orI zs=0):=by show _=_;rw [← HO.out,List.drop_length];rfl
   go_wp2;go_ret;exact ⟨Zal HO2.out.symm,rfl⟩
theorem Z1t (x y:Int) (b:Nat) (w:World) (h0:w.cell? ⟨b,0,none⟩=some (.int .i64 x)) (h1:w.cell? ⟨b,1,none⟩=some (.int .i64 y)) :
  Calls Tryz.prog 130 #[.slice (some ⟨b,0,none⟩) 2 2] w fun e w'=>e = .returned (.int .i64 (orI [x,y]))∧w=w' :=
 Z0p [x,y] b 2 w (by simp) fun j hj=>by
  match j,hj with
  | 0,_=>exact h0
  | 1,_=>exact h1
theorem Z1u (x y z:Int) (b:Nat) (w:World) (h0:w.cell? ⟨b,0,none⟩=some (.int .i64 x)) (h1:w.cell? ⟨b,1,none⟩=some (.int .i64 y)) (h2:w.cell? ⟨b,2,none⟩=some (.int .i64 z)) :
  Calls Tryz.prog 130 #[.slice (some ⟨b,0,none⟩) 3 3] w fun e w'=>e = .returned (.int .i64 (orI [x,y,z]))∧w=w' :=
 Z0p [x,y,z] b 3 w (by simp) fun j hj=>by
  match j,hj with
  | 0,_=>exact h0
  | 1,_=>exact h1
  | 2,_=>exact h2
theorem Zzh (a:Int) (w:World):Calls Tryz.prog 169 #[.int .i64 a] w fun e w'=>e = .returned (.bool false)∧w=w':=by
 go_enter Tryz.func169,Tryz.ntmps169
 go_wp2;go_ret;exact ⟨Zaf (by simp),rfl⟩
theorem Zrp (a b:Int) (w:World):Calls Tryz.prog 132 #[.int .i64 a,.int .i64 b] w fun e w'=>e = .returned (.int .i64 (cmpI a b))∧w=w':=by
 go_enter Tryz.func132,Tryz.ntmps132
 go_wp2_with (go_at_call 169;refine (Zzh _ _).mono ?_;rintro e w' ⟨rfl,rfl⟩)
 all_goals
  go_ret;refine ⟨Zal ?_,rfl⟩;unfold cmpI;split <;> first | omega | (split <;> omega)
def fxV (n:ByteArray) (d:Int) (v:ByteArray):Value:=.agg #[.string n,.int .i64 d,.string v]
def chV (p n:ByteArray) (d:Int) (f:Bool):Value:=.agg #[.string p,.string n,.int .i64 d,.bool f]
theorem Zj9 (n1 v1 n2 v2:ByteArray) (d1 d2:Int) (w:World) :
  Calls Tryz.prog 73 #[fxV n1 d1 v1,fxV n2 d2 v2] w fun e w'=>e = .returned (.int .i64 (Zhv n1 d1 n2 d2))∧Below w.heap.size w w':=by
 unfold fxV Zhv;go_enter Tryz.func73,Tryz.ntmps73
 go_wp2;go_region_held3 (fun w'=>w'.cell? ⟨w.heap.size,0,none⟩=some (.string n1)∧w'.cell? ⟨w.heap.size,1,none⟩=some (.int .i64 d1)∧w'.cell? ⟨w.heap.size+1,0,none⟩=some (.string n2)∧w'.cell? ⟨w.heap.size+1,1,none⟩=some (.int .i64 d2)) (go_keep)
  (first | (go_at_call 131;refine (Zrq _ _ _).mono ?_;rintro e w' ⟨rfl,rfl⟩) | (go_at_call 132;refine (Zrp _ _ _).mono ?_;rintro e w' ⟨rfl,rfl⟩) | (go_at_call 130;refine (Z1t (cmpS n1 n2) (cmpI d1 d2) _ _ ?_ ?_).mono ?_;(go_simp);(go_simp);rintro e w' ⟨rfl,rfl⟩))
 all_goals
  go_wp2;go_ret;exact ⟨rfl,(Zdh _ _ _ _).drew⟩
theorem Zj3 (p1 n1 p2 n2:ByteArray) (d1 d2:Int) (f1 f2:Bool) (w:World) :
  Calls Tryz.prog 75 #[chV p1 n1 d1 f1,chV p2 n2 d2 f2] w fun e w'=>e = .returned (.int .i64 (Zhq p1 n1 d1 p2 n2 d2))∧Below w.heap.size w w':=by
 unfold chV Zhq;go_enter Tryz.func75,Tryz.ntmps75
 go_wp2;go_region_held3 (fun w'=>w'.cell? ⟨w.heap.size,0,none⟩=some (.string p1)∧w'.cell? ⟨w.heap.size,1,none⟩=some (.string n1)∧w'.cell? ⟨w.heap.size,2,none⟩=some (.int .i64 d1)∧w'.cell? ⟨w.heap.size+1,0,none⟩=some (.string p2)∧w'.cell? ⟨w.heap.size+1,1,none⟩=some (.string n2)∧w'.cell? ⟨w.heap.size+1,2,none⟩=some (.int .i64 d2)) (go_keep)
  (first | (go_at_call 131;refine (Zrq _ _ _).mono ?_;rintro e w' ⟨rfl,rfl⟩) | (go_at_call 132;refine (Zrp _ _ _).mono ?_;rintro e w' ⟨rfl,rfl⟩) | (go_at_call 130;refine (Z1u (cmpS p1 p2) (cmpS n1 n2) (cmpI d1 d2) _ _ ?_ ?_ ?_).mono ?_;(go_simp);(go_simp);(go_simp);rintro e w' ⟨rfl,rfl⟩))
 all_goals
  go_wp2;go_ret;exact ⟨rfl,(Zdh _ _ _ _).drew⟩
end Go.Proofs.YtknpnhodpgajbaaGreatDoor
