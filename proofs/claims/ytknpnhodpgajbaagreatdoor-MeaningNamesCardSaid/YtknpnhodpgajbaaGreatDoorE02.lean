/-
  integer.groups: the iterator over the groups of digits. Decimal digits and their value. The text of an integer. The error of a rational: plain. Names and days: what observable.letter, Name, within and novationref08.Name, Day compute. The sorts of expressions; well-formed contracts: plain. Is a contract in order: the same by computation. integer.trim and integer.compare.
-/
import Derived.RangeFuncNested
import Derived.RangeFuncBound
import Derived.RangeFuncCalls
import Derived.RangeFuncLeaves
import Derived.RangeFuncBox
import Derived.Shelf.Abstract
import Derived.Shelf.RegionOpen
import Derived.OwnWalkIn
import Derived.TacticsInMore
import Derived.LoopNIn
import Derived.LoopIn
import Derived.Maps.AppendAt
import Derived.Test.YtknpnhodpgajbaaGreatDoorE01
namespace Go.Proofs.YtknpnhodpgajbaaGreatDoor
open Go.RowKit Go.Shelf
attribute [local go_sem] Oper.semAt_some
abbrev Grp:={ g:ByteArray // g.size≤9∧(bl g).all isDig=true }
def grpB (s:ByteArray) (k:Nat):ByteArray:=s.extract (s.size - 9 * (k+1)) (s.size - 9 * k)
theorem grpB_size (s:ByteArray) (k:Nat):(grpB s k).size≤9:=by
 rw [← bl_length,grpB,bl_extract,List.length_take,List.length_drop];omega
theorem grpB_dig (s:ByteArray) (h:(bl s).all isDig=true) (k:Nat):(bl (grpB s k)).all isDig=true:=by
 rw [grpB,bl_extract]
 rw [List.all_eq_true] at h ⊢
 exact fun x hx => h x (List.mem_of_mem_drop (List.mem_of_mem_take hx))
def grp (s:ByteArray) (h:(bl s).all isDig=true) (k:Nat):Grp:=⟨grpB s k,grpB_size s k,grpB_dig s h k⟩
def grps (s:ByteArray) (h:(bl s).all isDig=true) (k:Nat):List Grp:=(List.range k).map (grp s h)
theorem grps_succ (s:ByteArray) (h:(bl s).all isDig=true) (k:Nat):grps s h (k+1)=grps s h k ++ [grp s h k]:=by
 simp [grps,List.range_succ]
theorem grps_length (s:ByteArray) (h:(bl s).all isDig=true) (k:Nat):(grps s h k).length=k:=by simp [grps]
def KeepsAt (B:Nat) (W W':World):Prop:=W'.heap[B]? = W.heap[B]?
set_option maxRecDepth 100000 in
set_option maxHeartbeats 1000000 in
theorem groups1_in (F:Fence) (n:Nat) (hf:F.fn 207) (hro:F.round=none) (hn:1≤n) (l Bn:Nat) (s:ByteArray) (hd:(bl s).all isDig=true) (hs:s.size≤100000) (J Jx:List Grp→World→Prop)
  (hY:∀ pre x W,J pre W→pre.length < (s.size+8) / 9→YieldAt F (n - 1) Tryz.prog l #[.string x.1] W fun e W' =>
   (e = .returned (.bool true)∧J (pre ++ [x]) W'∧KeepsAt Bn W W')∨(e = .returned (.bool false)∧Jx (pre ++ [x]) W'))
  (W:World) (hBn:W.heap[Bn]? = some (.cells #[.string s] 9 (0,0))) (h0:J [] W) :
  CallsIn F n Tryz.prog 207 #[.func (.yield l) #[] #[],.pointer (some ⟨Bn,0,none⟩)] W fun e W' => (∃ v,e = .returned v) ∧
   ((∃ ys,ys=grps s hd ((s.size+8) / 9)∧J ys W')∨(∃ pre,True∧Jx pre W')):=by
 have hc0:=cell_of_one hBn
 refine callsIn_of_wp Tryz.func207 rfl hf ?_ hro
 simp only [Tryz.ntmps207,List.size_toArray,List.length_cons,List.length_nil,Nat.reduceAdd,Nat.reduceSub,Array.replicate_succ,Array.replicate_zero,List.push_toArray,List.append_toArray,List.nil_append,List.cons_append]
 gi_wp2
 gi_loopw [3] (fun p wr => ∃ (k:Nat),p = .int .i64 ((s.size:Int) - 9 * (k:Int))∧9 * k≤s.size+8∧wr.heap[Bn]? = some (.cells #[.string s] 9 (0,0))∧Hid (J (grps s hd k) wr))
  (fun p wr => (intOf p).toNat)
 case atStart =>
  exact ⟨0,by simp,by omega,hBn,h0⟩
 case round =>
  obtain ⟨k,rfl,hk,hb,hJs⟩:=hrel
  by_cases hlt:9 * k < s.size
  ·have hcr:=cell_of_one hb
   by_cases h9:9 * (k+1) < s.size
   ·have e1:((s.size:Int) - 9 * (k:Int) - 9).toNat=s.size - 9 * (k+1):=by omega
    have m1:(0:Int) < (s.size:Int) - 9 * (k:Int) - 9:=by omega
    obtain ⟨fn,tmps,assign,body,hy,hR⟩:=hY (grps s hd k) (grp s hd k) wr hJs.out (by rw [grps_length];omega)
    have hy2:(Instr.yield l #[.string (s.extract (s.size - 9 * (k+1)) (s.size - 9 * k))]).run Tryz.prog wr = .ok (.round l fn tmps assign body) wr:=hy
    clear hy
    gi_wp2
    refine hR.mono ?_
    rintro e W3 (⟨rfl,hJ3,hk3⟩ | ⟨rfl,hJx3⟩)
    ·rw [← grps_succ] at hJ3
     have hb3:W3.heap[Bn]? = some (.cells #[.string s] 9 (0,0)):=Eq.trans hk3 hb
     have HJ3:=Lib.hid hJ3
     clear hJ3 hk3 hJs hy2 e1
     gi_wp2
     go_roundw
     case rel => exact ⟨k+1,by go_num,by omega,hb3,HJ3⟩
     case measure => simp [intOf];omega
    ·have HJx:=Lib.hid hJx3
     clear hJx3 hJs hy2 e1
     gi_wp2
     refine bodyPost_ret (results_none rfl _ _ _) rfl ?_
     exact ⟨⟨_,rfl⟩,.inr ⟨_,trivial,HJx.out⟩⟩
   ·have e1:s.size - 9 * (k+1)=0:=by omega
    have m1 : ¬ (0:Int) < (s.size:Int) - 9 * (k:Int) - 9:=by omega
    obtain ⟨fn,tmps,assign,body,hy,hR⟩:=hY (grps s hd k) (grp s hd k) wr hJs.out (by rw [grps_length];omega)
    have hy2:(Instr.yield l #[.string (s.extract 0 (s.size - 9 * k))]).run Tryz.prog wr = .ok (.round l fn tmps assign body) wr:=by rw [← e1];exact hy
    clear hy
    gi_wp2
    refine hR.mono ?_
    rintro e W3 (⟨rfl,hJ3,hk3⟩ | ⟨rfl,hJx3⟩)
    ·rw [← grps_succ] at hJ3
     have hb3:W3.heap[Bn]? = some (.cells #[.string s] 9 (0,0)):=Eq.trans hk3 hb
     have HJ3:=Lib.hid hJ3
     clear hJ3 hk3 hJs hy2 e1
     gi_wp2
     go_roundw
     case rel => exact ⟨k+1,by go_num,by omega,hb3,HJ3⟩
     case measure => simp [intOf];omega
    ·have HJx:=Lib.hid hJx3
     clear hJx3 hJs hy2 e1
     gi_wp2
     refine bodyPost_ret (results_none rfl _ _ _) rfl ?_
     exact ⟨⟨_,rfl⟩,.inr ⟨_,trivial,HJx.out⟩⟩
  ·have hkk:(s.size+8) / 9=k:=by omega
   have HF:Hid ((∃ ys,ys=grps s hd ((s.size+8) / 9)∧J ys wr)∨(∃ pre,True∧Jx pre wr)):=by
    show _∨_
    rw [hkk];exact .inl ⟨_,rfl,hJs.out⟩
   clear hkk hJs
   gi_wp2
   go_end0
   exact ⟨⟨_,rfl⟩,HF.out⟩
set_option maxHeartbeats 1000000 in
theorem groups_in (F:Fence) (n:Nat) (hf:F.fn 192) (hro:F.round=none) (s:ByteArray) (w:World) :
  CallsIn F n Tryz.prog 192 #[.string s] w fun e w' => e = .returned (.func (.func 207) #[] #[.pointer (some ⟨w.heap.size,0,none⟩)])∧w'=w.alloc (.cells #[.string s] 9):=by
 refine callsIn_of_wp Tryz.func192 rfl hf ?_ hro
 simp only [Tryz.ntmps192,List.size_toArray,List.length_cons,List.length_nil,Nat.reduceAdd,Nat.reduceSub,Array.replicate_succ,Array.replicate_zero,List.push_toArray,List.append_toArray,List.nil_append,List.cons_append]
 gi_wp2
 go_ret
 exact ⟨rfl,rfl⟩
theorem groups_stops (F:Fence) (n:Nat) (hf:F.fn 207) (hro:F.round=none) (hn:1≤n) (Bn:Nat) (s:ByteArray) (hd:(bl s).all isDig=true) (hs:s.size≤100000) (w:World)
  (hBn:w.heap[Bn]? = some (.cells #[.string s] 9 (0,0))) :
  SeqStopsK F n Tryz.prog 207 #[.pointer (some ⟨Bn,0,none⟩)] (fun x:Grp => #[Value.string x.1]) (KeepsAt Bn) (fun ys => ys=grps s hd ((s.size+8) / 9)) (fun _ => True) ((s.size+8) / 9) w:=fun l J Jx W hW _ _ hY h0 =>
 groups1_in F n hf hro hn l Bn s hd hs J Jx hY W ((hW.block Bn (Array.getElem?_eq_some_iff.1 hBn).1).trans hBn) h0
end Go.Proofs.YtknpnhodpgajbaaGreatDoor

namespace Go.Proofs.YtknpnhodpgajbaaGreatDoor
open Go.RowKit
def dval (l:List UInt8):Nat:=l.foldl (fun a c => a * 10+(c.toNat - 48)) 0
theorem dval_nil:dval []=0:=rfl
theorem dval_snoc (l:List UInt8) (c:UInt8):dval (l ++ [c])=dval l * 10+(c.toNat - 48):=by simp [dval]
theorem dval_append (l m:List UInt8):dval (l ++ m)=dval l * 10 ^ m.length+dval m:=by
 refine Nat.rec (motive:=fun n => ∀ m:List UInt8,m.length=n→dval (l ++ m)=dval l * 10 ^ m.length+dval m) ?_ ?_ m.length m rfl
 ·intro m hm
  rw [List.eq_nil_of_length_eq_zero hm];simp [dval_nil]
 ·intro n ih m hm
  rcases List.eq_nil_or_concat m with rfl | ⟨m,c,rfl⟩
  ·simp at hm
  ·rw [List.concat_eq_append] at hm ⊢
   rw [← List.append_assoc,dval_snoc,dval_snoc,ih m (by simp at hm;exact hm)]
   simp only [List.length_append,List.length_singleton,Nat.pow_succ]
   rw [Nat.add_mul,Nat.mul_assoc];omega
theorem dval_lt (l:List UInt8) (h:l.all isDig=true):dval l < 10 ^ l.length:=by
 refine Nat.rec (motive:=fun n => ∀ m:List UInt8,m.length=n→m.all isDig=true→dval m < 10 ^ m.length) ?_ ?_ l.length l rfl h
 ·intro m hm _
  rw [List.eq_nil_of_length_eq_zero hm];decide
 ·intro n ih m hm hd
  rcases List.eq_nil_or_concat m with rfl | ⟨m,c,rfl⟩
  ·simp at hm
  ·rw [List.concat_eq_append] at hm hd ⊢
   rw [List.all_append] at hd
   simp only [Bool.and_eq_true] at hd
   have h1:=ih m (by simp at hm;exact hm) hd.1
   have h2:isDig c=true:=by simpa using hd.2
   simp [isDig] at h2
   rw [dval_snoc]
   simp only [List.length_append,List.length_singleton,Nat.pow_succ]
   omega
theorem dval_take_succ (s:ByteArray) (k:Nat) (h:k < s.size):dval ((bl s).take (k+1))=dval ((bl s).take k) * 10+(s[k].toNat - 48):=by
 rw [List.take_add_one,bl_get s k h]
 exact dval_snoc _ _
theorem isDig_at (s:ByteArray) (h:(bl s).all isDig=true) (k:Nat) (hk:k < s.size):48≤s[k].toNat∧s[k].toNat≤57:=by
 have:=(List.all_eq_true.1 h) s[k] (List.mem_of_getElem? (bl_get s k hk))
 simpa [isDig] using this
def gval (g:Grp):Nat:=dval (bl g.1)
theorem gval_lt (g:Grp):gval g < 1000000000:=by
 have h:=dval_lt _ g.2.2
 have h2:(bl g.1).length≤9:=by rw [bl_length];exact g.2.1
 exact Nat.lt_of_lt_of_le h (Nat.pow_le_pow_right (by decide) h2)
theorem grps_val (s:ByteArray) (hd:(bl s).all isDig=true) (k:Nat) (hk:9 * k≤s.size+8):Go.Proofs.YtknpnhodpgajbaaGreatDoor.val 1000000000 ((grps s hd k).map gval)=dval ((bl s).drop (s.size - 9 * k)):=by
 induction k with
 | zero => simp [grps,Go.Proofs.YtknpnhodpgajbaaGreatDoor.val,dval_nil,← bl_length]
 | succ k ih =>
  rw [grps_succ,List.map_append,List.map_singleton,val_snoc,ih (by omega),List.length_map,grps_length]
  have e:(bl s).drop (s.size - 9 * (k+1))=bl (grpB s k) ++ (bl s).drop (s.size - 9 * k):=by
   rw [grpB,bl_extract]
   have h1:(bl s).drop (s.size - 9 * k)=((bl s).drop (s.size - 9 * (k+1))).drop (s.size - 9 * k - (s.size - 9 * (k+1))):=by
    rw [List.drop_drop];congr 1;omega
   rw [h1,List.take_append_drop]
  rw [e,dval_append,List.length_drop,bl_length]
  have h2:s.size - (s.size - 9 * k)=9 * k:=by omega
  rw [h2,Nat.add_comm,Nat.mul_comm (1000000000 ^ k)]
  congr 1
  rw [show (1000000000:Nat)=10 ^ 9 from rfl,← Nat.pow_mul]
  rfl
theorem grps_full (s:ByteArray) (hd:(bl s).all isDig=true):Go.Proofs.YtknpnhodpgajbaaGreatDoor.val 1000000000 ((grps s hd ((s.size+8) / 9)).map gval)=dval (bl s):=by
 rw [grps_val s hd _ (by omega),show s.size - 9 * ((s.size+8) / 9)=0 by omega,List.drop_zero]
theorem grps_dig (l:List Grp):Dig 1000000000 (l.map gval):=fun x hx => by
 obtain ⟨g,_,rfl⟩:=List.mem_map.1 hx;exact gval_lt g
end Go.Proofs.YtknpnhodpgajbaaGreatDoor

namespace Go.Proofs.YtknpnhodpgajbaaGreatDoor
def dig10F:Nat→Nat→List Nat
 | 0,_ => []
 | k+1,n => if n=0 then [] else n % 10 :: dig10F k (n / 10)
def dig10 (n:Nat):List Nat:=dig10F n n
theorem dig10F_ok (k:Nat):∀ n,n≤k→Nrm 10 (dig10F k n)∧val 10 (dig10F k n)=n:=by
 induction k with
 | zero => intro n h; obtain rfl : n = 0 := by omega
           exact ⟨Nrm.nil _,rfl⟩
 | succ k ih =>
  intro n h
  rw [dig10F]
  by_cases h0:n=0
  ·rw [if_pos h0,h0];exact ⟨Nrm.nil _,rfl⟩
  ·rw [if_neg h0]
   obtain ⟨i1,i2⟩:=ih (n / 10) (by omega)
   refine ⟨⟨fun x hx => ?_,?_⟩,by simp only [val,i2];omega⟩
   ·rcases List.mem_cons.1 hx with rfl | hx
    ·omega
    ·exact i1.1 x hx
   ·cases hd:dig10F k (n / 10) with
    | nil =>
     rw [hd] at i2
     simp [val] at i2
     simp;omega
    | cons y ys =>
     have:=i1.2
     rw [hd] at this
     simpa [List.getLast?_cons_cons] using this
theorem dig10_nrm (n:Nat):Nrm 10 (dig10 n):=(dig10F_ok n n (Nat.le_refl _)).1
theorem dig10_val (n:Nat):val 10 (dig10 n)=n:=(dig10F_ok n n (Nat.le_refl _)).2
theorem dig10_of {D:List Nat} (h:Nrm 10 D):dig10 (val 10 D)=D:=Nrm.inj (by decide) (dig10_nrm _) h (dig10_val _)
theorem dig10_ne {n:Nat} (h:n ≠ 0):dig10 n ≠ []:=fun e => by have:=dig10_val n;rw [e] at this;exact h this.symm
theorem dig10_le {n k:Nat} (h:n < 10 ^ k):(dig10 n).length≤k:=(dig10_nrm n).length_le (by decide) k (by rw [dig10_val];exact h)
def asc (ds:List Nat):List UInt8:=ds.map fun d => UInt8.ofNat (48+d)
def istr (neg:Bool) (n:Nat):List UInt8:=if n=0 then [48] else (if neg then [45] else []) ++ asc (dig10 n).reverse
def wStr (neg:Bool) (n:Nat):List UInt8:=if 1000 < (dig10 n).length then [] else istr neg n
def wErr (n:Nat):Int:=if 1000 < (dig10 n).length then 14 else 0
def GInv (D:List Nat) (b:Nat) (xs:List Nat) (k:Nat):Prop:=D.length=9 * k∧Dig 10 D∧val 10 D=val b (xs.take k)
end Go.Proofs.YtknpnhodpgajbaaGreatDoor

namespace Go.Proofs.YtknpnhodpgajbaaGreatDoor
def formErr (l:List UInt8):Int:=if canonI l then 0 else 12
def fracErr (n d:List UInt8):Int :=
 if canonI n=false then 12 else if canonI d=false then 12 else if d.head? = some 45 then 12 else if d=[48] then 12 else if d=[49] then 12
 else if intErr n ≠ 0 then 14 else if intErr d ≠ 0 then 14 else if Nat.gcd (dval (body n)) (dval (body d))=1 then 0 else 12
def ratErr (s:ByteArray):Int:=if slashI s = -1 then intErr (bl s) else fracErr ((bl s).take (slashI s).toNat) ((bl s).drop ((slashI s).toNat+1))
theorem intErr_of_not {l:List UInt8} (h:canonI l=false):intErr l=12:=by rw [intErr,if_neg (by rw [h];simp)]
theorem intErr_of {l:List UInt8} (h:canonI l=true) (h0:intErr l ≠ 0):intErr l=14:=by
 rw [intErr,if_pos h] at h0 ⊢
 by_cases hb:1000 < (body l).length
 ·rw [if_pos hb]
 ·rw [if_neg hb] at h0;exact absurd rfl h0
theorem istr_one (n:Nat):istr false n=[49] ↔ n=1:=by
 constructor
 ·intro h
  unfold istr at h
  by_cases h0:n=0
  ·rw [if_pos h0] at h;simp at h
  ·rw [if_neg h0] at h
   simp only [Bool.false_eq_true,if_false,List.nil_append] at h
   have hl:=congrArg List.length h
   simp [asc] at hl
   match hd:dig10 n,hl with
   | [x],_ =>
    rw [hd] at h
    simp [asc] at h
    have hx:x < 10:=(dig10_nrm n).1 x (by rw [hd];simp)
    have hv:=dig10_val n
    rw [hd] at hv
    simp [val] at hv
    have e:=congrArg UInt8.toNat h
    rw [UInt8.toNat_add,UInt8.toNat_ofNat'] at e
    have e48:(48:UInt8).toNat=48:=rfl
    have e49:(49:UInt8).toNat=49:=rfl
    rw [e48,e49] at e
    omega
 ·rintro rfl;rfl
end Go.Proofs.YtknpnhodpgajbaaGreatDoor

namespace Go.Proofs.YtknpnhodpgajbaaGreatDoor
open Go.RowKit
def isLet (c:UInt8):Bool:=(decide (97≤c.toNat) && decide (c.toNat≤122)) || (decide (65≤c.toNat) && decide (c.toNat≤90))
def isOth (c:UInt8):Bool:=isDig c || (decide (c.toNat=95) || decide (c.toNat=45))
def isNmc (c:UInt8):Bool:=isLet c || isOth c
def isNm (l:List UInt8):Bool:=decide (1≤l.length) && (decide (l.length≤40) && (l.head?.any isLet && l.all isNmc))
def isDay (d:Int):Bool:=decide (0≤d) && decide (d≤99999)
set_option maxRecDepth 100000 in
theorem letter_any (c:UInt8) (w:World):Calls Tryz.prog 127 #[.int .u8 c.toNat] w fun e w' => e = .returned (.bool (isLet c))∧w=w':=by
 have hc:c.toNat < 256:=c.toNat_lt
 go_enter Tryz.func127,Tryz.ntmps127
 go_wp2
 all_goals
  go_ret
  refine ⟨ret_bool' ?_,rfl⟩
  rw [Bool.eq_iff_iff];simp [isLet];omega
theorem isNm_short {l:List UInt8} (h:l.length=0):isNm l=false:=by simp [isNm,h]
theorem isNm_long {l:List UInt8} (h:40 < l.length):isNm l=false:=by
 have:decide (l.length≤40)=false:=by simpa using h
 simp [isNm,this]
theorem isNm_eq (s:ByteArray) (h1:0 < s.size) (h2:s.size≤40):isNm (bl s)=(isLet s[0] && (bl s).all isNmc):=by
 have e:=bl_cons s h1
 have a1:decide (1≤(bl s).length)=true:=by rw [bl_length,decide_eq_true_eq];omega
 have a2:decide ((bl s).length≤40)=true:=by rw [bl_length,decide_eq_true_eq];omega
 have a3:(bl s).head?.any isLet=isLet s[0]:=by rw [e];rfl
 rw [isNm,a1,a2,a3];rfl
theorem all_false_of_take {f:UInt8→Bool} {l:List UInt8} {k:Nat} (h:(l.take k).all f=false):l.all f=false:=by
 rw [Bool.eq_false_iff] at h ⊢
 exact fun hh => h (all_take_of_all f l k hh)
set_option maxRecDepth 100000 in
theorem name_no (s:ByteArray) (w:World) (h:s.size=0∨40 < s.size) (hl:s.size≤9223372036854775807) :
  Calls Tryz.prog 67 #[.string s] w fun e w' => e = .returned (.bool (isNm (bl s)))∧w=w':=by
 have HR:Hid (isNm (bl s)=false):=by
  show _=_
  rcases h with h | h
  ·exact isNm_short (by rw [bl_length];exact h)
  ·exact isNm_long (by rw [bl_length];exact h)
 rcases h with h | h
 ·have d1:decide ((s.size:Int) < 1)=true:=by simp [h]
  clear h
  go_enter Tryz.func67,Tryz.ntmps67
  go_wp2
  go_ret
  exact ⟨ret_bool' HR.out.symm,rfl⟩
 ·have d1:decide ((s.size:Int) < 1)=false:=by rw [decide_eq_false_iff_not];omega
  have d2:decide ((40:Int) < (s.size:Int))=true:=by rw [decide_eq_true_eq];omega
  clear hl
  go_enter Tryz.func67,Tryz.ntmps67
  go_wp2
  go_ret
  exact ⟨ret_bool' HR.out.symm,rfl⟩
set_option maxRecDepth 100000 in
theorem name_head (s:ByteArray) (w:World) (h1:0 < s.size) (h2:s.size≤40) (h3:isLet s[0]=false) :
  Calls Tryz.prog 67 #[.string s] w fun e w' => e = .returned (.bool (isNm (bl s)))∧w=w':=by
 have HR:Hid (isNm (bl s)=false):=by show _=_;rw [isNm_eq s h1 h2,h3];rfl
 have d1:decide ((s.size:Int) < 1)=false:=by rw [decide_eq_false_iff_not];omega
 have d2:decide ((40:Int) < (s.size:Int))=false:=by rw [decide_eq_false_iff_not];omega
 go_enter Tryz.func67,Tryz.ntmps67
 go_wp2_with (go_at_call 127;refine (letter_any _ _).mono ?_;rintro e w' ⟨rfl,rfl⟩)
 go_ret
 exact ⟨ret_bool' HR.out.symm,rfl⟩
set_option maxHeartbeats 1000000 in
set_option maxRecDepth 100000 in
theorem name_loop (s:ByteArray) (w:World) (h1:0 < s.size) (h2:s.size≤40) (h3:isLet s[0]=true) :
  Calls Tryz.prog 67 #[.string s] w fun e w' => e = .returned (.bool (isNm (bl s)))∧w=w':=by
 have HR:Hid (isNm (bl s)=(bl s).all isNmc):=by show _=_;rw [isNm_eq s h1 h2,h3];rfl
 have d1:decide ((s.size:Int) < 1)=false:=by rw [decide_eq_false_iff_not];omega
 have d2:decide ((40:Int) < (s.size:Int))=false:=by rw [decide_eq_false_iff_not];omega
 go_enter Tryz.func67,Tryz.ntmps67
 go_wp2_with (go_at_call 127;refine (letter_any _ _).mono ?_;rintro e w' ⟨rfl,rfl⟩)
 go_loop [21] (fun i => ∃ k:Nat,k≤s.size∧i = .int .i64 k∧Hid (((bl s).take k).all isNmc=true)) (fun i => s.size - (intOf i).toNat)
 case atStart => exact ⟨0,Nat.zero_le _,rfl,Lib.hid (by rfl)⟩
 case round =>
  obtain ⟨k,hk,rfl,Hall⟩:=hrel
  clear h3 d1 d2
  by_cases hlt:k < s.size
  ·have Hs:=Lib.hid (take_succ_all isNmc s k hlt)
   obtain ⟨c,hc⟩:∃ c,s[k]=c:=⟨_,rfl⟩
   rw [hc] at Hs
   have hcb:c.toNat < 256:=c.toNat_lt
   cases hl:isLet c with
   | true =>
    have Hok:Hid (((bl s).take (k+1)).all isNmc=true):=by show _=_;rw [Hs.out,Hall.out,isNmc,hl];rfl
    go_wp2_with (go_at_call 127;refine (letter_any _ _).mono ?_;rintro e w' ⟨rfl,rfl⟩)
    go_round
    case rel => exact ⟨k+1,by omega,by go_num,Hok⟩
    case measure => simp [intOf];omega
   | false =>
    cases ho:isOth c with
    | true =>
     have Hok:Hid (((bl s).take (k+1)).all isNmc=true):=by show _=_;rw [Hs.out,Hall.out,isNmc,ho];simp
     have ho':=ho
     simp only [isOth,isDig,Bool.or_eq_true,decide_eq_true_eq] at ho'
     clear ho
     rcases ho' with h | h | h
     ·have t1:decide (((c.toNat:Nat):Int) < 48)=false:=by rw [decide_eq_false_iff_not];omega
      have t2:decide ((57:Int) < ((c.toNat:Nat):Int))=false:=by rw [decide_eq_false_iff_not];omega
      clear h
      go_wp2_with (go_at_call 127;refine (letter_any _ _).mono ?_;rintro e w' ⟨rfl,rfl⟩)
      go_round
      case rel => exact ⟨k+1,by omega,by go_num,Hok⟩
      case measure => simp [intOf];omega
     ·have t1:decide (((c.toNat:Nat):Int) < 48)=false:=by rw [decide_eq_false_iff_not];omega
      have t2:decide ((57:Int) < ((c.toNat:Nat):Int))=true:=by rw [decide_eq_true_eq];omega
      have t3:(((c.toNat:Nat):Int) != 95)=false:=by rw [bne_eq_false_iff_eq];omega
      have t5:(((c.toNat:Nat):Int) == 95)=true:=by rw [beq_iff_eq];omega
      clear h
      go_wp2_with (go_at_call 127;refine (letter_any _ _).mono ?_;rintro e w' ⟨rfl,rfl⟩)
      go_round
      case rel => exact ⟨k+1,by omega,by go_num,Hok⟩
      case measure => simp [intOf];omega
     ·have t1:decide (((c.toNat:Nat):Int) < 48)=true:=by rw [decide_eq_true_eq];omega
      have t3:(((c.toNat:Nat):Int) != 95)=true:=by rw [bne_iff_ne];omega
      have t5:(((c.toNat:Nat):Int) == 95)=false:=by rw [beq_eq_false_iff_ne];omega
      have t4:(((c.toNat:Nat):Int) != 45)=false:=by rw [bne_eq_false_iff_eq];omega
      have t6:(((c.toNat:Nat):Int) == 45)=true:=by rw [beq_iff_eq];omega
      clear h
      go_wp2_with (go_at_call 127;refine (letter_any _ _).mono ?_;rintro e w' ⟨rfl,rfl⟩)
      go_round
      case rel => exact ⟨k+1,by omega,by go_num,Hok⟩
      case measure => simp [intOf];omega
    | false =>
     have Hno:Hid (isNm (bl s)=false):=by
      show _=_
      rw [HR.out]
      exact all_false_of_take (k:=k+1) (by rw [Hs.out,isNmc,hl,ho];simp)
     have ho':=ho
     simp only [isOth,isDig,Bool.or_eq_false_iff,decide_eq_false_iff_not] at ho'
     obtain ⟨h0,h95,h45⟩:=ho'
     have t3:(((c.toNat:Nat):Int) != 95)=true:=by rw [bne_iff_ne];omega
     have t4:(((c.toNat:Nat):Int) != 45)=true:=by rw [bne_iff_ne];omega
     have t5:(((c.toNat:Nat):Int) == 95)=false:=by rw [beq_eq_false_iff_ne];omega
     have t6:(((c.toNat:Nat):Int) == 45)=false:=by rw [beq_eq_false_iff_ne];omega
     clear ho h95 h45
     by_cases h48:c.toNat < 48
     ·have t1:decide (((c.toNat:Nat):Int) < 48)=true:=by rw [decide_eq_true_eq];omega
      clear h0 h48
      go_wp2_with (go_at_call 127;refine (letter_any _ _).mono ?_;rintro e w' ⟨rfl,rfl⟩)
      go_ret
      exact ⟨ret_bool' Hno.out.symm,rfl⟩
     ·have t1:decide (((c.toNat:Nat):Int) < 48)=false:=by rw [decide_eq_false_iff_not];omega
      have t2:decide ((57:Int) < ((c.toNat:Nat):Int))=true:=by rw [decide_eq_true_eq];omega
      clear h0 h48
      go_wp2_with (go_at_call 127;refine (letter_any _ _).mono ?_;rintro e w' ⟨rfl,rfl⟩)
      go_ret
      exact ⟨ret_bool' Hno.out.symm,rfl⟩
  ·obtain rfl:k=s.size:=by omega
   have HY:Hid (isNm (bl s)=true):=by
    show _=_
    rw [HR.out,← Hall.out,List.take_of_length_le (by rw [bl_length];exact Nat.le_refl _)]
   go_wp2
   go_ret
   exact ⟨ret_bool' HY.out.symm,rfl⟩
theorem name_any (s:ByteArray) (w:World) (hl:s.size≤9223372036854775807) :
  Calls Tryz.prog 67 #[.string s] w fun e w' => e = .returned (.bool (isNm (bl s)))∧w=w':=by
 by_cases h1:0 < s.size
 ·by_cases h2:s.size≤40
  ·cases h3:isLet s[0] with
   | true => exact name_loop s w h1 h2 h3
   | false => exact name_head s w h1 h2 h3
  ·exact name_no s w (.inr (by omega)) hl
 ·exact name_no s w (.inl (by omega)) hl
end Go.Proofs.YtknpnhodpgajbaaGreatDoor

namespace Go.Proofs.YtknpnhodpgajbaaGreatDoor
open Go.RowKit
def shapeOf (k:Nat):Option (List Nat × Nat) :=
 if 4≤k∧k≤8 then some ([1,1],1) else if k=9 then some ([2,1,1],1) else if k=11∨k=12 then some ([1,1],2)
 else if k=13∨k=14 then some ([2,2],2) else if k=15 then some ([2],2) else none
def leafOk (k:Nat) (ra nm:ByteArray) (d:Int) (n:Nat):Prop :=
 n=0∧((k=1∧ratErr ra=0∧nm.size=0∧d=0)∨(k=2∧ra.size=0∧isNm (bl nm)=true∧isDay d=true)∨(k=3∧ra.size=0∧isNm (bl nm)=true∧d=0))
noncomputable def leafSort (k:Nat) (ra nm:ByteArray) (d:Int) (n:Nat):Nat:=@ite _ (leafOk k ra nm d n) (Classical.propDecidable _) 1 0
noncomputable def partSort (ra nm:ByteArray) (d:Int) (l ps:List Nat) (own:Nat):Nat:=if ra.size=0∧nm.size=0∧d=0∧l=ps then own else 0
noncomputable def sortOf (k:Nat) (ra nm:ByteArray) (d:Int) (l:List Nat):Nat :=
 match shapeOf k with
 | none => leafSort k ra nm d l.length
 | some (ps,own) => partSort ra nm d l ps own
mutual
noncomputable def Ex.sort:Ex→Nat
 | .mk k r n d l => sortOf k r n d (Ex.sorts l)
noncomputable def Ex.sorts:List Ex→List Nat
 | [] => []
 | x :: l => Ex.sort x :: Ex.sorts l
end
theorem Ex.sort_eq (x:Ex):x.sort=sortOf x.k x.ra x.nm x.d (Ex.sorts x.sub):=by cases x;rw [Ex.sort];rfl
theorem Ex.sorts_eq (l:List Ex):Ex.sorts l=l.map Ex.sort:=by
 induction l with
 | nil => rw [Ex.sorts];rfl
 | cons x l ih => rw [Ex.sorts,ih];rfl
theorem Ex.sorts_length (l:List Ex):(Ex.sorts l).length=l.length:=by rw [Ex.sorts_eq,List.length_map]
noncomputable def Ex.err (x:Ex):Int:=if 500 < x.size∨60 < x.depth then 4 else if x.sort=0 then 8 else 0
noncomputable def Ex.isA (x:Ex) (t:Nat):Bool:=decide (x.err=0) && decide (x.sort=t)
def Ex.bare (x:Ex):Bool:=decide (x.k=0) && (decide (x.ra.size=0) && (decide (x.nm.size=0) && (decide (x.d=0) && decide (x.sub.length=0))))
def isDays (l:List Int):Bool:=decide (1≤l.length) && (decide (l.length≤100) && (l.all isDay && decide (l.Pairwise (· < ·))))
mutual
def Con.size:Con→Nat
 | .mk _ _ _ _ x _ _ l => 1+(if x.bare=true then 0 else x.size)+Con.sizes l
def Con.sizes:List Con→Nat
 | [] => 0
 | x :: l => Con.size x+Con.sizes l
end
mutual
def Con.depth:Con→Nat
 | .mk _ _ _ _ x _ _ l => max (if x.bare=true then 0 else x.depth) (Con.depths l)+1
def Con.depths:List Con→Nat
 | [] => 0
 | x :: l => max (Con.depth x) (Con.depths l)
end
theorem Con.size_eq (x:Con):x.size=1+(if x.ex.bare=true then 0 else x.ex.size)+Con.sizes x.sub:=by cases x;rw [Con.size];rfl
theorem Con.depth_eq (x:Con):x.depth=max (if x.ex.bare=true then 0 else x.ex.depth) (Con.depths x.sub)+1:=by cases x;rw [Con.depth];rfl
theorem Con.sizes_append (l m:List Con):Con.sizes (l ++ m)=Con.sizes l+Con.sizes m:=by
 induction l with
 | nil => simp [Con.sizes]
 | cons x l ih => rw [List.cons_append,Con.sizes,Con.sizes,ih];omega
theorem Con.sizes_snoc {l:List Con} {k:Nat} {x:Con} (h:l[k]? = some x):Con.sizes (l.take (k+1))=Con.sizes (l.take k)+x.size:=by
 rw [take_snoc_get h,Con.sizes_append,Con.sizes,Con.sizes];omega
theorem Con.depths_append (l m:List Con):Con.depths (l ++ m)=max (Con.depths l) (Con.depths m):=by
 induction l with
 | nil => simp [Con.depths]
 | cons x l ih => rw [List.cons_append,Con.depths,Con.depths,ih];omega
theorem Con.depths_snoc {l:List Con} {k:Nat} {x:Con} (h:l[k]? = some x):Con.depths (l.take (k+1))=max (Con.depths (l.take k)) x.depth:=by
 rw [take_snoc_get h,Con.depths_append,Con.depths,Con.depths];omega
mutual
theorem Con.size_le:∀ x:Con,x.size≤x.bulk
 | .mk _ _ _ _ x _ _ l => by
  rw [Con.size,Con.bulk]
  have:=Con.sizes_le l
  have:=x.size_le
  split <;> omega
theorem Con.sizes_le:∀ l:List Con,Con.sizes l≤Con.bulks l
 | [] => by simp [Con.sizes]
 | x :: l => by rw [Con.sizes,Con.bulks];have:=Con.size_le x;have:=Con.sizes_le l;omega
end
mutual
theorem Con.depth_le:∀ x:Con,x.depth≤x.size
 | .mk _ _ _ _ x _ _ l => by
  rw [Con.depth,Con.size]
  have:=Con.depths_le l
  have:=x.depth_le
  split <;> omega
theorem Con.depths_le:∀ l:List Con,Con.depths l≤Con.sizes l
 | [] => by simp [Con.depths]
 | x :: l => by rw [Con.depths,Con.sizes];have:=Con.depth_le x;have:=Con.depths_le l;omega
end
theorem Con.sizes_take (l:List Con) (k:Nat):Con.sizes (l.take k)≤Con.sizes l:=by
 have h:=Con.sizes_append (l.take k) (l.drop k)
 rw [List.take_append_drop] at h
 omega
theorem Con.depths_take (l:List Con) (k:Nat):Con.depths (l.take k)≤Con.depths l:=by
 have h:=Con.depths_append (l.take k) (l.drop k)
 rw [List.take_append_drop] at h
 omega
noncomputable def nodeOk (c:Con):Bool :=
 let nobody:=decide (c.fr.size=0)
 let noTo:=decide (c.rc.size=0)
 let noName:=decide (c.nm.size=0)
 let noDate:=decide (c.d=0)
 let noDays:=decide (c.ds.length=0)
 let n:=c.sub.length
 if c.k=1 then decide (n=0) && (nobody && (noTo && (noName && (noDate && (noDays && c.ex.bare)))))
 else if c.k=2 then decide (n=0) && (isNm (bl c.fr) && (isNm (bl c.rc) && (!decide (c.fr=c.rc) && (isNm (bl c.nm) && (c.ex.isA 1 && (noDate && noDays))))))
 else if c.k=3 then decide (n=2) && (nobody && (noTo && (noName && (noDate && (noDays && c.ex.bare)))))
 else if c.k=4 then decide (n=1) && (nobody && (noTo && (noName && (noDate && (noDays && c.ex.isA 1)))))
 else if c.k=5 then decide (n=2) && (nobody && (noTo && (noName && (noDate && (noDays && c.ex.isA 2)))))
 else if c.k=6 then decide (n=1) && (nobody && (noTo && (noName && (isDay c.d && (noDays && c.ex.bare)))))
 else if c.k=7 then decide (n=2) && (isNm (bl c.fr) && (noTo && (isNm (bl c.nm) && (noDate && (noDays && c.ex.bare)))))
 else if c.k=8 then decide (n=1) && (isNm (bl c.fr) && (noTo && (isNm (bl c.nm) && (noDate && (isDays c.ds && c.ex.bare)))))
 else if c.k=9∨c.k=10 then decide (n=1) && (nobody && (noTo && (noName && (noDate && (isDays c.ds && c.ex.isA 2)))))
 else false
mutual
noncomputable def Con.formed:Con→Bool
 | .mk k fr rc nm ex d ds l => nodeOk (.mk k fr rc nm ex d ds l) && Con.formeds l
noncomputable def Con.formeds:List Con→Bool
 | [] => true
 | x :: l => Con.formed x && Con.formeds l
end
theorem Con.formed_eq (x:Con):x.formed=(nodeOk x && Con.formeds x.sub):=by cases x;rw [Con.formed];rfl
theorem Con.formeds_eq (l:List Con):Con.formeds l=l.all Con.formed:=by
 induction l with
 | nil => rw [Con.formeds];rfl
 | cons x l ih => rw [Con.formeds,ih];rfl
noncomputable def Con.err (x:Con):Int:=if 500 < x.size∨60 < x.depth then 4 else if x.formed=true then 0 else 8
end Go.Proofs.YtknpnhodpgajbaaGreatDoor

namespace Go.Proofs.YtknpnhodpgajbaaGreatDoor
open Go.RowKit
instance (k:Nat) (ra nm:ByteArray) (d:Int) (n:Nat):Decidable (leafOk k ra nm d n):=by unfold leafOk;infer_instance
def sortOfB (k:Nat) (ra nm:ByteArray) (d:Int) (l:List Nat):Nat :=
 match shapeOf k with
 | none => if leafOk k ra nm d l.length then 1 else 0
 | some (ps,own) => if ra.size=0∧nm.size=0∧d=0∧l=ps then own else 0
theorem sortOfB_eq (k:Nat) (ra nm:ByteArray) (d:Int) (l:List Nat):sortOf k ra nm d l=sortOfB k ra nm d l:=by
 unfold sortOf sortOfB leafSort partSort
 cases shapeOf k with
 | none =>
  simp only
  by_cases h:leafOk k ra nm d l.length
  ·rw [if_pos h,if_pos h]
  ·rw [if_neg h,if_neg h]
 | some p => rfl
mutual
def Ex.sortB:Ex→Nat
 | .mk k r n d l => sortOfB k r n d (Ex.sortsB l)
def Ex.sortsB:List Ex→List Nat
 | [] => []
 | x :: l => Ex.sortB x :: Ex.sortsB l
end
mutual
theorem Ex.sortB_eq:∀ x:Ex,x.sort=x.sortB
 | .mk k r n d l => by rw [Ex.sort,Ex.sortB,Ex.sortsB_eq l,sortOfB_eq]
theorem Ex.sortsB_eq:∀ l:List Ex,Ex.sorts l=Ex.sortsB l
 | [] => by rw [Ex.sorts,Ex.sortsB]
 | x :: l => by rw [Ex.sorts,Ex.sortsB,Ex.sortB_eq x,Ex.sortsB_eq l]
end
def Ex.errB (x:Ex):Int:=if 500 < x.size∨60 < x.depth then 4 else if x.sortB=0 then 8 else 0
def Ex.isAB (x:Ex) (t:Nat):Bool:=decide (x.errB=0) && decide (x.sortB=t)
theorem Ex.isAB_eq (x:Ex) (t:Nat):x.isA t=x.isAB t:=by unfold Ex.isA Ex.isAB Ex.err Ex.errB;rw [Ex.sortB_eq]
def nodeOkB (c:Con):Bool :=
 let nobody:=decide (c.fr.size=0)
 let noTo:=decide (c.rc.size=0)
 let noName:=decide (c.nm.size=0)
 let noDate:=decide (c.d=0)
 let noDays:=decide (c.ds.length=0)
 let n:=c.sub.length
 if c.k=1 then decide (n=0) && (nobody && (noTo && (noName && (noDate && (noDays && c.ex.bare)))))
 else if c.k=2 then decide (n=0) && (isNm (bl c.fr) && (isNm (bl c.rc) && (!decide (c.fr=c.rc) && (isNm (bl c.nm) && (c.ex.isAB 1 && (noDate && noDays))))))
 else if c.k=3 then decide (n=2) && (nobody && (noTo && (noName && (noDate && (noDays && c.ex.bare)))))
 else if c.k=4 then decide (n=1) && (nobody && (noTo && (noName && (noDate && (noDays && c.ex.isAB 1)))))
 else if c.k=5 then decide (n=2) && (nobody && (noTo && (noName && (noDate && (noDays && c.ex.isAB 2)))))
 else if c.k=6 then decide (n=1) && (nobody && (noTo && (noName && (isDay c.d && (noDays && c.ex.bare)))))
 else if c.k=7 then decide (n=2) && (isNm (bl c.fr) && (noTo && (isNm (bl c.nm) && (noDate && (noDays && c.ex.bare)))))
 else if c.k=8 then decide (n=1) && (isNm (bl c.fr) && (noTo && (isNm (bl c.nm) && (noDate && (isDays c.ds && c.ex.bare)))))
 else if c.k=9∨c.k=10 then decide (n=1) && (nobody && (noTo && (noName && (noDate && (isDays c.ds && c.ex.isAB 2)))))
 else false
theorem nodeOkB_eq (c:Con):nodeOk c=nodeOkB c:=by unfold nodeOk nodeOkB;simp only [Ex.isAB_eq]
mutual
def Con.formedB:Con→Bool
 | .mk k fr rc nm ex d ds l => nodeOkB (.mk k fr rc nm ex d ds l) && Con.formedsB l
def Con.formedsB:List Con→Bool
 | [] => true
 | x :: l => Con.formedB x && Con.formedsB l
end
mutual
theorem Con.formedB_eq:∀ x:Con,x.formed=x.formedB
 | .mk k fr rc nm ex d ds l => by rw [Con.formed,Con.formedB,Con.formedsB_eq l,nodeOkB_eq]
theorem Con.formedsB_eq:∀ l:List Con,Con.formeds l=Con.formedsB l
 | [] => by rw [Con.formeds,Con.formedsB]
 | x :: l => by rw [Con.formeds,Con.formedsB,Con.formedB_eq x,Con.formedsB_eq l]
end
def Con.errB (x:Con):Int:=if 500 < x.size∨60 < x.depth then 4 else if x.formedB=true then 0 else 8
theorem Con.errB_eq (x:Con):x.err=x.errB:=by unfold Con.err Con.errB;rw [Con.formedB_eq]
end Go.Proofs.YtknpnhodpgajbaaGreatDoor

namespace Go.Proofs.YtknpnhodpgajbaaGreatDoor
open Go.RowKit
theorem trimL_take_zero (xs:List Nat) (k:Nat) (h:k < xs.length) (hz:xs.getD k 0=0):trimL (xs.take (k+1))=trimL (xs.take k):=by
 rw [take_succ_getD _ _ h,hz,trimL_snoc_zero]
theorem trimL_take_ne (xs:List Nat) (k:Nat) (h:k < xs.length) (hz:xs.getD k 0 ≠ 0):trimL (xs.take (k+1))=xs.take (k+1):=by
 rw [take_succ_getD _ _ h,trimL_snoc _ _ hz]
set_option maxHeartbeats 400000 in
theorem trim_any (v:Value) (xs:List Nat) (w:World) (hv:Sl w v 1 xs.length (nums .u32 xs)) (hl:xs.length≤1000000) :
  Calls Tryz.prog 163 #[v] w fun e w' => ∃ v',e = .returned v'∧Hid (v'=cutTo v (trimL xs).length)∧w=w':=by
 obtain ⟨ad,cap,rfl,h1,h3⟩:=hv.nums
 clear hv
 go_enter Tryz.func163,Tryz.ntmps163
 go_wp2
 go_loop [0] (fun m => ∃ k:Nat,k≤xs.length∧m = .slice ad k cap∧Hid (trimL (xs.take k)=trimL xs))
  (fun m => match m with | .slice _ n _ => n | _ => 0)
 case atStart => exact ⟨xs.length,Nat.le_refl _,rfl,by rw [List.take_of_length_le (Nat.le_refl _)];rfl⟩
 case round =>
  obtain ⟨k,hk,rfl,Hrel⟩:=hrel
  by_cases h0:0 < k
  ·obtain ⟨b,off,rfl,hc⟩:=h3.resolve_left (by omega)
   obtain ⟨k,rfl⟩:∃ k',k=k'+1:=⟨k - 1,by omega⟩
   have hck:=hc k (by omega)
   clear hc h3
   by_cases hz:xs.getD k 0=0
   ·rw [hz] at hck
    have Hz:=Lib.hid hz;clear hz
    go_wp2
    go_round
    case rel => exact ⟨k,by omega,rfl,by rw [← trimL_take_zero xs k (by omega) Hz.out];exact Hrel⟩
    case measure => simp
   ·obtain ⟨y,hy⟩:∃ y,y=xs.getD k 0:=⟨_,rfl⟩
    rw [← hy] at hck hz
    have Hy:=Lib.hid hy;clear hy
    have hz':((y:Int) == 0)=false:=by simp;omega
    go_wp2
    go_ret
    refine ⟨_,rfl,?_,rfl⟩
    have hz2:xs.getD k 0 ≠ 0:=by rw [← Hy.out];exact hz
    have e:=Hrel.out
    rw [trimL_take_ne xs k (by omega) hz2] at e
    show _=Value.slice _ _ _
    rw [← e,List.length_take,Nat.min_eq_left hk]
    rfl
  ·obtain rfl:k=0:=by omega
   go_wp2
   go_ret
   refine ⟨_,rfl,?_,rfl⟩
   have e:=Hrel.out
   show _=Value.slice _ _ _
   rw [← e]
   rfl
theorem drewN_3 (w:World) (a b c:Nat):∃ n,((w.drewN a).drewN b).drewN c=w.drewN n:=⟨a+b+c,by rw [World.drewN_drewN,World.drewN_drewN,Nat.add_assoc]⟩
set_option maxHeartbeats 400000 in
theorem compare_len (ad bd:Option Addr) (m n ca cb:Nat) (w:World) (hm:m≤1000000) (hn:n≤1000000) (hne:m ≠ n) :
  Calls Tryz.prog 125 #[.slice ad m ca,.slice bd n cb] w fun e w' =>
   e = .returned (.int .i64 (if m < n then -1 else 1))∧w=w':=by
 by_cases hlt:m < n
 ·have hb:((m:Int) != (n:Int))=true:=by rw [bne_iff_ne];omega
  go_enter Tryz.func125,Tryz.ntmps125
  go_wp2
  go_ret
  exact ⟨rfl,rfl⟩
 ·have hb:((m:Int) != (n:Int))=true:=by rw [bne_iff_ne];omega
  go_enter Tryz.func125,Tryz.ntmps125
  go_wp2
  go_ret
  exact ⟨rfl,rfl⟩
set_option maxHeartbeats 400000 in
theorem compare_eq (ad ad':Option Addr) (ca cb:Nat) (xs ys:List Nat) (w:World) (hn:xs.length=ys.length) (hb:xs.length≤1000000)
  (hc:xs.length=0∨∃ b off,ad=some ⟨b,off,none⟩∧∀ j,j < xs.length→w.cell? ⟨b,off+j,none⟩=some (.int .u32 ((xs.getD j 0:Nat):Int)))
  (hd:ys.length=0∨∃ b off,ad'=some ⟨b,off,none⟩∧∀ j,j < ys.length→w.cell? ⟨b,off+j,none⟩=some (.int .u32 ((ys.getD j 0:Nat):Int))) :
  Calls Tryz.prog 125 #[.slice ad xs.length ca,.slice ad' ys.length cb] w fun e w' =>
   e = .returned (.int .i64 (cmpD xs.length xs ys))∧∃ n,w'=w.drewN n:=by
 rw [← hn] at hd ⊢
 clear hn
 have hq:((xs.length:Int) != (xs.length:Int))=false:=by simp
 go_enter Tryz.func125,Tryz.ntmps125
 go_wp2
 go_loopw [5] (fun i wr => ∃ k:Nat,k≤xs.length∧i = .int .i64 (k - 1)∧Hid (cmpD k xs ys=cmpD xs.length xs ys)∧∃ n,wr=w.drewN n)
  (fun i _ => (intOf i+1).toNat)
 case atStart => exact ⟨xs.length,Nat.le_refl _,by go_num,rfl,0,rfl⟩
 case round =>
  obtain ⟨k,hk,rfl,Hrel,n,rfl⟩:=hrel
  by_cases h0:0 < k
  ·obtain ⟨k,rfl⟩:∃ k',k=k'+1:=⟨k - 1,by omega⟩
   obtain ⟨b,off,rfl,hc2⟩:=hc.resolve_left (by omega)
   obtain ⟨b',off',rfl,hd2⟩:=hd.resolve_left (by omega)
   have h1:=hc2 k (by omega)
   have h2:=hd2 k (by omega)
   clear hc2 hd2
   obtain ⟨x,hx⟩:∃ x,x=xs.getD k 0:=⟨_,rfl⟩
   obtain ⟨y,hy⟩:∃ y,y=ys.getD k 0:=⟨_,rfl⟩
   rw [← hx] at h1
   rw [← hy] at h2
   have Hx:=Lib.hid hx;clear hx
   have Hy:=Lib.hid hy;clear hy
   clear hc hd
   by_cases he:x=y
   ·subst he
    have hq2:((x:Int) != (x:Int))=false:=by simp
    go_wp2_with fail
    go_quiet (fail)
    go_wp2
    go_roundw
    case rel =>
     refine ⟨k,by omega,by go_num,?_,n+nq,rfl⟩
     have e:=Hrel.out
     rw [cmpD,if_pos (by rw [← Hx.out,← Hy.out])] at e
     exact e
    case measure => simp [intOf]
   ·have hne:((x:Int) != (y:Int))=true:=by rw [bne_iff_ne];omega
    by_cases hlt:x < y
    ·go_wp2_with fail
     go_quiet (fail)
     go_wp2_with fail
     go_quiet (fail)
     go_wp2
     go_ret
     refine ⟨ret_int' ?_,drewN_3 _ _ _ _⟩
     have e:=Hrel.out
     rw [cmpD,if_neg (by rw [← Hx.out,← Hy.out];exact he),if_pos (by rw [← Hx.out,← Hy.out];exact hlt)] at e
     exact e
    ·go_wp2_with fail
     go_quiet (fail)
     go_wp2_with fail
     go_quiet (fail)
     go_wp2
     go_ret
     refine ⟨ret_int' ?_,drewN_3 _ _ _ _⟩
     have e:=Hrel.out
     rw [cmpD,if_neg (by rw [← Hx.out,← Hy.out];exact he),if_neg (by rw [← Hx.out,← Hy.out];exact hlt)] at e
     exact e
  ·obtain rfl:k=0:=by omega
   go_wp2
   go_ret
   refine ⟨ret_int' ?_,_,rfl⟩
   exact Hrel.out
theorem compare_any (a b:Value) (xs ys:List Nat) (w:World) (ha:Sl w a 1 xs.length (nums .u32 xs)) (hb:Sl w b 1 ys.length (nums .u32 ys))
  (hx:Nrm 1000000000 xs) (hy:Nrm 1000000000 ys) (lx:xs.length≤1000000) (ly:ys.length≤1000000) :
  Calls Tryz.prog 125 #[a,b] w fun e w' =>
   e = .returned (.int .i64 (sgn (val 1000000000 xs) (val 1000000000 ys)))∧∃ n,w'=w.drewN n:=by
 obtain ⟨ad,ca,rfl,h1,h3⟩:=ha.nums
 obtain ⟨bd,cb,rfl,h1',h3'⟩:=hb.nums
 by_cases hl:xs.length=ys.length
 ·rw [← cmpD_nrm (by decide) hx hy hl]
  exact compare_eq ad bd ca cb xs ys w hl lx h3 h3'
 ·refine (compare_len ad bd _ _ ca cb w lx ly hl).mono ?_
  rintro e w' ⟨rfl,rfl⟩
  refine ⟨ret_int' ?_,0,rfl⟩
  by_cases hlt:xs.length < ys.length
  ·rw [if_pos hlt,sgn_lt (hx.length_lt_of (by decide) hy hlt)]
  ·rw [if_neg hlt,sgn_gt (hy.length_lt_of (by decide) hx (by omega))]
end Go.Proofs.YtknpnhodpgajbaaGreatDoor
