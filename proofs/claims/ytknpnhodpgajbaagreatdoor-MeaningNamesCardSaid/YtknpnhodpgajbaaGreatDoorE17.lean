/-
  contract.bare, within, days. observable.leaf. novationref08.Size, Depth; observable.Size.
-/
import Derived.Test.YtknpnhodpgajbaaGreatDoorE02
import Derived.Test.YtknpnhodpgajbaaGreatDoorE04
import Derived.Test.YtknpnhodpgajbaaGreatDoorE10
import Derived.Test.YtknpnhodpgajbaaGreatDoorE12
import Derived.Test.YtknpnhodpgajbaaGreatDoorE01
namespace Go.Proofs.YtknpnhodpgajbaaGreatDoor
open Go.RowKit
theorem sz_nil (s:ByteArray):s.size=0 ↔ s.toList=[]:=by
 rw [Lib.toList_data]
 obtain ⟨⟨l⟩⟩:=s
 cases l <;> simp [ByteArray.size]
theorem emp_nil (s:ByteArray):s=ByteArray.empty ↔ s.toList=[]:=by
 rw [← sz_nil];simp
theorem len_nil {α:Type} (l:List α) [Decidable (l=[])]:((l.length:Int) == 0)=decide (l=[]):=by
 cases l with
 | nil => simp
 | cons x l => rw [Bool.eq_iff_iff];simp;omega
set_option maxHeartbeats 1000000 in
set_option maxRecDepth 100000 in
theorem bare_any (x:Ex) (s:Value) (w:World) (hs:RdE w x.sub s) :
  Calls Tryz.prog 107 #[x.val s] w fun e w' => e = .returned (.bool x.bare)∧Below w.heap.size w w':=by
 obtain ⟨ad,cap,rfl⟩:=hs.len
 clear hs
 unfold Ex.val
 go_enter Tryz.func107,Tryz.ntmps107
 go_wp2_with fail
 all_goals
  go_ret
  exact ⟨ret_bool' (by simp [Ex.bare,emp_nil,len_nil, *]),below_a1 _ _⟩
set_option maxRecDepth 100000 in
theorem cwithin_any (d:Int) (w:World):Calls Tryz.prog 116 #[.int .i64 d] w fun e w' => e = .returned (.bool (isDay d))∧w=w':=by
 go_enter Tryz.func116,Tryz.ntmps116
 go_wp2
 all_goals
  go_ret
  refine ⟨ret_bool' ?_,rfl⟩
  rw [Bool.eq_iff_iff];simp [isDay];omega
def risen (l:List Int) (k:Nat):Prop:=∀ j,j < k→∃ d,l[j]? = some d∧isDay d=true∧∀ i c,j=i+1→l[i]? = some c→c < d
theorem risen_lt {l:List Int} {n:Nat} (h:risen l n):∀ (j i:Nat) (c d:Int),i < j→j < n→l[i]? = some c→l[j]? = some d→c < d:=by
 intro j
 induction j with
 | zero => intro i c d hi;omega
 | succ j ih =>
  intro i c d hi hj hc hd
  obtain ⟨d',h1,_,h3⟩:=h (j+1) hj
  obtain rfl:=Option.some.inj (hd.symm.trans h1)
  obtain ⟨e,h4,_,_⟩:=h j (by omega)
  have h5:=h3 j e rfl h4
  rcases Nat.lt_or_ge i j with hij | hij
  ·have:=ih i c e hij (by omega) hc h4
   omega
  ·obtain rfl:i=j:=by omega
   obtain rfl:=Option.some.inj (hc.symm.trans h4)
   exact h5
theorem isDays_iff (l:List Int):isDays l=true ↔ 1≤l.length∧l.length≤100∧risen l l.length:=by
 unfold isDays
 simp only [Bool.and_eq_true,decide_eq_true_eq,List.all_eq_true]
 constructor
 ·rintro ⟨h1,h2,h3,h4⟩
  refine ⟨h1,h2,fun j hj => ⟨l[j],List.getElem?_eq_getElem hj,h3 _ (List.getElem_mem hj),fun i c e hc => ?_⟩⟩
  subst e
  have hi:i < l.length:=by omega
  rw [List.getElem?_eq_getElem hi] at hc
  obtain rfl:=Option.some.inj hc
  exact List.pairwise_iff_getElem.1 h4 i (i+1) hi hj (by omega)
 ·rintro ⟨h1,h2,h3⟩
  refine ⟨h1,h2,fun x hx => ?_,?_⟩
  ·obtain ⟨j,hj,rfl⟩:=List.mem_iff_getElem.1 hx
   obtain ⟨d,h4,h5,_⟩:=h3 j hj
   rw [List.getElem?_eq_getElem hj] at h4
   obtain rfl:=Option.some.inj h4
   exact h5
  ·rw [List.pairwise_iff_getElem]
   intro i j hi hj hij
   exact risen_lt h3 j i _ _ hij hj (List.getElem?_eq_getElem hi) (List.getElem?_eq_getElem hj)
theorem isDays_no {l:List Int} {k:Nat} {d:Int} (hd:l[k]? = some d) (h:isDay d=false∨∃ i c,k=i+1∧l[i]? = some c∧d≤c):isDays l=false:=by
 rw [Bool.eq_false_iff]
 intro hh
 have hk:k < l.length:=(List.getElem?_eq_some_iff.1 hd).1
 obtain ⟨d',h1,h2,h3⟩:=((isDays_iff l).1 hh).2.2 k hk
 obtain rfl:=Option.some.inj (hd.symm.trans h1)
 rcases h with h | ⟨i,c,e,hc,hle⟩
 ·rw [h] at h2;cases h2
 ·have:=h3 i c e hc;omega
theorem risen_succ {l:List Int} {k:Nat} {d:Int} (h:risen l k) (hd:l[k]? = some d) (h1:isDay d=true) (h2:∀ i c,k=i+1→l[i]? = some c→c < d):risen l (k+1):=by
 intro j hj
 rcases Nat.lt_or_ge j k with hjk | hjk
 ·exact h j hjk
 ·obtain rfl:j=k:=by omega
  exact ⟨d,hd,h1,h2⟩
set_option maxHeartbeats 1000000 in
set_option maxRecDepth 100000 in
theorem days_any (l:List Int) (v:Value) (w:World) (hn:l.length≤2000000) (hr:RdI w l v) :
  Calls Tryz.prog 117 #[v] w fun e w' => e = .returned (.bool (isDays l))∧w=w':=by
 obtain ⟨ad,cap,rfl,_,hr⟩:=hr
 have HR:=Lib.hid hr
 clear hr
 by_cases h0:l.length=0
 ·have HF:Hid (isDays l=false):=by
   show _=_
   rw [Bool.eq_false_iff]
   intro h
   have:=((isDays_iff l).1 h).1
   omega
  rw [h0]
  go_enter Tryz.func117,Tryz.ntmps117
  go_wp2_with fail
  go_ret
  exact ⟨ret_bool' HF.out.symm,rfl⟩
 by_cases h1:100 < l.length
 ·have HF:Hid (isDays l=false):=by
   show _=_
   rw [Bool.eq_false_iff]
   intro h
   have:=((isDays_iff l).1 h).2.1
   omega
  have t1:decide ((l.length:Int) < 1)=false:=by rw [decide_eq_false_iff_not];omega
  have t2 : ¬ l.length < 1:=by omega
  have t3:(100:Int) < (l.length:Int):=by omega
  go_enter Tryz.func117,Tryz.ntmps117
  go_wp2_with fail
  go_ret
  exact ⟨ret_bool' HF.out.symm,rfl⟩
 have t1:decide ((l.length:Int) < 1)=false:=by rw [decide_eq_false_iff_not];omega
 have t2 : ¬ l.length < 1:=by omega
 have t3:decide ((100:Int) < (l.length:Int))=false:=by rw [decide_eq_false_iff_not];omega
 have t4:decide (100 < l.length)=false:=by rw [decide_eq_false_iff_not];omega
 go_enter Tryz.func117,Tryz.ntmps117
 go_wp2_with fail
 go_loopw [15] (fun i wr => ∃ (k:Nat),k≤l.length∧i = .int .i64 (k:Int)∧Hid (risen l k)∧wr=w) (fun i _ => l.length - (intOf i).toNat)
 case atStart => exact ⟨0,Nat.zero_le _,rfl,Lib.hid (fun j hj => by omega),rfl⟩
 case round =>
  obtain ⟨k,hk,rfl,HRi,rfl⟩:=hrel
  by_cases hlt:k < l.length
  ·obtain ⟨d,hd⟩:∃ d,l[k]? = some d:=⟨_,List.getElem?_eq_getElem hlt⟩
   obtain ⟨b,off,rfl,c0⟩:=HR.out k d hd
   have hk1:(0:Int)≤(k:Int):=by omega
   have hk2:(k:Int) < (l.length:Int):=by omega
   have HW:=Lib.hid (fun W => cwithin_any d W)
   cases hday:isDay d with
   | false =>
    rw [hday] at HW
    have HF:Hid (isDays l=false):=Lib.hid (isDays_no hd (.inl hday))
    clear hd hday
    go_wp2_with fail
    refine (HW.out _).mono ?_
    rintro e w1 ⟨rfl,rfl⟩
    go_wp2
    go_ret
    exact ⟨ret_bool' HF.out.symm,rfl⟩
   | true =>
    rw [hday] at HW
    cases k with
    | zero =>
     rw [Nat.add_zero] at c0
     have HN:Hid (risen l (0+1)):=Lib.hid (risen_succ HRi.out hd hday (fun i c e => by omega))
     clear hd hday
     go_wp2_with fail
     refine (HW.out _).mono ?_
     rintro e w1 ⟨rfl,rfl⟩
     go_wp2
     go_roundw
     case rel => exact ⟨1,by omega,by go_num,HN,by first | rfl | trivial⟩
     case measure => simp [intOf];omega
    | succ j =>
     obtain ⟨c,hc⟩:∃ c,l[j]? = some c:=⟨_,List.getElem?_eq_getElem (by omega)⟩
     have c1:wr.cell? ⟨b,off+j,none⟩=some (.int .i64 c):=by
      obtain ⟨b',off',e,h⟩:=HR.out j c hc
      cases e
      exact h
     have e1:IntKind.i64.wrap (((j+1:Nat):Int) - 1)=(j:Int):=by rw [IntWalk.i64_in _ (by omega)];omega
     have hj0:(0:Int) < ((j+1:Nat):Int):=by omega
     have hj2:(j:Int) < (l.length:Int):=by omega
     have hj3:j < l.length:=by omega
     by_cases hcd:d≤c
     ·have HF:Hid (isDays l=false):=Lib.hid (isDays_no hd (.inr ⟨j,c,rfl,hc,hcd⟩))
      clear hd hday hc
      go_wp2_with fail
      refine (HW.out _).mono ?_
      rintro e w1 ⟨rfl,rfl⟩
      go_wp2
      go_ret
      exact ⟨ret_bool' HF.out.symm,rfl⟩
     ·have HN:Hid (risen l (j+1+1)):=Lib.hid (risen_succ HRi.out hd hday (fun i c' e hc' => by
       obtain rfl:i=j:=by omega
       obtain rfl:=Option.some.inj (hc.symm.trans hc')
       omega))
      have hcd':decide (d≤c)=false:=by rw [decide_eq_false_iff_not];exact hcd
      clear hd hday hc
      go_wp2_with fail
      refine (HW.out _).mono ?_
      rintro e w1 ⟨rfl,rfl⟩
      go_wp2
      go_roundw
      case rel => exact ⟨j+1+1,by omega,by go_num,HN,by first | rfl | trivial⟩
      case measure => simp [intOf];omega
  ·obtain rfl:k=l.length:=by omega
   have HF:Hid (isDays l=true):=Lib.hid ((isDays_iff l).2 ⟨by omega,by omega,HRi.out⟩)
   go_wp2
   go_ret
   exact ⟨ret_bool' HF.out.symm,rfl⟩
end Go.Proofs.YtknpnhodpgajbaaGreatDoor

namespace Go.Proofs.YtknpnhodpgajbaaGreatDoor
open Go.RowKit
theorem leafSort_yes {k:Nat} {ra nm:ByteArray} {d:Int} {n:Nat} (h:leafOk k ra nm d n):leafSort k ra nm d n=1:=by unfold leafSort;rw [if_pos h]
theorem leafSort_no {k:Nat} {ra nm:ByteArray} {d:Int} {n:Nat} (h : ¬ leafOk k ra nm d n):leafSort k ra nm d n=0:=by unfold leafSort;rw [if_neg h]
set_option maxHeartbeats 2000000 in
set_option maxRecDepth 100000 in
theorem leaf_core (k n:Nat) (ra nm:ByteArray) (d:Int) (ad:Option Addr) (cap:Nat) (w:World) (hn:n≤2000000) (h1:ra.size≤2000000) (h2:nm.size≤2000000) :
  Calls Tryz.prog 190 #[.agg #[.int .u8 (k:Int),.string ra,.string nm,.int .i64 d,.slice ad n cap]] w fun e w' => e = .returned (.int .u8 ((leafSort k ra nm d n:Nat):Int))∧Below w.heap.size w w':=by
 have HR:=Lib.hid (fun W => rat_any ra W (by omega))
 have HN:=Lib.hid (fun W => name_any nm W (by omega))
 have HD:=Lib.hid (fun W => within_any d W)
 have HY:=Lib.hid (@leafSort_yes k ra nm d n)
 have HX:=Lib.hid (@leafSort_no k ra nm d n)
 generalize hLS:leafSort k ra nm d n=LS at *
 clear hLS
 by_cases hz:n=0
 ·subst hz
  by_cases hk1:k=1
  ·subst hk1
   go_enter Tryz.func190,Tryz.ntmps190
   go_wp2_with fail
   refine (HR.out _).mono ?_
   rintro e w1 ⟨rfl,hb1⟩
   have q2:w1.cell? ⟨w.heap.size,2,none⟩=some (.string nm):=by rw [hb1.cell (p:=⟨w.heap.size,2,none⟩) (by simp)];go_simp
   have q3:w1.cell? ⟨w.heap.size,3,none⟩=some (.int .i64 d):=by rw [hb1.cell (p:=⟨w.heap.size,3,none⟩) (by simp)];go_simp
   have hb2:Below w.heap.size w w1:=(below_a1 _ _).trans (hb1.mono (by simp))
   clear hb1
   go_wp2
   all_goals
    go_ret
    first
     | exact ⟨by rw [HY.out (by clear HR HN HD;simp_all [leafOk,emp_nil])];rfl,hb2⟩
     | exact ⟨by rw [HX.out (by clear HR HN HD;simp_all [leafOk,emp_nil])];rfl,hb2⟩
  ·by_cases hk2:k=2
   ·subst hk2
    cases hnm:isNm (bl nm) <;> cases hdy:isDay d <;> rw [hnm] at HN <;> rw [hdy] at HD
    all_goals
     go_enter Tryz.func190,Tryz.ntmps190
     go_wp2_with (first | (refine (HN.out _).mono ?_;rintro e w1 ⟨rfl,rfl⟩) | (refine (HD.out _).mono ?_;rintro e w1 ⟨rfl,rfl⟩))
     all_goals
      go_ret
      first
       | exact ⟨by rw [HY.out (by clear HR HN HD;simp_all [leafOk,emp_nil])];rfl,below_a1 _ _⟩
       | exact ⟨by rw [HX.out (by clear HR HN HD;simp_all [leafOk,emp_nil])];rfl,below_a1 _ _⟩
   ·by_cases hk3:k=3
    ·subst hk3
     cases hnm:isNm (bl nm) <;> rw [hnm] at HN
     all_goals
      go_enter Tryz.func190,Tryz.ntmps190
      go_wp2_with (first | (refine (HN.out _).mono ?_;rintro e w1 ⟨rfl,rfl⟩))
      all_goals
       go_ret
       first
        | exact ⟨by rw [HY.out (by clear HR HN HD;simp_all [leafOk,emp_nil])];rfl,below_a1 _ _⟩
        | exact ⟨by rw [HX.out (by clear HR HN HD;simp_all [leafOk,emp_nil])];rfl,below_a1 _ _⟩
    ·have HF:Hid (LS=0):=Lib.hid (HX.out (by simp [leafOk, *]))
     go_enter Tryz.func190,Tryz.ntmps190
     go_wp2_with fail
     all_goals
      go_ret
      exact ⟨by rw [HF.out];rfl,below_a1 _ _⟩
 ·have HF:Hid (LS=0):=Lib.hid (HX.out (by simp [leafOk,hz]))
  have hz':((n:Int) == 0)=false:=by simpa using hz
  go_enter Tryz.func190,Tryz.ntmps190
  go_wp2_with fail
  all_goals
   go_ret
   exact ⟨by rw [HF.out];rfl,below_a1 _ _⟩
end Go.Proofs.YtknpnhodpgajbaaGreatDoor

namespace Go.Proofs.YtknpnhodpgajbaaGreatDoor
open Go.RowKit
set_option maxHeartbeats 1000000 in
set_option maxRecDepth 100000 in
theorem osize_any:∀ (N:Nat) (x:Ex) (s:Value) (w:World),x.bulk≤N→x.bulk≤2000000→RdE w x.sub s →
  Calls Tryz.prog 108 #[x.val s] w fun e w' => e = .returned (.int .i64 (x.size:Int))∧Below w.heap.size w w':=by
 intro N
 induction N with
 | zero =>
  intro x s w h0 _ _
  rw [Ex.bulk_eq] at h0
  omega
 | succ N ih =>
  intro x s w hN hB hs
  obtain ⟨ad,cap,rfl⟩:=hs.len
  have HS:=Lib.hid hs
  have HI:=Lib.hid ih
  have hlen:=Ex.bulks_len x.sub
  have hlt0:=x.sub_lt
  have hsz:=x.size_le
  have hsq:=x.size_eq
  have hn:x.sub.length≤2000000:=by omega
  have hb0:=below_a1 w (.cells #[.int .u8 x.k,.string x.ra,.string x.nm,.int .i64 x.d,.slice ad x.sub.length cap] 25)
  clear hs ih
  unfold Ex.val
  go_enter Tryz.func108,Tryz.ntmps108
  go_wp2_with fail
  go_loopw [3,9] (fun n i wr => ∃ (k S:Nat),k≤x.sub.length∧i = .int .i64 (k:Int)∧n = .int .i64 (S:Int)∧S≤2000000∧Hid (S=1+Ex.sizes (x.sub.take k))∧Below w.heap.size w wr∧wr.cell? ⟨w.heap.size,4,none⟩=some (.slice ad x.sub.length cap)) (fun _ i _ => x.sub.length - (intOf i).toNat)
  case atStart => exact ⟨0,1,Nat.zero_le _,rfl,rfl,by omega,rfl,hb0,by go_simp⟩
  case round =>
   clear hb0
   obtain ⟨k,S,hk,rfl,rfl,hS,HSz,hbel,q0⟩:=hrel
   by_cases hlt:k < x.sub.length
   ·obtain ⟨y,hy⟩:∃ y,x.sub[k]? = some y:=⟨_,List.getElem?_eq_getElem hlt⟩
    obtain ⟨b,off,s',rfl,c0,c1,c2,c3,c4,hs',_⟩:=(HS.out.frame hbel).at hy
    obtain ⟨ad',cap',rfl⟩:=hs'.len
    have hym:=Ex.mem_lt (List.mem_of_getElem? hy)
    have hblk:b < wr.heap.size:=World.block_lt_of_cell? wr _ c0
    have hbx:w.heap.size < wr.heap.size:=World.block_lt_of_cell? wr _ q0
    have hzw:=hbel.size
    have HSn:Hid (S+y.size=1+Ex.sizes (x.sub.take (k+1))):=by show _=_;rw [Ex.sizes_snoc hy,HSz.out];omega
    have hSn:S+y.size≤2000000:=by have:=HSn.out;have:=Ex.sizes_take x.sub (k+1);omega
    have e1:IntKind.i64.wrap ((S:Int)+(y.size:Int))=((S+y.size:Nat):Int):=by rw [IntWalk.i64_in _ (by omega)];omega
    have hk1:(0:Int)≤(k:Int):=by omega
    have hk2:(k:Int) < (x.sub.length:Int):=by omega
    have HC:=Lib.hid (HI.out y _ (wr.alloc (.cells #[.int .u8 y.k,.string y.ra,.string y.nm,.int .i64 y.d,.slice ad' y.sub.length cap'] 25)) (by omega) (by omega) (hs'.frame (below_a1 _ _)))
    unfold Ex.val at HC
    clear hy hym hs'
    go_wp2_with fail
    refine HC.out.mono ?_
    rintro e w1 ⟨rfl,hb1⟩
    have q1:w1.cell? ⟨w.heap.size,4,none⟩=some (.slice (some ⟨b,off,none⟩) x.sub.length cap):=by rw [hb1.cell (p:=⟨w.heap.size,4,none⟩) (by simp;omega)];go_simp
    have hb2:=(hbel.alloc hzw _).trans (hb1.mono (by simp;omega))
    clear hb1 hbel q0
    go_wp2
    go_roundw
    case rel => exact ⟨k+1,S+y.size,by omega,by go_num,rfl,hSn,HSn,hb2,q1⟩
    case measure => simp [intOf];omega
   ·obtain rfl:k=x.sub.length:=by omega
    have HF:Hid ((S:Int)=(x.size:Int)):=by
     show _=_
     have h:=HSz.out
     rw [List.take_length] at h
     omega
    go_wp2
    go_ret
    exact ⟨by rw [HF.out];rfl,hbel⟩
end Go.Proofs.YtknpnhodpgajbaaGreatDoor
