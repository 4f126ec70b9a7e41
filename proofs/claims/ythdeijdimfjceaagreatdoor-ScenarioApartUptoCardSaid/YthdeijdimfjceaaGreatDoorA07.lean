/- A part. -/
import Derived.Test.YthdeijdimfjceaaGreatDoorA06
namespace Go.Proofs.YthdeijdimfjceaaGreatDoor
open Go.RowKit
set_option maxHeartbeats 1000000 in
set_option maxRecDepth 100000 in
theorem cxdepth_any:∀ (N:Nat) (x:Ex) (s:Value) (w:World),x.bulk≤N→x.bulk≤2000000→RdE w x.sub s →
  Calls Tryz.prog 79 #[x.val s] w fun e w' => e = .returned (.int .i64 (x.depth:Int))∧Below w.heap.size w w':=by
 intro N
 induction N with
 | zero =>
  intro x s w h0 _ _
  rw [Ex.bulk_eq] at h0
  omega
 | succ N ih =>
  intro x s w hN hB hs
  obtain ⟨ad,cap,rfl⟩:=hs.len
  have HS:=Lib.hid hs
  have HI:=Lib.hid ih
  have hlen:=Ex.bulks_len x.sub
  have hlt0:=x.sub_lt
  have hsz:=x.size_le
  have hsq:=x.depth_eq
  have hds:=x.depth_le
  have hn:x.sub.length≤2000000:=by omega
  have hb0:=below_a1 w (.cells #[.int .u8 x.k,.string x.ra,.string x.nm,.int .i64 x.d,.slice ad x.sub.length cap] 47)
  clear hs ih
  unfold Ex.val
  go_enter Tryz.func79,Tryz.ntmps79
  go_wp2_with fail
  go_loopw [3,9] (fun n i wr => ∃ (k S:Nat),k≤x.sub.length∧i = .int .i64 (k:Int)∧n = .int .i64 (S:Int)∧S≤2000000∧Hid (S=Ex.depths (x.sub.take k))∧Below w.heap.size w wr∧wr.cell? ⟨w.heap.size,4,none⟩=some (.slice ad x.sub.length cap)) (fun _ i _ => x.sub.length - (intOf i).toNat)
  case atStart => exact ⟨0,0,Nat.zero_le _,rfl,rfl,by omega,rfl,hb0,by go_simp⟩
  case round =>
   clear hb0
   obtain ⟨k,S,hk,rfl,rfl,hS,HSz,hbel,q0⟩:=hrel
   by_cases hlt:k < x.sub.length
   ·obtain ⟨y,hy⟩:∃ y,x.sub[k]? = some y:=⟨_,List.getElem?_eq_getElem hlt⟩
    obtain ⟨b,off,s',rfl,c0,c1,c2,c3,c4,hs',_⟩:=(HS.out.frame hbel).at hy
    obtain ⟨ad',cap',rfl⟩:=hs'.len
    have hym:=Ex.mem_lt (List.mem_of_getElem? hy)
    have hblk:b < wr.heap.size:=World.block_lt_of_cell? wr _ c0
    have hbx:w.heap.size < wr.heap.size:=World.block_lt_of_cell? wr _ q0
    have hzw:=hbel.size
    have HSn:Hid (max S y.depth=Ex.depths (x.sub.take (k+1))):=by show _=_;rw [Ex.depths_snoc hy,HSz.out]
    have hSn:max S y.depth≤2000000:=by have:=HSn.out;have:=Ex.depths_take x.sub (k+1);omega
    have e1:(max (S:Int) (y.depth:Int))=((max S y.depth:Nat):Int):=by omega
    have hk1:(0:Int)≤(k:Int):=by omega
    have hk2:(k:Int) < (x.sub.length:Int):=by omega
    have HC:=Lib.hid (HI.out y _ (wr.alloc (.cells #[.int .u8 y.k,.string y.ra,.string y.nm,.int .i64 y.d,.slice ad' y.sub.length cap'] 47)) (by omega) (by omega) (hs'.frame (below_a1 _ _)))
    unfold Ex.val at HC
    clear hy hym hs'
    go_wp2_with fail
    refine HC.out.mono ?_
    rintro e w1 ⟨rfl,hb1⟩
    have q1:w1.cell? ⟨w.heap.size,4,none⟩=some (.slice (some ⟨b,off,none⟩) x.sub.length cap):=by rw [hb1.cell (p:=⟨w.heap.size,4,none⟩) (by simp;omega)];go_simp
    have hb2:=(hbel.alloc hzw _).trans (hb1.mono (by simp;omega))
    clear hb1 hbel q0
    go_wp2
    go_roundw
    case rel => exact ⟨k+1,max S y.depth,by omega,by go_num,by go_num,hSn,HSn,hb2,q1⟩
    case measure => simp [intOf];omega
   ·obtain rfl:k=x.sub.length:=by omega
    have HF:Hid ((S:Int)+1=(x.depth:Int)):=by
     show _=_
     have h:=HSz.out
     rw [List.take_length] at h
     omega
    go_wp2
    go_ret
    exact ⟨by rw [HF.out];rfl,hbel⟩
set_option maxHeartbeats 1000000 in
set_option maxRecDepth 100000 in
theorem odepth_any:∀ (N:Nat) (x:Ex) (s:Value) (lim:Nat) (w:World),x.bulk≤N→x.bulk≤2000000→lim≤1000→RdE w x.sub s →
  Calls Tryz.prog 141 #[x.val s,.int .i64 (lim:Int)] w fun e w' => e = .returned (.int .i64 ((min (lim+1) x.depth:Nat):Int))∧Below w.heap.size w w':=by
 intro N
 induction N with
 | zero =>
  intro x s lim w h0 _ _ _
  rw [Ex.bulk_eq] at h0
  omega
 | succ N ih =>
  intro x s lim w hN hB hlm hs
  obtain ⟨ad,cap,rfl⟩:=hs.len
  have HS:=Lib.hid hs
  have HI:=Lib.hid ih
  have hlen:=Ex.bulks_len x.sub
  have hlt0:=x.sub_lt
  have hsz:=x.size_le
  have hsq:=x.depth_eq
  have hds:=x.depth_le
  have hn:x.sub.length≤2000000:=by omega
  have hb0:=below_a1 w (.cells #[.int .u8 x.k,.string x.ra,.string x.nm,.int .i64 x.d,.slice ad x.sub.length cap] 47)
  clear hs ih
  unfold Ex.val
  by_cases hz:lim=0
  ·subst hz
   have HF:Hid ((1:Int)=((min (0+1) x.depth:Nat):Int)):=Lib.hid (by omega)
   go_enter Tryz.func141,Tryz.ntmps141
   go_wp2_with fail
   go_ret
   exact ⟨by rw [← HF.out];rfl,hb0⟩
  have hz0:(0:Int) < (lim:Int):=by omega
  have hz1:0 < lim:=by omega
  have el:IntKind.i64.wrap ((lim:Int) - 1)=((lim - 1:Nat):Int):=by rw [IntWalk.i64_in _ (by omega)];omega
  go_enter Tryz.func141,Tryz.ntmps141
  go_wp2_with fail
  go_loopw [5,13] (fun n i wr => ∃ (k S:Nat),k≤x.sub.length∧i = .int .i64 (k:Int)∧n = .int .i64 (S:Int)∧S≤2000000∧Hid (S=min lim (Ex.depths (x.sub.take k)))∧Below w.heap.size w wr∧wr.cell? ⟨w.heap.size,4,none⟩=some (.slice ad x.sub.length cap)) (fun _ i _ => x.sub.length - (intOf i).toNat)
  case atStart => exact ⟨0,0,Nat.zero_le _,rfl,rfl,by omega,by show _=_;simp [Ex.depths],hb0,by go_simp⟩
  case round =>
   clear hb0
   obtain ⟨k,S,hk,rfl,rfl,hS,HSz,hbel,q0⟩:=hrel
   by_cases hlt:k < x.sub.length
   ·obtain ⟨y,hy⟩:∃ y,x.sub[k]? = some y:=⟨_,List.getElem?_eq_getElem hlt⟩
    obtain ⟨b,off,s',rfl,c0,c1,c2,c3,c4,hs',_⟩:=(HS.out.frame hbel).at hy
    obtain ⟨ad',cap',rfl⟩:=hs'.len
    have hym:=Ex.mem_lt (List.mem_of_getElem? hy)
    have hblk:b < wr.heap.size:=World.block_lt_of_cell? wr _ c0
    have hbx:w.heap.size < wr.heap.size:=World.block_lt_of_cell? wr _ q0
    have hzw:=hbel.size
    obtain ⟨m,hm,hml⟩:∃ m,min (lim - 1+1) y.depth=m∧m=min lim y.depth:=⟨_,rfl,by omega⟩
    have HSn:Hid (max S m=min lim (Ex.depths (x.sub.take (k+1)))):=by show _=_;rw [Ex.depths_snoc hy,HSz.out];omega
    have hSn:max S m≤2000000:=by omega
    have hk1:(0:Int)≤(k:Int):=by omega
    have hk2:(k:Int) < (x.sub.length:Int):=by omega
    have HC:=Lib.hid (HI.out y _ (lim - 1) (wr.alloc (.cells #[.int .u8 y.k,.string y.ra,.string y.nm,.int .i64 y.d,.slice ad' y.sub.length cap'] 47)) (by omega) (by omega) (by omega) (hs'.frame (below_a1 _ _)))
    unfold Ex.val at HC
    rw [hm] at HC
    clear hy hym hs' hm hml
    rcases Nat.lt_or_ge S m with hc | hc
    ·have HSn':Hid (m=min lim (Ex.depths (x.sub.take (k+1)))):=by show _=_;rw [← HSn.out];omega
     have hSn':m≤2000000:=by omega
     go_wp2_with fail
     refine HC.out.mono ?_
     rintro e w1 ⟨rfl,hb1⟩
     have q1:w1.cell? ⟨w.heap.size,4,none⟩=some (.slice (some ⟨b,off,none⟩) x.sub.length cap):=by rw [hb1.cell (p:=⟨w.heap.size,4,none⟩) (by simp;omega)];go_simp
     have hb2:=(hbel.alloc hzw _).trans (hb1.mono (by simp;omega))
     clear hb1 hbel q0
     go_wp2
     go_roundw
     case rel => exact ⟨k+1,m,by omega,by go_num,by first | rfl | exact congrArg (Value.int .i64) (show max (S:Int) (m:Int)=_ by omega),hSn',HSn',hb2,q1⟩
     case measure => simp [intOf];omega
    ·have HSn':Hid (S=min lim (Ex.depths (x.sub.take (k+1)))):=by show _=_;rw [← HSn.out];omega
     have hSn':S≤2000000:=by omega
     go_wp2_with fail
     refine HC.out.mono ?_
     rintro e w1 ⟨rfl,hb1⟩
     have q1:w1.cell? ⟨w.heap.size,4,none⟩=some (.slice (some ⟨b,off,none⟩) x.sub.length cap):=by rw [hb1.cell (p:=⟨w.heap.size,4,none⟩) (by simp;omega)];go_simp
     have hb2:=(hbel.alloc hzw _).trans (hb1.mono (by simp;omega))
     clear hb1 hbel q0
     go_wp2
     go_roundw
     case rel => exact ⟨k+1,S,by omega,by go_num,by first | rfl | exact congrArg (Value.int .i64) (show max (S:Int) (m:Int)=_ by omega),hSn',HSn',hb2,q1⟩
     case measure => simp [intOf];omega
   ·obtain rfl:k=x.sub.length:=by omega
    have HF:Hid ((S:Int)+1=((min (lim+1) x.depth:Nat):Int)):=by
     show _=_
     have h:=HSz.out
     rw [List.take_length] at h
     omega
    go_wp2
    go_ret
    exact ⟨by rw [HF.out];rfl,hbel⟩
end Go.Proofs.YthdeijdimfjceaaGreatDoor
