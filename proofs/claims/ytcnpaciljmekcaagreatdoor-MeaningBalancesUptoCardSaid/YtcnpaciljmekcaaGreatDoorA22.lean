/- A part. -/
import Derived.Test.YtcnpaciljmekcaaGreatDoorA21
import Derived.Deep.CutBlock
import Derived.BigRegion
import Derived.Laws.StructEq
import Derived.IntWalk
import Derived.Shelf.SlSortCmp.NoneTotal
import Derived.Ground.SlsfProg
import Derived.Test.YtcnpaciljmekcaaGreatDoorProg
import Derived.Sort.OwnSortedInts
namespace Go.Proofs.YtcnpaciljmekcaaGreatDoor
open Go.RowKit
set_option maxHeartbeats 1000000 in
set_option maxRecDepth 100000 in
theorem ccount_any:∀ (N:Nat) (x:Con) (es dd ss:Value) (lim deep:Int) (w:World),x.bulk≤N→x.bulk≤2000000→RdN w x es dd ss→0≤lim→lim≤1000→0≤deep→deep≤1000 →
  Calls Tryz.prog 45 #[x.val es dd ss,.int .i64 lim,.int .i64 deep] w (CountPost x.bulk w):=by
 intro N
 induction N with
 | zero =>
  intro x es dd ss lim deep w h0
  rw [Con.bulk_eq] at h0
  omega
 | succ N ih =>
  intro x es dd ss lim deep w hN hB hs hl0 hl1 hd0 hd1
  obtain ⟨ad,cap,rfl⟩:=hs.2.2.1.len
  obtain ⟨ad1,cap1,rfl⟩:=hs.1.len
  obtain ⟨ad2,cap2,rfl⟩:=hs.2.1.len
  have HS:=Lib.hid hs.2.2.1
  have HI:=Lib.hid ih
  have hlen:=Con.bulks_len x.sub
  have hlt0:=x.sub_lt
  have hsq:=Lib.hid x.bulk_eq
  have hsub:=Con.sub_lt x
  have hn:x.sub.length≤2000000:=by omega
  have hb0:=below_a1 w (.cells #[.int .u8 x.k,.string x.fr,.string x.rc,.string x.nm,.int .u8 x.ex.k,.string x.ex.ra,.string x.ex.nm,.int .i64 x.ex.d,.slice ad1 x.ex.sub.length cap1,.int .i64 x.d,.slice ad2 x.ds.length cap2,.slice ad x.sub.length cap] 29)
  clear hs ih
  unfold Con.val
  by_cases hdz:deep=0
  ·subst hdz
   have H1:Hid (1≤x.bulk):=Lib.hid (by have:=hsq.out;omega)
   go_enter Tryz.func45,Tryz.ntmps45
   go_wp2_with fail
   go_ret2
   exact .mk 1 false rfl H1.out hb0
  have hde:(deep == 0)=false:=by simpa using hdz
  go_enter Tryz.func45,Tryz.ntmps45
  go_wp2_with fail
  go_loopw [8,9] (fun n i wr => ∃ (k S:Nat),k≤x.sub.length∧i = .int .i64 (k:Int)∧n = .int .i64 (S:Int)∧S≤2000000∧Hid (S≤1+Con.bulks (x.sub.take k))∧Below w.heap.size w wr∧wr.cell? ⟨w.heap.size,11,none⟩=some (.slice ad x.sub.length cap)) (fun _ i _ => x.sub.length - (intOf i).toNat)
  case atStart => exact ⟨0,1,Nat.zero_le _,rfl,rfl,by omega,Lib.hid (by have:=hsq.out;omega),hb0,by go_simp⟩
  case round =>
   clear hb0
   obtain ⟨k,S,hk,rfl,rfl,hS,HSz,hbel,q0⟩:=hrel
   have HS0:Hid (S≤x.bulk):=Lib.hid (by have:=hsq.out;have:=HSz.out;have:=Con.bulks_take x.sub k;omega)
   by_cases hlt:k < x.sub.length
   ·by_cases hli:(S:Int)≤lim
    ·obtain ⟨y,hy⟩:∃ y,x.sub[k]? = some y:=⟨_,List.getElem?_eq_getElem hlt⟩
     obtain ⟨b,off,es',dd',ss',rfl,⟨c0,c1,c2,c3,c4,c5,c6,c7,c8,c9,c10,c11⟩,hs'⟩:=(HS.out.frame hbel).cells hy
     have hym:=Con.mem_lt (List.mem_of_getElem? hy)
     have hblk:b < wr.heap.size:=World.block_lt_of_cell? wr _ c0
     have hbx:w.heap.size < wr.heap.size:=World.block_lt_of_cell? wr _ q0
     have hzw:=hbel.size
     have HSn:=Lib.hid (Con.bulks_snoc hy)
     have HSq:=Lib.hid (Con.bulks_take x.sub (k+1))
     have hk1:(0:Int)≤(k:Int):=by omega
     have hk2:(k:Int) < (x.sub.length:Int):=by omega
     have e1:IntKind.i64.wrap (lim - (S:Int))=lim - (S:Int):=by rw [IntWalk.i64_in _ (by omega)]
     have e2:IntKind.i64.wrap (deep - 1)=deep - 1:=by rw [IntWalk.i64_in _ (by omega)]
     have HC:=Lib.hid (HI.out y es' dd' ss' (lim - (S:Int)) (deep - 1) wr (by omega) (by omega) hs' (by omega) (by omega) (by omega) (by omega))
     unfold Con.val at HC
     clear hy hym hs'
     go_wp2_with fail
     refine HC.out.mono ?_
     rintro e w1 ⟨⟨m,g,rfl,hm⟩,hb1⟩
     have q1:w1.cell? ⟨w.heap.size,11,none⟩=some (.slice (some ⟨b,off,none⟩) x.sub.length cap):=by rw [hb1.cell (p:=⟨w.heap.size,11,none⟩) hbx];exact q0
     have hb2:=hbel.trans (hb1.mono hzw)
     clear hb1 hbel q0 HC c0 c1 c2 c3 c4 c5 c6 c7 c8 c9 c10 c11
     cases g with
     | false =>
      go_wp2
      go_ret2
      exact .mk S false rfl HS0.out hb2
     | true =>
      have HSm:Hid (S+m≤1+Con.bulks (x.sub.take (k+1))):=Lib.hid (by have:=HSn.out;have:=HSz.out;omega)
      have hSm:S+m≤2000000:=by have:=hsq.out;have:=HSm.out;have:=HSq.out;omega
      have e3:IntKind.i64.wrap ((S:Int)+(m:Int))=((S+m:Nat):Int):=by rw [IntWalk.i64_in _ (by omega)];omega
      go_wp2
      go_roundw
      case rel => exact ⟨k+1,S+m,by omega,by go_num,rfl,hSm,HSm,hb2,q1⟩
      case measure => simp [intOf];omega
    ·go_wp2
     go_ret2
     exact .mk S true rfl HS0.out hbel
   ·go_wp2
    go_ret2
    exact .mk S true rfl HS0.out hbel
set_option maxHeartbeats 2000000 in
set_option maxRecDepth 100000 in
theorem cweight_any:∀ (N:Nat) (x:Con) (es dd ss:Value) (w:World),x.bulk≤N→x.bulk≤2000000→RdN w x es dd ss →
  Calls Tryz.prog 46 #[x.val es dd ss] w (NatPost (200000 * x.bulk) w):=by
 intro N
 induction N with
 | zero =>
  intro x es dd ss w h0
  rw [Con.bulk_eq] at h0
  omega
 | succ N ih =>
  intro x es dd ss w hN hB hs
  obtain ⟨ad,cap,rfl⟩:=hs.2.2.1.len
  obtain ⟨ad1,cap1,rfl⟩:=hs.1.len
  obtain ⟨ad2,cap2,rfl⟩:=hs.2.1.len
  have HS:=Lib.hid hs.2.2.1
  have HE:=Lib.hid hs.1
  have HI:=Lib.hid ih
  have hlen:=Con.bulks_len x.sub
  have hlt0:=x.sub_lt
  have hsq:=Lib.hid x.bulk_eq
  have hsq1:=x.bulk_eq
  have hesz:=x.ex.size_le
  have hn:x.sub.length≤2000000:=by omega
  have hexb:x.ex.bulk≤2000000:=by omega
  have hn1:x.ds.length≤2000000:=by omega
  have hf1:x.fr.size≤2000000:=by omega
  have hf2:x.rc.size≤2000000:=by omega
  have hf3:x.nm.size≤2000000:=by omega
  have hf4:x.ex.size≤2000000:=by omega
  have hb0:=below_a1 w (.cells #[.int .u8 x.k,.string x.fr,.string x.rc,.string x.nm,.int .u8 x.ex.k,.string x.ex.ra,.string x.ex.nm,.int .i64 x.ex.d,.slice ad1 x.ex.sub.length cap1,.int .i64 x.d,.slice ad2 x.ds.length cap2,.slice ad x.sub.length cap] 29)
  have HG:=Lib.hid (xgreat_any x.ex _ _ (by omega) (HE.out.frame hb0))
  have H2:Hid (200000≤200000 * x.bulk):=Lib.hid (by omega)
  clear hs ih hsq1 hesz
  unfold Con.val
  unfold Ex.val at HG
  go_enter Tryz.func46,Tryz.ntmps46
  go_wp2_with fail
  refine HG.out.mono ?_
  rintro e w1 ⟨⟨g,rfl⟩,hb1⟩
  have hz1:=hb1.size
  simp only [World.size_alloc] at hz1
  have c:∀ j u,(w.alloc (.cells #[.int .u8 x.k,.string x.fr,.string x.rc,.string x.nm,.int .u8 x.ex.k,.string x.ex.ra,.string x.ex.nm,.int .i64 x.ex.d,.slice ad1 x.ex.sub.length cap1,.int .i64 x.d,.slice ad2 x.ds.length cap2,.slice ad x.sub.length cap] 29)).cell? ⟨w.heap.size,j,none⟩=some u→w1.cell? ⟨w.heap.size,j,none⟩=some u:=fun j u h => by
   rw [hb1.cell (p:=⟨w.heap.size,j,none⟩) (by simp)];exact h
  have c1:=c 1 (.string x.fr) (by go_simp)
  have c2:=c 2 (.string x.rc) (by go_simp)
  have c3:=c 3 (.string x.nm) (by go_simp)
  have c4:=c 4 (.int .u8 x.ex.k) (by go_simp)
  have c5:=c 5 (.string x.ex.ra) (by go_simp)
  have c6:=c 6 (.string x.ex.nm) (by go_simp)
  have c7:=c 7 (.int .i64 x.ex.d) (by go_simp)
  have c8:=c 8 (.slice ad1 x.ex.sub.length cap1) (by go_simp)
  have c10:=c 10 (.slice ad2 x.ds.length cap2) (by go_simp)
  have c11:=c 11 (.slice ad x.sub.length cap) (by go_simp)
  have hb2:=hb0.trans (hb1.mono (by simp))
  have HZ:Hid (∀ W,Ext w1 W→Calls Tryz.prog 93 #[.agg #[.int .u8 x.ex.k,.string x.ex.ra,.string x.ex.nm,.int .i64 x.ex.d,.slice ad1 x.ex.sub.length cap1]] W fun e w' => e = .returned (.int .i64 (x.ex.size:Int))∧Below W.heap.size W w') :=
   Lib.hid fun W hW => rsize_any x.ex.bulk x.ex _ W (Nat.le_refl _) hexb (HE.out.frame (hb2.trans (Below.mono hW (by omega))))
  clear c hb0 hb1 HG
  cases g with
  | true =>
   go_wp2
   go_ret
   exact .mk 200000 rfl H2.out hb2
  | false =>
   obtain ⟨T,hT,hTl,hTb⟩:∃ T:Nat,(x.fr.size:Int)+(x.rc.size:Int)+(x.nm.size:Int)+(x.ds.length:Int)+4 * (x.ex.size:Int)=(T:Int)∧T≤20000000∧Hid (T+200000 * Con.bulks x.sub≤200000 * x.bulk) :=
    ⟨x.fr.size+x.rc.size+x.nm.size+x.ds.length+4 * x.ex.size,by omega,by omega,Lib.hid (by have:=hsq.out;have:=x.ex.size_le;omega)⟩
   have e1:IntKind.i64.wrap ((x.fr.size:Int)+(x.rc.size:Int))=(x.fr.size:Int)+(x.rc.size:Int):=IntWalk.i64_in _ (by omega)
   have e2:IntKind.i64.wrap ((x.fr.size:Int)+(x.rc.size:Int)+(x.nm.size:Int))=(x.fr.size:Int)+(x.rc.size:Int)+(x.nm.size:Int):=IntWalk.i64_in _ (by omega)
   have e3:IntKind.i64.wrap ((x.fr.size:Int)+(x.rc.size:Int)+(x.nm.size:Int)+(x.ds.length:Int))=(x.fr.size:Int)+(x.rc.size:Int)+(x.nm.size:Int)+(x.ds.length:Int):=IntWalk.i64_in _ (by omega)
   have e4:IntKind.i64.wrap (4 * (x.ex.size:Int))=4 * (x.ex.size:Int):=IntWalk.i64_in _ (by omega)
   have e5:IntKind.i64.wrap (T:Int)=(T:Int):=IntWalk.i64_in _ (by omega)
   go_wp2
   refine wp_region_ext (fun W' => W'.cell? ⟨w.heap.size,1,none⟩=some (.string x.fr)∧W'.cell? ⟨w.heap.size,2,none⟩=some (.string x.rc)∧W'.cell? ⟨w.heap.size,3,none⟩=some (.string x.nm)∧W'.cell? ⟨w.heap.size,4,none⟩=some (.int .u8 x.ex.k)∧W'.cell? ⟨w.heap.size,5,none⟩=some (.string x.ex.ra)∧W'.cell? ⟨w.heap.size,6,none⟩=some (.string x.ex.nm)∧W'.cell? ⟨w.heap.size,7,none⟩=some (.int .i64 x.ex.d)∧W'.cell? ⟨w.heap.size,8,none⟩=some (.slice ad1 x.ex.sub.length cap1)∧W'.cell? ⟨w.heap.size,10,none⟩=some (.slice ad2 x.ds.length cap2)∧W'.cell? ⟨w.heap.size,11,none⟩=some (.slice ad x.sub.length cap)) (fun W' hW' => ⟨hW'.cell (by go_simp),hW'.cell (by go_simp),hW'.cell (by go_simp),hW'.cell (by go_simp),hW'.cell (by go_simp),hW'.cell (by go_simp),hW'.cell (by go_simp),hW'.cell (by go_simp),hW'.cell (by go_simp),hW'.cell (by go_simp)⟩) (by kernel_rfl) (by kernel_rfl) ?_
   intro HCW
   repeat (first | go_big_quiet_skip | (go_big_quiet_want;apply Exists.intro;refine ⟨fun W hW => ?_,?_⟩;(focus (obtain ⟨q1,q2,q3,q4,q5,q6,q7,q8,q10,q11⟩:=HCW W hW;go_simp;first | done | rfl | with_reducible exact ext_callsE HZ.out W hW));(simp only [Act.put,List.setIfInBounds_toArray,List.set_cons_zero,List.set_cons_succ]);go_big_quiet_on))
   refine wpQuiet_nil ?_
   intro W hW
   obtain ⟨q1,q2,q3,q4,q5,q6,q7,q8,q10,q11⟩:=HCW W hW
   have hW:=hW.below
   have hb3:=hb2.trans (hW.mono (by omega))
   have hbx:w.heap.size < W.heap.size:=by have:=hW.size;omega
   clear hb2 hW HCW HZ
   clear e1 e2 e3 e4 e5
   go_wp2
   go_loopw [3,4] (fun n i wr => ∃ (k S:Nat),k≤x.sub.length∧i = .int .i64 (k:Int)∧n = .int .i64 (S:Int)∧S≤1000000000000∧Hid (S≤T+200000 * Con.bulks (x.sub.take k))∧Below w.heap.size w wr∧wr.cell? ⟨w.heap.size,11,none⟩=some (.slice ad x.sub.length cap)) (fun _ i _ => x.sub.length - (intOf i).toNat)
   case atStart => exact ⟨0,T,Nat.zero_le _,rfl,rfl,by omega,Lib.hid (by omega),hb3,q11⟩
   case round =>
    clear hb3
    obtain ⟨k,S,hk,rfl,rfl,hS,HSz,hbel,q0⟩:=hrel
    have HS0:Hid (S≤200000 * x.bulk):=Lib.hid (by have:=HSz.out;have:=hTb.out;have:=Con.bulks_take x.sub k;omega)
    by_cases hlt:k < x.sub.length
    ·by_cases hli:(S:Int) < 100000
     ·obtain ⟨y,hy⟩:∃ y,x.sub[k]? = some y:=⟨_,List.getElem?_eq_getElem hlt⟩
      obtain ⟨b,off,es',dd',ss',rfl,⟨c0,c1,c2,c3,c4,c5,c6,c7,c8,c9,c10,c11⟩,hs'⟩:=(HS.out.frame hbel).cells hy
      have hym:=Con.mem_lt (List.mem_of_getElem? hy)
      have hblk:b < wr.heap.size:=World.block_lt_of_cell? wr _ c0
      have hbx:w.heap.size < wr.heap.size:=World.block_lt_of_cell? wr _ q0
      have hzw:=hbel.size
      have HSn:=Lib.hid (Con.bulks_snoc hy)
      have HSq:=Lib.hid (Con.bulks_take x.sub (k+1))
      have hk1:(0:Int)≤(k:Int):=by omega
      have hk2:(k:Int) < (x.sub.length:Int):=by omega
      have HC:=Lib.hid (HI.out y es' dd' ss' wr (by omega) (by omega) hs')
      unfold Con.val at HC
      clear hy hym hs'
      go_wp2_with fail
      refine HC.out.mono ?_
      rintro e w1 ⟨⟨m,rfl,hm⟩,hb1⟩
      have q1:w1.cell? ⟨w.heap.size,11,none⟩=some (.slice (some ⟨b,off,none⟩) x.sub.length cap):=by rw [hb1.cell (p:=⟨w.heap.size,11,none⟩) hbx];exact q0
      have hb2:=hbel.trans (hb1.mono hzw)
      clear hb1 hbel q0 HC c0 c1 c2 c3 c4 c5 c6 c7 c8 c9 c10 c11
      have HSm:Hid (S+m≤T+200000 * Con.bulks (x.sub.take (k+1))):=Lib.hid (by have:=HSn.out;have:=HSz.out;omega)
      have hSm:S+m≤1000000000000:=by have:=hsq.out;have:=HSm.out;have:=HSq.out;have:=hTb.out;omega
      have e3:IntKind.i64.wrap ((S:Int)+(m:Int))=((S+m:Nat):Int):=by rw [IntWalk.i64_in _ (by omega)];omega
      go_wp2
      go_roundw
      case rel => exact ⟨k+1,S+m,by omega,by go_num,rfl,hSm,HSm,hb2,q1⟩
      case measure => simp [intOf];omega
     ·go_wp2
      go_ret
      exact .mk S rfl HS0.out hbel
    ·go_wp2
     go_ret
     exact .mk S rfl HS0.out hbel
set_option maxHeartbeats 1000000 in
set_option maxRecDepth 100000 in
theorem cgreat_any (x:Con) (es dd ss:Value) (w:World) (hB:x.bulk≤2000000) (hs:RdN w x es dd ss) :
  Calls Tryz.prog 18 #[x.val es dd ss] w (BoolPost w):=by
 have HS:=Lib.hid hs
 obtain ⟨ad,cap,rfl⟩:=hs.2.2.1.len
 obtain ⟨ad1,cap1,rfl⟩:=hs.1.len
 obtain ⟨ad2,cap2,rfl⟩:=hs.2.1.len
 have hb0:=below_a1 w (.cells #[.int .u8 x.k,.string x.fr,.string x.rc,.string x.nm,.int .u8 x.ex.k,.string x.ex.ra,.string x.ex.nm,.int .i64 x.ex.d,.slice ad1 x.ex.sub.length cap1,.int .i64 x.d,.slice ad2 x.ds.length cap2,.slice ad x.sub.length cap] 29)
 have HC:=Lib.hid (ccount_any x.bulk x _ _ _ 600 100 _ (Nat.le_refl _) hB (HS.out.frame hb0) (by omega) (by omega) (by omega) (by omega))
 clear hs
 unfold Con.val at HC ⊢
 go_enter Tryz.func18,Tryz.ntmps18
 go_wp2_with fail
 refine HC.out.mono ?_
 rintro e w1 ⟨⟨n,g,rfl,hn⟩,hb1⟩
 have hz1:=hb1.size
 simp only [World.size_alloc] at hz1
 have c:∀ j u,(w.alloc (.cells #[.int .u8 x.k,.string x.fr,.string x.rc,.string x.nm,.int .u8 x.ex.k,.string x.ex.ra,.string x.ex.nm,.int .i64 x.ex.d,.slice ad1 x.ex.sub.length cap1,.int .i64 x.d,.slice ad2 x.ds.length cap2,.slice ad x.sub.length cap] 29)).cell? ⟨w.heap.size,j,none⟩=some u→w1.cell? ⟨w.heap.size,j,none⟩=some u:=fun j u h => by
  rw [hb1.cell (p:=⟨w.heap.size,j,none⟩) (by simp)];exact h
 have c0:=c 0 (.int .u8 x.k) (by go_simp)
 have c1:=c 1 (.string x.fr) (by go_simp)
 have c2:=c 2 (.string x.rc) (by go_simp)
 have c3:=c 3 (.string x.nm) (by go_simp)
 have c4:=c 4 (.int .u8 x.ex.k) (by go_simp)
 have c5:=c 5 (.string x.ex.ra) (by go_simp)
 have c6:=c 6 (.string x.ex.nm) (by go_simp)
 have c7:=c 7 (.int .i64 x.ex.d) (by go_simp)
 have c8:=c 8 (.slice ad1 x.ex.sub.length cap1) (by go_simp)
 have c9:=c 9 (.int .i64 x.d) (by go_simp)
 have c10:=c 10 (.slice ad2 x.ds.length cap2) (by go_simp)
 have c11:=c 11 (.slice ad x.sub.length cap) (by go_simp)
 have hb2:=hb0.trans (hb1.mono (by simp))
 have HB:=Lib.hid (cweight_any x.bulk x _ _ _ w1 (Nat.le_refl _) hB (HS.out.frame hb2))
 unfold Con.val at HB
 clear c hb0 hb1 HC
 cases g with
 | false =>
  go_wp2
  go_ret
  exact .mk _ rfl hb2
 | true =>
  by_cases h6:(600:Int) < (n:Int)
  ·go_wp2
   go_ret
   exact .mk _ rfl hb2
  ·go_wp2_with fail
   refine HB.out.mono ?_
   rintro e w2 ⟨⟨m,rfl,hm⟩,hb3⟩
   have hb4:=hb2.trans (hb3.mono (by omega))
   clear hb2 hb3 HB
   go_wp2
   go_ret
   exact .mk _ rfl hb4
end Go.Proofs.YtcnpaciljmekcaaGreatDoor

namespace Go.Proofs.YtcnpaciljmekcaaGreatDoor
open Go.RowKit
def fxSum:List Fx→Nat
 | [] => 0
 | f :: l => f.nm.size+f.vl.size+fxSum l
def chSum:List Ch→Nat
 | [] => 0
 | f :: l => f.pt.size+f.nm.size+chSum l
theorem fxSum_append (l m:List Fx):fxSum (l ++ m)=fxSum l+fxSum m:=by
 induction l with
 | nil => simp [fxSum]
 | cons a l ih => simp [fxSum,ih];omega
theorem chSum_append (l m:List Ch):chSum (l ++ m)=chSum l+chSum m:=by
 induction l with
 | nil => simp [chSum]
 | cons a l ih => simp [chSum,ih];omega
theorem fxSum_snoc {l:List Fx} {k:Nat} {f:Fx} (h:l[k]? = some f):fxSum (l.take (k+1))=fxSum (l.take k)+(f.nm.size+f.vl.size):=by
 rw [List.take_add_one,h,fxSum_append];simp [fxSum]
theorem chSum_snoc {l:List Ch} {k:Nat} {f:Ch} (h:l[k]? = some f):chSum (l.take (k+1))=chSum (l.take k)+(f.pt.size+f.nm.size):=by
 rw [List.take_add_one,h,chSum_append];simp [chSum]
def greatB (fs:List Fx) (cs:List Ch):Bool:=decide (1100 < fs.length∨1100 < cs.length∨20000 < fxSum fs+chSum cs)
set_option maxHeartbeats 4000000 in
set_option maxRecDepth 100000 in
theorem great_loop (fs:List Fx) (cs:List Ch) (af ac:Option Addr) (cf cc:Nat) (w:World) (_hn:fs.length≤1100000) (_hm:cs.length≤1100000)
  (hf:Rd Fx.cells 3 w af fs) (hc:Rd Ch.cells 4 w ac cs) (hfs:∀ f ∈ fs,f.small) (hcs:∀ c ∈ cs,c.small) (h1 : ¬ 1100 < fs.length) (h2 : ¬ 1100 < cs.length) :
  Calls Tryz.prog 19 #[.agg #[.slice af fs.length cf,.slice ac cs.length cc]] w fun e w' => e = .returned (.bool (greatB fs cs))∧Below w.heap.size w w':=by
 have hbw:=fun a => below_a1 w a
 have t1:decide ((1100:Int) < (fs.length:Int))=false:=by rw [decide_eq_false_iff_not];omega
 have t2:decide ((1100:Int) < (cs.length:Int))=false:=by rw [decide_eq_false_iff_not];omega
 have HL:Hid (fs.length≤1100∧cs.length≤1100):=⟨by omega,by omega⟩
 have h1':fs.length≤1100:=by omega
 have h2':cs.length≤1100:=by omega
 have Rfs:=Lib.hid hf
 have Rcs:=Lib.hid hc
 have Hfs:=Lib.hid hfs
 have Hcs:=Lib.hid hcs
 clear hf hc hfs hcs h1 h2
 go_enter Tryz.func19,Tryz.ntmps19
 go_upto_block 0 with fail
 clear t1 t2
 go_cut [3,4] from 16 to 39 (fun s _ wc => ∃ S0:Nat,s = .int .i64 S0∧Hid (S0=fxSum fs)∧S0≤2420000000∧Below w.heap.size w wc∧(wc.cell? ⟨w.heap.size,0,none⟩=some (.slice af fs.length cf)∧wc.cell? ⟨w.heap.size,1,none⟩=some (.slice ac cs.length cc)))
 case first =>
  go_wp2_with fail
  go_loopw [3,4] (fun s i wr => ∃ (k S:Nat),k≤fs.length∧i = .int .i64 k∧s = .int .i64 S∧Hid (S=fxSum (fs.take k))∧S≤k * 2200000∧Below w.heap.size w wr∧(wr.cell? ⟨w.heap.size,0,none⟩=some (.slice af fs.length cf)∧wr.cell? ⟨w.heap.size,1,none⟩=some (.slice ac cs.length cc))) (fun _ i _ => fs.length - (intOf i).toNat)
  case atStart => exact ⟨0,0,Nat.zero_le _,rfl,rfl,Lib.hid rfl,by omega,hbw _,by go_simp,by go_simp⟩
  case round =>
   obtain ⟨k,S,hk,rfl,rfl,HS,hSk,hbel,b0,b1⟩:=hrel
   by_cases hlt:k < fs.length
   ·obtain ⟨f,hf⟩:∃ f,fs[k]? = some f:=⟨_,List.getElem?_eq_getElem hlt⟩
    have HRf:=((Rfs.out.below hbel).fx hf)
    have hsm:=Hfs.out f (List.mem_of_getElem? hf)
    have HT:=Lib.hid (fxSum_snoc hf)
    clear hf
    obtain ⟨b,off,rfl,hc1,hc2,hc3⟩:=HRf
    have hA:f.nm.size≤1100000:=hsm.1
    have hB:f.vl.size≤1100000:=hsm.2
    clear hsm
    have hk1:(0:Int)≤(k:Int):=by omega
    have hk2:(k:Int) < (fs.length:Int):=by omega
    have e1:IntKind.i64.wrap ((S:Int)+(f.nm.size:Int))=(S:Int)+(f.nm.size:Int):=IntWalk.i64_in _ (by omega)
    have e2:IntKind.i64.wrap ((S:Int)+(f.nm.size:Int)+(f.vl.size:Int))=(S:Int)+(f.nm.size:Int)+(f.vl.size:Int):=IntWalk.i64_in _ (by omega)
    have HS2:Hid (S+f.nm.size+f.vl.size=fxSum (fs.take (k+1))):=by show _=_;have h1:=HS.out;have h2:=HT.out;omega
    go_wp2
    go_quiet (fail)
    clear e1 e2
    go_wp2
    go_roundw
    case rel => exact ⟨k+1,S+f.nm.size+f.vl.size,by omega,by go_num,by go_num,HS2,by omega,below_drewN hbel _,by first | assumption | go_simp,by first | assumption | go_simp⟩
    case measure => simp [intOf];omega
   ·obtain rfl:k=fs.length:=by omega
    have HS2:Hid (S=fxSum fs):=by have h:=HS.out;rw [List.take_length] at h;exact h
    clear HS hlt hk
    go_wp2
    go_meet
    exact ⟨S,rfl,HS2,by omega,hbel,b0,b1⟩
 case rest =>
  obtain ⟨S0,rfl,HS0,hS0,hbel,b0,b1⟩:=hcut
  go_wp2
  go_loopw [3,5] (fun s i wr => ∃ (k S:Nat),k≤cs.length∧i = .int .i64 k∧s = .int .i64 S∧Hid (S=S0+chSum (cs.take k))∧S≤2420000000+k * 2200000∧Below w.heap.size w wr∧(wr.cell? ⟨w.heap.size,0,none⟩=some (.slice af fs.length cf)∧wr.cell? ⟨w.heap.size,1,none⟩=some (.slice ac cs.length cc))) (fun _ i _ => cs.length - (intOf i).toNat)
  case atStart => exact ⟨0,S0,Nat.zero_le _,rfl,rfl,Lib.hid rfl,by omega,hbel,b0,b1⟩
  case round =>
   clear hbel b0 b1
   obtain ⟨k,S,hk,rfl,rfl,HS,hSk,hbel,b0,b1⟩:=hrel
   by_cases hlt:k < cs.length
   ·obtain ⟨f,hf⟩:∃ f,cs[k]? = some f:=⟨_,List.getElem?_eq_getElem hlt⟩
    have HRf:=((Rcs.out.below hbel).ch hf)
    have hsm:=Hcs.out f (List.mem_of_getElem? hf)
    have HT:=Lib.hid (chSum_snoc hf)
    clear hf
    obtain ⟨b,off,rfl,hc1,hc2,hc3,hc4⟩:=HRf
    have hA:f.pt.size≤1100000:=hsm.1
    have hB:f.nm.size≤1100000:=hsm.2
    clear hsm
    have hk1:(0:Int)≤(k:Int):=by omega
    have hk2:(k:Int) < (cs.length:Int):=by omega
    have e1:IntKind.i64.wrap ((S:Int)+(f.pt.size:Int))=(S:Int)+(f.pt.size:Int):=IntWalk.i64_in _ (by omega)
    have e2:IntKind.i64.wrap ((S:Int)+(f.pt.size:Int)+(f.nm.size:Int))=(S:Int)+(f.pt.size:Int)+(f.nm.size:Int):=IntWalk.i64_in _ (by omega)
    have HS2:Hid (S+f.pt.size+f.nm.size=S0+chSum (cs.take (k+1))):=by show _=_;have h1:=HS.out;have h2:=HT.out;omega
    go_wp2
    go_quiet (fail)
    clear e1 e2
    go_wp2
    go_roundw
    case rel => exact ⟨k+1,S+f.pt.size+f.nm.size,by omega,by go_num,by go_num,HS2,by omega,below_drewN hbel _,by first | assumption | go_simp,by first | assumption | go_simp⟩
    case measure => simp [intOf];omega
   ·obtain rfl:k=cs.length:=by omega
    have HS2:Hid (S=S0+chSum cs):=by have h:=HS.out;rw [List.take_length] at h;exact h
    clear HS hlt hk
    have HR:Hid (greatB fs cs=decide ((20000:Int) < (S:Int))):=by
     show _=_
     rw [greatB,Bool.eq_iff_iff,decide_eq_true_eq,decide_eq_true_eq]
     have h1:=HS0.out
     have h2:=HS2.out
     have h3:=HL.out
     omega
    go_wp2
    go_ret
    exact ⟨ret_bool' HR.out.symm,hbel⟩
set_option maxHeartbeats 1000000 in
set_option maxRecDepth 100000 in
theorem great_any (fs:List Fx) (cs:List Ch) (af ac:Option Addr) (cf cc:Nat) (w:World) (hn:fs.length≤1100000) (hm:cs.length≤1100000)
  (hf:Rd Fx.cells 3 w af fs) (hc:Rd Ch.cells 4 w ac cs) (hfs:∀ f ∈ fs,f.small) (hcs:∀ c ∈ cs,c.small) :
  Calls Tryz.prog 19 #[.agg #[.slice af fs.length cf,.slice ac cs.length cc]] w fun e w' => e = .returned (.bool (greatB fs cs))∧Below w.heap.size w w':=by
 by_cases h1:1100 < fs.length
 ·have HR:Hid (greatB fs cs=true):=by show _=_;rw [greatB,decide_eq_true_eq];exact .inl h1
  have t1:decide ((1100:Int) < (fs.length:Int))=true:=by rw [decide_eq_true_eq];omega
  clear h1 hf hc hfs hcs
  go_enter Tryz.func19,Tryz.ntmps19
  go_wp2
  go_ret
  exact ⟨ret_bool' HR.out.symm,below_a1 _ _⟩
 ·by_cases h2:1100 < cs.length
  ·have HR:Hid (greatB fs cs=true):=by show _=_;rw [greatB,decide_eq_true_eq];exact .inr (.inl h2)
   have t1:decide ((1100:Int) < (fs.length:Int))=false:=by rw [decide_eq_false_iff_not];omega
   have t2:decide ((1100:Int) < (cs.length:Int))=true:=by rw [decide_eq_true_eq];omega
   clear h1 h2 hf hc hfs hcs
   go_enter Tryz.func19,Tryz.ntmps19
   go_wp2
   go_ret
   exact ⟨ret_bool' HR.out.symm,below_a1 _ _⟩
  ·exact great_loop fs cs af ac cf cc w hn hm hf hc hfs hcs h1 h2
end Go.Proofs.YtcnpaciljmekcaaGreatDoor

namespace Go.Proofs.YtcnpaciljmekcaaGreatDoor
open Go.RowKit
set_option maxHeartbeats 2000000 in
set_option maxRecDepth 100000 in
theorem work_any:∀ (N:Nat) (x:Con) (es dd ss:Value) (w:World),x.bulk≤N→x.bulk≤2000000→RdN w x es dd ss →
  Calls Tryz.prog 47 #[x.val es dd ss] w fun e w' => (∃ m:Int,e = .returned (.int .i64 m))∧Below w.heap.size w w':=by
 intro N
 induction N with
 | zero =>
  intro x es dd ss w h0
  rw [Con.bulk_eq] at h0
  omega
 | succ N ih =>
  intro x es dd ss w hN hB hs
  obtain ⟨ad,cap,rfl⟩:=hs.2.2.1.len
  obtain ⟨ad1,cap1,rfl⟩:=hs.1.len
  obtain ⟨ad2,cap2,rfl⟩:=hs.2.1.len
  have HS:=Lib.hid hs.2.2.1
  have HE:=Lib.hid hs.1
  have HI:=Lib.hid ih
  have hsq1:=x.bulk_eq
  have hlen:=Con.bulks_len x.sub
  have hn:x.sub.length≤2000000:=by omega
  have hexb:x.ex.bulk≤2000000:=by omega
  obtain ⟨W1,hW1,hb2,hz1,bx⟩:∃ W,w.alloc (.cells #[.int .u8 x.k,.string x.fr,.string x.rc,.string x.nm,.int .u8 x.ex.k,.string x.ex.ra,.string x.ex.nm,.int .i64 x.ex.d,.slice ad1 x.ex.sub.length cap1,.int .i64 x.d,.slice ad2 x.ds.length cap2,.slice ad x.sub.length cap] 29)=W∧Below w.heap.size w W∧w.heap.size < W.heap.size∧BoxN W w.heap.size 29 (x.cells (.slice ad1 x.ex.sub.length cap1) (.slice ad2 x.ds.length cap2) (.slice ad x.sub.length cap)) :=
   ⟨_,rfl,below_a1 _ _,by simp,BoxN.new w _ _⟩
  have HZ:=Lib.hid fun W (hW:Below W1.heap.size W1 W) => rsize_any x.ex.bulk x.ex _ W (Nat.le_refl _) hexb (HE.out.frame (hb2.trans (hW.mono (by omega))))
  have HBx:Hid (∀ W,Below W1.heap.size W1 W→W.cell? ⟨w.heap.size,4,none⟩=some (.int .u8 x.ex.k)∧W.cell? ⟨w.heap.size,5,none⟩=some (.string x.ex.ra)∧W.cell? ⟨w.heap.size,6,none⟩=some (.string x.ex.nm)∧W.cell? ⟨w.heap.size,7,none⟩=some (.int .i64 x.ex.d)∧W.cell? ⟨w.heap.size,8,none⟩=some (.slice ad1 x.ex.sub.length cap1)∧W.cell? ⟨w.heap.size,10,none⟩=some (.slice ad2 x.ds.length cap2)∧W.cell? ⟨w.heap.size,11,none⟩=some (.slice ad x.sub.length cap)):=Lib.hid fun W hW => by
   have h:=bx.below hW bx.lt
   exact ⟨h.cell (j:=4) rfl,h.cell (j:=5) rfl,h.cell (j:=6) rfl,h.cell (j:=7) rfl,h.cell (j:=8) rfl,h.cell (j:=10) rfl,h.cell (j:=11) rfl⟩
  obtain ⟨c4,c5,c6,c7,c8,c10,c11⟩:=HBx.out W1 (Below.refl _ _)
  have hd:Below W1.heap.size W1 W1.drew:=(Below.refl _ _).drew
  clear hs ih hsq1 bx
  unfold Con.val
  go_enter Tryz.func47,Tryz.ntmps47
  go_upto_region 1 with (fail)
  clear hW1
  go_upto_region 2 with (fail)
  go_cut [3] from 5 to 13 (fun v wc => (∃ m:Int,v = .int .i64 m)∧Below W1.heap.size W1 wc)
  case first =>
   by_cases hm1:(1:Int) < (x.ds.length:Int)
   all_goals (try have hm2:(x.ds.length:Int)≤1:=Int.not_lt.1 hm1)
   all_goals
    go_wp2_with fail
    go_region_held3 (fun W => W.cell? ⟨w.heap.size,4,none⟩=some (.int .u8 x.ex.k)∧W.cell? ⟨w.heap.size,5,none⟩=some (.string x.ex.ra)∧W.cell? ⟨w.heap.size,6,none⟩=some (.string x.ex.nm)∧W.cell? ⟨w.heap.size,7,none⟩=some (.int .i64 x.ex.d)∧W.cell? ⟨w.heap.size,8,none⟩=some (.slice ad1 x.ex.sub.length cap1)∧W.cell? ⟨w.heap.size,10,none⟩=some (.slice ad2 x.ds.length cap2))
     (first | assumption | exact ⟨by assumption,by assumption,by assumption,by assumption,by assumption,by assumption⟩ | go_keep)
     (first | (go_at_call 93;refine (HZ.out _ hd).mono ?_;rintro e w5 ⟨rfl,hb5⟩;have hb6:=hd.trans hb5;obtain ⟨x4,x5,x6,x7,x8,x10,_⟩:=HBx.out _ hb6))
    all_goals
     go_wp2
     go_meet
     exact ⟨⟨_,rfl⟩,hb6⟩
  case rest =>
   obtain ⟨⟨m0,rfl⟩,hbc⟩:=hcut
   have q11:wc.cell? ⟨w.heap.size,11,none⟩=some (.slice ad x.sub.length cap):=(HBx.out wc hbc).2.2.2.2.2.2
   have hb3:=hb2.trans (hbc.mono hb2.size)
   clear hbc HBx HZ hd c4 c5 c6 c7 c8 c10 c11 hb2 HE
   go_wp2_with fail
   go_loopw [3,4] (fun n i wr => ∃ (k:Nat) (S:Int),k≤x.sub.length∧i = .int .i64 (k:Int)∧n = .int .i64 S∧Below w.heap.size w wr∧wr.cell? ⟨w.heap.size,11,none⟩=some (.slice ad x.sub.length cap)) (fun _ i _ => x.sub.length - (intOf i).toNat)
   case atStart => exact ⟨0,m0,Nat.zero_le _,rfl,rfl,hb3,q11⟩
   case round =>
    clear hb3
    obtain ⟨k,S,hk,rfl,rfl,hbel,q0⟩:=hrel
    by_cases hlt:k < x.sub.length
    ·by_cases hli:S < 100000
     ·obtain ⟨y,hy⟩:∃ y,x.sub[k]? = some y:=⟨_,List.getElem?_eq_getElem hlt⟩
      obtain ⟨b,off,es',dd',ss',rfl,⟨c0,c1,c2,c3,c4,c5,c6,c7,c8,c9,c10,c11⟩,hs'⟩:=(HS.out.frame hbel).cells hy
      have hym:=Con.mem_lt (List.mem_of_getElem? hy)
      have hblk:b < wr.heap.size:=World.block_lt_of_cell? wr _ c0
      have hbx:w.heap.size < wr.heap.size:=World.block_lt_of_cell? wr _ q0
      have hzw:=hbel.size
      have hk1:(0:Int)≤(k:Int):=by omega
      have hk2:(k:Int) < (x.sub.length:Int):=by omega
      have HC:=Lib.hid (HI.out y es' dd' ss' wr (by omega) (by omega) hs')
      unfold Con.val at HC
      clear hy hym hs'
      go_wp2_with fail
      refine HC.out.mono ?_
      rintro e w1 ⟨⟨m,rfl⟩,hb1⟩
      have q1:w1.cell? ⟨w.heap.size,11,none⟩=some (.slice (some ⟨b,off,none⟩) x.sub.length cap):=by rw [hb1.cell (p:=⟨w.heap.size,11,none⟩) hbx];exact q0
      have hb2:=hbel.trans (hb1.mono hzw)
      clear hb1 hbel q0 HC c0 c1 c2 c3 c4 c5 c6 c7 c8 c9 c10 c11
      go_wp2
      go_roundw
      case rel => exact ⟨k+1,_,by omega,by go_num,rfl,hb2,q1⟩
      case measure => simp [intOf];omega
     ·go_wp2
      go_ret
      exact ⟨⟨_,rfl⟩,hbel⟩
    ·go_wp2
     go_ret
     exact ⟨⟨_,rfl⟩,hbel⟩
structure Bx2 (W:World) (B:Nat) (c:Con) (es dd ss:Value) (E:EvD):Prop where
 c:BoxN W B 29 (c.cells es dd ss)
 v:BoxN W (B+1) 33 [.slice E.af E.F.length E.cf,.slice E.ac E.C.length E.cc]
theorem bx2_world (w:World) (c:Con) (es dd ss:Value) (E:EvD):∃ W,(w.alloc (.cells #[.int .u8 c.k,.string c.fr,.string c.rc,.string c.nm,.int .u8 c.ex.k,.string c.ex.ra,.string c.ex.nm,.int .i64 c.ex.d,es,.int .i64 c.d,dd,ss] 29)).alloc (.cells #[.slice E.af E.F.length E.cf,.slice E.ac E.C.length E.cc] 33)=W∧Below w.heap.size w W∧w.heap.size+2≤W.heap.size∧Bx2 W w.heap.size c es dd ss E:=by
 refine ⟨_,rfl,below_a2 _ _ _,by simp,?_⟩
 have hc:=BoxN.new w (c.cells es dd ss) 29
 have hv:=BoxN.new (w.alloc (.cells (c.cells es dd ss).toArray 29)) [.slice E.af E.F.length E.cf,.slice E.ac E.C.length E.cc] 33
 simp only [World.size_alloc] at hv
 exact ⟨hc.alloc _,hv⟩
theorem Bx2.below {W W':World} {B:Nat} {c:Con} {es dd ss:Value} {E:EvD} (h:Bx2 W B c es dd ss E) (hb:Below W.heap.size W W'):Bx2 W' B c es dd ss E:=⟨h.c.below hb h.c.lt,h.v.below hb h.v.lt⟩
set_option maxHeartbeats 1000000 in
set_option maxRecDepth 100000 in
theorem heavy_any (x:Con) (es dd ss:Value) (E:EvD) (w:World) (hB:x.bulk≤2000000) (hs:RdN w x es dd ss) (hE:E.Rd w) :
  Calls Tryz.prog 20 #[x.val es dd ss,E.val] w (BoolPost w):=by
 obtain ⟨ad,cap,rfl⟩:=hs.2.2.1.len
 obtain ⟨ad1,cap1,rfl⟩:=hs.1.len
 obtain ⟨ad2,cap2,rfl⟩:=hs.2.1.len
 obtain ⟨W0,hW0,hb0,hz0,bx⟩:=bx2_world w x (.slice ad1 x.ex.sub.length cap1) (.slice ad2 x.ds.length cap2) (.slice ad x.sub.length cap) E
 have HC:=Lib.hid (work_any x.bulk x _ _ _ W0 (Nat.le_refl _) hB (hs.frame hb0))
 unfold Con.val at HC
 have c0:W0.cell? ⟨w.heap.size,0,none⟩=some (.int .u8 x.k):=bx.c.cell (j:=0) rfl
 have c1:W0.cell? ⟨w.heap.size,1,none⟩=some (.string x.fr):=bx.c.cell (j:=1) rfl
 have c2:W0.cell? ⟨w.heap.size,2,none⟩=some (.string x.rc):=bx.c.cell (j:=2) rfl
 have c3:W0.cell? ⟨w.heap.size,3,none⟩=some (.string x.nm):=bx.c.cell (j:=3) rfl
 have c4:W0.cell? ⟨w.heap.size,4,none⟩=some (.int .u8 x.ex.k):=bx.c.cell (j:=4) rfl
 have c5:W0.cell? ⟨w.heap.size,5,none⟩=some (.string x.ex.ra):=bx.c.cell (j:=5) rfl
 have c6:W0.cell? ⟨w.heap.size,6,none⟩=some (.string x.ex.nm):=bx.c.cell (j:=6) rfl
 have c7:W0.cell? ⟨w.heap.size,7,none⟩=some (.int .i64 x.ex.d):=bx.c.cell (j:=7) rfl
 have c8:W0.cell? ⟨w.heap.size,8,none⟩=some (.slice ad1 x.ex.sub.length cap1):=bx.c.cell (j:=8) rfl
 have c9:W0.cell? ⟨w.heap.size,9,none⟩=some (.int .i64 x.d):=bx.c.cell (j:=9) rfl
 have c10:W0.cell? ⟨w.heap.size,10,none⟩=some (.slice ad2 x.ds.length cap2):=bx.c.cell (j:=10) rfl
 have c11:W0.cell? ⟨w.heap.size,11,none⟩=some (.slice ad x.sub.length cap):=bx.c.cell (j:=11) rfl
 have HB:=Lib.hid bx
 have h1:=hE.nf
 have h2:=hE.nc
 have h3:IntKind.i64.wrap (10+(E.F.length:Int))=10+(E.F.length:Int):=IntWalk.i64_in _ (by omega)
 have h4:IntKind.i64.wrap (10+(E.F.length:Int)+(E.C.length:Int))=10+(E.F.length:Int)+(E.C.length:Int):=IntWalk.i64_in _ (by omega)
 have Hb0:=Lib.hid hb0
 clear hs bx hE hb0
 show Calls _ _ #[.agg #[.int .u8 x.k,.string x.fr,.string x.rc,.string x.nm,.int .u8 x.ex.k,.string x.ex.ra,.string x.ex.nm,.int .i64 x.ex.d,.slice ad1 x.ex.sub.length cap1,.int .i64 x.d,.slice ad2 x.ds.length cap2,.slice ad x.sub.length cap],.agg #[.slice E.af E.F.length E.cf,.slice E.ac E.C.length E.cc]] _ _
 go_enter Tryz.func20,Tryz.ntmps20
 go_upto_region 2 with (fail)
 go_wp2_with (go_at_call 47;refine HC.out.mono ?_;rintro e w1 ⟨⟨m,rfl⟩,hb1⟩;have hB1:=HB.out.below hb1;have v0:w1.cell? ⟨w.heap.size+1,0,none⟩=some (.slice E.af E.F.length E.cf):=hB1.v.cell (j:=0) rfl;have v1:w1.cell? ⟨w.heap.size+1,1,none⟩=some (.slice E.ac E.C.length E.cc):=hB1.v.cell (j:=1) rfl)
 all_goals
  go_ret
  exact .mk _ rfl (Hb0.out.trans (hb1.mono Hb0.out.size))
end Go.Proofs.YtcnpaciljmekcaaGreatDoor

namespace Go.Proofs.YtcnpaciljmekcaaGreatDoor
open Go.RowKit
theorem Bx2.all {W:World} {B:Nat} {c:Con} {es dd ss:Value} {E:EvD} (h:Bx2 W B c es dd ss E) :
  W.cell? ⟨B,0,none⟩=some (.int .u8 c.k)∧W.cell? ⟨B,1,none⟩=some (.string c.fr)∧W.cell? ⟨B,2,none⟩=some (.string c.rc)∧W.cell? ⟨B,3,none⟩=some (.string c.nm)∧W.cell? ⟨B,4,none⟩=some (.int .u8 c.ex.k)∧W.cell? ⟨B,5,none⟩=some (.string c.ex.ra)∧W.cell? ⟨B,6,none⟩=some (.string c.ex.nm)∧W.cell? ⟨B,7,none⟩=some (.int .i64 c.ex.d)∧W.cell? ⟨B,8,none⟩=some (es)∧W.cell? ⟨B,9,none⟩=some (.int .i64 c.d)∧W.cell? ⟨B,10,none⟩=some (dd)∧W.cell? ⟨B,11,none⟩=some (ss)∧W.cell? ⟨B+1,0,none⟩=some (.slice E.af E.F.length E.cf)∧W.cell? ⟨B+1,1,none⟩=some (.slice E.ac E.C.length E.cc) :=
 ⟨h.c.cell (j:=0) rfl,h.c.cell (j:=1) rfl,h.c.cell (j:=2) rfl,h.c.cell (j:=3) rfl,h.c.cell (j:=4) rfl,h.c.cell (j:=5) rfl,h.c.cell (j:=6) rfl,h.c.cell (j:=7) rfl,h.c.cell (j:=8) rfl,h.c.cell (j:=9) rfl,h.c.cell (j:=10) rfl,h.c.cell (j:=11) rfl,h.v.cell (j:=0) rfl,h.v.cell (j:=1) rfl⟩
end Go.Proofs.YtcnpaciljmekcaaGreatDoor

namespace Go.Proofs.YtcnpaciljmekcaaGreatDoor
open Go.RowKit
mutual
def Ex.nodes:Ex→List Ex
 | .mk k r n d l => .mk k r n d l :: Ex.nodess l
def Ex.nodess:List Ex→List Ex
 | [] => []
 | x :: l => Ex.nodes x ++ Ex.nodess l
end
theorem Ex.nodes_eq (x:Ex):x.nodes=x :: Ex.nodess x.sub:=by cases x;rw [Ex.nodes];rfl
theorem Ex.nodess_append (l m:List Ex):Ex.nodess (l ++ m)=Ex.nodess l ++ Ex.nodess m:=by
 induction l with
 | nil => simp [Ex.nodess]
 | cons x l ih => rw [List.cons_append,Ex.nodess,Ex.nodess,ih,List.append_assoc]
theorem Ex.nodess_snoc {l:List Ex} {k:Nat} {x:Ex} (h:l[k]? = some x):Ex.nodess (l.take (k+1))=Ex.nodess (l.take k) ++ x.nodes:=by
 rw [take_snoc_get h,Ex.nodess_append,Ex.nodess,Ex.nodess,List.append_nil]
mutual
theorem Ex.nodes_len:∀ x:Ex,x.nodes.length=x.size
 | .mk _ r n _ l => by rw [Ex.nodes,Ex.size,List.length_cons,Ex.nodess_len l];omega
theorem Ex.nodess_len:∀ l:List Ex,(Ex.nodess l).length=Ex.sizes l
 | [] => by simp [Ex.nodess,Ex.sizes]
 | x :: l => by rw [Ex.nodess,Ex.sizes,List.length_append,Ex.nodes_len x,Ex.nodess_len l]
end
def xNeed (ds:List Int) (y:Ex):List NdP:=if ds=[] then [] else if y.k=2 then [(y.nm,y.d)] else if y.k=3 then ds.map fun d => (y.nm,d) else []
def xLate (ds:List Int) (y:Ex):Bool:=match ds with | [] => false | d0 :: _ => decide (y.k=2) && decide (d0 < y.d)
end Go.Proofs.YtcnpaciljmekcaaGreatDoor

namespace Go.Proofs.YtcnpaciljmekcaaGreatDoor
open Go.RowKit
def OwnB (Bo:Nat) (W:World) (b:Nat):Prop:=∃ v,W.cell? ⟨Bo,0,none⟩=some v∧v.ownBlock=some b
theorem OwnB.low {Bo:Nat} {W W':World} (hBo:Bo < W.heap.size) (h:Below W.heap.size W W') (b:Nat):OwnB Bo W' b ↔ OwnB Bo W b:=by
 unfold OwnB
 rw [h.cell (p:=⟨Bo,0,none⟩) hBo]
structure KeptO (base D Bo:Nat) (W W':World):Prop where
 below:Below base W W'
 cells:∀ b,D≤b→b < W.heap.size→¬ OwnB Bo W b→W'.heap[b]? = W.heap[b]?∧¬ OwnB Bo W' b
section
variable {base D Bo:Nat}
theorem KeptO.refl (W:World):KeptO base D Bo W W:=⟨Below.refl _ _,fun _ _ _ h => ⟨rfl,h⟩⟩
theorem KeptO.trans {a b c:World} (h:KeptO base D Bo a b) (k:KeptO base D Bo b c):KeptO base D Bo a c :=
 ⟨h.below.trans k.below,fun i hi hl ho => by
  obtain ⟨h1,h2⟩:=h.cells i hi hl ho
  obtain ⟨k1,k2⟩:=k.cells i hi (Nat.lt_of_lt_of_le hl h.below.size) h2
  exact ⟨k1.trans h1,k2⟩⟩
theorem KeptO.of_below {W W':World} (hb:base≤W.heap.size) (hBo:Bo < W.heap.size) (h:Below W.heap.size W W'):KeptO base D Bo W W' :=
 ⟨h.mono hb,fun i _ hl ho => ⟨h.block i hl,fun hh => ho ((OwnB.low hBo h i).1 hh)⟩⟩
def Prv (D Bo:Nat) (W:World) (B:Nat):Prop:=D≤B∧B < W.heap.size∧¬ OwnB Bo W B
theorem Prv.kept {W W':World} {B:Nat} (h:Prv D Bo W B) (k:KeptO base D Bo W W'):Prv D Bo W' B :=
 ⟨h.1,Nat.lt_of_lt_of_le h.2.1 k.below.size,(k.cells B h.1 h.2.1 h.2.2).2⟩
theorem Prv.cell {W W':World} {B o:Nat} {v:Value} (h:Prv D Bo W B) (k:KeptO base D Bo W W') (hc:W.cell? ⟨B,o,none⟩=some v):W'.cell? ⟨B,o,none⟩=some v:=by
 rw [World.cell?_of_block (w:=W) (k.cells B h.1 h.2.1 h.2.2).1];exact hc
theorem Prv.low {W W':World} {B:Nat} (h:Prv D Bo W B) (hBo:Bo < W.heap.size) (hb:Below W.heap.size W W'):Prv D Bo W' B :=
 ⟨h.1,Nat.lt_of_lt_of_le h.2.1 hb.size,fun hh => h.2.2 ((OwnB.low hBo hb B).1 hh)⟩
theorem Prv.new {W:World} (hD:D≤W.heap.size) (hBo:Bo < W.heap.size) (ho:∀ b,OwnB Bo W b→b < W.heap.size) (o:Obj):Prv D Bo (W.alloc o) W.heap.size :=
 ⟨hD,by simp,fun hh => by have:=ho _ ((OwnB.low hBo (below_a1 W o) _).1 hh);omega⟩
def DaysAt (base D Bo:Nat) (W:World) (ds:List Int) (v:Value):Prop:=RdI W ds v∧(ds ≠ []→∀ b,v.ownBlock=some b→b < base∨Prv D Bo W b)
theorem DaysAt.of_blocks {W W':World} {ds:List Int} {v:Value} (h:DaysAt base D Bo W ds v) (h1:∀ b,b < base→W'.heap[b]? = W.heap[b]?) (h2:∀ b,Prv D Bo W b→W'.heap[b]? = W.heap[b]?∧Prv D Bo W' b):DaysAt base D Bo W' ds v:=by
 obtain ⟨⟨ad,cap,rfl,hc,hr⟩,ho⟩:=h
 refine ⟨⟨ad,cap,rfl,hc,fun j d hj => ?_⟩,fun hne b hb => ?_⟩
 ·obtain ⟨b,off,rfl,hcell⟩:=hr j d hj
  refine ⟨b,off,rfl,?_⟩
  have hb:W'.heap[b]? = W.heap[b]?:=by
   rcases ho (by rintro rfl;simp at hj) b rfl with hb | hb
   ·exact h1 b hb
   ·exact (h2 b hb).1
  rw [World.cell?_of_block (w:=W) hb]
  exact hcell
 ·rcases ho hne b hb with h | h
  ·exact .inl h
  ·exact .inr (h2 b h).2
theorem DaysAt.kept {W W':World} {ds:List Int} {v:Value} (h:DaysAt base D Bo W ds v) (k:KeptO base D Bo W W'):DaysAt base D Bo W' ds v :=
 h.of_blocks (fun b hb => k.below.block b hb) fun b hb => ⟨(k.cells b hb.1 hb.2.1 hb.2.2).1,hb.kept k⟩
theorem DaysAt.low {W W':World} {ds:List Int} {v:Value} (h:DaysAt base D Bo W ds v) (hB:base≤W.heap.size) (hBo:Bo < W.heap.size) (hb:Below W.heap.size W W'):DaysAt base D Bo W' ds v :=
 h.kept (KeptO.of_below hB hBo hb)
end
end Go.Proofs.YtcnpaciljmekcaaGreatDoor

namespace Go.Proofs.YtcnpaciljmekcaaGreatDoor
open Go.RowKit
theorem Ex.nodess_take {l:List Ex} {k:Nat} {x:Ex} (h:l[k]? = some x):∃ r,Ex.nodess l=Ex.nodess (l.take k) ++ (x.nodes ++ r):=by
 refine ⟨Ex.nodess (l.drop (k+1)),?_⟩
 rw [← List.append_assoc,← Ex.nodess_snoc h,← Ex.nodess_append,List.take_append_drop]
end Go.Proofs.YtcnpaciljmekcaaGreatDoor

namespace Go.Proofs.YtcnpaciljmekcaaGreatDoor
open Go.RowKit
def LKey (w0:World) (D Bo Bd:Nat) (b0:Bool) (ds:List Int) (vds:Value) (pre:List Ex) (W:World):Prop :=
 Boxed W Bo 4 (.bool (b0 || pre.any (xLate ds)))∧W.cell? ⟨Bd,0,none⟩=some vds∧Prv D Bo W Bd∧DaysAt w0.heap.size D Bo W ds vds
theorem Boxed.low {W W':World} {B:Nat} {t:TypeId} {v:Value} (h:Boxed W B t v) (hb:Below W.heap.size W W'):Boxed W' B t v:=(hb.block _ h.lt).trans h
theorem LKey.frame {w0:World} {D Bo Bd:Nat} {b0:Bool} {ds:List Int} {vds:Value} {pre:List Ex} {W W':World} (h:LKey w0 D Bo Bd b0 ds vds pre W) (hB:w0.heap.size≤W.heap.size) (hb:Below W.heap.size W W'):LKey w0 D Bo Bd b0 ds vds pre W':=by
 obtain ⟨h1,h2,h3,h4⟩:=h
 exact ⟨Boxed.low h1 hb,by rw [hb.cell (p:=⟨Bd,0,none⟩) h3.2.1];exact h2,h3.low h1.lt hb,h4.low hB h1.lt hb⟩
theorem notOwn_bool {Bo:Nat} {W:World} {b:Bool} {t:TypeId} (h:Boxed W Bo t (.bool b)) (k:Nat) : ¬ OwnB Bo W k:=by
 rintro ⟨v,hv,hk⟩
 rw [h.cell] at hv
 cases hv
 simp [Value.ownBlock] at hk
theorem LKey.step {w0:World} {D Bo Bd:Nat} {b0:Bool} {ds:List Int} {vds:Value} {pre:List Ex} {W:World} (h:LKey w0 D Bo Bd b0 ds vds pre W) (hBo:w0.heap.size≤Bo) (hBD:Bo < D) (y:Ex) (b:Bool) (hb:b=(b0 || pre.any (xLate ds) || xLate ds y)) :
  LKey w0 D Bo Bd b0 ds vds (pre ++ [y]) (W.drew.setCell ⟨Bo,0,none⟩ (.bool b))∧KeptO w0.heap.size D Bo W (W.drew.setCell ⟨Bo,0,none⟩ (.bool b)):=by
 obtain ⟨h1,h2,h3,h4⟩:=h
 have h1d:Boxed W.drew Bo 4 (.bool (b0 || pre.any (xLate ds))):=h1
 have hs:Boxed (W.drew.setCell ⟨Bo,0,none⟩ (.bool b)) Bo 4 (.bool b):=h1d.set _
 have hk:KeptO w0.heap.size D Bo W (W.drew.setCell ⟨Bo,0,none⟩ (.bool b)):=by
  refine ⟨(Below.refl _ W).drew.setCell (p:=⟨Bo,0,none⟩) hBo _,fun k hD hl _ => ⟨?_,notOwn_bool hs k⟩⟩
  rw [Below.heap_setCell _ _ _ _ (show k ≠ Bo by omega)]
  rfl
 refine ⟨⟨?_,h3.cell hk h2,h3.kept hk,h4.kept hk⟩,hk⟩
 have e:(b0 || (pre ++ [y]).any (xLate ds))=b:=by rw [hb,List.any_append,List.any_cons,List.any_nil,Bool.or_false,Bool.or_assoc]
 rw [e]
 exact hs
end Go.Proofs.YtcnpaciljmekcaaGreatDoor

namespace Go.Proofs.YtcnpaciljmekcaaGreatDoor
open Go.RowKit
def RowAt {α:Type} (enc:α→List Value) (t e:TypeId) (m base Bo:Nat) (L:List α) (W:World):Prop:=∃ v,Boxed W Bo t v∧W.ownsRow base e m v L.length (L.flatMap enc)
section
variable {α:Type} {enc:α→List Value} {t e:TypeId} {m base Bo:Nat} {L:List α} {W:World}
theorem RowAt.frame {W':World} (h:RowAt enc t e m base Bo L W) (hb:Below W.heap.size W W'):RowAt enc t e m base Bo L W':=by
 obtain ⟨v,h1,h2⟩:=h
 exact ⟨v,(hb.block _ h1.lt).trans h1,ownsRow_below' h2 hb⟩
theorem RowAt.box (h:RowAt enc t e m base Bo L W):Bo < W.heap.size:=by
 obtain ⟨v,h1,_⟩:=h
 exact h1.lt
theorem RowAt.own (h:RowAt enc t e m base Bo L W) (b:Nat) (hb:OwnB Bo W b):b < W.heap.size:=by
 obtain ⟨v,h1,h2⟩:=h
 obtain ⟨u,hu,hub⟩:=hb
 rw [h1.cell] at hu
 cases hu
 exact (h2.lt b hub).2
end
theorem RowAt.step {t e:TypeId} {size base D Bo:Nat} {W w1:World} {v v':Value} {k m:Nat} {xs ys:List Value} {tmp:Obj} (hv:Boxed W Bo t v) (hte:t ≠ e) (hrow:W.ownsRow base e size v k xs) (hbase:base≤W.heap.size) (hB:base≤Bo) (hD:Bo < D)
  (hown':w1.ownsRow base e size v' m ys) (hgrow:(W.alloc tmp).grownBy w1 v.ownBlock) (hloc:v'.ownBlock=v.ownBlock∨∃ g,v'.ownBlock=some g∧W.heap.size+1≤g) :
  Boxed w1 Bo t v∧Boxed (w1.setCell ⟨Bo,0,none⟩ v') Bo t v'∧(w1.setCell ⟨Bo,0,none⟩ v').ownsRow base e size v' m ys∧KeptO base D Bo W (w1.setCell ⟨Bo,0,none⟩ v'):=by
 obtain ⟨h1,h2,h3,_,h5⟩:=Boxed.appended hv hte hrow hbase hB hown' hgrow
 refine ⟨h1,h2,h3,h5,fun b hb hl ho => ?_⟩
 have hne:some b ≠ v.ownBlock:=fun e => ho ⟨v,hv.cell,e.symm⟩
 refine ⟨?_,?_⟩
 ·rw [Below.heap_setCell _ _ _ _ (show b ≠ Bo by omega),hgrow.block b (by simp;omega) hne,Below.heap_alloc _ _ _ hl]
 ·rintro ⟨u,hu,hub⟩
  rw [h2.cell] at hu
  cases hu
  rcases hloc with e | ⟨g,e,hg⟩
  ·exact hne (by rw [← e,hub])
  ·rw [e] at hub
   cases hub
   omega
end Go.Proofs.YtcnpaciljmekcaaGreatDoor

namespace Go.Proofs.YtcnpaciljmekcaaGreatDoor
open Go.RowKit
def ndCells (x:NdP):List Value:=[.string x.1,.int .i64 x.2]
abbrev NRow (base Bo:Nat) (L:List NdP) (W:World):Prop:=RowAt ndCells 63 81 2 base Bo L W
def NKey (w0:World) (D Bo Bd:Nat) (L0:List NdP) (ds:List Int) (vds:Value) (pre:List Ex) (W:World):Prop :=
 NRow w0.heap.size Bo (L0 ++ pre.flatMap (xNeed ds)) W∧W.cell? ⟨Bd,0,none⟩=some vds∧Prv D Bo W Bd∧DaysAt w0.heap.size D Bo W ds vds
theorem NKey.frame {w0:World} {D Bo Bd:Nat} {L0:List NdP} {ds:List Int} {vds:Value} {pre:List Ex} {W W':World} (h:NKey w0 D Bo Bd L0 ds vds pre W) (hB:w0.heap.size≤W.heap.size) (hb:Below W.heap.size W W'):NKey w0 D Bo Bd L0 ds vds pre W':=by
 obtain ⟨h1,h2,h3,h4⟩:=h
 have hbo:=h1.box
 exact ⟨h1.frame hb,by rw [hb.cell (p:=⟨Bd,0,none⟩) h3.2.1];exact h2,h3.low hbo hb,h4.low hB hbo hb⟩
end Go.Proofs.YtcnpaciljmekcaaGreatDoor

namespace Go.Proofs.YtcnpaciljmekcaaGreatDoor
open Go.RowKit
theorem nd_len (x:NdP):(ndCells x).length=2:=rfl
end Go.Proofs.YtcnpaciljmekcaaGreatDoor

namespace Go.Proofs.YtcnpaciljmekcaaGreatDoor
open Go.RowKit
def dyCells (x:Int):List Value:=[.int .i64 x]
theorem dyCells_len (x:Int):(dyCells x).length=1:=rfl
def RdDy (w:World) (l:List Int) (v:Value):Prop:=∃ ad cap,v = .slice ad l.length cap∧∀ k x,l[k]? = some x→∃ b off,ad=some ⟨b,off,none⟩∧w.cell? ⟨b,off+k,none⟩=some (.int .i64 x)
theorem RdDy.low {w w':World} {l:List Int} {v:Value} (h:RdDy w l v) (hb:Below w.heap.size w w'):RdDy w' l v:=by
 obtain ⟨ad,cap,rfl,h⟩:=h
 refine ⟨ad,cap,rfl,fun k x hk => ?_⟩
 obtain ⟨b,off,e,h0⟩:=h k x hk
 have hl:b < w.heap.size:=World.block_lt_of_cell? w _ h0
 exact ⟨b,off,e,by rw [hb.cell (p:=⟨b,off+k,none⟩) hl];exact h0⟩
theorem RdDy.own {w:World} {base:Nat} {l:List Int} {v:Value} (h:w.ownsRow base 3 1 v l.length (l.flatMap dyCells)):RdDy w l v:=by
 rcases h.2 with ⟨rfl,h0⟩ | ⟨g,cap,cur,rfl,_⟩
 ·refine ⟨none,0,by rw [h0],fun k x hk => ?_⟩
  rw [List.eq_nil_of_length_eq_zero h0] at hk
  simp at hk
 ·refine ⟨_,cap,rfl,fun k x hk => ⟨g,0,rfl,?_⟩⟩
  have hfl:=flat_length dyCells 1 dyCells_len l
  have hkl:=(List.getElem?_eq_some_iff.1 hk).1
  have h0:=flat_at dyCells_len hk 0 _ rfl
  simp only [Nat.mul_one,Nat.add_zero] at h0
  rw [Nat.zero_add,h.cellAt k (by omega)];exact h0
end Go.Proofs.YtcnpaciljmekcaaGreatDoor

namespace Go.Proofs.YtcnpaciljmekcaaGreatDoor
open Go.RowKit
def cxCells (x:ChP):List Value:=[.string x.1,.string x.2.1,.int .i64 x.2.2,.bool false]
end Go.Proofs.YtcnpaciljmekcaaGreatDoor

namespace Go.Proofs.YtcnpaciljmekcaaGreatDoor
open Go.RowKit
theorem cxCells_len (x:ChP):(cxCells x).length=4:=rfl
end Go.Proofs.YtcnpaciljmekcaaGreatDoor

namespace Go.Proofs.YtcnpaciljmekcaaGreatDoor
open Go.RowKit
def bMt:ByteArray:=⟨#[]⟩
def bX:ByteArray:=⟨#[88]⟩
def bY:ByteArray:=⟨#[89]⟩
def bAnn:ByteArray:=⟨#[65,110,110]⟩
def bBob:ByteArray:=⟨#[66,111,98]⟩
def bUSD:ByteArray:=⟨#[85,83,68]⟩
def bc:ByteArray:=⟨#[99]⟩
def exZ:Ex:=.mk 0 bMt bMt 0 []
def fX:Ex:=.mk 2 bMt bX 5 []
def fY:Ex:=.mk 2 bMt bY 9 []
def xAdd:Ex:=.mk 4 bMt bMt 0 [fX,fY]
def payC:Con:=.mk 2 bAnn bBob bUSD xAdd 0 [] []
def atC:Con:=.mk 6 bMt bMt bMt exZ 5 [] [payC]
def zeroC:Con:=.mk 1 bMt bMt bMt exZ 0 [] []
def callC:Con:=.mk 8 bAnn bMt bc exZ 0 [1,3,7] [zeroC]
end Go.Proofs.YtcnpaciljmekcaaGreatDoor

namespace Go.Proofs.YtcnpaciljmekcaaGreatDoor
open Go.RowKit
def RdNd (w:World) (l:List NdP) (v:Value):Prop:=∃ ad cap,v = .slice ad l.length cap∧∀ k x,l[k]? = some x→∃ b off,ad=some ⟨b,off,none⟩∧w.cell? ⟨b,off+k * 2,none⟩=some (.string x.1)∧w.cell? ⟨b,off+k * 2+1,none⟩=some (.int .i64 x.2)
theorem RdNd.low {w w':World} {l:List NdP} {v:Value} (h:RdNd w l v) (hb:Below w.heap.size w w'):RdNd w' l v:=by
 obtain ⟨ad,cap,rfl,h⟩:=h
 refine ⟨ad,cap,rfl,fun k x hk => ?_⟩
 obtain ⟨b,off,e,h0,h1⟩:=h k x hk
 have hl:b < w.heap.size:=World.block_lt_of_cell? w _ h0
 exact ⟨b,off,e,by rw [hb.cell (p:=⟨b,off+k * 2,none⟩) hl];exact h0,by rw [hb.cell (p:=⟨b,off+k * 2+1,none⟩) hl];exact h1⟩
theorem RdNd.own {w:World} {base:Nat} {l:List NdP} {v:Value} (h:w.ownsRow base 81 2 v l.length (l.flatMap ndCells)):RdNd w l v:=by
 rcases h.2 with ⟨rfl,h0⟩ | ⟨g,cap,cur,rfl,_⟩
 ·refine ⟨none,0,by rw [h0],fun k x hk => ?_⟩
  rw [List.eq_nil_of_length_eq_zero h0] at hk
  simp at hk
 ·refine ⟨_,cap,rfl,fun k x hk => ⟨g,0,rfl,?_⟩⟩
  have hfl:=flat_length ndCells 2 nd_len l
  have hkl:=(List.getElem?_eq_some_iff.1 hk).1
  have h0:=flat_at nd_len hk 0 _ rfl
  have h1:=flat_at nd_len hk 1 _ rfl
  refine ⟨?_,?_⟩
  ·rw [Nat.zero_add,h.cellAt (k * 2) (by omega)];exact h0
  ·rw [Nat.zero_add,h.cellAt (k * 2+1) (by omega)];exact h1
end Go.Proofs.YtcnpaciljmekcaaGreatDoor

namespace Go.Proofs.YtcnpaciljmekcaaGreatDoor
open Go.RowKit
def RdCx (w:World) (l:List ChP) (v:Value):Prop:=∃ ad cap,v = .slice ad l.length cap∧∀ k x,l[k]? = some x→∃ b off,ad=some ⟨b,off,none⟩∧w.cell? ⟨b,off+k * 4,none⟩=some (.string x.1)∧w.cell? ⟨b,off+k * 4+1,none⟩=some (.string x.2.1)∧w.cell? ⟨b,off+k * 4+2,none⟩=some (.int .i64 x.2.2)∧w.cell? ⟨b,off+k * 4+3,none⟩=some (.bool false)
theorem RdCx.low {w w':World} {l:List ChP} {v:Value} (h:RdCx w l v) (hb:Below w.heap.size w w'):RdCx w' l v:=by
 obtain ⟨ad,cap,rfl,h⟩:=h
 refine ⟨ad,cap,rfl,fun k x hk => ?_⟩
 obtain ⟨b,off,e,h0,h1,h2,h3⟩:=h k x hk
 have hl:b < w.heap.size:=World.block_lt_of_cell? w _ h0
 exact ⟨b,off,e,by rw [hb.cell (p:=⟨b,off+k * 4,none⟩) hl];exact h0,by rw [hb.cell (p:=⟨b,off+k * 4+1,none⟩) hl];exact h1,by rw [hb.cell (p:=⟨b,off+k * 4+2,none⟩) hl];exact h2,by rw [hb.cell (p:=⟨b,off+k * 4+3,none⟩) hl];exact h3⟩
theorem RdCx.own {w:World} {base:Nat} {l:List ChP} {v:Value} (h:w.ownsRow base 85 4 v l.length (l.flatMap cxCells)):RdCx w l v:=by
 rcases h.2 with ⟨rfl,h0⟩ | ⟨g,cap,cur,rfl,_⟩
 ·refine ⟨none,0,by rw [h0],fun k x hk => ?_⟩
  rw [List.eq_nil_of_length_eq_zero h0] at hk
  simp at hk
 ·refine ⟨_,cap,rfl,fun k x hk => ⟨g,0,rfl,?_⟩⟩
  have hfl:=flat_length cxCells 4 cxCells_len l
  have hkl:=(List.getElem?_eq_some_iff.1 hk).1
  have h0:=flat_at cxCells_len hk 0 _ rfl
  have h1:=flat_at cxCells_len hk 1 _ rfl
  have h2:=flat_at cxCells_len hk 2 _ rfl
  have h3:=flat_at cxCells_len hk 3 _ rfl
  refine ⟨?_,?_,?_,?_⟩
  ·rw [Nat.zero_add,h.cellAt (k * 4) (by omega)];exact h0
  ·rw [Nat.zero_add,h.cellAt (k * 4+1) (by omega)];exact h1
  ·rw [Nat.zero_add,h.cellAt (k * 4+2) (by omega)];exact h2
  ·rw [Nat.zero_add,h.cellAt (k * 4+3) (by omega)];exact h3
end Go.Proofs.YtcnpaciljmekcaaGreatDoor

namespace Go.Proofs.YtcnpaciljmekcaaGreatDoor
open Go.RowKit
theorem cell_new (w:World) (vs:List Value) (t:TypeId) {i:Nat} {u:Value} (h:vs[i]? = some u):(w.alloc (.cells vs.toArray t)).cell? ⟨w.heap.size,i,none⟩=some u:=by
 have e:(w.alloc (.cells vs.toArray t)).heap[w.heap.size]? = some (.cells vs.toArray t (0,0)):=by
  show (w.heap.push _)[w.heap.size]? = _
  simp
 unfold World.cell?
 simp only [e,Option.isSome_none,Bool.false_eq_true,if_false]
 simpa using h
theorem rdE_nil (w:World):RdE w [] (.slice none 0 0):=.mk none 0 [] (fun _ => .slice none 0 0) (fun j x h => by simp at h) (fun j x h => by simp at h)
theorem rdC_nil (w:World):RdC w [] (.slice none 0 0):=.mk none 0 [] (fun _ => .slice none 0 0) (fun _ => .slice none 0 0) (fun _ => .slice none 0 0) (fun j x h => by simp at h) (fun j x h => by simp at h) (fun j x h => by simp at h) (fun j x h => by simp at h)
theorem rdI_nil (w:World):RdI w [] (.slice none 0 0):=⟨none,0,rfl,⟨Nat.le_refl _,fun _ => rfl⟩,fun j d h => by simp at h⟩
theorem rdC_one {w:World} {B cap:Nat} {x:Con} {es dd ss:Value} (hc:∀ i u,(x.cells es dd ss)[i]? = some u→w.cell? ⟨B,i,none⟩=some u) (hr:RdN w x es dd ss):RdC w [x] (.slice (some ⟨B,0,none⟩) 1 cap):=by
 refine .mk (some ⟨B,0,none⟩) cap [x] (fun _ => es) (fun _ => dd) (fun _ => ss) (fun j y h => ?_) (fun j y h => ?_) (fun j y h => ?_) (fun j y h => ?_)
 all_goals
  cases j with
  | succ j => simp at h
  | zero => ?_
 all_goals (simp only [List.getElem?_cons_zero,Option.some.injEq] at h;subst h)
 ·exact ⟨hr.2.2.2,B,0,rfl,fun i u hu => by simpa using hc i u hu⟩
 ·exact hr.1
 ·exact hr.2.1
 ·exact hr.2.2.1
theorem rdE_two {w:World} {B cap:Nat} {x y:Ex} {s1 s2:Value} (hx8:x.k < 256) (hy8:y.k < 256) (hc:∀ i u,(x.cells s1 ++ y.cells s2)[i]? = some u→w.cell? ⟨B,i,none⟩=some u) (h1:RdE w x.sub s1) (h2:RdE w y.sub s2):RdE w [x,y] (.slice (some ⟨B,0,none⟩) 2 cap):=by
 refine .mk (some ⟨B,0,none⟩) cap [x,y] (fun j => if j=0 then s1 else s2) (fun j z h => ?_) (fun j z h => ?_)
 ·match j,h with
  | 0,h => cases h;exact ⟨hx8,B,0,rfl,hc 0 _ rfl,hc 1 _ rfl,hc 2 _ rfl,hc 3 _ rfl,hc 4 _ rfl⟩
  | 1,h => cases h;exact ⟨hy8,B,0,rfl,hc 5 _ rfl,hc 6 _ rfl,hc 7 _ rfl,hc 8 _ rfl,hc 9 _ rfl⟩
 ·match j,h with
  | 0,h => cases h;exact h1
  | 1,h => cases h;exact h2
end Go.Proofs.YtcnpaciljmekcaaGreatDoor

namespace Go.Proofs.YtcnpaciljmekcaaGreatDoor
open Go.RowKit
structure AOk (A:World) (n:Nat):Prop where
 r1:RdN A atC (.slice none 0 0) (.slice none 0 0) (.slice (some ⟨n,0,none⟩) 1 1)
 r2:RdN A callC (.slice none 0 0) (.slice (some ⟨n+1+1,0,none⟩) 3 3) (.slice (some ⟨n+1+1+1,0,none⟩) 1 1)
 b1:CBox A (n+1) atC (.slice none 0 0) (.slice none 0 0) (.slice (some ⟨n,0,none⟩) 1 1)
 b2:CBox A (n+1+1+1+1) callC (.slice none 0 0) (.slice (some ⟨n+1+1,0,none⟩) 3 3) (.slice (some ⟨n+1+1+1,0,none⟩) 1 1)
 s:LookS A
 p:LookP A
theorem AOk.low {A W:World} {n:Nat} (h:AOk A n) (hb:Below A.heap.size A W):AOk W n :=
 ⟨h.r1.frame hb,h.r2.frame hb,h.b1.low hb,h.b2.low hb,h.s.frame hb,h.p.frame hb⟩
end Go.Proofs.YtcnpaciljmekcaaGreatDoor

namespace Go.Proofs.YtcnpaciljmekcaaGreatDoor
open Go.RowKit
def mE:ByteArray:=⟨#[]⟩
def m0:ByteArray:=⟨#[48]⟩
def m1:ByteArray:=⟨#[49]⟩
def m2:ByteArray:=⟨#[50]⟩
def m3:ByteArray:=⟨#[51]⟩
def xCon (r:ByteArray):Ex:=.mk 1 r mE 0 []
end Go.Proofs.YtcnpaciljmekcaaGreatDoor

namespace Go.Proofs.YtcnpaciljmekcaaGreatDoor
open Go.RowKit
theorem andR_all {α:Type} {P:Fl→Prop} {a:Int × α} {f:α→Int × List Fl} (h:a.1=0→∀ g ∈ (f a.2).2,P g):∀ g ∈ (andR a [] f).2,P g:=by
 unfold andR
 split
 ·intro f hf;cases hf
 ·next h0 => exact h (Decidable.not_not.1 h0)
end Go.Proofs.YtcnpaciljmekcaaGreatDoor

namespace Go.Proofs.YtcnpaciljmekcaaGreatDoor
open Go.RowKit
set_option maxHeartbeats 1000000 in
set_option maxRecDepth 100000 in
theorem mflows_any (c:Con) (es dd ss:Value) (day:Int) (E:EvD) (w:World) (h:BfH c es dd ss E w) :
  Calls Tryz.prog 9 #[c.val es dd ss,.int .i64 day,E.val] w (BfP w (befR c day 100000 E.F E.C)):=by
 obtain ⟨a1,n1,rfl⟩:=h.rd.1.len
 obtain ⟨a2,n2,rfl⟩:=h.rd.2.1.len
 obtain ⟨a3,n3,rfl⟩:=h.rd.2.2.1.len
 obtain ⟨W0,hW0,hb0,hz0,bc,bv⟩:∃ W,(w.alloc (.cells #[.int .u8 c.k,.string c.fr,.string c.rc,.string c.nm,.int .u8 c.ex.k,.string c.ex.ra,.string c.ex.nm,.int .i64 c.ex.d,.slice a1 c.ex.sub.length n1,.int .i64 c.d,.slice a2 c.ds.length n2,.slice a3 c.sub.length n3] 29)).alloc (.cells #[.slice E.af E.F.length E.cf,.slice E.ac E.C.length E.cc] 33)=W∧Below w.heap.size w W∧w.heap.size+2≤W.heap.size∧BoxN W w.heap.size 29 (c.cells (.slice a1 c.ex.sub.length n1) (.slice a2 c.ds.length n2) (.slice a3 c.sub.length n3))∧BoxN W (w.heap.size+1) 33 [.slice E.af E.F.length E.cf,.slice E.ac E.C.length E.cc]:=by
  refine ⟨_,rfl,below_a2 _ _ _,by simp,?_⟩
  have hc:=BoxN.new w (c.cells (.slice a1 c.ex.sub.length n1) (.slice a2 c.ds.length n2) (.slice a3 c.sub.length n3)) 29
  have hv:=BoxN.new (w.alloc (.cells (c.cells (.slice a1 c.ex.sub.length n1) (.slice a2 c.ds.length n2) (.slice a3 c.sub.length n3)).toArray 29)) [.slice E.af E.F.length E.cf,.slice E.ac E.C.length E.cc] 33
  simp only [World.size_alloc] at hv
  exact ⟨hc.alloc _,hv⟩
 have HC:Hid (Calls Tryz.prog 24 #[.agg #[.int .u8 c.k,.string c.fr,.string c.rc,.string c.nm,.int .u8 c.ex.k,.string c.ex.ra,.string c.ex.nm,.int .i64 c.ex.d,.slice a1 c.ex.sub.length n1,.int .i64 c.d,.slice a2 c.ds.length n2,.slice a3 c.sub.length n3],.int .i64 day,.int .i64 100000,.agg #[.slice E.af E.F.length E.cf,.slice E.ac E.C.length E.cc]] W0 (BfP W0 (befR c day 100000 E.F E.C))):=before_any c _ _ _ day 100000 E W0 (h.frame hb0)
 have Hb0:=Lib.hid hb0
 have c0:W0.cell? ⟨w.heap.size,0,none⟩=some (.int .u8 c.k):=bc.cell (j:=0) rfl
 have c1:W0.cell? ⟨w.heap.size,1,none⟩=some (.string c.fr):=bc.cell (j:=1) rfl
 have c2:W0.cell? ⟨w.heap.size,2,none⟩=some (.string c.rc):=bc.cell (j:=2) rfl
 have c3:W0.cell? ⟨w.heap.size,3,none⟩=some (.string c.nm):=bc.cell (j:=3) rfl
 have c4:W0.cell? ⟨w.heap.size,4,none⟩=some (.int .u8 c.ex.k):=bc.cell (j:=4) rfl
 have c5:W0.cell? ⟨w.heap.size,5,none⟩=some (.string c.ex.ra):=bc.cell (j:=5) rfl
 have c6:W0.cell? ⟨w.heap.size,6,none⟩=some (.string c.ex.nm):=bc.cell (j:=6) rfl
 have c7:W0.cell? ⟨w.heap.size,7,none⟩=some (.int .i64 c.ex.d):=bc.cell (j:=7) rfl
 have c8:W0.cell? ⟨w.heap.size,8,none⟩=some (.slice a1 c.ex.sub.length n1):=bc.cell (j:=8) rfl
 have c9:W0.cell? ⟨w.heap.size,9,none⟩=some (.int .i64 c.d):=bc.cell (j:=9) rfl
 have c10:W0.cell? ⟨w.heap.size,10,none⟩=some (.slice a2 c.ds.length n2):=bc.cell (j:=10) rfl
 have c11:W0.cell? ⟨w.heap.size,11,none⟩=some (.slice a3 c.sub.length n3):=bc.cell (j:=11) rfl
 have v0:W0.cell? ⟨w.heap.size+1,0,none⟩=some (.slice E.af E.F.length E.cf):=bv.cell (j:=0) rfl
 have v1:W0.cell? ⟨w.heap.size+1,1,none⟩=some (.slice E.ac E.C.length E.cc):=bv.cell (j:=1) rfl
 show Calls _ _ #[.agg #[.int .u8 c.k,.string c.fr,.string c.rc,.string c.nm,.int .u8 c.ex.k,.string c.ex.ra,.string c.ex.nm,.int .i64 c.ex.d,.slice a1 c.ex.sub.length n1,.int .i64 c.d,.slice a2 c.ds.length n2,.slice a3 c.sub.length n3],.int .i64 day,.agg #[.slice E.af E.F.length E.cf,.slice E.ac E.C.length E.cc]] _ _
 generalize befR c day 100000 E.F E.C=R at HC ⊢
 clear h bc bv hb0
 show Calls _ _ _ _ (fun e w' => ∃ ad cap,e = .returned (.tuple #[.slice ad R.2.length cap,.int .i64 R.1])∧Below w.heap.size w w'∧R.2.length≤cap∧(ad=none→cap=0)∧Rd Fl.cells 5 w' ad R.2)
 go_enter Tryz.func9,Tryz.ntmps9
 go_upto_region 1 with (fail)
 clear hW0
 go_wp2_with (go_at_call 24;refine HC.out.mono ?_;rintro e w1 ⟨ad,cap,rfl,hb1,q⟩)
 go_ret2
 exact ⟨_,_,rfl,Hb0.out.trans (hb1.mono Hb0.out.size),q⟩
end Go.Proofs.YtcnpaciljmekcaaGreatDoor
