/- A part. -/
import Derived.Deep.Quiet
import Derived.Test.YthdeijdimfjceaaGreatDoorA07
import Derived.Laws.EntriesVeiled
import Derived.Maps.Keyed
import Derived.Laws.IdiomMaps
import Derived.LaidMore
import Derived.MakeChecks
import Derived.OpenShut
import Derived.WalkArith
import Derived.ProofKit
namespace Go.Proofs.YthdeijdimfjceaaGreatDoor
open Go.RowKit
def Ext (w W:World):Prop:=Below w.heap.size w W
theorem Ext.cell {w W:World} (h:Ext w W) {b o:Nat} {v:Value} (hc:w.cell? ⟨b,o,none⟩=some v):W.cell? ⟨b,o,none⟩=some v:=by
 rw [Below.cell h (p:=⟨b,o,none⟩) (World.block_lt_of_cell? w _ hc)];exact hc
theorem Ext.below {w W:World} (h:Ext w W):Below w.heap.size w W:=h
theorem ext_calls {P:Program} {f:FuncId} {args:Array Value} {v:Value} {w:World} (h:∀ W,Calls P f args W fun e w' => e = .returned v∧Below W.heap.size W w') (W:World) (hW:Ext w W) :
  Calls P f args W fun e w'' => e = .returned v∧Ext w w'' :=
 (h W).mono fun _ _ ⟨he,hb⟩ => ⟨he,Below.trans hW (hb.mono (Below.size hW))⟩
theorem ext_callsE {P:Program} {f:FuncId} {args:Array Value} {v:Value} {w:World} (h:∀ W,Ext w W→Calls P f args W fun e w' => e = .returned v∧Below W.heap.size W w') (W:World) (hW:Ext w W) :
  Calls P f args W fun e w'' => e = .returned v∧Ext w w'' :=
 (h W hW).mono fun _ _ ⟨he,hb⟩ => ⟨he,Below.trans hW (hb.mono (Below.size hW))⟩
theorem ext_same {P:Program} {f:FuncId} {args:Array Value} {v:Value} {w:World} (h:∀ W,Calls P f args W fun e w' => e = .returned v∧W=w') (W:World) (hW:Ext w W) :
  Calls P f args W fun e w'' => e = .returned v∧Ext w w'' :=
 (h W).mono fun _ _ ⟨he,hb⟩ => ⟨he,hb ▸ hW⟩
theorem wp_region_ext {P:Program} {id:Nat} {Q:Exit→Act→World→Prop} {a:Act} {w:World} {l:List Oper} (F:World→Prop) (hF:∀ W,Ext w W→F W)
  (hm:P.follows .mixedOrders=true) (hB:Region.lexB .any l.toArray=true)
  (h:(∀ W,Ext w W→F W)→wpQuiet P l.toArray (Ext w) (fun a' => ∀ w',Ext w w'→Q .normal a' w') l a):(Code.region id l.toArray true).wp P Q a w :=
 wp_region_quiet (C:=Ext w) hm hB (Below.drew (Below.refl _ _)) (by simpa using h hF)
end Go.Proofs.YthdeijdimfjceaaGreatDoor

namespace Go.Proofs.YthdeijdimfjceaaGreatDoor
open Go.RowKit
def ShapeAt (w:World) (bm:Nat) (W:World) (k:Nat):Option (List Nat × Nat)→Prop
 | none => (Instr.lookup 207 (.map (some bm)) (.int .u8 (k:Int)) true).run Tryz.prog W = .ok (.tuple #[.agg #[.slice none 0 0,.int .u8 0],.bool false]) W
 | some (ps,own) => ∃ b off cap,(Instr.lookup 207 (.map (some bm)) (.int .u8 (k:Int)) true).run Tryz.prog W = .ok (.tuple #[.agg #[.slice (some ⟨b,off,none⟩) ps.length cap,.int .u8 (own:Int)],.bool true]) W ∧
   ∀ (j p:Nat),ps[j]? = some p→w.cell? ⟨b,off+j,none⟩=some (.int .u8 (p:Int))
def LookS (w:World):Prop:=∃ bm,w.cell? ⟨1,0,none⟩=some (.map (some bm))∧∀ W,Below w.heap.size w W→∀ k,k < 256→ShapeAt w bm W k (shapeOf k)
theorem LookS.frame {w w':World} (h:LookS w) (hb:Below w.heap.size w w'):LookS w':=by
 obtain ⟨bm,hc,h2⟩:=h
 refine ⟨bm,by rw [hb.cell (p:=⟨1,0,none⟩) (World.block_lt_of_cell? w _ hc)];exact hc,fun W hW k hk => ?_⟩
 have h3:=h2 W (hb.trans (hW.mono hb.size)) k hk
 cases hs:shapeOf k with
 | none => rw [hs] at h3;exact h3
 | some q =>
  obtain ⟨ps,own⟩:=q
  rw [hs] at h3
  obtain ⟨b,off,cap,h4,h5⟩:=h3
  refine ⟨b,off,cap,h4,fun j p hj => ?_⟩
  have h6:=h5 j p hj
  rw [hb.cell (p:=⟨b,off+j,none⟩) (World.block_lt_of_cell? w _ h6)]
  exact h6
theorem sorted_no_parts {ra nm:ByteArray} {d:Int} {l ps:List Nat} {own:Nat} (h : ¬ (ra.size=0∧nm.size=0∧d=0∧l=ps)):partSort ra nm d l ps own=0:=by unfold partSort;rw [if_neg h]
theorem sorted_parts {ra nm:ByteArray} {d:Int} {l ps:List Nat} {own:Nat} (h:ra.size=0∧nm.size=0∧d=0∧l=ps):partSort ra nm d l ps own=own:=by unfold partSort;rw [if_pos h]
theorem take_succ_eq {l ps:List Nat} {k a:Nat} (h:l.take k=ps.take k) (h1:l[k]? = some a) (h2:ps[k]? = some a):l.take (k+1)=ps.take (k+1):=by
 rw [take_snoc_get h1,take_snoc_get h2,h]
theorem sorts_get {xs:List Ex} {k:Nat} {y:Ex} (h:xs[k]? = some y):(Ex.sorts xs)[k]? = some y.sort:=by
 rw [Ex.sorts_eq,List.getElem?_map,h];rfl
set_option maxHeartbeats 2000000 in
set_option maxRecDepth 100000 in
theorem sorted_core (k:Nat) (ra nm:ByteArray) (d:Int) (xs:List Ex) (ad:Option Addr) (cap:Nat) (ps:List Nat) (own bm b off capp:Nat) (w:World) (hn:xs.length≤2000000)
  (HI:Hid (∀ y,y ∈ xs→∀ (s:Value) (W:World),RdE W y.sub s→LookS W→Calls Tryz.prog 112 #[y.val s] W fun e w' => e = .returned (.int .u8 ((y.sort:Nat):Int))∧Below W.heap.size W w'))
  (HS:Hid (RdE w xs (.slice ad xs.length cap))) (HL:Hid (LookS w)) (hm:w.cell? ⟨1,0,none⟩=some (.map (some bm)))
  (hsh:(Instr.lookup 207 (.map (some bm)) (.int .u8 (k:Int)) true).run Tryz.prog (w.alloc (.cells #[.int .u8 (k:Int),.string ra,.string nm,.int .i64 d,.slice ad xs.length cap] 47)) = .ok (.tuple #[.agg #[.slice (some ⟨b,off,none⟩) ps.length capp,.int .u8 (own:Int)],.bool true]) (w.alloc (.cells #[.int .u8 (k:Int),.string ra,.string nm,.int .i64 d,.slice ad xs.length cap] 47)))
  (HC:Hid (∀ (j p:Nat),ps[j]? = some p→w.cell? ⟨b,off+j,none⟩=some (.int .u8 (p:Int)))) :
  Calls Tryz.prog 112 #[.agg #[.int .u8 (k:Int),.string ra,.string nm,.int .i64 d,.slice ad xs.length cap]] w fun e w' => e = .returned (.int .u8 ((partSort ra nm d (Ex.sorts xs) ps own:Nat):Int))∧Below w.heap.size w w':=by
 have hmb:1 < w.heap.size:=World.block_lt_of_cell? w _ hm
 have hb0:=below_a2 w (.cells #[.int .u8 (k:Int),.string ra,.string nm,.int .i64 d,.slice ad xs.length cap] 47) (.cells #[.slice (some ⟨b,off,none⟩) ps.length capp,.int .u8 (own:Int)] 205)
 by_cases hgood:ra.size=0∧nm.size=0∧d=0∧xs.length=ps.length
 ·obtain ⟨g1,g2,rfl,g4⟩:=hgood
  have HX:Hid (Ex.sorts xs ≠ ps→partSort ra nm 0 (Ex.sorts xs) ps own=0):=Lib.hid (fun h => sorted_no_parts (fun hh => h hh.2.2.2))
  have HY:Hid (Ex.sorts xs=ps→partSort ra nm 0 (Ex.sorts xs) ps own=own):=Lib.hid (fun h => sorted_parts ⟨g1,g2,rfl,h⟩)
  rw [sz_nil] at g1 g2
  generalize partSort ra nm 0 (Ex.sorts xs) ps own=R at *
  rw [← g4] at hsh hb0
  have HG:=Lib.hid g4
  clear g4
  go_enter Tryz.func112,Tryz.ntmps112
  go_wp2_with fail
  go_loopw [43] (fun i wr => ∃ (j:Nat),j≤xs.length∧i = .int .i64 (j:Int)∧Hid ((Ex.sorts xs).take j=ps.take j)∧Below w.heap.size w wr∧wr.cell? ⟨w.heap.size+1,0,none⟩=some (.slice (some ⟨b,off,none⟩) xs.length capp)∧wr.cell? ⟨w.heap.size+1,1,none⟩=some (.int .u8 (own:Int))) (fun i _ => xs.length - (intOf i).toNat)
  case atStart => exact ⟨0,Nat.zero_le _,rfl,Lib.hid (by simp),hb0,by go_simp,by go_simp⟩
  case round =>
   clear hb0
   obtain ⟨j,hj,rfl,HT,hbel,q0,q1⟩:=hrel
   by_cases hlt:j < xs.length
   ·obtain ⟨y,hy⟩:∃ y,xs[j]? = some y:=⟨_,List.getElem?_eq_getElem hlt⟩
    obtain ⟨p,hp⟩:∃ p,ps[j]? = some p:=⟨_,List.getElem?_eq_getElem (by have:=HG.out;omega)⟩
    obtain ⟨b',off',s',rfl,c0,c1,c2,c3,c4,hs',hk8⟩:=(HS.out.frame hbel).at hy
    obtain ⟨ad',cap',rfl⟩:=hs'.len
    have hpc:=HC.out j p hp
    have hbb:b < w.heap.size:=World.block_lt_of_cell? w _ hpc
    have hpw:wr.cell? ⟨b,off+j,none⟩=some (.int .u8 (p:Int)):=by rw [hbel.cell (p:=⟨b,off+j,none⟩) hbb];exact hpc
    have hbb2:b < wr.heap.size:=by have:=hbel.size;omega
    have hblk:b' < wr.heap.size:=World.block_lt_of_cell? wr _ c0
    have hbx:w.heap.size+1 < wr.heap.size:=World.block_lt_of_cell? wr _ q0
    have hzw:=hbel.size
    have hk1:(0:Int)≤(j:Int):=by omega
    have hk2:(j:Int) < (xs.length:Int):=by omega
    have HZ:Hid (∀ W,Ext (wr.alloc (.cells #[.int .u8 (y.k:Int),.string y.ra,.string y.nm,.int .i64 y.d,.slice ad' y.sub.length cap'] 47)) W→Calls Tryz.prog 112 #[.agg #[.int .u8 (y.k:Int),.string y.ra,.string y.nm,.int .i64 y.d,.slice ad' y.sub.length cap']] W fun e w' => e = .returned (.int .u8 ((y.sort:Nat):Int))∧Below W.heap.size W w') :=
     Lib.hid fun W hW => HI.out y (List.mem_of_getElem? hy) _ W (hs'.frame ((below_a1 wr _).trans (Below.mono hW (by simp)))) (HL.out.frame ((hbel.alloc hzw _).trans (Below.mono hW (by simp;omega))))
    have HYs:Hid ((Ex.sorts xs)[j]? = some y.sort):=Lib.hid (sorts_get hy)
    have HPs:=Lib.hid hp
    clear hy hs' hp hpc
    go_wp2
    refine wp_region_ext (fun W' => W'.cell? ⟨wr.heap.size,0,none⟩=some (.int .u8 (y.k:Int))∧W'.cell? ⟨wr.heap.size,1,none⟩=some (.string y.ra)∧W'.cell? ⟨wr.heap.size,2,none⟩=some (.string y.nm)∧W'.cell? ⟨wr.heap.size,3,none⟩=some (.int .i64 y.d)∧W'.cell? ⟨wr.heap.size,4,none⟩=some (.slice ad' y.sub.length cap')∧W'.cell? ⟨w.heap.size+1,0,none⟩=some (.slice (some ⟨b,off,none⟩) xs.length capp)∧W'.cell? ⟨b,off+j,none⟩=some (.int .u8 (p:Int))) (fun W' hW' => ⟨hW'.cell (by go_simp),hW'.cell (by go_simp),hW'.cell (by go_simp),hW'.cell (by go_simp),hW'.cell (by go_simp),hW'.cell (by go_simp),hW'.cell (by go_simp)⟩) (by kernel_rfl) (by kernel_rfl) ?_
    intro HCW
    repeat (first | go_big_quiet_skip | (go_big_quiet_want;apply Exists.intro;refine ⟨fun W hW => ?_,?_⟩;(focus (obtain ⟨p0,p1,p2,p3,p4,p5,p6⟩:=HCW W hW;go_simp;first | done | rfl | with_reducible exact ext_callsE HZ.out W hW));(simp only [Act.put,List.setIfInBounds_toArray,List.set_cons_zero,List.set_cons_succ]);go_big_quiet_on))
    refine wpQuiet_nil ?_
    intro W hW
    have q2:W.cell? ⟨w.heap.size+1,0,none⟩=some (.slice (some ⟨b,off,none⟩) xs.length capp):=hW.cell (by go_simp)
    have q3:W.cell? ⟨w.heap.size+1,1,none⟩=some (.int .u8 (own:Int)):=hW.cell (by go_simp)
    have hb3:Below w.heap.size w W:=(hbel.alloc hzw _).trans (Below.mono hW (by simp;omega))
    clear hW HCW HZ hbel q0 q1 hpw c0 c1 c2 c3 c4
    by_cases hyp:y.sort=p
    ·have HN:Hid ((Ex.sorts xs).take (j+1)=ps.take (j+1)):=Lib.hid (take_succ_eq HT.out (by rw [HYs.out,hyp]) HPs.out)
     have hyp':((y.sort:Int) == (p:Int))=true:=by rw [hyp];simp
     have hyp2:((y.sort:Int) != (p:Int))=false:=by rw [hyp];simp
     go_wp2
     go_roundw
     case rel => exact ⟨j+1,by omega,by go_num,HN,hb3,q2,q3⟩
     case measure => simp [intOf];omega
    ·have HF:Hid (R=0):=Lib.hid (HX.out (fun h => by
      have h1:=HYs.out
      rw [h,HPs.out] at h1
      exact hyp (Option.some.inj h1).symm))
     have hyp2:((y.sort:Int) != (p:Int))=true:=by rw [bne_iff_ne];omega
     go_wp2
     go_ret
     exact ⟨by rw [HF.out];rfl,hb3⟩
   ·obtain rfl:j=xs.length:=by omega
    have HF:Hid (R=own):=Lib.hid (HY.out (by
     have h:=HT.out
     rw [HG.out,List.take_length,List.take_of_length_le (by rw [Ex.sorts_length,HG.out];exact Nat.le_refl _)] at h
     exact h))
    go_wp2
    go_ret
    exact ⟨by rw [HF.out];rfl,hbel⟩
 ·have HF:Hid (partSort ra nm d (Ex.sorts xs) ps own=0):=Lib.hid (sorted_no_parts (fun h => hgood ⟨h.1,h.2.1,h.2.2.1,by rw [← Ex.sorts_length xs,h.2.2.2]⟩))
  generalize partSort ra nm d (Ex.sorts xs) ps own=R at *
  go_enter Tryz.func112,Tryz.ntmps112
  go_wp2_with fail
  all_goals first
   | (go_ret;exact ⟨by rw [HF.out];rfl,hb0⟩)
   | (exfalso;exact hgood ⟨(sz_nil _).2 (by assumption),(sz_nil _).2 (by assumption),by first | assumption | (rename_i hq _;simpa using hq) | simp_all,by omega⟩)
set_option maxRecDepth 100000 in
theorem sorted_any:∀ (N:Nat) (x:Ex) (s:Value) (w:World),x.bulk≤N→x.bulk≤2000000→RdE w x.sub s→x.k < 256→LookS w →
  Calls Tryz.prog 112 #[x.val s] w fun e w' => e = .returned (.int .u8 ((x.sort:Nat):Int))∧Below w.heap.size w w':=by
 intro N
 induction N with
 | zero =>
  intro x s w h0
  rw [Ex.bulk_eq] at h0
  omega
 | succ N ih =>
  intro x s w hN hB hs hk8 hL
  obtain ⟨ad,cap,rfl⟩:=hs.len
  have HS:=Lib.hid hs
  have HI:=Lib.hid ih
  have HL:=Lib.hid hL
  have hbq:=x.bulk_eq
  have hlen:=Ex.bulks_len x.sub
  have hlt0:=x.sub_lt
  have hn:x.sub.length≤2000000:=by omega
  have hr1:x.ra.size≤2000000:=by omega
  have hr2:x.nm.size≤2000000:=by omega
  have hb0:=below_a1 w (.cells #[.int .u8 x.k,.string x.ra,.string x.nm,.int .i64 x.d,.slice ad x.sub.length cap] 47)
  have hso:=x.sort_eq
  unfold sortOf at hso
  rw [Ex.sorts_length] at hso
  obtain ⟨bm,hm,hall⟩:=hL
  have hsh:=hall _ hb0 x.k hk8
  have hmb:1 < w.heap.size:=World.block_lt_of_cell? w _ hm
  clear hs ih hbq hall
  cases hsk:shapeOf x.k with
  | none =>
   rw [hsk] at hsh hso
   simp only [] at hso
   simp only [ShapeAt] at hsh
   have HLf:=Lib.hid (leaf_core x.k x.sub.length x.ra x.nm x.d ad cap)
   rw [hso]
   unfold Ex.val
   generalize hX:leafSort x.k x.ra x.nm x.d x.sub.length=LS at *
   clear hX hso hsk
   go_enter Tryz.func112,Tryz.ntmps112
   go_wp2_with fail
   refine (HLf.out _ hn hr1 hr2).mono ?_
   rintro e w1 ⟨rfl,hb1⟩
   have hb2:Below w.heap.size w w1:=(below_a2 w _ _).trans (hb1.mono (by simp;omega))
   clear hb1
   go_wp2
   go_ret
   exact ⟨rfl,hb2⟩
  | some q =>
   obtain ⟨ps,own⟩:=q
   rw [hsk] at hsh hso
   simp only [] at hso
   obtain ⟨b,off,capp,h4,h5⟩:=hsh
   rw [hso]
   exact sorted_core x.k x.ra x.nm x.d x.sub ad cap ps own bm b off capp w hn (Lib.hid fun y hy s W hr hl => by
    have hlt:=Ex.mem_lt hy
    have hk:y.k < 256:=by
     obtain ⟨j,hj⟩:=List.mem_iff_getElem?.1 hy
     obtain ⟨_,_,_,_,_,_,_,_,_,_,h⟩:=HS.out.at hj
     exact h
    exact HI.out y s W (by omega) (by omega) hr hk hl) HS HL hm h4 (Lib.hid h5)
end Go.Proofs.YthdeijdimfjceaaGreatDoor

namespace Go.Proofs.YthdeijdimfjceaaGreatDoor
open Go.RowKit
theorem Ex.err_many {x:Ex} (h:500 < x.size∨60 < x.depth):x.err=4:=by unfold Ex.err;rw [if_pos h]
theorem Ex.err_bad {x:Ex} (h : ¬ (500 < x.size∨60 < x.depth)) (h1:x.sort=0):x.err=8:=by unfold Ex.err;rw [if_neg h,if_pos h1]
theorem Ex.err_ok {x:Ex} (h : ¬ (500 < x.size∨60 < x.depth)) (h1:x.sort ≠ 0):x.err=0:=by unfold Ex.err;rw [if_neg h,if_neg h1]
set_option maxHeartbeats 1000000 in
set_option maxRecDepth 100000 in
theorem ochk_any (x:Ex) (s:Value) (w:World) (hB:x.bulk≤2000000) (hs:RdE w x.sub s) (hk8:x.k < 256) (hL:LookS w) :
  Calls Tryz.prog 111 #[x.val s] w fun e w' => e = .returned (.int .i64 x.err)∧Below w.heap.size w w':=by
 obtain ⟨ad,cap,rfl⟩:=hs.len
 have hb0:=below_a1 w (.cells #[.int .u8 x.k,.string x.ra,.string x.nm,.int .i64 x.d,.slice ad x.sub.length cap] 47)
 have HE:Hid (∀ W,Below w.heap.size w W→RdE W x.sub (.slice ad x.sub.length cap)∧LookS W):=Lib.hid fun W hW => ⟨hs.frame hW,hL.frame hW⟩
 have H1:=Lib.hid (osize_any x.bulk x _ _ (Nat.le_refl _) hB (HE.out _ hb0).1)
 have hsz:=x.size_le
 have hdp:=x.depth_le
 clear hs hL
 have hkeep:∀ (A B:World),Below A.heap.size A B→(∀ (j:Nat) (u:Value),A.cell? ⟨w.heap.size,j,none⟩=some u→B.cell? ⟨w.heap.size,j,none⟩=some u):=fun A B hb j u h => by
  rw [hb.cell (p:=⟨w.heap.size,j,none⟩) (World.block_lt_of_cell? A _ h)];exact h
 have HK:=Lib.hid hkeep
 clear hkeep
 have HM:=Lib.hid (Ex.err_many (x:=x))
 have HB:=Lib.hid (Ex.err_bad (x:=x))
 have HO:=Lib.hid (Ex.err_ok (x:=x))
 generalize x.err=R at *
 unfold Ex.val at H1 ⊢
 go_enter Tryz.func111,Tryz.ntmps111
 go_wp2_with fail
 refine H1.out.mono ?_
 rintro e w1 ⟨rfl,hb1⟩
 have hb2:Below w.heap.size w w1:=hb0.trans (hb1.mono (by simp))
 have c0:=HK.out _ _ hb1 0 (.int .u8 x.k) (by go_simp)
 have c1:=HK.out _ _ hb1 1 (.string x.ra) (by go_simp)
 have c2:=HK.out _ _ hb1 2 (.string x.nm) (by go_simp)
 have c3:=HK.out _ _ hb1 3 (.int .i64 x.d) (by go_simp)
 have c4:=HK.out _ _ hb1 4 (.slice ad x.sub.length cap) (by go_simp)
 clear hb1 H1 hb0
 have H2:=Lib.hid (odepth_any x.bulk x _ 60 w1 (Nat.le_refl _) hB (by omega) (HE.out _ hb2).1)
 unfold Ex.val at H2
 by_cases hsz5:500 < x.size
 ·have HF:=Lib.hid (HM.out (.inl hsz5))
  have t1:(500:Int) < (x.size:Int):=by omega
  go_wp2
  go_ret
  exact ⟨by rw [HF.out];rfl,hb2⟩
 ·have t1:decide ((500:Int) < (x.size:Int))=false:=by rw [decide_eq_false_iff_not];omega
  have t1':decide (500 < x.size)=false:=by rw [decide_eq_false_iff_not];omega
  obtain ⟨m,hm,hmd⟩:∃ m:Nat,min (60+1) x.depth=m∧(60 < m ↔ 60 < x.depth):=⟨_,rfl,by omega⟩
  rw [hm] at H2
  go_wp2_with fail
  refine H2.out.mono ?_
  rintro e w2 ⟨rfl,hb3⟩
  have hb4:Below w.heap.size w w2:=hb2.trans (hb3.mono hb2.size)
  have d0:=HK.out _ _ hb3 0 _ c0
  have d1:=HK.out _ _ hb3 1 _ c1
  have d2:=HK.out _ _ hb3 2 _ c2
  have d3:=HK.out _ _ hb3 3 _ c3
  have d4:=HK.out _ _ hb3 4 _ c4
  clear hb3 H2 hb2 c0 c1 c2 c3 c4
  have H3:=Lib.hid (sorted_any x.bulk x _ w2 (Nat.le_refl _) hB (HE.out _ hb4).1 hk8 (HE.out _ hb4).2)
  unfold Ex.val at H3
  by_cases hdp6:60 < x.depth
  ·have HF:=Lib.hid (HM.out (.inr hdp6))
   have t2:(60:Int) < (m:Int):=by omega
   go_wp2
   go_ret
   exact ⟨by rw [HF.out];rfl,hb4⟩
  ·have t2:decide ((60:Int) < (m:Int))=false:=by rw [decide_eq_false_iff_not];omega
   have t2':decide (60 < m)=false:=by rw [decide_eq_false_iff_not];omega
   go_wp2_with fail
   refine H3.out.mono ?_
   rintro e w3 ⟨rfl,hb5⟩
   have hb6:Below w.heap.size w w3:=hb4.trans (hb5.mono hb4.size)
   clear hb5 H3 hb4 d0 d1 d2 d3 d4
   by_cases hT:x.sort=0
   ·have HF:=Lib.hid (HB.out (by omega) hT)
    have t3:((x.sort:Int) == 0)=true:=by rw [hT];rfl
    go_wp2
    go_ret
    exact ⟨by rw [HF.out];rfl,hb6⟩
   ·have HF:=Lib.hid (HO.out (by omega) hT)
    have t3:((x.sort:Int) == 0)=false:=by simpa using hT
    go_wp2
    go_ret
    exact ⟨by rw [HF.out];rfl,hb6⟩
set_option maxHeartbeats 1000000 in
set_option maxRecDepth 100000 in
theorem onum_any (x:Ex) (s:Value) (w:World) (hB:x.bulk≤2000000) (hs:RdE w x.sub s) (hk8:x.k < 256) (hL:LookS w) :
  Calls Tryz.prog 84 #[x.val s] w fun e w' => e = .returned (.bool (x.isA 1))∧Below w.heap.size w w':=by
 obtain ⟨ad,cap,rfl⟩:=hs.len
 have hb0:=below_a1 w (.cells #[.int .u8 x.k,.string x.ra,.string x.nm,.int .i64 x.d,.slice ad x.sub.length cap] 47)
 have HE:Hid (∀ W,Below w.heap.size w W→RdE W x.sub (.slice ad x.sub.length cap)∧LookS W):=Lib.hid fun W hW => ⟨hs.frame hW,hL.frame hW⟩
 have H1:=Lib.hid (ochk_any x _ _ hB (HE.out _ hb0).1 hk8 (HE.out _ hb0).2)
 clear hs hL
 have HA:Hid (x.isA 1=(decide (x.err=0) && decide (x.sort=1))):=Lib.hid rfl
 unfold Ex.val at H1 ⊢
 generalize x.isA 1=R at *
 generalize x.err=E at *
 go_enter Tryz.func84,Tryz.ntmps84
 go_wp2_with fail
 refine H1.out.mono ?_
 rintro e w1 ⟨rfl,hb1⟩
 have hb2:Below w.heap.size w w1:=hb0.trans (hb1.mono (by simp))
 have c0:w1.cell? ⟨w.heap.size,0,none⟩=some (.int .u8 x.k):=by rw [hb1.cell (p:=⟨w.heap.size,0,none⟩) (by simp)];go_simp
 have c1:w1.cell? ⟨w.heap.size,1,none⟩=some (.string x.ra):=by rw [hb1.cell (p:=⟨w.heap.size,1,none⟩) (by simp)];go_simp
 have c2:w1.cell? ⟨w.heap.size,2,none⟩=some (.string x.nm):=by rw [hb1.cell (p:=⟨w.heap.size,2,none⟩) (by simp)];go_simp
 have c3:w1.cell? ⟨w.heap.size,3,none⟩=some (.int .i64 x.d):=by rw [hb1.cell (p:=⟨w.heap.size,3,none⟩) (by simp)];go_simp
 have c4:w1.cell? ⟨w.heap.size,4,none⟩=some (.slice ad x.sub.length cap):=by rw [hb1.cell (p:=⟨w.heap.size,4,none⟩) (by simp)];go_simp
 clear hb1 H1 hb0
 have H3:=Lib.hid (sorted_any x.bulk x _ w1 (Nat.le_refl _) hB (HE.out _ hb2).1 hk8 (HE.out _ hb2).2)
 unfold Ex.val at H3
 generalize x.sort=T at *
 by_cases hE:E=0
 ·have t0:(E == 0)=true:=by rw [hE];rfl
  go_wp2_with fail
  refine H3.out.mono ?_
  rintro e w3 ⟨rfl,hb5⟩
  have hb6:Below w.heap.size w w3:=hb2.trans (hb5.mono hb2.size)
  clear hb5 H3 hb2 c0 c1 c2 c3 c4
  by_cases hT:T=1
  ·have HF:Hid (R=true):=Lib.hid (by rw [HA.out,hE,hT];rfl)
   have t3:((T:Int) == 1)=true:=by rw [hT];rfl
   go_wp2
   go_ret
   exact ⟨ret_bool' HF.out.symm,hb6⟩
  ·have HF:Hid (R=false):=Lib.hid (by rw [HA.out,hE];simpa using hT)
   have t3:((T:Int) == 1)=false:=by simp;omega
   go_wp2
   go_ret
   exact ⟨ret_bool' HF.out.symm,hb6⟩
 ·have HF:Hid (R=false):=Lib.hid (by rw [HA.out];simp [hE])
  have t0:(E == 0)=false:=by simpa using hE
  go_wp2
  go_ret
  exact ⟨ret_bool' HF.out.symm,hb2⟩
set_option maxHeartbeats 1000000 in
set_option maxRecDepth 100000 in
theorem otruth_any (x:Ex) (s:Value) (w:World) (hB:x.bulk≤2000000) (hs:RdE w x.sub s) (hk8:x.k < 256) (hL:LookS w) :
  Calls Tryz.prog 85 #[x.val s] w fun e w' => e = .returned (.bool (x.isA 2))∧Below w.heap.size w w':=by
 obtain ⟨ad,cap,rfl⟩:=hs.len
 have hb0:=below_a1 w (.cells #[.int .u8 x.k,.string x.ra,.string x.nm,.int .i64 x.d,.slice ad x.sub.length cap] 47)
 have HE:Hid (∀ W,Below w.heap.size w W→RdE W x.sub (.slice ad x.sub.length cap)∧LookS W):=Lib.hid fun W hW => ⟨hs.frame hW,hL.frame hW⟩
 have H1:=Lib.hid (ochk_any x _ _ hB (HE.out _ hb0).1 hk8 (HE.out _ hb0).2)
 clear hs hL
 have HA:Hid (x.isA 2=(decide (x.err=0) && decide (x.sort=2))):=Lib.hid rfl
 unfold Ex.val at H1 ⊢
 generalize x.isA 2=R at *
 generalize x.err=E at *
 go_enter Tryz.func85,Tryz.ntmps85
 go_wp2_with fail
 refine H1.out.mono ?_
 rintro e w1 ⟨rfl,hb1⟩
 have hb2:Below w.heap.size w w1:=hb0.trans (hb1.mono (by simp))
 have c0:w1.cell? ⟨w.heap.size,0,none⟩=some (.int .u8 x.k):=by rw [hb1.cell (p:=⟨w.heap.size,0,none⟩) (by simp)];go_simp
 have c1:w1.cell? ⟨w.heap.size,1,none⟩=some (.string x.ra):=by rw [hb1.cell (p:=⟨w.heap.size,1,none⟩) (by simp)];go_simp
 have c2:w1.cell? ⟨w.heap.size,2,none⟩=some (.string x.nm):=by rw [hb1.cell (p:=⟨w.heap.size,2,none⟩) (by simp)];go_simp
 have c3:w1.cell? ⟨w.heap.size,3,none⟩=some (.int .i64 x.d):=by rw [hb1.cell (p:=⟨w.heap.size,3,none⟩) (by simp)];go_simp
 have c4:w1.cell? ⟨w.heap.size,4,none⟩=some (.slice ad x.sub.length cap):=by rw [hb1.cell (p:=⟨w.heap.size,4,none⟩) (by simp)];go_simp
 clear hb1 H1 hb0
 have H3:=Lib.hid (sorted_any x.bulk x _ w1 (Nat.le_refl _) hB (HE.out _ hb2).1 hk8 (HE.out _ hb2).2)
 unfold Ex.val at H3
 generalize x.sort=T at *
 by_cases hE:E=0
 ·have t0:(E == 0)=true:=by rw [hE];rfl
  go_wp2_with fail
  refine H3.out.mono ?_
  rintro e w3 ⟨rfl,hb5⟩
  have hb6:Below w.heap.size w w3:=hb2.trans (hb5.mono hb2.size)
  clear hb5 H3 hb2 c0 c1 c2 c3 c4
  by_cases hT:T=2
  ·have HF:Hid (R=true):=Lib.hid (by rw [HA.out,hE,hT];rfl)
   have t3:((T:Int) == 2)=true:=by rw [hT];rfl
   go_wp2
   go_ret
   exact ⟨ret_bool' HF.out.symm,hb6⟩
  ·have HF:Hid (R=false):=Lib.hid (by rw [HA.out,hE];simpa using hT)
   have t3:((T:Int) == 2)=false:=by simp;omega
   go_wp2
   go_ret
   exact ⟨ret_bool' HF.out.symm,hb6⟩
 ·have HF:Hid (R=false):=Lib.hid (by rw [HA.out];simp [hE])
  have t0:(E == 0)=false:=by simpa using hE
  go_wp2
  go_ret
  exact ⟨ret_bool' HF.out.symm,hb2⟩
end Go.Proofs.YthdeijdimfjceaaGreatDoor

namespace Go.Proofs.YthdeijdimfjceaaGreatDoor
open Go.RowKit
set_option maxRecDepth 100000 in
theorem has_any (p part:Int) (r:Bool) (hr:(bits BinOp.and IntKind.i64 p part != 0)=r) (B:Nat) (w:World) (hc:w.cell? ⟨B,0,none⟩=some (.int .i64 p)) :
  Calls Tryz.prog 82 #[.int .i64 part,.pointer (some ⟨B,0,none⟩)] w fun e w' => e = .returned (.bool r)∧w=w':=by
 have hB:B < w.heap.size:=World.block_lt_of_cell? w _ hc
 go_enter Tryz.func82,Tryz.ntmps82
 go_wp2
 go_ret
 exact ⟨rfl,rfl⟩
def wordB (r:Bool) (s:ByteArray):Bool:=if r=true then isNm (bl s) else decide (s.size=0)
set_option maxRecDepth 100000 in
theorem word_any (p part:Int) (r:Bool) (hr:(bits BinOp.and IntKind.i64 p part != 0)=r) (s:ByteArray) (hl:s.size≤2000000) (B B2:Nat) (w:World) (hc:w.cell? ⟨B,0,none⟩=some (.int .i64 p))
  (hc2:w.cell? ⟨B2,0,none⟩=some (.func (.func 82) #[] #[.pointer (some ⟨B,0,none⟩)])) :
  Calls Tryz.prog 83 #[.int .i64 part,.string s,.pointer (some ⟨B2,0,none⟩)] w fun e w' => e = .returned (.bool (wordB r s))∧w=w':=by
 have hB:B < w.heap.size:=World.block_lt_of_cell? w _ hc
 have hB2:B2 < w.heap.size:=World.block_lt_of_cell? w _ hc2
 have HH:=Lib.hid (has_any p part r hr B w hc)
 have HN:=Lib.hid (name_any s w (by omega))
 clear hr
 cases r with
 | true =>
  have HF:Hid (wordB true s=isNm (bl s)):=Lib.hid rfl
  generalize wordB true s=R at *
  cases hnm:isNm (bl s) <;> rw [hnm] at HN HF
  all_goals
   go_enter Tryz.func83,Tryz.ntmps83
   go_wp2_with (first | (go_at_call 82;refine HH.out.mono ?_;rintro e w1 ⟨rfl,rfl⟩) | (go_at_call 35;refine HN.out.mono ?_;rintro e w1 ⟨rfl,rfl⟩))
   go_ret
   exact ⟨ret_bool' HF.out.symm,rfl⟩
 | false =>
  have HF:Hid (wordB false s=decide (s.size=0)):=Lib.hid rfl
  generalize wordB false s=R at *
  go_enter Tryz.func83,Tryz.ntmps83
  go_wp2_with (first | (go_at_call 82;refine HH.out.mono ?_;rintro e w1 ⟨rfl,rfl⟩))
  all_goals
   go_ret
   exact ⟨ret_bool' (by rw [HF.out];cases hq:s.toList <;> simp_all [emp_nil]),rfl⟩
end Go.Proofs.YthdeijdimfjceaaGreatDoor

namespace Go.Proofs.YthdeijdimfjceaaGreatDoor
open Go.RowKit
theorem len_one {α:Type} (l:List α):((l.length:Int) == 1)=decide (l.length=1):=by rw [Bool.eq_iff_iff];simp;omega
theorem len_two {α:Type} (l:List α):((l.length:Int) == 2)=decide (l.length=2):=by rw [Bool.eq_iff_iff];simp;omega
def partOf (k:Nat):Option Nat :=
 if k=1 then some 0 else if k=2 then some 15 else if k=3 then some 256 else if k=4 then some 136 else if k=5 then some 272 else if k=6 then some 160
 else if k=7 then some 261 else if k=8 then some 197 else if k=9∨k=10 then some 208 else none
def PartAt (bm:Nat) (W:World) (k:Nat):Option Nat→Prop
 | none => (Instr.lookup 140 (.map (some bm)) (.int .u8 (k:Int)) true).run Tryz.prog W = .ok (.tuple #[.int .i64 0,.bool false]) W
 | some m => (Instr.lookup 140 (.map (some bm)) (.int .u8 (k:Int)) true).run Tryz.prog W = .ok (.tuple #[.int .i64 (m:Int),.bool true]) W
def LookP (w:World):Prop:=∃ bm,w.cell? ⟨0,0,none⟩=some (.map (some bm))∧∀ W,Below w.heap.size w W→∀ k,k < 256→PartAt bm W k (partOf k)
theorem LookP.frame {w w':World} (h:LookP w) (hb:Below w.heap.size w w'):LookP w':=by
 obtain ⟨bm,hc,h2⟩:=h
 exact ⟨bm,by rw [hb.cell (p:=⟨0,0,none⟩) (World.block_lt_of_cell? w _ hc)];exact hc,fun W hW k hk => h2 W (hb.trans (hW.mono hb.size)) k hk⟩
noncomputable def nodeP (b1 b2 b4 b8 b16 b32 b64:Bool) (n:Nat) (c:Con):Bool :=
 wordB b1 c.fr && (wordB b2 c.rc && (wordB b4 c.nm && (!(b2 && decide (c.fr=c.rc)) && ((if b8=true then c.ex.isA 1 else if b16=true then c.ex.isA 2 else c.ex.bare) &&
  ((if b32=true then isDay c.d else decide (c.d=0)) && ((if b64=true then isDays c.ds else decide (c.ds.length=0)) && decide (c.sub.length=n)))))))
theorem node_world (w:World) (c:Con) (ad ad1 ad2:Option Addr) (cap cap1 cap2:Nat) (m:Int):∃ W,((w.alloc (.cells #[.int .u8 c.k,.string c.fr,.string c.rc,.string c.nm,.int .u8 c.ex.k,.string c.ex.ra,.string c.ex.nm,.int .i64 c.ex.d,.slice ad1 c.ex.sub.length cap1,.int .i64 c.d,.slice ad2 c.ds.length cap2,.slice ad c.sub.length cap] 51)).alloc (.cells #[.int .i64 m] 3)).alloc (.cells #[.func (.func 82) #[] #[.pointer (some ⟨w.heap.size+1,0,none⟩)]] 116)=W∧Below w.heap.size w W∧w.heap.size+3≤W.heap.size ∧
  W.cell? ⟨w.heap.size,1,none⟩=some (.string c.fr)∧W.cell? ⟨w.heap.size,2,none⟩=some (.string c.rc)∧W.cell? ⟨w.heap.size,3,none⟩=some (.string c.nm)∧W.cell? ⟨w.heap.size,4,none⟩=some (.int .u8 c.ex.k)∧W.cell? ⟨w.heap.size,5,none⟩=some (.string c.ex.ra)∧W.cell? ⟨w.heap.size,6,none⟩=some (.string c.ex.nm)∧W.cell? ⟨w.heap.size,7,none⟩=some (.int .i64 c.ex.d)∧W.cell? ⟨w.heap.size,8,none⟩=some (.slice ad1 c.ex.sub.length cap1)∧W.cell? ⟨w.heap.size,9,none⟩=some (.int .i64 c.d)∧W.cell? ⟨w.heap.size,10,none⟩=some (.slice ad2 c.ds.length cap2)∧W.cell? ⟨w.heap.size,11,none⟩=some (.slice ad c.sub.length cap) ∧
  W.cell? ⟨w.heap.size+1,0,none⟩=some (.int .i64 m)∧W.cell? ⟨w.heap.size+1+1,0,none⟩=some (.func (.func 82) #[] #[.pointer (some ⟨w.heap.size+1,0,none⟩)]) :=
 ⟨_,rfl,below_a3 _ _ _ _,by simp,by go_simp,by go_simp,by go_simp,by go_simp,by go_simp,by go_simp,by go_simp,by go_simp,by go_simp,by go_simp,by go_simp,by go_simp,by go_simp⟩
theorem node_keep {w W:World} {u9 u10 u11 u12 u13:Value} (hbW:Below w.heap.size w W) (hzW:w.heap.size+3≤W.heap.size) (q9:W.cell? ⟨w.heap.size,9,none⟩=some u9) (q10:W.cell? ⟨w.heap.size,10,none⟩=some u10) (q11:W.cell? ⟨w.heap.size,11,none⟩=some u11)
  (q12:W.cell? ⟨w.heap.size+1,0,none⟩=some u12) (q13:W.cell? ⟨w.heap.size+1+1,0,none⟩=some u13):∀ W2,Below W.heap.size W W2→W2.cell? ⟨w.heap.size,9,none⟩=some u9∧W2.cell? ⟨w.heap.size,10,none⟩=some u10∧W2.cell? ⟨w.heap.size,11,none⟩=some u11∧W2.cell? ⟨w.heap.size+1,0,none⟩=some u12 ∧
   W2.cell? ⟨w.heap.size+1+1,0,none⟩=some u13∧Below w.heap.size w W2:=fun W2 h => by
 have k:∀ p u,W.cell? p=some u→W2.cell? p=some u:=fun p u hu => by rw [h.cell (p:=p) (World.block_lt_of_cell? W _ hu)];exact hu
 exact ⟨k _ _ q9,k _ _ q10,k _ _ q11,k _ _ q12,k _ _ q13,hbW.trans (h.mono (by omega))⟩
end Go.Proofs.YthdeijdimfjceaaGreatDoor

namespace Go.Proofs.YthdeijdimfjceaaGreatDoor
open Go.Deep Go.ChangeShapes Go.WideShapes Go.ChangeAt Go.WideMaps Go.WideElems Go.RowKit Go.Maps
theorem g_parts : Tryz.prog.globalNamed "novation/contract.parts" = some 0 := by kernel_rfl
theorem g_shapes : Tryz.prog.globalNamed "novation/observable.shapes" = some 1 := by kernel_rfl
theorem t_parts:(Tryz.prog.globals[0]?).map (·.type)=some 140:=by kernel_rfl
theorem t_shapes:(Tryz.prog.globals[1]?).map (·.type)=some 207:=by kernel_rfl
theorem keyed_u8:Keyed Tryz.prog 5:=int_keyed Tryz.underlying5
theorem zero_int (w:World):(zeroValue 3).run Tryz.prog w = .ok (.int .i64 0) w:=by kernel_rfl
theorem zero_shape (w:World):(zeroValue 205).run Tryz.prog w = .ok (.agg #[.slice none 0 0,.int .u8 0]) w:=by kernel_rfl
theorem key_u8 {k:Nat} (hk:k < 256):keyOf Tryz.prog 5 (.int .u8 (k:Int))=some (.int .u8 (k:Int)) :=
 keyOf_int_mk Tryz.underlying5 (WalkArith.wf_u8 (by omega))
theorem parts_at (k:Nat) (z:DataW Unit):(Rows.laid_novation_contract_parts).atKey (.int .u8 (k:Int)) z=match partOf k with | none => z | some m => .lit (.int .i64 (m:Int)):=by
 match k with
 | 0 | 1 | 2 | 3 | 4 | 5 | 6 | 7 | 8 | 9 | 10 => rfl
 | n+11 =>
  have e:partOf (n+11)=none:=by
   unfold partOf
   rw [if_neg (by omega),if_neg (by omega),if_neg (by omega),if_neg (by omega),if_neg (by omega),if_neg (by omega),if_neg (by omega),if_neg (by omega),if_neg (by omega)]
  rw [e]
  have hs:∀ m:Int,m < 11→(Lit.int .u8 m).sameKey (.int .u8 ((n+11:Nat):Int))=false:=fun m hm => by simp [Lit.sameKey];omega
  simp only [Rows.laid_novation_contract_parts,DataW.atKey,List.find?_cons,hs _ (show (1:Int) < 11 by decide),hs _ (show (2:Int) < 11 by decide),hs _ (show (3:Int) < 11 by decide),hs _ (show (4:Int) < 11 by decide),hs _ (show (5:Int) < 11 by decide),hs _ (show (6:Int) < 11 by decide),hs _ (show (7:Int) < 11 by decide),hs _ (show (8:Int) < 11 by decide),hs _ (show (9:Int) < 11 by decide),hs _ (show (10:Int) < 11 by decide),List.find?_nil]
theorem shapes_at (k:Nat) (z:DataW Unit):(Rows.laid_novation_observable_shapes).atKey (.int .u8 (k:Int)) z=match shapeOf k with | none => z | some (ps,own) => .agg [.slice (ps.map fun p:Nat => .lit (.int .u8 (p:Int))) [],.lit (.int .u8 (own:Int))]:=by
 match k with
 | 0 | 1 | 2 | 3 | 4 | 5 | 6 | 7 | 8 | 9 | 10 | 11 | 12 | 13 | 14 | 15 => rfl
 | n+16 =>
  have e:shapeOf (n+16)=none:=by
   unfold shapeOf
   rw [if_neg (by omega),if_neg (by omega),if_neg (by omega),if_neg (by omega),if_neg (by omega)]
  rw [e]
  have hs:∀ m:Int,m < 16→(Lit.int .u8 m).sameKey (.int .u8 ((n+16:Nat):Int))=false:=fun m hm => by simp [Lit.sameKey];omega
  simp only [Rows.laid_novation_observable_shapes,DataW.atKey,List.find?_cons,hs _ (show (4:Int) < 16 by decide),hs _ (show (5:Int) < 16 by decide),hs _ (show (6:Int) < 16 by decide),hs _ (show (7:Int) < 16 by decide),hs _ (show (8:Int) < 16 by decide),hs _ (show (9:Int) < 16 by decide),hs _ (show (11:Int) < 16 by decide),hs _ (show (12:Int) < 16 by decide),hs _ (show (13:Int) < 16 by decide),hs _ (show (14:Int) < 16 by decide),hs _ (show (15:Int) < 16 by decide),List.find?_nil]
theorem addr_at (b o j:Nat):Addr.add ⟨b,o,none⟩ j=⟨b,o+j,none⟩:=by
 unfold Addr.add
 split
 ·next h => subst h;rfl
 ·rfl
theorem agg_of_formed {v:Value} (hf:v.formed Tryz.prog 205=true):∃ cs,v = .agg cs∧v.cells.toList=cs.toList:=by
 cases v with
 | agg cs => exact ⟨cs,rfl,rfl⟩
 | _ => simp [Value.formed,Tryz.underlying205] at hf
set_option maxRecDepth 100000 in
theorem laid_plain {W : World} (h : laidMet Tryz.prog [("novation/observable.shapes", Rows.laid_novation_observable_shapes), ("novation/contract.parts", Rows.laid_novation_contract_parts)] W) : LookS W ∧ LookP W := by
 obtain ⟨ps,⟨g0,t0,cs0,f0,p0,q0,hg0,ht0,hv0,hd0,⟨g1,t1,cs1,f1,p1,q1,hg1,ht1,hv1,hd1,_,_⟩,_⟩,_,_⟩:=h
 obtain rfl:=Option.some.inj (g_shapes.symm.trans hg0)
 obtain rfl:=Option.some.inj (g_parts.symm.trans hg1)
 obtain rfl:=Option.some.inj (t_shapes.symm.trans ht0)
 obtain rfl:=Option.some.inj (t_parts.symm.trans ht1)
 refine ⟨?_,?_⟩
 ·rcases open_map Tryz.underlying207 hd0 with ⟨_,hx⟩ | ⟨bm,es,clock,m,_,hcs,hb,_,F,hx⟩
  ·simp [Rows.laid_novation_observable_shapes] at hx
  simp only [Prod.mk.injEq] at hx
  have hcell:W.cell? ⟨1,0,none⟩=some (.map (some bm)):=by
   have:=World.var?_cell hg0 hv0 0
   rw [Array.eq_one_of_toList hcs] at this
   simpa using this
  refine ⟨bm,hcell,fun W' hB k hk => ?_⟩
  have hb':W'.heap[bm]? = some (.map es clock):=by rw [hB.block bm (lt_of_block hb)];exact hb
  rcases fit_look true keyed_u8 Tryz.underlying207 (zero_shape W') hb' F (key_u8 hk) with ⟨hrun,_,hat⟩ | ⟨e0,y,_,_,hrun,hRv,hat,_⟩
  ·have h1:=hat .nil
   rw [← hx.1,shapes_at] at h1
   cases hs:shapeOf k with
   | none => exact hrun
   | some q => rw [hs] at h1;cases h1
  ·have h1:=hat .nil
   rw [← hx.1,shapes_at] at h1
   unfold elemAt at hRv
   split at hRv
   ·rename_i hf
    obtain ⟨cs,hv,hvc⟩:=agg_of_formed hf
    rw [hvc] at hRv
    obtain ⟨xs,n',_,hz,hcl,hxl,hfs⟩:=DataW.trod_struct Tryz.underlying205 hRv
    cases hs:shapeOf k with
    | none => rw [hs] at h1;rw [hz] at h1;cases h1
    | some q =>
     obtain ⟨pl,own⟩:=q
     rw [hs] at h1
     obtain ⟨c0,c1,hc⟩:∃ c0 c1,cs.toList=[c0,c1]:=arr2 (by rw [hcl];kernel_rfl)
     rw [hc] at hfs
     obtain ⟨x0,x1,rfl⟩:=arr2 hxl
     have f0:=hfs 0 _ rfl
     have f1:=hfs 1 _ rfl
     have c8s:Tryz.prog.cellsOf 203=1:=by kernel_rfl
     have c8:Tryz.prog.cellsOf 174=1:=by kernel_rfl
     simp [c8s,c8] at f0 f1
     rw [hz] at h1
     simp only [List.map_cons,List.map_nil,DataW.agg.injEq,List.cons.injEq,and_true] at h1
     obtain ⟨o,ho,rfl,_⟩:=DataW.trod_int Tryz.underlying174 f1
     have ho':o=(own:Int):=by have:=h1.2;cases this;rfl
     subst ho'
     rcases open_slice Tryz.underlying203 f0 with ⟨_,hy⟩ | ⟨a,len,cap,mm,n,D,Pl,hcs0,_,hl,hmx,hmm,hxx,hi⟩
     ·rw [hy] at h1;cases h1.1
     ·have e1:=h1.1
      rw [hxx] at e1
      injection e1 with e1 e2
      simp at hcs0 ho
      have hlen:pl.length=len:=by have:=congrArg List.length e1;simpa using this
      have hlm:len≤mm:=by rw [hmm];split <;> omega
      have hcell:∀ (j p:Nat),pl[j]? = some p→W.cell? (a.add j)=some (.int .u8 (p:Int)):=fun j p hj => by
       have hjl:=(List.getElem?_eq_some_iff.1 hj).1
       obtain ⟨cs',q1,q2⟩:=hi j (by omega)
       rw [c8,Nat.mul_one] at q1
       obtain ⟨v,hv1,hv2,_⟩:=DataW.trod_int Tryz.underlying174 q2
       have q3:=(World.cells?_some q1).2.2 0 (by decide)
       rw [hv1] at q3
       have q4:=congrArg (fun l => l[j]?) e1
       simp only [List.getElem?_map,hj,Option.map_some] at q4
       rw [List.getElem?_range (by omega)] at q4
       simp only [Option.map_some,Option.some.injEq] at q4
       rw [(Prod.mk.inj hv2).1] at q4
       cases q4
       simpa [Addr.add] using q3
      have hsp:0 < pl.length→a.spot=none:=fun h0 => by
       obtain ⟨p,hp⟩:∃ p,pl[0]? = some p:=⟨_,List.getElem?_eq_getElem h0⟩
       have h2:=hcell 0 p hp
       simp only [World.cell?] at h2
       cases hsp:a.spot with
       | none => rfl
       | some k => simp [Addr.add,hsp] at h2;split at h2 <;> simp at h2
      have hpos:0 < pl.length:=by
       unfold shapeOf at hs
       repeat' split at hs
       all_goals first
        | (cases hs;done)
        | (cases hs;decide)
      have hsp:=hsp hpos
      obtain ⟨ab,ao,asp⟩:=a
      simp at hsp
      subst hsp
      refine ⟨ab,ao,cap,?_,fun j p hj => by rw [← addr_at];exact hcell j p hj⟩
      rw [hrun,hv]
      have:cs=#[c0,c1]:=by cases cs;simp at hc;subst hc;rfl
      rw [this,hcs0,ho,hlen]
      rfl
   ·cases hRv
 ·rcases open_map Tryz.underlying140 hd1 with ⟨_,hx⟩ | ⟨bm,es,clock,m,_,hcs,hb,_,F,hx⟩
  ·simp [Rows.laid_novation_contract_parts] at hx
  simp only [Prod.mk.injEq] at hx
  have hcell:W.cell? ⟨0,0,none⟩=some (.map (some bm)):=by
   have:=World.var?_cell hg1 hv1 0
   rw [Array.eq_one_of_toList hcs] at this
   simpa using this
  refine ⟨bm,hcell,fun W' hB k hk => ?_⟩
  have hb':W'.heap[bm]? = some (.map es clock):=by rw [hB.block bm (lt_of_block hb)];exact hb
  rcases fit_look true keyed_u8 Tryz.underlying140 (zero_int W') hb' F (key_u8 hk) with ⟨hrun,_,hat⟩ | ⟨e0,y,_,_,hrun,hRv,hat,_⟩
  ·have h1:=hat .nil
   rw [← hx.1,parts_at] at h1
   cases hs:partOf k with
   | none => exact hrun
   | some q => rw [hs] at h1;cases h1
  ·obtain ⟨r,hr,rfl,_⟩:=elemAt_int Tryz.underlying3 hRv
   have h1:=hat .nil
   rw [← hx.1,parts_at] at h1
   cases hs:partOf k with
   | none => rw [hs] at h1;cases h1
   | some q =>
    rw [hs] at h1
    cases h1
    rw [hr] at hrun
    exact hrun
end Go.Proofs.YthdeijdimfjceaaGreatDoor

namespace Go.Proofs.YthdeijdimfjceaaGreatDoor
open Go.RowKit
theorem cmpS_zero (a b:ByteArray):decide (cmpS a b=0)=decide (a=b):=by
 unfold cmpS
 by_cases h:slt a b=true
 ·have:a ≠ b:=by rintro rfl;rw [slt_irrefl] at h;cases h
  simp [h,this]
 ·by_cases h2:a=b
  ·subst h2;simp [slt_irrefl]
  ·simp [h,h2]
theorem cmpI_zero (a b:Int):decide (cmpI a b=0)=decide (a=b):=by
 unfold cmpI
 rcases Int.lt_trichotomy a b with h | h | h
 ·simp [h];omega
 ·subst h;simp
 ·rw [if_neg (by omega),if_pos h];simp;omega
theorem orI_zero (a:Int) (l:List Int):decide (orI (a :: l)=0)=(decide (a=0) && decide (orI l=0)):=by
 rw [orI]
 by_cases h:a=0 <;> simp [h]
theorem fxCmp_zero (n1 n2:ByteArray) (d1 d2:Int):decide (fxCmp n1 d1 n2 d2=0)=(decide (n1=n2) && decide (d1=d2)):=by
 rw [fxCmp,orI_zero,orI_zero,cmpS_zero,cmpI_zero]
 simp [orI]
theorem chCmp_zero (p1 p2 n1 n2:ByteArray) (d1 d2:Int):decide (chCmp p1 n1 d1 p2 n2 d2=0)=(decide (p1=p2) && (decide (n1=n2) && decide (d1=d2))):=by
 rw [chCmp,orI_zero,orI_zero,orI_zero,cmpS_zero,cmpS_zero,cmpI_zero]
 simp [orI]
def fxIs (g:Fx) (f:Fx):Bool:=decide (f.nm=g.nm) && decide (f.d=g.d)
def chIs (g:Ch) (f:Ch):Bool:=decide (f.pt=g.pt) && (decide (f.nm=g.nm) && decide (f.d=g.d))
theorem find_idx {α:Type} (p:α→Bool) (l:List α):l.find? p=(l.findIdx? p).bind fun k => l[k]?:=by
 cases hf:l.findIdx? p with
 | none =>
  rw [List.find?_eq_none.2 (fun x hx => by simpa using List.findIdx?_eq_none_iff.1 hf x hx)];rfl
 | some k =>
  obtain ⟨hk,h1,h2⟩:=List.findIdx?_eq_some_iff_getElem.1 hf
  rw [Option.bind_some,List.getElem?_eq_getElem hk]
  exact List.find?_eq_some_iff_getElem.2 ⟨h1,k,hk,rfl,fun j hj => by simpa using h2 j hj⟩
def FxKey (W:World) (B:Nat) (g:Fx):Prop:=W.cell? ⟨B+1,0,none⟩=some (.func (.func 63) #[] #[])∧(∀ i u,g.cells[i]? = some u→W.cell? ⟨B,i,none⟩=some u)
theorem FxKey.below {W W':World} {B:Nat} {g:Fx} (h:FxKey W B g) (hb:Below W.heap.size W W'):FxKey W' B g :=
 ⟨by rw [hb.cell (p:=⟨B+1,0,none⟩) (World.block_lt_of_cell? W _ h.1)];exact h.1,fun i u hu => by
  have h2:=h.2 i u hu
  rw [hb.cell (p:=⟨B,i,none⟩) (World.block_lt_of_cell? W _ h2)];exact h2⟩
set_option maxHeartbeats 1000000 in
set_option maxRecDepth 100000 in
theorem idxClFx_any (f g:Fx) (B:Nat) (w:World) (hk:FxKey w B g) :
  Calls Tryz.prog 182 #[f.val,.pointer (some ⟨B+1,0,none⟩),.pointer (some ⟨B,0,none⟩)] w fun e w' => e = .returned (.bool (fxIs g f))∧Below w.heap.size w w':=by
 have q0:=hk.1
 have k0:=hk.2 0 _ rfl;have k1:=hk.2 1 _ rfl;have k2:=hk.2 2 _ rfl
 have HE:Hid ((fxCmp f.nm f.d g.nm g.d == 0)=fxIs g f):=by
  show _=_
  rw [← show decide (fxCmp f.nm f.d g.nm g.d=0)=fxIs g f from fxCmp_zero f.nm g.nm f.d g.d]
  rw [Bool.eq_iff_iff];simp
 have HC:Hid (∀ W,Calls Tryz.prog 63 #[f.val,g.val] W fun e w' => e = .returned (.int .i64 (fxCmp f.nm f.d g.nm g.d))∧Below W.heap.size W w'):=fun W => fixings_any _ _ _ _ _ _ _
 simp only [Fx.val,fxV] at HC ⊢
 generalize fxCmp f.nm f.d g.nm g.d=C at HC HE
 have hB:B+1 < w.heap.size:=World.block_lt_of_cell? w _ q0
 have hB0:B < w.heap.size:=by omega
 clear hk
 go_enter Tryz.func182,Tryz.ntmps182
 go_wp2_with (go_at_call 63;refine (HC.out _).mono ?_;rintro e w1 ⟨rfl,hb1⟩)
 go_ret
 exact ⟨ret_bool' HE.out,(below_a1 _ _).trans (hb1.mono (by simp))⟩
set_option maxHeartbeats 1000000 in
set_option maxRecDepth 100000 in
theorem idxKFx_any (l:List Fx) (g:Fx) (B:Nat) (ad:Option Addr) (cap:Nat) (w:World) (hn:l.length≤1100000) (hr:Rd Fx.cells 3 w ad l) (hk:FxKey w B g) :
  Calls Tryz.prog 98 #[.slice ad l.length cap,.func (.func 182) #[] #[.pointer (some ⟨B+1,0,none⟩),.pointer (some ⟨B,0,none⟩)]] w fun e w' => e = .returned (.int .i64 (idxR (l.findIdx? (fxIs g))))∧Below w.heap.size w w':=by
 have HK:=Lib.hid hk
 have HD:=Lib.hid hr
 clear hk hr
 go_enter Tryz.func98,Tryz.ntmps98
 go_wp2
 go_loopw [8] (fun i wr => ∃ k:Nat,k≤l.length∧i = .int .i64 k∧Hid (∀ y ∈ l.take k,fxIs g y=false)∧Below w.heap.size w wr) (fun i _ => l.length - (intOf i).toNat)
 case atStart => exact ⟨0,Nat.zero_le _,rfl,Lib.hid (by simp),Below.refl _ _⟩
 case round =>
  obtain ⟨k,hk,rfl,Hall,hbel⟩:=hrel
  by_cases hlt:k < l.length
  ·obtain ⟨f,hf⟩:∃ f,l[k]? = some f:=⟨_,List.getElem?_eq_getElem hlt⟩
   have HRf:Hid (∃ b off,ad=some ⟨b,off,none⟩∧_):=((HD.out.below hbel).fx hf)
   have HC:=Lib.hid (idxClFx_any f g B wr (HK.out.below hbel))
   have HF:=Lib.hid hf
   clear hf
   obtain ⟨b,off,rfl,hc1,hc2,hc3⟩:=HRf
   have hsz:=hbel.size
   simp only [Fx.val,fxV] at HC
   cases hp:fxIs g f with
   | true =>
    have HR:Hid (l.findIdx? (fxIs g)=some k):=findIdx_some HF.out hp Hall.out
    rw [hp] at HC
    clear hp
    go_wp2_with (go_at_call 182;refine HC.out.mono ?_;rintro e w1 ⟨rfl,hb1⟩)
    go_ret
    exact ⟨by rw [HR.out];rfl,hbel.trans (hb1.mono hsz)⟩
   | false =>
    have Hall2:Hid (∀ y ∈ l.take (k+1),fxIs g y=false):=all_take_succ HF.out hp Hall.out
    rw [hp] at HC
    clear hp
    go_wp2_with (go_at_call 182;refine HC.out.mono ?_;rintro e w1 ⟨rfl,hb1⟩)
    go_roundw
    case rel => exact ⟨k+1,by omega,by go_num,Hall2,hbel.trans (hb1.mono hsz)⟩
    case measure => simp [intOf];omega
  ·obtain rfl:k=l.length:=by omega
   have HR:Hid (l.findIdx? (fxIs g)=none):=findIdx_none (by have:=Hall.out;rwa [List.take_length] at this)
   go_wp2
   go_ret
   exact ⟨by rw [HR.out];rfl,hbel⟩
set_option maxHeartbeats 1000000 in
set_option maxRecDepth 100000 in
theorem findFx_any (l:List Fx) (g:Fx) (ad:Option Addr) (cap:Nat) (w:World) (hn:l.length≤1100000) (hr:Rd Fx.cells 3 w ad l) :
  Calls Tryz.prog 181 #[.slice ad l.length cap,g.val,.func (.func 63) #[] #[]] w fun e w' => e = .returned (.int .i64 (idxR (l.findIdx? (fxIs g))))∧Below w.heap.size w w':=by
 have hb0:Below w.heap.size w ((w.alloc (.cells #[.string g.nm,.int .i64 g.d,.string g.vl] 37)).alloc (.cells #[.func (.func 63) #[] #[]] 122)):=below_a2 _ _ _
 have hk:FxKey ((w.alloc (.cells #[.string g.nm,.int .i64 g.d,.string g.vl] 37)).alloc (.cells #[.func (.func 63) #[] #[]] 122)) w.heap.size g:=by
  refine ⟨by go_simp,fun i u hu => ?_⟩
  have hi:i < 3:=(List.getElem?_eq_some_iff.1 hu).1
  match i,hi with
  | 0,_ => (cases hu;go_simp) | 1,_ => (cases hu;go_simp) | 2,_ => (cases hu;go_simp)
 have HC:=Lib.hid (idxKFx_any l g w.heap.size ad cap _ hn (hr.below hb0) hk)
 have HB:=Lib.hid hb0
 clear hk hr hb0
 simp only [Fx.val,fxV]
 go_enter Tryz.func181,Tryz.ntmps181
 go_wp2_with (go_at_call 98;refine HC.out.mono ?_;rintro e w1 ⟨rfl,hb1⟩)
 go_ret
 exact ⟨rfl,HB.out.trans (hb1.mono HB.out.size)⟩
def ChKey (W:World) (B:Nat) (g:Ch):Prop:=W.cell? ⟨B+1,0,none⟩=some (.func (.func 65) #[] #[])∧(∀ i u,g.cells[i]? = some u→W.cell? ⟨B,i,none⟩=some u)
theorem ChKey.below {W W':World} {B:Nat} {g:Ch} (h:ChKey W B g) (hb:Below W.heap.size W W'):ChKey W' B g :=
 ⟨by rw [hb.cell (p:=⟨B+1,0,none⟩) (World.block_lt_of_cell? W _ h.1)];exact h.1,fun i u hu => by
  have h2:=h.2 i u hu
  rw [hb.cell (p:=⟨B,i,none⟩) (World.block_lt_of_cell? W _ h2)];exact h2⟩
set_option maxHeartbeats 1000000 in
set_option maxRecDepth 100000 in
theorem idxClCh_any (f g:Ch) (B:Nat) (w:World) (hk:ChKey w B g) :
  Calls Tryz.prog 170 #[f.val,.pointer (some ⟨B+1,0,none⟩),.pointer (some ⟨B,0,none⟩)] w fun e w' => e = .returned (.bool (chIs g f))∧Below w.heap.size w w':=by
 have q0:=hk.1
 have k0:=hk.2 0 _ rfl;have k1:=hk.2 1 _ rfl;have k2:=hk.2 2 _ rfl;have k3:=hk.2 3 _ rfl
 have HE:Hid ((chCmp f.pt f.nm f.d g.pt g.nm g.d == 0)=chIs g f):=by
  show _=_
  rw [← show decide (chCmp f.pt f.nm f.d g.pt g.nm g.d=0)=chIs g f from chCmp_zero f.pt g.pt f.nm g.nm f.d g.d]
  rw [Bool.eq_iff_iff];simp
 have HC:Hid (∀ W,Calls Tryz.prog 65 #[f.val,g.val] W fun e w' => e = .returned (.int .i64 (chCmp f.pt f.nm f.d g.pt g.nm g.d))∧Below W.heap.size W w'):=fun W => choices_any _ _ _ _ _ _ _ _ _
 simp only [Ch.val,chV] at HC ⊢
 generalize chCmp f.pt f.nm f.d g.pt g.nm g.d=C at HC HE
 have hB:B+1 < w.heap.size:=World.block_lt_of_cell? w _ q0
 have hB0:B < w.heap.size:=by omega
 clear hk
 go_enter Tryz.func170,Tryz.ntmps170
 go_wp2_with (go_at_call 65;refine (HC.out _).mono ?_;rintro e w1 ⟨rfl,hb1⟩)
 go_ret
 exact ⟨ret_bool' HE.out,(below_a1 _ _).trans (hb1.mono (by simp))⟩
set_option maxHeartbeats 1000000 in
set_option maxRecDepth 100000 in
theorem idxKCh_any (l:List Ch) (g:Ch) (B:Nat) (ad:Option Addr) (cap:Nat) (w:World) (hn:l.length≤1100000) (hr:Rd Ch.cells 4 w ad l) (hk:ChKey w B g) :
  Calls Tryz.prog 99 #[.slice ad l.length cap,.func (.func 170) #[] #[.pointer (some ⟨B+1,0,none⟩),.pointer (some ⟨B,0,none⟩)]] w fun e w' => e = .returned (.int .i64 (idxR (l.findIdx? (chIs g))))∧Below w.heap.size w w':=by
 have HK:=Lib.hid hk
 have HD:=Lib.hid hr
 clear hk hr
 go_enter Tryz.func99,Tryz.ntmps99
 go_wp2
 go_loopw [8] (fun i wr => ∃ k:Nat,k≤l.length∧i = .int .i64 k∧Hid (∀ y ∈ l.take k,chIs g y=false)∧Below w.heap.size w wr) (fun i _ => l.length - (intOf i).toNat)
 case atStart => exact ⟨0,Nat.zero_le _,rfl,Lib.hid (by simp),Below.refl _ _⟩
 case round =>
  obtain ⟨k,hk,rfl,Hall,hbel⟩:=hrel
  by_cases hlt:k < l.length
  ·obtain ⟨f,hf⟩:∃ f,l[k]? = some f:=⟨_,List.getElem?_eq_getElem hlt⟩
   have HRf:Hid (∃ b off,ad=some ⟨b,off,none⟩∧_):=((HD.out.below hbel).ch hf)
   have HC:=Lib.hid (idxClCh_any f g B wr (HK.out.below hbel))
   have HF:=Lib.hid hf
   clear hf
   obtain ⟨b,off,rfl,hc1,hc2,hc3,hc4⟩:=HRf
   have hsz:=hbel.size
   simp only [Ch.val,chV] at HC
   cases hp:chIs g f with
   | true =>
    have HR:Hid (l.findIdx? (chIs g)=some k):=findIdx_some HF.out hp Hall.out
    rw [hp] at HC
    clear hp
    go_wp2_with (go_at_call 170;refine HC.out.mono ?_;rintro e w1 ⟨rfl,hb1⟩)
    go_ret
    exact ⟨by rw [HR.out];rfl,hbel.trans (hb1.mono hsz)⟩
   | false =>
    have Hall2:Hid (∀ y ∈ l.take (k+1),chIs g y=false):=all_take_succ HF.out hp Hall.out
    rw [hp] at HC
    clear hp
    go_wp2_with (go_at_call 170;refine HC.out.mono ?_;rintro e w1 ⟨rfl,hb1⟩)
    go_roundw
    case rel => exact ⟨k+1,by omega,by go_num,Hall2,hbel.trans (hb1.mono hsz)⟩
    case measure => simp [intOf];omega
  ·obtain rfl:k=l.length:=by omega
   have HR:Hid (l.findIdx? (chIs g)=none):=findIdx_none (by have:=Hall.out;rwa [List.take_length] at this)
   go_wp2
   go_ret
   exact ⟨by rw [HR.out];rfl,hbel⟩
set_option maxHeartbeats 1000000 in
set_option maxRecDepth 100000 in
theorem findCh_any (l:List Ch) (g:Ch) (ad:Option Addr) (cap:Nat) (w:World) (hn:l.length≤1100000) (hr:Rd Ch.cells 4 w ad l) :
  Calls Tryz.prog 156 #[.slice ad l.length cap,g.val,.func (.func 65) #[] #[]] w fun e w' => e = .returned (.int .i64 (idxR (l.findIdx? (chIs g))))∧Below w.heap.size w w':=by
 have hb0:Below w.heap.size w ((w.alloc (.cells #[.string g.pt,.string g.nm,.int .i64 g.d,.bool g.first] 80)).alloc (.cells #[.func (.func 65) #[] #[]] 124)):=below_a2 _ _ _
 have hk:ChKey ((w.alloc (.cells #[.string g.pt,.string g.nm,.int .i64 g.d,.bool g.first] 80)).alloc (.cells #[.func (.func 65) #[] #[]] 124)) w.heap.size g:=by
  refine ⟨by go_simp,fun i u hu => ?_⟩
  have hi:i < 4:=(List.getElem?_eq_some_iff.1 hu).1
  match i,hi with
  | 0,_ => (cases hu;go_simp) | 1,_ => (cases hu;go_simp) | 2,_ => (cases hu;go_simp) | 3,_ => (cases hu;go_simp)
 have HC:=Lib.hid (idxKCh_any l g w.heap.size ad cap _ hn (hr.below hb0) hk)
 have HB:=Lib.hid hb0
 clear hk hr hb0
 simp only [Ch.val,chV]
 go_enter Tryz.func156,Tryz.ntmps156
 go_wp2_with (go_at_call 99;refine HC.out.mono ?_;rintro e w1 ⟨rfl,hb1⟩)
 go_ret
 exact ⟨rfl,HB.out.trans (hb1.mono HB.out.size)⟩
theorem idxR_some {α:Type} {p:α→Bool} {l:List α} {k:Nat} (h:l.findIdx? p=some k):∃ x,l[k]? = some x∧l.find? p=some x:=by
 obtain ⟨hk,_,_⟩:=List.findIdx?_eq_some_iff_getElem.1 h
 exact ⟨_,List.getElem?_eq_getElem hk,by rw [find_idx,h,Option.bind_some,List.getElem?_eq_getElem hk]⟩
def fndT:Option Fx→Value
 | some f => .tuple #[.string f.vl,.bool true]
 | none => .tuple #[.string ⟨#[]⟩,.bool false]
set_option maxHeartbeats 1000000 in
set_option maxRecDepth 100000 in
theorem ofind_any (l:List Fx) (nm:ByteArray) (d:Int) (ad:Option Addr) (cap:Nat) (vc:Value) (w:World) (hn:l.length≤1100000) (hr:Rd Fx.cells 3 w ad l) :
  Calls Tryz.prog 179 #[.agg #[.slice ad l.length cap,vc],.string nm,.int .i64 d] w fun e w' => e = .returned (fndT (l.find? (fxIs ⟨nm,d,⟨#[]⟩⟩)))∧Below w.heap.size w w':=by
 have hb0:Below w.heap.size w (w.alloc (.cells #[.slice ad l.length cap,vc] 32)):=below_a1 _ _
 have HC:=Lib.hid (findFx_any l ⟨nm,d,⟨#[]⟩⟩ ad cap _ hn (hr.below hb0))
 have HR:Hid (∀ W,Below w.heap.size w W→∀ j x,l[j]? = some x→_):=fun W hb j x hj => (hr.below hb).fx hj
 simp only [Fx.val,fxV] at HC
 have HB:=Lib.hid hb0
 clear hr hb0
 cases hf:l.findIdx? (fxIs ⟨nm,d,⟨#[]⟩⟩) with
 | none =>
  have HE:Hid (l.find? (fxIs ⟨nm,d,⟨#[]⟩⟩)=none):=by show _=_;rw [find_idx,hf];rfl
  rw [hf] at HC
  generalize l.find? (fxIs ⟨nm,d,⟨#[]⟩⟩)=R at *
  clear hf
  have HC:Hid (Calls _ _ _ _ fun e w' => e = .returned (.int .i64 (-1))∧_):=HC
  go_enter Tryz.func179,Tryz.ntmps179
  go_wp2_with (refine HC.out.mono ?_;rintro e w1 ⟨rfl,hb1⟩)
  go_ret2
  exact ⟨by rw [HE.out];rfl,HB.out.trans (hb1.mono HB.out.size)⟩
 | some k =>
  obtain ⟨x,hx,hfx⟩:=idxR_some hf
  have HE:=Lib.hid hfx
  rw [hf] at HC
  generalize l.find? (fxIs ⟨nm,d,⟨#[]⟩⟩)=R at *
  have hk:=(List.getElem?_eq_some_iff.1 hx).1
  have hk1:(0:Int)≤(k:Int):=by omega
  have hk2:(k:Int) < (l.length:Int):=by omega
  have HX:=Lib.hid hx
  clear hf hfx hx
  have HC:Hid (Calls _ _ _ _ fun e w' => e = .returned (.int .i64 (k:Int))∧_):=HC
  go_enter Tryz.func179,Tryz.ntmps179
  go_wp2_with fail
  refine HC.out.mono ?_
  rintro e w1 ⟨rfl,hb1⟩
  have hb2:Below w.heap.size w w1:=HB.out.trans (hb1.mono HB.out.size)
  obtain ⟨b,off,rfl,hc1,hc2,hc3⟩:=HR.out w1 hb2 k x HX.out
  have q0:w1.cell? ⟨w.heap.size,0,none⟩=some (.slice (some ⟨b,off,none⟩) l.length cap):=by rw [hb1.cell (p:=⟨w.heap.size,0,none⟩) (by simp)];go_simp
  clear hb1 HC
  go_wp2
  go_ret2
  exact ⟨by rw [HE.out];rfl,hb2⟩
def chsB:Option Ch→Bool
 | some c => c.first
 | none => false
set_option maxHeartbeats 1000000 in
set_option maxRecDepth 100000 in
theorem ochosen_any (l:List Ch) (pt nm:ByteArray) (d:Int) (ad:Option Addr) (cap:Nat) (vf:Value) (w:World) (hn:l.length≤1100000) (hr:Rd Ch.cells 4 w ad l) :
  Calls Tryz.prog 129 #[.agg #[vf,.slice ad l.length cap],.string pt,.string nm,.int .i64 d] w fun e w' => e = .returned (.bool (chsB (l.find? (chIs ⟨pt,nm,d,false⟩))))∧Below w.heap.size w w':=by
 have hb0:Below w.heap.size w (w.alloc (.cells #[vf,.slice ad l.length cap] 32)):=below_a1 _ _
 have HC:=Lib.hid (findCh_any l ⟨pt,nm,d,false⟩ ad cap _ hn (hr.below hb0))
 have HR:Hid (∀ W,Below w.heap.size w W→∀ j x,l[j]? = some x→_):=fun W hb j x hj => (hr.below hb).ch hj
 simp only [Ch.val,chV] at HC
 have HB:=Lib.hid hb0
 clear hr hb0
 cases hf:l.findIdx? (chIs ⟨pt,nm,d,false⟩) with
 | none =>
  have HE:Hid (l.find? (chIs ⟨pt,nm,d,false⟩)=none):=by show _=_;rw [find_idx,hf];rfl
  rw [hf] at HC
  generalize l.find? (chIs ⟨pt,nm,d,false⟩)=R at *
  clear hf
  have HC:Hid (Calls _ _ _ _ fun e w' => e = .returned (.int .i64 (-1))∧_):=HC
  go_enter Tryz.func129,Tryz.ntmps129
  go_wp2_with (refine HC.out.mono ?_;rintro e w1 ⟨rfl,hb1⟩)
  go_ret
  exact ⟨by rw [HE.out];rfl,HB.out.trans (hb1.mono HB.out.size)⟩
 | some k =>
  obtain ⟨x,hx,hfx⟩:=idxR_some hf
  have HE:=Lib.hid hfx
  rw [hf] at HC
  generalize l.find? (chIs ⟨pt,nm,d,false⟩)=R at *
  have hk:=(List.getElem?_eq_some_iff.1 hx).1
  have hk1:(0:Int)≤(k:Int):=by omega
  have hk2:(k:Int) < (l.length:Int):=by omega
  have HX:=Lib.hid hx
  clear hf hfx hx
  have HC:Hid (Calls _ _ _ _ fun e w' => e = .returned (.int .i64 (k:Int))∧_):=HC
  go_enter Tryz.func129,Tryz.ntmps129
  go_wp2_with fail
  refine HC.out.mono ?_
  rintro e w1 ⟨rfl,hb1⟩
  have hb2:Below w.heap.size w w1:=HB.out.trans (hb1.mono HB.out.size)
  obtain ⟨b,off,rfl,hc1,hc2,hc3,hc4⟩:=HR.out w1 hb2 k x HX.out
  have q0:w1.cell? ⟨w.heap.size,1,none⟩=some (.slice (some ⟨b,off,none⟩) l.length cap):=by rw [hb1.cell (p:=⟨w.heap.size,1,none⟩) (by simp)];go_simp
  clear hb1 HC
  go_wp2
  go_ret
  exact ⟨by rw [HE.out];rfl,hb2⟩
end Go.Proofs.YthdeijdimfjceaaGreatDoor
