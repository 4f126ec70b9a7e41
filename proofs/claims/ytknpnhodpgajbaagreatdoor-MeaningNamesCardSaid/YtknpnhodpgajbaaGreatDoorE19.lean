/-
  observable.sorted, Check, Number, Truth. observable.Check, Number, Truth. (*state).value and holds at every well-formed expression; begin, Value, Holds. observable.begin, Value, Holds.
-/
import Derived.Test.YtknpnhodpgajbaaGreatDoorE17
import Derived.Test.YtknpnhodpgajbaaGreatDoorE18
import Derived.Test.YtknpnhodpgajbaaGreatDoorE04
import Derived.Test.YtknpnhodpgajbaaGreatDoorE16
import Derived.Test.YtknpnhodpgajbaaGreatDoorE13
namespace Go.Proofs.YtknpnhodpgajbaaGreatDoor
open Go.RowKit
def ShapeAt (w:World) (bm:Nat) (W:World) (k:Nat):Option (List Nat × Nat)→Prop
 | none => (Instr.lookup 230 (.map (some bm)) (.int .u8 (k:Int)) true).run Tryz.prog W = .ok (.tuple #[.agg #[.slice none 0 0,.int .u8 0],.bool false]) W
 | some (ps,own) => ∃ b off cap,(Instr.lookup 230 (.map (some bm)) (.int .u8 (k:Int)) true).run Tryz.prog W = .ok (.tuple #[.agg #[.slice (some ⟨b,off,none⟩) ps.length cap,.int .u8 (own:Int)],.bool true]) W ∧
   ∀ (j p:Nat),ps[j]? = some p→w.cell? ⟨b,off+j,none⟩=some (.int .u8 (p:Int))
def LookS (w:World):Prop:=∃ bm,w.cell? ⟨2,0,none⟩=some (.map (some bm))∧∀ W,Below w.heap.size w W→∀ k,k < 256→ShapeAt w bm W k (shapeOf k)
theorem LookS.frame {w w':World} (h:LookS w) (hb:Below w.heap.size w w'):LookS w':=by
 obtain ⟨bm,hc,h2⟩:=h
 refine ⟨bm,by rw [hb.cell (p:=⟨2,0,none⟩) (World.block_lt_of_cell? w _ hc)];exact hc,fun W hW k hk => ?_⟩
 have h3:=h2 W (hb.trans (hW.mono hb.size)) k hk
 cases hs:shapeOf k with
 | none => rw [hs] at h3;exact h3
 | some q =>
  obtain ⟨ps,own⟩:=q
  rw [hs] at h3
  obtain ⟨b,off,cap,h4,h5⟩:=h3
  refine ⟨b,off,cap,h4,fun j p hj => ?_⟩
  have h6:=h5 j p hj
  rw [hb.cell (p:=⟨b,off+j,none⟩) (World.block_lt_of_cell? w _ h6)]
  exact h6
theorem sorted_no_parts {ra nm:ByteArray} {d:Int} {l ps:List Nat} {own:Nat} (h : ¬ (ra.size=0∧nm.size=0∧d=0∧l=ps)):partSort ra nm d l ps own=0:=by unfold partSort;rw [if_neg h]
theorem sorted_parts {ra nm:ByteArray} {d:Int} {l ps:List Nat} {own:Nat} (h:ra.size=0∧nm.size=0∧d=0∧l=ps):partSort ra nm d l ps own=own:=by unfold partSort;rw [if_pos h]
theorem take_succ_eq {l ps:List Nat} {k a:Nat} (h:l.take k=ps.take k) (h1:l[k]? = some a) (h2:ps[k]? = some a):l.take (k+1)=ps.take (k+1):=by
 rw [take_snoc_get h1,take_snoc_get h2,h]
theorem sorts_get {xs:List Ex} {k:Nat} {y:Ex} (h:xs[k]? = some y):(Ex.sorts xs)[k]? = some y.sort:=by
 rw [Ex.sorts_eq,List.getElem?_map,h];rfl
set_option maxHeartbeats 2000000 in
set_option maxRecDepth 100000 in
theorem sorted_core (k:Nat) (ra nm:ByteArray) (d:Int) (xs:List Ex) (ad:Option Addr) (cap:Nat) (ps:List Nat) (own bm b off capp:Nat) (w:World) (hn:xs.length≤2000000)
  (HI:Hid (∀ y,y ∈ xs→∀ (s:Value) (W:World),RdE W y.sub s→LookS W→Calls Tryz.prog 159 #[y.val s] W fun e w' => e = .returned (.int .u8 ((y.sort:Nat):Int))∧Below W.heap.size W w'))
  (HS:Hid (RdE w xs (.slice ad xs.length cap))) (HL:Hid (LookS w)) (hm:w.cell? ⟨2,0,none⟩=some (.map (some bm)))
  (hsh:(Instr.lookup 230 (.map (some bm)) (.int .u8 (k:Int)) true).run Tryz.prog (w.alloc (.cells #[.int .u8 (k:Int),.string ra,.string nm,.int .i64 d,.slice ad xs.length cap] 25)) = .ok (.tuple #[.agg #[.slice (some ⟨b,off,none⟩) ps.length capp,.int .u8 (own:Int)],.bool true]) (w.alloc (.cells #[.int .u8 (k:Int),.string ra,.string nm,.int .i64 d,.slice ad xs.length cap] 25)))
  (HC:Hid (∀ (j p:Nat),ps[j]? = some p→w.cell? ⟨b,off+j,none⟩=some (.int .u8 (p:Int)))) :
  Calls Tryz.prog 159 #[.agg #[.int .u8 (k:Int),.string ra,.string nm,.int .i64 d,.slice ad xs.length cap]] w fun e w' => e = .returned (.int .u8 ((partSort ra nm d (Ex.sorts xs) ps own:Nat):Int))∧Below w.heap.size w w':=by
 have hmb:2 < w.heap.size:=World.block_lt_of_cell? w _ hm
 have hb0:=below_a2 w (.cells #[.int .u8 (k:Int),.string ra,.string nm,.int .i64 d,.slice ad xs.length cap] 25) (.cells #[.slice (some ⟨b,off,none⟩) ps.length capp,.int .u8 (own:Int)] 228)
 by_cases hgood:ra.size=0∧nm.size=0∧d=0∧xs.length=ps.length
 ·obtain ⟨g1,g2,rfl,g4⟩:=hgood
  have HX:Hid (Ex.sorts xs ≠ ps→partSort ra nm 0 (Ex.sorts xs) ps own=0):=Lib.hid (fun h => sorted_no_parts (fun hh => h hh.2.2.2))
  have HY:Hid (Ex.sorts xs=ps→partSort ra nm 0 (Ex.sorts xs) ps own=own):=Lib.hid (fun h => sorted_parts ⟨g1,g2,rfl,h⟩)
  rw [sz_nil] at g1 g2
  generalize partSort ra nm 0 (Ex.sorts xs) ps own=R at *
  rw [← g4] at hsh hb0
  have HG:=Lib.hid g4
  clear g4
  go_enter Tryz.func159,Tryz.ntmps159
  go_wp2_with fail
  go_loopw [43] (fun i wr => ∃ (j:Nat),j≤xs.length∧i = .int .i64 (j:Int)∧Hid ((Ex.sorts xs).take j=ps.take j)∧Below w.heap.size w wr∧wr.cell? ⟨w.heap.size+1,0,none⟩=some (.slice (some ⟨b,off,none⟩) xs.length capp)∧wr.cell? ⟨w.heap.size+1,1,none⟩=some (.int .u8 (own:Int))) (fun i _ => xs.length - (intOf i).toNat)
  case atStart => exact ⟨0,Nat.zero_le _,rfl,Lib.hid (by simp),hb0,by go_simp,by go_simp⟩
  case round =>
   clear hb0
   obtain ⟨j,hj,rfl,HT,hbel,q0,q1⟩:=hrel
   by_cases hlt:j < xs.length
   ·obtain ⟨y,hy⟩:∃ y,xs[j]? = some y:=⟨_,List.getElem?_eq_getElem hlt⟩
    obtain ⟨p,hp⟩:∃ p,ps[j]? = some p:=⟨_,List.getElem?_eq_getElem (by have:=HG.out;omega)⟩
    obtain ⟨b',off',s',rfl,c0,c1,c2,c3,c4,hs',hk8⟩:=(HS.out.frame hbel).at hy
    obtain ⟨ad',cap',rfl⟩:=hs'.len
    have hpc:=HC.out j p hp
    have hbb:b < w.heap.size:=World.block_lt_of_cell? w _ hpc
    have hpw:wr.cell? ⟨b,off+j,none⟩=some (.int .u8 (p:Int)):=by rw [hbel.cell (p:=⟨b,off+j,none⟩) hbb];exact hpc
    have hbb2:b < wr.heap.size:=by have:=hbel.size;omega
    have hblk:b' < wr.heap.size:=World.block_lt_of_cell? wr _ c0
    have hbx:w.heap.size+1 < wr.heap.size:=World.block_lt_of_cell? wr _ q0
    have hzw:=hbel.size
    have hk1:(0:Int)≤(j:Int):=by omega
    have hk2:(j:Int) < (xs.length:Int):=by omega
    have HZ:Hid (∀ W,Ext (wr.alloc (.cells #[.int .u8 (y.k:Int),.string y.ra,.string y.nm,.int .i64 y.d,.slice ad' y.sub.length cap'] 25)) W→Calls Tryz.prog 159 #[.agg #[.int .u8 (y.k:Int),.string y.ra,.string y.nm,.int .i64 y.d,.slice ad' y.sub.length cap']] W fun e w' => e = .returned (.int .u8 ((y.sort:Nat):Int))∧Below W.heap.size W w') :=
     Lib.hid fun W hW => HI.out y (List.mem_of_getElem? hy) _ W (hs'.frame ((below_a1 wr _).trans (Below.mono hW (by simp)))) (HL.out.frame ((hbel.alloc hzw _).trans (Below.mono hW (by simp;omega))))
    have HYs:Hid ((Ex.sorts xs)[j]? = some y.sort):=Lib.hid (sorts_get hy)
    have HPs:=Lib.hid hp
    clear hy hs' hp hpc
    go_wp2
    refine wp_region_ext (fun W' => W'.cell? ⟨wr.heap.size,0,none⟩=some (.int .u8 (y.k:Int))∧W'.cell? ⟨wr.heap.size,1,none⟩=some (.string y.ra)∧W'.cell? ⟨wr.heap.size,2,none⟩=some (.string y.nm)∧W'.cell? ⟨wr.heap.size,3,none⟩=some (.int .i64 y.d)∧W'.cell? ⟨wr.heap.size,4,none⟩=some (.slice ad' y.sub.length cap')∧W'.cell? ⟨w.heap.size+1,0,none⟩=some (.slice (some ⟨b,off,none⟩) xs.length capp)∧W'.cell? ⟨b,off+j,none⟩=some (.int .u8 (p:Int))) (fun W' hW' => ⟨hW'.cell (by go_simp),hW'.cell (by go_simp),hW'.cell (by go_simp),hW'.cell (by go_simp),hW'.cell (by go_simp),hW'.cell (by go_simp),hW'.cell (by go_simp)⟩) (by kernel_rfl) (by kernel_rfl) ?_
    intro HCW
    repeat (first | go_big_quiet_skip | (go_big_quiet_want;apply Exists.intro;refine ⟨fun W hW => ?_,?_⟩;(focus (obtain ⟨p0,p1,p2,p3,p4,p5,p6⟩:=HCW W hW;go_simp;first | done | rfl | with_reducible exact ext_callsE HZ.out W hW));(simp only [Act.put,List.setIfInBounds_toArray,List.set_cons_zero,List.set_cons_succ]);go_big_quiet_on))
    refine wpQuiet_nil ?_
    intro W hW
    have q2:W.cell? ⟨w.heap.size+1,0,none⟩=some (.slice (some ⟨b,off,none⟩) xs.length capp):=hW.cell (by go_simp)
    have q3:W.cell? ⟨w.heap.size+1,1,none⟩=some (.int .u8 (own:Int)):=hW.cell (by go_simp)
    have hb3:Below w.heap.size w W:=(hbel.alloc hzw _).trans (Below.mono hW (by simp;omega))
    clear hW HCW HZ hbel q0 q1 hpw c0 c1 c2 c3 c4
    by_cases hyp:y.sort=p
    ·have HN:Hid ((Ex.sorts xs).take (j+1)=ps.take (j+1)):=Lib.hid (take_succ_eq HT.out (by rw [HYs.out,hyp]) HPs.out)
     have hyp':((y.sort:Int) == (p:Int))=true:=by rw [hyp];simp
     have hyp2:((y.sort:Int) != (p:Int))=false:=by rw [hyp];simp
     go_wp2
     go_roundw
     case rel => exact ⟨j+1,by omega,by go_num,HN,hb3,q2,q3⟩
     case measure => simp [intOf];omega
    ·have HF:Hid (R=0):=Lib.hid (HX.out (fun h => by
      have h1:=HYs.out
      rw [h,HPs.out] at h1
      exact hyp (Option.some.inj h1).symm))
     have hyp2:((y.sort:Int) != (p:Int))=true:=by rw [bne_iff_ne];omega
     go_wp2
     go_ret
     exact ⟨by rw [HF.out];rfl,hb3⟩
   ·obtain rfl:j=xs.length:=by omega
    have HF:Hid (R=own):=Lib.hid (HY.out (by
     have h:=HT.out
     rw [HG.out,List.take_length,List.take_of_length_le (by rw [Ex.sorts_length,HG.out];exact Nat.le_refl _)] at h
     exact h))
    go_wp2
    go_ret
    exact ⟨by rw [HF.out];rfl,hbel⟩
 ·have HF:Hid (partSort ra nm d (Ex.sorts xs) ps own=0):=Lib.hid (sorted_no_parts (fun h => hgood ⟨h.1,h.2.1,h.2.2.1,by rw [← Ex.sorts_length xs,h.2.2.2]⟩))
  generalize partSort ra nm d (Ex.sorts xs) ps own=R at *
  go_enter Tryz.func159,Tryz.ntmps159
  go_wp2_with fail
  all_goals first
   | (go_ret;exact ⟨by rw [HF.out];rfl,hb0⟩)
   | (exfalso;exact hgood ⟨(sz_nil _).2 (by assumption),(sz_nil _).2 (by assumption),by first | assumption | (rename_i hq _;simpa using hq) | simp_all,by omega⟩)
set_option maxRecDepth 100000 in
theorem sorted_any:∀ (N:Nat) (x:Ex) (s:Value) (w:World),x.bulk≤N→x.bulk≤2000000→RdE w x.sub s→x.k < 256→LookS w →
  Calls Tryz.prog 159 #[x.val s] w fun e w' => e = .returned (.int .u8 ((x.sort:Nat):Int))∧Below w.heap.size w w':=by
 intro N
 induction N with
 | zero =>
  intro x s w h0
  rw [Ex.bulk_eq] at h0
  omega
 | succ N ih =>
  intro x s w hN hB hs hk8 hL
  obtain ⟨ad,cap,rfl⟩:=hs.len
  have HS:=Lib.hid hs
  have HI:=Lib.hid ih
  have HL:=Lib.hid hL
  have hbq:=x.bulk_eq
  have hlen:=Ex.bulks_len x.sub
  have hlt0:=x.sub_lt
  have hn:x.sub.length≤2000000:=by omega
  have hr1:x.ra.size≤2000000:=by omega
  have hr2:x.nm.size≤2000000:=by omega
  have hb0:=below_a1 w (.cells #[.int .u8 x.k,.string x.ra,.string x.nm,.int .i64 x.d,.slice ad x.sub.length cap] 25)
  have hso:=x.sort_eq
  unfold sortOf at hso
  rw [Ex.sorts_length] at hso
  obtain ⟨bm,hm,hall⟩:=hL
  have hsh:=hall _ hb0 x.k hk8
  have hmb:2 < w.heap.size:=World.block_lt_of_cell? w _ hm
  clear hs ih hbq hall
  cases hsk:shapeOf x.k with
  | none =>
   rw [hsk] at hsh hso
   simp only [] at hso
   simp only [ShapeAt] at hsh
   have HLf:=Lib.hid (leaf_core x.k x.sub.length x.ra x.nm x.d ad cap)
   rw [hso]
   unfold Ex.val
   generalize hX:leafSort x.k x.ra x.nm x.d x.sub.length=LS at *
   clear hX hso hsk
   go_enter Tryz.func159,Tryz.ntmps159
   go_wp2_with fail
   refine (HLf.out _ hn hr1 hr2).mono ?_
   rintro e w1 ⟨rfl,hb1⟩
   have hb2:Below w.heap.size w w1:=(below_a2 w _ _).trans (hb1.mono (by simp;omega))
   clear hb1
   go_wp2
   go_ret
   exact ⟨rfl,hb2⟩
  | some q =>
   obtain ⟨ps,own⟩:=q
   rw [hsk] at hsh hso
   simp only [] at hso
   obtain ⟨b,off,capp,h4,h5⟩:=hsh
   rw [hso]
   exact sorted_core x.k x.ra x.nm x.d x.sub ad cap ps own bm b off capp w hn (Lib.hid fun y hy s W hr hl => by
    have hlt:=Ex.mem_lt hy
    have hk:y.k < 256:=by
     obtain ⟨j,hj⟩:=List.mem_iff_getElem?.1 hy
     obtain ⟨_,_,_,_,_,_,_,_,_,_,h⟩:=HS.out.at hj
     exact h
    exact HI.out y s W (by omega) (by omega) hr hk hl) HS HL hm h4 (Lib.hid h5)
end Go.Proofs.YtknpnhodpgajbaaGreatDoor

namespace Go.Proofs.YtknpnhodpgajbaaGreatDoor
open Go.RowKit
theorem Ex.err_many {x:Ex} (h:500 < x.size∨60 < x.depth):x.err=4:=by unfold Ex.err;rw [if_pos h]
theorem Ex.err_bad {x:Ex} (h : ¬ (500 < x.size∨60 < x.depth)) (h1:x.sort=0):x.err=8:=by unfold Ex.err;rw [if_neg h,if_pos h1]
theorem Ex.err_ok {x:Ex} (h : ¬ (500 < x.size∨60 < x.depth)) (h1:x.sort ≠ 0):x.err=0:=by unfold Ex.err;rw [if_neg h,if_neg h1]
set_option maxHeartbeats 1000000 in
set_option maxRecDepth 100000 in
theorem ochk_any (x:Ex) (s:Value) (w:World) (hB:x.bulk≤2000000) (hs:RdE w x.sub s) (hk8:x.k < 256) (hL:LookS w) :
  Calls Tryz.prog 158 #[x.val s] w fun e w' => e = .returned (.int .i64 x.err)∧Below w.heap.size w w':=by
 obtain ⟨ad,cap,rfl⟩:=hs.len
 have hb0:=below_a1 w (.cells #[.int .u8 x.k,.string x.ra,.string x.nm,.int .i64 x.d,.slice ad x.sub.length cap] 25)
 have HE:Hid (∀ W,Below w.heap.size w W→RdE W x.sub (.slice ad x.sub.length cap)∧LookS W):=Lib.hid fun W hW => ⟨hs.frame hW,hL.frame hW⟩
 have H1:=Lib.hid (osize_any x.bulk x _ _ (Nat.le_refl _) hB (HE.out _ hb0).1)
 have hsz:=x.size_le
 have hdp:=x.depth_le
 clear hs hL
 have hkeep:∀ (A B:World),Below A.heap.size A B→(∀ (j:Nat) (u:Value),A.cell? ⟨w.heap.size,j,none⟩=some u→B.cell? ⟨w.heap.size,j,none⟩=some u):=fun A B hb j u h => by
  rw [hb.cell (p:=⟨w.heap.size,j,none⟩) (World.block_lt_of_cell? A _ h)];exact h
 have HK:=Lib.hid hkeep
 clear hkeep
 have HM:=Lib.hid (Ex.err_many (x:=x))
 have HB:=Lib.hid (Ex.err_bad (x:=x))
 have HO:=Lib.hid (Ex.err_ok (x:=x))
 generalize x.err=R at *
 unfold Ex.val at H1 ⊢
 go_enter Tryz.func158,Tryz.ntmps158
 go_wp2_with fail
 refine H1.out.mono ?_
 rintro e w1 ⟨rfl,hb1⟩
 have hb2:Below w.heap.size w w1:=hb0.trans (hb1.mono (by simp))
 have c0:=HK.out _ _ hb1 0 (.int .u8 x.k) (by go_simp)
 have c1:=HK.out _ _ hb1 1 (.string x.ra) (by go_simp)
 have c2:=HK.out _ _ hb1 2 (.string x.nm) (by go_simp)
 have c3:=HK.out _ _ hb1 3 (.int .i64 x.d) (by go_simp)
 have c4:=HK.out _ _ hb1 4 (.slice ad x.sub.length cap) (by go_simp)
 clear hb1 H1 hb0
 have H2:=Lib.hid (odepth_any x.bulk x _ 60 w1 (Nat.le_refl _) hB (by omega) (HE.out _ hb2).1)
 unfold Ex.val at H2
 by_cases hsz5:500 < x.size
 ·have HF:=Lib.hid (HM.out (.inl hsz5))
  have t1:(500:Int) < (x.size:Int):=by omega
  go_wp2
  go_ret
  exact ⟨by rw [HF.out];rfl,hb2⟩
 ·have t1:decide ((500:Int) < (x.size:Int))=false:=by rw [decide_eq_false_iff_not];omega
  have t1':decide (500 < x.size)=false:=by rw [decide_eq_false_iff_not];omega
  obtain ⟨m,hm,hmd⟩:∃ m:Nat,min (60+1) x.depth=m∧(60 < m ↔ 60 < x.depth):=⟨_,rfl,by omega⟩
  rw [hm] at H2
  go_wp2_with fail
  refine H2.out.mono ?_
  rintro e w2 ⟨rfl,hb3⟩
  have hb4:Below w.heap.size w w2:=hb2.trans (hb3.mono hb2.size)
  have d0:=HK.out _ _ hb3 0 _ c0
  have d1:=HK.out _ _ hb3 1 _ c1
  have d2:=HK.out _ _ hb3 2 _ c2
  have d3:=HK.out _ _ hb3 3 _ c3
  have d4:=HK.out _ _ hb3 4 _ c4
  clear hb3 H2 hb2 c0 c1 c2 c3 c4
  have H3:=Lib.hid (sorted_any x.bulk x _ w2 (Nat.le_refl _) hB (HE.out _ hb4).1 hk8 (HE.out _ hb4).2)
  unfold Ex.val at H3
  by_cases hdp6:60 < x.depth
  ·have HF:=Lib.hid (HM.out (.inr hdp6))
   have t2:(60:Int) < (m:Int):=by omega
   go_wp2
   go_ret
   exact ⟨by rw [HF.out];rfl,hb4⟩
  ·have t2:decide ((60:Int) < (m:Int))=false:=by rw [decide_eq_false_iff_not];omega
   have t2':decide (60 < m)=false:=by rw [decide_eq_false_iff_not];omega
   go_wp2_with fail
   refine H3.out.mono ?_
   rintro e w3 ⟨rfl,hb5⟩
   have hb6:Below w.heap.size w w3:=hb4.trans (hb5.mono hb4.size)
   clear hb5 H3 hb4 d0 d1 d2 d3 d4
   by_cases hT:x.sort=0
   ·have HF:=Lib.hid (HB.out (by omega) hT)
    have t3:((x.sort:Int) == 0)=true:=by rw [hT];rfl
    go_wp2
    go_ret
    exact ⟨by rw [HF.out];rfl,hb6⟩
   ·have HF:=Lib.hid (HO.out (by omega) hT)
    have t3:((x.sort:Int) == 0)=false:=by simpa using hT
    go_wp2
    go_ret
    exact ⟨by rw [HF.out];rfl,hb6⟩
set_option maxHeartbeats 1000000 in
set_option maxRecDepth 100000 in
theorem onum_any (x:Ex) (s:Value) (w:World) (hB:x.bulk≤2000000) (hs:RdE w x.sub s) (hk8:x.k < 256) (hL:LookS w) :
  Calls Tryz.prog 114 #[x.val s] w fun e w' => e = .returned (.bool (x.isA 1))∧Below w.heap.size w w':=by
 obtain ⟨ad,cap,rfl⟩:=hs.len
 have hb0:=below_a1 w (.cells #[.int .u8 x.k,.string x.ra,.string x.nm,.int .i64 x.d,.slice ad x.sub.length cap] 25)
 have HE:Hid (∀ W,Below w.heap.size w W→RdE W x.sub (.slice ad x.sub.length cap)∧LookS W):=Lib.hid fun W hW => ⟨hs.frame hW,hL.frame hW⟩
 have H1:=Lib.hid (ochk_any x _ _ hB (HE.out _ hb0).1 hk8 (HE.out _ hb0).2)
 clear hs hL
 have HA:Hid (x.isA 1=(decide (x.err=0) && decide (x.sort=1))):=Lib.hid rfl
 unfold Ex.val at H1 ⊢
 generalize x.isA 1=R at *
 generalize x.err=E at *
 go_enter Tryz.func114,Tryz.ntmps114
 go_wp2_with fail
 refine H1.out.mono ?_
 rintro e w1 ⟨rfl,hb1⟩
 have hb2:Below w.heap.size w w1:=hb0.trans (hb1.mono (by simp))
 have c0:w1.cell? ⟨w.heap.size,0,none⟩=some (.int .u8 x.k):=by rw [hb1.cell (p:=⟨w.heap.size,0,none⟩) (by simp)];go_simp
 have c1:w1.cell? ⟨w.heap.size,1,none⟩=some (.string x.ra):=by rw [hb1.cell (p:=⟨w.heap.size,1,none⟩) (by simp)];go_simp
 have c2:w1.cell? ⟨w.heap.size,2,none⟩=some (.string x.nm):=by rw [hb1.cell (p:=⟨w.heap.size,2,none⟩) (by simp)];go_simp
 have c3:w1.cell? ⟨w.heap.size,3,none⟩=some (.int .i64 x.d):=by rw [hb1.cell (p:=⟨w.heap.size,3,none⟩) (by simp)];go_simp
 have c4:w1.cell? ⟨w.heap.size,4,none⟩=some (.slice ad x.sub.length cap):=by rw [hb1.cell (p:=⟨w.heap.size,4,none⟩) (by simp)];go_simp
 clear hb1 H1 hb0
 have H3:=Lib.hid (sorted_any x.bulk x _ w1 (Nat.le_refl _) hB (HE.out _ hb2).1 hk8 (HE.out _ hb2).2)
 unfold Ex.val at H3
 generalize x.sort=T at *
 by_cases hE:E=0
 ·have t0:(E == 0)=true:=by rw [hE];rfl
  go_wp2_with fail
  refine H3.out.mono ?_
  rintro e w3 ⟨rfl,hb5⟩
  have hb6:Below w.heap.size w w3:=hb2.trans (hb5.mono hb2.size)
  clear hb5 H3 hb2 c0 c1 c2 c3 c4
  by_cases hT:T=1
  ·have HF:Hid (R=true):=Lib.hid (by rw [HA.out,hE,hT];rfl)
   have t3:((T:Int) == 1)=true:=by rw [hT];rfl
   go_wp2
   go_ret
   exact ⟨ret_bool' HF.out.symm,hb6⟩
  ·have HF:Hid (R=false):=Lib.hid (by rw [HA.out,hE];simpa using hT)
   have t3:((T:Int) == 1)=false:=by simp;omega
   go_wp2
   go_ret
   exact ⟨ret_bool' HF.out.symm,hb6⟩
 ·have HF:Hid (R=false):=Lib.hid (by rw [HA.out];simp [hE])
  have t0:(E == 0)=false:=by simpa using hE
  go_wp2
  go_ret
  exact ⟨ret_bool' HF.out.symm,hb2⟩
set_option maxHeartbeats 1000000 in
set_option maxRecDepth 100000 in
theorem otruth_any (x:Ex) (s:Value) (w:World) (hB:x.bulk≤2000000) (hs:RdE w x.sub s) (hk8:x.k < 256) (hL:LookS w) :
  Calls Tryz.prog 115 #[x.val s] w fun e w' => e = .returned (.bool (x.isA 2))∧Below w.heap.size w w':=by
 obtain ⟨ad,cap,rfl⟩:=hs.len
 have hb0:=below_a1 w (.cells #[.int .u8 x.k,.string x.ra,.string x.nm,.int .i64 x.d,.slice ad x.sub.length cap] 25)
 have HE:Hid (∀ W,Below w.heap.size w W→RdE W x.sub (.slice ad x.sub.length cap)∧LookS W):=Lib.hid fun W hW => ⟨hs.frame hW,hL.frame hW⟩
 have H1:=Lib.hid (ochk_any x _ _ hB (HE.out _ hb0).1 hk8 (HE.out _ hb0).2)
 clear hs hL
 have HA:Hid (x.isA 2=(decide (x.err=0) && decide (x.sort=2))):=Lib.hid rfl
 unfold Ex.val at H1 ⊢
 generalize x.isA 2=R at *
 generalize x.err=E at *
 go_enter Tryz.func115,Tryz.ntmps115
 go_wp2_with fail
 refine H1.out.mono ?_
 rintro e w1 ⟨rfl,hb1⟩
 have hb2:Below w.heap.size w w1:=hb0.trans (hb1.mono (by simp))
 have c0:w1.cell? ⟨w.heap.size,0,none⟩=some (.int .u8 x.k):=by rw [hb1.cell (p:=⟨w.heap.size,0,none⟩) (by simp)];go_simp
 have c1:w1.cell? ⟨w.heap.size,1,none⟩=some (.string x.ra):=by rw [hb1.cell (p:=⟨w.heap.size,1,none⟩) (by simp)];go_simp
 have c2:w1.cell? ⟨w.heap.size,2,none⟩=some (.string x.nm):=by rw [hb1.cell (p:=⟨w.heap.size,2,none⟩) (by simp)];go_simp
 have c3:w1.cell? ⟨w.heap.size,3,none⟩=some (.int .i64 x.d):=by rw [hb1.cell (p:=⟨w.heap.size,3,none⟩) (by simp)];go_simp
 have c4:w1.cell? ⟨w.heap.size,4,none⟩=some (.slice ad x.sub.length cap):=by rw [hb1.cell (p:=⟨w.heap.size,4,none⟩) (by simp)];go_simp
 clear hb1 H1 hb0
 have H3:=Lib.hid (sorted_any x.bulk x _ w1 (Nat.le_refl _) hB (HE.out _ hb2).1 hk8 (HE.out _ hb2).2)
 unfold Ex.val at H3
 generalize x.sort=T at *
 by_cases hE:E=0
 ·have t0:(E == 0)=true:=by rw [hE];rfl
  go_wp2_with fail
  refine H3.out.mono ?_
  rintro e w3 ⟨rfl,hb5⟩
  have hb6:Below w.heap.size w w3:=hb2.trans (hb5.mono hb2.size)
  clear hb5 H3 hb2 c0 c1 c2 c3 c4
  by_cases hT:T=2
  ·have HF:Hid (R=true):=Lib.hid (by rw [HA.out,hE,hT];rfl)
   have t3:((T:Int) == 2)=true:=by rw [hT];rfl
   go_wp2
   go_ret
   exact ⟨ret_bool' HF.out.symm,hb6⟩
  ·have HF:Hid (R=false):=Lib.hid (by rw [HA.out,hE];simpa using hT)
   have t3:((T:Int) == 2)=false:=by simp;omega
   go_wp2
   go_ret
   exact ⟨ret_bool' HF.out.symm,hb6⟩
 ·have HF:Hid (R=false):=Lib.hid (by rw [HA.out];simp [hE])
  have t0:(E == 0)=false:=by simpa using hE
  go_wp2
  go_ret
  exact ⟨ret_bool' HF.out.symm,hb2⟩
end Go.Proofs.YtknpnhodpgajbaaGreatDoor

namespace Go.Proofs.YtknpnhodpgajbaaGreatDoor
open Go.RowKit
theorem rat_size {s:ByteArray} (h:ratErr s=0):s.size≤2010∧0 < s.size:=by
 have h0:∀ {l:List UInt8},intErr l=0→l.length≤1001∧0 < l.length:=fun {l} hl => by
  obtain ⟨h1,h2⟩:=intErr_zero hl
  have:=body_len l
  refine ⟨by omega,?_⟩
  cases l with
  | nil => exact absurd h1 (by decide)
  | cons _ _ => simp
 unfold ratErr at h
 split at h
 ·have:=h0 h
  rw [bl_length] at this
  omega
 ·unfold fracErr at h
  repeat' split at h
  all_goals first
   | (cases h;done)
   | skip
  next h1 h2 h3 h4 h5 h6 h7 h8 =>
   have a:=h0 (show intErr ((bl s).take (slashI s).toNat)=0 from Decidable.not_not.1 h6)
   have b:=h0 (show intErr ((bl s).drop ((slashI s).toNat+1))=0 from Decidable.not_not.1 h7)
   rw [List.length_take] at a
   rw [List.length_drop] at b
   rw [bl_length] at a b
   omega
theorem sorts_two {l:List Ex} {a b:Nat} (h:Ex.sorts l=[a,b]):∃ y z,l=[y,z]∧y.sort=a∧z.sort=b:=by
 rw [Ex.sorts_eq] at h
 match l,h with
 | [y,z],h => simp at h;exact ⟨y,z,rfl,h.1,h.2⟩
theorem sorts_three {l:List Ex} {a b c:Nat} (h:Ex.sorts l=[a,b,c]):∃ x y z,l=[x,y,z]∧x.sort=a∧y.sort=b∧z.sort=c:=by
 rw [Ex.sorts_eq] at h
 match l,h with
 | [x,y,z],h => simp at h;exact ⟨x,y,z,rfl,h.1,h.2.1,h.2.2⟩
theorem sorts_one {l:List Ex} {a:Nat} (h:Ex.sorts l=[a]):∃ y,l=[y]∧y.sort=a:=by
 rw [Ex.sorts_eq] at h
 match l,h with
 | [y],h => simp at h;exact ⟨y,rfl,h⟩
theorem partSort_is {ra nm:ByteArray} {d:Int} {l ps:List Nat} {own s:Nat} (h:partSort ra nm d l ps own=s) (hs:s ≠ 0):l=ps∧own=s:=by
 unfold partSort at h
 split at h
 ·next hh => exact ⟨hh.2.2.2,h⟩
 ·exact absurd h.symm hs
theorem leafSort_is {k:Nat} {ra nm:ByteArray} {d:Int} {n s:Nat} (h:leafSort k ra nm d n=s) (hs:s ≠ 0):leafOk k ra nm d n∧s=1:=by
 by_cases hl:leafOk k ra nm d n
 ·rw [leafSort_yes hl] at h;exact ⟨hl,h.symm⟩
 ·rw [leafSort_no hl] at h;exact absurd h.symm hs
theorem num_cases {k:Nat} {ra nm:ByteArray} {d:Int} {l:List Ex} (h:(Ex.mk k ra nm d l).sort=1) :
  (k=1∧l=[]∧ratErr ra=0)∨(k=2∧l=[])∨(k=3∧l=[])∨(k=9∧∃ p y z,l=[p,y,z]∧p.sort=2∧y.sort=1∧z.sort=1)∨(4≤k∧k≤8∧∃ y z,l=[y,z]∧y.sort=1∧z.sort=1):=by
 rw [Ex.sort,sortOf] at h
 unfold shapeOf at h
 by_cases h4:4≤k∧k≤8
 ·rw [if_pos h4] at h
  obtain ⟨y,z,rfl,h1,h2⟩:=sorts_two (partSort_is h (by decide)).1
  exact .inr (.inr (.inr (.inr ⟨h4.1,h4.2,y,z,rfl,h1,h2⟩)))
 rw [if_neg h4] at h
 by_cases h9:k=9
 ·rw [if_pos h9] at h
  obtain ⟨p,y,z,rfl,h1,h2,h3⟩:=sorts_three (partSort_is h (by decide)).1
  exact .inr (.inr (.inr (.inl ⟨h9,p,y,z,rfl,h1,h2,h3⟩)))
 rw [if_neg h9] at h
 by_cases h11:k=11∨k=12
 ·rw [if_pos h11] at h;exact absurd (partSort_is h (by decide)).2 (by decide)
 rw [if_neg h11] at h
 by_cases h13:k=13∨k=14
 ·rw [if_pos h13] at h;exact absurd (partSort_is h (by decide)).2 (by decide)
 rw [if_neg h13] at h
 by_cases h15:k=15
 ·rw [if_pos h15] at h;exact absurd (partSort_is h (by decide)).2 (by decide)
 rw [if_neg h15] at h
 obtain ⟨hn,hl⟩:=(leafSort_is h (by decide)).1
 have hl0:l=[]:=by rw [Ex.sorts_length] at hn;exact List.length_eq_zero_iff.1 hn
 rcases hl with ⟨h1,h2,_⟩ | ⟨h1,_⟩ | ⟨h1,_⟩
 ·exact .inl ⟨h1,hl0,h2⟩
 ·exact .inr (.inl ⟨h1,hl0⟩)
 ·exact .inr (.inr (.inl ⟨h1,hl0⟩))
theorem truth_cases {k:Nat} {ra nm:ByteArray} {d:Int} {l:List Ex} (h:(Ex.mk k ra nm d l).sort=2) :
  ((k=11∨k=12)∧∃ y z,l=[y,z]∧y.sort=1∧z.sort=1)∨((k=13∨k=14)∧∃ y z,l=[y,z]∧y.sort=2∧z.sort=2)∨(k=15∧∃ y,l=[y]∧y.sort=2):=by
 rw [Ex.sort,sortOf] at h
 unfold shapeOf at h
 by_cases h4:4≤k∧k≤8
 ·rw [if_pos h4] at h;exact absurd (partSort_is h (by decide)).2 (by decide)
 rw [if_neg h4] at h
 by_cases h9:k=9
 ·rw [if_pos h9] at h;exact absurd (partSort_is h (by decide)).2 (by decide)
 rw [if_neg h9] at h
 by_cases h11:k=11∨k=12
 ·rw [if_pos h11] at h
  obtain ⟨y,z,rfl,h1,h2⟩:=sorts_two (partSort_is h (by decide)).1
  exact .inl ⟨h11,y,z,rfl,h1,h2⟩
 rw [if_neg h11] at h
 by_cases h13:k=13∨k=14
 ·rw [if_pos h13] at h
  obtain ⟨y,z,rfl,h1,h2⟩:=sorts_two (partSort_is h (by decide)).1
  exact .inr (.inl ⟨h13,y,z,rfl,h1,h2⟩)
 rw [if_neg h13] at h
 by_cases h15:k=15
 ·rw [if_pos h15] at h
  obtain ⟨y,rfl,h1⟩:=sorts_one (partSort_is h (by decide)).1
  exact .inr (.inr ⟨h15,y,rfl,h1⟩)
 rw [if_neg h15] at h
 exact absurd (leafSort_is h (by decide)).2 (by decide)
theorem eval_any (w0:World) (S:Nat) (E:EvD) (day:Int) (hE:E.Rd w0) (hF:∀ f ∈ E.F,f.vl.size≤1000000) (hO:LookO w0) :
  ∀ (N:Nat) (x:Ex),x.bulk≤N→(x.sort=1→PV w0 S E day x)∧(x.sort=2→PH w0 S E day x)
 | 0,x,hN => by have:=x.sub_lt;omega
 | N+1,.mk k ra nm d l,hN => by
  have IH:∀ y ∈ l,(y.sort=1→PV w0 S E day y)∧(y.sort=2→PH w0 S E day y):=fun y hy => eval_any w0 S E day hE hF hO N y (by have:=Ex.mem_lt (x:=.mk k ra nm d l) hy;omega)
  refine ⟨fun hs W er s hw hr hk => ?_,fun hs W er s hw hr hk => ?_⟩
  ·by_cases he:er=0
   ·subst he
    rw [if_pos rfl]
    obtain ⟨ad,cap,rfl⟩:=hr.len
    rcases num_cases hs with ⟨rfl,rfl,h3⟩ | ⟨rfl,rfl⟩ | ⟨rfl,rfl⟩ | ⟨rfl,p,y,z,rfl,h1,h2,h3⟩ | ⟨h4,h8,y,z,rfl,h1,h2⟩
    ·have e:(Ex.mk 1 ra nm d []).value E.F day=(0,ra):=by simp [Ex.value]
     rw [e]
     exact value_con ra nm d _ w0 W S E day hw (Nat.le_trans (rat_size h3).1 (by decide))
    ·have e:(Ex.mk 2 ra nm d []).value E.F day=fixR E.F nm d:=by simp [Ex.value]
     rw [e]
     exact value_fix ra nm d _ w0 W S E day hw hE hF
    ·have e:(Ex.mk 3 ra nm d []).value E.F day=fixR E.F nm day:=by simp [Ex.value]
     rw [e]
     exact value_now ra nm d _ w0 W S E day hw hE hF
    ·have e:(Ex.mk 9 ra nm d [p,y,z]).value E.F day=andR (p.hold E.F day) ByteArray.empty fun b => if b=true then y.value E.F day else z.value E.F day:=by
      rw [Ex.value,if_neg (by decide),if_neg (by decide),if_neg (by decide)]
     rw [e]
     exact value_when ra nm d p y z ad cap w0 W S E day hw hr ((IH p (by simp)).2 h1) ((IH y (by simp)).1 h2) ((IH z (by simp)).1 h3)
    ·have e:(Ex.mk k ra nm d [y,z]).value E.F day=andR (y.value E.F day) ByteArray.empty fun a => andR (z.value E.F day) ByteArray.empty fun b => op2 k a b:=by
      rw [Ex.value,if_neg (by omega),if_neg (by omega),if_neg (by omega)]
     rw [e]
     exact value_two k h4 h8 ra nm d y z ad cap w0 W S E day hw hO hr ((IH y (by simp)).1 h1) ((IH z (by simp)).1 h2)
   ·rw [if_neg he]
    exact value_err k ra nm d s w0 W S E day er hw he
  ·by_cases he:er=0
   ·subst he
    rw [if_pos rfl]
    obtain ⟨ad,cap,rfl⟩:=hr.len
    rcases truth_cases hs with ⟨hk',y,z,rfl,h1,h2⟩ | ⟨hk',y,z,rfl,h1,h2⟩ | ⟨rfl,y,rfl,h1⟩
    ·have e:(Ex.mk k ra nm d [y,z]).hold E.F day=andR (y.value E.F day) false fun a => andR (z.value E.F day) false fun b => cmpK k a b:=by
      rw [Ex.hold,if_neg (by omega),if_neg (by omega)];rfl
     rw [e]
     exact holds_cmp k hk' ra nm d y z ad cap w0 W S E day hw hr ((IH y (by simp)).1 h1) ((IH z (by simp)).1 h2)
    ·rcases hk' with rfl | rfl
     ·have e:(Ex.mk 13 ra nm d [y,z]).hold E.F day=andR (y.hold E.F day) false fun b => if b=true then z.hold E.F day else (0,false):=by rw [Ex.hold,if_pos rfl]
      rw [e]
      exact holds_and ra nm d y z ad cap w0 W S E day hw hr ((IH y (by simp)).2 h1) ((IH z (by simp)).2 h2)
     ·have e:(Ex.mk 14 ra nm d [y,z]).hold E.F day=andR (y.hold E.F day) false fun b => if b=true then (0,true) else z.hold E.F day:=by rw [Ex.hold,if_neg (by decide),if_pos rfl]
      rw [e]
      exact holds_or ra nm d y z ad cap w0 W S E day hw hr ((IH y (by simp)).2 h1) ((IH z (by simp)).2 h2)
    ·have e:(Ex.mk 15 ra nm d [y]).hold E.F day=andR (y.hold E.F day) false fun b => (0,!b):=by rw [Ex.hold]
     rw [e]
     exact holds_not ra nm d y ad cap w0 W S E day hw hr ((IH y (by simp)).2 h1)
   ·rw [if_neg he]
    exact holds_err k ra nm d s w0 W S E day er hw he
end Go.Proofs.YtknpnhodpgajbaaGreatDoor

namespace Go.Proofs.YtknpnhodpgajbaaGreatDoor
open Go.RowKit
structure EvH (x:Ex) (s:Value) (E:EvD) (w:World):Prop where
 bulk:x.bulk≤1100000
 rd:RdE w x.sub s
 k:x.k < 256
 look:LookS w
 e:E.Rd w
 fs:∀ f ∈ E.F,f.small
 cs:∀ c ∈ E.C,c.small
theorem EvH.frame {x:Ex} {s:Value} {E:EvD} {w w':World} (h:EvH x s E w) (hb:Below w.heap.size w w'):EvH x s E w':=⟨h.bulk,h.rd.frame hb,h.k,h.look.frame hb,h.e.frame hb,h.fs,h.cs⟩
theorem EvH.env {x:Ex} {s:Value} {E:EvD} {w:World} (h:EvH x s E w):Calls Tryz.prog 25 #[.agg #[.slice E.af E.F.length E.cf,.slice E.ac E.C.length E.cc]] w fun e w' => e = .returned (.int .i64 (envErr E.F E.C))∧Below w.heap.size w w' :=
 checkEnv_any E.F E.C E.af E.ac E.cf E.cc w h.e.nf h.e.nc h.e.f h.e.c h.fs h.cs
def EvW (w W:World) (x:Ex) (ad:Option Addr) (cap:Nat) (E:EvD):Prop :=
 W.cell? ⟨w.heap.size,0,none⟩=some (.int .u8 x.k)∧W.cell? ⟨w.heap.size,1,none⟩=some (.string x.ra)∧W.cell? ⟨w.heap.size,2,none⟩=some (.string x.nm)∧W.cell? ⟨w.heap.size,3,none⟩=some (.int .i64 x.d)∧W.cell? ⟨w.heap.size,4,none⟩=some (.slice ad x.sub.length cap) ∧
  W.cell? ⟨w.heap.size+1,0,none⟩=some (.slice E.af E.F.length E.cf)∧W.cell? ⟨w.heap.size+1,1,none⟩=some (.slice E.ac E.C.length E.cc)
theorem ev_world (w:World) (x:Ex) (ad:Option Addr) (cap:Nat) (E:EvD):∃ W,(w.alloc (.cells #[.int .u8 x.k,.string x.ra,.string x.nm,.int .i64 x.d,.slice ad x.sub.length cap] 25)).alloc (.cells #[.slice E.af E.F.length E.cf,.slice E.ac E.C.length E.cc] 33)=W∧Below w.heap.size w W∧w.heap.size+2≤W.heap.size∧EvW w W x ad cap E :=
 ⟨_,rfl,below_a2 _ _ _,by simp,by go_simp,by go_simp,by go_simp,by go_simp,by go_simp,by go_simp,by go_simp⟩
theorem EvW.keep {w W W2:World} {x:Ex} {ad:Option Addr} {cap:Nat} {E:EvD} (h:EvW w W x ad cap E) (hb:Below W.heap.size W W2):EvW w W2 x ad cap E:=by
 have k:∀ {p u},W.cell? p=some u→W2.cell? p=some u:=fun {p u} hu => by rw [hb.cell (p:=p) (World.block_lt_of_cell? W _ hu)];exact hu
 obtain ⟨a,b,c,d,e,f,g⟩:=h
 exact ⟨k a,k b,k c,k d,k e,k f,k g⟩
set_option maxHeartbeats 4000000 in
set_option maxRecDepth 100000 in
theorem begin_any (x:Ex) (s:Value) (want:Nat) (day:Int) (E:EvD) (w:World) (h:EvH x s E w) :
  Calls Tryz.prog 138 #[x.val s,.int .u8 (want:Int),.int .i64 day,E.val] w fun e w' => ∃ S,e = .returned (.pointer (some ⟨S,0,none⟩))∧Stt w w' S E day (begE x want day E.F E.C):=by
 obtain ⟨ad,cap,rfl⟩:=h.rd.len
 obtain ⟨W0,hW0,hb0,hz0,hv0⟩:=ev_world w x ad cap E
 have H:=Lib.hid (fun W (hb:Below w.heap.size w W) => h.frame hb)
 have H1:Hid (∀ W,Below w.heap.size w W→Calls Tryz.prog 158 #[.agg #[.int .u8 x.k,.string x.ra,.string x.nm,.int .i64 x.d,.slice ad x.sub.length cap]] W fun e w' => e = .returned (.int .i64 x.err)∧Below W.heap.size W w') :=
  Lib.hid fun W hb => ochk_any x _ W (by have:=h.bulk;omega) (H.out W hb).rd h.k (H.out W hb).look
 have H2:Hid (∀ W,Below w.heap.size w W→Calls Tryz.prog 159 #[.agg #[.int .u8 x.k,.string x.ra,.string x.nm,.int .i64 x.d,.slice ad x.sub.length cap]] W fun e w' => e = .returned (.int .u8 ((x.sort:Nat):Int))∧Below W.heap.size W w') :=
  Lib.hid fun W hb => sorted_any x.bulk x _ W (Nat.le_refl _) (by have:=h.bulk;omega) (H.out W hb).rd h.k (H.out W hb).look
 obtain ⟨p0,p1,p2,p3,p4,p5,p6⟩:=hv0
 have HV:=Lib.hid (fun W2 (hb:Below W0.heap.size W0 W2) => EvW.keep ⟨p0,p1,p2,p3,p4,p5,p6⟩ hb)
 clear h
 unfold Ex.val EvD.val
 go_enter Tryz.func138,Tryz.ntmps138
 go_upto_region 1 with (fail)
 clear hW0
 go_region_held3 (fun w' => w'.cell? ⟨w.heap.size,0,none⟩=some (.int .u8 x.k)∧w'.cell? ⟨w.heap.size,1,none⟩=some (.string x.ra)∧w'.cell? ⟨w.heap.size,2,none⟩=some (.string x.nm)∧w'.cell? ⟨w.heap.size,3,none⟩=some (.int .i64 x.d)∧w'.cell? ⟨w.heap.size,4,none⟩=some (.slice ad x.sub.length cap)∧w'.cell? ⟨w.heap.size+1,0,none⟩=some (.slice E.af E.F.length E.cf)∧w'.cell? ⟨w.heap.size+1,1,none⟩=some (.slice E.ac E.C.length E.cc))
  (first | assumption | exact ⟨by assumption,by assumption,by assumption,by assumption,by assumption,by assumption,by assumption⟩ | go_keep)
  (first | (go_at_call 158;refine (H1.out _ (below_drewN hb0 1)).mono ?_;rintro e w1 ⟨rfl,hb1⟩;obtain ⟨p0,p1,p2,p3,p4,p5,p6⟩:=HV.out w1 ((below_drewN (Below.refl _ _) 1).trans hb1)))
 have hz1:W0.heap.size≤w1.heap.size:=hb1.size
 have hs1:Stt w (w1.alloc (.cells #[.slice E.af E.F.length E.cf,.slice E.ac E.C.length E.cc,.int .i64 day,.int .i64 x.err] 180)) w1.heap.size E day x.err :=
  ⟨(hb0.trans (((below_drewN (Below.refl _ _) 1).trans hb1).mono hb0.size)).trans ((below_a1 w1 _).mono (by omega)),by omega,BoxN.new _ _ _⟩
 have HV1:=Lib.hid (fun W2 (hb:Below w1.heap.size w1 W2) => HV.out W2 (((below_drewN (Below.refl _ _) 1).trans hb1).trans (hb.mono hz1)))
 obtain ⟨W1,hW1⟩:∃ W,w1.alloc (.cells #[.slice E.af E.F.length E.cf,.slice E.ac E.C.length E.cc,.int .i64 day,.int .i64 x.err] 180)=W:=⟨_,rfl⟩
 have hb2:Below w1.heap.size w1 W1:=by rw [← hW1];exact below_a1 _ _
 rw [hW1] at hs1 ⊢
 clear p0 p1 p2 p3 p4 p5 p6
 obtain ⟨p0,p1,p2,p3,p4,p5,p6⟩:=HV1.out W1 hb2
 have HV2:=Lib.hid (fun W2 (hb:Below W1.heap.size W1 W2) => HV1.out W2 (hb2.trans (hb.mono hb2.size)))
 generalize w1.heap.size=S at *
 clear hW1 hb1 hb0 HV HV1 H1 hb2 hz0 hz1
 have q3:=hs1.cells.2.2.2
 have HF:Hid (∀ W er,Stt w W S E day er→er=begE x want day E.F E.C→∃ S',Ending.returned (.pointer (some ⟨S,0,none⟩)) = .returned (.pointer (some ⟨S',0,none⟩))∧Stt w W S' E day (begE x want day E.F E.C)) :=
  Lib.hid fun W er h1 h2 => ⟨S,rfl,by rw [← h2];exact h1⟩
 by_cases he:x.err=0
 ·have HS:=Lib.hid (H2.out W1 hs1.b)
  have te:(x.err == 0)=true:=by rw [he];rfl
  have hlt:=hs1.lt
  by_cases hso:x.sort=want
  ·have tso:(((x.sort:Nat):Int) != (want:Int))=false:=by rw [hso];simp
   have HB:Hid (begE x want day E.F E.C=if envErr E.F E.C ≠ 0 then envErr E.F E.C else if isDay day=true then 0 else 2):=by
    show _=_
    rw [begE,if_neg (fun h => h he),if_neg (fun h => h hso)]
   have Hs1:=Lib.hid hs1
   have He:=Lib.hid he
   clear hs1 H2 hso he
   go_wp2_with fail
   refine HS.out.mono ?_
   rintro e w2 ⟨rfl,hb2⟩
   have hs2:=Hs1.out.below hb2
   rw [He.out] at hs2
   clear p0 p1 p2 p3 p4 p5 p6 q3
   obtain ⟨p0,p1,p2,p3,p4,p5,p6⟩:=HV2.out w2 hb2
   have q3:=hs2.cells.2.2.2
   have HE:=Lib.hid ((H.out w2 hs2.b).env)
   have Hs2:=Lib.hid hs2
   have hlt2:=hs2.lt
   clear HV2 Hs1 hb2 HS H hs2 te He hlt
   go_wp2_with fail
   refine HE.out.mono ?_
   rintro e w3 ⟨rfl,hb3⟩
   have hs3:=Hs2.out.below hb3
   have hs4:=hs3.set (envErr E.F E.C)
   have f3:=hs3.x.frozen 3
   have q3:=hs3.cells.2.2.2
   have q4:=hs4.cells.2.2.2
   have f4:=hs4.x.frozen 3
   have HD:=Lib.hid (fun W => within_any day W)
   have Hs4:=Lib.hid hs4
   clear hb3 hs3 hs4 Hs2 HE p0 p1 p2 p3 p4 p5 p6
   by_cases hz:envErr E.F E.C=0
   ·have tz:(envErr E.F E.C == 0)=true:=by rw [hz];rfl
    have HB2:Hid (begE x want day E.F E.C=if isDay day=true then 0 else 2):=by show _=_;rw [HB.out,if_neg (fun h => h hz)]
    have Hz:=Lib.hid hz
    clear hz HB
    cases hd:isDay day with
    | true =>
     rw [hd] at HD HB2
     clear hd
     go_wp2_with fail
     refine (HD.out _).mono ?_
     rintro e w5 ⟨rfl,rfl⟩
     have HG:=Lib.hid (HF.out _ _ Hs4.out (by rw [HB2.out,Hz.out];rfl))
     clear HF HB2 Hs4 Hz
     go_wp2
     go_ret
     exact HG.out
    | false =>
     rw [hd] at HD HB2
     clear hd
     go_wp2_with fail
     refine (HD.out _).mono ?_
     rintro e w5 ⟨rfl,rfl⟩
     have HG:=Lib.hid (HF.out _ _ (Hs4.out.set 2) (by rw [HB2.out];rfl))
     clear HF HB2 Hs4 Hz
     go_wp2
     go_ret
     exact HG.out
   ·have tz:(envErr E.F E.C == 0)=false:=by rw [beq_eq_false_iff_ne];exact hz
    have HG:=Lib.hid (HF.out _ _ Hs4.out (by rw [HB.out,if_pos hz]))
    clear HF HB Hs4 hz
    go_wp2
    go_ret
    exact HG.out
  ·have tso:(((x.sort:Nat):Int) != (want:Int))=true:=by rw [bne_iff_ne];omega
   have HB:Hid (begE x want day E.F E.C=32):=by
    show _=_
    rw [begE,if_neg (fun h => h he),if_pos hso]
   have Hs1:=Lib.hid hs1
   clear hs1 H2 hso he
   go_wp2_with fail
   refine HS.out.mono ?_
   rintro e w2 ⟨rfl,hb2⟩
   have hs2:=Hs1.out.below hb2
   have q3:=hs2.cells.2.2.2
   have f3:=hs2.x.frozen 3
   have HG:=Lib.hid (HF.out _ _ (hs2.set 32) HB.out.symm)
   have hlt2:=hs2.lt
   clear HV2 Hs1 hb2 HS H hs2 HF HB te p0 p1 p2 p3 p4 p5 p6
   go_wp2
   go_ret
   exact HG.out
 ·have te:(x.err == 0)=false:=by rw [beq_eq_false_iff_ne];exact he
  have HG:=Lib.hid (HF.out _ _ hs1 (by rw [begE,if_pos he]))
  clear HF hs1 H H2 he HV2
  go_wp2
  go_ret
  exact HG.out
end Go.Proofs.YtknpnhodpgajbaaGreatDoor
