/- A part. -/
import Derived.Deep.Quiet
import Derived.Test.YtknpnhodpgajbaaGreatDoorG07
import Derived.Laws.EntriesVeiled
import Derived.Maps.Keyed
import Derived.Laws.IdiomMaps
import Derived.LaidMore
import Derived.MakeChecks
import Derived.OpenShut
import Derived.WalkArith
import Derived.ProofKit
set_option maxHeartbeats 8000000
set_option maxRecDepth 100000
namespace Go.Proofs.YtknpnhodpgajbaaGreatDoor
open Go.RowKit
def Ext (w W:World):Prop:=Below w.heap.size w W
theorem Ext.cell {w W:World} (h:Ext w W) {b o:Nat} {v:Value} (hc:w.cell? ⟨b,o,none⟩=some v):W.cell? ⟨b,o,none⟩=some v:=by
 rw [Below.cell h (p:=⟨b,o,none⟩) (World.block_lt_of_cell? w _ hc)];exact hc
theorem Ext.below {w W:World} (h:Ext w W):Below w.heap.size w W:=h
theorem Zht {P:Program} {f:FuncId} {args:Array Value} {v:Value} {w:World} (h:∀ W,Calls P f args W fun e w'=>e = .returned v∧Below W.heap.size W w') (W:World) (hW:Ext w W) :
  Calls P f args W fun e w''=>e = .returned v∧Ext w w'' :=
 (h W).mono fun _ _ ⟨he,hb⟩=>⟨he,Below.trans hW (hb.mono (Below.size hW))⟩
theorem Zlx {P:Program} {f:FuncId} {args:Array Value} {v:Value} {w:World} (h:∀ W,Ext w W→Calls P f args W fun e w'=>e = .returned v∧Below W.heap.size W w') (W:World) (hW:Ext w W) :
  Calls P f args W fun e w''=>e = .returned v∧Ext w w'' :=
 (h W hW).mono fun _ _ ⟨he,hb⟩=>⟨he,Below.trans hW (hb.mono (Below.size hW))⟩
theorem Zch {P:Program} {f:FuncId} {args:Array Value} {v:Value} {w:World} (h:∀ W,Calls P f args W fun e w'=>e = .returned v∧W=w') (W:World) (hW:Ext w W) :
  Calls P f args W fun e w''=>e = .returned v∧Ext w w'' :=
 (h W).mono fun _ _ ⟨he,hb⟩=>⟨he,hb ▸ hW⟩
theorem Zbk {P:Program} {id:Nat} {Q:Exit→Act→World→Prop} {a:Act} {w:World} {l:List Oper} (F:World→Prop) (hF:∀ W,Ext w W→F W)
  (hm:P.follows .mixedOrders=true) (hB:Region.lexB .any l.toArray=true)
  (h:(∀ W,Ext w W→F W)→wpQuiet P l.toArray (Ext w) (fun a'=>∀ w',Ext w w'→Q .normal a' w') l a):(Code.region id l.toArray true).wp P Q a w :=
 wp_region_quiet (C:=Ext w) hm hB (Below.drew (Below.refl _ _)) (by simpa using h hF)
def Zvg (w:World) (bm:Nat) (W:World) (k:Nat):Option (List Nat × Nat)→Prop
 | none=>(Instr.lookup 230 (.map (some bm)) (.int .u8 (k:Int)) true).run Tryz.prog W = .ok (.tuple #[.agg #[.slice none 0 0,.int .u8 0],.bool false]) W
 | some (ps,own)=>∃ b off cap,(Instr.lookup 230 (.map (some bm)) (.int .u8 (k:Int)) true).run Tryz.prog W = .ok (.tuple #[.agg #[.slice (some ⟨b,off,none⟩) ps.length cap,.int .u8 (own:Int)],.bool true]) W ∧
   ∀ (j p:Nat),ps[j]? = some p→w.cell? ⟨b,off+j,none⟩=some (.int .u8 (p:Int))
def Ze6 (w:World):Prop:=∃ bm,w.cell? ⟨2,0,none⟩=some (.map (some bm))∧∀ W,Below w.heap.size w W→∀ k,k < 256→Zvg w bm W k (Zbl k)
theorem Ze6.frame {w w':World} (h:Ze6 w) (hb:Below w.heap.size w w'):Ze6 w':=by
 obtain ⟨bm,hc,h2⟩:=h;refine ⟨bm,by rw [hb.cell (p:=⟨2,0,none⟩) (World.block_lt_of_cell? w _ hc)];exact hc,fun W hW k hk=>?_⟩;have h3:=h2 W (hb.trans (hW.mono hb.size)) k hk
 cases hs:Zbl k with
 | none=>rw [hs] at h3;exact h3
 | some q =>
  obtain ⟨ps,own⟩:=q;rw [hs] at h3;obtain ⟨b,off,cap,h4,h5⟩:=h3;refine ⟨b,off,cap,h4,fun j p hj=>?_⟩;have h6:=h5 j p hj;rw [hb.cell (p:=⟨b,off+j,none⟩) (World.block_lt_of_cell? w _ h6)];exact h6
theorem Zgf {ra nm:ByteArray} {d:Int} {l ps:List Nat} {own:Nat} (h : ¬ (ra.size=0∧nm.size=0∧d=0∧l=ps)):Zct ra nm d l ps own=0:=by unfold Zct;rw [if_neg h]
theorem Zpl {ra nm:ByteArray} {d:Int} {l ps:List Nat} {own:Nat} (h:ra.size=0∧nm.size=0∧d=0∧l=ps):Zct ra nm d l ps own=own:=by unfold Zct;rw [if_pos h]
theorem Zpp {l ps:List Nat} {k a:Nat} (h:l.take k=ps.take k) (h1:l[k]? = some a) (h2:ps[k]? = some a):l.take (k+1)=ps.take (k+1):=by
 rw [Zau h1,Zau h2,h]
theorem Zxy {xs:List Ex} {k:Nat} {y:Ex} (h:xs[k]? = some y):(Ex.sorts xs)[k]? = some y.sort:=by
 rw [Ex.sorts_eq,List.getElem?_map,h];rfl
theorem Zq9 (k:Nat) (ra nm:ByteArray) (d:Int) (xs:List Ex) (ad:Option Addr) (cap:Nat) (ps:List Nat) (own bm b off capp:Nat) (w:World) (hn:xs.length≤2000000)
  (HI:Hid (∀ y,y ∈ xs→∀ (s:Value) (W:World),RdE W y.sub s→Ze6 W→Calls Tryz.prog 159 #[y.val s] W fun e w'=>e = .returned (.int .u8 ((y.sort:Nat):Int))∧Below W.heap.size W w'))
  (HS:Hid (RdE w xs (.slice ad xs.length cap))) (HL:Hid (Ze6 w)) (hm:w.cell? ⟨2,0,none⟩=some (.map (some bm)))
  (hsh:(Instr.lookup 230 (.map (some bm)) (.int .u8 (k:Int)) true).run Tryz.prog (w.alloc (.cells #[.int .u8 (k:Int),.string ra,.string nm,.int .i64 d,.slice ad xs.length cap] 25)) = .ok (.tuple #[.agg #[.slice (some ⟨b,off,none⟩) ps.length capp,.int .u8 (own:Int)],.bool true]) (w.alloc (.cells #[.int .u8 (k:Int),.string ra,.string nm,.int .i64 d,.slice ad xs.length cap] 25)))
  (HC:Hid (∀ (j p:Nat),ps[j]? = some p→w.cell? ⟨b,off+j,none⟩=some (.int .u8 (p:Int)))) :
  Calls Tryz.prog 159 #[.agg #[.int .u8 (k:Int),.string ra,.string nm,.int .i64 d,.slice ad xs.length cap]] w fun e w'=>e = .returned (.int .u8 ((Zct ra nm d (Ex.sorts xs) ps own:Nat):Int))∧Below w.heap.size w w':=by
 have hmb:2 < w.heap.size:=World.block_lt_of_cell? w _ hm;have hb0:=Zaz w (.cells #[.int .u8 (k:Int),.string ra,.string nm,.int .i64 d,.slice ad xs.length cap] 25) (.cells #[.slice (some ⟨b,off,none⟩) ps.length capp,.int .u8 (own:Int)] 228);by_cases hgood:ra.size=0∧nm.size=0∧d=0∧xs.length=ps.length
 ·obtain ⟨g1,g2,rfl,g4⟩:=hgood;have HX:Hid (Ex.sorts xs ≠ ps→Zct ra nm 0 (Ex.sorts xs) ps own=0):=Lh (fun h=>Zgf (fun hh=>h hh.2.2.2));have HY:Hid (Ex.sorts xs=ps→Zct ra nm 0 (Ex.sorts xs) ps own=own):=Lh (fun h=>Zpl ⟨g1,g2,rfl,h⟩);rw [Zpo] at g1 g2;generalize Zct ra nm 0 (Ex.sorts xs) ps own=R at *;rw [← g4] at hsh hb0;have HG:=Lh g4;clear g4;go_enter Tryz.func159,Tryz.ntmps159
  go_wp2_with fail;go_loopw [43] (fun i wr=>∃ (j:Nat),j≤xs.length∧i = .int .i64 (j:Int)∧Hid ((Ex.sorts xs).take j=ps.take j)∧Below w.heap.size w wr∧wr.cell? ⟨w.heap.size+1,0,none⟩=some (.slice (some ⟨b,off,none⟩) xs.length capp)∧wr.cell? ⟨w.heap.size+1,1,none⟩=some (.int .u8 (own:Int))) (fun i _=>xs.length - (intOf i).toNat)
  case atStart=>exact ⟨0,Nat.zero_le _,rfl,Lh (by simp),hb0,by go_simp,by go_simp⟩
  case round =>
   clear hb0;obtain ⟨j,hj,rfl,HT,hbel,q0,q1⟩:=hrel;by_cases hlt:j < xs.length
   ·obtain ⟨y,hy⟩:∃ y,xs[j]? = some y:=⟨_,List.getElem?_eq_getElem hlt⟩
    obtain ⟨p,hp⟩:∃ p,ps[j]? = some p:=⟨_,List.getElem?_eq_getElem (by have:=HG.out;omega)⟩
    obtain ⟨b',off',s',rfl,c0,c1,c2,c3,c4,hs',hk8⟩:=(HS.out.frame hbel).at hy;obtain ⟨ad',cap',rfl⟩:=hs'.len;have hpc:=HC.out j p hp;have hbb:b < w.heap.size:=World.block_lt_of_cell? w _ hpc;have hpw:wr.cell? ⟨b,off+j,none⟩=some (.int .u8 (p:Int)):=by rw [hbel.cell (p:=⟨b,off+j,none⟩) hbb];exact hpc
    have hbb2:b < wr.heap.size:=by have:=hbel.size;omega
    have hblk:b' < wr.heap.size:=World.block_lt_of_cell? wr _ c0;have hbx:w.heap.size+1 < wr.heap.size:=World.block_lt_of_cell? wr _ q0;have hzw:=hbel.size;have hk1:(0:Int)≤(j:Int):=by omega
    have hk2:(j:Int) < (xs.length:Int):=by omega
    have HZ:Hid (∀ W,Ext (wr.alloc (.cells #[.int .u8 (y.k:Int),.string y.ra,.string y.nm,.int .i64 y.d,.slice ad' y.sub.length cap'] 25)) W→Calls Tryz.prog 159 #[.agg #[.int .u8 (y.k:Int),.string y.ra,.string y.nm,.int .i64 y.d,.slice ad' y.sub.length cap']] W fun e w'=>e = .returned (.int .u8 ((y.sort:Nat):Int))∧Below W.heap.size W w') :=
     Lh fun W hW=>HI.out y (List.mem_of_getElem? hy) _ W (hs'.frame ((Zac wr _).trans (Below.mono hW (by simp)))) (HL.out.frame ((hbel.alloc hzw _).trans (Below.mono hW (by simp;omega))))
    have HYs:Hid ((Ex.sorts xs)[j]? = some y.sort):=Lh (Zxy hy);have HPs:=Lh hp;clear hy hs' hp hpc;go_wp2;refine Zbk (fun W'=>W'.cell? ⟨wr.heap.size,0,none⟩=some (.int .u8 (y.k:Int))∧W'.cell? ⟨wr.heap.size,1,none⟩=some (.string y.ra)∧W'.cell? ⟨wr.heap.size,2,none⟩=some (.string y.nm)∧W'.cell? ⟨wr.heap.size,3,none⟩=some (.int .i64 y.d)∧W'.cell? ⟨wr.heap.size,4,none⟩=some (.slice ad' y.sub.length cap')∧W'.cell? ⟨w.heap.size+1,0,none⟩=some (.slice (some ⟨b,off,none⟩) xs.length capp)∧W'.cell? ⟨b,off+j,none⟩=some (.int .u8 (p:Int))) (fun W' hW'=>⟨hW'.cell (by go_simp),hW'.cell (by go_simp),hW'.cell (by go_simp),hW'.cell (by go_simp),hW'.cell (by go_simp),hW'.cell (by go_simp),hW'.cell (by go_simp)⟩) (by kernel_rfl) (by kernel_rfl) ?_
    intro HCW;repeat (first | go_big_quiet_skip | (go_big_quiet_want;apply Exists.intro;refine ⟨fun W hW=>?_,?_⟩;(focus (obtain ⟨p0,p1,p2,p3,p4,p5,p6⟩:=HCW W hW;go_simp;first | done | rfl | with_reducible exact Zlx HZ.out W hW));(simp only [Act.put,List.setIfInBounds_toArray,List.set_cons_zero,List.set_cons_succ]);go_big_quiet_on))
    refine wpQuiet_nil ?_;intro W hW;have q2:W.cell? ⟨w.heap.size+1,0,none⟩=some (.slice (some ⟨b,off,none⟩) xs.length capp):=hW.cell (by go_simp);have q3:W.cell? ⟨w.heap.size+1,1,none⟩=some (.int .u8 (own:Int)):=hW.cell (by go_simp);have hb3:Below w.heap.size w W:=(hbel.alloc hzw _).trans (Below.mono hW (by simp;omega));clear hW HCW HZ hbel q0 q1 hpw c0 c1 c2 c3 c4;by_cases hyp:y.sort=p
    ·have HN:Hid ((Ex.sorts xs).take (j+1)=ps.take (j+1)):=Lh (Zpp HT.out (by rw [HYs.out,hyp]) HPs.out);have hyp':((y.sort:Int) == (p:Int))=true:=by rw [hyp];simp
     have hyp2:((y.sort:Int) != (p:Int))=false:=by rw [hyp];simp
     go_wp2;go_roundw
     case rel=>exact ⟨j+1,by omega,by go_num,HN,hb3,q2,q3⟩
     case measure=>simp [intOf];omega
    ·have HF:Hid (R=0):=Lh (HX.out (fun h=>by
      have h1:=HYs.out;rw [h,HPs.out] at h1;exact hyp (Option.some.inj h1).symm))
     have hyp2:((y.sort:Int) != (p:Int))=true:=by rw [bne_iff_ne];omega
     go_wp2;go_ret;exact ⟨by rw [HF.out];rfl,hb3⟩
   ·obtain rfl:j=xs.length:=by omega
    have HF:Hid (R=own):=Lh (HY.out (by
     have h:=HT.out;rw [HG.out,List.take_length,List.take_of_length_le (by rw [Ex.sorts_length,HG.out];exact Nat.le_refl _)] at h;exact h))
    go_wp2;go_ret;exact ⟨by rw [HF.out];rfl,hbel⟩
 ·have HF:Hid (Zct ra nm d (Ex.sorts xs) ps own=0):=Lh (Zgf (fun h=>hgood ⟨h.1,h.2.1,h.2.2.1,by rw [← Ex.sorts_length xs,h.2.2.2]⟩));generalize Zct ra nm d (Ex.sorts xs) ps own=R at *;go_enter Tryz.func159,Tryz.ntmps159
  go_wp2_with fail
  all_goals first
   | (go_ret;exact ⟨by rw [HF.out];rfl,hb0⟩)
   | (exfalso;exact hgood ⟨(Zpo _).2 (by assumption),(Zpo _).2 (by assumption),by first | assumption | (rename_i hq _;simpa using hq) | simp_all,by omega⟩)
theorem Zgs:∀ (N:Nat) (x:Ex) (s:Value) (w:World),x.bulk≤N→x.bulk≤2000000→RdE w x.sub s→x.k < 256→Ze6 w →
  Calls Tryz.prog 159 #[x.val s] w fun e w'=>e = .returned (.int .u8 ((x.sort:Nat):Int))∧Below w.heap.size w w':=by
 intro N;induction N with
 | zero =>
  intro x s w h0;rw [Ex.bulk_eq] at h0;omega
 | succ N ih =>
  intro x s w hN hB hs hk8 hL;obtain ⟨ad,cap,rfl⟩:=hs.len;have HS:=Lh hs;have HI:=Lh ih;have HL:=Lh hL;have hbq:=x.bulk_eq;have hlen:=Ex.bulks_len x.sub;have hlt0:=x.sub_lt;have hn:x.sub.length≤2000000:=by omega
  have hr1:x.ra.size≤2000000:=by omega
  have hr2:x.nm.size≤2000000:=by omega
  have hb0:=Zac w (.cells #[.int .u8 x.k,.string x.ra,.string x.nm,.int .i64 x.d,.slice ad x.sub.length cap] 25);have hso:=x.sort_eq;unfold Zd9 at hso;rw [Ex.sorts_length] at hso;obtain ⟨bm,hm,hall⟩:=hL;have hsh:=hall _ hb0 x.k hk8;have hmb:2 < w.heap.size:=World.block_lt_of_cell? w _ hm;clear hs ih hbq hall
  cases hsk:Zbl x.k with
  | none =>
   rw [hsk] at hsh hso;simp only [] at hso;simp only [Zvg] at hsh;have HLf:=Lh (Zwp x.k x.sub.length x.ra x.nm x.d ad cap);rw [hso];unfold Ex.val;generalize hX:Zdn x.k x.ra x.nm x.d x.sub.length=LS at *;clear hX hso hsk;go_enter Tryz.func159,Tryz.ntmps159
   go_wp2_with fail;refine (HLf.out _ hn hr1 hr2).mono ?_;rintro e w1 ⟨rfl,hb1⟩;have hb2:Below w.heap.size w w1:=(Zaz w _ _).trans (hb1.mono (by simp;omega));clear hb1;go_wp2;go_ret;exact ⟨rfl,hb2⟩
  | some q =>
   obtain ⟨ps,own⟩:=q;rw [hsk] at hsh hso;simp only [] at hso;obtain ⟨b,off,capp,h4,h5⟩:=hsh;rw [hso];exact Zq9 x.k x.ra x.nm x.d x.sub ad cap ps own bm b off capp w hn (Lh fun y hy s W hr hl=>by
    have hlt:=Ex.mem_lt hy;have hk:y.k < 256:=by
     obtain ⟨j,hj⟩:=List.mem_iff_getElem?.1 hy;obtain ⟨_,_,_,_,_,_,_,_,_,_,h⟩:=HS.out.at hj;exact h
    exact HI.out y s W (by omega) (by omega) hr hk hl) HS HL hm h4 (Lh h5)
theorem Ex.err_many {x:Ex} (h:500 < x.size∨60 < x.depth):x.err=4:=by unfold Ex.err;rw [if_pos h]
theorem Ex.err_bad {x:Ex} (h : ¬ (500 < x.size∨60 < x.depth)) (h1:x.sort=0):x.err=8:=by unfold Ex.err;rw [if_neg h,if_pos h1]
theorem Ex.err_ok {x:Ex} (h : ¬ (500 < x.size∨60 < x.depth)) (h1:x.sort ≠ 0):x.err=0:=by unfold Ex.err;rw [if_neg h,if_neg h1]
theorem Znh (x:Ex) (s:Value) (w:World) (hB:x.bulk≤2000000) (hs:RdE w x.sub s) (hk8:x.k < 256) (hL:Ze6 w) :
  Calls Tryz.prog 158 #[x.val s] w fun e w'=>e = .returned (.int .i64 x.err)∧Below w.heap.size w w':=by
 obtain ⟨ad,cap,rfl⟩:=hs.len;have hb0:=Zac w (.cells #[.int .u8 x.k,.string x.ra,.string x.nm,.int .i64 x.d,.slice ad x.sub.length cap] 25);have HE:Hid (∀ W,Below w.heap.size w W→RdE W x.sub (.slice ad x.sub.length cap)∧Ze6 W):=Lh fun W hW=>⟨hs.frame hW,hL.frame hW⟩
 have H1:=Lh (Zo7 x.bulk x _ _ (Nat.le_refl _) hB (HE.out _ hb0).1);have hsz:=x.size_le;have hdp:=x.depth_le;clear hs hL;have hkeep:∀ (A B:World),Below A.heap.size A B→(∀ (j:Nat) (u:Value),A.cell? ⟨w.heap.size,j,none⟩=some u→B.cell? ⟨w.heap.size,j,none⟩=some u):=fun A B hb j u h=>by
  rw [hb.cell (p:=⟨w.heap.size,j,none⟩) (World.block_lt_of_cell? A _ h)];exact h
 have HK:=Lh hkeep;clear hkeep;have HM:=Lh (Ex.err_many (x:=x));have HB:=Lh (Ex.err_bad (x:=x));have HO:=Lh (Ex.err_ok (x:=x));generalize x.err=R at *;unfold Ex.val at H1 ⊢;go_enter Tryz.func158,Tryz.ntmps158
 go_wp2_with fail;refine H1.out.mono ?_;rintro e w1 ⟨rfl,hb1⟩;have hb2:Below w.heap.size w w1:=hb0.trans (hb1.mono (by simp));have c0:=HK.out _ _ hb1 0 (.int .u8 x.k) (by go_simp);have c1:=HK.out _ _ hb1 1 (.string x.ra) (by go_simp);have c2:=HK.out _ _ hb1 2 (.string x.nm) (by go_simp);have c3:=HK.out _ _ hb1 3 (.int .i64 x.d) (by go_simp);have c4:=HK.out _ _ hb1 4 (.slice ad x.sub.length cap) (by go_simp)
 clear hb1 H1 hb0;have H2:=Lh (Zt7 x.bulk x _ 60 w1 (Nat.le_refl _) hB (by omega) (HE.out _ hb2).1);unfold Ex.val at H2;by_cases hsz5:500 < x.size
 ·have HF:=Lh (HM.out (.inl hsz5));have t1:(500:Int) < (x.size:Int):=by omega
  go_wp2;go_ret;exact ⟨by rw [HF.out];rfl,hb2⟩
 ·have t1:decide ((500:Int) < (x.size:Int))=false:=by rw [decide_eq_false_iff_not];omega
  have t1':decide (500 < x.size)=false:=by rw [decide_eq_false_iff_not];omega
  obtain ⟨m,hm,hmd⟩:∃ m:Nat,min (60+1) x.depth=m∧(60 < m ↔ 60 < x.depth):=⟨_,rfl,by omega⟩
  rw [hm] at H2;go_wp2_with fail;refine H2.out.mono ?_;rintro e w2 ⟨rfl,hb3⟩;have hb4:Below w.heap.size w w2:=hb2.trans (hb3.mono hb2.size);have d0:=HK.out _ _ hb3 0 _ c0;have d1:=HK.out _ _ hb3 1 _ c1;have d2:=HK.out _ _ hb3 2 _ c2;have d3:=HK.out _ _ hb3 3 _ c3;have d4:=HK.out _ _ hb3 4 _ c4;clear hb3 H2 hb2 c0 c1 c2 c3 c4;have H3:=Lh (Zgs x.bulk x _ w2 (Nat.le_refl _) hB (HE.out _ hb4).1 hk8 (HE.out _ hb4).2)
  unfold Ex.val at H3;by_cases hdp6:60 < x.depth
  ·have HF:=Lh (HM.out (.inr hdp6));have t2:(60:Int) < (m:Int):=by omega
   go_wp2;go_ret;exact ⟨by rw [HF.out];rfl,hb4⟩
  ·have t2:decide ((60:Int) < (m:Int))=false:=by rw [decide_eq_false_iff_not];omega
   have t2':decide (60 < m)=false:=by rw [decide_eq_false_iff_not];omega
   go_wp2_with fail;refine H3.out.mono ?_;rintro e w3 ⟨rfl,hb5⟩;have hb6:Below w.heap.size w w3:=hb4.trans (hb5.mono hb4.size);clear hb5 H3 hb4 d0 d1 d2 d3 d4;by_cases hT:x.sort=0
   ·have HF:=Lh (HB.out (by omega) hT);have t3:((x.sort:Int) == 0)=true:=by rw [hT];rfl
    go_wp2;go_ret;exact ⟨by rw [HF.out];rfl,hb6⟩
   ·have HF:=Lh (HO.out (by omega) hT);have t3:((x.sort:Int) == 0)=false:=by simpa using hT
    go_wp2;go_ret;exact ⟨by rw [HF.out];rfl,hb6⟩
theorem Zsa (x:Ex) (s:Value) (w:World) (hB:x.bulk≤2000000) (hs:RdE w x.sub s) (hk8:x.k < 256) (hL:Ze6 w) :
  Calls Tryz.prog 114 #[x.val s] w fun e w'=>e = .returned (.bool (x.isA 1))∧Below w.heap.size w w':=by
 obtain ⟨ad,cap,rfl⟩:=hs.len;have hb0:=Zac w (.cells #[.int .u8 x.k,.string x.ra,.string x.nm,.int .i64 x.d,.slice ad x.sub.length cap] 25);have HE:Hid (∀ W,Below w.heap.size w W→RdE W x.sub (.slice ad x.sub.length cap)∧Ze6 W):=Lh fun W hW=>⟨hs.frame hW,hL.frame hW⟩
 have H1:=Lh (Znh x _ _ hB (HE.out _ hb0).1 hk8 (HE.out _ hb0).2);clear hs hL;have HA:Hid (x.isA 1=(decide (x.err=0) && decide (x.sort=1))):=Lh rfl;unfold Ex.val at H1 ⊢;generalize x.isA 1=R at *;generalize x.err=E at *;go_enter Tryz.func114,Tryz.ntmps114
 go_wp2_with fail;refine H1.out.mono ?_;rintro e w1 ⟨rfl,hb1⟩;have hb2:Below w.heap.size w w1:=hb0.trans (hb1.mono (by simp));have c0:w1.cell? ⟨w.heap.size,0,none⟩=some (.int .u8 x.k):=by rw [hb1.cell (p:=⟨w.heap.size,0,none⟩) (by simp)];go_simp
 have c1:w1.cell? ⟨w.heap.size,1,none⟩=some (.string x.ra):=by rw [hb1.cell (p:=⟨w.heap.size,1,none⟩) (by simp)];go_simp
 have c2:w1.cell? ⟨w.heap.size,2,none⟩=some (.string x.nm):=by rw [hb1.cell (p:=⟨w.heap.size,2,none⟩) (by simp)];go_simp
 have c3:w1.cell? ⟨w.heap.size,3,none⟩=some (.int .i64 x.d):=by rw [hb1.cell (p:=⟨w.heap.size,3,none⟩) (by simp)];go_simp
 have c4:w1.cell? ⟨w.heap.size,4,none⟩=some (.slice ad x.sub.length cap):=by rw [hb1.cell (p:=⟨w.heap.size,4,none⟩) (by simp)];go_simp
 clear hb1 H1 hb0;have H3:=Lh (Zgs x.bulk x _ w1 (Nat.le_refl _) hB (HE.out _ hb2).1 hk8 (HE.out _ hb2).2);unfold Ex.val at H3;generalize x.sort=T at *;by_cases hE:E=0
 ·have t0:(E == 0)=true:=by rw [hE];rfl
  go_wp2_with fail;refine H3.out.mono ?_;rintro e w3 ⟨rfl,hb5⟩;have hb6:Below w.heap.size w w3:=hb2.trans (hb5.mono hb2.size);clear hb5 H3 hb2 c0 c1 c2 c3 c4;by_cases hT:T=1
  ·have HF:Hid (R=true):=Lh (by rw [HA.out,hE,hT];rfl);have t3:((T:Int) == 1)=true:=by rw [hT];rfl
   go_wp2;go_ret;exact ⟨Zaf HF.out.symm,hb6⟩
  ·have HF:Hid (R=false):=Lh (by rw [HA.out,hE];simpa using hT);have t3:((T:Int) == 1)=false:=by simp;omega
   go_wp2;go_ret;exact ⟨Zaf HF.out.symm,hb6⟩
 ·have HF:Hid (R=false):=Lh (by rw [HA.out];simp [hE]);have t0:(E == 0)=false:=by simpa using hE
  go_wp2;go_ret;exact ⟨Zaf HF.out.symm,hb2⟩
theorem Zmb (x:Ex) (s:Value) (w:World) (hB:x.bulk≤2000000) (hs:RdE w x.sub s) (hk8:x.k < 256) (hL:Ze6 w) :
  Calls Tryz.prog 115 #[x.val s] w fun e w'=>e = .returned (.bool (x.isA 2))∧Below w.heap.size w w':=by
 obtain ⟨ad,cap,rfl⟩:=hs.len;have hb0:=Zac w (.cells #[.int .u8 x.k,.string x.ra,.string x.nm,.int .i64 x.d,.slice ad x.sub.length cap] 25);have HE:Hid (∀ W,Below w.heap.size w W→RdE W x.sub (.slice ad x.sub.length cap)∧Ze6 W):=Lh fun W hW=>⟨hs.frame hW,hL.frame hW⟩
 have H1:=Lh (Znh x _ _ hB (HE.out _ hb0).1 hk8 (HE.out _ hb0).2);clear hs hL;have HA:Hid (x.isA 2=(decide (x.err=0) && decide (x.sort=2))):=Lh rfl;unfold Ex.val at H1 ⊢;generalize x.isA 2=R at *;generalize x.err=E at *;go_enter Tryz.func115,Tryz.ntmps115
 go_wp2_with fail;refine H1.out.mono ?_;rintro e w1 ⟨rfl,hb1⟩;have hb2:Below w.heap.size w w1:=hb0.trans (hb1.mono (by simp));have c0:w1.cell? ⟨w.heap.size,0,none⟩=some (.int .u8 x.k):=by rw [hb1.cell (p:=⟨w.heap.size,0,none⟩) (by simp)];go_simp
 have c1:w1.cell? ⟨w.heap.size,1,none⟩=some (.string x.ra):=by rw [hb1.cell (p:=⟨w.heap.size,1,none⟩) (by simp)];go_simp
 have c2:w1.cell? ⟨w.heap.size,2,none⟩=some (.string x.nm):=by rw [hb1.cell (p:=⟨w.heap.size,2,none⟩) (by simp)];go_simp
 have c3:w1.cell? ⟨w.heap.size,3,none⟩=some (.int .i64 x.d):=by rw [hb1.cell (p:=⟨w.heap.size,3,none⟩) (by simp)];go_simp
 have c4:w1.cell? ⟨w.heap.size,4,none⟩=some (.slice ad x.sub.length cap):=by rw [hb1.cell (p:=⟨w.heap.size,4,none⟩) (by simp)];go_simp
 clear hb1 H1 hb0;have H3:=Lh (Zgs x.bulk x _ w1 (Nat.le_refl _) hB (HE.out _ hb2).1 hk8 (HE.out _ hb2).2);unfold Ex.val at H3;generalize x.sort=T at *;by_cases hE:E=0
 ·have t0:(E == 0)=true:=by rw [hE];rfl
  go_wp2_with fail;refine H3.out.mono ?_;rintro e w3 ⟨rfl,hb5⟩;have hb6:Below w.heap.size w w3:=hb2.trans (hb5.mono hb2.size);clear hb5 H3 hb2 c0 c1 c2 c3 c4;by_cases hT:T=2
  ·have HF:Hid (R=true):=Lh (by rw [HA.out,hE,hT];rfl);have t3:((T:Int) == 2)=true:=by rw [hT];rfl
   go_wp2;go_ret;exact ⟨Zaf HF.out.symm,hb6⟩
  ·have HF:Hid (R=false):=Lh (by rw [HA.out,hE];simpa using hT);have t3:((T:Int) == 2)=false:=by simp;omega
   go_wp2;go_ret;exact ⟨Zaf HF.out.symm,hb6⟩
 ·have HF:Hid (R=false):=Lh (by rw [HA.out];simp [hE]);have t0:(E == 0)=false:=by simpa using hE
  go_wp2;go_ret;exact ⟨Zaf HF.out.symm,hb2⟩
theorem Zc9 (p part:Int) (r:Bool) (hr:(bits BinOp.and IntKind.i64 p part != 0)=r) (B:Nat) (w:World) (hc:w.cell? ⟨B,0,none⟩=some (.int .i64 p)) :
  Calls Tryz.prog 112 #[.int .i64 part,.pointer (some ⟨B,0,none⟩)] w fun e w'=>e = .returned (.bool r)∧w=w':=by
 have hB:B < w.heap.size:=World.block_lt_of_cell? w _ hc;go_enter Tryz.func112,Tryz.ntmps112
 go_wp2;go_ret;exact ⟨rfl,rfl⟩
def Ze9 (r:Bool) (s:ByteArray):Bool:=if r=true then isNm (bl s) else decide (s.size=0)
theorem Zgx (p part:Int) (r:Bool) (hr:(bits BinOp.and IntKind.i64 p part != 0)=r) (s:ByteArray) (hl:s.size≤2000000) (B B2:Nat) (w:World) (hc:w.cell? ⟨B,0,none⟩=some (.int .i64 p))
  (hc2:w.cell? ⟨B2,0,none⟩=some (.func (.func 112) #[] #[.pointer (some ⟨B,0,none⟩)])) :
  Calls Tryz.prog 113 #[.int .i64 part,.string s,.pointer (some ⟨B2,0,none⟩)] w fun e w'=>e = .returned (.bool (Ze9 r s))∧w=w':=by
 have hB:B < w.heap.size:=World.block_lt_of_cell? w _ hc;have hB2:B2 < w.heap.size:=World.block_lt_of_cell? w _ hc2;have HH:=Lh (Zc9 p part r hr B w hc);have HN:=Lh (Zh2 s w (by omega));clear hr
 cases r with
 | true =>
  have HF:Hid (Ze9 true s=isNm (bl s)):=Lh rfl;generalize Ze9 true s=R at *
  cases hnm:isNm (bl s) <;> rw [hnm] at HN HF
  all_goals
   go_enter Tryz.func113,Tryz.ntmps113
   go_wp2_with (first | (go_at_call 112;refine HH.out.mono ?_;rintro e w1 ⟨rfl,rfl⟩) | (go_at_call 67;refine HN.out.mono ?_;rintro e w1 ⟨rfl,rfl⟩));go_ret;exact ⟨Zaf HF.out.symm,rfl⟩
 | false =>
  have HF:Hid (Ze9 false s=decide (s.size=0)):=Lh rfl;generalize Ze9 false s=R at *;go_enter Tryz.func113,Tryz.ntmps113
  go_wp2_with (first | (go_at_call 112;refine HH.out.mono ?_;rintro e w1 ⟨rfl,rfl⟩))
  all_goals
   go_ret;exact ⟨Zaf (by rw [HF.out];cases hq:s.toList <;> simp_all [Zcl]),rfl⟩
theorem Zwr {α:Type} (l:List α):((l.length:Int) == 1)=decide (l.length=1):=by rw [Bool.eq_iff_iff];simp;omega
theorem Zws {α:Type} (l:List α):((l.length:Int) == 2)=decide (l.length=2):=by rw [Bool.eq_iff_iff];simp;omega
def Zgd (k:Nat):Option Nat :=
 if k=1 then some 0 else if k=2 then some 15 else if k=3 then some 256 else if k=4 then some 136 else if k=5 then some 272 else if k=6 then some 160
 else if k=7 then some 261 else if k=8 then some 197 else if k=9∨k=10 then some 208 else none
def Z0h (bm:Nat) (W:World) (k:Nat):Option Nat→Prop
 | none=>(Instr.lookup 152 (.map (some bm)) (.int .u8 (k:Int)) true).run Tryz.prog W = .ok (.tuple #[.int .i64 0,.bool false]) W
 | some m=>(Instr.lookup 152 (.map (some bm)) (.int .u8 (k:Int)) true).run Tryz.prog W = .ok (.tuple #[.int .i64 (m:Int),.bool true]) W
def Znu (w:World):Prop:=∃ bm,w.cell? ⟨0,0,none⟩=some (.map (some bm))∧∀ W,Below w.heap.size w W→∀ k,k < 256→Z0h bm W k (Zgd k)
theorem Znu.frame {w w':World} (h:Znu w) (hb:Below w.heap.size w w'):Znu w':=by
 obtain ⟨bm,hc,h2⟩:=h;exact ⟨bm,by rw [hb.cell (p:=⟨0,0,none⟩) (World.block_lt_of_cell? w _ hc)];exact hc,fun W hW k hk=>h2 W (hb.trans (hW.mono hb.size)) k hk⟩
noncomputable def Zfz (b1 b2 b4 b8 b16 b32 b64:Bool) (n:Nat) (c:Con):Bool :=
 Ze9 b1 c.fr && (Ze9 b2 c.rc && (Ze9 b4 c.nm && (!(b2 && decide (c.fr=c.rc)) && ((if b8=true then c.ex.isA 1 else if b16=true then c.ex.isA 2 else c.ex.bare) &&
  ((if b32=true then Zbh c.d else decide (c.d=0)) && ((if b64=true then Zbi c.ds else decide (c.ds.length=0)) && decide (c.sub.length=n)))))))
theorem Zl9 (w:World) (c:Con) (ad ad1 ad2:Option Addr) (cap cap1 cap2:Nat) (m:Int):∃ W,((w.alloc (.cells #[.int .u8 c.k,.string c.fr,.string c.rc,.string c.nm,.int .u8 c.ex.k,.string c.ex.ra,.string c.ex.nm,.int .i64 c.ex.d,.slice ad1 c.ex.sub.length cap1,.int .i64 c.d,.slice ad2 c.ds.length cap2,.slice ad c.sub.length cap] 29)).alloc (.cells #[.int .i64 m] 3)).alloc (.cells #[.func (.func 112) #[] #[.pointer (some ⟨w.heap.size+1,0,none⟩)]] 89)=W∧Below w.heap.size w W∧w.heap.size+3≤W.heap.size ∧
  W.cell? ⟨w.heap.size,1,none⟩=some (.string c.fr)∧W.cell? ⟨w.heap.size,2,none⟩=some (.string c.rc)∧W.cell? ⟨w.heap.size,3,none⟩=some (.string c.nm)∧W.cell? ⟨w.heap.size,4,none⟩=some (.int .u8 c.ex.k)∧W.cell? ⟨w.heap.size,5,none⟩=some (.string c.ex.ra)∧W.cell? ⟨w.heap.size,6,none⟩=some (.string c.ex.nm)∧W.cell? ⟨w.heap.size,7,none⟩=some (.int .i64 c.ex.d)∧W.cell? ⟨w.heap.size,8,none⟩=some (.slice ad1 c.ex.sub.length cap1)∧W.cell? ⟨w.heap.size,9,none⟩=some (.int .i64 c.d)∧W.cell? ⟨w.heap.size,10,none⟩=some (.slice ad2 c.ds.length cap2)∧W.cell? ⟨w.heap.size,11,none⟩=some (.slice ad c.sub.length cap) ∧
  W.cell? ⟨w.heap.size+1,0,none⟩=some (.int .i64 m)∧W.cell? ⟨w.heap.size+1+1,0,none⟩=some (.func (.func 112) #[] #[.pointer (some ⟨w.heap.size+1,0,none⟩)]) :=
 ⟨_,rfl,Zdh _ _ _ _,by simp,by go_simp,by go_simp,by go_simp,by go_simp,by go_simp,by go_simp,by go_simp,by go_simp,by go_simp,by go_simp,by go_simp,by go_simp,by go_simp⟩
theorem Zo2 {w W:World} {u9 u10 u11 u12 u13:Value} (hbW:Below w.heap.size w W) (hzW:w.heap.size+3≤W.heap.size) (q9:W.cell? ⟨w.heap.size,9,none⟩=some u9) (q10:W.cell? ⟨w.heap.size,10,none⟩=some u10) (q11:W.cell? ⟨w.heap.size,11,none⟩=some u11)
  (q12:W.cell? ⟨w.heap.size+1,0,none⟩=some u12) (q13:W.cell? ⟨w.heap.size+1+1,0,none⟩=some u13):∀ W2,Below W.heap.size W W2→W2.cell? ⟨w.heap.size,9,none⟩=some u9∧W2.cell? ⟨w.heap.size,10,none⟩=some u10∧W2.cell? ⟨w.heap.size,11,none⟩=some u11∧W2.cell? ⟨w.heap.size+1,0,none⟩=some u12 ∧
   W2.cell? ⟨w.heap.size+1+1,0,none⟩=some u13∧Below w.heap.size w W2:=fun W2 h=>by
 have k:∀ p u,W.cell? p=some u→W2.cell? p=some u:=fun p u hu=>by rw [h.cell (p:=p) (World.block_lt_of_cell? W _ hu)];exact hu
 exact ⟨k _ _ q9,k _ _ q10,k _ _ q11,k _ _ q12,k _ _ q13,hbW.trans (h.mono (by omega))⟩
end Go.Proofs.YtknpnhodpgajbaaGreatDoor
namespace Go.Proofs.YtknpnhodpgajbaaGreatDoor
open Go.Deep Go.ChangeShapes Go.WideShapes Go.ChangeAt Go.WideMaps Go.WideElems Go.RowKit Go.Maps
theorem Z1d : Tryz.prog.globalNamed "novation/contract.parts" = some 0 := by kernel_rfl
theorem Zy4 : Tryz.prog.globalNamed "novation/observable.shapes" = some 2 := by kernel_rfl
theorem Z2d:(Tryz.prog.globals[0]?).map (·.type)=some 152:=by kernel_rfl
theorem Z0b:(Tryz.prog.globals[2]?).map (·.type)=some 230:=by kernel_rfl
theorem Znd:Keyed Tryz.prog 5:=int_keyed Tryz.underlying5
theorem Z0g (w:World):(zeroValue 3).run Tryz.prog w = .ok (.int .i64 0) w:=by kernel_rfl
theorem Zu9 (w:World):(zeroValue 228).run Tryz.prog w = .ok (.agg #[.slice none 0 0,.int .u8 0]) w:=by kernel_rfl
theorem Zwn {k:Nat} (hk:k < 256):keyOf Tryz.prog 5 (.int .u8 (k:Int))=some (.int .u8 (k:Int)) :=
 keyOf_int_mk Tryz.underlying5 (WalkArith.wf_u8 (by omega))
theorem Zsf (k:Nat) (z:DataW Unit):(Rows.laid_novation_contract_parts).atKey (.int .u8 (k:Int)) z=match Zgd k with | none=>z | some m=>.lit (.int .i64 (m:Int)):=by
 match k with
 | 0 | 1 | 2 | 3 | 4 | 5 | 6 | 7 | 8 | 9 | 10=>rfl
 | n+11 =>
  have e:Zgd (n+11)=none:=by
   unfold Zgd;rw [if_neg (by omega),if_neg (by omega),if_neg (by omega),if_neg (by omega),if_neg (by omega),if_neg (by omega),if_neg (by omega),if_neg (by omega),if_neg (by omega)]
  rw [e];have hs:∀ m:Int,m < 11→(Lit.int .u8 m).sameKey (.int .u8 ((n+11:Nat):Int))=false:=fun m hm=>by simp [Lit.sameKey];omega
  simp only [Rows.laid_novation_contract_parts,DataW.atKey,List.find?_cons,hs _ (show (1:Int) < 11 by decide),hs _ (show (2:Int) < 11 by decide),hs _ (show (3:Int) < 11 by decide),hs _ (show (4:Int) < 11 by decide),hs _ (show (5:Int) < 11 by decide),hs _ (show (6:Int) < 11 by decide),hs _ (show (7:Int) < 11 by decide),hs _ (show (8:Int) < 11 by decide),hs _ (show (9:Int) < 11 by decide),hs _ (show (10:Int) < 11 by decide),List.find?_nil]
theorem Zpj (k:Nat) (z:DataW Unit):(Rows.laid_novation_observable_shapes).atKey (.int .u8 (k:Int)) z=match Zbl k with | none=>z | some (ps,own)=>.agg [.slice (ps.map fun p:Nat=>.lit (.int .u8 (p:Int))) [],.lit (.int .u8 (own:Int))]:=by
 match k with
 | 0 | 1 | 2 | 3 | 4 | 5 | 6 | 7 | 8 | 9 | 10 | 11 | 12 | 13 | 14 | 15=>rfl
 | n+16 =>
  have e:Zbl (n+16)=none:=by
   unfold Zbl;rw [if_neg (by omega),if_neg (by omega),if_neg (by omega),if_neg (by omega),if_neg (by omega)]
  rw [e];have hs:∀ m:Int,m < 16→(Lit.int .u8 m).sameKey (.int .u8 ((n+16:Nat):Int))=false:=fun m hm=>by simp [Lit.sameKey];omega
  simp only [Rows.laid_novation_observable_shapes,DataW.atKey,List.find?_cons,hs _ (show (4:Int) < 16 by decide),hs _ (show (5:Int) < 16 by decide),hs _ (show (6:Int) < 16 by decide),hs _ (show (7:Int) < 16 by decide),hs _ (show (8:Int) < 16 by decide),hs _ (show (9:Int) < 16 by decide),hs _ (show (11:Int) < 16 by decide),hs _ (show (12:Int) < 16 by decide),hs _ (show (13:Int) < 16 by decide),hs _ (show (14:Int) < 16 by decide),hs _ (show (15:Int) < 16 by decide),List.find?_nil]
theorem Z01 (b o j:Nat):Addr.add ⟨b,o,none⟩ j=⟨b,o+j,none⟩:=by
 unfold Addr.add;split
 ·next h=>subst h;rfl
 ·rfl
theorem Zmp {v:Value} (hf:v.formed Tryz.prog 228=true):∃ cs,v = .agg cs∧v.cells.toList=cs.toList:=by
 cases v with
 | agg cs=>exact ⟨cs,rfl,rfl⟩
 | _=>simp [Value.formed,Tryz.underlying228] at hf
theorem Zt3 {W : World} (h : laidMet Tryz.prog [("novation/observable.shapes", Rows.laid_novation_observable_shapes), ("novation/contract.parts", Rows.laid_novation_contract_parts)] W) : Ze6 W ∧ Znu W := by
 obtain ⟨ps,⟨g0,t0,cs0,f0,p0,q0,hg0,ht0,hv0,hd0,⟨g1,t1,cs1,f1,p1,q1,hg1,ht1,hv1,hd1,_,_⟩,_⟩,_,_⟩:=h;obtain rfl:=Option.some.inj (Zy4.symm.trans hg0);obtain rfl:=Option.some.inj (Z1d.symm.trans hg1);obtain rfl:=Option.some.inj (Z0b.symm.trans ht0);obtain rfl:=Option.some.inj (Z2d.symm.trans ht1);refine ⟨?_,?_⟩
 ·rcases open_map Tryz.underlying230 hd0 with ⟨_,hx⟩ | ⟨bm,es,clock,m,_,hcs,hb,_,F,hx⟩
  ·simp [Rows.laid_novation_observable_shapes] at hx
  simp only [Prod.mk.injEq] at hx;have hcell:W.cell? ⟨2,0,none⟩=some (.map (some bm)):=by
   have:=World.var?_cell hg0 hv0 0
   rw [Array.eq_one_of_toList hcs] at this;simpa using this
  refine ⟨bm,hcell,fun W' hB k hk=>?_⟩;have hb':W'.heap[bm]? = some (.map es clock):=by rw [hB.block bm (lt_of_block hb)];exact hb
  rcases fit_look true Znd Tryz.underlying230 (Zu9 W') hb' F (Zwn hk) with ⟨hrun,_,hat⟩ | ⟨e0,y,_,_,hrun,hRv,hat,_⟩
  ·have h1:=hat .nil;rw [← hx.1,Zpj] at h1
   cases hs:Zbl k with
   | none=>exact hrun
   | some q=>rw [hs] at h1;cases h1
  ·have h1:=hat .nil;rw [← hx.1,Zpj] at h1;unfold elemAt at hRv;split at hRv
   ·rename_i hf
    obtain ⟨cs,hv,hvc⟩:=Zmp hf;rw [hvc] at hRv;obtain ⟨xs,n',_,hz,hcl,hxl,hfs⟩:=DataW.trod_struct Tryz.underlying228 hRv
    cases hs:Zbl k with
    | none=>rw [hs] at h1;rw [hz] at h1;cases h1
    | some q =>
     obtain ⟨pl,own⟩:=q;rw [hs] at h1;obtain ⟨c0,c1,hc⟩:∃ c0 c1,cs.toList=[c0,c1]:=arr2 (by rw [hcl];kernel_rfl)
     rw [hc] at hfs;obtain ⟨x0,x1,rfl⟩:=arr2 hxl;have f0:=hfs 0 _ rfl;have f1:=hfs 1 _ rfl;have c8s:Tryz.prog.cellsOf 226=1:=by kernel_rfl
     have c8:Tryz.prog.cellsOf 178=1:=by kernel_rfl
     simp [c8s,c8] at f0 f1
     rw [hz] at h1;simp only [List.map_cons,List.map_nil,DataW.agg.injEq,List.cons.injEq,and_true] at h1;obtain ⟨o,ho,rfl,_⟩:=DataW.trod_int Tryz.underlying178 f1;have ho':o=(own:Int):=by have:=h1.2;cases this;rfl
     subst ho';rcases open_slice Tryz.underlying226 f0 with ⟨_,hy⟩ | ⟨a,len,cap,mm,n,D,Pl,hcs0,_,hl,hmx,hmm,hxx,hi⟩
     ·rw [hy] at h1;cases h1.1
     ·have e1:=h1.1;rw [hxx] at e1;injection e1 with e1 e2
      simp at hcs0 ho
      have hlen:pl.length=len:=by have:=congrArg List.length e1;simpa using this
      have hlm:len≤mm:=by rw [hmm];split <;> omega
      have hcell:∀ (j p:Nat),pl[j]? = some p→W.cell? (a.add j)=some (.int .u8 (p:Int)):=fun j p hj=>by
       have hjl:=(List.getElem?_eq_some_iff.1 hj).1;obtain ⟨cs',q1,q2⟩:=hi j (by omega);rw [c8,Nat.mul_one] at q1;obtain ⟨v,hv1,hv2,_⟩:=DataW.trod_int Tryz.underlying178 q2;have q3:=(World.cells?_some q1).2.2 0 (by decide);rw [hv1] at q3;have q4:=congrArg (fun l=>l[j]?) e1;simp only [List.getElem?_map,hj,Option.map_some] at q4;rw [List.getElem?_range (by omega)] at q4;simp only [Option.map_some,Option.some.injEq] at q4
       rw [(Prod.mk.inj hv2).1] at q4
       cases q4
       simpa [Addr.add] using q3
      have hsp:0 < pl.length→a.spot=none:=fun h0=>by
       obtain ⟨p,hp⟩:∃ p,pl[0]? = some p:=⟨_,List.getElem?_eq_getElem h0⟩
       have h2:=hcell 0 p hp;simp only [World.cell?] at h2
       cases hsp:a.spot with
       | none=>rfl
       | some k=>simp [Addr.add,hsp] at h2;split at h2 <;> simp at h2
      have hpos:0 < pl.length:=by
       unfold Zbl at hs;repeat' split at hs
       all_goals first
        | (cases hs;done)
        | (cases hs;decide)
      have hsp:=hsp hpos;obtain ⟨ab,ao,asp⟩:=a;simp at hsp
      subst hsp;refine ⟨ab,ao,cap,?_,fun j p hj=>by rw [← Z01];exact hcell j p hj⟩;rw [hrun,hv];have:cs=#[c0,c1]:=by cases cs;simp at hc;subst hc;rfl
      rw [this,hcs0,ho,hlen];rfl
   ·cases hRv
 ·rcases open_map Tryz.underlying152 hd1 with ⟨_,hx⟩ | ⟨bm,es,clock,m,_,hcs,hb,_,F,hx⟩
  ·simp [Rows.laid_novation_contract_parts] at hx
  simp only [Prod.mk.injEq] at hx;have hcell:W.cell? ⟨0,0,none⟩=some (.map (some bm)):=by
   have:=World.var?_cell hg1 hv1 0
   rw [Array.eq_one_of_toList hcs] at this;simpa using this
  refine ⟨bm,hcell,fun W' hB k hk=>?_⟩;have hb':W'.heap[bm]? = some (.map es clock):=by rw [hB.block bm (lt_of_block hb)];exact hb
  rcases fit_look true Znd Tryz.underlying152 (Z0g W') hb' F (Zwn hk) with ⟨hrun,_,hat⟩ | ⟨e0,y,_,_,hrun,hRv,hat,_⟩
  ·have h1:=hat .nil;rw [← hx.1,Zsf] at h1
   cases hs:Zgd k with
   | none=>exact hrun
   | some q=>rw [hs] at h1;cases h1
  ·obtain ⟨r,hr,rfl,_⟩:=elemAt_int Tryz.underlying3 hRv;have h1:=hat .nil;rw [← hx.1,Zsf] at h1
   cases hs:Zgd k with
   | none=>rw [hs] at h1;cases h1
   | some q =>
    rw [hs] at h1
    cases h1
    rw [hr] at hrun;exact hrun
end Go.Proofs.YtknpnhodpgajbaaGreatDoor
namespace Go.Proofs.YtknpnhodpgajbaaGreatDoor
open Go.RowKit
theorem Zj4 (a b:ByteArray):decide (cmpS a b=0)=decide (a=b):=by
 unfold cmpS;by_cases h:slt a b=true
 ·have:a ≠ b:=by rintro rfl;rw [Zgr] at h;cases h
  simp [h,this]
 ·by_cases h2:a=b
  ·subst h2;simp [Zgr]
  ·simp [h,h2]
theorem Zn5 (a b:Int):decide (cmpI a b=0)=decide (a=b):=by
 unfold cmpI;rcases Int.lt_trichotomy a b with h | h | h
 ·simp [h];omega
 ·subst h;simp
 ·rw [if_neg (by omega),if_pos h];simp;omega
theorem Zh5 (a:Int) (l:List Int):decide (orI (a :: l)=0)=(decide (a=0) && decide (orI l=0)):=by
 rw [orI];by_cases h:a=0 <;> simp [h]
theorem Ztq (n1 n2:ByteArray) (d1 d2:Int):decide (Zhv n1 d1 n2 d2=0)=(decide (n1=n2) && decide (d1=d2)):=by
 rw [Zhv,Zh5,Zh5,Zj4,Zn5];simp [orI]
theorem Ztc (p1 p2 n1 n2:ByteArray) (d1 d2:Int):decide (Zhq p1 n1 d1 p2 n2 d2=0)=(decide (p1=p2) && (decide (n1=n2) && decide (d1=d2))):=by
 rw [Zhq,Zh5,Zh5,Zh5,Zj4,Zj4,Zn5];simp [orI]
def fxIs (g:Fx) (f:Fx):Bool:=decide (f.nm=g.nm) && decide (f.d=g.d)
def chIs (g:Ch) (f:Ch):Bool:=decide (f.pt=g.pt) && (decide (f.nm=g.nm) && decide (f.d=g.d))
theorem Zjl {α:Type} (p:α→Bool) (l:List α):l.find? p=(l.findIdx? p).bind fun k=>l[k]?:=by
 cases hf:l.findIdx? p with
 | none =>
  rw [List.find?_eq_none.2 (fun x hx=>by simpa using List.findIdx?_eq_none_iff.1 hf x hx)];rfl
 | some k =>
  obtain ⟨hk,h1,h2⟩:=List.findIdx?_eq_some_iff_getElem.1 hf;rw [Option.bind_some,List.getElem?_eq_getElem hk];exact List.find?_eq_some_iff_getElem.2 ⟨h1,k,hk,rfl,fun j hj=>by simpa using h2 j hj⟩
def Zs3 (W:World) (B:Nat) (g:Fx):Prop:=W.cell? ⟨B+1,0,none⟩=some (.func (.func 73) #[] #[])∧(∀ i u,g.cells[i]? = some u→W.cell? ⟨B,i,none⟩=some u)
theorem Zs3.below {W W':World} {B:Nat} {g:Fx} (h:Zs3 W B g) (hb:Below W.heap.size W W'):Zs3 W' B g :=
 ⟨by rw [hb.cell (p:=⟨B+1,0,none⟩) (World.block_lt_of_cell? W _ h.1)];exact h.1,fun i u hu=>by
  have h2:=h.2 i u hu;rw [hb.cell (p:=⟨B,i,none⟩) (World.block_lt_of_cell? W _ h2)];exact h2⟩
theorem Zqi (f g:Fx) (B:Nat) (w:World) (hk:Zs3 w B g) :
  Calls Tryz.prog 212 #[f.val,.pointer (some ⟨B+1,0,none⟩),.pointer (some ⟨B,0,none⟩)] w fun e w'=>e = .returned (.bool (fxIs g f))∧Below w.heap.size w w':=by
 have q0:=hk.1;have k0:=hk.2 0 _ rfl;have k1:=hk.2 1 _ rfl;have k2:=hk.2 2 _ rfl;have HE:Hid ((Zhv f.nm f.d g.nm g.d == 0)=fxIs g f):=by
  show _=_;rw [← show decide (Zhv f.nm f.d g.nm g.d=0)=fxIs g f from Ztq f.nm g.nm f.d g.d];rw [Bool.eq_iff_iff];simp
 have HC:Hid (∀ W,Calls Tryz.prog 73 #[f.val,g.val] W fun e w'=>e = .returned (.int .i64 (Zhv f.nm f.d g.nm g.d))∧Below W.heap.size W w'):=fun W=>Zj9 _ _ _ _ _ _ _
 simp only [Fx.val,fxV] at HC ⊢;generalize Zhv f.nm f.d g.nm g.d=C at HC HE;have hB:B+1 < w.heap.size:=World.block_lt_of_cell? w _ q0;have hB0:B < w.heap.size:=by omega
 clear hk;go_enter Tryz.func212,Tryz.ntmps212
 go_wp2_with (go_at_call 73;refine (HC.out _).mono ?_;rintro e w1 ⟨rfl,hb1⟩);go_ret;exact ⟨Zaf HE.out,(Zac _ _).trans (hb1.mono (by simp))⟩
theorem Zt0 (l:List Fx) (g:Fx) (B:Nat) (ad:Option Addr) (cap:Nat) (w:World) (hn:l.length≤1100000) (hr:Rd Fx.cells 3 w ad l) (hk:Zs3 w B g) :
  Calls Tryz.prog 128 #[.slice ad l.length cap,.func (.func 212) #[] #[.pointer (some ⟨B+1,0,none⟩),.pointer (some ⟨B,0,none⟩)]] w fun e w'=>e = .returned (.int .i64 (idxR (l.findIdx? (fxIs g))))∧Below w.heap.size w w':=by
 have HK:=Lh hk;have HD:=Lh hr;clear hk hr;go_enter Tryz.func128,Tryz.ntmps128
 go_wp2;go_loopw [8] (fun i wr=>∃ k:Nat,k≤l.length∧i = .int .i64 k∧Hid (∀ y ∈ l.take k,fxIs g y=false)∧Below w.heap.size w wr) (fun i _=>l.length - (intOf i).toNat)
 case atStart=>exact ⟨0,Nat.zero_le _,rfl,Lh (by simp),Below.refl _ _⟩
 case round =>
  obtain ⟨k,hk,rfl,Hall,hbel⟩:=hrel;by_cases hlt:k < l.length
  ·obtain ⟨f,hf⟩:∃ f,l[k]? = some f:=⟨_,List.getElem?_eq_getElem hlt⟩
   have HRf:Hid (∃ b off,ad=some ⟨b,off,none⟩∧_):=((HD.out.below hbel).fx hf)
   have HC:=Lh (Zqi f g B wr (HK.out.below hbel));have HF:=Lh hf;clear hf;obtain ⟨b,off,rfl,hc1,hc2,hc3⟩:=HRf;have hsz:=hbel.size;simp only [Fx.val,fxV] at HC
   cases hp:fxIs g f with
   | true =>
    have HR:Hid (l.findIdx? (fxIs g)=some k):=Zd2 HF.out hp Hall.out;rw [hp] at HC;clear hp;go_wp2_with (go_at_call 212;refine HC.out.mono ?_;rintro e w1 ⟨rfl,hb1⟩);go_ret;exact ⟨by rw [HR.out];rfl,hbel.trans (hb1.mono hsz)⟩
   | false =>
    have Hall2:Hid (∀ y ∈ l.take (k+1),fxIs g y=false):=Za3 HF.out hp Hall.out;rw [hp] at HC;clear hp;go_wp2_with (go_at_call 212;refine HC.out.mono ?_;rintro e w1 ⟨rfl,hb1⟩);go_roundw
    case rel=>exact ⟨k+1,by omega,by go_num,Hall2,hbel.trans (hb1.mono hsz)⟩
    case measure=>simp [intOf];omega
  ·obtain rfl:k=l.length:=by omega
   have HR:Hid (l.findIdx? (fxIs g)=none):=Zez (by have:=Hall.out;rwa [List.take_length] at this);go_wp2;go_ret;exact ⟨by rw [HR.out];rfl,hbel⟩
theorem Ztj (l:List Fx) (g:Fx) (ad:Option Addr) (cap:Nat) (w:World) (hn:l.length≤1100000) (hr:Rd Fx.cells 3 w ad l) :
  Calls Tryz.prog 208 #[.slice ad l.length cap,g.val,.func (.func 73) #[] #[]] w fun e w'=>e = .returned (.int .i64 (idxR (l.findIdx? (fxIs g))))∧Below w.heap.size w w':=by
 have hb0:Below w.heap.size w ((w.alloc (.cells #[.string g.nm,.int .i64 g.d,.string g.vl] 94)).alloc (.cells #[.func (.func 73) #[] #[]] 120)):=Zaz _ _ _;have hk:Zs3 ((w.alloc (.cells #[.string g.nm,.int .i64 g.d,.string g.vl] 94)).alloc (.cells #[.func (.func 73) #[] #[]] 120)) w.heap.size g:=by
  refine ⟨by go_simp,fun i u hu=>?_⟩;have hi:i < 3:=(List.getElem?_eq_some_iff.1 hu).1;match i,hi with
  | 0,_=>(cases hu;go_simp) | 1,_=>(cases hu;go_simp) | 2,_=>(cases hu;go_simp)
 have HC:=Lh (Zt0 l g w.heap.size ad cap _ hn (hr.below hb0) hk);have HB:=Lh hb0;clear hk hr hb0;simp only [Fx.val,fxV];go_enter Tryz.func208,Tryz.ntmps208
 go_wp2_with (go_at_call 128;refine HC.out.mono ?_;rintro e w1 ⟨rfl,hb1⟩);go_ret;exact ⟨rfl,HB.out.trans (hb1.mono HB.out.size)⟩
def Zs1 (W:World) (B:Nat) (g:Ch):Prop:=W.cell? ⟨B+1,0,none⟩=some (.func (.func 75) #[] #[])∧(∀ i u,g.cells[i]? = some u→W.cell? ⟨B,i,none⟩=some u)
theorem Zs1.below {W W':World} {B:Nat} {g:Ch} (h:Zs1 W B g) (hb:Below W.heap.size W W'):Zs1 W' B g :=
 ⟨by rw [hb.cell (p:=⟨B+1,0,none⟩) (World.block_lt_of_cell? W _ h.1)];exact h.1,fun i u hu=>by
  have h2:=h.2 i u hu;rw [hb.cell (p:=⟨B,i,none⟩) (World.block_lt_of_cell? W _ h2)];exact h2⟩
theorem Zqh (f g:Ch) (B:Nat) (w:World) (hk:Zs1 w B g) :
  Calls Tryz.prog 133 #[f.val,.pointer (some ⟨B+1,0,none⟩),.pointer (some ⟨B,0,none⟩)] w fun e w'=>e = .returned (.bool (chIs g f))∧Below w.heap.size w w':=by
 have q0:=hk.1;have k0:=hk.2 0 _ rfl;have k1:=hk.2 1 _ rfl;have k2:=hk.2 2 _ rfl;have k3:=hk.2 3 _ rfl;have HE:Hid ((Zhq f.pt f.nm f.d g.pt g.nm g.d == 0)=chIs g f):=by
  show _=_;rw [← show decide (Zhq f.pt f.nm f.d g.pt g.nm g.d=0)=chIs g f from Ztc f.pt g.pt f.nm g.nm f.d g.d];rw [Bool.eq_iff_iff];simp
 have HC:Hid (∀ W,Calls Tryz.prog 75 #[f.val,g.val] W fun e w'=>e = .returned (.int .i64 (Zhq f.pt f.nm f.d g.pt g.nm g.d))∧Below W.heap.size W w'):=fun W=>Zj3 _ _ _ _ _ _ _ _ _
 simp only [Ch.val,chV] at HC ⊢;generalize Zhq f.pt f.nm f.d g.pt g.nm g.d=C at HC HE;have hB:B+1 < w.heap.size:=World.block_lt_of_cell? w _ q0;have hB0:B < w.heap.size:=by omega
 clear hk;go_enter Tryz.func133,Tryz.ntmps133
 go_wp2_with (go_at_call 75;refine (HC.out _).mono ?_;rintro e w1 ⟨rfl,hb1⟩);go_ret;exact ⟨Zaf HE.out,(Zac _ _).trans (hb1.mono (by simp))⟩
theorem Ztz (l:List Ch) (g:Ch) (B:Nat) (ad:Option Addr) (cap:Nat) (w:World) (hn:l.length≤1100000) (hr:Rd Ch.cells 4 w ad l) (hk:Zs1 w B g) :
  Calls Tryz.prog 129 #[.slice ad l.length cap,.func (.func 133) #[] #[.pointer (some ⟨B+1,0,none⟩),.pointer (some ⟨B,0,none⟩)]] w fun e w'=>e = .returned (.int .i64 (idxR (l.findIdx? (chIs g))))∧Below w.heap.size w w':=by
 have HK:=Lh hk;have HD:=Lh hr;clear hk hr;go_enter Tryz.func129,Tryz.ntmps129
 go_wp2;go_loopw [8] (fun i wr=>∃ k:Nat,k≤l.length∧i = .int .i64 k∧Hid (∀ y ∈ l.take k,chIs g y=false)∧Below w.heap.size w wr) (fun i _=>l.length - (intOf i).toNat)
 case atStart=>exact ⟨0,Nat.zero_le _,rfl,Lh (by simp),Below.refl _ _⟩
 case round =>
  obtain ⟨k,hk,rfl,Hall,hbel⟩:=hrel;by_cases hlt:k < l.length
  ·obtain ⟨f,hf⟩:∃ f,l[k]? = some f:=⟨_,List.getElem?_eq_getElem hlt⟩
   have HRf:Hid (∃ b off,ad=some ⟨b,off,none⟩∧_):=((HD.out.below hbel).ch hf)
   have HC:=Lh (Zqh f g B wr (HK.out.below hbel));have HF:=Lh hf;clear hf;obtain ⟨b,off,rfl,hc1,hc2,hc3,hc4⟩:=HRf;have hsz:=hbel.size;simp only [Ch.val,chV] at HC
   cases hp:chIs g f with
   | true =>
    have HR:Hid (l.findIdx? (chIs g)=some k):=Zd2 HF.out hp Hall.out;rw [hp] at HC;clear hp;go_wp2_with (go_at_call 133;refine HC.out.mono ?_;rintro e w1 ⟨rfl,hb1⟩);go_ret;exact ⟨by rw [HR.out];rfl,hbel.trans (hb1.mono hsz)⟩
   | false =>
    have Hall2:Hid (∀ y ∈ l.take (k+1),chIs g y=false):=Za3 HF.out hp Hall.out;rw [hp] at HC;clear hp;go_wp2_with (go_at_call 133;refine HC.out.mono ?_;rintro e w1 ⟨rfl,hb1⟩);go_roundw
    case rel=>exact ⟨k+1,by omega,by go_num,Hall2,hbel.trans (hb1.mono hsz)⟩
    case measure=>simp [intOf];omega
  ·obtain rfl:k=l.length:=by omega
   have HR:Hid (l.findIdx? (chIs g)=none):=Zez (by have:=Hall.out;rwa [List.take_length] at this);go_wp2;go_ret;exact ⟨by rw [HR.out];rfl,hbel⟩
theorem Zti (l:List Ch) (g:Ch) (ad:Option Addr) (cap:Nat) (w:World) (hn:l.length≤1100000) (hr:Rd Ch.cells 4 w ad l) :
  Calls Tryz.prog 76 #[.slice ad l.length cap,g.val,.func (.func 75) #[] #[]] w fun e w'=>e = .returned (.int .i64 (idxR (l.findIdx? (chIs g))))∧Below w.heap.size w w':=by
 have hb0:Below w.heap.size w ((w.alloc (.cells #[.string g.pt,.string g.nm,.int .i64 g.d,.bool g.first] 67)).alloc (.cells #[.func (.func 75) #[] #[]] 122)):=Zaz _ _ _;have hk:Zs1 ((w.alloc (.cells #[.string g.pt,.string g.nm,.int .i64 g.d,.bool g.first] 67)).alloc (.cells #[.func (.func 75) #[] #[]] 122)) w.heap.size g:=by
  refine ⟨by go_simp,fun i u hu=>?_⟩;have hi:i < 4:=(List.getElem?_eq_some_iff.1 hu).1;match i,hi with
  | 0,_=>(cases hu;go_simp) | 1,_=>(cases hu;go_simp) | 2,_=>(cases hu;go_simp) | 3,_=>(cases hu;go_simp)
 have HC:=Lh (Ztz l g w.heap.size ad cap _ hn (hr.below hb0) hk);have HB:=Lh hb0;clear hk hr hb0;simp only [Ch.val,chV];go_enter Tryz.func76,Tryz.ntmps76
 go_wp2_with (go_at_call 129;refine HC.out.mono ?_;rintro e w1 ⟨rfl,hb1⟩);go_ret;exact ⟨rfl,HB.out.trans (hb1.mono HB.out.size)⟩
theorem Zon {α:Type} {p:α→Bool} {l:List α} {k:Nat} (h:l.findIdx? p=some k):∃ x,l[k]? = some x∧l.find? p=some x:=by
 obtain ⟨hk,_,_⟩:=List.findIdx?_eq_some_iff_getElem.1 h;exact ⟨_,List.getElem?_eq_getElem hk,by rw [Zjl,h,Option.bind_some,List.getElem?_eq_getElem hk]⟩
def fndT:Option Fx→Value
 | some f=>.tuple #[.string f.vl,.bool true]
 | none=>.tuple #[.string ⟨#[]⟩,.bool false]
theorem Zw8 (l:List Fx) (nm:ByteArray) (d:Int) (ad:Option Addr) (cap:Nat) (vc:Value) (w:World) (hn:l.length≤1100000) (hr:Rd Fx.cells 3 w ad l) :
  Calls Tryz.prog 196 #[.agg #[.slice ad l.length cap,vc],.string nm,.int .i64 d] w fun e w'=>e = .returned (fndT (l.find? (fxIs ⟨nm,d,⟨#[]⟩⟩)))∧Below w.heap.size w w':=by
 have hb0:Below w.heap.size w (w.alloc (.cells #[.slice ad l.length cap,vc] 33)):=Zac _ _;have HC:=Lh (Ztj l ⟨nm,d,⟨#[]⟩⟩ ad cap _ hn (hr.below hb0));have HR:Hid (∀ W,Below w.heap.size w W→∀ j x,l[j]? = some x→_):=fun W hb j x hj=>(hr.below hb).fx hj
 simp only [Fx.val,fxV] at HC;have HB:=Lh hb0;clear hr hb0
 cases hf:l.findIdx? (fxIs ⟨nm,d,⟨#[]⟩⟩) with
 | none =>
  have HE:Hid (l.find? (fxIs ⟨nm,d,⟨#[]⟩⟩)=none):=by show _=_;rw [Zjl,hf];rfl
  rw [hf] at HC;generalize l.find? (fxIs ⟨nm,d,⟨#[]⟩⟩)=R at *;clear hf;have HC:Hid (Calls _ _ _ _ fun e w'=>e = .returned (.int .i64 (-1))∧_):=HC;go_enter Tryz.func196,Tryz.ntmps196
  go_wp2_with (refine HC.out.mono ?_;rintro e w1 ⟨rfl,hb1⟩);go_ret2;exact ⟨by rw [HE.out];rfl,HB.out.trans (hb1.mono HB.out.size)⟩
 | some k =>
  obtain ⟨x,hx,hfx⟩:=Zon hf;have HE:=Lh hfx;rw [hf] at HC;generalize l.find? (fxIs ⟨nm,d,⟨#[]⟩⟩)=R at *;have hk:=(List.getElem?_eq_some_iff.1 hx).1;have hk1:(0:Int)≤(k:Int):=by omega
  have hk2:(k:Int) < (l.length:Int):=by omega
  have HX:=Lh hx;clear hf hfx hx;have HC:Hid (Calls _ _ _ _ fun e w'=>e = .returned (.int .i64 (k:Int))∧_):=HC;go_enter Tryz.func196,Tryz.ntmps196
  go_wp2_with fail;refine HC.out.mono ?_;rintro e w1 ⟨rfl,hb1⟩;have hb2:Below w.heap.size w w1:=HB.out.trans (hb1.mono HB.out.size);obtain ⟨b,off,rfl,hc1,hc2,hc3⟩:=HR.out w1 hb2 k x HX.out;have q0:w1.cell? ⟨w.heap.size,0,none⟩=some (.slice (some ⟨b,off,none⟩) l.length cap):=by rw [hb1.cell (p:=⟨w.heap.size,0,none⟩) (by simp)];go_simp
  clear hb1 HC;go_wp2;go_ret2;exact ⟨by rw [HE.out];rfl,hb2⟩
def chsB:Option Ch→Bool
 | some c=>c.first
 | none=>false
theorem Zqv (l:List Ch) (pt nm:ByteArray) (d:Int) (ad:Option Addr) (cap:Nat) (vf:Value) (w:World) (hn:l.length≤1100000) (hr:Rd Ch.cells 4 w ad l) :
  Calls Tryz.prog 26 #[.agg #[vf,.slice ad l.length cap],.string pt,.string nm,.int .i64 d] w fun e w'=>e = .returned (.bool (chsB (l.find? (chIs ⟨pt,nm,d,false⟩))))∧Below w.heap.size w w':=by
 have hb0:Below w.heap.size w (w.alloc (.cells #[vf,.slice ad l.length cap] 33)):=Zac _ _;have HC:=Lh (Zti l ⟨pt,nm,d,false⟩ ad cap _ hn (hr.below hb0));have HR:Hid (∀ W,Below w.heap.size w W→∀ j x,l[j]? = some x→_):=fun W hb j x hj=>(hr.below hb).ch hj
 simp only [Ch.val,chV] at HC;have HB:=Lh hb0;clear hr hb0
 cases hf:l.findIdx? (chIs ⟨pt,nm,d,false⟩) with
 | none =>
  have HE:Hid (l.find? (chIs ⟨pt,nm,d,false⟩)=none):=by show _=_;rw [Zjl,hf];rfl
  rw [hf] at HC;generalize l.find? (chIs ⟨pt,nm,d,false⟩)=R at *;clear hf;have HC:Hid (Calls _ _ _ _ fun e w'=>e = .returned (.int .i64 (-1))∧_):=HC;go_enter Tryz.func26,Tryz.ntmps26
  go_wp2_with (refine HC.out.mono ?_;rintro e w1 ⟨rfl,hb1⟩);go_ret;exact ⟨by rw [HE.out];rfl,HB.out.trans (hb1.mono HB.out.size)⟩
 | some k =>
  obtain ⟨x,hx,hfx⟩:=Zon hf;have HE:=Lh hfx;rw [hf] at HC;generalize l.find? (chIs ⟨pt,nm,d,false⟩)=R at *;have hk:=(List.getElem?_eq_some_iff.1 hx).1;have hk1:(0:Int)≤(k:Int):=by omega
  have hk2:(k:Int) < (l.length:Int):=by omega
  have HX:=Lh hx;clear hf hfx hx;have HC:Hid (Calls _ _ _ _ fun e w'=>e = .returned (.int .i64 (k:Int))∧_):=HC;go_enter Tryz.func26,Tryz.ntmps26
  go_wp2_with fail;refine HC.out.mono ?_;rintro e w1 ⟨rfl,hb1⟩;have hb2:Below w.heap.size w w1:=HB.out.trans (hb1.mono HB.out.size);obtain ⟨b,off,rfl,hc1,hc2,hc3,hc4⟩:=HR.out w1 hb2 k x HX.out;have q0:w1.cell? ⟨w.heap.size,1,none⟩=some (.slice (some ⟨b,off,none⟩) l.length cap):=by rw [hb1.cell (p:=⟨w.heap.size,1,none⟩) (by simp)];go_simp
  clear hb1 HC;go_wp2;go_ret;exact ⟨by rw [HE.out];rfl,hb2⟩
end Go.Proofs.YtknpnhodpgajbaaGreatDoor
