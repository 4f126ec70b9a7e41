/-
  meaning.Before. meaning.Flows. novationlaw10.con, now, pay, known, twice.
-/
import Derived.Test.YtknpnhodpgajbaaGreatDoorE21
import Derived.Test.YtknpnhodpgajbaaGreatDoorE26
import Derived.Test.YtknpnhodpgajbaaGreatDoorE29
import Derived.Test.YtknpnhodpgajbaaGreatDoorE14
namespace Go.Proofs.YtknpnhodpgajbaaGreatDoor
open Go.RowKit
structure BfH (c:Con) (es dd ss:Value) (E:EvD) (w:World):Prop where
 bulk:c.bulk≤1100000
 rd:RdN w c es dd ss
 ls:LookS w
 lp:LookP w
 lo:LookO w
 e:E.Rd w
 fs:∀ f ∈ E.F,f.small
 cs:∀ c ∈ E.C,c.small
theorem BfH.frame {c:Con} {es dd ss:Value} {E:EvD} {w w':World} (h:BfH c es dd ss E w) (hb:Below w.heap.size w w'):BfH c es dd ss E w' :=
 ⟨h.bulk,h.rd.frame hb,h.ls.frame hb,h.lp.frame hb,h.lo.frame hb,h.e.frame hb,h.fs,h.cs⟩
theorem con_wf {c:Con} (h:c.err=0):c.formed=true:=by
 unfold Con.err at h
 split at h
 ·exact absurd h (by decide)
 ·split at h
  ·assumption
  ·exact absurd h (by decide)
theorem BfH.fl {c:Con} {es dd ss:Value} {E:EvD} {w:World} (h:BfH c es dd ss E w) (hc:c.err=0) (he:envErr E.F E.C=0):FlH c es dd ss E w:=⟨h.bulk,h.rd,h.ls,h.lo,h.e,h.fs,h.cs,he,con_wf hc⟩
structure BfB (W:World) (B:Nat) (c:Con) (es dd ss:Value) (E:EvD) (l:Value) (er:Int):Prop where
 c:BoxN W B 29 (c.cells es dd ss)
 v:BoxN W (B+1) 33 [.slice E.af E.F.length E.cf,.slice E.ac E.C.length E.cc]
 l:BoxN W (B+2) 37 [l]
 r:BoxN W (B+3) 38 [.int .i64 er]
theorem BfB.below {W W':World} {B:Nat} {c:Con} {es dd ss:Value} {E:EvD} {l:Value} {er:Int} (h:BfB W B c es dd ss E l er) (hb:Below W.heap.size W W'):BfB W' B c es dd ss E l er :=
 ⟨h.c.below hb h.c.lt,h.v.below hb h.v.lt,h.l.below hb h.l.lt,h.r.below hb h.r.lt⟩
theorem bf_world (w:World) (c:Con) (es dd ss:Value) (E:EvD):∃ W,(((w.alloc (.cells #[.int .u8 c.k,.string c.fr,.string c.rc,.string c.nm,.int .u8 c.ex.k,.string c.ex.ra,.string c.ex.nm,.int .i64 c.ex.d,es,.int .i64 c.d,dd,ss] 29)).alloc (.cells #[.slice E.af E.F.length E.cf,.slice E.ac E.C.length E.cc] 33)).alloc (.cells #[.slice none 0 0] 37)).alloc (.cells #[.int .i64 0] 38)=W ∧
  Below w.heap.size w W∧w.heap.size+4≤W.heap.size∧BfB W w.heap.size c es dd ss E (.slice none 0 0) 0:=by
 refine ⟨_,rfl,(below_a3 _ _ _ _).trans ((below_a1 _ _).mono (by simp;omega)),by simp,?_⟩
 have hc:=((BoxN.new w (c.cells es dd ss) 29).alloc (.cells #[.slice E.af E.F.length E.cf,.slice E.ac E.C.length E.cc] 33)).alloc (.cells #[.slice none 0 0] 37)
 have hd:=(BoxN.new (w.alloc (.cells (c.cells es dd ss).toArray 29)) [.slice E.af E.F.length E.cf,.slice E.ac E.C.length E.cc] 33).alloc (.cells #[.slice none 0 0] 37)
 have hf:=BoxN.new ((w.alloc (.cells (c.cells es dd ss).toArray 29)).alloc (.cells #[.slice E.af E.F.length E.cf,.slice E.ac E.C.length E.cc] 33)) [.slice none 0 0] 37
 have hv:=BoxN.new (((w.alloc (.cells (c.cells es dd ss).toArray 29)).alloc (.cells #[.slice E.af E.F.length E.cf,.slice E.ac E.C.length E.cc] 33)).alloc (.cells #[.slice none 0 0] 37)) [.int .i64 0] 38
 simp only [World.size_alloc] at hd hf hv
 exact ⟨hc.alloc _,hd.alloc _,hf.alloc _,hv⟩
def BfP (w:World) (R:Int × List Fl) (e:Ending) (w':World):Prop :=
 ∃ ad cap,e = .returned (.tuple #[.slice ad R.2.length cap,.int .i64 R.1])∧Below w.heap.size w w'∧R.2.length≤cap∧(ad=none→cap=0)∧Rd Fl.cells 5 w' ad R.2
theorem BfB.store {w W:World} {B:Nat} {c:Con} {es dd ss:Value} {E:EvD} {l:Value} {er:Int} (h:BfB W B c es dd ss E l er) (hB:w.heap.size≤B) (hb:Below w.heap.size w W) (l':Value) (er':Int) :
  Below w.heap.size w ((W.setCell ⟨B+2,0,none⟩ l').setCell ⟨B+3,0,none⟩ (.int .i64 er'))∧BfB ((W.setCell ⟨B+2,0,none⟩ l').setCell ⟨B+3,0,none⟩ (.int .i64 er')) B c es dd ss E l' er' :=
 ⟨(hb.setCell (p:=⟨B+2,0,none⟩) (show w.heap.size≤B+2 by omega) _).setCell (p:=⟨B+3,0,none⟩) (show w.heap.size≤B+3 by omega) _,
  ⟨(h.c.far (show B ≠ B+2 by omega) _).far (show B ≠ B+3 by omega) _,(h.v.far (show B+1 ≠ B+2 by omega) _).far (show B+1 ≠ B+3 by omega) _,(h.l.set 0 _).far (show B+2 ≠ B+3 by omega) _,(h.r.far (show B+3 ≠ B+2 by omega) _).set 0 _⟩⟩
theorem BfB.store2 {w W:World} {B:Nat} {c:Con} {es dd ss:Value} {E:EvD} {l:Value} {er:Int} (h:BfB W B c es dd ss E l er) (hB:w.heap.size≤B) (hb:Below w.heap.size w W) (l':Value) (er':Int) :
  Below w.heap.size w (((W.setCell ⟨B+3,0,none⟩ (.int .i64 er')).setCell ⟨B+2,0,none⟩ l').alloc (.cells #[.int .i64 er'] 127))∧BfB (((W.setCell ⟨B+3,0,none⟩ (.int .i64 er')).setCell ⟨B+2,0,none⟩ l').alloc (.cells #[.int .i64 er'] 127)) B c es dd ss E l' er' :=
 ⟨((hb.setCell (p:=⟨B+3,0,none⟩) (show w.heap.size≤B+3 by omega) _).setCell (p:=⟨B+2,0,none⟩) (show w.heap.size≤B+2 by omega) _).alloc (by simp only [World.size_setCell];exact hb.size) _,
  ⟨((h.c.far (show B ≠ B+3 by omega) _).far (show B ≠ B+2 by omega) _).alloc _,((h.v.far (show B+1 ≠ B+3 by omega) _).far (show B+1 ≠ B+2 by omega) _).alloc _,((h.l.far (show B+2 ≠ B+3 by omega) _).set 0 _).alloc _,((h.r.set 0 _).far (show B+3 ≠ B+2 by omega) _).alloc _⟩⟩
theorem rd_set1 {W:World} {B:Nat} {t:TypeId} {u:Value} {ad:Option Addr} {l:List Fl} (h:Rd Fl.cells 5 W ad l) (hB:BoxN W B t [u]) (v:Value):Rd Fl.cells 5 (W.setCell ⟨B,0,none⟩ v) ad l:=fun j x hj => by
 obtain ⟨b,off,e,h3⟩:=h j x hj
 refine ⟨b,off,e,fun i y hy => ?_⟩
 have hne:b ≠ B:=by
  rintro rfl
  have h1:=h3 1 (.string x.fr) rfl
  simp [World.cell?,show W.heap[b]? = _ from hB] at h1
 rw [World.cell?_setCell_far _ _ _ _ (fun e => hne e.symm)]
 exact h3 i y hy
theorem bfp_nil {w W:World} (er:Int) (h:Below w.heap.size w W):BfP w (er,[]) (.returned (.tuple #[.slice none 0 0,.int .i64 er])) W:=⟨none,0,rfl,h,Nat.le_refl _,fun _ => rfl,Rd.nil _ _⟩
set_option maxHeartbeats 4000000 in
set_option maxRecDepth 100000 in
theorem before_any (c:Con) (es dd ss:Value) (day fin:Int) (E:EvD) (w:World) (h:BfH c es dd ss E w) :
  Calls Tryz.prog 14 #[c.val es dd ss,.int .i64 day,.int .i64 fin,E.val] w (BfP w (befR c day fin E.F E.C)):=by
 obtain ⟨R0,hR0⟩:∃ R0,R0=befR c day fin E.F E.C:=⟨_,rfl⟩
 rw [← hR0]
 obtain ⟨a1,n1,rfl⟩:=h.rd.1.len
 obtain ⟨a2,n2,rfl⟩:=h.rd.2.1.len
 obtain ⟨a3,n3,rfl⟩:=h.rd.2.2.1.len
 obtain ⟨W0,hW0,hb0,hz0,hB0⟩:=bf_world w c (.slice a1 c.ex.sub.length n1) (.slice a2 c.ds.length n2) (.slice a3 c.sub.length n3) E
 have H0:=h.frame hb0
 have HC:Hid (Calls Tryz.prog 20 #[.agg #[.int .u8 c.k,.string c.fr,.string c.rc,.string c.nm,.int .u8 c.ex.k,.string c.ex.ra,.string c.ex.nm,.int .i64 c.ex.d,.slice a1 c.ex.sub.length n1,.int .i64 c.d,.slice a2 c.ds.length n2,.slice a3 c.sub.length n3]] W0 fun e w' => e = .returned (.int .i64 c.err)∧Below W0.heap.size W0 w'):=cchk_any c (.slice a1 c.ex.sub.length n1) (.slice a2 c.ds.length n2) (.slice a3 c.sub.length n3) W0 (by have:=h.bulk;omega) H0.rd H0.ls H0.lp
 have HR:=Lib.hid hR0
 clear hR0
 have HH:=Lib.hid H0
 have HB0:=Lib.hid hB0
 have Hb0:=Lib.hid hb0
 have c0:W0.cell? ⟨w.heap.size,0,none⟩=some (.int .u8 c.k):=hB0.c.cell (j:=0) rfl
 have c1:W0.cell? ⟨w.heap.size,1,none⟩=some (.string c.fr):=hB0.c.cell (j:=1) rfl
 have c2:W0.cell? ⟨w.heap.size,2,none⟩=some (.string c.rc):=hB0.c.cell (j:=2) rfl
 have c3:W0.cell? ⟨w.heap.size,3,none⟩=some (.string c.nm):=hB0.c.cell (j:=3) rfl
 have c4:W0.cell? ⟨w.heap.size,4,none⟩=some (.int .u8 c.ex.k):=hB0.c.cell (j:=4) rfl
 have c5:W0.cell? ⟨w.heap.size,5,none⟩=some (.string c.ex.ra):=hB0.c.cell (j:=5) rfl
 have c6:W0.cell? ⟨w.heap.size,6,none⟩=some (.string c.ex.nm):=hB0.c.cell (j:=6) rfl
 have c7:W0.cell? ⟨w.heap.size,7,none⟩=some (.int .i64 c.ex.d):=hB0.c.cell (j:=7) rfl
 have c8:W0.cell? ⟨w.heap.size,8,none⟩=some (.slice a1 c.ex.sub.length n1):=hB0.c.cell (j:=8) rfl
 have c9:W0.cell? ⟨w.heap.size,9,none⟩=some (.int .i64 c.d):=hB0.c.cell (j:=9) rfl
 have c10:W0.cell? ⟨w.heap.size,10,none⟩=some (.slice a2 c.ds.length n2):=hB0.c.cell (j:=10) rfl
 have c11:W0.cell? ⟨w.heap.size,11,none⟩=some (.slice a3 c.sub.length n3):=hB0.c.cell (j:=11) rfl
 clear h H0 hB0 hb0
 show Calls _ _ #[.agg #[.int .u8 c.k,.string c.fr,.string c.rc,.string c.nm,.int .u8 c.ex.k,.string c.ex.ra,.string c.ex.nm,.int .i64 c.ex.d,.slice a1 c.ex.sub.length n1,.int .i64 c.d,.slice a2 c.ds.length n2,.slice a3 c.sub.length n3],.int .i64 day,.int .i64 fin,.agg #[.slice E.af E.F.length E.cf,.slice E.ac E.C.length E.cc]] _ _
 have HEv:Hid (∀ W,Below W0.heap.size W0 W→Calls Tryz.prog 25 #[.agg #[.slice E.af E.F.length E.cf,.slice E.ac E.C.length E.cc]] W fun e w' => e = .returned (.int .i64 (envErr E.F E.C))∧Below W.heap.size W w') :=
  Lib.hid fun W hb => checkEnv_any E.F E.C E.af E.ac E.cf E.cc W (HH.out.frame hb).e.nf (HH.out.frame hb).e.nc (HH.out.frame hb).e.f (HH.out.frame hb).e.c (HH.out.frame hb).fs (HH.out.frame hb).cs
 have HEv:Hid (∀ W,Below W0.heap.size W0 W→Calls Tryz.prog 25 #[.agg #[.slice E.af E.F.length E.cf,.slice E.ac E.C.length E.cc]] W fun e w' => e = .returned (.int .i64 (envErr E.F E.C))∧Below W.heap.size W w') :=
  Lib.hid fun W hb => checkEnv_any E.F E.C E.af E.ac E.cf E.cc W (HH.out.frame hb).e.nf (HH.out.frame hb).e.nc (HH.out.frame hb).e.f (HH.out.frame hb).e.c (HH.out.frame hb).fs (HH.out.frame hb).cs
 have HEv:Hid (∀ W,Below W0.heap.size W0 W→Calls Tryz.prog 25 #[.agg #[.slice E.af E.F.length E.cf,.slice E.ac E.C.length E.cc]] W fun e w' => e = .returned (.int .i64 (envErr E.F E.C))∧Below W.heap.size W w') :=
  Lib.hid fun W hb => checkEnv_any E.F E.C E.af E.ac E.cf E.cc W (HH.out.frame hb).e.nf (HH.out.frame hb).e.nc (HH.out.frame hb).e.f (HH.out.frame hb).e.c (HH.out.frame hb).fs (HH.out.frame hb).cs
 have HEv:Hid (∀ W,Below W0.heap.size W0 W→Calls Tryz.prog 25 #[.agg #[.slice E.af E.F.length E.cf,.slice E.ac E.C.length E.cc]] W fun e w' => e = .returned (.int .i64 (envErr E.F E.C))∧Below W.heap.size W w') :=
  Lib.hid fun W hb => checkEnv_any E.F E.C E.af E.ac E.cf E.cc W (HH.out.frame hb).e.nf (HH.out.frame hb).e.nc (HH.out.frame hb).e.f (HH.out.frame hb).e.c (HH.out.frame hb).fs (HH.out.frame hb).cs
 by_cases hce:c.err=0
 ·rw [hce] at HC
  by_cases hee:envErr E.F E.C=0
  ·rw [hee] at HEv
   by_cases hd1:day < 0
   ·have b0:decide (day < 0)=true:=decide_eq_true hd1
    go_enter_defers Tryz.func14,Tryz.ntmps14
    go_upto_region 1 with (fail)
    clear hW0
    go_wp2_with (first | (go_at_call 20;refine HC.out.mono ?_;rintro e w1 ⟨rfl,hb1⟩;have hB1:=HB0.out.below hb1;have hb01:=Hb0.out.trans (hb1.mono Hb0.out.size);have v0:w1.cell? ⟨w.heap.size+1,0,none⟩=some (.slice E.af E.F.length E.cf):=hB1.v.cell (j:=0) rfl;have v1:w1.cell? ⟨w.heap.size+1,1,none⟩=some (.slice E.ac E.C.length E.cc):=hB1.v.cell (j:=1) rfl) | (go_at_call 25;refine (HEv.out _ hb1).mono ?_;rintro e w2 ⟨rfl,hb2⟩;have hB2:=hB1.below hb2;have hb12:=hb1.trans (hb2.mono hb1.size);have hb02:=hb01.trans (hb2.mono hb01.size);have q0:w2.cell? ⟨w.heap.size+1+1,0,none⟩=some (.slice none 0 0):=hB2.l.cell (j:=0) rfl;have q1:w2.cell? ⟨w.heap.size+1+1+1,0,none⟩=some (.int .i64 0):=hB2.r.cell (j:=0) rfl;have z0:w2.frozen? ⟨w.heap.size+1+1,0,none⟩=false:=hB2.l.frozen 0;have z1:w2.frozen? ⟨w.heap.size+1+1+1,0,none⟩=false:=hB2.r.frozen 0))
    obtain ⟨hbs,hBs⟩:=hB2.store (Nat.le_refl _) hb02 (.slice none 0 0) (2)
    have r0:World.cell? _ ⟨w.heap.size+1+1,0,none⟩=some (.slice none 0 0):=hBs.l.cell (j:=0) rfl
    have r1:World.cell? _ ⟨w.heap.size+1+1+1,0,none⟩=some (.int .i64 (2)):=hBs.r.cell (j:=0) rfl
    change bodyPostD _ _ _ _ _ ((w2.setCell ⟨w.heap.size+2,0,none⟩ (.slice none 0 0)).setCell ⟨w.heap.size+3,0,none⟩ (.int .i64 (2)))
    generalize (w2.setCell ⟨w.heap.size+2,0,none⟩ (.slice none 0 0)).setCell ⟨w.heap.size+3,0,none⟩ (.int .i64 (2))=W3 at hbs r0 r1 ⊢
    simp [bodyPostD,Leaves,results,Tryz.results14,go_sem,r0,r1]
    rw [HR.out,befR,if_neg (fun h => h hce),if_neg (fun h => h hee),if_pos (by omega)]
    exact bfp_nil _ hbs
   ·skip
    by_cases hd2:99999 < day
    ·have b0:decide (day < 0)=false:=decide_eq_false hd1
     have b1:decide (99999 < day)=true:=decide_eq_true hd2
     go_enter_defers Tryz.func14,Tryz.ntmps14
     go_upto_region 1 with (fail)
     clear hW0
     go_wp2_with (first | (go_at_call 20;refine HC.out.mono ?_;rintro e w1 ⟨rfl,hb1⟩;have hB1:=HB0.out.below hb1;have hb01:=Hb0.out.trans (hb1.mono Hb0.out.size);have v0:w1.cell? ⟨w.heap.size+1,0,none⟩=some (.slice E.af E.F.length E.cf):=hB1.v.cell (j:=0) rfl;have v1:w1.cell? ⟨w.heap.size+1,1,none⟩=some (.slice E.ac E.C.length E.cc):=hB1.v.cell (j:=1) rfl) | (go_at_call 25;refine (HEv.out _ hb1).mono ?_;rintro e w2 ⟨rfl,hb2⟩;have hB2:=hB1.below hb2;have hb12:=hb1.trans (hb2.mono hb1.size);have hb02:=hb01.trans (hb2.mono hb01.size);have q0:w2.cell? ⟨w.heap.size+1+1,0,none⟩=some (.slice none 0 0):=hB2.l.cell (j:=0) rfl;have q1:w2.cell? ⟨w.heap.size+1+1+1,0,none⟩=some (.int .i64 0):=hB2.r.cell (j:=0) rfl;have z0:w2.frozen? ⟨w.heap.size+1+1,0,none⟩=false:=hB2.l.frozen 0;have z1:w2.frozen? ⟨w.heap.size+1+1+1,0,none⟩=false:=hB2.r.frozen 0))
     obtain ⟨hbs,hBs⟩:=hB2.store (Nat.le_refl _) hb02 (.slice none 0 0) (2)
     have r0:World.cell? _ ⟨w.heap.size+1+1,0,none⟩=some (.slice none 0 0):=hBs.l.cell (j:=0) rfl
     have r1:World.cell? _ ⟨w.heap.size+1+1+1,0,none⟩=some (.int .i64 (2)):=hBs.r.cell (j:=0) rfl
     change bodyPostD _ _ _ _ _ ((w2.setCell ⟨w.heap.size+2,0,none⟩ (.slice none 0 0)).setCell ⟨w.heap.size+3,0,none⟩ (.int .i64 (2)))
     generalize (w2.setCell ⟨w.heap.size+2,0,none⟩ (.slice none 0 0)).setCell ⟨w.heap.size+3,0,none⟩ (.int .i64 (2))=W3 at hbs r0 r1 ⊢
     simp [bodyPostD,Leaves,results,Tryz.results14,go_sem,r0,r1]
     rw [HR.out,befR,if_neg (fun h => h hce),if_neg (fun h => h hee),if_pos (by omega)]
     exact bfp_nil _ hbs
    ·skip
     by_cases hd3:fin < 0
     ·have b0:decide (day < 0)=false:=decide_eq_false hd1
      have b1:decide (99999 < day)=false:=decide_eq_false hd2
      have b2:decide (fin < 0)=true:=decide_eq_true hd3
      go_enter_defers Tryz.func14,Tryz.ntmps14
      go_upto_region 1 with (fail)
      clear hW0
      go_wp2_with (first | (go_at_call 20;refine HC.out.mono ?_;rintro e w1 ⟨rfl,hb1⟩;have hB1:=HB0.out.below hb1;have hb01:=Hb0.out.trans (hb1.mono Hb0.out.size);have v0:w1.cell? ⟨w.heap.size+1,0,none⟩=some (.slice E.af E.F.length E.cf):=hB1.v.cell (j:=0) rfl;have v1:w1.cell? ⟨w.heap.size+1,1,none⟩=some (.slice E.ac E.C.length E.cc):=hB1.v.cell (j:=1) rfl) | (go_at_call 25;refine (HEv.out _ hb1).mono ?_;rintro e w2 ⟨rfl,hb2⟩;have hB2:=hB1.below hb2;have hb12:=hb1.trans (hb2.mono hb1.size);have hb02:=hb01.trans (hb2.mono hb01.size);have q0:w2.cell? ⟨w.heap.size+1+1,0,none⟩=some (.slice none 0 0):=hB2.l.cell (j:=0) rfl;have q1:w2.cell? ⟨w.heap.size+1+1+1,0,none⟩=some (.int .i64 0):=hB2.r.cell (j:=0) rfl;have z0:w2.frozen? ⟨w.heap.size+1+1,0,none⟩=false:=hB2.l.frozen 0;have z1:w2.frozen? ⟨w.heap.size+1+1+1,0,none⟩=false:=hB2.r.frozen 0))
      obtain ⟨hbs,hBs⟩:=hB2.store (Nat.le_refl _) hb02 (.slice none 0 0) (2)
      have r0:World.cell? _ ⟨w.heap.size+1+1,0,none⟩=some (.slice none 0 0):=hBs.l.cell (j:=0) rfl
      have r1:World.cell? _ ⟨w.heap.size+1+1+1,0,none⟩=some (.int .i64 (2)):=hBs.r.cell (j:=0) rfl
      change bodyPostD _ _ _ _ _ ((w2.setCell ⟨w.heap.size+2,0,none⟩ (.slice none 0 0)).setCell ⟨w.heap.size+3,0,none⟩ (.int .i64 (2)))
      generalize (w2.setCell ⟨w.heap.size+2,0,none⟩ (.slice none 0 0)).setCell ⟨w.heap.size+3,0,none⟩ (.int .i64 (2))=W3 at hbs r0 r1 ⊢
      simp [bodyPostD,Leaves,results,Tryz.results14,go_sem,r0,r1]
      rw [HR.out,befR,if_neg (fun h => h hce),if_neg (fun h => h hee),if_pos (by omega)]
      exact bfp_nil _ hbs
     ·skip
      by_cases hd4:100000 < fin
      ·have b0:decide (day < 0)=false:=decide_eq_false hd1
       have b1:decide (99999 < day)=false:=decide_eq_false hd2
       have b2:decide (fin < 0)=false:=decide_eq_false hd3
       have b3:decide (100000 < fin)=true:=decide_eq_true hd4
       go_enter_defers Tryz.func14,Tryz.ntmps14
       go_upto_region 1 with (fail)
       clear hW0
       go_wp2_with (first | (go_at_call 20;refine HC.out.mono ?_;rintro e w1 ⟨rfl,hb1⟩;have hB1:=HB0.out.below hb1;have hb01:=Hb0.out.trans (hb1.mono Hb0.out.size);have v0:w1.cell? ⟨w.heap.size+1,0,none⟩=some (.slice E.af E.F.length E.cf):=hB1.v.cell (j:=0) rfl;have v1:w1.cell? ⟨w.heap.size+1,1,none⟩=some (.slice E.ac E.C.length E.cc):=hB1.v.cell (j:=1) rfl) | (go_at_call 25;refine (HEv.out _ hb1).mono ?_;rintro e w2 ⟨rfl,hb2⟩;have hB2:=hB1.below hb2;have hb12:=hb1.trans (hb2.mono hb1.size);have hb02:=hb01.trans (hb2.mono hb01.size);have q0:w2.cell? ⟨w.heap.size+1+1,0,none⟩=some (.slice none 0 0):=hB2.l.cell (j:=0) rfl;have q1:w2.cell? ⟨w.heap.size+1+1+1,0,none⟩=some (.int .i64 0):=hB2.r.cell (j:=0) rfl;have z0:w2.frozen? ⟨w.heap.size+1+1,0,none⟩=false:=hB2.l.frozen 0;have z1:w2.frozen? ⟨w.heap.size+1+1+1,0,none⟩=false:=hB2.r.frozen 0))
       obtain ⟨hbs,hBs⟩:=hB2.store (Nat.le_refl _) hb02 (.slice none 0 0) (2)
       have r0:World.cell? _ ⟨w.heap.size+1+1,0,none⟩=some (.slice none 0 0):=hBs.l.cell (j:=0) rfl
       have r1:World.cell? _ ⟨w.heap.size+1+1+1,0,none⟩=some (.int .i64 (2)):=hBs.r.cell (j:=0) rfl
       change bodyPostD _ _ _ _ _ ((w2.setCell ⟨w.heap.size+2,0,none⟩ (.slice none 0 0)).setCell ⟨w.heap.size+3,0,none⟩ (.int .i64 (2)))
       generalize (w2.setCell ⟨w.heap.size+2,0,none⟩ (.slice none 0 0)).setCell ⟨w.heap.size+3,0,none⟩ (.int .i64 (2))=W3 at hbs r0 r1 ⊢
       simp [bodyPostD,Leaves,results,Tryz.results14,go_sem,r0,r1]
       rw [HR.out,befR,if_neg (fun h => h hce),if_neg (fun h => h hee),if_pos (by omega)]
       exact bfp_nil _ hbs
      ·skip
       have b0:decide (day < 0)=false:=decide_eq_false hd1
       have b1:decide (99999 < day)=false:=decide_eq_false hd2
       have b2:decide (fin < 0)=false:=decide_eq_false hd3
       have b3:decide (100000 < fin)=false:=decide_eq_false hd4
       have hfl:=HH.out.fl hce hee
       have hF0:0≤day:=by omega
       have hF1:fin≤100000:=by omega
       obtain ⟨R1,hR1⟩:∃ R1,R1=c.flows E.F E.C day fin:=⟨_,rfl⟩
       have hlen:R1.2.length≤5000000:=by rw [hR1];have:=flows_len E.F E.C c.bulk c (Nat.le_refl _) day fin;have:=hfl.bulk;omega
       have HF:Hid (∀ W,Below W0.heap.size W0 W→Calls Tryz.prog 43 #[.agg #[.int .u8 c.k,.string c.fr,.string c.rc,.string c.nm,.int .u8 c.ex.k,.string c.ex.ra,.string c.ex.nm,.int .i64 c.ex.d,.slice a1 c.ex.sub.length n1,.int .i64 c.d,.slice a2 c.ds.length n2,.slice a3 c.sub.length n3],.int .i64 day,.int .i64 fin,.agg #[.slice E.af E.F.length E.cf,.slice E.ac E.C.length E.cc]] W (FlP W R1)):=by
        rw [hR1]
        exact Lib.hid fun W hb => flows_any c.bulk c E (Nat.le_refl _) _ _ _ day fin W (hfl.frame hb) hF0 hF1
       have HR2:Hid (R0=andR R1 [] fun l => (0,srtFl l)):=by
        show R0=_
        rw [HR.out,befR,if_neg (fun h => h hce),if_neg (fun h => h hee),if_neg (by omega),hR1]
       clear hR1 hfl HR
       by_cases hr:R1.1=0
       ·have HFe:Hid (∀ W,Below W0.heap.size W0 W→Calls Tryz.prog 43 #[.agg #[.int .u8 c.k,.string c.fr,.string c.rc,.string c.nm,.int .u8 c.ex.k,.string c.ex.ra,.string c.ex.nm,.int .i64 c.ex.d,.slice a1 c.ex.sub.length n1,.int .i64 c.d,.slice a2 c.ds.length n2,.slice a3 c.sub.length n3],.int .i64 day,.int .i64 fin,.agg #[.slice E.af E.F.length E.cf,.slice E.ac E.C.length E.cc]] W fun e w' => ∃ ad cap,e = .returned (.slice ad R1.2.length cap)∧Below W.heap.size W w'∧R1.2.length≤cap∧(ad=none→cap=0)∧Rd Fl.cells 5 w' ad R1.2):=Lib.hid fun W hb => (HF.out W hb).mono (fun e w' h => by
         obtain ⟨h1,⟨_,v,rfl,⟨ad,cap,rfl⟩,ho⟩ | ⟨h2,_⟩⟩:=h
         ·obtain ⟨o1,o2,o3⟩:=own_rd ho
          exact ⟨ad,cap,rfl,h1,o2,o3,o1⟩
         ·exact absurd hr h2)
        have HR3:Hid (R0=(0,srtFl R1.2)):=by show R0=_;rw [HR2.out,andR,if_neg (fun h => h hr)]
        have HOr:Hid (∀ (ad:Option Addr) (cap:Nat) (W:World),Rd Fl.cells 5 W ad R1.2→R1.2.length≤cap→(ad=none→cap=0)→Calls Tryz.prog 42 #[.slice ad R1.2.length cap,.func (.func 44) #[] #[]] W (OrdP W R1.2)):=Lib.hid fun ad cap W h1 h2 h3 => ordered_any _ R1.2 (Nat.le_refl _) hlen ad cap W h1 h2 h3
        clear HF hr HR2 hlen
        go_enter_defers Tryz.func14,Tryz.ntmps14
        go_upto_region 1 with (fail)
        clear hW0
        go_wp2_with (first | (go_at_call 20;refine HC.out.mono ?_;rintro e w1 ⟨rfl,hb1⟩;have hB1:=HB0.out.below hb1;have hb01:=Hb0.out.trans (hb1.mono Hb0.out.size);have v0:w1.cell? ⟨w.heap.size+1,0,none⟩=some (.slice E.af E.F.length E.cf):=hB1.v.cell (j:=0) rfl;have v1:w1.cell? ⟨w.heap.size+1,1,none⟩=some (.slice E.ac E.C.length E.cc):=hB1.v.cell (j:=1) rfl) | (go_at_call 25;refine (HEv.out _ hb1).mono ?_;rintro e w2 ⟨rfl,hb2⟩;have hB2:=hB1.below hb2;have hb12:=hb1.trans (hb2.mono hb1.size);have hb02:=hb01.trans (hb2.mono hb01.size);have v0:w2.cell? ⟨w.heap.size+1,0,none⟩=some (.slice E.af E.F.length E.cf):=hB2.v.cell (j:=0) rfl;have v1:w2.cell? ⟨w.heap.size+1,1,none⟩=some (.slice E.ac E.C.length E.cc):=hB2.v.cell (j:=1) rfl;have k0:w2.cell? ⟨w.heap.size,0,none⟩=some (.int .u8 c.k):=hB2.c.cell (j:=0) rfl;have k1:w2.cell? ⟨w.heap.size,1,none⟩=some (.string c.fr):=hB2.c.cell (j:=1) rfl;have k2:w2.cell? ⟨w.heap.size,2,none⟩=some (.string c.rc):=hB2.c.cell (j:=2) rfl;have k3:w2.cell? ⟨w.heap.size,3,none⟩=some (.string c.nm):=hB2.c.cell (j:=3) rfl;have k4:w2.cell? ⟨w.heap.size,4,none⟩=some (.int .u8 c.ex.k):=hB2.c.cell (j:=4) rfl;have k5:w2.cell? ⟨w.heap.size,5,none⟩=some (.string c.ex.ra):=hB2.c.cell (j:=5) rfl;have k6:w2.cell? ⟨w.heap.size,6,none⟩=some (.string c.ex.nm):=hB2.c.cell (j:=6) rfl;have k7:w2.cell? ⟨w.heap.size,7,none⟩=some (.int .i64 c.ex.d):=hB2.c.cell (j:=7) rfl;have k8:w2.cell? ⟨w.heap.size,8,none⟩=some (.slice a1 c.ex.sub.length n1):=hB2.c.cell (j:=8) rfl;have k9:w2.cell? ⟨w.heap.size,9,none⟩=some (.int .i64 c.d):=hB2.c.cell (j:=9) rfl;have k10:w2.cell? ⟨w.heap.size,10,none⟩=some (.slice a2 c.ds.length n2):=hB2.c.cell (j:=10) rfl;have k11:w2.cell? ⟨w.heap.size,11,none⟩=some (.slice a3 c.sub.length n3):=hB2.c.cell (j:=11) rfl) | (go_at_call 43;refine (HFe.out _ hb12).mono ?_;rintro e w3 ⟨ad3,cap3,rfl,hb3,l3,n3',r3⟩;have hB3:=hB2.below hb3;have hb03:=hb02.trans (hb3.mono hb02.size)) | (go_at_call 42;refine (HOr.out ad3 cap3 _ r3 l3 n3').mono ?_;rintro e w4 ⟨ad4,cap4,rfl,hb4,l4,n4,r4⟩;have hB4:=hB3.below hb4;have hb04:=hb03.trans (hb4.mono hb03.size);have q0:w4.cell? ⟨w.heap.size+1+1,0,none⟩=some (.slice none 0 0):=hB4.l.cell (j:=0) rfl;have q1:w4.cell? ⟨w.heap.size+1+1+1,0,none⟩=some (.int .i64 0):=hB4.r.cell (j:=0) rfl;have z0:w4.frozen? ⟨w.heap.size+1+1,0,none⟩=false:=hB4.l.frozen 0;have z1:w4.frozen? ⟨w.heap.size+1+1+1,0,none⟩=false:=hB4.r.frozen 0))
        refine leaves_cons (f:=41) (args:=#[.pointer (some ⟨w.heap.size+1+1+1,0,none⟩),.pointer (some ⟨w.heap.size+1+1,0,none⟩)]) (by simp) (by simp [go_sem]) ?_
        refine (caught_idle _ _ _).mono ?_
        rintro e u' w'' ⟨rfl,rfl,rfl⟩
        have hst:=hB4.store (Nat.le_refl _) hb04 (.slice ad4 R1.2.length cap4) 0
        have r4':=rd_set1 (rd_set1 r4 hB4.l (.slice ad4 R1.2.length cap4)) (hB4.r.far (show w.heap.size+3 ≠ w.heap.size+2 by omega) _) (.int .i64 0)
        have r0:((w4.setCell ⟨w.heap.size+1+1,0,none⟩ (.slice ad4 R1.2.length cap4)).setCell ⟨w.heap.size+1+1+1,0,none⟩ (.int .i64 0)).cell? ⟨w.heap.size+1+1,0,none⟩=some (.slice ad4 R1.2.length cap4):=hst.2.l.cell (j:=0) rfl
        have r1:((w4.setCell ⟨w.heap.size+1+1,0,none⟩ (.slice ad4 R1.2.length cap4)).setCell ⟨w.heap.size+1+1+1,0,none⟩ (.int .i64 0)).cell? ⟨w.heap.size+1+1+1,0,none⟩=some (.int .i64 0):=hst.2.r.cell (j:=0) rfl
        have hbs:Below w.heap.size w ((w4.setCell ⟨w.heap.size+1+1,0,none⟩ (.slice ad4 R1.2.length cap4)).setCell ⟨w.heap.size+1+1+1,0,none⟩ (.int .i64 0)):=hst.1
        replace r4':Rd Fl.cells 5 ((w4.setCell ⟨w.heap.size+1+1,0,none⟩ (.slice ad4 R1.2.length cap4)).setCell ⟨w.heap.size+1+1+1,0,none⟩ (.int .i64 0)) ad4 (srtFl R1.2):=r4'
        clear hst
        generalize ((w4.setCell ⟨w.heap.size+1+1,0,none⟩ (.slice ad4 R1.2.length cap4)).setCell ⟨w.heap.size+1+1+1,0,none⟩ (.int .i64 0))=W3 at r0 r1 hbs r4' ⊢
        simp [Leaves,settle,results,Tryz.results14,go_sem,r0,r1]
        rw [HR3.out]
        exact ⟨_,_,by rw [srtFl_len],hbs,by rw [srtFl_len];exact l4,n4,r4'⟩
       ·have HFe:Hid (∀ W,Below W0.heap.size W0 W→Calls Tryz.prog 43 #[.agg #[.int .u8 c.k,.string c.fr,.string c.rc,.string c.nm,.int .u8 c.ex.k,.string c.ex.ra,.string c.ex.nm,.int .i64 c.ex.d,.slice a1 c.ex.sub.length n1,.int .i64 c.d,.slice a2 c.ds.length n2,.slice a3 c.sub.length n3],.int .i64 day,.int .i64 fin,.agg #[.slice E.af E.F.length E.cf,.slice E.ac E.C.length E.cc]] W fun e w' => e = .panicked (stopC R1.1)∧Below W.heap.size W w'):=Lib.hid fun W hb => (HF.out W hb).mono (fun e w' h => by
         obtain ⟨h1,⟨h2,_⟩ | ⟨_,rfl⟩⟩:=h
         ·exact absurd h2 hr
         ·exact ⟨rfl,h1⟩)
        have HR3:Hid (R0=(R1.1,[])):=by show R0=_;rw [HR2.out,andR,if_pos hr]
        clear HF hr HR2 hlen
        go_enter_defers Tryz.func14,Tryz.ntmps14
        go_upto_region 1 with (fail)
        clear hW0
        go_wp2_with (first | (go_at_call 20;refine HC.out.mono ?_;rintro e w1 ⟨rfl,hb1⟩;have hB1:=HB0.out.below hb1;have hb01:=Hb0.out.trans (hb1.mono Hb0.out.size);have v0:w1.cell? ⟨w.heap.size+1,0,none⟩=some (.slice E.af E.F.length E.cf):=hB1.v.cell (j:=0) rfl;have v1:w1.cell? ⟨w.heap.size+1,1,none⟩=some (.slice E.ac E.C.length E.cc):=hB1.v.cell (j:=1) rfl) | (go_at_call 25;refine (HEv.out _ hb1).mono ?_;rintro e w2 ⟨rfl,hb2⟩;have hB2:=hB1.below hb2;have hb12:=hb1.trans (hb2.mono hb1.size);have hb02:=hb01.trans (hb2.mono hb01.size);have v0:w2.cell? ⟨w.heap.size+1,0,none⟩=some (.slice E.af E.F.length E.cf):=hB2.v.cell (j:=0) rfl;have v1:w2.cell? ⟨w.heap.size+1,1,none⟩=some (.slice E.ac E.C.length E.cc):=hB2.v.cell (j:=1) rfl;have k0:w2.cell? ⟨w.heap.size,0,none⟩=some (.int .u8 c.k):=hB2.c.cell (j:=0) rfl;have k1:w2.cell? ⟨w.heap.size,1,none⟩=some (.string c.fr):=hB2.c.cell (j:=1) rfl;have k2:w2.cell? ⟨w.heap.size,2,none⟩=some (.string c.rc):=hB2.c.cell (j:=2) rfl;have k3:w2.cell? ⟨w.heap.size,3,none⟩=some (.string c.nm):=hB2.c.cell (j:=3) rfl;have k4:w2.cell? ⟨w.heap.size,4,none⟩=some (.int .u8 c.ex.k):=hB2.c.cell (j:=4) rfl;have k5:w2.cell? ⟨w.heap.size,5,none⟩=some (.string c.ex.ra):=hB2.c.cell (j:=5) rfl;have k6:w2.cell? ⟨w.heap.size,6,none⟩=some (.string c.ex.nm):=hB2.c.cell (j:=6) rfl;have k7:w2.cell? ⟨w.heap.size,7,none⟩=some (.int .i64 c.ex.d):=hB2.c.cell (j:=7) rfl;have k8:w2.cell? ⟨w.heap.size,8,none⟩=some (.slice a1 c.ex.sub.length n1):=hB2.c.cell (j:=8) rfl;have k9:w2.cell? ⟨w.heap.size,9,none⟩=some (.int .i64 c.d):=hB2.c.cell (j:=9) rfl;have k10:w2.cell? ⟨w.heap.size,10,none⟩=some (.slice a2 c.ds.length n2):=hB2.c.cell (j:=10) rfl;have k11:w2.cell? ⟨w.heap.size,11,none⟩=some (.slice a3 c.sub.length n3):=hB2.c.cell (j:=11) rfl) | (go_at_call 43;refine (HFe.out _ hb12).mono ?_;rintro e w3 ⟨rfl,hb3⟩;have hB3:=hB2.below hb3;have hb03:=hb02.trans (hb3.mono hb02.size);have q0:w3.cell? ⟨w.heap.size+1+1,0,none⟩=some (.slice none 0 0):=hB3.l.cell (j:=0) rfl;have q1:w3.cell? ⟨w.heap.size+1+1+1,0,none⟩=some (.int .i64 0):=hB3.r.cell (j:=0) rfl;have z0:w3.frozen? ⟨w.heap.size+1+1,0,none⟩=false:=hB3.l.frozen 0;have z1:w3.frozen? ⟨w.heap.size+1+1+1,0,none⟩=false:=hB3.r.frozen 0))
        refine leaves_cons (f:=41) (args:=#[.pointer (some ⟨w.heap.size+1+1+1,0,none⟩),.pointer (some ⟨w.heap.size+1+1,0,none⟩)]) (by simp) (by simp [go_sem]) ?_
        refine (caught_panicking (w.heap.size+1+1+1) (w.heap.size+1+1) 0 R1.1 (.slice none 0 0) [] w3 q1 z1 q0 z0 (by omega) hB3.r.lt hB3.l.lt).mono ?_
        rintro e u' w'' ⟨rfl,rfl,rfl⟩
        have hst:=hB3.store2 (Nat.le_refl _) hb03 (.slice none 0 0) R1.1
        have r0:(((w3.setCell ⟨w.heap.size+1+1+1,0,none⟩ (.int .i64 R1.1)).setCell ⟨w.heap.size+1+1,0,none⟩ (.slice none 0 0)).alloc (.cells #[.int .i64 R1.1] 127)).cell? ⟨w.heap.size+1+1,0,none⟩=some (.slice none 0 0):=hst.2.l.cell (j:=0) rfl
        have r1:(((w3.setCell ⟨w.heap.size+1+1+1,0,none⟩ (.int .i64 R1.1)).setCell ⟨w.heap.size+1+1,0,none⟩ (.slice none 0 0)).alloc (.cells #[.int .i64 R1.1] 127)).cell? ⟨w.heap.size+1+1+1,0,none⟩=some (.int .i64 R1.1):=hst.2.r.cell (j:=0) rfl
        have hbs:Below w.heap.size w (((w3.setCell ⟨w.heap.size+1+1+1,0,none⟩ (.int .i64 R1.1)).setCell ⟨w.heap.size+1+1,0,none⟩ (.slice none 0 0)).alloc (.cells #[.int .i64 R1.1] 127)):=hst.1
        clear hst
        generalize (((w3.setCell ⟨w.heap.size+1+1+1,0,none⟩ (.int .i64 R1.1)).setCell ⟨w.heap.size+1+1,0,none⟩ (.slice none 0 0)).alloc (.cells #[.int .i64 R1.1] 127))=W3 at r0 r1 hbs ⊢
        simp [Leaves,settle,results,Tryz.results14,go_sem,r0,r1]
        rw [HR3.out]
        exact bfp_nil _ hbs
  ·have t2:(envErr E.F E.C == 0)=false:=by rw [beq_eq_false_iff_ne];exact hee
   go_enter_defers Tryz.func14,Tryz.ntmps14
   go_upto_region 1 with (fail)
   clear hW0
   go_wp2_with (first | (go_at_call 20;refine HC.out.mono ?_;rintro e w1 ⟨rfl,hb1⟩;have hB1:=HB0.out.below hb1;have hb01:=Hb0.out.trans (hb1.mono Hb0.out.size);have v0:w1.cell? ⟨w.heap.size+1,0,none⟩=some (.slice E.af E.F.length E.cf):=hB1.v.cell (j:=0) rfl;have v1:w1.cell? ⟨w.heap.size+1,1,none⟩=some (.slice E.ac E.C.length E.cc):=hB1.v.cell (j:=1) rfl) | (go_at_call 25;refine (HEv.out _ hb1).mono ?_;rintro e w2 ⟨rfl,hb2⟩;have hB2:=hB1.below hb2;have hb12:=hb1.trans (hb2.mono hb1.size);have hb02:=hb01.trans (hb2.mono hb01.size);have q0:w2.cell? ⟨w.heap.size+1+1,0,none⟩=some (.slice none 0 0):=hB2.l.cell (j:=0) rfl;have q1:w2.cell? ⟨w.heap.size+1+1+1,0,none⟩=some (.int .i64 0):=hB2.r.cell (j:=0) rfl;have z0:w2.frozen? ⟨w.heap.size+1+1,0,none⟩=false:=hB2.l.frozen 0;have z1:w2.frozen? ⟨w.heap.size+1+1+1,0,none⟩=false:=hB2.r.frozen 0))
   obtain ⟨hbs,hBs⟩:=hB2.store (Nat.le_refl _) hb02 (.slice none 0 0) (envErr E.F E.C)
   have r0:World.cell? _ ⟨w.heap.size+1+1,0,none⟩=some (.slice none 0 0):=hBs.l.cell (j:=0) rfl
   have r1:World.cell? _ ⟨w.heap.size+1+1+1,0,none⟩=some (.int .i64 (envErr E.F E.C)):=hBs.r.cell (j:=0) rfl
   change bodyPostD _ _ _ _ _ ((w2.setCell ⟨w.heap.size+2,0,none⟩ (.slice none 0 0)).setCell ⟨w.heap.size+3,0,none⟩ (.int .i64 (envErr E.F E.C)))
   generalize (w2.setCell ⟨w.heap.size+2,0,none⟩ (.slice none 0 0)).setCell ⟨w.heap.size+3,0,none⟩ (.int .i64 (envErr E.F E.C))=W3 at hbs r0 r1 ⊢
   simp [bodyPostD,Leaves,results,Tryz.results14,go_sem,r0,r1]
   rw [HR.out,befR,if_neg (fun h => h hce),if_pos hee]
   exact bfp_nil _ hbs
 ·have t1:(c.err == 0)=false:=by rw [beq_eq_false_iff_ne];exact hce
  go_enter_defers Tryz.func14,Tryz.ntmps14
  go_upto_region 1 with (fail)
  clear hW0
  go_wp2_with (go_at_call 20;refine HC.out.mono ?_;rintro e w1 ⟨rfl,hb1⟩;have hB1:=HB0.out.below hb1;have hb01:=Hb0.out.trans (hb1.mono Hb0.out.size);have q0:w1.cell? ⟨w.heap.size+1+1,0,none⟩=some (.slice none 0 0):=hB1.l.cell (j:=0) rfl;have q1:w1.cell? ⟨w.heap.size+1+1+1,0,none⟩=some (.int .i64 0):=hB1.r.cell (j:=0) rfl;have z0:w1.frozen? ⟨w.heap.size+1+1,0,none⟩=false:=hB1.l.frozen 0;have z1:w1.frozen? ⟨w.heap.size+1+1+1,0,none⟩=false:=hB1.r.frozen 0)
  obtain ⟨hbs,hBs⟩:=hB1.store (Nat.le_refl _) hb01 (.slice none 0 0) (c.err)
  have r0:World.cell? _ ⟨w.heap.size+1+1,0,none⟩=some (.slice none 0 0):=hBs.l.cell (j:=0) rfl
  have r1:World.cell? _ ⟨w.heap.size+1+1+1,0,none⟩=some (.int .i64 (c.err)):=hBs.r.cell (j:=0) rfl
  change bodyPostD _ _ _ _ _ ((w1.setCell ⟨w.heap.size+2,0,none⟩ (.slice none 0 0)).setCell ⟨w.heap.size+3,0,none⟩ (.int .i64 (c.err)))
  generalize (w1.setCell ⟨w.heap.size+2,0,none⟩ (.slice none 0 0)).setCell ⟨w.heap.size+3,0,none⟩ (.int .i64 (c.err))=W3 at hbs r0 r1 ⊢
  simp [bodyPostD,Leaves,results,Tryz.results14,go_sem,r0,r1]
  rw [HR.out,befR,if_pos hce]
  exact bfp_nil _ hbs
end Go.Proofs.YtknpnhodpgajbaaGreatDoor

namespace Go.Proofs.YtknpnhodpgajbaaGreatDoor
open Go.RowKit
set_option maxHeartbeats 1000000 in
set_option maxRecDepth 100000 in
theorem mflows_any (c:Con) (es dd ss:Value) (day:Int) (E:EvD) (w:World) (h:BfH c es dd ss E w) :
  Calls Tryz.prog 12 #[c.val es dd ss,.int .i64 day,E.val] w (BfP w (befR c day 100000 E.F E.C)):=by
 obtain ⟨a1,n1,rfl⟩:=h.rd.1.len
 obtain ⟨a2,n2,rfl⟩:=h.rd.2.1.len
 obtain ⟨a3,n3,rfl⟩:=h.rd.2.2.1.len
 obtain ⟨W0,hW0,hb0,hz0,bc,bv⟩:∃ W,(w.alloc (.cells #[.int .u8 c.k,.string c.fr,.string c.rc,.string c.nm,.int .u8 c.ex.k,.string c.ex.ra,.string c.ex.nm,.int .i64 c.ex.d,.slice a1 c.ex.sub.length n1,.int .i64 c.d,.slice a2 c.ds.length n2,.slice a3 c.sub.length n3] 29)).alloc (.cells #[.slice E.af E.F.length E.cf,.slice E.ac E.C.length E.cc] 33)=W∧Below w.heap.size w W∧w.heap.size+2≤W.heap.size∧BoxN W w.heap.size 29 (c.cells (.slice a1 c.ex.sub.length n1) (.slice a2 c.ds.length n2) (.slice a3 c.sub.length n3))∧BoxN W (w.heap.size+1) 33 [.slice E.af E.F.length E.cf,.slice E.ac E.C.length E.cc]:=by
  refine ⟨_,rfl,below_a2 _ _ _,by simp,?_⟩
  have hc:=BoxN.new w (c.cells (.slice a1 c.ex.sub.length n1) (.slice a2 c.ds.length n2) (.slice a3 c.sub.length n3)) 29
  have hv:=BoxN.new (w.alloc (.cells (c.cells (.slice a1 c.ex.sub.length n1) (.slice a2 c.ds.length n2) (.slice a3 c.sub.length n3)).toArray 29)) [.slice E.af E.F.length E.cf,.slice E.ac E.C.length E.cc] 33
  simp only [World.size_alloc] at hv
  exact ⟨hc.alloc _,hv⟩
 have HC:Hid (Calls Tryz.prog 14 #[.agg #[.int .u8 c.k,.string c.fr,.string c.rc,.string c.nm,.int .u8 c.ex.k,.string c.ex.ra,.string c.ex.nm,.int .i64 c.ex.d,.slice a1 c.ex.sub.length n1,.int .i64 c.d,.slice a2 c.ds.length n2,.slice a3 c.sub.length n3],.int .i64 day,.int .i64 100000,.agg #[.slice E.af E.F.length E.cf,.slice E.ac E.C.length E.cc]] W0 (BfP W0 (befR c day 100000 E.F E.C))):=before_any c _ _ _ day 100000 E W0 (h.frame hb0)
 have Hb0:=Lib.hid hb0
 have c0:W0.cell? ⟨w.heap.size,0,none⟩=some (.int .u8 c.k):=bc.cell (j:=0) rfl
 have c1:W0.cell? ⟨w.heap.size,1,none⟩=some (.string c.fr):=bc.cell (j:=1) rfl
 have c2:W0.cell? ⟨w.heap.size,2,none⟩=some (.string c.rc):=bc.cell (j:=2) rfl
 have c3:W0.cell? ⟨w.heap.size,3,none⟩=some (.string c.nm):=bc.cell (j:=3) rfl
 have c4:W0.cell? ⟨w.heap.size,4,none⟩=some (.int .u8 c.ex.k):=bc.cell (j:=4) rfl
 have c5:W0.cell? ⟨w.heap.size,5,none⟩=some (.string c.ex.ra):=bc.cell (j:=5) rfl
 have c6:W0.cell? ⟨w.heap.size,6,none⟩=some (.string c.ex.nm):=bc.cell (j:=6) rfl
 have c7:W0.cell? ⟨w.heap.size,7,none⟩=some (.int .i64 c.ex.d):=bc.cell (j:=7) rfl
 have c8:W0.cell? ⟨w.heap.size,8,none⟩=some (.slice a1 c.ex.sub.length n1):=bc.cell (j:=8) rfl
 have c9:W0.cell? ⟨w.heap.size,9,none⟩=some (.int .i64 c.d):=bc.cell (j:=9) rfl
 have c10:W0.cell? ⟨w.heap.size,10,none⟩=some (.slice a2 c.ds.length n2):=bc.cell (j:=10) rfl
 have c11:W0.cell? ⟨w.heap.size,11,none⟩=some (.slice a3 c.sub.length n3):=bc.cell (j:=11) rfl
 have v0:W0.cell? ⟨w.heap.size+1,0,none⟩=some (.slice E.af E.F.length E.cf):=bv.cell (j:=0) rfl
 have v1:W0.cell? ⟨w.heap.size+1,1,none⟩=some (.slice E.ac E.C.length E.cc):=bv.cell (j:=1) rfl
 show Calls _ _ #[.agg #[.int .u8 c.k,.string c.fr,.string c.rc,.string c.nm,.int .u8 c.ex.k,.string c.ex.ra,.string c.ex.nm,.int .i64 c.ex.d,.slice a1 c.ex.sub.length n1,.int .i64 c.d,.slice a2 c.ds.length n2,.slice a3 c.sub.length n3],.int .i64 day,.agg #[.slice E.af E.F.length E.cf,.slice E.ac E.C.length E.cc]] _ _
 generalize befR c day 100000 E.F E.C=R at HC ⊢
 clear h bc bv hb0
 show Calls _ _ _ _ (fun e w' => ∃ ad cap,e = .returned (.tuple #[.slice ad R.2.length cap,.int .i64 R.1])∧Below w.heap.size w w'∧R.2.length≤cap∧(ad=none→cap=0)∧Rd Fl.cells 5 w' ad R.2)
 go_enter Tryz.func12,Tryz.ntmps12
 go_upto_region 1 with (fail)
 clear hW0
 go_wp2_with (go_at_call 14;refine HC.out.mono ?_;rintro e w1 ⟨ad,cap,rfl,hb1,q⟩)
 go_ret2
 exact ⟨_,_,rfl,Hb0.out.trans (hb1.mono Hb0.out.size),q⟩
end Go.Proofs.YtknpnhodpgajbaaGreatDoor

namespace Go.Proofs.YtknpnhodpgajbaaGreatDoor
open Go.RowKit
set_option maxRecDepth 100000 in
theorem con10_any (r:ByteArray) (w:World):Calls Tryz.prog 22 #[.string r] w fun e w' => e = .returned (.agg #[.int .u8 1,.string r,.string ⟨#[]⟩,.int .i64 0,.slice none 0 0])∧Below w.heap.size w w':=by
 go_enter Tryz.func22,Tryz.ntmps22
 go_wp2
 refine bodyPost_ret (v:=.agg #[.int .u8 1,.string r,.string ⟨#[]⟩,.int .i64 0,.slice none 0 0]) (by simp [results,Tryz.results22,go_sem]) rfl ?_
 exact ⟨rfl,below_a1 _ _⟩
set_option maxRecDepth 100000 in
theorem now10_any (n:ByteArray) (w:World):Calls Tryz.prog 28 #[.string n] w fun e w' => e = .returned (.agg #[.int .u8 3,.string ⟨#[]⟩,.string n,.int .i64 0,.slice none 0 0])∧Below w.heap.size w w':=by
 go_enter Tryz.func28,Tryz.ntmps28
 go_wp2
 refine bodyPost_ret (v:=.agg #[.int .u8 3,.string ⟨#[]⟩,.string n,.int .i64 0,.slice none 0 0]) (by simp [results,Tryz.results28,go_sem]) rfl ?_
 exact ⟨rfl,below_a1 _ _⟩
set_option maxRecDepth 100000 in
theorem pay10_any (k:Int) (r n:ByteArray) (d:Int) (ad:Option Addr) (m cap:Nat) (w:World):Calls Tryz.prog 29 #[.agg #[.int .u8 k,.string r,.string n,.int .i64 d,.slice ad m cap]] w fun e w' =>
  e = .returned (.agg #[.int .u8 2,.string ⟨#[65,110,110]⟩,.string ⟨#[66,111,98]⟩,.string ⟨#[85,83,68]⟩,.int .u8 k,.string r,.string n,.int .i64 d,.slice ad m cap,.int .i64 0,.slice none 0 0,.slice none 0 0])∧Below w.heap.size w w':=by
 go_enter Tryz.func29,Tryz.ntmps29
 go_wp2
 refine bodyPost_ret (v:=.agg #[.int .u8 2,.string ⟨#[65,110,110]⟩,.string ⟨#[66,111,98]⟩,.string ⟨#[85,83,68]⟩,.int .u8 k,.string r,.string n,.int .i64 d,.slice ad m cap,.int .i64 0,.slice none 0 0,.slice none 0 0]) (by simp [results,Tryz.results29,go_sem]) rfl ?_
 exact ⟨rfl,below_a2 _ _ _⟩
set_option maxRecDepth 100000 in
theorem known10_any (w:World):Calls Tryz.prog 27 #[] w fun e w' => ∃ B,e = .returned (.agg #[.slice (some ⟨B,0,none⟩) 2 2,.slice none 0 0])∧Rd Fx.cells 3 w' (some ⟨B,0,none⟩) fKnown∧Below w.heap.size w w':=by
 go_enter Tryz.func27,Tryz.ntmps27
 go_wp2
 refine bodyPost_ret (v:=.agg #[.slice (some ⟨w.heap.size+1,0,none⟩) 2 2,.slice none 0 0]) (by simp [results,Tryz.results27,go_sem]) rfl ?_
 refine ⟨_,rfl,fun j x hj => ⟨_,0,rfl,fun i u hu => ?_⟩,below_a2 _ _ _⟩
 have h1:=cell_new (w.alloc (.cells #[.slice (some ⟨w.heap.size+1,0,none⟩) 2 2,.slice none 0 0] 33)) (fKnown.flatMap Fx.cells) 94 (flat_get Fx.cells 3 (fun _ => rfl) fKnown j x i u hj hu)
 rw [World.size_alloc] at h1
 rw [Nat.zero_add]
 exact h1
end Go.Proofs.YtknpnhodpgajbaaGreatDoor
