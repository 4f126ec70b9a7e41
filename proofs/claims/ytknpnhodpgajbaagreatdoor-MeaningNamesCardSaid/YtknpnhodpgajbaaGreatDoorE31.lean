/-
  A contract as a value, readable in every world that agrees but for one block. Law 10, MeaningNames: its closures.  Printed by tools/gennmf.py. Law 10, MeaningNames: all values, by computation. novationref08.count, bytes, Great: they answer, and change nothing that was there.
-/
import Derived.Test.YtknpnhodpgajbaaGreatDoorE30
import Derived.Test.YtknpnhodpgajbaaGreatDoorE17
namespace Go.Proofs.YtknpnhodpgajbaaGreatDoor
open Go.RowKit
structure SameBut (o:Option Nat) (w w2:World):Prop where
 os:w2.os=w.os
 tape:w2.tape=w.tape
 output:w2.output=w.output
 size:w.heap.size≤w2.heap.size
 block:∀ b,b < w.heap.size→some b ≠ o→w2.heap[b]? = w.heap[b]?
theorem SameBut.refl (o:Option Nat) (w:World):SameBut o w w:=⟨rfl,rfl,rfl,Nat.le_refl _,fun _ _ _ => rfl⟩
theorem SameBut.below {w w2:World} (h:SameBut none w w2):Below w.heap.size w w2:=⟨h.os,h.tape,h.output,h.size,fun b hb => h.block b hb (by simp)⟩
theorem SameBut.after {o:Option Nat} {w w2 w3:World} (h:Below w.heap.size w w2) (h2:SameBut o w2 w3):SameBut o w w3 :=
 ⟨h2.os.trans h.os,h2.tape.trans h.tape,h2.output.trans h.output,Nat.le_trans h.size h2.size,fun b hb hn => by rw [h2.block b (Nat.lt_of_lt_of_le hb h.size) hn,h.block b hb]⟩
theorem SameBut.lower {w w2:World} {X:Nat} (hX:w.heap.size≤X) (h:SameBut (some X) w w2):SameBut none w w2:=⟨h.os,h.tape,h.output,h.size,fun b hb _ => h.block b hb fun e => by injection e;omega⟩
theorem SameBut.all {o:Option Nat} {w w2:World} (h:SameBut o w w2) {b i:Nat} {v:Value} (hn:some b ≠ o) (hc:w.cell? ⟨b,i,none⟩=some v):w2.cell? ⟨b,i,none⟩=some v:=by
 have h1:=h.block b (World.block_lt_of_cell? w _ hc) hn
 rw [← hc]
 unfold World.cell?
 simp only [h1]
def HeldO (o:Option Nat) (w:World) (v:Value) (c:Con):Prop:=∃ es dd ss,v=c.val es dd ss∧∀ w2,SameBut o w w2→RdN w2 c es dd ss
theorem HeldO.below {o:Option Nat} {w w2:World} {v:Value} {c:Con} (h:HeldO o w v c) (hb:Below w.heap.size w w2):HeldO o w2 v c:=by
 obtain ⟨es,dd,ss,e,h1⟩:=h
 exact ⟨es,dd,ss,e,fun w3 h3 => h1 w3 (h3.after hb)⟩
theorem HeldO.upX {w:World} {v:Value} {c:Con} (h:HeldO none w v c) {X:Nat} (hX:w.heap.size≤X):HeldO (some X) w v c:=by
 obtain ⟨es,dd,ss,e,h1⟩:=h
 exact ⟨es,dd,ss,e,fun w3 h3 => h1 w3 (h3.lower hX)⟩
theorem HeldO.rd {o:Option Nat} {w:World} {v:Value} {c:Con} (h:HeldO o w v c):∃ es dd ss,v=c.val es dd ss∧RdN w c es dd ss:=by
 obtain ⟨es,dd,ss,e,h1⟩:=h
 exact ⟨es,dd,ss,e,h1 w (SameBut.refl o w)⟩
theorem HeldO.flat (o:Option Nat) (w:World) (c:Con) (h1:c.ex.sub=[]) (h2:c.ds=[]) (h3:c.sub=[]) (h4:c.k < 256) (h5:c.ex.k < 256):HeldO o w (c.val (.slice none 0 0) (.slice none 0 0) (.slice none 0 0)) c :=
 ⟨_,_,_,rfl,fun w2 _ => ⟨by rw [h1];exact rdE_nil _,by rw [h2];exact rdI_nil _,by rw [h3];exact rdC_nil _,h4,h5⟩⟩
theorem held_one {o:Option Nat} {w w2:World} {x:Con} {es dd ss:Value} {B:Nat} (hx:∀ w3,SameBut o w w3→RdN w3 x es dd ss) (hb:Below w.heap.size w w2) (hB:∀ X,o=some X→X ≠ B) (hc:∀ i u,(x.cells es dd ss)[i]? = some u→w2.cell? ⟨B,i,none⟩=some u) :
  ∀ w3,SameBut o w2 w3→RdC w3 [x] (.slice (some ⟨B,0,none⟩) 1 1):=fun w3 h3 =>
 rdC_one (es:=es) (dd:=dd) (ss:=ss) (fun i u h => h3.all (fun e => hB B e.symm rfl) (hc i u h)) (hx w3 (h3.after hb))
theorem held_two {o:Option Nat} {w w2:World} {x y:Con} {es dd ss es2 dd2 ss2:Value} {B:Nat} (hx:∀ w3,SameBut o w w3→RdN w3 x es dd ss) (hy:∀ w3,SameBut o w w3→RdN w3 y es2 dd2 ss2) (hb:Below w.heap.size w w2) (hB:∀ X,o=some X→X ≠ B) (hc:∀ i u,(x.cells es dd ss ++ y.cells es2 dd2 ss2)[i]? = some u→w2.cell? ⟨B,i,none⟩=some u) :
  ∀ w3,SameBut o w2 w3→RdC w3 [x,y] (.slice (some ⟨B,0,none⟩) 2 2):=fun w3 h3 =>
 rdC_two (es:=es) (dd:=dd) (ss:=ss) (es2:=es2) (dd2:=dd2) (ss2:=ss2) (fun i u h => h3.all (fun e => hB B e.symm rfl) (hc i u h)) (hx w3 (h3.after hb)) (hy w3 (h3.after hb))
def put12 (W:World) (X:Nat) (u:List Value):World :=
 (((((((((((W.setCell ⟨X,0,none⟩ (u.getD 0 default)).setCell ⟨X,1,none⟩ (u.getD 1 default)).setCell ⟨X,2,none⟩ (u.getD 2 default)).setCell ⟨X,3,none⟩ (u.getD 3 default)).setCell ⟨X,4,none⟩ (u.getD 4 default)).setCell ⟨X,5,none⟩ (u.getD 5 default)).setCell ⟨X,6,none⟩ (u.getD 6 default)).setCell ⟨X,7,none⟩ (u.getD 7 default)).setCell ⟨X,8,none⟩ (u.getD 8 default)).setCell ⟨X,9,none⟩ (u.getD 9 default)).setCell ⟨X,10,none⟩ (u.getD 10 default)).setCell ⟨X,11,none⟩ (u.getD 11 default)
theorem put12_below {W0 W:World} {n X:Nat} {u:List Value} (h:Below n W0 W) (hX:n≤X):Below n W0 (put12 W X u):=by
 unfold put12
 repeat refine Below.setCell ?_ (show n≤X from hX) _
 exact h
theorem SameBut.set {w w2:World} {X:Nat} (h:SameBut (some X) w w2) (j:Nat) (u:Value):SameBut (some X) w (w2.setCell ⟨X,j,none⟩ u) :=
 ⟨h.os,h.tape,h.output,by simpa using h.size,fun b hb hn => by
  rw [Below.heap_setCell _ _ _ _ (show b ≠ (⟨X,j,none⟩:Addr).block from fun e => hn (by rw [e])),h.block b hb hn]⟩
theorem put12_but {W:World} {X:Nat} {u:List Value}:SameBut (some X) W (put12 W X u):=by
 unfold put12
 repeat refine SameBut.set ?_ _ _
 exact SameBut.refl _ _
end Go.Proofs.YtknpnhodpgajbaaGreatDoor

namespace Go.Proofs.YtknpnhodpgajbaaGreatDoor
open Go.RowKit
theorem cell_new_at (w:World) (vs:List Value) (t:TypeId) {B i:Nat} {u:Value} (hB:w.heap.size=B) (h:vs[i]? = some u):(w.alloc (.cells vs.toArray t)).cell? ⟨B,i,none⟩=some u:=by
 subst hB;exact cell_new w vs t h
theorem below_a4 (w:World) (a b c d:Obj):Below w.heap.size w ((((w.alloc a).alloc b).alloc c).alloc d):=(below_a3 w a b c).alloc (by simp;omega) _
def mTake:ByteArray:=⟨#[116,97,107,101]⟩
def atM (d:Int) (c:Con):Con:=.mk 6 mE mE mE xZ d [] [c]
def bothN (a b:Con):Con:=.mk 3 mE mE mE xZ 0 [] [a,b]
def callN (who:ByteArray) (ds:List Int) (c:Con):Con:=.mk 8 who mE mTake xZ 0 ds [c]
def pickN (who:ByteArray) (a b:Con):Con:=.mk 7 who mE mTake xZ 0 [] [a,b]
set_option maxHeartbeats 2000000 in
set_option maxRecDepth 100000 in
theorem nmAt_any (o:Option Nat) (d:Int) (v1:Value) (a:Con) (w:World) (h:HeldO o w v1 a) (ho:∀ X,o=some X→X < w.heap.size) :
  Calls Tryz.prog 30 #[.int .i64 d,v1] w fun e w' => ∃ u,e = .returned u∧HeldO o w' u (atM d a)∧Below w.heap.size w w':=by
 obtain ⟨es,dd,ss,rfl,h1⟩:=h
 have hr:=h1 w (SameBut.refl _ _)
 obtain ⟨p1,pn1,rfl⟩:=hr.1.len
 obtain ⟨p2,pn2,rfl⟩:=hr.2.1.len
 obtain ⟨p3,pn3,rfl⟩:=hr.2.2.1.len
 have H1:=Lib.hid h1
 clear h1 hr
 have HO:=Lib.hid ho
 clear ho
 show Calls _ _ #[.int .i64 d,.agg #[.int .u8 a.k,.string a.fr,.string a.rc,.string a.nm,.int .u8 a.ex.k,.string a.ex.ra,.string a.ex.nm,.int .i64 a.ex.d,.slice p1 a.ex.sub.length pn1,.int .i64 a.d,.slice p2 a.ds.length pn2,.slice p3 a.sub.length pn3]] _ _
 go_enter Tryz.func30,Tryz.ntmps30
 go_wp2
 refine bodyPost_ret (v:=.agg #[.int .u8 6,.string ⟨#[]⟩,.string ⟨#[]⟩,.string ⟨#[]⟩,.int .u8 0,.string ⟨#[]⟩,.string ⟨#[]⟩,.int .i64 0,.slice none 0 0,.int .i64 d,.slice none 0 0,.slice (some ⟨w.heap.size+1+1,0,none⟩) 1 1]) (by simp [results,Tryz.results30,go_sem]) rfl ?_
 have key:∀ W,Below w.heap.size w W→(∀ i u,(a.cells (.slice p1 a.ex.sub.length pn1) (.slice p2 a.ds.length pn2) (.slice p3 a.sub.length pn3))[i]? = some u→W.cell? ⟨w.heap.size+1+1,i,none⟩=some u)→∃ u,Ending.returned (.agg #[.int .u8 6,.string ⟨#[]⟩,.string ⟨#[]⟩,.string ⟨#[]⟩,.int .u8 0,.string ⟨#[]⟩,.string ⟨#[]⟩,.int .i64 0,.slice none 0 0,.int .i64 d,.slice none 0 0,.slice (some ⟨w.heap.size+1+1,0,none⟩) 1 1]) = .returned u∧HeldO o W u (atM d a)∧Below w.heap.size w W:=fun W hb hc =>
  ⟨_,rfl,⟨.slice none 0 0,.slice none 0 0,.slice (some ⟨w.heap.size+1+1,0,none⟩) 1 1,rfl,fun w3 h3 => ⟨rdE_nil _,rdI_nil _,held_one (o:=o) H1.out hb (fun X e => by have:=HO.out X e;omega) hc w3 h3,by show 6 < 256;decide,by show 0 < 256;decide⟩⟩,hb⟩
 exact key _ (below_a3 _ _ _ _) fun i u q => cell_new_at _ _ _ (by simp) q
set_option maxHeartbeats 2000000 in
set_option maxRecDepth 100000 in
theorem nmBoth_any (o:Option Nat) (v1 v2:Value) (a b:Con) (w:World) (h:HeldO o w v1 a) (h2:HeldO o w v2 b) (ho:∀ X,o=some X→X < w.heap.size) :
  Calls Tryz.prog 31 #[v1,v2] w fun e w' => ∃ u,e = .returned u∧HeldO o w' u (bothN a b)∧Below w.heap.size w w':=by
 obtain ⟨es,dd,ss,rfl,h1⟩:=h
 have hr:=h1 w (SameBut.refl _ _)
 obtain ⟨p1,pn1,rfl⟩:=hr.1.len
 obtain ⟨p2,pn2,rfl⟩:=hr.2.1.len
 obtain ⟨p3,pn3,rfl⟩:=hr.2.2.1.len
 have H1:=Lib.hid h1
 clear h1 hr
 obtain ⟨es2,dd2,ss2,rfl,h2⟩:=h2
 have hr:=h2 w (SameBut.refl _ _)
 obtain ⟨q1,qn1,rfl⟩:=hr.1.len
 obtain ⟨q2,qn2,rfl⟩:=hr.2.1.len
 obtain ⟨q3,qn3,rfl⟩:=hr.2.2.1.len
 have H2:=Lib.hid h2
 clear h2 hr
 have HO:=Lib.hid ho
 clear ho
 show Calls _ _ #[.agg #[.int .u8 a.k,.string a.fr,.string a.rc,.string a.nm,.int .u8 a.ex.k,.string a.ex.ra,.string a.ex.nm,.int .i64 a.ex.d,.slice p1 a.ex.sub.length pn1,.int .i64 a.d,.slice p2 a.ds.length pn2,.slice p3 a.sub.length pn3],.agg #[.int .u8 b.k,.string b.fr,.string b.rc,.string b.nm,.int .u8 b.ex.k,.string b.ex.ra,.string b.ex.nm,.int .i64 b.ex.d,.slice q1 b.ex.sub.length qn1,.int .i64 b.d,.slice q2 b.ds.length qn2,.slice q3 b.sub.length qn3]] _ _
 go_enter Tryz.func31,Tryz.ntmps31
 go_wp2
 refine bodyPost_ret (v:=.agg #[.int .u8 3,.string ⟨#[]⟩,.string ⟨#[]⟩,.string ⟨#[]⟩,.int .u8 0,.string ⟨#[]⟩,.string ⟨#[]⟩,.int .i64 0,.slice none 0 0,.int .i64 0,.slice none 0 0,.slice (some ⟨w.heap.size+1+1+1,0,none⟩) 2 2]) (by simp [results,Tryz.results31,go_sem]) rfl ?_
 have key:∀ W,Below w.heap.size w W→(∀ i u,(a.cells (.slice p1 a.ex.sub.length pn1) (.slice p2 a.ds.length pn2) (.slice p3 a.sub.length pn3) ++ b.cells (.slice q1 b.ex.sub.length qn1) (.slice q2 b.ds.length qn2) (.slice q3 b.sub.length qn3))[i]? = some u→W.cell? ⟨w.heap.size+1+1+1,i,none⟩=some u)→∃ u,Ending.returned (.agg #[.int .u8 3,.string ⟨#[]⟩,.string ⟨#[]⟩,.string ⟨#[]⟩,.int .u8 0,.string ⟨#[]⟩,.string ⟨#[]⟩,.int .i64 0,.slice none 0 0,.int .i64 0,.slice none 0 0,.slice (some ⟨w.heap.size+1+1+1,0,none⟩) 2 2]) = .returned u∧HeldO o W u (bothN a b)∧Below w.heap.size w W:=fun W hb hc =>
  ⟨_,rfl,⟨.slice none 0 0,.slice none 0 0,.slice (some ⟨w.heap.size+1+1+1,0,none⟩) 2 2,rfl,fun w3 h3 => ⟨rdE_nil _,rdI_nil _,held_two (o:=o) H1.out H2.out hb (fun X e => by have:=HO.out X e;omega) hc w3 h3,by show 3 < 256;decide,by show 0 < 256;decide⟩⟩,hb⟩
 exact key _ (below_a4 _ _ _ _ _) fun i u q => cell_new_at _ _ _ (by simp) q
set_option maxHeartbeats 2000000 in
set_option maxRecDepth 100000 in
theorem nmCall_any (o:Option Nat) (who:ByteArray) (ds:List Int) (vd:Value) (a:Con) (es dd ss:Value) (B1:Nat) (w:World) (hr:RdN w a es dd ss) (h1:∀ w2,SameBut o w w2→RdN w2 a es dd ss) (hbk:BoxN w B1 29 (a.cells es dd ss)) (hi:∀ w2,SameBut o w w2→RdI w2 ds vd) (ho:∀ X,o=some X→X < w.heap.size) :
  Calls Tryz.prog 32 #[.string who,vd,.pointer (some ⟨B1,0,none⟩)] w fun e w' => ∃ u,e = .returned u∧HeldO o w' u (callN who ds a)∧Below w.heap.size w w':=by
 obtain ⟨p1,pn1,rfl⟩:=hr.1.len
 obtain ⟨p2,pn2,rfl⟩:=hr.2.1.len
 obtain ⟨p3,pn3,rfl⟩:=hr.2.2.1.len
 obtain ⟨dad,dcap,rfl⟩:=(hi w (SameBut.refl _ _)).len
 have H1:=Lib.hid h1
 have HI:=Lib.hid hi
 have k0:w.cell? ⟨B1,0,none⟩=some (.int .u8 a.k):=hbk.cell (j:=0) rfl
 have k1:w.cell? ⟨B1,1,none⟩=some (.string a.fr):=hbk.cell (j:=1) rfl
 have k2:w.cell? ⟨B1,2,none⟩=some (.string a.rc):=hbk.cell (j:=2) rfl
 have k3:w.cell? ⟨B1,3,none⟩=some (.string a.nm):=hbk.cell (j:=3) rfl
 have k4:w.cell? ⟨B1,4,none⟩=some (.int .u8 a.ex.k):=hbk.cell (j:=4) rfl
 have k5:w.cell? ⟨B1,5,none⟩=some (.string a.ex.ra):=hbk.cell (j:=5) rfl
 have k6:w.cell? ⟨B1,6,none⟩=some (.string a.ex.nm):=hbk.cell (j:=6) rfl
 have k7:w.cell? ⟨B1,7,none⟩=some (.int .i64 a.ex.d):=hbk.cell (j:=7) rfl
 have k8:w.cell? ⟨B1,8,none⟩=some (.slice p1 a.ex.sub.length pn1):=hbk.cell (j:=8) rfl
 have k9:w.cell? ⟨B1,9,none⟩=some (.int .i64 a.d):=hbk.cell (j:=9) rfl
 have k10:w.cell? ⟨B1,10,none⟩=some (.slice p2 a.ds.length pn2):=hbk.cell (j:=10) rfl
 have k11:w.cell? ⟨B1,11,none⟩=some (.slice p3 a.sub.length pn3):=hbk.cell (j:=11) rfl
 have hB1:=hbk.lt
 clear h1 hr hi hbk
 have HO:=Lib.hid ho
 clear ho
 show Calls _ _ #[.string who,.slice dad ds.length dcap,.pointer (some ⟨B1,0,none⟩)] _ _
 go_enter Tryz.func32,Tryz.ntmps32
 go_wp2
 refine bodyPost_ret (v:=.agg #[.int .u8 8,.string who,.string ⟨#[]⟩,.string ⟨#[116,97,107,101]⟩,.int .u8 0,.string ⟨#[]⟩,.string ⟨#[]⟩,.int .i64 0,.slice none 0 0,.int .i64 0,.slice dad ds.length dcap,.slice (some ⟨w.heap.size+1,0,none⟩) 1 1]) (by simp [results,Tryz.results32,go_sem]) rfl ?_
 have key:∀ W,Below w.heap.size w W→(∀ i u,(a.cells (.slice p1 a.ex.sub.length pn1) (.slice p2 a.ds.length pn2) (.slice p3 a.sub.length pn3))[i]? = some u→W.cell? ⟨w.heap.size+1,i,none⟩=some u)→∃ u,Ending.returned (.agg #[.int .u8 8,.string who,.string ⟨#[]⟩,.string ⟨#[116,97,107,101]⟩,.int .u8 0,.string ⟨#[]⟩,.string ⟨#[]⟩,.int .i64 0,.slice none 0 0,.int .i64 0,.slice dad ds.length dcap,.slice (some ⟨w.heap.size+1,0,none⟩) 1 1]) = .returned u∧HeldO o W u (callN who ds a)∧Below w.heap.size w W:=fun W hb hc =>
  ⟨_,rfl,⟨.slice none 0 0,.slice dad ds.length dcap,.slice (some ⟨w.heap.size+1,0,none⟩) 1 1,rfl,fun w3 h3 => ⟨rdE_nil _,HI.out w3 (h3.after hb),held_one (o:=o) H1.out hb (fun X e => by have:=HO.out X e;omega) hc w3 h3,by show 8 < 256;decide,by show 0 < 256;decide⟩⟩,hb⟩
 exact key _ (below_a2 _ _ _) fun i u q => cell_new_at _ _ _ (by simp) q
set_option maxHeartbeats 2000000 in
set_option maxRecDepth 100000 in
theorem nmPick_any (o:Option Nat) (who:ByteArray) (a b:Con) (es dd ss es2 dd2 ss2:Value) (B1 B2:Nat) (w:World) (hr:RdN w a es dd ss) (hr2:RdN w b es2 dd2 ss2) (h1:∀ w2,SameBut o w w2→RdN w2 a es dd ss) (h2:∀ w2,SameBut o w w2→RdN w2 b es2 dd2 ss2) (hbk:BoxN w B1 29 (a.cells es dd ss)) (hbm:BoxN w B2 29 (b.cells es2 dd2 ss2)) (ho:∀ X,o=some X→X < w.heap.size) :
  Calls Tryz.prog 33 #[.string who,.pointer (some ⟨B1,0,none⟩),.pointer (some ⟨B2,0,none⟩)] w fun e w' => ∃ u,e = .returned u∧HeldO o w' u (pickN who a b)∧Below w.heap.size w w':=by
 obtain ⟨p1,pn1,rfl⟩:=hr.1.len
 obtain ⟨p2,pn2,rfl⟩:=hr.2.1.len
 obtain ⟨p3,pn3,rfl⟩:=hr.2.2.1.len
 obtain ⟨q1,qn1,rfl⟩:=hr2.1.len
 obtain ⟨q2,qn2,rfl⟩:=hr2.2.1.len
 obtain ⟨q3,qn3,rfl⟩:=hr2.2.2.1.len
 have H1:=Lib.hid h1
 have H2:=Lib.hid h2
 have k0:w.cell? ⟨B1,0,none⟩=some (.int .u8 a.k):=hbk.cell (j:=0) rfl
 have k1:w.cell? ⟨B1,1,none⟩=some (.string a.fr):=hbk.cell (j:=1) rfl
 have k2:w.cell? ⟨B1,2,none⟩=some (.string a.rc):=hbk.cell (j:=2) rfl
 have k3:w.cell? ⟨B1,3,none⟩=some (.string a.nm):=hbk.cell (j:=3) rfl
 have k4:w.cell? ⟨B1,4,none⟩=some (.int .u8 a.ex.k):=hbk.cell (j:=4) rfl
 have k5:w.cell? ⟨B1,5,none⟩=some (.string a.ex.ra):=hbk.cell (j:=5) rfl
 have k6:w.cell? ⟨B1,6,none⟩=some (.string a.ex.nm):=hbk.cell (j:=6) rfl
 have k7:w.cell? ⟨B1,7,none⟩=some (.int .i64 a.ex.d):=hbk.cell (j:=7) rfl
 have k8:w.cell? ⟨B1,8,none⟩=some (.slice p1 a.ex.sub.length pn1):=hbk.cell (j:=8) rfl
 have k9:w.cell? ⟨B1,9,none⟩=some (.int .i64 a.d):=hbk.cell (j:=9) rfl
 have k10:w.cell? ⟨B1,10,none⟩=some (.slice p2 a.ds.length pn2):=hbk.cell (j:=10) rfl
 have k11:w.cell? ⟨B1,11,none⟩=some (.slice p3 a.sub.length pn3):=hbk.cell (j:=11) rfl
 have m0:w.cell? ⟨B2,0,none⟩=some (.int .u8 b.k):=hbm.cell (j:=0) rfl
 have m1:w.cell? ⟨B2,1,none⟩=some (.string b.fr):=hbm.cell (j:=1) rfl
 have m2:w.cell? ⟨B2,2,none⟩=some (.string b.rc):=hbm.cell (j:=2) rfl
 have m3:w.cell? ⟨B2,3,none⟩=some (.string b.nm):=hbm.cell (j:=3) rfl
 have m4:w.cell? ⟨B2,4,none⟩=some (.int .u8 b.ex.k):=hbm.cell (j:=4) rfl
 have m5:w.cell? ⟨B2,5,none⟩=some (.string b.ex.ra):=hbm.cell (j:=5) rfl
 have m6:w.cell? ⟨B2,6,none⟩=some (.string b.ex.nm):=hbm.cell (j:=6) rfl
 have m7:w.cell? ⟨B2,7,none⟩=some (.int .i64 b.ex.d):=hbm.cell (j:=7) rfl
 have m8:w.cell? ⟨B2,8,none⟩=some (.slice q1 b.ex.sub.length qn1):=hbm.cell (j:=8) rfl
 have m9:w.cell? ⟨B2,9,none⟩=some (.int .i64 b.d):=hbm.cell (j:=9) rfl
 have m10:w.cell? ⟨B2,10,none⟩=some (.slice q2 b.ds.length qn2):=hbm.cell (j:=10) rfl
 have m11:w.cell? ⟨B2,11,none⟩=some (.slice q3 b.sub.length qn3):=hbm.cell (j:=11) rfl
 have hB1:=hbk.lt
 have hB2:=hbm.lt
 clear h1 h2 hr hr2 hbk hbm
 have HO:=Lib.hid ho
 clear ho
 show Calls _ _ #[.string who,.pointer (some ⟨B1,0,none⟩),.pointer (some ⟨B2,0,none⟩)] _ _
 go_enter Tryz.func33,Tryz.ntmps33
 go_wp2
 refine bodyPost_ret (v:=.agg #[.int .u8 7,.string who,.string ⟨#[]⟩,.string ⟨#[116,97,107,101]⟩,.int .u8 0,.string ⟨#[]⟩,.string ⟨#[]⟩,.int .i64 0,.slice none 0 0,.int .i64 0,.slice none 0 0,.slice (some ⟨w.heap.size+1,0,none⟩) 2 2]) (by simp [results,Tryz.results33,go_sem]) rfl ?_
 have key:∀ W,Below w.heap.size w W→(∀ i u,(a.cells (.slice p1 a.ex.sub.length pn1) (.slice p2 a.ds.length pn2) (.slice p3 a.sub.length pn3) ++ b.cells (.slice q1 b.ex.sub.length qn1) (.slice q2 b.ds.length qn2) (.slice q3 b.sub.length qn3))[i]? = some u→W.cell? ⟨w.heap.size+1,i,none⟩=some u)→∃ u,Ending.returned (.agg #[.int .u8 7,.string who,.string ⟨#[]⟩,.string ⟨#[116,97,107,101]⟩,.int .u8 0,.string ⟨#[]⟩,.string ⟨#[]⟩,.int .i64 0,.slice none 0 0,.int .i64 0,.slice none 0 0,.slice (some ⟨w.heap.size+1,0,none⟩) 2 2]) = .returned u∧HeldO o W u (pickN who a b)∧Below w.heap.size w W:=fun W hb hc =>
  ⟨_,rfl,⟨.slice none 0 0,.slice none 0 0,.slice (some ⟨w.heap.size+1,0,none⟩) 2 2,rfl,fun w3 h3 => ⟨rdE_nil _,rdI_nil _,held_two (o:=o) H1.out H2.out hb (fun X e => by have:=HO.out X e;omega) hc w3 h3,by show 7 < 256;decide,by show 0 < 256;decide⟩⟩,hb⟩
 exact key _ (below_a2 _ _ _) fun i u q => cell_new_at _ _ _ (by simp) q
end Go.Proofs.YtknpnhodpgajbaaGreatDoor

namespace Go.Proofs.YtknpnhodpgajbaaGreatDoor
open Go.RowKit
def mNone:ByteArray:=⟨#[110,111,110,101]⟩
def cOne:Con:=.mk 2 mAnn mBob mUSD (xCon m1) 0 [] []
def cTwo:Con:=.mk 2 mAnn mBob mUSD (xCon m2) 0 [] []
def cNil:Con:=.mk 2 mAnn mBob mUSD (xCon m0) 0 [] []
def cNone:Con:=.mk 2 mAnn mBob mUSD (.mk 3 mE mNone 0 []) 0 [] []
def xLow:Ex:=.mk 11 mE mE 0 [xNow,xCon m3]
def cUntil:Con:=.mk 9 mE mE mE xLow 0 [4,5,6] [bothN (atM 7 cNone) (bothN (atM 6 cTwo) cOne)]
def cWhen:Con:=.mk 10 mE mE mE xLow 0 [4,5,6,7] [cTwo]
def cCond:Con:=.mk 5 mE mE mE xLow 0 [] [cOne,cTwo]
def cZero:Con:=.mk 1 mE mE mE xZ 0 [] []
def cVoid:Con:=.mk 0 mE mE mE xZ 0 [] []
def chN:List Ch:=[⟨mAnn,mTake,6,true⟩,⟨mBob,mTake,5,true⟩]
def chVoid:List Ch:=[⟨mE,mE,0,false⟩]
def fO (d:Int) (am:ByteArray):Fl:=⟨d,mAnn,mBob,mUSD,am⟩
theorem env_n:envErr fKnown chN=0:=by decide +kernel
theorem env_v:envErr [] chVoid=8:=by decide +kernel
theorem befR_lit {c:Con} {day fin:Int} {F:List Fx} {C:List Ch} {R:Int × List Fl} (h:c.errB=0) (he:envErr F C=0) (hd : ¬ (day < 0∨99999 < day∨fin < 0∨100000 < fin)) (hR:(andR (c.flows F C day fin) [] fun l => (0,srtFl l))=R):befR c day fin F C=R:=by
 rw [befR,if_neg (fun k => k (by rw [Con.errB_eq];exact h)),if_neg fun k => k he,if_neg hd,hR]
theorem v_zero:befR cZero 5 100000 fKnown chN=(0,[]):=befR_lit (by decide +kernel) env_n (by decide) (by kernel_rfl)
theorem v_both:befR (bothN (atM 9 cTwo) cOne) 5 100000 fKnown chN=(0,[fO 5 m1,fO 9 m2]):=befR_lit (by decide +kernel) env_n (by decide) (by kernel_rfl)
theorem v_cond:befR cCond 5 100000 fKnown chN=(0,[fO 5 m2]):=befR_lit (by decide +kernel) env_n (by decide) (by kernel_rfl)
theorem v_at4:befR (atM 4 cOne) 5 100000 fKnown chN=(0,[]):=befR_lit (by decide +kernel) env_n (by decide) (by kernel_rfl)
theorem v_at5:befR (atM 5 cOne) 5 100000 fKnown chN=(0,[fO 5 m1]):=befR_lit (by decide +kernel) env_n (by decide) (by kernel_rfl)
theorem v_call6:befR (callN mAnn [3,6,7] cOne) 5 100000 fKnown chN=(0,[fO 6 m1]):=befR_lit (by decide +kernel) env_n (by decide) (by kernel_rfl)
theorem v_call0:befR (callN mAnn [5,7] cOne) 5 100000 fKnown chN=(0,[]):=befR_lit (by decide +kernel) env_n (by decide) (by kernel_rfl)
theorem v_pickB:befR (pickN mBob cOne cTwo) 5 100000 fKnown chN=(0,[fO 5 m1]):=befR_lit (by decide +kernel) env_n (by decide) (by kernel_rfl)
theorem v_pickA:befR (pickN mAnn cOne cTwo) 5 100000 fKnown chN=(0,[fO 5 m2]):=befR_lit (by decide +kernel) env_n (by decide) (by kernel_rfl)
theorem v_until:befR cUntil 5 100000 fKnown chN=(0,[fO 5 m1]):=befR_lit (by decide +kernel) env_n (by decide) (by kernel_rfl)
theorem v_when:befR cWhen 5 100000 fKnown chN=(0,[fO 6 m2]):=befR_lit (by decide +kernel) env_n (by decide) (by kernel_rfl)
theorem v_nil:befR cNil 5 100000 fKnown chN=(0,[]):=befR_lit (by decide +kernel) env_n (by decide) (by kernel_rfl)
theorem v_b8:befR (bothN cOne (atM 8 cNone)) 5 8 fKnown chN=(0,[fO 5 m1]):=befR_lit (by decide +kernel) env_n (by decide) (by kernel_rfl)
theorem v_b9:befR (bothN cOne (atM 8 cNone)) 5 9 fKnown chN=(30,[]):=befR_lit (by decide +kernel) env_n (by decide) (by kernel_rfl)
theorem v_n5:befR cNone 5 5 fKnown chN=(0,[]):=befR_lit (by decide +kernel) env_n (by decide) (by kernel_rfl)
theorem v_void:befR cVoid (-1) 100000 [] chVoid=(8,[]):=by
 have h:cVoid.err=8:=by rw [Con.errB_eq];decide +kernel
 rw [befR,if_pos (by rw [h];decide),h]
theorem one_err:cOne.err=0:=by rw [Con.errB_eq];decide +kernel
theorem v_env:befR cOne (-1) 100000 [] chVoid=(8,[]):=by rw [befR,if_neg (fun k => k one_err),if_pos (by rw [env_v];decide),env_v]
theorem v_out {day fin:Int} (h:day < 0∨99999 < day∨fin < 0∨100000 < fin):befR cOne day fin fKnown chN=(2,[]):=by rw [befR,if_neg (fun k => k one_err),if_neg (fun k => k env_n),if_pos h]
end Go.Proofs.YtknpnhodpgajbaaGreatDoor

namespace Go.Proofs.YtknpnhodpgajbaaGreatDoor
open Go.RowKit
def CountPost (M:Nat) (w:World) (e:Ending) (w':World):Prop:=(∃ (n:Nat) (b:Bool),e = .returned (.tuple #[.int .i64 (n:Int),.bool b])∧n≤M)∧Below w.heap.size w w'
theorem CountPost.mk {M:Nat} {w:World} {e:Ending} {w':World} (n:Nat) (b:Bool) (h:e = .returned (.tuple #[.int .i64 (n:Int),.bool b])) (hn:n≤M) (hb:Below w.heap.size w w'):CountPost M w e w':=⟨⟨n,b,h,hn⟩,hb⟩
def BoolPost (w:World) (e:Ending) (w':World):Prop:=(∃ b:Bool,e = .returned (.bool b))∧Below w.heap.size w w'
theorem BoolPost.mk {w:World} {e:Ending} {w':World} (b:Bool) (h:e = .returned (.bool b)) (hb:Below w.heap.size w w'):BoolPost w e w':=⟨⟨b,h⟩,hb⟩
def NatPost (M:Nat) (w:World) (e:Ending) (w':World):Prop:=(∃ n:Nat,e = .returned (.int .i64 (n:Int))∧n≤M)∧Below w.heap.size w w'
theorem NatPost.mk {M:Nat} {w:World} {e:Ending} {w':World} (n:Nat) (h:e = .returned (.int .i64 (n:Int))) (hn:n≤M) (hb:Below w.heap.size w w'):NatPost M w e w':=⟨⟨n,h,hn⟩,hb⟩
end Go.Proofs.YtknpnhodpgajbaaGreatDoor
