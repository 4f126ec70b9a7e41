/-
  Law 10, MeaningNames: 'until', made in a region that draws its order.  Printed by tools/gennmk.py. Law 10, MeaningNames: what its calls need and answer.  Printed by tools/gennmm.py. Law 10, MeaningNames: regions that draw their order and make memory only.  Printed by tools/gennmd.py. Law 10, MeaningNames: what its drawn regions hold.  Printed by tools/gendr.py.
-/
import Derived.Test.YtknpnhodpgajbaaGreatDoorE33
import Derived.Test.YtknpnhodpgajbaaGreatDoorE22
namespace Go.Proofs.YtknpnhodpgajbaaGreatDoor
open Go.RowKit
def zc10:List Value:=[.int .u8 0,.string ⟨#[]⟩,.string ⟨#[]⟩,.string ⟨#[]⟩,.int .u8 0,.string ⟨#[]⟩,.string ⟨#[]⟩,.int .i64 0,.slice none 0 0,.int .i64 0,.slice none 0 0,.slice none 0 0]
def cU:Con:=bothN (atM 7 cNone) (bothN (atM 6 cTwo) cOne)
def uFs (S4:Nat):List Fct:=[.lit (.agg #[.int .u8 11,.string ⟨#[]⟩,.string ⟨#[]⟩,.int .i64 0,.slice (some ⟨S4,0,none⟩) 2 2]),.days [4,5,6],.lit (.func (.func 31) #[] #[]),.lit (.func (.func 30) #[] #[]),.lit (.agg #[.int .u8 3,.string ⟨#[]⟩,.string ⟨#[110,111,110,101]⟩,.int .i64 0,.slice none 0 0]),.lit (.agg #[.int .u8 2,.string ⟨#[65,110,110]⟩,.string ⟨#[66,111,98]⟩,.string ⟨#[85,83,68]⟩,.int .u8 3,.string ⟨#[]⟩,.string ⟨#[110,111,110,101]⟩,.int .i64 0,.slice none 0 0,.int .i64 0,.slice none 0 0,.slice none 0 0]),.held (atM 7 cNone),
 .lit (.func (.func 31) #[] #[]),.lit (.func (.func 30) #[] #[]),.lit (.agg #[.int .u8 2,.string ⟨#[65,110,110]⟩,.string ⟨#[66,111,98]⟩,.string ⟨#[85,83,68]⟩,.int .u8 1,.string ⟨#[50]⟩,.string ⟨#[]⟩,.int .i64 0,.slice none 0 0,.int .i64 0,.slice none 0 0,.slice none 0 0]),.held (atM 6 cTwo),.lit (.agg #[.int .u8 2,.string ⟨#[65,110,110]⟩,.string ⟨#[66,111,98]⟩,.string ⟨#[85,83,68]⟩,.int .u8 1,.string ⟨#[49]⟩,.string ⟨#[]⟩,.int .i64 0,.slice none 0 0,.int .i64 0,.slice none 0 0,.slice none 0 0]),.held (bothN (atM 6 cTwo) cOne),.held cU,.row [cU]]
def UntH (S4:Nat) (w:World) (B:Nat):Prop:=∃ dd ss,BoxN w B 29 [.int .u8 9,.string ⟨#[]⟩,.string ⟨#[]⟩,.string ⟨#[]⟩,.int .u8 11,.string ⟨#[]⟩,.string ⟨#[]⟩,.int .i64 0,.slice (some ⟨S4,0,none⟩) 2 2,.int .i64 0,dd,ss]∧RdN w cUntil (.slice (some ⟨S4,0,none⟩) 2 2) dd ss
theorem UntH.frame {S4:Nat} {w w2:World} {B:Nat} (h:UntH S4 w B) (hb:Below w.heap.size w w2):UntH S4 w2 B:=by
 obtain ⟨dd,ss,h1,h2⟩:=h
 exact ⟨dd,ss,h1.below hb h1.lt,h2.frame hb⟩
structure UInv (V w:World) (S4:Nat) (o:Option Nat) (L:Nat→Bool) (c:List Value) (v15 v16:Value):Prop where
 b:Below V.heap.size V w
 h:L 17=false→HInv o w (uFs S4) c L
 a:L 15=true→∃ v1 v14,c[1]? = some v1∧c[14]? = some v14∧v15 = .agg #[.int .u8 9,.string ⟨#[]⟩,.string ⟨#[]⟩,.string ⟨#[]⟩,.int .u8 11,.string ⟨#[]⟩,.string ⟨#[]⟩,.int .i64 0,.slice (some ⟨S4,0,none⟩) 2 2,.int .i64 0,v1,v14]
 o0:L 16=false→o=none
 x:L 16=true→∃ B,v16 = .pointer (some ⟨B,0,none⟩)∧V.heap.size≤B∧B < w.heap.size∧o=some B∧(L 17=false→BoxN w B 29 zc10)
 u:L 17=true→∃ B,v16 = .pointer (some ⟨B,0,none⟩)∧UntH S4 w B
section
variable {V w w2:World} {S4:Nat} {o:Option Nat} {L:Nat→Bool} {c:List Value} {v15 v16:Value}
theorem upn {L:Nat→Bool} {i j:Nat} (h:j ≠ i):upd L i j=L j:=if_neg h
theorem ups {L:Nat→Bool} {i:Nat}:upd L i i=true:=if_pos rfl
theorem days_new {w:World} {o:Option Nat} (l:List Int) (t:TypeId) (ho:∀ B,o=some B→B < w.heap.size):Fct.p (.days l) o (w.alloc (.cells (l.map fun d => Value.int .i64 d).toArray t)) (.slice (some ⟨w.heap.size,0,none⟩) l.length l.length):=fun w2 h2 =>
 ⟨_,_,rfl,⟨Nat.le_refl _,fun e => by cases e⟩,fun j d hj => ⟨w.heap.size,0,rfl,h2.all (fun e => by have:=ho _ e.symm;omega) (by rw [Nat.zero_add];exact cell_new w _ t (by rw [List.getElem?_map,hj];rfl))⟩⟩
theorem row_new {w:World} {o:Option Nat} {x:Con} {es dd ss:Value} (h1:∀ w2,SameBut o w w2→RdN w2 x es dd ss) (ho:∀ B,o=some B→B < w.heap.size):Fct.p (.row [x]) o (w.alloc (.cells (x.cells es dd ss).toArray 29)) (.slice (some ⟨w.heap.size,0,none⟩) 1 1):=fun w2 h2 =>
 held_one h1 (below_a1 _ _) (fun B e => by have:=ho B e;omega) (fun i u q => cell_new w _ 29 q) w2 h2
theorem cU_cells (es dd ss:Value):cU.cells es dd ss=[.int .u8 3,.string ⟨#[]⟩,.string ⟨#[]⟩,.string ⟨#[]⟩,.int .u8 0,.string ⟨#[]⟩,.string ⟨#[]⟩,.int .i64 0,es,.int .i64 0,dd,ss]:=rfl
theorem cU_val (es dd ss:Value):cU.val es dd ss = .agg #[.int .u8 3,.string ⟨#[]⟩,.string ⟨#[]⟩,.string ⟨#[]⟩,.int .u8 0,.string ⟨#[]⟩,.string ⟨#[]⟩,.int .i64 0,es,.int .i64 0,dd,ss]:=rfl
theorem UInv.start (hb:Below V.heap.size V w):UInv V w S4 none (fun _ => false) c v15 v16 :=
 ⟨hb,fun _ => HInv.start _ _ _ _,fun h => (by cases h),fun _ => rfl,fun h => (by cases h),fun h => (by cases h)⟩
theorem UInv.lt (h:UInv V w S4 o L c v15 v16):∀ B,o=some B→B < w.heap.size:=fun B e => by
 cases h16:L 16 with
 | false => rw [h.o0 h16] at e;cases e
 | true =>
  obtain ⟨B',_,_,h1,h2,_⟩:=h.x h16
  rw [h2] at e;cases e;exact h1
theorem UInv.step (h:UInv V w S4 o L c v15 v16) (h15:L 15=false) (h17:L 17=false) (hb:Below w.heap.size w w2) {i:Nat} (hi:i < 15) {F:Fct} {z:Value} (hF:(uFs S4)[i]? = some F) (hz:F.p o w2 z):UInv V w2 S4 o (upd L i) (c.set i z) v15 v16:=by
 refine ⟨h.b.trans (hb.mono h.b.size),fun _ => (h.h h17).step hb hF hz,fun e => ?_,fun e => ?_,fun e => ?_,fun e => ?_⟩
 ·rw [upn (by omega),h15] at e;cases e
 ·rw [upn (by omega)] at e;exact h.o0 e
 ·rw [upn (by omega)] at e
  rw [upn (by omega)]
  obtain ⟨B,h1,h2,h3,h4,h5⟩:=h.x e
  exact ⟨B,h1,h2,Nat.lt_of_lt_of_le h3 hb.size,h4,fun q => (h5 q).below hb h3⟩
 ·rw [upn (by omega),h17] at e;cases e
theorem UInv.s15 (h:UInv V w S4 o L c v15 v16) (h17:L 17=false) {v1 v14:Value} (h1:c[1]? = some v1) (h14:c[14]? = some v14):UInv V w S4 o (upd L 15) c (.agg #[.int .u8 9,.string ⟨#[]⟩,.string ⟨#[]⟩,.string ⟨#[]⟩,.int .u8 11,.string ⟨#[]⟩,.string ⟨#[]⟩,.int .i64 0,.slice (some ⟨S4,0,none⟩) 2 2,.int .i64 0,v1,v14]) v16:=by
 refine ⟨h.b,fun _ => (h.h h17).keep (Below.refl _ _) (by show 15≤15;decide),fun _ => ⟨v1,v14,h1,h14,rfl⟩,fun e => ?_,fun e => ?_,fun e => ?_⟩
 ·rw [upn (by omega)] at e;exact h.o0 e
 ·rw [upn (by omega)] at e
  rw [upn (by omega)]
  exact h.x e
 ·rw [upn (by omega),h17] at e;cases e
theorem UInv.s16 (h:UInv V w S4 o L c v15 v16) (h16:L 16=false) (h17:L 17=false):UInv V (w.alloc (.cells zc10.toArray 29)) S4 (some w.heap.size) (upd L 16) c v15 (.pointer (some ⟨w.heap.size,0,none⟩)):=by
 have hb:=below_a1 w (.cells zc10.toArray 29)
 have ho:=h.o0 h16
 subst ho
 refine ⟨h.b.trans (hb.mono h.b.size),fun _ => ((h.h h17).up (Nat.le_refl _)).keep hb (by show 15≤16;decide),fun e => ?_,fun e => ?_,fun e => ?_,fun e => ?_⟩
 ·rw [upn (by omega)] at e;exact h.a e
 ·rw [ups] at e;cases e
 ·exact ⟨_,rfl,h.b.size,by simp,rfl,fun _ => BoxN.new w _ _⟩
 ·rw [upn (by omega),h17] at e;cases e
theorem put12_box {X:Nat} {u0 u1 u2 u3 u4 u5 u6 u7 u8 u9 u10 u11:Value} {t:TypeId} (h:BoxN w X t zc10):BoxN (put12 w X [u0,u1,u2,u3,u4,u5,u6,u7,u8,u9,u10,u11]) X t [u0,u1,u2,u3,u4,u5,u6,u7,u8,u9,u10,u11] :=
 ((((((((((((h.set 0 _).set 1 _).set 2 _).set 3 _).set 4 _).set 5 _).set 6 _).set 7 _).set 8 _).set 9 _).set 10 _).set 11 _)
set_option maxHeartbeats 4000000 in
theorem UInv.s17 (h:UInv V w S4 o L c v15 v16) (hall:∀ j,j < 17→L j=true) (h17:L 17=false) (he:RdE V [xNow,xCon m3] (.slice (some ⟨S4,0,none⟩) 2 2)) {B:Nat} (hv:v16 = .pointer (some ⟨B,0,none⟩)) {v1 v14:Value} (h1:c[1]? = some v1) (h14:c[14]? = some v14) :
  UInv V (put12 w B [.int .u8 9,.string ⟨#[]⟩,.string ⟨#[]⟩,.string ⟨#[]⟩,.int .u8 11,.string ⟨#[]⟩,.string ⟨#[]⟩,.int .i64 0,.slice (some ⟨S4,0,none⟩) 2 2,.int .i64 0,v1,v14]) S4 o (upd L 17) c v15 v16:=by
 obtain ⟨B',e1,h2,h3,h4,h5⟩:=h.x (hall 16 (by decide))
 rw [hv] at e1
 cases e1
 have hb:Below V.heap.size V (put12 w B [.int .u8 9,.string ⟨#[]⟩,.string ⟨#[]⟩,.string ⟨#[]⟩,.int .u8 11,.string ⟨#[]⟩,.string ⟨#[]⟩,.int .i64 0,.slice (some ⟨S4,0,none⟩) 2 2,.int .i64 0,v1,v14]):=put12_below h.b h2
 have hd:Fct.p (.days [4,5,6]) o w v1:=(h.h h17).at (hall 1 (by decide)) rfl h1
 have hr:Fct.p (.row [cU]) o w v14:=(h.h h17).at (hall 14 (by decide)) rfl h14
 have hs:SameBut o w (put12 w B [.int .u8 9,.string ⟨#[]⟩,.string ⟨#[]⟩,.string ⟨#[]⟩,.int .u8 11,.string ⟨#[]⟩,.string ⟨#[]⟩,.int .i64 0,.slice (some ⟨S4,0,none⟩) 2 2,.int .i64 0,v1,v14]):=by rw [h4];exact put12_but
 have bx:BoxN (put12 w B [.int .u8 9,.string ⟨#[]⟩,.string ⟨#[]⟩,.string ⟨#[]⟩,.int .u8 11,.string ⟨#[]⟩,.string ⟨#[]⟩,.int .i64 0,.slice (some ⟨S4,0,none⟩) 2 2,.int .i64 0,v1,v14]) B 29 [.int .u8 9,.string ⟨#[]⟩,.string ⟨#[]⟩,.string ⟨#[]⟩,.int .u8 11,.string ⟨#[]⟩,.string ⟨#[]⟩,.int .i64 0,.slice (some ⟨S4,0,none⟩) 2 2,.int .i64 0,v1,v14]:=put12_box (h5 h17)
 generalize put12 w B [.int .u8 9,.string ⟨#[]⟩,.string ⟨#[]⟩,.string ⟨#[]⟩,.int .u8 11,.string ⟨#[]⟩,.string ⟨#[]⟩,.int .i64 0,.slice (some ⟨S4,0,none⟩) 2 2,.int .i64 0,v1,v14]=W2 at *
 have r1:RdE W2 [xNow,xCon m3] (.slice (some ⟨S4,0,none⟩) 2 2):=he.frame hb
 have r2:RdI W2 [4,5,6] v1:=hd W2 hs
 have r3:RdC W2 [cU] v14:=hr W2 hs
 refine ⟨hb,fun e => ?_,fun e => ?_,fun e => ?_,fun e => ?_,fun _ => ⟨B,hv,v1,v14,bx,r1,r2,r3,by show 9 < 256;decide,by show 11 < 256;decide⟩⟩
 ·rw [ups] at e;cases e
 ·rw [upn (by omega)] at e;exact h.a e
 ·rw [upn (by omega)] at e;exact h.o0 e
 ·refine ⟨B,hv,h2,Nat.lt_of_lt_of_le h3 hs.size,h4,fun q => ?_⟩
  rw [ups] at q;cases q
end
structure NmS (W:World) (K S1 S4 S9:Nat):Prop where
 k:Lk W
 e:BoxN W S1 33 [.slice (some ⟨K,0,none⟩) 2 2,.slice (some ⟨S1+1,0,none⟩) 2 2]
 r:(envN10 K (S1+1)).Rd W
 l:BoxN W (S4+1) 25 [.int .u8 11,.string ⟨#[]⟩,.string ⟨#[]⟩,.int .i64 0,.slice (some ⟨S4,0,none⟩) 2 2]
 x:RdE W [xNow,xCon m3] (.slice (some ⟨S4,0,none⟩) 2 2)
 o1:BoxN W S9 29 [.int .u8 2,.string ⟨#[65,110,110]⟩,.string ⟨#[66,111,98]⟩,.string ⟨#[85,83,68]⟩,.int .u8 1,.string ⟨#[49]⟩,.string ⟨#[]⟩,.int .i64 0,.slice none 0 0,.int .i64 0,.slice none 0 0,.slice none 0 0]
 o2:BoxN W (S9+1) 29 [.int .u8 2,.string ⟨#[65,110,110]⟩,.string ⟨#[66,111,98]⟩,.string ⟨#[85,83,68]⟩,.int .u8 1,.string ⟨#[50]⟩,.string ⟨#[]⟩,.int .i64 0,.slice none 0 0,.int .i64 0,.slice none 0 0,.slice none 0 0]
theorem NmS.frame {W W2:World} {K S1 S4 S9:Nat} (h:NmS W K S1 S4 S9) (hb:Below W.heap.size W W2):NmS W2 K S1 S4 S9 :=
 ⟨h.k.frame hb,h.e.below hb h.e.lt,h.r.frame hb,h.l.below hb h.l.lt,h.x.frame hb,h.o1.below hb h.o1.lt,h.o2.below hb h.o2.lt⟩
theorem NmS.env {W:World} {K S1 S4 S9:Nat} (h:NmS W K S1 S4 S9):NmE W (envN10 K (S1+1)):=⟨h.k,h.r,rfl,rfl⟩
theorem nm_w10 (w:World) (S4:Nat) (he:RdE w [xNow,xCon m3] (.slice (some ⟨S4,0,none⟩) 2 2)):∃ W,((w.alloc (.cells #[.int .i64 4,.int .i64 5,.int .i64 6,.int .i64 7] 3)).alloc (.cells #[.int .u8 2,.string ⟨#[65,110,110]⟩,.string ⟨#[66,111,98]⟩,.string ⟨#[85,83,68]⟩,.int .u8 1,.string ⟨#[50]⟩,.string ⟨#[]⟩,.int .i64 0,.slice none 0 0,.int .i64 0,.slice none 0 0,.slice none 0 0] 29)).alloc (.cells #[.int .u8 10,.string ⟨#[]⟩,.string ⟨#[]⟩,.string ⟨#[]⟩,.int .u8 11,.string ⟨#[]⟩,.string ⟨#[]⟩,.int .i64 0,.slice (some ⟨S4,0,none⟩) 2 2,.int .i64 0,.slice (some ⟨w.heap.size,0,none⟩) 4 4,.slice (some ⟨w.heap.size+1,0,none⟩) 1 1] 29)=W∧Below w.heap.size w W ∧
  BoxN W (w.heap.size+1+1) 29 [.int .u8 10,.string ⟨#[]⟩,.string ⟨#[]⟩,.string ⟨#[]⟩,.int .u8 11,.string ⟨#[]⟩,.string ⟨#[]⟩,.int .i64 0,.slice (some ⟨S4,0,none⟩) 2 2,.int .i64 0,.slice (some ⟨w.heap.size,0,none⟩) 4 4,.slice (some ⟨w.heap.size+1,0,none⟩) 1 1]∧RdN W cWhen (.slice (some ⟨S4,0,none⟩) 2 2) (.slice (some ⟨w.heap.size,0,none⟩) 4 4) (.slice (some ⟨w.heap.size+1,0,none⟩) 1 1):=by
 have b1:=below_a1 w (.cells #[.int .i64 4,.int .i64 5,.int .i64 6,.int .i64 7] 3)
 have b2:=below_a1 (w.alloc (.cells #[.int .i64 4,.int .i64 5,.int .i64 6,.int .i64 7] 3)) (.cells #[.int .u8 2,.string ⟨#[65,110,110]⟩,.string ⟨#[66,111,98]⟩,.string ⟨#[85,83,68]⟩,.int .u8 1,.string ⟨#[50]⟩,.string ⟨#[]⟩,.int .i64 0,.slice none 0 0,.int .i64 0,.slice none 0 0,.slice none 0 0] 29)
 have hd:Fct.p (.days [4,5,6,7]) none _ _:=days_new (w:=w) (o:=none) [4,5,6,7] 3 (fun B e => by cases e)
 have hr:Fct.p (.row [cTwo]) none _ _:=row_new (w:=w.alloc (.cells #[.int .i64 4,.int .i64 5,.int .i64 6,.int .i64 7] 3)) (o:=none) (x:=cTwo) (es:=.slice none 0 0) (dd:=.slice none 0 0) (ss:=.slice none 0 0) (fun w2 _ => ⟨rdE_nil _,rdI_nil _,rdC_nil _,by show 2 < 256;decide,by show 1 < 256;decide⟩) (fun B e => by cases e)
 rw [World.size_alloc] at hr
 have h3:=BoxN.new ((w.alloc (.cells #[.int .i64 4,.int .i64 5,.int .i64 6,.int .i64 7] 3)).alloc (.cells #[.int .u8 2,.string ⟨#[65,110,110]⟩,.string ⟨#[66,111,98]⟩,.string ⟨#[85,83,68]⟩,.int .u8 1,.string ⟨#[50]⟩,.string ⟨#[]⟩,.int .i64 0,.slice none 0 0,.int .i64 0,.slice none 0 0,.slice none 0 0] 29)) [.int .u8 10,.string ⟨#[]⟩,.string ⟨#[]⟩,.string ⟨#[]⟩,.int .u8 11,.string ⟨#[]⟩,.string ⟨#[]⟩,.int .i64 0,.slice (some ⟨S4,0,none⟩) 2 2,.int .i64 0,.slice (some ⟨w.heap.size,0,none⟩) 4 4,.slice (some ⟨w.heap.size+1,0,none⟩) 1 1] 29
 rw [World.size_alloc,World.size_alloc] at h3
 have b3:=below_a1 ((w.alloc (.cells #[.int .i64 4,.int .i64 5,.int .i64 6,.int .i64 7] 3)).alloc (.cells #[.int .u8 2,.string ⟨#[65,110,110]⟩,.string ⟨#[66,111,98]⟩,.string ⟨#[85,83,68]⟩,.int .u8 1,.string ⟨#[50]⟩,.string ⟨#[]⟩,.int .i64 0,.slice none 0 0,.int .i64 0,.slice none 0 0,.slice none 0 0] 29)) (.cells #[.int .u8 10,.string ⟨#[]⟩,.string ⟨#[]⟩,.string ⟨#[]⟩,.int .u8 11,.string ⟨#[]⟩,.string ⟨#[]⟩,.int .i64 0,.slice (some ⟨S4,0,none⟩) 2 2,.int .i64 0,.slice (some ⟨w.heap.size,0,none⟩) 4 4,.slice (some ⟨w.heap.size+1,0,none⟩) 1 1] 29)
 have r1:=((he.frame b1).frame b2).frame b3
 have r2:=((hd _ (SameBut.refl _ _)).frame b2).frame b3
 have r3:=(hr _ (SameBut.refl _ _)).frame b3
 exact ⟨_,rfl,below_a3 _ _ _ _,h3,r1,r2,r3,by show 10 < 256;decide,by show 11 < 256;decide⟩
theorem nm_w11 (w:World) (S4:Nat) (he:RdE w [xNow,xCon m3] (.slice (some ⟨S4,0,none⟩) 2 2)):∃ W,(w.alloc (.cells #[.int .u8 2,.string ⟨#[65,110,110]⟩,.string ⟨#[66,111,98]⟩,.string ⟨#[85,83,68]⟩,.int .u8 1,.string ⟨#[49]⟩,.string ⟨#[]⟩,.int .i64 0,.slice none 0 0,.int .i64 0,.slice none 0 0,.slice none 0 0,.int .u8 2,.string ⟨#[65,110,110]⟩,.string ⟨#[66,111,98]⟩,.string ⟨#[85,83,68]⟩,.int .u8 1,.string ⟨#[50]⟩,.string ⟨#[]⟩,.int .i64 0,.slice none 0 0,.int .i64 0,.slice none 0 0,.slice none 0 0] 29)).alloc (.cells #[.int .u8 5,.string ⟨#[]⟩,.string ⟨#[]⟩,.string ⟨#[]⟩,.int .u8 11,.string ⟨#[]⟩,.string ⟨#[]⟩,.int .i64 0,.slice (some ⟨S4,0,none⟩) 2 2,.int .i64 0,.slice none 0 0,.slice (some ⟨w.heap.size,0,none⟩) 2 2] 29)=W∧Below w.heap.size w W ∧
  BoxN W (w.heap.size+1) 29 [.int .u8 5,.string ⟨#[]⟩,.string ⟨#[]⟩,.string ⟨#[]⟩,.int .u8 11,.string ⟨#[]⟩,.string ⟨#[]⟩,.int .i64 0,.slice (some ⟨S4,0,none⟩) 2 2,.int .i64 0,.slice none 0 0,.slice (some ⟨w.heap.size,0,none⟩) 2 2]∧RdN W cCond (.slice (some ⟨S4,0,none⟩) 2 2) (.slice none 0 0) (.slice (some ⟨w.heap.size,0,none⟩) 2 2):=by
 have b1:=below_a1 w (.cells #[.int .u8 2,.string ⟨#[65,110,110]⟩,.string ⟨#[66,111,98]⟩,.string ⟨#[85,83,68]⟩,.int .u8 1,.string ⟨#[49]⟩,.string ⟨#[]⟩,.int .i64 0,.slice none 0 0,.int .i64 0,.slice none 0 0,.slice none 0 0,.int .u8 2,.string ⟨#[65,110,110]⟩,.string ⟨#[66,111,98]⟩,.string ⟨#[85,83,68]⟩,.int .u8 1,.string ⟨#[50]⟩,.string ⟨#[]⟩,.int .i64 0,.slice none 0 0,.int .i64 0,.slice none 0 0,.slice none 0 0] 29)
 have b2:=below_a1 (w.alloc (.cells #[.int .u8 2,.string ⟨#[65,110,110]⟩,.string ⟨#[66,111,98]⟩,.string ⟨#[85,83,68]⟩,.int .u8 1,.string ⟨#[49]⟩,.string ⟨#[]⟩,.int .i64 0,.slice none 0 0,.int .i64 0,.slice none 0 0,.slice none 0 0,.int .u8 2,.string ⟨#[65,110,110]⟩,.string ⟨#[66,111,98]⟩,.string ⟨#[85,83,68]⟩,.int .u8 1,.string ⟨#[50]⟩,.string ⟨#[]⟩,.int .i64 0,.slice none 0 0,.int .i64 0,.slice none 0 0,.slice none 0 0] 29)) (.cells #[.int .u8 5,.string ⟨#[]⟩,.string ⟨#[]⟩,.string ⟨#[]⟩,.int .u8 11,.string ⟨#[]⟩,.string ⟨#[]⟩,.int .i64 0,.slice (some ⟨S4,0,none⟩) 2 2,.int .i64 0,.slice none 0 0,.slice (some ⟨w.heap.size,0,none⟩) 2 2] 29)
 have f1:RdN (w.alloc (.cells #[.int .u8 2,.string ⟨#[65,110,110]⟩,.string ⟨#[66,111,98]⟩,.string ⟨#[85,83,68]⟩,.int .u8 1,.string ⟨#[49]⟩,.string ⟨#[]⟩,.int .i64 0,.slice none 0 0,.int .i64 0,.slice none 0 0,.slice none 0 0,.int .u8 2,.string ⟨#[65,110,110]⟩,.string ⟨#[66,111,98]⟩,.string ⟨#[85,83,68]⟩,.int .u8 1,.string ⟨#[50]⟩,.string ⟨#[]⟩,.int .i64 0,.slice none 0 0,.int .i64 0,.slice none 0 0,.slice none 0 0] 29)) cOne (.slice none 0 0) (.slice none 0 0) (.slice none 0 0):=⟨rdE_nil _,rdI_nil _,rdC_nil _,by show 2 < 256;decide,by show 1 < 256;decide⟩
 have f2:RdN (w.alloc (.cells #[.int .u8 2,.string ⟨#[65,110,110]⟩,.string ⟨#[66,111,98]⟩,.string ⟨#[85,83,68]⟩,.int .u8 1,.string ⟨#[49]⟩,.string ⟨#[]⟩,.int .i64 0,.slice none 0 0,.int .i64 0,.slice none 0 0,.slice none 0 0,.int .u8 2,.string ⟨#[65,110,110]⟩,.string ⟨#[66,111,98]⟩,.string ⟨#[85,83,68]⟩,.int .u8 1,.string ⟨#[50]⟩,.string ⟨#[]⟩,.int .i64 0,.slice none 0 0,.int .i64 0,.slice none 0 0,.slice none 0 0] 29)) cTwo (.slice none 0 0) (.slice none 0 0) (.slice none 0 0):=⟨rdE_nil _,rdI_nil _,rdC_nil _,by show 2 < 256;decide,by show 1 < 256;decide⟩
 have hr:RdC (w.alloc (.cells #[.int .u8 2,.string ⟨#[65,110,110]⟩,.string ⟨#[66,111,98]⟩,.string ⟨#[85,83,68]⟩,.int .u8 1,.string ⟨#[49]⟩,.string ⟨#[]⟩,.int .i64 0,.slice none 0 0,.int .i64 0,.slice none 0 0,.slice none 0 0,.int .u8 2,.string ⟨#[65,110,110]⟩,.string ⟨#[66,111,98]⟩,.string ⟨#[85,83,68]⟩,.int .u8 1,.string ⟨#[50]⟩,.string ⟨#[]⟩,.int .i64 0,.slice none 0 0,.int .i64 0,.slice none 0 0,.slice none 0 0] 29)) [cOne,cTwo] (.slice (some ⟨w.heap.size,0,none⟩) 2 2):=rdC_two (fun i u q => cell_new w (cOne.cells (.slice none 0 0) (.slice none 0 0) (.slice none 0 0) ++ cTwo.cells (.slice none 0 0) (.slice none 0 0) (.slice none 0 0)) 29 q) f1 f2
 have h3:=BoxN.new (w.alloc (.cells #[.int .u8 2,.string ⟨#[65,110,110]⟩,.string ⟨#[66,111,98]⟩,.string ⟨#[85,83,68]⟩,.int .u8 1,.string ⟨#[49]⟩,.string ⟨#[]⟩,.int .i64 0,.slice none 0 0,.int .i64 0,.slice none 0 0,.slice none 0 0,.int .u8 2,.string ⟨#[65,110,110]⟩,.string ⟨#[66,111,98]⟩,.string ⟨#[85,83,68]⟩,.int .u8 1,.string ⟨#[50]⟩,.string ⟨#[]⟩,.int .i64 0,.slice none 0 0,.int .i64 0,.slice none 0 0,.slice none 0 0] 29)) [.int .u8 5,.string ⟨#[]⟩,.string ⟨#[]⟩,.string ⟨#[]⟩,.int .u8 11,.string ⟨#[]⟩,.string ⟨#[]⟩,.int .i64 0,.slice (some ⟨S4,0,none⟩) 2 2,.int .i64 0,.slice none 0 0,.slice (some ⟨w.heap.size,0,none⟩) 2 2] 29
 rw [World.size_alloc] at h3
 exact ⟨_,rfl,below_a2 _ _ _,h3,(he.frame b1).frame b2,rdI_nil _,hr.frame b2,by show 5 < 256;decide,by show 11 < 256;decide⟩
end Go.Proofs.YtknpnhodpgajbaaGreatDoor

namespace Go.Proofs.YtknpnhodpgajbaaGreatDoor
open Go.RowKit
structure NmT (W:World) (K S1 S4 S9 B S10 S11:Nat) (dd ss:Value):Prop where
 s:NmS W K S1 S4 S9
 bu:BoxN W B 29 [.int .u8 9,.string ⟨#[]⟩,.string ⟨#[]⟩,.string ⟨#[]⟩,.int .u8 11,.string ⟨#[]⟩,.string ⟨#[]⟩,.int .i64 0,.slice (some ⟨S4,0,none⟩) 2 2,.int .i64 0,dd,ss]
 ru:RdN W cUntil (.slice (some ⟨S4,0,none⟩) 2 2) dd ss
 bw:BoxN W (S10+1+1) 29 [.int .u8 10,.string ⟨#[]⟩,.string ⟨#[]⟩,.string ⟨#[]⟩,.int .u8 11,.string ⟨#[]⟩,.string ⟨#[]⟩,.int .i64 0,.slice (some ⟨S4,0,none⟩) 2 2,.int .i64 0,.slice (some ⟨S10,0,none⟩) 4 4,.slice (some ⟨S10+1,0,none⟩) 1 1]
 rw:RdN W cWhen (.slice (some ⟨S4,0,none⟩) 2 2) (.slice (some ⟨S10,0,none⟩) 4 4) (.slice (some ⟨S10+1,0,none⟩) 1 1)
 bc:BoxN W (S11+1) 29 [.int .u8 5,.string ⟨#[]⟩,.string ⟨#[]⟩,.string ⟨#[]⟩,.int .u8 11,.string ⟨#[]⟩,.string ⟨#[]⟩,.int .i64 0,.slice (some ⟨S4,0,none⟩) 2 2,.int .i64 0,.slice none 0 0,.slice (some ⟨S11,0,none⟩) 2 2]
 rc:RdN W cCond (.slice (some ⟨S4,0,none⟩) 2 2) (.slice none 0 0) (.slice (some ⟨S11,0,none⟩) 2 2)
theorem NmT.frame {W W2:World} {K S1 S4 S9 B S10 S11:Nat} {dd ss:Value} (h:NmT W K S1 S4 S9 B S10 S11 dd ss) (hb:Below W.heap.size W W2):NmT W2 K S1 S4 S9 B S10 S11 dd ss :=
 ⟨h.s.frame hb,h.bu.below hb h.bu.lt,h.ru.frame hb,h.bw.below hb h.bw.lt,h.rw.frame hb,h.bc.below hb h.bc.lt,h.rc.frame hb⟩
section
variable {W:World} {E:EvD} {c:Con} {v:Value}
theorem flat1 (o:Option Nat) (w:World):HeldO o w (.agg #[.int .u8 2,.string ⟨#[65,110,110]⟩,.string ⟨#[66,111,98]⟩,.string ⟨#[85,83,68]⟩,.int .u8 1,.string ⟨#[49]⟩,.string ⟨#[]⟩,.int .i64 0,.slice none 0 0,.int .i64 0,.slice none 0 0,.slice none 0 0]) cOne:=HeldO.flat o w cOne rfl rfl rfl (by decide) (by decide)
theorem flat2 (o:Option Nat) (w:World):HeldO o w (.agg #[.int .u8 2,.string ⟨#[65,110,110]⟩,.string ⟨#[66,111,98]⟩,.string ⟨#[85,83,68]⟩,.int .u8 1,.string ⟨#[50]⟩,.string ⟨#[]⟩,.int .i64 0,.slice none 0 0,.int .i64 0,.slice none 0 0,.slice none 0 0]) cTwo:=HeldO.flat o w cTwo rfl rfl rfl (by decide) (by decide)
theorem flatN (o:Option Nat) (w:World):HeldO o w (.agg #[.int .u8 2,.string ⟨#[65,110,110]⟩,.string ⟨#[66,111,98]⟩,.string ⟨#[85,83,68]⟩,.int .u8 3,.string ⟨#[]⟩,.string ⟨#[110,111,110,101]⟩,.int .i64 0,.slice none 0 0,.int .i64 0,.slice none 0 0,.slice none 0 0]) cNone:=HeldO.flat o w cNone rfl rfl rfl (by decide) (by decide)
theorem flatZ (o:Option Nat) (w:World):HeldO o w (.agg #[.int .u8 1,.string ⟨#[]⟩,.string ⟨#[]⟩,.string ⟨#[]⟩,.int .u8 0,.string ⟨#[]⟩,.string ⟨#[]⟩,.int .i64 0,.slice none 0 0,.int .i64 0,.slice none 0 0,.slice none 0 0]) cZero:=HeldO.flat o w cZero rfl rfl rfl (by decide) (by decide)
theorem flatV (o:Option Nat) (w:World):HeldO o w (.agg #[.int .u8 0,.string ⟨#[]⟩,.string ⟨#[]⟩,.string ⟨#[]⟩,.int .u8 0,.string ⟨#[]⟩,.string ⟨#[]⟩,.int .i64 0,.slice none 0 0,.int .i64 0,.slice none 0 0,.slice none 0 0]) cVoid:=HeldO.flat o w cVoid rfl rfl rfl (by decide) (by decide)
theorem flat0 (o:Option Nat) (w:World):HeldO o w (.agg #[.int .u8 2,.string ⟨#[65,110,110]⟩,.string ⟨#[66,111,98]⟩,.string ⟨#[85,83,68]⟩,.int .u8 1,.string ⟨#[48]⟩,.string ⟨#[]⟩,.int .i64 0,.slice none 0 0,.int .i64 0,.slice none 0 0,.slice none 0 0]) cNil:=HeldO.flat o w cNil rfl rfl rfl (by decide) (by decide)
theorem none_lt {P:Nat→Prop}:∀ X,(none:Option Nat)=some X→P X:=fun X e => by cases e
theorem at_any (d:Int) (h:HeldO none W v c):Calls Tryz.prog 30 #[.int .i64 d,v] W fun e w' => ∃ u,e = .returned u∧HeldO none w' u (atM d c)∧Below W.heap.size W w':=nmAt_any none d v c W h none_lt
theorem bo_any {v2:Value} {c2:Con} (h:HeldO none W v c) (h2:HeldO none W v2 c2):Calls Tryz.prog 31 #[v,v2] W fun e w' => ∃ u,e = .returned u∧HeldO none w' u (bothN c c2)∧Below W.heap.size W w':=nmBoth_any none v v2 c c2 W h h2 none_lt
theorem rdN1 (w:World):RdN w cOne (.slice none 0 0) (.slice none 0 0) (.slice none 0 0):=⟨rdE_nil _,rdI_nil _,rdC_nil _,by show 2 < 256;decide,by show 1 < 256;decide⟩
theorem rdN2 (w:World):RdN w cTwo (.slice none 0 0) (.slice none 0 0) (.slice none 0 0):=⟨rdE_nil _,rdI_nil _,rdC_nil _,by show 2 < 256;decide,by show 1 < 256;decide⟩
theorem pk_any {S9:Nat} (who:ByteArray) (h1:BoxN W S9 29 [.int .u8 2,.string ⟨#[65,110,110]⟩,.string ⟨#[66,111,98]⟩,.string ⟨#[85,83,68]⟩,.int .u8 1,.string ⟨#[49]⟩,.string ⟨#[]⟩,.int .i64 0,.slice none 0 0,.int .i64 0,.slice none 0 0,.slice none 0 0]) (h2:BoxN W (S9+1) 29 [.int .u8 2,.string ⟨#[65,110,110]⟩,.string ⟨#[66,111,98]⟩,.string ⟨#[85,83,68]⟩,.int .u8 1,.string ⟨#[50]⟩,.string ⟨#[]⟩,.int .i64 0,.slice none 0 0,.int .i64 0,.slice none 0 0,.slice none 0 0]):Calls Tryz.prog 33 #[.string who,.pointer (some ⟨S9,0,none⟩),.pointer (some ⟨S9+1,0,none⟩)] W fun e w' => ∃ u,e = .returned u∧HeldO none w' u (pickN who cOne cTwo)∧Below W.heap.size W w' :=
 nmPick_any none who cOne cTwo (.slice none 0 0) (.slice none 0 0) (.slice none 0 0) (.slice none 0 0) (.slice none 0 0) (.slice none 0 0) S9 (S9+1) W (rdN1 _) (rdN2 _) (fun _ _ => rdN1 _) (fun _ _ => rdN2 _) h1 h2 none_lt
end
end Go.Proofs.YtknpnhodpgajbaaGreatDoor

namespace Go.Proofs.YtknpnhodpgajbaaGreatDoor
open Go.RowKit
theorem cellB {w w2:World} {b i:Nat} {u:Value} (h:Below w.heap.size w w2) (hc:w.cell? ⟨b,i,none⟩=some u):w2.cell? ⟨b,i,none⟩=some u:=by
 rw [h.cell (p:=⟨b,i,none⟩) (World.block_lt_of_cell? w _ hc)];exact hc
def Fct.dl (l:List Int):Fct:=⟨fun _ w v => ∃ B,v = .slice (some ⟨B,0,none⟩) l.length l.length∧∀ j d,l[j]? = some d→w.cell? ⟨B,j,none⟩=some (.int .i64 d),fun h hb => by
 obtain ⟨B,e,hc⟩:=h
 exact ⟨B,e,fun j d hj => cellB hb (hc j d hj)⟩,fun h _ => h⟩
def Fct.rl (l:List ByteArray):Fct:=⟨fun _ w v => ∃ B,v = .slice (some ⟨B,0,none⟩) l.length l.length∧∀ j d,l[j]? = some d→w.cell? ⟨B,j,none⟩=some (.string d),fun h hb => by
 obtain ⟨B,e,hc⟩:=h
 exact ⟨B,e,fun j d hj => cellB hb (hc j d hj)⟩,fun h _ => h⟩
theorem dl_new (w:World) (l:List Int) (t:TypeId):Fct.p (.dl l) none (w.alloc (.cells (l.map fun d => Value.int .i64 d).toArray t)) (.slice (some ⟨w.heap.size,0,none⟩) l.length l.length) :=
 ⟨_,rfl,fun j d hj => cell_new w _ t (by rw [List.getElem?_map,hj];rfl)⟩
theorem rl_new (w:World) (l:List ByteArray) (t:TypeId):Fct.p (.rl l) none (w.alloc (.cells (l.map fun d => Value.string d).toArray t)) (.slice (some ⟨w.heap.size,0,none⟩) l.length l.length) :=
 ⟨_,rfl,fun j d hj => cell_new w _ t (by rw [List.getElem?_map,hj];rfl)⟩
structure DInv (V w:World) (Fs:List Fct) (cur:List Value) (L:Nat→Bool):Prop where
 b:Below V.heap.size V w
 h:HInv none w Fs cur L
section
variable {V w w2:World} {Fs:List Fct} {cur:List Value} {L:Nat→Bool}
theorem DInv.start (hb:Below V.heap.size V w):DInv V w Fs cur (fun _ => false):=⟨hb,HInv.start _ _ _ _⟩
theorem DInv.step (h:DInv V w Fs cur L) (hb:Below w.heap.size w w2) {i:Nat} {F:Fct} {u:Value} (hF:Fs[i]? = some F) (hu:F.p none w2 u):DInv V w2 Fs (cur.set i u) (upd L i):=⟨h.b.trans (hb.mono h.b.size),h.h.step hb hF hu⟩
theorem DInv.lit (h:DInv V w Fs cur L) {i:Nat} {u v:Value} (hL:L i=true) (hF:Fs[i]? = some (.lit u)) (hv:cur[i]? = some v):v=u:=h.h.at hL hF hv
theorem DInv.at (h:DInv V w Fs cur L) {i:Nat} {F:Fct} {v:Value} (hL:L i=true) (hF:Fs[i]? = some F) (hv:cur[i]? = some v):F.p none w v:=h.h.at hL hF hv
end
section
variable {W:World} {E:EvD} {c:Con} {v vd vr:Value}
theorem amt_dr (L:List Fl) (hE:NmE W E) (h:HeldO none W v c) (hB:c.bulk≤1100000) (hL:befR c 5 100000 fKnown chN=(0,L)) (hLL:∀ f ∈ L,f.fr=mAnn∧f.rc=mBob∧f.cy=mUSD) (h1000:L.length≤1000) (hd:Fct.p (.dl (L.map (·.d))) none W vd) (hr:Fct.p (.rl (L.map (·.am))) none W vr) :
  Calls Tryz.prog 34 #[v,E.val,vd,vr] W fun e w2 => e = .returned (.bool true)∧Below W.heap.size W w2:=by
 obtain ⟨D,rfl,hd⟩:=hd
 obtain ⟨R,rfl,hr⟩:=hr
 rw [List.length_map,List.length_map]
 exact amt_row L hE h hB hL hLL rfl h1000 (fun j f hj => hd j f.d (by rw [List.getElem?_map,hj];rfl)) (fun j f hj => hr j f.am (by rw [List.getElem?_map,hj];rfl))
theorem am1_dr (d:Int) (am:ByteArray) (hE:NmE W E) (h:HeldO none W v c) (hB:c.bulk≤1100000) (hL:befR c 5 100000 fKnown chN=(0,[fO d am])) (hd:Fct.p (.dl [d]) none W vd) (hr:Fct.p (.rl [am]) none W vr) :
  Calls Tryz.prog 34 #[v,E.val,vd,vr] W fun e w2 => e = .returned (.bool true)∧Below W.heap.size W w2 :=
 amt_dr [fO d am] hE h hB hL (fun f hf => by rw [List.mem_singleton] at hf;subst hf;exact ⟨rfl,rfl,rfl⟩) (by show 1≤1000;decide) hd hr
theorem am2_dr (d d2:Int) (am am2:ByteArray) (hE:NmE W E) (h:HeldO none W v c) (hB:c.bulk≤1100000) (hL:befR c 5 100000 fKnown chN=(0,[fO d am,fO d2 am2])) (hd:Fct.p (.dl [d,d2]) none W vd) (hr:Fct.p (.rl [am,am2]) none W vr) :
  Calls Tryz.prog 34 #[v,E.val,vd,vr] W fun e w2 => e = .returned (.bool true)∧Below W.heap.size W w2 :=
 amt_dr [fO d am,fO d2 am2] hE h hB hL (fun f hf => by simp at hf;rcases hf with rfl | rfl <;> exact ⟨rfl,rfl,rfl⟩) (by show 2≤1000;decide) hd hr
theorem ca_dr {S9:Nat} (who:ByteArray) (l:List Int) (h1:BoxN W S9 29 [.int .u8 2,.string ⟨#[65,110,110]⟩,.string ⟨#[66,111,98]⟩,.string ⟨#[85,83,68]⟩,.int .u8 1,.string ⟨#[49]⟩,.string ⟨#[]⟩,.int .i64 0,.slice none 0 0,.int .i64 0,.slice none 0 0,.slice none 0 0]) (hd:Fct.p (.days l) none W vd):Calls Tryz.prog 32 #[.string who,vd,.pointer (some ⟨S9,0,none⟩)] W fun e w' => ∃ u,e = .returned u∧HeldO none w' u (callN who l cOne)∧Below W.heap.size W w' :=
 nmCall_any none who l vd cOne (.slice none 0 0) (.slice none 0 0) (.slice none 0 0) S9 W (rdN1 _) (fun _ _ => rdN1 _) h1 hd none_lt
end
end Go.Proofs.YtknpnhodpgajbaaGreatDoor

namespace Go.Proofs.YtknpnhodpgajbaaGreatDoor
open Go.RowKit
section
variable {W:World} {K S1 S4 S9 B S10 S11:Nat} {dd ss v vd vr:Value} {c:Con}
theorem ev_eq (K S:Nat):(envN10 K (S+1)).val = .agg #[.slice (some ⟨K,0,none⟩) 2 2,.slice (some ⟨S+1,0,none⟩) 2 2]:=by
 show Value.agg #[.slice (some ⟨K,0,none⟩) fKnown.length 2,.slice (some ⟨S+1,0,none⟩) chN.length 2]=_
 rw [show fKnown.length=2 from rfl,show chN.length=2 from rfl]
theorem heldU (hT:NmT W K S1 S4 S9 B S10 S11 dd ss):HeldO none W (.agg #[.int .u8 9,.string ⟨#[]⟩,.string ⟨#[]⟩,.string ⟨#[]⟩,.int .u8 11,.string ⟨#[]⟩,.string ⟨#[]⟩,.int .i64 0,.slice (some ⟨S4,0,none⟩) 2 2,.int .i64 0,dd,ss]) cUntil:=HeldO.of_rd hT.ru
theorem heldW (hT:NmT W K S1 S4 S9 B S10 S11 dd ss):HeldO none W (.agg #[.int .u8 10,.string ⟨#[]⟩,.string ⟨#[]⟩,.string ⟨#[]⟩,.int .u8 11,.string ⟨#[]⟩,.string ⟨#[]⟩,.int .i64 0,.slice (some ⟨S4,0,none⟩) 2 2,.int .i64 0,.slice (some ⟨S10,0,none⟩) 4 4,.slice (some ⟨S10+1,0,none⟩) 1 1]) cWhen:=HeldO.of_rd hT.rw
theorem heldC (hT:NmT W K S1 S4 S9 B S10 S11 dd ss):HeldO none W (.agg #[.int .u8 5,.string ⟨#[]⟩,.string ⟨#[]⟩,.string ⟨#[]⟩,.int .u8 11,.string ⟨#[]⟩,.string ⟨#[]⟩,.int .i64 0,.slice (some ⟨S4,0,none⟩) 2 2,.int .i64 0,.slice none 0 0,.slice (some ⟨S11,0,none⟩) 2 2]) cCond:=HeldO.of_rd hT.rc
theorem qn (hT:NmT W K S1 S4 S9 B S10 S11 dd ss) (h:HeldO none W v c) (hB:c.bulk≤1100000) (hL:befR c 5 100000 fKnown chN=(0,[])) :
  Calls Tryz.prog 34 #[v,.agg #[.slice (some ⟨K,0,none⟩) 2 2,.slice (some ⟨S1+1,0,none⟩) 2 2],.slice none 0 0,.slice none 0 0] W fun e w2 => e = .returned (.bool true)∧Below W.heap.size W w2:=by
 have q:=amt_nil hT.s.env h hB hL
 rwa [ev_eq] at q
theorem q1 (d:Int) (am:ByteArray) (hT:NmT W K S1 S4 S9 B S10 S11 dd ss) (h:HeldO none W v c) (hB:c.bulk≤1100000) (hL:befR c 5 100000 fKnown chN=(0,[fO d am])) (hd:Fct.p (.dl [d]) none W vd) (hr:Fct.p (.rl [am]) none W vr) :
  Calls Tryz.prog 34 #[v,.agg #[.slice (some ⟨K,0,none⟩) 2 2,.slice (some ⟨S1+1,0,none⟩) 2 2],vd,vr] W fun e w2 => e = .returned (.bool true)∧Below W.heap.size W w2:=by
 have q:=am1_dr d am hT.s.env h hB hL hd hr
 rwa [ev_eq] at q
theorem q2 (d d2:Int) (am am2:ByteArray) (hT:NmT W K S1 S4 S9 B S10 S11 dd ss) (h:HeldO none W v c) (hB:c.bulk≤1100000) (hL:befR c 5 100000 fKnown chN=(0,[fO d am,fO d2 am2])) (hd:Fct.p (.dl [d,d2]) none W vd) (hr:Fct.p (.rl [am,am2]) none W vr) :
  Calls Tryz.prog 34 #[v,.agg #[.slice (some ⟨K,0,none⟩) 2 2,.slice (some ⟨S1+1,0,none⟩) 2 2],vd,vr] W fun e w2 => e = .returned (.bool true)∧Below W.heap.size W w2:=by
 have q:=am2_dr d d2 am am2 hT.s.env h hB hL hd hr
 rwa [ev_eq] at q
theorem qb (day fin er:Int) (n:Nat) {L:List Fl} (hT:NmT W K S1 S4 S9 B S10 S11 dd ss) (h:HeldO none W v c) (hB:c.bulk≤1100000) (hL:befR c day fin fKnown chN=(er,L)) (hn:L.length=n) :
  Calls Tryz.prog 14 #[v,.int .i64 day,.int .i64 fin,.agg #[.slice (some ⟨K,0,none⟩) 2 2,.slice (some ⟨S1+1,0,none⟩) 2 2]] W fun e w2 => ∃ ad cap,e = .returned (.tuple #[.slice ad n cap,.int .i64 er])∧Below W.heap.size W w2:=by
 have q:=bef_lit hT.s.env h hB hL hn
 rwa [ev_eq] at q
end
def fs12 (K S1 S4 S11:Nat):List Fct:=[.lit (.agg #[.int .u8 1,.string ⟨#[]⟩,.string ⟨#[]⟩,.string ⟨#[]⟩,.int .u8 0,.string ⟨#[]⟩,.string ⟨#[]⟩,.int .i64 0,.slice none 0 0,.int .i64 0,.slice none 0 0,.slice none 0 0]),.lit (.agg #[.slice (some ⟨K,0,none⟩) 2 2,.slice (some ⟨S1+1,0,none⟩) 2 2]),.lit (.bool true),.lit (.bool true),.lit (.func (.func 31) #[] #[]),.lit (.func (.func 30) #[] #[]),.lit (.agg #[.int .u8 2,.string ⟨#[65,110,110]⟩,.string ⟨#[66,111,98]⟩,.string ⟨#[85,83,68]⟩,.int .u8 1,.string ⟨#[50]⟩,.string ⟨#[]⟩,.int .i64 0,.slice none 0 0,.int .i64 0,.slice none 0 0,.slice none 0 0]),.held (atM 9 cTwo),.lit (.agg #[.int .u8 2,.string ⟨#[65,110,110]⟩,.string ⟨#[66,111,98]⟩,.string ⟨#[85,83,68]⟩,.int .u8 1,.string ⟨#[49]⟩,.string ⟨#[]⟩,.int .i64 0,.slice none 0 0,.int .i64 0,.slice none 0 0,.slice none 0 0]),.held (bothN (atM 9 cTwo) cOne),.lit (.agg #[.slice (some ⟨K,0,none⟩) 2 2,.slice (some ⟨S1+1,0,none⟩) 2 2]),.dl [5,9],.rl [⟨#[49]⟩,⟨#[50]⟩],.lit (.bool true),.lit (.bool true),.lit (.bool true),.lit (.agg #[.int .u8 5,.string ⟨#[]⟩,.string ⟨#[]⟩,.string ⟨#[]⟩,.int .u8 11,.string ⟨#[]⟩,.string ⟨#[]⟩,.int .i64 0,.slice (some ⟨S4,0,none⟩) 2 2,.int .i64 0,.slice none 0 0,.slice (some ⟨S11,0,none⟩) 2 2]),.lit (.agg #[.slice (some ⟨K,0,none⟩) 2 2,.slice (some ⟨S1+1,0,none⟩) 2 2]),.dl [5],.rl [⟨#[50]⟩],.lit (.bool true),.lit (.bool true),.lit (.bool true),.lit (.func (.func 30) #[] #[]),.lit (.agg #[.int .u8 2,.string ⟨#[65,110,110]⟩,.string ⟨#[66,111,98]⟩,.string ⟨#[85,83,68]⟩,.int .u8 1,.string ⟨#[49]⟩,.string ⟨#[]⟩,.int .i64 0,.slice none 0 0,.int .i64 0,.slice none 0 0,.slice none 0 0]),.held (atM 4 cOne),.lit (.agg #[.slice (some ⟨K,0,none⟩) 2 2,.slice (some ⟨S1+1,0,none⟩) 2 2]),.lit (.bool true),.lit (.bool true),.lit (.bool true),.lit (.func (.func 30) #[] #[]),.lit (.agg #[.int .u8 2,.string ⟨#[65,110,110]⟩,.string ⟨#[66,111,98]⟩,.string ⟨#[85,83,68]⟩,.int .u8 1,.string ⟨#[49]⟩,.string ⟨#[]⟩,.int .i64 0,.slice none 0 0,.int .i64 0,.slice none 0 0,.slice none 0 0]),.held (atM 5 cOne),.lit (.agg #[.slice (some ⟨K,0,none⟩) 2 2,.slice (some ⟨S1+1,0,none⟩) 2 2]),.dl [5],.rl [⟨#[49]⟩],.lit (.bool true),.lit (.bool true),.lit (.bool true)]
def fs13 (K S1 S4 S9 S10:Nat) (dd ss:Value):List Fct:=[.lit (.bool true),.lit (.bool true),.lit (.func (.func 32) #[] #[.pointer (some ⟨S9,0,none⟩)]),.days [3,6,7],.held (callN ⟨#[65,110,110]⟩ [3,6,7] cOne),.lit (.agg #[.slice (some ⟨K,0,none⟩) 2 2,.slice (some ⟨S1+1,0,none⟩) 2 2]),.dl [6],.rl [⟨#[49]⟩],.lit (.bool true),.lit (.bool true),.lit (.bool true),.lit (.func (.func 32) #[] #[.pointer (some ⟨S9,0,none⟩)]),.days [5,7],.held (callN ⟨#[65,110,110]⟩ [5,7] cOne),.lit (.agg #[.slice (some ⟨K,0,none⟩) 2 2,.slice (some ⟨S1+1,0,none⟩) 2 2]),.lit (.bool true),.lit (.bool true),.lit (.bool true),.lit (.func (.func 33) #[] #[.pointer (some ⟨S9,0,none⟩),.pointer (some ⟨S9+1,0,none⟩)]),.held (pickN ⟨#[66,111,98]⟩ cOne cTwo),.lit (.agg #[.slice (some ⟨K,0,none⟩) 2 2,.slice (some ⟨S1+1,0,none⟩) 2 2]),.dl [5],.rl [⟨#[49]⟩],.lit (.bool true),.lit (.bool true),.lit (.bool true),.lit (.func (.func 33) #[] #[.pointer (some ⟨S9,0,none⟩),.pointer (some ⟨S9+1,0,none⟩)]),.held (pickN ⟨#[65,110,110]⟩ cOne cTwo),.lit (.agg #[.slice (some ⟨K,0,none⟩) 2 2,.slice (some ⟨S1+1,0,none⟩) 2 2]),.dl [5],.rl [⟨#[50]⟩],.lit (.bool true),.lit (.bool true),.lit (.bool true),.lit (.agg #[.int .u8 9,.string ⟨#[]⟩,.string ⟨#[]⟩,.string ⟨#[]⟩,.int .u8 11,.string ⟨#[]⟩,.string ⟨#[]⟩,.int .i64 0,.slice (some ⟨S4,0,none⟩) 2 2,.int .i64 0,dd,ss]),.lit (.agg #[.slice (some ⟨K,0,none⟩) 2 2,.slice (some ⟨S1+1,0,none⟩) 2 2]),.dl [5],.rl [⟨#[49]⟩],.lit (.bool true),.lit (.bool true),.lit (.bool true),.lit (.agg #[.int .u8 10,.string ⟨#[]⟩,.string ⟨#[]⟩,.string ⟨#[]⟩,.int .u8 11,.string ⟨#[]⟩,.string ⟨#[]⟩,.int .i64 0,.slice (some ⟨S4,0,none⟩) 2 2,.int .i64 0,.slice (some ⟨S10,0,none⟩) 4 4,.slice (some ⟨S10+1,0,none⟩) 1 1]),.lit (.agg #[.slice (some ⟨K,0,none⟩) 2 2,.slice (some ⟨S1+1,0,none⟩) 2 2]),.dl [6],.rl [⟨#[50]⟩],.lit (.bool true),.lit (.bool true),.lit (.bool true),.lit (.agg #[.int .u8 1,.string ⟨#[48]⟩,.string ⟨#[]⟩,.int .i64 0,.slice none 0 0]),.lit (.agg #[.int .u8 2,.string ⟨#[65,110,110]⟩,.string ⟨#[66,111,98]⟩,.string ⟨#[85,83,68]⟩,.int .u8 1,.string ⟨#[48]⟩,.string ⟨#[]⟩,.int .i64 0,.slice none 0 0,.int .i64 0,.slice none 0 0,.slice none 0 0]),.lit (.agg #[.slice (some ⟨K,0,none⟩) 2 2,.slice (some ⟨S1+1,0,none⟩) 2 2]),.lit (.bool true),.lit (.bool true),.lit (.bool true)]
def fs14 (K S1:Nat):List Fct:=[.lit (.func (.func 31) #[] #[]),.lit (.agg #[.int .u8 2,.string ⟨#[65,110,110]⟩,.string ⟨#[66,111,98]⟩,.string ⟨#[85,83,68]⟩,.int .u8 1,.string ⟨#[49]⟩,.string ⟨#[]⟩,.int .i64 0,.slice none 0 0,.int .i64 0,.slice none 0 0,.slice none 0 0]),.lit (.func (.func 30) #[] #[]),.lit (.agg #[.int .u8 3,.string ⟨#[]⟩,.string ⟨#[110,111,110,101]⟩,.int .i64 0,.slice none 0 0]),.lit (.agg #[.int .u8 2,.string ⟨#[65,110,110]⟩,.string ⟨#[66,111,98]⟩,.string ⟨#[85,83,68]⟩,.int .u8 3,.string ⟨#[]⟩,.string ⟨#[110,111,110,101]⟩,.int .i64 0,.slice none 0 0,.int .i64 0,.slice none 0 0,.slice none 0 0]),.held (atM 8 cNone),.held (bothN cOne (atM 8 cNone)),.lit (.agg #[.slice (some ⟨K,0,none⟩) 2 2,.slice (some ⟨S1+1,0,none⟩) 2 2]),.tup 1 0,.tup 1 0,.sl 1,.lit (.int .i64 0),.sl 1,.lit (.int .i64 0)]
def fs15 (K S1:Nat):List Fct:=[.lit (.func (.func 31) #[] #[]),.lit (.agg #[.int .u8 2,.string ⟨#[65,110,110]⟩,.string ⟨#[66,111,98]⟩,.string ⟨#[85,83,68]⟩,.int .u8 1,.string ⟨#[49]⟩,.string ⟨#[]⟩,.int .i64 0,.slice none 0 0,.int .i64 0,.slice none 0 0,.slice none 0 0]),.lit (.func (.func 30) #[] #[]),.lit (.agg #[.int .u8 3,.string ⟨#[]⟩,.string ⟨#[110,111,110,101]⟩,.int .i64 0,.slice none 0 0]),.lit (.agg #[.int .u8 2,.string ⟨#[65,110,110]⟩,.string ⟨#[66,111,98]⟩,.string ⟨#[85,83,68]⟩,.int .u8 3,.string ⟨#[]⟩,.string ⟨#[110,111,110,101]⟩,.int .i64 0,.slice none 0 0,.int .i64 0,.slice none 0 0,.slice none 0 0]),.held (atM 8 cNone),.held (bothN cOne (atM 8 cNone)),.lit (.agg #[.slice (some ⟨K,0,none⟩) 2 2,.slice (some ⟨S1+1,0,none⟩) 2 2]),.tup 0 30,.tup 0 30,.sl 0,.lit (.int .i64 30),.sl 0,.lit (.int .i64 30)]
def fs16 (K S1:Nat):List Fct:=[.lit (.agg #[.int .u8 3,.string ⟨#[]⟩,.string ⟨#[110,111,110,101]⟩,.int .i64 0,.slice none 0 0]),.lit (.agg #[.int .u8 2,.string ⟨#[65,110,110]⟩,.string ⟨#[66,111,98]⟩,.string ⟨#[85,83,68]⟩,.int .u8 3,.string ⟨#[]⟩,.string ⟨#[110,111,110,101]⟩,.int .i64 0,.slice none 0 0,.int .i64 0,.slice none 0 0,.slice none 0 0]),.lit (.agg #[.slice (some ⟨K,0,none⟩) 2 2,.slice (some ⟨S1+1,0,none⟩) 2 2]),.tup 0 0,.tup 0 0,.sl 0,.lit (.int .i64 0),.sl 0,.lit (.int .i64 0)]
end Go.Proofs.YtknpnhodpgajbaaGreatDoor
