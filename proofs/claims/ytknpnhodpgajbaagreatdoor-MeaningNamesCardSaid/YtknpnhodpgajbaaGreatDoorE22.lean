/-
  A region that draws its order, by an invariant: each operation once, whatever stands before it. A region that draws its order, whose values are known: the facts for wp_region_inv, for any number of operations. A world whose blocks of one's own are turned; rows of one's own as lists that can be read. A round that writes into one element of a row of the call's own. Sorted lists without repetitions; the reference's insertion; plain. slices.SortFunc and slices.Compact on a row of the call's own: the plain part. Rows of the call's own whose elements point to copies in new memory; a drawn region by an invariant, with its listed operations closed below.
-/
import Derived.Test.YtknpnhodpgajbaaGreatDoorE04
import Derived.StillTail
import Derived.RegionTactic
import Derived.Test.YtknpnhodpgajbaaGreatDoorE01
import Derived.Maps.AppendAt
import Derived.Test.YtknpnhodpgajbaaGreatDoorE14
import Derived.Test.YtknpnhodpgajbaaGreatDoorE12
import Derived.Laws.IdiomCopy
import Derived.Laws.AppendOwn
namespace Go.Proofs.YtknpnhodpgajbaaGreatDoor
open Go.RowKit
def upd (L:Nat→Bool) (i:Nat):Nat→Bool:=fun j => if j=i then true else L j
def cnt:List Bool→Nat
 | [] => 0
 | b :: l => (if b then 0 else 1)+cnt l
theorem cnt_set:∀ {l:List Bool} {i:Nat},l[i]? = some false→cnt (l.set i true)+1=cnt l
 | [],i,h => by simp at h
 | b :: l,0,h => by
  simp at h;subst h
  simp [cnt];omega
 | b :: l,i+1,h => by
  have:=cnt_set (l:=l) (i:=i) (by simpa using h)
  simp only [List.set_cons_succ,cnt]
  omega
theorem cnt_zero:∀ {l:List Bool},cnt l=0→∀ j,j < l.length→l[j]? = some true
 | [],_,j,hj => by simp at hj
 | b :: l,h,j,hj => by
  simp only [cnt] at h
  cases b with
  | false => simp at h
  | true =>
   cases j with
   | zero => rfl
   | succ j => simpa using cnt_zero (l:=l) (by simpa using h) j (by simpa using hj)
theorem cnt_replicate:∀ n,cnt (List.replicate n false)=n
 | 0 => rfl
 | n+1 => by rw [List.replicate_succ,cnt,cnt_replicate n];simp;omega
section
variable {P:Program} {ops:Array Oper} {md:Region.Mode}
def fwdB (md:Region.Mode) (ops:Array Oper):Bool :=
 (List.range ops.size).all fun j => match ops[j]? with | some o => o.after.all fun e => !Region.binds md e || decide (e.on < j) | none => true
theorem fwd_spec (h:fwdB md ops=true) {j:Nat} {o:Oper} (ho:ops[j]? = some o):∀ e ∈ o.after,Region.binds md e=true→e.on < j:=by
 intro e he hb
 have hj:j < ops.size:=(Array.getElem?_eq_some_iff.1 ho).1
 have h1:=List.all_eq_true.1 h j (List.mem_range.2 hj)
 simp only [ho] at h1
 have h2:=Array.all_eq_true'.1 h1 e he
 simp only [hb,Bool.not_true,Bool.false_or,decide_eq_true_eq] at h2
 exact h2
theorem getD_both' {listed:Array Bool} {j:Nat} (hj:j < listed.size):listed.getD j true=listed.getD j false:=by
 simp [hj]
theorem ready_all (hf:fwdB md ops=true) {listed:Array Bool} (hs:listed.size=ops.size) (hr:Region.ready md ops listed=[]):∀ j,j < ops.size→listed.getD j false=true:=by
 intro j
 induction j using Nat.strongRecOn with
 | _ j ih =>
  intro hj
  cases h:listed.getD j false with
  | true => rfl
  | false =>
   exfalso
   obtain ⟨o,ho⟩:∃ o,ops[j]? = some o:=⟨_,Array.getElem?_eq_getElem hj⟩
   have:j ∈ Region.ready md ops listed:=mem_ready.2 ⟨by rw [getD_both' (by omega)];exact h,o,ho,fun e he hb => ih e.on (fwd_spec hf ho e he hb) (by have:=fwd_spec hf ho e he hb;omega)⟩
   rw [hr] at this
   cases this
theorem upd_listed {listed:Array Bool} {i:Nat} (hi:i < listed.size):(fun j => (listed.setIfInBounds i true).getD j false)=upd (fun j => listed.getD j false) i:=by
 funext j
 unfold upd
 by_cases h:j=i
 ·subst h
  rw [if_pos rfl]
  simp [hi]
 ·rw [if_neg h,getD_set_ne false (fun e => h e.symm)]
theorem wpAny_inv {Q:Exit→Act→World→Prop} {Inv:(Nat→Bool)→Act→World→Prop} (hf:fwdB md ops=true)
  (hst:∀ L a w,Inv L a w→∀ i o,ops[i]? = some o→L i=false→(∀ e ∈ o.after,Region.binds md e=true→L e.on=true)→wpOp P ops Q i (Inv (upd L i)) a w)
  (hend:∀ L a w,Inv L a w→(∀ j,j < ops.size→L j=true)→Q .normal a w) :
  ∀ (f:Nat) (listed:Array Bool) (a:Act) (w:World),listed.size=ops.size→cnt listed.toList≤f→Inv (fun j => listed.getD j false) a w→wpAny P md ops Q f listed a w
 | 0,listed,a,w,hs,hc,h => by
  have hall:∀ j,j < ops.size→listed.getD j false=true:=fun j hj => by
   have:=cnt_zero (Nat.le_zero.1 hc) j (by simpa [hs] using hj)
   have hj':j < listed.size:=by omega
   simp [hj'] at this ⊢
   exact this
  refine ⟨?_,hend _ _ _ h hall⟩
  rw [List.eq_nil_iff_forall_not_mem]
  intro i hi
  obtain ⟨h1,o,ho,_⟩:=mem_ready.1 hi
  have hj:i < ops.size:=(Array.getElem?_eq_some_iff.1 ho).1
  rw [getD_both' (by omega),hall i hj] at h1
  cases h1
 | f+1,listed,a,w,hs,hc,h => by
  refine ⟨fun hr => hend _ _ _ h (ready_all hf hs hr),fun i hi => ?_⟩
  obtain ⟨h1,o,ho,h2⟩:=mem_ready.1 hi
  have hj:i < listed.size:=by have:=(Array.getElem?_eq_some_iff.1 ho).1;omega
  have h3:listed.getD i false=false:=by rw [← getD_both' hj];exact h1
  have h4:listed.toList[i]? = some false:=by simp [hj] at h3 ⊢;exact h3
  refine wpOp_mono (fun a' w' h5 => ?_) (hst _ a w h i o ho h3 h2)
  refine wpAny_inv hf hst hend f (listed.setIfInBounds i true) a' w' (by simpa using hs) ?_ ?_
  ·have:=cnt_set h4
   rw [Array.toList_setIfInBounds]
   omega
  ·rw [upd_listed hj];exact h5
def predB (md:Region.Mode) (ops:Array Oper) (i j:Nat):Bool :=
 match ops[i]? with | some o => o.after.any fun e => Region.binds md e && e.on == j | none => false
theorem pred_spec {i j:Nat} {o:Oper} {L:Nat→Bool} (ho:ops[i]? = some o) (hp:∀ e ∈ o.after,Region.binds md e=true→L e.on=true) (h:predB md ops i j=true):L j=true:=by
 unfold predB at h
 simp only [ho] at h
 obtain ⟨e,he,h1⟩:=Array.any_eq_true'.1 h
 simp only [Bool.and_eq_true,beq_iff_eq] at h1
 rw [← h1.2]
 exact hp e he h1.1
theorem wp_region_inv {id:Nat} {Q:Exit→Act→World→Prop} {a:Act} {w:World} (Inv:(Nat→Bool)→Act→World→Prop) (hm:P.follows .mixedOrders=true) (hf:fwdB .any ops=true)
  (h0:Inv (fun _ => false) a w.drew)
  (hst:∀ L a w,Inv L a w→∀ i o,ops[i]? = some o→L i=false→(∀ e ∈ o.after,Region.binds .any e=true→L e.on=true)→wpOp P ops Q i (Inv (upd L i)) a w)
  (hend:∀ L a w,Inv L a w→(∀ j,j < ops.size→L j=true)→Q .normal a w):(Code.region id ops true).wp P Q a w:=by
 refine wp_region_any hm (wpAny_inv hf hst hend ops.size _ _ _ (by simp) ?_ ?_)
 ·simp [cnt_replicate]
 ·have e:(fun j => (Array.replicate ops.size false).getD j false)=fun _ => false:=by
   funext j
   by_cases hj:j < ops.size <;> simp [hj]
  rw [e];exact h0
end
end Go.Proofs.YtknpnhodpgajbaaGreatDoor

namespace Go.Proofs.YtknpnhodpgajbaaGreatDoor
open Go.RowKit
structure VInv (W0:World) (vals cur:List Value) (L:Nat→Bool) (w:World):Prop where
 b:Below W0.heap.size W0 w
 len:cur.length=vals.length
 f:∀ (i:Nat) (v:Value),L i=true→vals[i]? = some v→cur[i]? = some v
section
variable {W0 w w':World} {vals cur:List Value} {L:Nat→Bool}
theorem VInv.start (h:Below W0.heap.size W0 w) (hl:cur.length=vals.length):VInv W0 vals cur (fun _ => false) w:=⟨h,hl,fun _ _ h => by cases h⟩
theorem VInv.ext (h:VInv W0 vals cur L w) (hb:Below w.heap.size w w'):VInv W0 vals cur L w':=⟨h.b.trans (hb.mono h.b.size),h.len,h.f⟩
theorem VInv.step (h:VInv W0 vals cur L w) {i:Nat} {v:Value} (hv:vals[i]? = some v):VInv W0 vals (cur.set i v) (upd L i) w:=by
 have hi:i < cur.length:=by rw [h.len];exact (List.getElem?_eq_some_iff.1 hv).1
 refine ⟨h.b,by rw [List.length_set];exact h.len,fun j u hj hu => ?_⟩
 by_cases e:j=i
 ·subst e
  rw [List.getElem?_set_self hi,← hv,hu]
 ·rw [List.getElem?_set_ne (fun e' => e e'.symm)]
  exact h.f j u (by rw [← hj];unfold upd;rw [if_neg e]) hu
theorem VInv.at (h:VInv W0 vals cur L w) {i:Nat} {u v:Value} (hL:L i=true) (hv:vals[i]? = some v) (hu:cur[i]? = some u):u=v:=Option.some.inj (hu.symm.trans (h.f i v hL hv))
end
end Go.Proofs.YtknpnhodpgajbaaGreatDoor

namespace Go.Proofs.YtknpnhodpgajbaaGreatDoor
open Go.RowKit
structure Turned (lo hi:Nat) (w w':World):Prop where
 os:w'.os=w.os
 tape:w'.tape=w.tape
 output:w'.output=w.output
 size:w'.heap.size=w.heap.size
 block:∀ k,k < lo∨hi≤k→w'.heap[k]? = w.heap[k]?
theorem Turned.refl (lo hi:Nat) (w:World):Turned lo hi w w:=⟨rfl,rfl,rfl,rfl,fun _ _ => rfl⟩
theorem Turned.below {lo hi:Nat} {w w':World} (h:Turned lo hi w w'):Below lo w w':=⟨h.os,h.tape,h.output,Nat.le_of_eq h.size.symm,fun k hk => h.block k (.inl hk)⟩
theorem Turned.setCell {lo hi:Nat} {w w':World} (h:Turned lo hi w w') {a:Addr} (h1:lo≤a.block) (h2:a.block < hi) (u:Value):Turned lo hi w (w'.setCell a u) :=
 ⟨h.os,h.tape,h.output,by rw [← h.size];simp [World.setCell],fun k hk => (Below.heap_setCell _ _ _ _ (by omega)).trans (h.block k hk)⟩
theorem owns_some {w:World} {base n c m:Nat} {e:TypeId} {a:Option Addr} {xs:List Value} (h:w.ownsRow base e m (.slice a n c) n xs) (hn:0 < n):∃ g,a=some ⟨g,0,none⟩:=by
 rcases h.2 with ⟨h',h0⟩ | ⟨g,cap,cur,h',_⟩
 ·omega
 ·exact ⟨g,(Value.slice.inj h').1⟩
end Go.Proofs.YtknpnhodpgajbaaGreatDoor

namespace Go.Proofs.YtknpnhodpgajbaaGreatDoor
open Go.RowKit
structure RSt (wr W:World) (T:TypeId) (m g B0 n cap:Nat) (os:List Value):Prop where
 gr:wr.grownBy W (some g)
 own:W.ownsRow B0 T m (.slice (some ⟨g,0,none⟩) n cap) n os
section
variable {wr W W':World} {T:TypeId} {m g B0 n cap:Nat} {os:List Value}
theorem RSt.start (h:wr.ownsRow B0 T m (.slice (some ⟨g,0,none⟩) n cap) n os):RSt wr wr T m g B0 n cap os:=⟨World.grownBy.refl _ _,h⟩
theorem RSt.lt (h:RSt wr W T m g B0 n cap os):B0≤g∧g < W.heap.size:=h.own.lt g rfl
theorem RSt.ext (h:RSt wr W T m g B0 n cap os) (hb:Below W.heap.size W W'):RSt wr W' T m g B0 n cap os :=
 ⟨h.gr.trans ⟨hb.os,hb.tape,hb.output,hb.size,fun k hk _ => hb.block k hk⟩,ownsRow_below' h.own hb⟩
theorem RSt.alloc (h:RSt wr W T m g B0 n cap os) (o:Obj):RSt wr (W.alloc o) T m g B0 n cap os:=h.ext (below_a1 _ _)
theorem RSt.set (h:RSt wr W T m g B0 n cap os) (j:Nat) (u:Value):RSt wr (W.setCell ⟨g,j,none⟩ u) T m g B0 n cap (os.set j u) :=
 ⟨h.gr.trans (h.own.stored j u).2,(h.own.stored j u).1⟩
theorem RSt.but (h:RSt wr W T m g B0 n cap os) {K:Nat} (hK:wr.heap.size≤K) (hg:g < wr.heap.size) (hb:Below K W W') (hs:W.heap.size≤W'.heap.size) (ho:∀ b,b ≠ K→W'.heap[b]? = W.heap[b]?):RSt wr W' T m g B0 n cap os:=by
 refine ⟨⟨hb.os.trans h.gr.os,hb.tape.trans h.gr.tape,hb.output.trans h.gr.output,Nat.le_trans h.gr.size hs,fun k hk hne => (ho k (by omega)).trans (h.gr.block k hk hne)⟩,ownsRow_kept h.own fun k hk _ => ho k ?_⟩
 have:g=k:=by simpa [Value.ownBlock] using hk
 omega
theorem RSt.below {W0:World} {B:Nat} (h:RSt wr W T m g B0 n cap os) (h0:Below B W0 wr) (hB:B≤wr.heap.size) (hg:B≤g):Below B W0 W :=
 h0.grown h.gr hB (fun k hk => by obtain rfl:=Option.some.inj hk;exact hg)
theorem RSt.at (h:RSt wr W T m g B0 n cap os) {j:Nat} {u:Value} (hj:os[j]? = some u):W.cell? ⟨g,j,none⟩=some u:=by
 have hl:os.length=n * m:=h.own.1
 rw [h.own.cellAt j (by rw [← hl];exact (List.getElem?_eq_some_iff.1 hj).1)]
 exact hj
end
theorem drop_get {α:Type} {l:List α} {k:Nat} {x:α} (h:l[k]? = some x):l.drop k=x :: l.drop (k+1):=by
 obtain ⟨h1,h2⟩:=List.getElem?_eq_some_iff.1 h
 rw [List.drop_eq_getElem_cons h1,h2]
theorem get_flat {α:Type} {enc:α→List Value} {m:Nat} (hm:∀ x,(enc x).length=m) (A B:List α) (x:α) (k j:Nat) (u:Value) (hA:A.length=k) (hs:(enc x)[j]? = some u) :
  ((A ++ (x :: B)).flatMap enc)[k * m+j]? = some u:=by
 have hl:(A.flatMap enc).length=k * m:=by rw [flat_length enc m hm,hA]
 rw [List.flatMap_append,List.flatMap_cons,List.getElem?_append_right (by omega),hl,show k * m+j - k * m=j by omega,List.getElem?_append_left (List.getElem?_eq_some_iff.1 hs).1,hs]
end Go.Proofs.YtknpnhodpgajbaaGreatDoor

namespace Go.Proofs.YtknpnhodpgajbaaGreatDoor
open Go.RowKit
structure STO {α:Type} (lt:α→α→Bool):Prop where
 irrefl:∀ x,lt x x=false
 trans:∀ x y z,lt x y=true→lt y z=true→lt x z=true
 conn:∀ x y,lt x y=false→lt y x=false→x=y
def Srt {α:Type} (lt:α→α→Bool) (l:List α):Prop:=l.Pairwise fun a b => lt a b=true
theorem Srt.nil {α:Type} (lt:α→α→Bool):Srt lt []:=List.Pairwise.nil
section
variable {α:Type} {lt:α→α→Bool} (h:STO lt)
include h
theorem STO.ne {x y:α} (hxy:lt x y=true):x ≠ y:=by
 rintro rfl;rw [h.irrefl] at hxy;cases hxy
end
end Go.Proofs.YtknpnhodpgajbaaGreatDoor

namespace Go.Proofs.YtknpnhodpgajbaaGreatDoor
open Go.RowKit
section
variable {α:Type}
theorem flat_at {enc:α→List Value} {m:Nat} (hm:∀ x,(enc x).length=m) {C:List α} {k:Nat} {y:α} (hy:C[k]? = some y) (j:Nat) (u:Value) (hu:(enc y)[j]? = some u):(C.flatMap enc)[k * m+j]? = some u:=by
 have hk:=(List.getElem?_eq_some_iff.1 hy).1
 have e:C=C.take k ++ (y :: C.drop (k+1)):=by rw [← drop_get hy,List.take_append_drop]
 rw [e]
 exact get_flat (enc:=enc) (m:=m) hm (C.take k) (C.drop (k+1)) y k j u (by rw [List.length_take];omega) hu
end
section
variable {α:Type} [DecidableEq α]
omit [DecidableEq α] in
end
section
variable {α:Type} [DecidableEq α]
end
theorem RSt.drewN {wr W:World} {T:TypeId} {m g B0 n cap:Nat} {os:List Value} (h:RSt wr W T m g B0 n cap os) (q:Nat):RSt wr (W.drewN q) T m g B0 n cap os:=h.ext (below_drewN (Below.refl _ _) q)
theorem RSt.drew {wr W:World} {T:TypeId} {m g B0 n cap:Nat} {os:List Value} (h:RSt wr W T m g B0 n cap os):RSt wr W.drew T m g B0 n cap os:=h.ext (Below.refl _ _).drew
end Go.Proofs.YtknpnhodpgajbaaGreatDoor

namespace Go.Proofs.YtknpnhodpgajbaaGreatDoor
open Go.RowKit
def Keep (o:Option Nat) (base:Nat) (w:World) (R:World→Prop):Prop :=
 ∀ w':World,w.heap.size≤w'.heap.size→(∀ b,base≤b→b < w.heap.size→some b ≠ o→w'.heap[b]? = w.heap[b]?)→R w'
section
variable {o o':Option Nat} {base B:Nat} {w w':World} {R:World→Prop}
theorem Keep.rd (h:Keep o base w R):R w:=h w (Nat.le_refl _) fun _ _ _ _ => rfl
theorem Keep.below (h:Keep o base w R) (hb:Below w.heap.size w w'):Keep o base w' R:=fun w2 h1 h2 =>
 h w2 (Nat.le_trans hb.size h1) fun b hb1 hb2 hb3 => (h2 b hb1 (Nat.lt_of_lt_of_le hb2 hb.size) hb3).trans (hb.block b hb2)
theorem Keep.grown (h:Keep o base w R) (hg:w.grownBy w' o) (ho:o'=o∨∃ g,o'=some g∧w.heap.size≤g):Keep o' base w' R:=fun w2 h1 h2 =>
 h w2 (Nat.le_trans hg.size h1) fun b hb1 hb2 hb3 => by
  have hne:some b ≠ o':=by
   rcases ho with rfl | ⟨g,rfl,hg2⟩
   ·exact hb3
   ·intro e;have:=Option.some.inj e;omega
  exact (h2 b hb1 (Nat.lt_of_lt_of_le hb2 hg.size) hne).trans (hg.block b hb2 hb3)
theorem Keep.of_new (h:Keep none B w R) (hB:base≤B) (ho:∀ b,o=some b→b < B):Keep o base w R:=fun w2 h1 h2 =>
 h w2 h1 fun b hb1 hb2 _ => h2 b (Nat.le_trans hB hb1) hb2 fun e => by have:=ho b e.symm;omega
theorem Keep.set (h:Keep o base w R) {a:Addr} (ha:a.block < base) (u:Value):Keep o base (w.setCell a u) R:=fun w2 h1 h2 =>
 h w2 (by simpa [World.setCell] using h1) fun b hb1 hb2 hb3 => (h2 b hb1 (by simpa [World.setCell] using hb2) hb3).trans (Below.heap_setCell _ _ _ _ (by omega))
end
def PRow {α:Type} (enc:α→List Value) (e:TypeId) (m:Nat) (Rd:α→World→Prop) (R0:World→Prop) (w:World) (D:Nat) (LL:List α) (a2:Option Addr) (c2:Nat) (wr:World):Prop :=
 wr.ownsRow D e m (.slice a2 LL.length c2) LL.length (LL.flatMap enc)∧(∀ p ∈ LL,Keep (Value.slice a2 LL.length c2).ownBlock D wr (Rd p))∧Below w.heap.size w wr∧D≤wr.heap.size∧Keep (Value.slice a2 LL.length c2).ownBlock D wr R0
section
variable {α:Type} {enc:α→List Value} {e:TypeId} {m:Nat} {Rd:α→World→Prop} {R0:World→Prop} {w:World} {D:Nat} {LL:List α} {a2:Option Addr} {c2:Nat} {wr w1 w2:World}
theorem PRow.append (h:PRow enc e m Rd R0 w D LL a2 c2 wr) (hw:w.heap.size≤D) (hb:Below wr.heap.size wr w1) {y:α} (hk:Keep none wr.heap.size w1 (Rd y)) {v':Value}
  (hown:w2.ownsRow D e m v' (LL.length+1) (LL.flatMap enc ++ enc y)) (hg:w1.grownBy w2 (Value.slice a2 LL.length c2).ownBlock) (hl:v'.ownBlock=(Value.slice a2 LL.length c2).ownBlock∨∃ g,v'.ownBlock=some g∧w1.heap.size≤g) :
  ∃ a3 c3,v' = .slice a3 (LL ++ [y]).length c3∧PRow enc e m Rd R0 w D (LL ++ [y]) a3 c3 w2:=by
 obtain ⟨h1,h2,h3,h4,h5⟩:=h
 obtain ⟨a3,c3,rfl⟩:∃ a3 c3,v' = .slice a3 (LL.length+1) c3:=by rcases hown.2 with ⟨rfl,h0⟩ | ⟨g,cap,_,rfl,_⟩;omega;exact ⟨_,_,rfl⟩
 have hz:(LL ++ [y]).length=LL.length+1:=by simp
 refine ⟨a3,c3,by rw [hz],?_,?_,?_,Nat.le_trans h4 (Nat.le_trans hb.size hg.size),by rw [hz];exact (h5.below hb).grown hg hl⟩
 ·rw [hz,List.flatMap_append]
  simpa using hown
 ·rw [hz]
  intro p hp
  rcases List.mem_append.1 hp with hp | hp
  ·exact ((h2 p hp).below hb).grown hg hl
  ·obtain rfl:p=y:=by simpa using hp
   exact (hk.of_new h4 fun b hb2 => (h1.lt b hb2).2).grown hg hl
 ·exact (h3.trans (hb.mono h3.size)).grown hg (Nat.le_trans h3.size hb.size) fun k hk2 => Nat.le_trans hw (h1.lt k hk2).1
theorem PRow.set (h:PRow enc e m Rd R0 w D LL a2 c2 wr) {a:Addr} (ha:a.block < D) (ha2:w.heap.size≤a.block) (u:Value):PRow enc e m Rd R0 w D LL a2 c2 (wr.setCell a u):=by
 obtain ⟨h1,h2,h3,h4,h5⟩:=h
 exact ⟨ownsRow_kept h1 fun k hk hk2 => Below.heap_setCell _ _ _ _ (by have:=(h1.lt k hk).1;omega),fun p hp => (h2 p hp).set ha u,h3.setCell ha2 u,by simpa [World.setCell] using h4,h5.set ha u⟩
theorem PRow.cell (h:PRow enc e m Rd R0 w D LL a2 c2 wr) (hm:∀ x,(enc x).length=m) {k:Nat} {y:α} (hy:LL[k]? = some y) {j:Nat} {u:Value} (hu:(enc y)[j]? = some u) (hag:∀ b,D≤b→b < wr.heap.size→w2.heap[b]? = wr.heap[b]?) :
  ∃ g,a2=some ⟨g,0,none⟩∧w2.cell? ⟨g,0+k * m+j,none⟩=some u:=by
 obtain ⟨h1,_⟩:=h
 have hk:=(List.getElem?_eq_some_iff.1 hy).1
 obtain ⟨g,rfl⟩:=owns_some h1 (by omega)
 refine ⟨g,rfl,?_⟩
 have h5:=h1.lt g rfl
 have h6:=h1.cells (g:=g) rfl (k * m+j) u (flat_at hm hy j u hu)
 rw [Addr.add_lit] at h6
 rw [World.cell?_of_block (w:=wr) (hag g h5.1 h5.2),Nat.add_assoc]
 exact h6
end
theorem PRow.kept {α:Type} {enc:α→List Value} {e:TypeId} {m:Nat} {Rd:α→World→Prop} {R0:World→Prop} {w:World} {D:Nat} {LL:List α} {a2:Option Addr} {c2:Nat} {wr w1 w2:World} (h:PRow enc e m Rd R0 w D LL a2 c2 wr) (hb:Below wr.heap.size wr w1) (hg:w1.grownBy w2 (Value.slice a2 LL.length c2).ownBlock)
  {B:Nat} {t:TypeId} {cs:List Value} (hB:BoxN wr B t cs) (hBD:B < D):BoxN w2 B t cs :=
 BoxN.of_block hB ((hg.block B (Nat.lt_of_lt_of_le hB.lt hb.size) fun e => by have:=(h.1.lt B e.symm).1;omega).trans (hb.block B hB.lt))
theorem cell_below {wr w:World} (hb:Below wr.heap.size wr w) {p:Addr} {u:Value} (h:wr.cell? p=some u):w.cell? p=some u:=by
 rw [hb.cell (p:=p) (World.block_lt_of_cell? wr _ h)];exact h
def Closed (ops:Array Oper) (L:Nat→Bool):Prop:=∀ j o,ops[j]? = some o→L j=true→∀ e ∈ o.after,Region.binds .any e=true→L e.on=true
section
variable {P:Program} {ops:Array Oper}
theorem upd_true {L:Nat→Bool} {i j:Nat} (h:L j=true):upd L i j=true:=by
 unfold upd
 split
 ·rfl
 ·exact h
theorem cl_spec {L:Nat→Bool} (hc:Closed ops L) {i j:Nat} (hi:L i=true) (h:predB .any ops i j=true):L j=true:=by
 cases ho:ops[i]? with
 | none => simp [predB,ho] at h
 | some o => exact pred_spec ho (hc i o ho hi) h
theorem cl_no {L:Nat→Bool} (hc:Closed ops L) {j:Nat} (hj:L j=false) (i:Nat) (h:predB .any ops i j=true):L i=false:=by
 cases hi:L i with
 | false => rfl
 | true => rw [cl_spec hc hi h] at hj;cases hj
theorem wp_region_invc {id:Nat} {Q:Exit→Act→World→Prop} {a:Act} {w:World} (Inv:(Nat→Bool)→Act→World→Prop) (hm:P.follows .mixedOrders=true) (hf:fwdB .any ops=true)
  (h0:Inv (fun _ => false) a w.drew)
  (hst:∀ L a w,Inv L a w→Closed ops L→∀ i o,ops[i]? = some o→L i=false→(∀ e ∈ o.after,Region.binds .any e=true→L e.on=true)→wpOp P ops Q i (Inv (upd L i)) a w)
  (hend:∀ L a w,Inv L a w→(∀ j,j < ops.size→L j=true)→Q .normal a w):(Code.region id ops true).wp P Q a w:=by
 refine wp_region_inv (fun L a w => Inv L a w∧Closed ops L) hm hf ⟨h0,fun _ _ _ h => by cases h⟩ ?_ fun L a w h => hend L a w h.1
 intro L a w ⟨h1,h2⟩ i o ho hL hp
 refine wpOp_mono (fun a' w' h3 => ⟨h3,?_⟩) (hst L a w h1 h2 i o ho hL hp)
 intro j o2 hj hL2 e he hb
 by_cases hji:j=i
 ·subst hji
  rw [ho] at hj
  cases hj
  exact upd_true (hp e he hb)
 ·refine upd_true (h2 j o2 hj ?_ e he hb)
  unfold upd at hL2
  rwa [if_neg hji] at hL2
end
structure TwI {σ:Type} (Q0:World→Prop) (Q1:World→σ→Prop) (Q2:World→σ→Nat→Prop) (Q3 Q4:World→σ→Value→Prop) (L:Nat→Bool) (s:σ) (g:Nat) (r:Value) (w:World):Prop where
 a:L 7=false→Q0 w
 b:L 7=true→L 8=false→Q1 w s
 c:L 8=true→L 9=false→Q2 w s g
 d:L 9=true→L 11=false→Q3 w s r
 e:L 11=true→Q4 w s r
section
variable {σ:Type} {Q0:World→Prop} {Q1:World→σ→Prop} {Q2:World→σ→Nat→Prop} {Q3 Q4:World→σ→Value→Prop} {L:Nat→Bool} {s:σ} {r:Value} {g:Nat} {w:World}
theorem TwI.keep (h:TwI Q0 Q1 Q2 Q3 Q4 L s g r w) {i:Nat} (hi:i ≠ 7∧i ≠ 8∧i ≠ 9∧i ≠ 11):TwI Q0 Q1 Q2 Q3 Q4 (upd L i) s g r w:=by
 have e:∀ j,j ≠ i→upd L i j=L j:=fun j hj => if_neg hj
 refine ⟨?_,?_,?_,?_,?_⟩
 ·rw [e 7 (Ne.symm hi.1)];exact h.a
 ·rw [e 7 (Ne.symm hi.1),e 8 (Ne.symm hi.2.1)];exact h.b
 ·rw [e 8 (Ne.symm hi.2.1),e 9 (Ne.symm hi.2.2.1)];exact h.c
 ·rw [e 9 (Ne.symm hi.2.2.1),e 11 (Ne.symm hi.2.2.2)];exact h.d
 ·rw [e 11 (Ne.symm hi.2.2.2)];exact h.e
theorem TwI.u7 (h8:L 8=false) (h9:L 9=false) (h11:L 11=false) (h:Q1 w s):TwI Q0 Q1 Q2 Q3 Q4 (upd L 7) s g r w :=
 ⟨fun k => (by simp [upd] at k),fun _ _ => h,fun k => (by simp [upd,h8] at k),fun k => (by simp [upd,h9] at k),fun k => (by simp [upd,h11] at k)⟩
theorem TwI.u8 (h7:L 7=true) (h9:L 9=false) (h11:L 11=false) (h:Q2 w s g):TwI Q0 Q1 Q2 Q3 Q4 (upd L 8) s g r w :=
 ⟨fun k => (by simp [upd,h7] at k),fun _ k => (by simp [upd] at k),fun _ _ => h,fun k => (by simp [upd,h9] at k),fun k => (by simp [upd,h11] at k)⟩
theorem TwI.u9 (h7:L 7=true) (h8:L 8=true) (h11:L 11=false) (h:Q3 w s r):TwI Q0 Q1 Q2 Q3 Q4 (upd L 9) s g r w :=
 ⟨fun k => (by simp [upd,h7] at k),fun _ k => (by simp [upd,h8] at k),fun _ k => (by simp [upd] at k),fun _ _ => h,fun k => (by simp [upd,h11] at k)⟩
theorem TwI.u11 (h7:L 7=true) (h8:L 8=true) (h9:L 9=true) (h:Q4 w s r):TwI Q0 Q1 Q2 Q3 Q4 (upd L 11) s g r w :=
 ⟨fun k => (by simp [upd,h7] at k),fun _ k => (by simp [upd,h8] at k),fun _ k => (by simp [upd,h9] at k),fun _ k => (by simp [upd] at k),fun _ => h⟩
theorem TwI.bel {wr:World} (h:TwI Q0 Q1 Q2 Q3 Q4 L s g r w) (h0:∀ w,Q0 w→Below wr.heap.size wr w) (h1:∀ w s,Q1 w s→Below wr.heap.size wr w) (h2:∀ w s g,Q2 w s g→Below wr.heap.size wr w) (h9:L 9=false):Below wr.heap.size wr w:=by
 cases h7:L 7 with
 | false => exact h0 _ (h.a h7)
 | true =>
  cases h8:L 8 with
  | false => exact h1 _ _ (h.b h7 h8)
  | true => exact h2 _ _ _ (h.c h8 h9)
end
theorem VInv.skip {W0 w:World} {vals cur:List Value} {L:Nat→Bool} (h:VInv W0 vals cur L w) {i:Nat} (hi:vals.length≤i):VInv W0 vals cur (upd L i) w:=by
 refine ⟨h.b,h.len,fun j v hj hv => h.f j v ?_ hv⟩
 unfold upd at hj
 split at hj
 ·next e => subst e;rw [List.getElem?_eq_none hi] at hv;cases hv
 ·exact hj
theorem VInv.late {W0 w:World} {vals cur:List Value} {L:Nat→Bool} (h:VInv W0 vals cur L w) {i:Nat} (hL:L i=false) (u:Value):VInv W0 (vals.set i u) cur L w:=by
 refine ⟨h.b,by rw [List.length_set];exact h.len,fun j v hj hv => ?_⟩
 by_cases e:i=j
 ·subst e;rw [hL] at hj;cases hj
 ·rw [List.getElem?_set_ne e] at hv
  exact h.f j v hj hv
end Go.Proofs.YtknpnhodpgajbaaGreatDoor
