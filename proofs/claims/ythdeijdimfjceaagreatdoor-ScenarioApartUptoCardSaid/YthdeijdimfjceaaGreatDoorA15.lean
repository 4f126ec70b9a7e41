/- A part. -/
import Derived.Laws.AppendOwn
import Derived.Test.YthdeijdimfjceaaGreatDoorA14
namespace Go.Proofs.YthdeijdimfjceaaGreatDoor
open Go.RowKit
def Keep (o:Option Nat) (base:Nat) (w:World) (R:World→Prop):Prop :=
 ∀ w':World,w.heap.size≤w'.heap.size→(∀ b,base≤b→b < w.heap.size→some b ≠ o→w'.heap[b]? = w.heap[b]?)→R w'
section
variable {o o':Option Nat} {base B:Nat} {w w':World} {R:World→Prop}
theorem Keep.rd (h:Keep o base w R):R w:=h w (Nat.le_refl _) fun _ _ _ _ => rfl
theorem Keep.below (h:Keep o base w R) (hb:Below w.heap.size w w'):Keep o base w' R:=fun w2 h1 h2 =>
 h w2 (Nat.le_trans hb.size h1) fun b hb1 hb2 hb3 => (h2 b hb1 (Nat.lt_of_lt_of_le hb2 hb.size) hb3).trans (hb.block b hb2)
theorem Keep.grown (h:Keep o base w R) (hg:w.grownBy w' o) (ho:o'=o∨∃ g,o'=some g∧w.heap.size≤g):Keep o' base w' R:=fun w2 h1 h2 =>
 h w2 (Nat.le_trans hg.size h1) fun b hb1 hb2 hb3 => by
  have hne:some b ≠ o':=by
   rcases ho with rfl | ⟨g,rfl,hg2⟩
   ·exact hb3
   ·intro e;have:=Option.some.inj e;omega
  exact (h2 b hb1 (Nat.lt_of_lt_of_le hb2 hg.size) hne).trans (hg.block b hb2 hb3)
theorem Keep.of_new (h:Keep none B w R) (hB:base≤B) (ho:∀ b,o=some b→b < B):Keep o base w R:=fun w2 h1 h2 =>
 h w2 h1 fun b hb1 hb2 _ => h2 b (Nat.le_trans hB hb1) hb2 fun e => by have:=ho b e.symm;omega
theorem Keep.set (h:Keep o base w R) {a:Addr} (ha:a.block < base) (u:Value):Keep o base (w.setCell a u) R:=fun w2 h1 h2 =>
 h w2 (by simpa [World.setCell] using h1) fun b hb1 hb2 hb3 => (h2 b hb1 (by simpa [World.setCell] using hb2) hb3).trans (Below.heap_setCell _ _ _ _ (by omega))
theorem Keep.imp {R':World→Prop} (h:Keep o base w R) (hR:∀ w',R w'→R' w'):Keep o base w R':=fun w2 h1 h2 => hR _ (h w2 h1 h2)
end
def PRow {α:Type} (enc:α→List Value) (e:TypeId) (m:Nat) (Rd:α→World→Prop) (R0:World→Prop) (w:World) (D:Nat) (LL:List α) (a2:Option Addr) (c2:Nat) (wr:World):Prop :=
 wr.ownsRow D e m (.slice a2 LL.length c2) LL.length (LL.flatMap enc)∧(∀ p ∈ LL,Keep (Value.slice a2 LL.length c2).ownBlock D wr (Rd p))∧Below w.heap.size w wr∧D≤wr.heap.size∧Keep (Value.slice a2 LL.length c2).ownBlock D wr R0
section
variable {α:Type} {enc:α→List Value} {e:TypeId} {m:Nat} {Rd:α→World→Prop} {R0:World→Prop} {w:World} {D:Nat} {LL:List α} {a2:Option Addr} {c2:Nat} {wr w1 w2:World}
theorem PRow.append (h:PRow enc e m Rd R0 w D LL a2 c2 wr) (hw:w.heap.size≤D) (hb:Below wr.heap.size wr w1) {y:α} (hk:Keep none wr.heap.size w1 (Rd y)) {v':Value}
  (hown:w2.ownsRow D e m v' (LL.length+1) (LL.flatMap enc ++ enc y)) (hg:w1.grownBy w2 (Value.slice a2 LL.length c2).ownBlock) (hl:v'.ownBlock=(Value.slice a2 LL.length c2).ownBlock∨∃ g,v'.ownBlock=some g∧w1.heap.size≤g) :
  ∃ a3 c3,v' = .slice a3 (LL ++ [y]).length c3∧PRow enc e m Rd R0 w D (LL ++ [y]) a3 c3 w2:=by
 obtain ⟨h1,h2,h3,h4,h5⟩:=h
 obtain ⟨a3,c3,rfl⟩:∃ a3 c3,v' = .slice a3 (LL.length+1) c3:=by rcases hown.2 with ⟨rfl,h0⟩ | ⟨g,cap,_,rfl,_⟩;omega;exact ⟨_,_,rfl⟩
 have hz:(LL ++ [y]).length=LL.length+1:=by simp
 refine ⟨a3,c3,by rw [hz],?_,?_,?_,Nat.le_trans h4 (Nat.le_trans hb.size hg.size),by rw [hz];exact (h5.below hb).grown hg hl⟩
 ·rw [hz,List.flatMap_append]
  simpa using hown
 ·rw [hz]
  intro p hp
  rcases List.mem_append.1 hp with hp | hp
  ·exact ((h2 p hp).below hb).grown hg hl
  ·obtain rfl:p=y:=by simpa using hp
   exact (hk.of_new h4 fun b hb2 => (h1.lt b hb2).2).grown hg hl
 ·exact (h3.trans (hb.mono h3.size)).grown hg (Nat.le_trans h3.size hb.size) fun k hk2 => Nat.le_trans hw (h1.lt k hk2).1
theorem PRow.set (h:PRow enc e m Rd R0 w D LL a2 c2 wr) {a:Addr} (ha:a.block < D) (ha2:w.heap.size≤a.block) (u:Value):PRow enc e m Rd R0 w D LL a2 c2 (wr.setCell a u):=by
 obtain ⟨h1,h2,h3,h4,h5⟩:=h
 exact ⟨ownsRow_kept h1 fun k hk hk2 => Below.heap_setCell _ _ _ _ (by have:=(h1.lt k hk).1;omega),fun p hp => (h2 p hp).set ha u,h3.setCell ha2 u,by simpa [World.setCell] using h4,h5.set ha u⟩
theorem PRow.box (h:PRow enc e m Rd R0 w D LL a2 c2 wr) {B:Nat} {t:TypeId} {cs:List Value} (hB:BoxN wr B t cs) (hBD:B < D) (hg:wr.grownBy w2 (Value.slice a2 LL.length c2).ownBlock):BoxN w2 B t cs :=
 hB.of_block (hg.block _ hB.lt fun e => by have:=(h.1.lt B e.symm).1;omega)
theorem PRow.cell (h:PRow enc e m Rd R0 w D LL a2 c2 wr) (hm:∀ x,(enc x).length=m) {k:Nat} {y:α} (hy:LL[k]? = some y) {j:Nat} {u:Value} (hu:(enc y)[j]? = some u) (hag:∀ b,D≤b→b < wr.heap.size→w2.heap[b]? = wr.heap[b]?) :
  ∃ g,a2=some ⟨g,0,none⟩∧w2.cell? ⟨g,0+k * m+j,none⟩=some u:=by
 obtain ⟨h1,_⟩:=h
 have hk:=(List.getElem?_eq_some_iff.1 hy).1
 obtain ⟨g,rfl⟩:=owns_some h1 (by omega)
 refine ⟨g,rfl,?_⟩
 have h5:=h1.lt g rfl
 have h6:=h1.cells (g:=g) rfl (k * m+j) u (flat_at hm hy j u hu)
 rw [Addr.add_lit] at h6
 rw [World.cell?_of_block (w:=wr) (hag g h5.1 h5.2),Nat.add_assoc]
 exact h6
end
theorem PRow.kept {α:Type} {enc:α→List Value} {e:TypeId} {m:Nat} {Rd:α→World→Prop} {R0:World→Prop} {w:World} {D:Nat} {LL:List α} {a2:Option Addr} {c2:Nat} {wr w1 w2:World} (h:PRow enc e m Rd R0 w D LL a2 c2 wr) (hb:Below wr.heap.size wr w1) (hg:w1.grownBy w2 (Value.slice a2 LL.length c2).ownBlock)
  {B:Nat} {t:TypeId} {cs:List Value} (hB:BoxN wr B t cs) (hBD:B < D):BoxN w2 B t cs :=
 BoxN.of_block hB ((hg.block B (Nat.lt_of_lt_of_le hB.lt hb.size) fun e => by have:=(h.1.lt B e.symm).1;omega).trans (hb.block B hB.lt))
theorem cell_below {wr w:World} (hb:Below wr.heap.size wr w) {p:Addr} {u:Value} (h:wr.cell? p=some u):w.cell? p=some u:=by
 rw [hb.cell (p:=p) (World.block_lt_of_cell? wr _ h)];exact h
def Closed (ops:Array Oper) (L:Nat→Bool):Prop:=∀ j o,ops[j]? = some o→L j=true→∀ e ∈ o.after,Region.binds .any e=true→L e.on=true
section
variable {P:Program} {ops:Array Oper}
theorem upd_true {L:Nat→Bool} {i j:Nat} (h:L j=true):upd L i j=true:=by
 unfold upd
 split
 ·rfl
 ·exact h
theorem cl_spec {L:Nat→Bool} (hc:Closed ops L) {i j:Nat} (hi:L i=true) (h:predB .any ops i j=true):L j=true:=by
 cases ho:ops[i]? with
 | none => simp [predB,ho] at h
 | some o => exact pred_spec ho (hc i o ho hi) h
theorem cl_no {L:Nat→Bool} (hc:Closed ops L) {j:Nat} (hj:L j=false) (i:Nat) (h:predB .any ops i j=true):L i=false:=by
 cases hi:L i with
 | false => rfl
 | true => rw [cl_spec hc hi h] at hj;cases hj
theorem wp_region_invc {id:Nat} {Q:Exit→Act→World→Prop} {a:Act} {w:World} (Inv:(Nat→Bool)→Act→World→Prop) (hm:P.follows .mixedOrders=true) (hf:fwdB .any ops=true)
  (h0:Inv (fun _ => false) a w.drew)
  (hst:∀ L a w,Inv L a w→Closed ops L→∀ i o,ops[i]? = some o→L i=false→(∀ e ∈ o.after,Region.binds .any e=true→L e.on=true)→wpOp P ops Q i (Inv (upd L i)) a w)
  (hend:∀ L a w,Inv L a w→(∀ j,j < ops.size→L j=true)→Q .normal a w):(Code.region id ops true).wp P Q a w:=by
 refine wp_region_inv (fun L a w => Inv L a w∧Closed ops L) hm hf ⟨h0,fun _ _ _ h => by cases h⟩ ?_ fun L a w h => hend L a w h.1
 intro L a w ⟨h1,h2⟩ i o ho hL hp
 refine wpOp_mono (fun a' w' h3 => ⟨h3,?_⟩) (hst L a w h1 h2 i o ho hL hp)
 intro j o2 hj hL2 e he hb
 by_cases hji:j=i
 ·subst hji
  rw [ho] at hj
  cases hj
  exact upd_true (hp e he hb)
 ·refine upd_true (h2 j o2 hj ?_ e he hb)
  unfold upd at hL2
  rwa [if_neg hji] at hL2
end
structure TwI {σ:Type} (Q0:World→Prop) (Q1:World→σ→Prop) (Q2:World→σ→Nat→Prop) (Q3 Q4:World→σ→Value→Prop) (L:Nat→Bool) (s:σ) (g:Nat) (r:Value) (w:World):Prop where
 a:L 7=false→Q0 w
 b:L 7=true→L 8=false→Q1 w s
 c:L 8=true→L 9=false→Q2 w s g
 d:L 9=true→L 11=false→Q3 w s r
 e:L 11=true→Q4 w s r
section
variable {σ:Type} {Q0:World→Prop} {Q1:World→σ→Prop} {Q2:World→σ→Nat→Prop} {Q3 Q4:World→σ→Value→Prop} {L:Nat→Bool} {s:σ} {r:Value} {g:Nat} {w:World}
theorem TwI.keep (h:TwI Q0 Q1 Q2 Q3 Q4 L s g r w) {i:Nat} (hi:i ≠ 7∧i ≠ 8∧i ≠ 9∧i ≠ 11):TwI Q0 Q1 Q2 Q3 Q4 (upd L i) s g r w:=by
 have e:∀ j,j ≠ i→upd L i j=L j:=fun j hj => if_neg hj
 refine ⟨?_,?_,?_,?_,?_⟩
 ·rw [e 7 (Ne.symm hi.1)];exact h.a
 ·rw [e 7 (Ne.symm hi.1),e 8 (Ne.symm hi.2.1)];exact h.b
 ·rw [e 8 (Ne.symm hi.2.1),e 9 (Ne.symm hi.2.2.1)];exact h.c
 ·rw [e 9 (Ne.symm hi.2.2.1),e 11 (Ne.symm hi.2.2.2)];exact h.d
 ·rw [e 11 (Ne.symm hi.2.2.2)];exact h.e
theorem TwI.u8 (h7:L 7=true) (h9:L 9=false) (h11:L 11=false) (h:Q2 w s g):TwI Q0 Q1 Q2 Q3 Q4 (upd L 8) s g r w :=
 ⟨fun k => (by simp [upd,h7] at k),fun _ k => (by simp [upd] at k),fun _ _ => h,fun k => (by simp [upd,h9] at k),fun k => (by simp [upd,h11] at k)⟩
theorem TwI.u9 (h7:L 7=true) (h8:L 8=true) (h11:L 11=false) (h:Q3 w s r):TwI Q0 Q1 Q2 Q3 Q4 (upd L 9) s g r w :=
 ⟨fun k => (by simp [upd,h7] at k),fun _ k => (by simp [upd,h8] at k),fun _ k => (by simp [upd] at k),fun _ _ => h,fun k => (by simp [upd,h11] at k)⟩
theorem TwI.u11 (h7:L 7=true) (h8:L 8=true) (h9:L 9=true) (h:Q4 w s r):TwI Q0 Q1 Q2 Q3 Q4 (upd L 11) s g r w :=
 ⟨fun k => (by simp [upd,h7] at k),fun _ k => (by simp [upd,h8] at k),fun _ k => (by simp [upd,h9] at k),fun _ k => (by simp [upd] at k),fun _ => h⟩
theorem TwI.bel {wr:World} (h:TwI Q0 Q1 Q2 Q3 Q4 L s g r w) (h0:∀ w,Q0 w→Below wr.heap.size wr w) (h1:∀ w s,Q1 w s→Below wr.heap.size wr w) (h2:∀ w s g,Q2 w s g→Below wr.heap.size wr w) (h9:L 9=false):Below wr.heap.size wr w:=by
 cases h7:L 7 with
 | false => exact h0 _ (h.a h7)
 | true =>
  cases h8:L 8 with
  | false => exact h1 _ _ (h.b h7 h8)
  | true => exact h2 _ _ _ (h.c h8 h9)
end
theorem VInv.skip {W0 w:World} {vals cur:List Value} {L:Nat→Bool} (h:VInv W0 vals cur L w) {i:Nat} (hi:vals.length≤i):VInv W0 vals cur (upd L i) w:=by
 refine ⟨h.b,h.len,fun j v hj hv => h.f j v ?_ hv⟩
 unfold upd at hj
 split at hj
 ·next e => subst e;rw [List.getElem?_eq_none hi] at hv;cases hv
 ·exact hj
theorem VInv.late {W0 w:World} {vals cur:List Value} {L:Nat→Bool} (h:VInv W0 vals cur L w) {i:Nat} (hL:L i=false) (u:Value):VInv W0 (vals.set i u) cur L w:=by
 refine ⟨h.b,by rw [List.length_set];exact h.len,fun j v hj hv => ?_⟩
 by_cases e:i=j
 ·subst e;rw [hL] at hj;cases hj
 ·rw [List.getElem?_set_ne e] at hv
  exact h.f j v hj hv
end Go.Proofs.YthdeijdimfjceaaGreatDoor

namespace Go.Proofs.YthdeijdimfjceaaGreatDoor
open Go.RowKit
theorem fl_world (w:World) (c:Con) (es dd ss:Value) (day fin:Int) (E:EvD):∃ W,(((w.alloc (.cells #[.int .u8 c.k,.string c.fr,.string c.rc,.string c.nm,.int .u8 c.ex.k,.string c.ex.ra,.string c.ex.nm,.int .i64 c.ex.d,es,.int .i64 c.d,dd,ss] 51)).alloc (.cells #[.int .i64 day] 3)).alloc (.cells #[.int .i64 fin] 3)).alloc (.cells #[.slice E.af E.F.length E.cf,.slice E.ac E.C.length E.cc] 32)=W ∧
  Below w.heap.size w W∧w.heap.size+4≤W.heap.size∧FlB W w.heap.size c es dd ss day fin E:=by
 refine ⟨_,rfl,(below_a3 _ _ _ _).trans ((below_a1 _ _).mono (by simp;omega)),by simp,?_⟩
 have hc:=((BoxN.new w (c.cells es dd ss) 51).alloc (.cells #[.int .i64 day] 3)).alloc (.cells #[.int .i64 fin] 3)
 have hd:=(BoxN.new (w.alloc (.cells (c.cells es dd ss).toArray 51)) [.int .i64 day] 3).alloc (.cells #[.int .i64 fin] 3)
 have hf:=BoxN.new ((w.alloc (.cells (c.cells es dd ss).toArray 51)).alloc (.cells #[.int .i64 day] 3)) [.int .i64 fin] 3
 have hv:=BoxN.new (((w.alloc (.cells (c.cells es dd ss).toArray 51)).alloc (.cells #[.int .i64 day] 3)).alloc (.cells #[.int .i64 fin] 3)) [.slice E.af E.F.length E.cf,.slice E.ac E.C.length E.cc] 32
 simp only [World.size_alloc] at hd hf hv
 exact ⟨hc.alloc _,hd.alloc _,hf.alloc _,hv⟩
theorem con_cases (c:Con) (h:c.formed=true) :
  (c.k=1∧c.sub=[])∨(c.k=2∧c.sub=[]∧c.ex.isA 1=true)∨(c.k=3∧∃ x y,c.sub=[x,y])∨(c.k=4∧c.ex.isA 1=true∧∃ x,c.sub=[x])∨(c.k=5∧c.ex.isA 2=true∧∃ x y,c.sub=[x,y])∨(c.k=6∧isDay c.d=true∧∃ x,c.sub=[x])∨(c.k=7∧∃ x y,c.sub=[x,y]) ∨
   (c.k=8∧isDays c.ds=true∧∃ x,c.sub=[x])∨((c.k=9∨c.k=10)∧isDays c.ds=true∧c.ex.isA 2=true∧∃ x,c.sub=[x]):=by
 have two:c.sub.length=2→∃ x y,c.sub=[x,y]:=fun h => by
  match c.sub,h with
  | [x,y],_ => exact ⟨x,y,rfl⟩
 have one:c.sub.length=1→∃ x,c.sub=[x]:=fun h => by
  match c.sub,h with
  | [x],_ => exact ⟨x,rfl⟩
 rw [Con.formed_eq,Bool.and_eq_true] at h
 have hn:=h.1
 unfold nodeOk at hn
 by_cases k1:c.k=1
 ·rw [if_pos k1] at hn;simp only [Bool.and_eq_true,decide_eq_true_eq] at hn;exact .inl ⟨k1,List.length_eq_zero_iff.1 hn.1⟩
 rw [if_neg k1] at hn
 clear k1
 by_cases k1:c.k=2
 ·rw [if_pos k1] at hn;simp only [Bool.and_eq_true,decide_eq_true_eq] at hn;exact .inr (.inl ⟨k1,List.length_eq_zero_iff.1 hn.1,hn.2.2.2.2.2.1⟩)
 rw [if_neg k1] at hn
 clear k1
 by_cases k1:c.k=3
 ·rw [if_pos k1] at hn;simp only [Bool.and_eq_true,decide_eq_true_eq] at hn;exact .inr (.inr (.inl ⟨k1,two hn.1⟩))
 rw [if_neg k1] at hn
 clear k1
 by_cases k1:c.k=4
 ·rw [if_pos k1] at hn;simp only [Bool.and_eq_true,decide_eq_true_eq] at hn;exact .inr (.inr (.inr (.inl ⟨k1,hn.2.2.2.2.2.2,one hn.1⟩)))
 rw [if_neg k1] at hn
 clear k1
 by_cases k1:c.k=5
 ·rw [if_pos k1] at hn;simp only [Bool.and_eq_true,decide_eq_true_eq] at hn;exact .inr (.inr (.inr (.inr (.inl ⟨k1,hn.2.2.2.2.2.2,two hn.1⟩))))
 rw [if_neg k1] at hn
 clear k1
 by_cases k1:c.k=6
 ·rw [if_pos k1] at hn;simp only [Bool.and_eq_true,decide_eq_true_eq] at hn;exact .inr (.inr (.inr (.inr (.inr (.inl ⟨k1,hn.2.2.2.2.1,one hn.1⟩)))))
 rw [if_neg k1] at hn
 clear k1
 by_cases k1:c.k=7
 ·rw [if_pos k1] at hn;simp only [Bool.and_eq_true,decide_eq_true_eq] at hn;exact .inr (.inr (.inr (.inr (.inr (.inr (.inl ⟨k1,two hn.1⟩))))))
 rw [if_neg k1] at hn
 clear k1
 by_cases k1:c.k=8
 ·rw [if_pos k1] at hn;simp only [Bool.and_eq_true,decide_eq_true_eq] at hn;exact .inr (.inr (.inr (.inr (.inr (.inr (.inr (.inl ⟨k1,hn.2.2.2.2.2.1,one hn.1⟩)))))))
 rw [if_neg k1] at hn
 clear k1
 by_cases k1:c.k=9∨c.k=10
 ·rw [if_pos k1] at hn;simp only [Bool.and_eq_true,decide_eq_true_eq] at hn;exact .inr (.inr (.inr (.inr (.inr (.inr (.inr (.inr ⟨k1,hn.2.2.2.2.2.1,hn.2.2.2.2.2.2,one hn.1⟩)))))))
 rw [if_neg k1] at hn
 clear k1
 cases hn
theorem days_all {l:List Int} (h:isDays l=true):∀ d ∈ l,isDay d=true:=by
 unfold isDays at h
 simp only [Bool.and_eq_true] at h
 exact List.all_eq_true.1 h.2.2.1
theorem first_bd (is:Int→Int × Bool) (day fin:Int) (hle:day≤fin):∀ l:List Int,(firstR is day fin l).1=0→day≤(firstR is day fin l).2∧(firstR is day fin l).2≤fin
 | [],_ => ⟨hle,Int.le_refl _⟩
 | d :: l,h => by
  rw [firstR_cons] at h ⊢
  by_cases h1:fin≤d
  ·rw [if_pos h1];exact ⟨hle,Int.le_refl _⟩
  ·rw [if_neg h1] at h ⊢
   by_cases h2:day≤d
   ·rw [if_pos h2] at h ⊢
    obtain ⟨_,e⟩:=andR_ok h
    rw [e] at h ⊢
    by_cases h3:(is d).2=true
    ·rw [if_pos h3];exact ⟨h2,by show d≤fin;omega⟩
    ·rw [if_neg h3] at h ⊢;exact first_bd is day fin hle l h
   ·rw [if_neg h2] at h ⊢;exact first_bd is day fin hle l h
theorem first_pure (f:Int→Bool) (day fin:Int):∀ l:List Int,(firstR (fun e => (0,f e)) day fin l).1=0
 | [] => rfl
 | d :: l => by
  rw [firstR_cons]
  split
  ·rfl
  ·split
   ·rw [andR,if_neg (fun h => h rfl)]
    split
    ·rfl
    ·exact first_pure f day fin l
   ·exact first_pure f day fin l
theorem FlP.nil {w w':World} (hb:Below w.heap.size w w'):FlP w (0,[]) (.returned (.slice none 0 0)) w':=⟨hb,.inl ⟨rfl,_,rfl,own_nil _ _⟩⟩
set_option maxHeartbeats 4000000 in
set_option maxRecDepth 100000 in
theorem flows_nil (c:Con) (a1 a2 a3:Option Addr) (n1 n2 n3:Nat) (day fin:Int) (E:EvD) (w:World) (h:FlH c (.slice a1 c.ex.sub.length n1) (.slice a2 c.ds.length n2) (.slice a3 c.sub.length n3) E w) (hn:fin≤day) :
  Calls Tryz.prog 107 #[.agg #[.int .u8 c.k,.string c.fr,.string c.rc,.string c.nm,.int .u8 c.ex.k,.string c.ex.ra,.string c.ex.nm,.int .i64 c.ex.d,.slice a1 c.ex.sub.length n1,.int .i64 c.d,.slice a2 c.ds.length n2,.slice a3 c.sub.length n3],.int .i64 day,.int .i64 fin,.agg #[.slice E.af E.F.length E.cf,.slice E.ac E.C.length E.cc]] w (FlP w ((0,([]:List Fl)))):=by
 obtain ⟨W0,hW0,hb0,hz0,hB0⟩:=fl_world w c (.slice a1 c.ex.sub.length n1) (.slice a2 c.ds.length n2) (.slice a3 c.sub.length n3) day fin E
 have hmf:∀ (fn:Fn) (first cap:Array Value) (w:World),(Instr.makeFunc fn first cap).run Tryz.prog w = .ok (.func fn first cap) w:=fun _ _ _ _ => rfl
 have ck:=hB0.c.cell (j:=0) (u:=.int .u8 c.k) rfl
 have d0:=hB0.d.cell (j:=0) (u:=.int .i64 day) rfl
 have f0:=hB0.f.cell (j:=0) (u:=.int .i64 fin) rfl
 have HB0:=Lib.hid hB0
 have hH0:=h.frame hb0
 have Hb0:=Lib.hid hb0
 have HF:=Lib.hid (FlP.nil hb0)
 clear h hH0 hb0 hB0 HB0 Hb0
 go_enter Tryz.func107,Tryz.ntmps107
 go_upto_region 1 with (fail)
 clear hW0
 go_wp2
 go_ret
 exact HF.out
set_option maxHeartbeats 4000000 in
set_option maxRecDepth 100000 in
theorem flows_zero (c:Con) (hk:c.k=1) (a1 a2 a3:Option Addr) (n1 n2 n3:Nat) (day fin:Int) (E:EvD) (w:World) (h:FlH c (.slice a1 c.ex.sub.length n1) (.slice a2 c.ds.length n2) (.slice a3 c.sub.length n3) E w) (hn : ¬ fin≤day) :
  Calls Tryz.prog 107 #[.agg #[.int .u8 c.k,.string c.fr,.string c.rc,.string c.nm,.int .u8 c.ex.k,.string c.ex.ra,.string c.ex.nm,.int .i64 c.ex.d,.slice a1 c.ex.sub.length n1,.int .i64 c.d,.slice a2 c.ds.length n2,.slice a3 c.sub.length n3],.int .i64 day,.int .i64 fin,.agg #[.slice E.af E.F.length E.cf,.slice E.ac E.C.length E.cc]] w (FlP w ((0,([]:List Fl)))):=by
 obtain ⟨W0,hW0,hb0,hz0,hB0⟩:=fl_world w c (.slice a1 c.ex.sub.length n1) (.slice a2 c.ds.length n2) (.slice a3 c.sub.length n3) day fin E
 have hmf:∀ (fn:Fn) (first cap:Array Value) (w:World),(Instr.makeFunc fn first cap).run Tryz.prog w = .ok (.func fn first cap) w:=fun _ _ _ _ => rfl
 have ck:=hB0.c.cell (j:=0) (u:=.int .u8 c.k) rfl
 rw [hk] at ck
 simp only [Int.cast_ofNat_Int] at ck
 have d0:=hB0.d.cell (j:=0) (u:=.int .i64 day) rfl
 have f0:=hB0.f.cell (j:=0) (u:=.int .i64 fin) rfl
 have HB0:=Lib.hid hB0
 have hH0:=h.frame hb0
 have Hb0:=Lib.hid hb0
 have HF:=Lib.hid (FlP.nil hb0)
 have hn2:decide (fin≤day)=false:=decide_eq_false hn
 clear h hH0 hb0 hB0 HB0 Hb0 hn hk
 go_enter Tryz.func107,Tryz.ntmps107
 go_upto_region 1 with (fail)
 clear hW0
 go_wp2
 go_ret
 exact HF.out
set_option maxHeartbeats 4000000 in
set_option maxRecDepth 100000 in
theorem flows_both (c:Con) (hk:c.k=3) (a1 a2 a3:Option Addr) (n1 n2 n3:Nat) (day fin:Int) (E:EvD) (w:World) (h:FlH c (.slice a1 c.ex.sub.length n1) (.slice a2 c.ds.length n2) (.slice a3 c.sub.length n3) E w) (hd0:0≤day) (hf1:fin≤100000) (hn : ¬ fin≤day) (x y:Con) (hl:c.sub=[x,y]) (HX:PF E x) (HY:PF E y) (hlen:(x.flows E.F E.C day fin).2.length+(y.flows E.F E.C day fin).2.length≤10000000) :
  Calls Tryz.prog 107 #[.agg #[.int .u8 c.k,.string c.fr,.string c.rc,.string c.nm,.int .u8 c.ex.k,.string c.ex.ra,.string c.ex.nm,.int .i64 c.ex.d,.slice a1 c.ex.sub.length n1,.int .i64 c.d,.slice a2 c.ds.length n2,.slice a3 c.sub.length n3],.int .i64 day,.int .i64 fin,.agg #[.slice E.af E.F.length E.cf,.slice E.ac E.C.length E.cc]] w (FlP w (andR (x.flows E.F E.C day fin) [] fun a => andR (y.flows E.F E.C day fin) [] fun b => (0,a ++ b))):=by
 obtain ⟨W0,hW0,hb0,hz0,hB0⟩:=fl_world w c (.slice a1 c.ex.sub.length n1) (.slice a2 c.ds.length n2) (.slice a3 c.sub.length n3) day fin E
 have hmf:∀ (fn:Fn) (first cap:Array Value) (w:World),(Instr.makeFunc fn first cap).run Tryz.prog w = .ok (.func fn first cap) w:=fun _ _ _ _ => rfl
 have ck:=hB0.c.cell (j:=0) (u:=.int .u8 c.k) rfl
 rw [hk] at ck
 simp only [Int.cast_ofNat_Int] at ck
 have d0:=hB0.d.cell (j:=0) (u:=.int .i64 day) rfl
 have f0:=hB0.f.cell (j:=0) (u:=.int .i64 fin) rfl
 have HB0:=Lib.hid hB0
 have hH0:=h.frame hb0
 have Hb0:=Lib.hid hb0
 have hn2:decide (fin≤day)=false:=decide_eq_false hn
 have H1:=Lib.hid fun W (hb:Below W0.heap.size W0 W) => partCl_first c x [y] _ _ _ day fin E w.heap.size W (HB0.out.below hb) (hH0.frame hb) hl hd0 hf1 HX
 have H2:=Lib.hid fun W (hb:Below W0.heap.size W0 W) => partCl_second c x y [] _ _ _ day fin E w.heap.size W (HB0.out.below hb) (hH0.frame hb) hl hd0 hf1 HY
 have hz1:w.heap.size≤W0.heap.size:=hb0.size
 clear h hH0 hb0 hB0 HB0 hn hk hl HX HY hd0 hf1
 generalize hR1:x.flows E.F E.C day fin=R1 at *
 generalize hR2:y.flows E.F E.C day fin=R2 at *
 clear hR1 hR2
 go_enter Tryz.func107,Tryz.ntmps107
 go_upto_region 1 with (fail)
 clear hW0
 go_wp2_with fail
 refine (H1.out W0 (Below.refl _ _)).mono ?_
 rintro e w1 ⟨hb1,⟨h0,v,rfl,⟨ad1,cp1,rfl⟩,ho1⟩ | ⟨h0,rfl⟩⟩
 ·have HR:Hid ((andR R1 [] fun a => andR R2 [] fun b => (0,a ++ b))=andR R2 [] fun b => (0,R1.2 ++ b)):=by show _=_;rw [andR,if_neg (fun k => k h0)]
  have C2:=Lib.hid (H2.out w1 hb1)
  have hz2:W0.heap.size≤w1.heap.size:=hb1.size
  have Hb1:=Lib.hid (Hb0.out.trans (hb1.mono hz1))
  have Ho1:=Lib.hid ho1
  clear H1 H2 hb1 ho1 h0 Hb0
  go_wp2_with fail
  refine C2.out.mono ?_
  rintro e w2 ⟨hb2,⟨h0,v,rfl,⟨ad2,cp2,rfl⟩,ho2⟩ | ⟨h0,rfl⟩⟩
  ·have HR2:Hid ((andR R1 [] fun a => andR R2 [] fun b => (0,a ++ b))=(0,R1.2 ++ R2.2)):=by show _=_;rw [HR.out,andR,if_neg (fun k => k h0)]
   have hz3:w1.heap.size≤w2.heap.size:=hb2.size
   have Hb2:=Lib.hid (Hb1.out.trans (hb2.mono (Nat.le_trans hz1 hz2)))
   have o1:=ownsRow_base' (ownsRow_below' Ho1.out hb2) hz1
   have Ho1':=Lib.hid o1
   have Ho2:=Lib.hid ho2
   clear HR C2 Hb1 Ho1 hb2 ho2 h0 o1
   obtain ⟨L,hL⟩:∃ L,L=R1.2 ++ R2.2:=⟨_,rfl⟩
   rw [← hL] at HR2
   go_wp2_with (at_builtin;refine wpList_append_flows rfl _ _ rfl w.heap.size w1.heap.size _ _ R1.2 R2.2 rfl Ho1'.out rfl Ho2.out hlen (by omega) ?_)
   intro v3 w3 ho3 hb3
   have ho3:w3.ownsRow w.heap.size 134 5 v3 L.length (L.flatMap Fl.cells):=by rw [hL,List.length_append,List.flatMap_append];exact ho3
   obtain ⟨ad3,cp3,rfl⟩:=own_shape5 ho3
   have HF:Hid (FlP w (andR R1 [] fun a => andR R2 [] fun b => (0,a ++ b)) (.returned (.slice ad3 L.length cp3)) w3):=by
    show FlP _ _ _ _
    rw [HR2.out]
    exact ⟨Hb2.out.trans hb3,.inl ⟨rfl,_,rfl,⟨_,_,rfl⟩,ho3⟩⟩
   clear HR2 ho3 hb3 Ho1' Ho2 Hb2 hL
   go_wp2
   go_ret
   exact HF.out
  ·have HR2:Hid ((andR R1 [] fun a => andR R2 [] fun b => (0,a ++ b)).1=R2.1):=by show _=_;rw [HR.out,andR,if_pos h0]
   exact ⟨rfl,Hb1.out.trans (hb2.mono (Nat.le_trans hz1 hz2)),.inr ⟨by rw [HR2.out];exact h0,by rw [HR2.out]⟩⟩
 ·have HR:Hid ((andR R1 [] fun a => andR R2 [] fun b => (0,a ++ b)).1=R1.1):=by show _=_;rw [andR,if_pos h0]
  exact ⟨rfl,Hb0.out.trans (hb1.mono hz1),.inr ⟨by rw [HR.out];exact h0,by rw [HR.out]⟩⟩
set_option maxHeartbeats 4000000 in
set_option maxRecDepth 100000 in
theorem flows_if (c:Con) (hk:c.k=5) (a1 a2 a3:Option Addr) (n1 n2 n3:Nat) (day fin:Int) (E:EvD) (w:World) (h:FlH c (.slice a1 c.ex.sub.length n1) (.slice a2 c.ds.length n2) (.slice a3 c.sub.length n3) E w) (hd0:0≤day) (hf1:fin≤100000) (hn : ¬ fin≤day) (hA:c.ex.isA 2=true) (x y:Con) (hl:c.sub=[x,y]) (HX:PF E x) (HY:PF E y) :
  Calls Tryz.prog 107 #[.agg #[.int .u8 c.k,.string c.fr,.string c.rc,.string c.nm,.int .u8 c.ex.k,.string c.ex.ra,.string c.ex.nm,.int .i64 c.ex.d,.slice a1 c.ex.sub.length n1,.int .i64 c.d,.slice a2 c.ds.length n2,.slice a3 c.sub.length n3],.int .i64 day,.int .i64 fin,.agg #[.slice E.af E.F.length E.cf,.slice E.ac E.C.length E.cc]] w (FlP w (andR (c.ex.hold E.F day) [] fun b => if b=true then x.flows E.F E.C day fin else y.flows E.F E.C day fin)):=by
 obtain ⟨W0,hW0,hb0,hz0,hB0⟩:=fl_world w c (.slice a1 c.ex.sub.length n1) (.slice a2 c.ds.length n2) (.slice a3 c.sub.length n3) day fin E
 have hmf:∀ (fn:Fn) (first cap:Array Value) (w:World),(Instr.makeFunc fn first cap).run Tryz.prog w = .ok (.func fn first cap) w:=fun _ _ _ _ => rfl
 have ck:=hB0.c.cell (j:=0) (u:=.int .u8 c.k) rfl
 rw [hk] at ck
 simp only [Int.cast_ofNat_Int] at ck
 have d0:=hB0.d.cell (j:=0) (u:=.int .i64 day) rfl
 have f0:=hB0.f.cell (j:=0) (u:=.int .i64 fin) rfl
 have HB0:=Lib.hid hB0
 have hH0:=h.frame hb0
 have Hb0:=Lib.hid hb0
 have hn2:decide (fin≤day)=false:=decide_eq_false hn
 have H1:=Lib.hid fun W (hb:Below W0.heap.size W0 W) => partCl_first c x [y] _ _ _ day fin E w.heap.size W (HB0.out.below hb) (hH0.frame hb) hl hd0 hf1 HX
 have H2:=Lib.hid fun W (hb:Below W0.heap.size W0 W) => partCl_second c x y [] _ _ _ day fin E w.heap.size W (HB0.out.below hb) (hH0.frame hb) hl hd0 hf1 HY
 have hz1:w.heap.size≤W0.heap.size:=hb0.size
 have hday:isDay day=true:=by simp [isDay];omega
 have HH:=Lib.hid fun W (d:Int) (hd:isDay d=true) (hb:Below W0.heap.size W0 W) => holdsCl_any d c _ _ _ day fin E w.heap.size W (HB0.out.below hb) (hH0.frame hb) hA hd
 have C0:=Lib.hid (HH.out W0 day hday (Below.refl _ _))
 clear HH h hH0 hb0 hB0 HB0 hn hk hl HX HY hd0 hf1 hA hday
 generalize hRR:c.ex.hold E.F day=RR at *
 generalize hR1:x.flows E.F E.C day fin=R1 at *
 generalize hR2:y.flows E.F E.C day fin=R2 at *
 clear hR1 hR2 hRR
 by_cases hr0:RR.1=0
 ·rw [hr0,endR_ok] at C0
  have HR0:Hid ((andR RR [] fun b => if b=true then R1 else R2)=if RR.2=true then R1 else R2):=by show _=_;rw [andR,if_neg (fun k => k hr0)]
  clear hr0
  cases hb:RR.2 with
  | true =>
   rw [hb] at C0 HR0
   have HR:Hid ((andR RR [] fun b => if b=true then R1 else R2)=R1):=HR0.out
   clear hb HR0
   go_enter Tryz.func107,Tryz.ntmps107
   go_upto_region 1 with (fail)
   clear hW0
   go_wp2_with fail
   refine C0.out.mono ?_
   rintro e w1 ⟨rfl,hb1⟩
   have C2:=Lib.hid (H1.out w1 hb1)
   have Hb1:=Lib.hid (Hb0.out.trans (hb1.mono hz1))
   clear H1 H2 hb1 Hb0 C0
   go_wp2_with fail
   refine C2.out.mono ?_
   rintro e w2 ⟨hb2,⟨h0,v,rfl,⟨ad2,cp2,rfl⟩,ho2⟩ | ⟨h0,rfl⟩⟩
   ·have HF:Hid (FlP w (andR RR [] fun b => if b=true then R1 else R2) (.returned (.slice ad2 R1.2.length cp2)) w2):=by
     show FlP _ _ _ _
     rw [HR.out]
     exact FlP.at ⟨hb2,.inl ⟨h0,_,rfl,⟨_,_,rfl⟩,ho2⟩⟩ Hb1.out
    clear hb2 ho2 h0 C2 Hb1
    go_wp2
    go_ret
    exact HF.out
   ·refine ⟨rfl,?_⟩
    rw [HR.out]
    exact FlP.at ⟨hb2,.inr ⟨h0,rfl⟩⟩ Hb1.out
  | false =>
   rw [hb] at C0 HR0
   have HR:Hid ((andR RR [] fun b => if b=true then R1 else R2)=R2):=HR0.out
   clear hb HR0
   go_enter Tryz.func107,Tryz.ntmps107
   go_upto_region 1 with (fail)
   clear hW0
   go_wp2_with fail
   refine C0.out.mono ?_
   rintro e w1 ⟨rfl,hb1⟩
   have C2:=Lib.hid (H2.out w1 hb1)
   have Hb1:=Lib.hid (Hb0.out.trans (hb1.mono hz1))
   clear H1 H2 hb1 Hb0 C0
   go_wp2_with fail
   refine C2.out.mono ?_
   rintro e w2 ⟨hb2,⟨h0,v,rfl,⟨ad2,cp2,rfl⟩,ho2⟩ | ⟨h0,rfl⟩⟩
   ·have HF:Hid (FlP w (andR RR [] fun b => if b=true then R1 else R2) (.returned (.slice ad2 R2.2.length cp2)) w2):=by
     show FlP _ _ _ _
     rw [HR.out]
     exact FlP.at ⟨hb2,.inl ⟨h0,_,rfl,⟨_,_,rfl⟩,ho2⟩⟩ Hb1.out
    clear hb2 ho2 h0 C2 Hb1
    go_wp2
    go_ret
    exact HF.out
   ·refine ⟨rfl,?_⟩
    rw [HR.out]
    exact FlP.at ⟨hb2,.inr ⟨h0,rfl⟩⟩ Hb1.out
 ·rw [endR_no hr0] at C0
  have HR:Hid ((andR RR [] fun b => if b=true then R1 else R2).1=RR.1):=by show _=_;rw [andR,if_pos hr0]
  go_enter Tryz.func107,Tryz.ntmps107
  go_upto_region 1 with (fail)
  clear hW0
  go_wp2_with fail
  refine C0.out.mono ?_
  rintro e w1 ⟨rfl,hb1⟩
  exact ⟨rfl,Hb0.out.trans (hb1.mono hz1),.inr ⟨by rw [HR.out];exact hr0,by rw [HR.out]⟩⟩
set_option maxHeartbeats 4000000 in
set_option maxRecDepth 100000 in
theorem flows_pick (c:Con) (hk:c.k=7) (a1 a2 a3:Option Addr) (n1 n2 n3:Nat) (day fin:Int) (E:EvD) (w:World) (h:FlH c (.slice a1 c.ex.sub.length n1) (.slice a2 c.ds.length n2) (.slice a3 c.sub.length n3) E w) (hd0:0≤day) (hf1:fin≤100000) (hn : ¬ fin≤day) (x y:Con) (hl:c.sub=[x,y]) (HX:PF E x) (HY:PF E y) :
  Calls Tryz.prog 107 #[.agg #[.int .u8 c.k,.string c.fr,.string c.rc,.string c.nm,.int .u8 c.ex.k,.string c.ex.ra,.string c.ex.nm,.int .i64 c.ex.d,.slice a1 c.ex.sub.length n1,.int .i64 c.d,.slice a2 c.ds.length n2,.slice a3 c.sub.length n3],.int .i64 day,.int .i64 fin,.agg #[.slice E.af E.F.length E.cf,.slice E.ac E.C.length E.cc]] w (FlP w (if chosenB E.C c.fr c.nm day=true then x.flows E.F E.C day fin else y.flows E.F E.C day fin)):=by
 obtain ⟨W0,hW0,hb0,hz0,hB0⟩:=fl_world w c (.slice a1 c.ex.sub.length n1) (.slice a2 c.ds.length n2) (.slice a3 c.sub.length n3) day fin E
 have hmf:∀ (fn:Fn) (first cap:Array Value) (w:World),(Instr.makeFunc fn first cap).run Tryz.prog w = .ok (.func fn first cap) w:=fun _ _ _ _ => rfl
 have ck:=hB0.c.cell (j:=0) (u:=.int .u8 c.k) rfl
 rw [hk] at ck
 simp only [Int.cast_ofNat_Int] at ck
 have d0:=hB0.d.cell (j:=0) (u:=.int .i64 day) rfl
 have f0:=hB0.f.cell (j:=0) (u:=.int .i64 fin) rfl
 have HB0:=Lib.hid hB0
 have hH0:=h.frame hb0
 have Hb0:=Lib.hid hb0
 have hn2:decide (fin≤day)=false:=decide_eq_false hn
 have H1:=Lib.hid fun W (hb:Below W0.heap.size W0 W) => partCl_first c x [y] _ _ _ day fin E w.heap.size W (HB0.out.below hb) (hH0.frame hb) hl hd0 hf1 HX
 have H2:=Lib.hid fun W (hb:Below W0.heap.size W0 W) => partCl_second c x y [] _ _ _ day fin E w.heap.size W (HB0.out.below hb) (hH0.frame hb) hl hd0 hf1 HY
 have hz1:w.heap.size≤W0.heap.size:=hb0.size
 have HC:=Lib.hid fun W (d:Int) (hb:Below W0.heap.size W0 W) => chosenCl_any d c _ _ _ day fin E w.heap.size W (HB0.out.below hb) (hH0.frame hb).e
 have C0:=Lib.hid (HC.out W0 day (Below.refl _ _))
 clear HC h hH0 hb0 hB0 HB0 hn hk hl HX HY hd0 hf1
 generalize hRR:chosenB E.C c.fr c.nm day=RR at *
 generalize hR1:x.flows E.F E.C day fin=R1 at *
 generalize hR2:y.flows E.F E.C day fin=R2 at *
 clear hR1 hR2 hRR
 cases RR with
 | true =>
  rw [if_pos rfl]
  go_enter Tryz.func107,Tryz.ntmps107
  go_upto_region 1 with (fail)
  clear hW0
  go_wp2_with fail
  refine C0.out.mono ?_
  rintro e w1 ⟨rfl,hb1⟩
  have C2:=Lib.hid (H1.out w1 hb1)
  have Hb1:=Lib.hid (Hb0.out.trans (hb1.mono hz1))
  clear H1 H2 hb1 Hb0 C0
  go_wp2_with fail
  refine C2.out.mono ?_
  rintro e w2 ⟨hb2,⟨h0,v,rfl,⟨ad2,cp2,rfl⟩,ho2⟩ | ⟨h0,rfl⟩⟩
  ·have HF:Hid (FlP w (R1) (.returned (.slice ad2 R1.2.length cp2)) w2):=by
    show FlP _ _ _ _
    exact FlP.at ⟨hb2,.inl ⟨h0,_,rfl,⟨_,_,rfl⟩,ho2⟩⟩ Hb1.out
   clear hb2 ho2 h0 C2 Hb1
   go_wp2
   go_ret
   exact HF.out
  ·refine ⟨rfl,?_⟩
   exact FlP.at ⟨hb2,.inr ⟨h0,rfl⟩⟩ Hb1.out
 | false =>
  rw [if_neg (by simp)]
  go_enter Tryz.func107,Tryz.ntmps107
  go_upto_region 1 with (fail)
  clear hW0
  go_wp2_with fail
  refine C0.out.mono ?_
  rintro e w1 ⟨rfl,hb1⟩
  have C2:=Lib.hid (H2.out w1 hb1)
  have Hb1:=Lib.hid (Hb0.out.trans (hb1.mono hz1))
  clear H1 H2 hb1 Hb0 C0
  go_wp2_with fail
  refine C2.out.mono ?_
  rintro e w2 ⟨hb2,⟨h0,v,rfl,⟨ad2,cp2,rfl⟩,ho2⟩ | ⟨h0,rfl⟩⟩
  ·have HF:Hid (FlP w (R2) (.returned (.slice ad2 R2.2.length cp2)) w2):=by
    show FlP _ _ _ _
    exact FlP.at ⟨hb2,.inl ⟨h0,_,rfl,⟨_,_,rfl⟩,ho2⟩⟩ Hb1.out
   clear hb2 ho2 h0 C2 Hb1
   go_wp2
   go_ret
   exact HF.out
  ·refine ⟨rfl,?_⟩
   exact FlP.at ⟨hb2,.inr ⟨h0,rfl⟩⟩ Hb1.out
set_option maxHeartbeats 4000000 in
set_option maxRecDepth 100000 in
theorem flows_at (c:Con) (hk:c.k=6) (a1 a2 a3:Option Addr) (n1 n2 n3:Nat) (day fin:Int) (E:EvD) (w:World) (h:FlH c (.slice a1 c.ex.sub.length n1) (.slice a2 c.ds.length n2) (.slice a3 c.sub.length n3) E w) (hf1:fin≤100000) (hn : ¬ fin≤day) (x:Con) (hd:isDay c.d=true) (hl:c.sub=[x]) (HX:PF E x) :
  Calls Tryz.prog 107 #[.agg #[.int .u8 c.k,.string c.fr,.string c.rc,.string c.nm,.int .u8 c.ex.k,.string c.ex.ra,.string c.ex.nm,.int .i64 c.ex.d,.slice a1 c.ex.sub.length n1,.int .i64 c.d,.slice a2 c.ds.length n2,.slice a3 c.sub.length n3],.int .i64 day,.int .i64 fin,.agg #[.slice E.af E.F.length E.cf,.slice E.ac E.C.length E.cc]] w (FlP w (if day≤c.d then x.flows E.F E.C c.d fin else (0,[]))):=by
 obtain ⟨W0,hW0,hb0,hz0,hB0⟩:=fl_world w c (.slice a1 c.ex.sub.length n1) (.slice a2 c.ds.length n2) (.slice a3 c.sub.length n3) day fin E
 have hmf:∀ (fn:Fn) (first cap:Array Value) (w:World),(Instr.makeFunc fn first cap).run Tryz.prog w = .ok (.func fn first cap) w:=fun _ _ _ _ => rfl
 have ck:=hB0.c.cell (j:=0) (u:=.int .u8 c.k) rfl
 rw [hk] at ck
 simp only [Int.cast_ofNat_Int] at ck
 have d0:=hB0.d.cell (j:=0) (u:=.int .i64 day) rfl
 have f0:=hB0.f.cell (j:=0) (u:=.int .i64 fin) rfl
 have HB0:=Lib.hid hB0
 have hH0:=h.frame hb0
 have Hb0:=Lib.hid hb0
 have hn2:decide (fin≤day)=false:=decide_eq_false hn
 have hS:=h.rd.2.2.1
 rw [hl] at hS
 obtain ⟨b,off,rfl⟩:=hS.addr (by simp)
 obtain ⟨e1,m1,e2,m2,e3,m3,hr,hbl,hc⟩:=hS.nth (j:=0) rfl off (by omega)
 have hF:=h.sub (x:=x) (by rw [hl];simp) hr
 have HC:=Lib.hid fun W (dy:Int) (fi:Int) (hb:Below w.heap.size w W) (h0:0≤dy) (h1:fi≤100000) => HX _ _ _ dy fi W (hF.frame hb) h0 h1
 have q11:=hB0.c.cell (j:=11) (u:=.slice (some ⟨b,off,none⟩) c.sub.length n3) rfl
 have q9:=hB0.c.cell (j:=9) (u:=.int .i64 c.d) rfl
 have v0:=hB0.v.cell (j:=0) (u:=.slice E.af E.F.length E.cf) rfl
 have v1:=hB0.v.cell (j:=1) (u:=.slice E.ac E.C.length E.cc) rfl
 obtain ⟨c0,c1,c2,c3,c4,c5,c6,c7,c8,c9,c10,c11⟩:=hc W0 hb0
 have hn5:0 < c.sub.length:=by rw [hl];simp
 have hn6:(0:Int) < (c.sub.length:Int):=by omega
 have hbl0:b < W0.heap.size:=by have:=hb0.size;omega
 have hcd:0≤c.d:=by simp [isDay] at hd;omega
 by_cases hle:day≤c.d
 ·rw [if_pos hle]
  have C0:=Lib.hid (fun W hb => (HC.out W c.d fin hb hcd hf1).mono fun _ _ h => h.at hb)
  clear h hH0 hB0 HB0 hn hk hl HX hf1 HC hF hr hS hc hd hcd hb0
  generalize hR:x.flows E.F E.C c.d fin=R at *
  clear hR
  go_enter Tryz.func107,Tryz.ntmps107
  go_upto_region 1 with (fail)
  clear hW0
  go_wp2_with fail
  go_still_tail 8,(by kernel_rfl)
  change wpList _ _ _ _ _ W0.drew
  have hb1:Below w.heap.size w W0.drew:=below_drewN Hb0.out 1
  generalize W0.drew=w2 at *
  clear q11 q9 d0 f0 v0 v1 c0 c1 c2 c3 c4 c5 c6 c7 c8 c9 c10 c11 ck
  go_wp2_with fail
  refine (C0.out w2 hb1).mono ?_
  rintro e w3 ⟨hb3,⟨h0,v,rfl,⟨a,n,rfl⟩,ho⟩ | ⟨h0,rfl⟩⟩
  ·have HF:Hid (FlP w R (.returned (.slice a R.2.length n)) w3):=⟨hb3,.inl ⟨h0,_,rfl,⟨_,_,rfl⟩,ho⟩⟩
   clear hb3 ho h0 C0
   go_wp2
   go_ret
   exact HF.out
  ·exact ⟨rfl,hb3,.inr ⟨h0,rfl⟩⟩
 ·rw [if_neg hle]
  have hle2:decide (day≤c.d)=false:=decide_eq_false hle
  have HF:=Lib.hid (FlP.nil hb0)
  clear h hH0 hB0 HB0 hn hk hl HX hf1 HC hF hr hS hc hd hcd hb0 hle
  go_enter Tryz.func107,Tryz.ntmps107
  go_upto_region 1 with (fail)
  clear hW0
  go_wp2_with fail
  go_ret
  exact HF.out
end Go.Proofs.YthdeijdimfjceaaGreatDoor
