/- A part. -/
import Derived.Test.YthdeijdimfjceaaGreatDoorA17
namespace Go.Proofs.YthdeijdimfjceaaGreatDoor
open Go.RowKit Go.Shelf
attribute [local go_sem] Oper.semAt_some
mutual
def Con.nodes:Con→List Con
 | .mk k f t n x d dd l => .mk k f t n x d dd l :: Con.nodess l
def Con.nodess:List Con→List Con
 | [] => []
 | x :: l => Con.nodes x ++ Con.nodess l
end
theorem Con.nodes_eq (x:Con):x.nodes=x :: Con.nodess x.sub:=by cases x;rw [Con.nodes];rfl
theorem Con.nodess_append (l m:List Con):Con.nodess (l ++ m)=Con.nodess l ++ Con.nodess m:=by
 induction l with
 | nil => simp [Con.nodess]
 | cons x l ih => rw [List.cons_append,Con.nodess,Con.nodess,ih,List.append_assoc]
theorem Con.nodess_snoc {l:List Con} {k:Nat} {x:Con} (h:l[k]? = some x):Con.nodess (l.take (k+1))=Con.nodess (l.take k) ++ x.nodes:=by
 rw [take_snoc_get h,Con.nodess_append,Con.nodess,Con.nodess,List.append_nil]
theorem Con.nodess_take {l:List Con} {k:Nat} {x:Con} (h:l[k]? = some x):∃ r,Con.nodess l=Con.nodess (l.take k) ++ (x.nodes ++ r):=by
 refine ⟨Con.nodess (l.drop (k+1)),?_⟩
 rw [← List.append_assoc,← Con.nodess_snoc h,← Con.nodess_append,List.take_append_drop]
theorem room_of_none {F:Fence} (hd:F.depth=none) (k:Nat):F.room k:=fun d h => by rw [hd] at h;cases h
theorem RoundIn.anyDepth {F:Fence} (hd:F.depth=none) {m m':Nat} {P:Program} {l:Nat} {f:FuncId} {tmps:Array Value} {assign body:Code} {w:World} {R:Ending→World→Prop}
  (h:RoundIn F m P l f tmps assign body w R):RoundIn F m' P l f tmps assign body w R:=⟨h.1,fun c cs _ => h.2 c cs (room_of_none hd _)⟩
theorem YieldAt.anyDepth {F:Fence} (hd:F.depth=none) {m:Nat} (m':Nat) {P:Program} {l:Nat} {args:Array Value} {W:World} {R:Ending→World→Prop} (h:YieldAt F m P l args W R):YieldAt F m' P l args W R:=by
 obtain ⟨fn,tmps,assign,body,hy,hR⟩:=h
 exact ⟨fn,tmps,assign,body,hy,RoundIn.anyDepth hd hR⟩
structure Kept (base D:Nat) (w w':World):Prop where
 below:Below base w w'
 cells:∀ b o,D≤b→w.heap[b]? = some o→o.isCells=true→w'.heap[b]? = some o
theorem Kept.refl (base D:Nat) (w:World):Kept base D w w:=⟨Below.refl _ _,fun _ _ _ h _ => h⟩
theorem Kept.trans {base D:Nat} {a b c:World} (h:Kept base D a b) (k:Kept base D b c):Kept base D a c:=⟨h.below.trans k.below,fun i o hi ho hc => k.cells i o hi (h.cells i o hi ho hc) hc⟩
theorem Kept.of_below {base D:Nat} {w w':World} (hb:base≤w.heap.size) (h:Below w.heap.size w w'):Kept base D w w' :=
 ⟨h.mono hb,fun b o _ ho _ => by rw [h.block b (Array.getElem?_eq_some_iff.1 ho).1];exact ho⟩
theorem Kept.alloc {base D:Nat} (w:World) (hb:base≤w.heap.size) (o:Obj):Kept base D w (w.alloc o):=.of_below hb (below_a1 w o)
theorem Kept.setCell {base D:Nat} (w:World) {b o:Nat} (h1:base≤b) (h2:b < D) (u:Value):Kept base D w (w.setCell ⟨b,o,none⟩ u) :=
 ⟨(Below.refl _ _).setCell (p:=⟨b,o,none⟩) h1 _,fun i o' hi ho _ => by rw [Below.heap_setCell _ _ _ _ (show i ≠ b by omega)];exact ho⟩
theorem cells_of_cell {w:World} {b o:Nat} {v:Value} (h:w.cell? ⟨b,o,none⟩=some v):∃ ob,w.heap[b]? = some ob∧ob.isCells=true:=by
 unfold World.cell? at h
 cases e:w.heap[b]? with
 | none => simp [e] at h
 | some ob =>
  refine ⟨ob,rfl,?_⟩
  cases ob <;> simp_all [Obj.isCells]
theorem Kept.cell {base D:Nat} {w w':World} (h:Kept base D w w') {b o:Nat} {v:Value} (hD:D≤b) (hc:w.cell? ⟨b,o,none⟩=some v):w'.cell? ⟨b,o,none⟩=some v:=by
 obtain ⟨ob,ho,hq⟩:=cells_of_cell hc
 rw [World.cell?_of_block (w:=w) (by rw [ho];exact h.cells b ob hD ho hq)]
 exact hc
abbrev NdW (w0:World):Type:={ p:Con × Value × Value × Value // RdN w0 p.1 p.2.1 p.2.2.1 p.2.2.2∧p.1.bulk≤2000000 }
def NdW.con {w0:World} (x:NdW w0):Con:=x.1.1
def NdW.enc {w0:World} (x:NdW w0):Array Value:=#[x.1.1.val x.1.2.1 x.1.2.2.1 x.1.2.2.2]
def RoundOk (w0:World) (F:Fence) (l D M:Nat) (J Jx:List (NdW w0)→World→Prop):Prop :=
 ∀ m pre x W,J pre W→pre.length < M→YieldAt F m Tryz.prog l (NdW.enc x) W fun e W' => (e = .returned (.bool true)∧J (pre ++ [x]) W'∧Kept w0.heap.size D W W')∨(e = .returned (.bool false)∧Jx (pre ++ [x]) W')
def VisitPost (w0:World) (D:Nat) (J Jx:List (NdW w0)→World→Prop) (pre:List (NdW w0)) (ns:List Con) (W:World) (e:Ending) (W':World):Prop :=
 (e = .returned (.bool true)∧∃ xs,xs.map NdW.con=ns∧J (pre ++ xs) W'∧Kept w0.heap.size D W W')∨(e = .returned (.bool false)∧∃ xs,xs.map NdW.con <+: ns∧Jx (pre ++ xs) W')
set_option maxHeartbeats 4000000 in
set_option maxRecDepth 100000 in
theorem cvisit_in (w0:World) (F:Fence) (hd:F.depth=none) (hF:F.fn 81) (hro:F.round=none) (l D M:Nat) (hD:w0.heap.size≤D) (J Jx:List (NdW w0)→World→Prop)
  (hJa:∀ pre W o,J pre W→J pre (W.alloc o)) (hY:RoundOk w0 F l D M J Jx) :
  ∀ (N n:Nat) (c:Con) (es dd ss:Value) (pre:List (NdW w0)) (W:World),c.bulk≤N→c.bulk≤2000000→RdN w0 c es dd ss→Below w0.heap.size w0 W→D≤W.heap.size→J pre W→pre.length+c.nodes.length≤M →
   CallsIn F n Tryz.prog 81 #[c.val es dd ss,.func (.yield l) #[] #[]] W (VisitPost w0 D J Jx pre c.nodes W):=by
 intro N
 induction N with
 | zero =>
  intro n c es dd ss pre W h0
  rw [Con.bulk_eq] at h0
  omega
 | succ N ih =>
  intro n c es dd ss pre W hN hB hr hbW hDW hJ hM
  obtain ⟨ad,cap,rfl⟩:=hr.2.2.1.len
  obtain ⟨ad1,cap1,rfl⟩:=hr.1.len
  obtain ⟨ad2,cap2,rfl⟩:=hr.2.1.len
  have hdd:∀ k:Nat,(F.depth.isSome=true→1≤k):=fun k h => by rw [hd] at h;cases h
  have hlen:=Con.bulks_len c.sub
  have hlt0:=c.sub_lt
  have hn:c.sub.length≤2000000:=by omega
  have HS:=Lib.hid hr.2.2.1
  have HI:=Lib.hid ih
  have HN:=Lib.hid c.nodes_eq
  have HM:Hid (pre.length+(1+(Con.nodess c.sub).length)≤M):=Lib.hid (by rw [c.nodes_eq,List.length_cons] at hM;omega)
  have hM1:pre.length < M:=by have:=HM.out;omega
  clear hM
  have hb0:Kept w0.heap.size D W (W.alloc (.cells #[.int .u8 c.k,.string c.fr,.string c.rc,.string c.nm,.int .u8 c.ex.k,.string c.ex.ra,.string c.ex.nm,.int .i64 c.ex.d,.slice ad1 c.ex.sub.length cap1,.int .i64 c.d,.slice ad2 c.ds.length cap2,.slice ad c.sub.length cap] 51)):=Kept.alloc W (by omega) _
  obtain ⟨x,hxe⟩:∃ x:NdW w0,x.1=(c,.slice ad1 c.ex.sub.length cap1,.slice ad2 c.ds.length cap2,.slice ad c.sub.length cap):=⟨⟨_,hr,hB⟩,rfl⟩
  have hx1:x.con=c:=congrArg Prod.fst hxe
  have hx2:NdW.enc x=#[c.val (.slice ad1 c.ex.sub.length cap1) (.slice ad2 c.ds.length cap2) (.slice ad c.sub.length cap)]:=by unfold NdW.enc;rw [hxe]
  have hy:=hY (n - 1) pre x _ (hJa pre W (.cells #[.int .u8 c.k,.string c.fr,.string c.rc,.string c.nm,.int .u8 c.ex.k,.string c.ex.ra,.string c.ex.nm,.int .i64 c.ex.d,.slice ad1 c.ex.sub.length cap1,.int .i64 c.d,.slice ad2 c.ds.length cap2,.slice ad c.sub.length cap] 51) hJ) hM1
  rw [hx2] at hy
  unfold Con.val at hy ⊢
  obtain ⟨fn,tmps,assign,body,hy,hR⟩:=hy
  have HX:=Lib.hid hx1
  have hc11:(W.alloc (.cells #[.int .u8 c.k,.string c.fr,.string c.rc,.string c.nm,.int .u8 c.ex.k,.string c.ex.ra,.string c.ex.nm,.int .i64 c.ex.d,.slice ad1 c.ex.sub.length cap1,.int .i64 c.d,.slice ad2 c.ds.length cap2,.slice ad c.sub.length cap] 51)).cell? ⟨W.heap.size,11,none⟩=some (.slice ad c.sub.length cap):=by go_simp
  clear hr ih hJ hxe hx1 hx2 hM1
  refine callsIn_of_wp Tryz.func81 rfl hF ?_ hro
  simp only [Tryz.ntmps81,List.size_toArray,List.length_cons,List.length_nil,Nat.reduceAdd,Nat.reduceSub,Array.replicate_succ,Array.replicate_zero,List.push_toArray,List.append_toArray,List.nil_append,List.cons_append]
  gi_wp2_with ((try refine ⟨hdd _,?_⟩);refine hR.mono ?_;clear hR;(rintro e W2 (⟨rfl,hJ2,hk2⟩ | ⟨rfl,hx2⟩) <;> (first | have q11:=hk2.cell hDW hc11 | skip)))
  ·have hk3:=hb0.trans hk2
   have hz3:=hk3.below.size
   have hJ3:J (pre ++ [x] ++ []) W2:=by rw [List.append_nil];exact hJ2
   clear hb0 hk2 hJ2 hc11 q11
   gi_loopw [14] (fun i wr => ∃ (k:Nat) (xs:List (NdW w0)),k≤c.sub.length∧i = .int .i64 (k:Int)∧Hid (xs.map NdW.con=Con.nodess (c.sub.take k))∧J (pre ++ [x] ++ xs) wr∧Kept w0.heap.size D W wr) (fun i _ => c.sub.length - (intOf i).toNat)
   case atStart => exact ⟨0,[],Nat.zero_le _,rfl,Lib.hid (by simp [Con.nodess]),hJ3,hk3⟩
   case round =>
    clear hJ3 hk3 hz3
    obtain ⟨k,xs,hk,rfl,HXS,hJr,hkr⟩:=hrel
    by_cases hlt:k < c.sub.length
    ·obtain ⟨y,hyk⟩:∃ y,c.sub[k]? = some y:=⟨_,List.getElem?_eq_getElem hlt⟩
     obtain ⟨b,off,es',dd',ss',rfl,⟨c0,c1,c2,c3,c4,c5,c6,c7,c8,c9,c10,c11⟩,hs0⟩:=HS.out.cells hyk
     have hbr:=hbW.trans hkr.below
     have hzr:=hkr.below.size
     have lift:∀ o u,w0.cell? ⟨b,o,none⟩=some u→wr.cell? ⟨b,o,none⟩=some u:=fun o u h => by
      rw [hbr.cell (p:=⟨b,o,none⟩) (World.block_lt_of_cell? w0 _ h)];exact h
     replace c0:=lift _ _ c0
     replace c1:=lift _ _ c1
     replace c2:=lift _ _ c2
     replace c3:=lift _ _ c3
     replace c4:=lift _ _ c4
     replace c5:=lift _ _ c5
     replace c6:=lift _ _ c6
     replace c7:=lift _ _ c7
     replace c8:=lift _ _ c8
     replace c9:=lift _ _ c9
     replace c10:=lift _ _ c10
     replace c11:=lift _ _ c11
     clear lift
     obtain ⟨ad',cap',rfl⟩:=hs0.2.2.1.len
     obtain ⟨ad1',cap1',rfl⟩:=hs0.1.len
     obtain ⟨ad2',cap2',rfl⟩:=hs0.2.1.len
     have hym:=Con.mem_lt (List.mem_of_getElem? hyk)
     have hblk:b < wr.heap.size:=World.block_lt_of_cell? wr _ c0
     have hk1:(0:Int)≤(k:Int):=by omega
     have hk2:(k:Int) < (c.sub.length:Int):=by omega
     have hw0:=hbW.size
     have hka:Kept w0.heap.size D wr (wr.alloc (.cells #[.int .u8 y.k,.string y.fr,.string y.rc,.string y.nm,.int .u8 y.ex.k,.string y.ex.ra,.string y.ex.nm,.int .i64 y.ex.d,.slice ad1' y.ex.sub.length cap1',.int .i64 y.d,.slice ad2' y.ds.length cap2',.slice ad' y.sub.length cap'] 51)):=Kept.alloc wr (by omega) _
     have HSn:=Lib.hid (Con.nodess_snoc hyk)
     have HSt:=Lib.hid (Con.nodess_take hyk)
     have hMy:(pre ++ [x] ++ xs).length+y.nodes.length≤M:=by
      obtain ⟨r,hr⟩:=HSt.out
      have h1:=congrArg List.length hr
      have h2:=congrArg List.length HXS.out
      have h3:=HM.out
      simp only [List.length_append,List.length_map,List.length_cons,List.length_nil] at h1 h2 ⊢
      omega
     have HC:=Lib.hid (HI.out (n - 1) y _ _ _ (pre ++ [x] ++ xs) _ (by omega) (by omega) hs0 (hbr.trans hka.below) (by have:=hka.below.size;omega) (hJa _ _ (.cells #[.int .u8 y.k,.string y.fr,.string y.rc,.string y.nm,.int .u8 y.ex.k,.string y.ex.ra,.string y.ex.nm,.int .i64 y.ex.d,.slice ad1' y.ex.sub.length cap1',.int .i64 y.d,.slice ad2' y.ds.length cap2',.slice ad' y.sub.length cap'] 51) hJr) hMy)
     have HKA:=Lib.hid (hkr.trans hka)
     unfold Con.val at HC
     clear hyk hym hs0 hka hbr hw0 hMy
     gi_wp2_with ((try refine ⟨hdd _,?_⟩);gi_at_call 81;refine HC.out.mono ?_;clear HC;rintro e W3 (⟨rfl,ys,hys,hJ3,hk3⟩ | ⟨rfl,ys,hys,hx3⟩))
     ·have HXS2:Hid ((xs ++ ys).map NdW.con=Con.nodess (c.sub.take (k+1))):=Lib.hid (by rw [List.map_append,HXS.out,hys,HSn.out])
      have HJ3:Hid (J (pre ++ [x] ++ (xs ++ ys)) W3):=Lib.hid (by rw [← List.append_assoc];exact hJ3)
      have HK3:=Lib.hid (HKA.out.trans hk3)
      clear hys hJ3 hk3 HXS HSn HSt HKA hkr hJr
      gi_wp2
      go_roundw
      case rel => exact ⟨k+1,xs ++ ys,by omega,by go_num,HXS2,HJ3.out,HK3.out⟩
      case measure => simp [intOf];omega
     ·have HF:Hid (VisitPost w0 D J Jx pre c.nodes W (.returned (.bool false)) W3):=by
       refine .inr ⟨rfl,[x] ++ (xs ++ ys),?_,by rw [← List.append_assoc,← List.append_assoc];exact hx3⟩
       obtain ⟨r,hr⟩:=hys
       obtain ⟨r2,hr2⟩:=HSt.out
       rw [HN.out,hr2,← hr,List.map_append,List.map_append,HXS.out]
       exact ⟨r ++ r2,by simp [HX.out]⟩
      clear hys hx3 HXS HSn HSt HKA hkr hJr
      gi_wp2
      go_ret
      exact HF.out
    ·obtain rfl:k=c.sub.length:=by omega
     have HF:Hid (VisitPost w0 D J Jx pre c.nodes W (.returned (.bool true)) wr):=by
      refine .inl ⟨rfl,[x] ++ xs,?_,by rw [← List.append_assoc];exact hJr,hkr⟩
      have h:=HXS.out
      rw [List.take_length] at h
      rw [HN.out,List.map_append,h]
      simp [HX.out]
     gi_wp2
     go_ret
     exact HF.out
  ·have HF:Hid (VisitPost w0 D J Jx pre c.nodes W (.returned (.bool false)) W2):=by
    refine .inr ⟨rfl,[x],?_,hx2⟩
    rw [HN.out]
    exact ⟨Con.nodess c.sub,by simp [HX.out]⟩
   clear hx2 hc11
   gi_wp2
   go_ret
   exact HF.out
set_option maxHeartbeats 1000000 in
set_option maxRecDepth 100000 in
theorem cnodes_any (c:Con) (es dd ss:Value) (w:World):Calls Tryz.prog 46 #[c.val es dd ss] w fun e w' => e = .returned (.func (.func 80) #[] #[.pointer (some ⟨w.heap.size,0,none⟩)])∧w'=w.alloc (.cells #[.int .u8 c.k,.string c.fr,.string c.rc,.string c.nm,.int .u8 c.ex.k,.string c.ex.ra,.string c.ex.nm,.int .i64 c.ex.d,es,.int .i64 c.d,dd,ss] 51):=by
 unfold Con.val
 go_enter Tryz.func46,Tryz.ntmps46
 go_wp2_with fail
 go_ret
 exact ⟨rfl,rfl⟩
set_option maxHeartbeats 2000000 in
set_option maxRecDepth 100000 in
theorem cnodes_stops (w0:World) (F:Fence) (hd:F.depth=none) (hF:F.fn 81) (hF1:F.fn 80) (hro:F.round=none) (n:Nat) (c:Con) (es dd ss:Value) (w:World) (hB:c.bulk≤2000000) (hr:RdN w0 c es dd ss) (hbw:Below w0.heap.size w0 w) (B:Nat)
  (hc:CBox w B c es dd ss) :
  SeqStopsK F n Tryz.prog 80 #[.pointer (some ⟨B,0,none⟩)] (NdW.enc (w0:=w0)) (Kept w0.heap.size w.heap.size) (fun xs => xs.map NdW.con=c.nodes) (fun xs => xs.map NdW.con <+: c.nodes) c.nodes.length w:=by
 intro l J Jx W hW hJ hJx hY h0
 have hz:=hbw.size
 have hV:=cvisit_in w0 F hd hF hro l w.heap.size c.nodes.length hz J Jx (fun pre W o h => hJ pre W (W.alloc o) none h (World.grownBy_alloc W o none) (fun r e => by cases e))
  (fun m pre x W1 hJ1 hl => YieldAt.anyDepth hd m (hY pre x W1 hJ1 hl)) c.bulk (n - 1) c es dd ss [] W (Nat.le_refl _) hB hr (hbw.trans (hW.mono hz)) hW.size h0 (by simp)
 obtain ⟨c0,c1,c2,c3,c4,c5,c6,c7,c8,c9,c10,c11⟩:=hc.low hW
 have hBl:=World.block_lt_of_cell? W _ c0
 have hdd:∀ k:Nat,(F.depth.isSome=true→1≤k):=fun k h => by rw [hd] at h;cases h
 obtain ⟨ad,cap,rfl⟩:=hr.2.2.1.len
 obtain ⟨ad1,cap1,rfl⟩:=hr.1.len
 obtain ⟨ad2,cap2,rfl⟩:=hr.2.1.len
 have HV:=Lib.hid hV
 unfold Con.val at HV
 clear hV hr hc hY hJ hJx h0
 show CallsIn F n Tryz.prog 80 #[.func (.yield l) #[] #[],.pointer (some ⟨B,0,none⟩)] W _
 refine callsIn_of_wp Tryz.func80 rfl hF1 ?_ hro
 simp only [Tryz.ntmps80,List.size_toArray,List.length_cons,List.length_nil,Nat.reduceAdd,Nat.reduceSub,Array.replicate_succ,Array.replicate_zero,List.push_toArray,List.append_toArray,List.nil_append,List.cons_append]
 gi_wp2_with ((try refine ⟨hdd _,?_⟩);gi_at_call 81;refine HV.out.mono ?_;clear HV;rintro e W3 (⟨rfl,ys,hys,hJ3,hk3⟩ | ⟨rfl,ys,hys,hx3⟩))
 ·go_end0
  exact ⟨⟨_,rfl⟩,.inl ⟨ys,hys,by simpa using hJ3⟩⟩
 ·go_end0
  exact ⟨⟨_,rfl⟩,.inr ⟨ys,hys,by simpa using hx3⟩⟩
end Go.Proofs.YthdeijdimfjceaaGreatDoor

namespace Go.Proofs.YthdeijdimfjceaaGreatDoor
open Go.RowKit Go.Shelf
attribute [local go_sem] Oper.semAt_some
def Con.nsz (c:Con):Nat:=1+(if c.ex.bare=true then 0 else c.ex.size)
def nszs (l:List Con):Nat:=(l.map Con.nsz).sum
theorem nszs_append (l m:List Con):nszs (l ++ m)=nszs l+nszs m:=by simp [nszs]
mutual
theorem Con.size_nodes:∀ c:Con,c.size=nszs c.nodes
 | .mk k f t n x d dd l => by
  rw [Con.size,Con.nodes]
  have h:=Con.sizes_nodes l
  simp only [nszs,List.map_cons,List.sum_cons] at h ⊢
  rw [h];rfl
theorem Con.sizes_nodes:∀ l:List Con,Con.sizes l=nszs (Con.nodess l)
 | [] => by simp [Con.sizes,Con.nodess,nszs]
 | x :: l => by rw [Con.sizes,Con.nodess,nszs_append,Con.size_nodes x,Con.sizes_nodes l]
end
mutual
theorem Con.nodes_len:∀ c:Con,c.nodes.length≤c.bulk
 | .mk k f t n x d dd l => by rw [Con.nodes,Con.bulk,List.length_cons];have:=Con.nodess_len l;omega
theorem Con.nodess_len:∀ l:List Con,(Con.nodess l).length≤Con.bulks l
 | [] => by simp [Con.nodess]
 | x :: l => by rw [Con.nodess,Con.bulks,List.length_append];have:=Con.nodes_len x;have:=Con.nodess_len l;omega
end
theorem nszs_le {w0:World} (l:List (NdW w0)):nszs (l.map NdW.con)≤l.length * 2000001:=by
 induction l with
 | nil => simp [nszs]
 | cons x l ih =>
  have h1:x.con.nsz≤2000001:=by
   have h2:=x.2.2
   have h3:=x.con.ex.size_le
   have h4:=x.con.bulk_eq
   have h5:x.con.bulk≤2000000:=h2
   unfold Con.nsz
   split <;> omega
  simp only [nszs,List.map_cons,List.sum_cons,List.length_cons,Nat.add_mul] at ih ⊢
  omega
theorem Kept.putObj {base D:Nat} (W:World) (l:Nat) (o o':Obj) (hl:base≤l) (h:W.heap[l]? = some o) (hc:o.isCells=false):Kept base D W (W.putObj l o'):=by
 refine ⟨(Below.refl base W).grown (grownBy_putObj' W l o') (by have:=(Array.getElem?_eq_some_iff.1 h).1;omega) (fun k e => by cases e;omega),fun b ob _ hb hq => ?_⟩
 rw [World.putObj_heap_other (by rintro rfl;rw [h] at hb;cases hb;rw [hc] at hq;cases hq)]
 exact hb
theorem KeepsOthers.of_below {W W':World} (h:Below W.heap.size W W'):KeepsOthers W W':=⟨h.size,fun k o hk _ => by rw [h.block k (Array.getElem?_eq_some_iff.1 hk).1];exact hk⟩
theorem cbox_own {β:Type} (B:Nat) (x:Con) (es dd ss:Value):Own (fun (_:β) W => CBox W B x es dd ss):=fun _ _ _ _ hs hg hr => hs.kept fun _ _ hc => cell_kept hc hg hr
set_option maxHeartbeats 4000000 in
set_option maxRecDepth 100000 in
theorem csize_any (c:Con) (es dd ss:Value) (w:World) (hB:c.bulk≤2000000) (hr:RdN w c es dd ss) :
  Calls Tryz.prog 44 #[c.val es dd ss] w fun e w' => e = .returned (.int .i64 (c.size:Int))∧Below w.heap.size w w':=by
 obtain ⟨ad,cap,rfl⟩:=hr.2.2.1.len
 obtain ⟨ad1,cap1,rfl⟩:=hr.1.len
 obtain ⟨ad2,cap2,rfl⟩:=hr.2.1.len
 have HNo:=Lib.hid (fun W => cnodes_any c (.slice ad1 c.ex.sub.length cap1) (.slice ad2 c.ds.length cap2) (.slice ad c.sub.length cap) W)
 refine (callsIn_wide (n:=10)).1 ?_
 unfold Con.val at HNo ⊢
 refine callsIn_of_wp_marks Tryz.func44 rfl trivial ?_ rfl
 simp only [Tryz.ntmps44,List.size_toArray,List.length_cons,List.length_nil,Nat.reduceAdd,Nat.reduceSub,Array.replicate_succ,Array.replicate_zero,List.push_toArray,List.append_toArray,List.nil_append,List.cons_append]
 gi_wp2_with (refine ⟨trivial,?_⟩;gi_at_call 46;refine (callsIn_wide.2 (HNo.out _)).mono ?_;rintro e w1 ⟨rfl,rfl⟩)
 have hbW:=below_a3 w (.cells #[.int .u8 c.k,.string c.fr,.string c.rc,.string c.nm,.int .u8 c.ex.k,.string c.ex.ra,.string c.ex.nm,.int .i64 c.ex.d,.slice ad1 c.ex.sub.length cap1,.int .i64 c.d,.slice ad2 c.ds.length cap2,.slice ad c.sub.length cap] 51) (.cells #[.int .i64 0] 3) (.cells #[.int .u8 c.k,.string c.fr,.string c.rc,.string c.nm,.int .u8 c.ex.k,.string c.ex.ra,.string c.ex.nm,.int .i64 c.ex.d,.slice ad1 c.ex.sub.length cap1,.int .i64 c.d,.slice ad2 c.ds.length cap2,.slice ad c.sub.length cap] 51)
 have bN:=(Boxed.new (w.alloc (.cells #[.int .u8 c.k,.string c.fr,.string c.rc,.string c.nm,.int .u8 c.ex.k,.string c.ex.ra,.string c.ex.nm,.int .i64 c.ex.d,.slice ad1 c.ex.sub.length cap1,.int .i64 c.d,.slice ad2 c.ds.length cap2,.slice ad c.sub.length cap] 51)) 3 (.int .i64 0)).alloc (.cells #[.int .u8 c.k,.string c.fr,.string c.rc,.string c.nm,.int .u8 c.ex.k,.string c.ex.ra,.string c.ex.nm,.int .i64 c.ex.d,.slice ad1 c.ex.sub.length cap1,.int .i64 c.d,.slice ad2 c.ds.length cap2,.slice ad c.sub.length cap] 51)
 have bC:=CBox.new ((w.alloc (.cells #[.int .u8 c.k,.string c.fr,.string c.rc,.string c.nm,.int .u8 c.ex.k,.string c.ex.ra,.string c.ex.nm,.int .i64 c.ex.d,.slice ad1 c.ex.sub.length cap1,.int .i64 c.d,.slice ad2 c.ds.length cap2,.slice ad c.sub.length cap] 51)).alloc (.cells #[.int .i64 0] 3)) c (.slice ad1 c.ex.sub.length cap1) (.slice ad2 c.ds.length cap2) (.slice ad c.sub.length cap) 51
 simp only [World.size_alloc] at bN bC
 have hsz:(((w.alloc (.cells #[.int .u8 c.k,.string c.fr,.string c.rc,.string c.nm,.int .u8 c.ex.k,.string c.ex.ra,.string c.ex.nm,.int .i64 c.ex.d,.slice ad1 c.ex.sub.length cap1,.int .i64 c.d,.slice ad2 c.ds.length cap2,.slice ad c.sub.length cap] 51)).alloc (.cells #[.int .i64 0] 3)).alloc (.cells #[.int .u8 c.k,.string c.fr,.string c.rc,.string c.nm,.int .u8 c.ex.k,.string c.ex.ra,.string c.ex.nm,.int .i64 c.ex.d,.slice ad1 c.ex.sub.length cap1,.int .i64 c.d,.slice ad2 c.ds.length cap2,.slice ad c.sub.length cap] 51)).heap.size=w.heap.size+3:=by simp
 obtain ⟨W0,hW0⟩:∃ W0,((w.alloc (.cells #[.int .u8 c.k,.string c.fr,.string c.rc,.string c.nm,.int .u8 c.ex.k,.string c.ex.ra,.string c.ex.nm,.int .i64 c.ex.d,.slice ad1 c.ex.sub.length cap1,.int .i64 c.d,.slice ad2 c.ds.length cap2,.slice ad c.sub.length cap] 51)).alloc (.cells #[.int .i64 0] 3)).alloc (.cells #[.int .u8 c.k,.string c.fr,.string c.rc,.string c.nm,.int .u8 c.ex.k,.string c.ex.ra,.string c.ex.nm,.int .i64 c.ex.d,.slice ad1 c.ex.sub.length cap1,.int .i64 c.d,.slice ad2 c.ds.length cap2,.slice ad c.sub.length cap] 51)=W0:=⟨_,rfl⟩
 rw [hW0] at hbW bN bC hsz ⊢
 have hnl:=c.nodes_len
 have HSz:=Lib.hid c.size_nodes
 clear hW0 HNo
 refine wpIn_rangeFunc_ownH rfl (by decide) (gf:=80) (lb:=#[.pointer (some ⟨w.heap.size+1+1,0,none⟩)]) rfl trivial (enters_of Tryz.func80 (by kernel_rfl) rfl)
  (cnodes_stops w Fence.wide rfl trivial trivial rfl 9 c _ _ _ W0 hB hr hbW _ bC) (fun h k => h.trans k) (fun W l o o' hl h hc _ => Kept.putObj W l o o' (by omega) h hc) (Below.refl _ _) (fun _ => rfl)
  (fun pre W => Boxed W (w.heap.size+1) 3 (.int .i64 ((nszs (pre.map NdW.con):Nat):Int))∧(Below w.heap.size w W∧W0.heap.size≤W.heap.size))
  (fun _ _ _ => False)
  (OwnFrom.and (Own.from (boxed_own _ _ _) _) (OwnFrom.and (ownFrom_below (Nat.le_refl _) (by omega)) (fun _ _ _ _ hs hg _ => Nat.le_trans hs hg.size)))
  (fun _ _ _ _ _ hs _ _ => hs)
  ⟨bN,hbW,Nat.le_refl _⟩
  (fun x a' W => ∃ Bx,W0.heap.size≤Bx∧CBox W Bx x.1.1 x.1.2.1 x.1.2.2.1 x.1.2.2.2∧a'={ tmps:=#[.agg #[.int .u8 c.k,.string c.fr,.string c.rc,.string c.nm,.int .u8 c.ex.k,.string c.ex.ra,.string c.ex.nm,.int .i64 c.ex.d,.slice ad1 c.ex.sub.length cap1,.int .i64 c.d,.slice ad2 c.ds.length cap2,.slice ad c.sub.length cap],.pointer (some ⟨w.heap.size,0,none⟩),.int .i64 0,.pointer (some ⟨w.heap.size+1,0,none⟩),.pointer (some ⟨Bx,0,none⟩),.agg #[.int .u8 c.k,.string c.fr,.string c.rc,.string c.nm,.int .u8 c.ex.k,.string c.ex.ra,.string c.ex.nm,.int .i64 c.ex.d,.slice ad1 c.ex.sub.length cap1,.int .i64 c.d,.slice ad2 c.ds.length cap2,.slice ad c.sub.length cap],.func (.func 80) #[] #[.pointer (some ⟨w.heap.size+1+1,0,none⟩)],x.1.1.val x.1.2.1 x.1.2.2.1 x.1.2.2.2,undef,undef,undef,undef,undef,undef,undef,undef,undef,undef,undef,undef],defers:=[] })
  (fun x a' s A B row hs hg hr => by
   obtain ⟨Bx,h1,h2,h3⟩:=hs
   exact ⟨Bx,h1,cbox_own (β:=Unit) Bx _ _ _ _ () A B row h2 hg (fun r e => (hr r e).2),h3⟩)
  ?assign ?body ?done ?stop
 case assign =>
  rintro l pre ⟨⟨y,es',dd',ss'⟩,hy,hyB⟩ W K ⟨hi,hbi,hZ0⟩ hK
  have hy2:RdN w y es' dd' ss':=hy
  obtain ⟨adp,capp,rfl⟩:=hy2.2.2.1.len
  obtain ⟨ad1p,cap1p,rfl⟩:=hy2.1.len
  obtain ⟨ad2p,cap2p,rfl⟩:=hy2.2.1.len
  have hz:=hbi.size
  have hl:=hi.lt
  have hk:=hK _ _ ((KeepsOthers.alloc W (.cells #[.int .u8 y.k,.string y.fr,.string y.rc,.string y.nm,.int .u8 y.ex.k,.string y.ex.ra,.string y.ex.nm,.int .i64 y.ex.d,.slice ad1p y.ex.sub.length cap1p,.int .i64 y.d,.slice ad2p y.ds.length cap2p,.slice adp y.sub.length capp] 51)).from _) (Kept.alloc W hz _) ⟨hi.alloc _,hbi.alloc hz _,Nat.le_trans hZ0 (by simp)⟩ ⟨W.heap.size,hZ0,CBox.new W y _ _ _ _,rfl⟩
  unfold NdW.enc Con.val
  unfold Con.val at hk
  clear hK
  gi_wp2
  exact hk
 case body =>
  rintro l pre ⟨⟨y,es',dd',ss'⟩,hy,hyB⟩ a' W hl ⟨r,hlr⟩ ⟨hi,hbi,hZ0⟩ ⟨Bx,hBx,hbox,rfl⟩ hlt
  have hy2:RdN w y es' dd' ss':=hy
  obtain ⟨adp,capp,rfl⟩:=hy2.2.2.1.len
  obtain ⟨ad1p,cap1p,rfl⟩:=hy2.1.len
  obtain ⟨ad2p,cap2p,rfl⟩:=hy2.2.1.len
  have hsum:=nszs_le pre
  obtain ⟨S,hS⟩:∃ S,nszs (pre.map NdW.con)=S:=⟨_,rfl⟩
  rw [hS] at hi hsum
  have hyb:y.bulk≤2000000:=hyB
  have hye:=y.bulk_eq
  have hyx:y.ex.bulk≤2000000:=by omega
  have hys:=y.ex.size_le
  have hS0:S≤4000002000000:=by omega
  have HSN:Hid (nszs ((pre ++ [(⟨(y,.slice ad1p y.ex.sub.length cap1p,.slice ad2p y.ds.length cap2p,.slice adp y.sub.length capp),hy,hyB⟩:NdW w)]).map NdW.con)=S+(1+(if y.ex.bare=true then 0 else y.ex.size))):=Lib.hid (by
   rw [List.map_append,nszs_append,hS];simp [nszs,NdW.con,Con.nsz])
  have e1:IntKind.i64.wrap ((S:Int)+1)=(S:Int)+1:=IntWalk.i64_in _ (by omega)
  have hbi1:Below w.heap.size w (W.setCell ⟨w.heap.size+1,0,none⟩ (.int .i64 ((S:Int)+1))):=hbi.setCell (p:=⟨w.heap.size+1,0,none⟩) (by simp) _
  have hi1:=hi.set (.int .i64 ((S:Int)+1))
  have hbx1:=hbox.far (a:=⟨w.heap.size+1,0,none⟩) (show Bx ≠ w.heap.size+1 by omega) (.int .i64 ((S:Int)+1))
  have HK1:Hid (KeepsOthers W (W.setCell ⟨w.heap.size+1,0,none⟩ (.int .i64 ((S:Int)+1)))∧Kept w.heap.size W0.heap.size W (W.setCell ⟨w.heap.size+1,0,none⟩ (.int .i64 ((S:Int)+1)))) :=
   Lib.hid ⟨KeepsOthers.setCell _ _ _,Kept.setCell W (by omega) (by omega) _⟩
  have HBr:=Lib.hid (fun W' (hb:Below w.heap.size w W') => bare_any y.ex _ W' (hy2.1.frame hb))
  have HSz2:=Lib.hid (fun W' (hb:Below w.heap.size w W') => osize_any y.ex.bulk y.ex _ W' (Nat.le_refl _) hyx (hy2.1.frame hb))
  unfold Ex.val at HBr HSz2
  have hc:=hi.cell
  have hf:=hi.frozen
  unfold Con.val
  obtain ⟨c0,c1,c2,c3,c4,c5,c6,c7,c8,c9,c10,c11⟩:=hbox
  clear hS hsum hye hys hyb hyx hlr
  have laid:∀ w2,Below (W.setCell ⟨w.heap.size+1,0,none⟩ (.int .i64 ((S:Int)+1))).heap.size (W.setCell ⟨w.heap.size+1,0,none⟩ (.int .i64 ((S:Int)+1))) w2 →
    CBox w2 Bx y (.slice ad1p y.ex.sub.length cap1p) (.slice ad2p y.ds.length cap2p) (.slice adp y.sub.length capp)∧Boxed w2 (w.heap.size+1) 3 (.int .i64 ((S:Int)+1))∧Below w.heap.size w w2∧W0.heap.size≤w2.heap.size∧KeepsOthers W w2∧Kept w.heap.size W0.heap.size W w2:=fun w2 hb2 => by
   have hz2:=hb2.size
   refine ⟨hbx1.low hb2,(hb2.block _ hi1.lt).trans hi1,hbi1.trans (hb2.mono (by simp;omega)),by simp at hz2;omega,HK1.out.1.trans (KeepsOthers.of_below hb2),HK1.out.2.trans (Kept.of_below (by simp;omega) hb2)⟩
  have HL:=Lib.hid laid
  clear laid hi hbi hi1 hbx1 HK1 bC bN HSz hnl
  cases hq:y.ex.bare with
  | true =>
   rw [hq] at HSN HBr
   simp only [if_true,Nat.add_zero] at HSN
   clear hq
   gi_wp2_with (refine ⟨trivial,?_⟩;gi_at_call 77;refine (CallsIn.inRound l (callsIn_wide.2 (HBr.out _ hbi1))).mono ?_;rintro e w2 ⟨rfl,hb2⟩)
   obtain ⟨k0,k1,k2,k3,k4,k5⟩:=HL.out w2 hb2
   exact ⟨k4.from _,k5,by rw [HSN.out];exact k1,k2,k3⟩
  | false =>
   rw [hq] at HSN HBr
   simp only [Bool.false_eq_true,if_false] at HSN
   have hys:=y.ex.size_le
   have hyx:y.ex.bulk≤2000000:=by
    have h1:=y.bulk_eq
    have h2:y.bulk≤2000000:=hyB
    omega
   have e2:IntKind.i64.wrap ((S:Int)+1+(y.ex.size:Int))=(S:Int)+1+(y.ex.size:Int):=IntWalk.i64_in _ (by omega)
   clear hq hys hyx
   gi_wp2_with (refine ⟨trivial,?_⟩;gi_at_call 77;refine (CallsIn.inRound l (callsIn_wide.2 (HBr.out _ hbi1))).mono ?_;rintro e w2 ⟨rfl,hb2⟩)
   obtain ⟨k0,k1,k2,k3,k4,k5⟩:=HL.out w2 hb2
   clear c0 c1 c2 c3 c4 c5 c6 c7 c8 c9 c10 c11 hbi1 hc hf HBr e1 HL hb2
   have hc2:=k1.cell
   have hf2:=k1.frozen
   have hBx2:=k0.lt
   obtain ⟨c0,c1,c2,c3,c4,c5,c6,c7,c8,c9,c10,c11⟩:=k0
   have HL3:Hid (∀ w3,Below w2.drew.heap.size w2.drew w3→Boxed w3 (w.heap.size+1) 3 (.int .i64 ((S:Int)+1))∧KeepsFrom W0.heap.size W (w3.setCell ⟨w.heap.size+1,0,none⟩ (.int .i64 ((S:Int)+1+(y.ex.size:Int))))∧Kept w.heap.size W0.heap.size W (w3.setCell ⟨w.heap.size+1,0,none⟩ (.int .i64 ((S:Int)+1+(y.ex.size:Int)))) ∧
     Boxed (w3.setCell ⟨w.heap.size+1,0,none⟩ (.int .i64 ((S:Int)+1+(y.ex.size:Int)))) (w.heap.size+1) 3 (.int .i64 ((S:Int)+1+(y.ex.size:Int)))∧Below w.heap.size w (w3.setCell ⟨w.heap.size+1,0,none⟩ (.int .i64 ((S:Int)+1+(y.ex.size:Int))))∧W0.heap.size≤w3.heap.size):=Lib.hid fun w3 hb3' => by
    have hb3:Below w2.heap.size w2 w3:=((Below.refl _ w2).drew).trans hb3'
    have h1:Boxed w3 (w.heap.size+1) 3 (.int .i64 ((S:Int)+1)):=(hb3.block _ k1.lt).trans k1
    have hz3:=hb3.size
    exact ⟨h1,((k4.trans (KeepsOthers.of_below hb3)).trans (KeepsOthers.setCell _ _ _)).from _,(k5.trans (Kept.of_below (by omega) hb3)).trans (Kept.setCell w3 (by omega) (by omega) _),h1.set _,(k2.trans (hb3.mono (by omega))).setCell (p:=⟨w.heap.size+1,0,none⟩) (by simp) _,by omega⟩
   have hmx:Tryz.prog.follows .mixedOrders=true:=by kernel_rfl
   have k2d:Below w.heap.size w w2.drew:=k2.drew
   clear k4 k5 k3 k1
   gi_region_with_o (refine ⟨trivial,?_⟩;gi_at_call 78;refine (CallsIn.inRound l (callsIn_wide.2 (HSz2.out _ k2d))).mono ?_;rintro e w3 ⟨rfl,hb3⟩;obtain ⟨j1,j2,j3,j4,j5,j6⟩:=HL3.out w3 hb3;have hc3:=j1.cell;have hf3:=j1.frozen)
   all_goals gi_wp2
   all_goals (try go_bits)
   all_goals exact ⟨j2,j3,by rw [HSN.out,show ((S+(1+y.ex.size):Nat):Int)=(S:Int)+1+(y.ex.size:Int) by omega];exact j4,j5,Nat.le_trans j6 (by simp)⟩
 case done =>
  rintro D xs W hD hS ⟨hi,hbi,hZ0⟩ hK
  rw [hS,← HSz.out] at hi
  have hc:=hi.cell
  have hb3:=hbi.trans (belowK_b (w:=w) (Nat.le_refl _) W D (.deferred (some [])) (.deferred none) (by omega) hK rfl rfl)
  gi_wp2
  refine ⟨by simp,.inl ⟨_,_,rfl,run_takeDeferred hK,?_⟩⟩
  exact ⟨_,results_tmp rfl _ _ _,rfl,hb3⟩
 case stop =>
  rintro D c pre W _ _ h _
  exact h.elim
end Go.Proofs.YthdeijdimfjceaaGreatDoor

namespace Go.Proofs.YthdeijdimfjceaaGreatDoor
open Go.RowKit
set_option maxHeartbeats 2000000 in
set_option maxRecDepth 100000 in
theorem cdepth_any:∀ (N:Nat) (x:Con) (es dd ss:Value) (w:World),x.bulk≤N→x.bulk≤2000000→RdN w x es dd ss →
  Calls Tryz.prog 45 #[x.val es dd ss] w fun e w' => e = .returned (.int .i64 (x.depth:Int))∧Below w.heap.size w w':=by
 intro N
 induction N with
 | zero =>
  intro x es dd ss w h0
  rw [Con.bulk_eq] at h0
  omega
 | succ N ih =>
  intro x es dd ss w hN hB hr
  obtain ⟨ad,cap,rfl⟩:=hr.2.2.1.len
  obtain ⟨ad1,cap1,rfl⟩:=hr.1.len
  obtain ⟨ad2,cap2,rfl⟩:=hr.2.1.len
  have HS:=Lib.hid hr.2.2.1
  have HE:=Lib.hid hr.1
  have HI:=Lib.hid ih
  have hlen:=Con.bulks_len x.sub
  have hlt0:=x.sub_lt
  have hbe:=x.bulk_eq
  have hsz:=x.size_le
  have hdz:=x.depth_le
  have hes:=x.ex.size_le
  have hed:=x.ex.depth_le
  have hsq:=Lib.hid x.depth_eq
  have hn:x.sub.length≤2000000:=by omega
  have hxb:x.ex.bulk≤2000000:=by omega
  have hb0:=below_a1 w (.cells #[.int .u8 x.k,.string x.fr,.string x.rc,.string x.nm,.int .u8 x.ex.k,.string x.ex.ra,.string x.ex.nm,.int .i64 x.ex.d,.slice ad1 x.ex.sub.length cap1,.int .i64 x.d,.slice ad2 x.ds.length cap2,.slice ad x.sub.length cap] 51)
  have HB0:=CBox.new w x (.slice ad1 x.ex.sub.length cap1) (.slice ad2 x.ds.length cap2) (.slice ad x.sub.length cap) 51
  have HBr:=Lib.hid (bare_any x.ex _ _ (HE.out.frame hb0))
  clear hr ih hbe
  unfold Con.val
  unfold Ex.val at HBr
  go_enter Tryz.func45,Tryz.ntmps45
  go_wp2_with fail
  refine HBr.out.mono ?_
  rintro e w1 ⟨rfl,hb1⟩
  have hb2:Below w.heap.size w w1:=hb0.trans (hb1.mono (by simp))
  have hz1:=hb1.size
  simp only [World.size_alloc] at hz1
  have HB1:=HB0.low hb1
  clear hb0 HB0 hb1 HBr
  obtain ⟨c0,c1,c2,c3,c4,c5,c6,c7,c8,c9,c10,c11⟩:=HB1
  obtain ⟨E0,HZ,HN,hE0,HQ⟩:∃ E0:Nat,Hid (x.ex.bare=true→E0=0)∧Hid (x.ex.bare=false→x.ex.depth=E0)∧E0≤2000000∧Hid (x.depth=max E0 (Con.depths x.sub)+1):=⟨if x.ex.bare=true then 0 else x.ex.depth,Lib.hid (fun h => by rw [h];rfl),Lib.hid (fun h => by rw [h];rfl),by split <;> omega,Lib.hid hsq.out⟩
  clear hsq
  cases hq:x.ex.bare
  case' true =>
   replace HZ:Hid (E0=0):=Lib.hid (HZ.out hq)
   clear HN hq c0 c1 c2 c3 c4 c5 c6 c7 c8 c9 c10
   go_wp2
  case' false =>
   replace HN:Hid (x.ex.depth=E0):=Lib.hid (HN.out hq)
   have HX:=Lib.hid (cxdepth_any x.ex.bulk x.ex _ w1 (Nat.le_refl _) hxb (HE.out.frame hb2))
   rw [HN.out] at HX
   unfold Ex.val at HX
   clear hq HZ HN
   go_wp2_with fail
   refine HX.out.mono ?_
   rintro e w2 ⟨rfl,hb3⟩
   replace hb2:=hb2.trans (hb3.mono (by omega))
   replace c11:w2.cell? ⟨w.heap.size,11,none⟩=some (.slice ad x.sub.length cap):=by rw [hb3.cell (p:=⟨w.heap.size,11,none⟩) (show w.heap.size < _ by omega)];exact c11
   replace hz1:w.heap.size+1≤w2.heap.size:=by have:=hb3.size;omega
   clear c0 c1 c2 c3 c4 c5 c6 c7 c8 c9 c10 hb3 HX
   try clear w1
   rename World => w1
   go_wp2
  all_goals
   go_loopw [3,16] (fun n i wr => ∃ (k S:Nat),k≤x.sub.length∧i = .int .i64 (k:Int)∧n = .int .i64 (S:Int)∧S≤4000002∧Hid (S=max E0 (Con.depths (x.sub.take k)))∧Below w.heap.size w wr∧wr.cell? ⟨w.heap.size,11,none⟩=some (.slice ad x.sub.length cap)) (fun _ i _ => x.sub.length - (intOf i).toNat)
   case atStart => exact ⟨0,E0,Nat.zero_le _,rfl,by first | rfl | (rw [HZ.out];rfl),by omega,by show _=_;simp [Con.depths],hb2,c11⟩
   case round =>
    clear hb2 c11 hz1
    obtain ⟨k,S,hk,rfl,rfl,hS,HSz,hbel,q0⟩:=hrel
    by_cases hlt:k < x.sub.length
    ·obtain ⟨y,hy⟩:∃ y,x.sub[k]? = some y:=⟨_,List.getElem?_eq_getElem hlt⟩
     obtain ⟨b,off,es',dd',ss',rfl,⟨c0,c1,c2,c3,c4,c5,c6,c7,c8,c9,c10,c11⟩,hs'⟩:=(HS.out.frame hbel).cells hy
     obtain ⟨adp,capp,rfl⟩:=hs'.2.2.1.len
     obtain ⟨ad1p,cap1p,rfl⟩:=hs'.1.len
     obtain ⟨ad2p,cap2p,rfl⟩:=hs'.2.1.len
     have hym:=Con.mem_lt (List.mem_of_getElem? hy)
     have hblk:b < wr.heap.size:=World.block_lt_of_cell? wr _ c0
     have hbx:w.heap.size < wr.heap.size:=World.block_lt_of_cell? wr _ q0
     have hzw:=hbel.size
     have HSn:Hid (max S y.depth=max E0 (Con.depths (x.sub.take (k+1)))):=by show _=_;rw [Con.depths_snoc hy];have:=HSz.out;omega
     have hSn:max S y.depth≤4000002:=by have:=HSn.out;have:=Con.depths_take x.sub (k+1);have:=HQ.out;have:=x.size_le;have:=x.depth_le;omega
     have e1:(max (S:Int) (y.depth:Int))=((max S y.depth:Nat):Int):=by omega
     have hk1:(0:Int)≤(k:Int):=by omega
     have hk2:(k:Int) < (x.sub.length:Int):=by omega
     have HC:=Lib.hid (HI.out y _ _ _ (wr.alloc (.cells #[.int .u8 y.k,.string y.fr,.string y.rc,.string y.nm,.int .u8 y.ex.k,.string y.ex.ra,.string y.ex.nm,.int .i64 y.ex.d,.slice ad1p y.ex.sub.length cap1p,.int .i64 y.d,.slice ad2p y.ds.length cap2p,.slice adp y.sub.length capp] 51)) (by omega) (by omega) (hs'.frame (below_a1 _ _)))
     unfold Con.val at HC
     clear hy hym hs'
     go_wp2_with fail
     refine HC.out.mono ?_
     rintro e w1 ⟨rfl,hb1⟩
     have q1:w1.cell? ⟨w.heap.size,11,none⟩=some (.slice (some ⟨b,off,none⟩) x.sub.length cap):=by rw [hb1.cell (p:=⟨w.heap.size,11,none⟩) (by simp;omega)];go_simp
     have hb2:=(hbel.alloc hzw _).trans (hb1.mono (by simp;omega))
     clear hb1 hbel q0 HC c0 c1 c2 c3 c4 c5 c6 c7 c8 c9 c10 c11
     go_wp2
     go_roundw
     case rel => exact ⟨k+1,max S y.depth,by omega,by go_num,by first | rfl | go_num,hSn,HSn,hb2,q1⟩
     case measure => simp [intOf];omega
    ·obtain rfl:k=x.sub.length:=by omega
     have HF:Hid ((S:Int)+1=(x.depth:Int)):=by
      show _=_
      have h:=HSz.out
      have h2:=HQ.out
      rw [List.take_length] at h
      omega
     go_wp2
     go_ret
     exact ⟨by rw [HF.out];rfl,hbel⟩
end Go.Proofs.YthdeijdimfjceaaGreatDoor

namespace Go.Proofs.YthdeijdimfjceaaGreatDoor
open Go.RowKit
theorem len_zero {α:Type} (l:List α):((l.length:Int) == 0)=decide (l=[]):=by rw [Bool.eq_iff_iff];simp
set_option maxHeartbeats 60000000 in
set_option maxRecDepth 100000 in
theorem node_mask (c:Con) (w:World) (m:Int) {b1 b2 b4 b8 b16 b32 b64 b128 b256:Bool} (hh1:(bits BinOp.and IntKind.i64 m 1 != 0)=b1) (hh2:(bits BinOp.and IntKind.i64 m 2 != 0)=b2) (hh4:(bits BinOp.and IntKind.i64 m 4 != 0)=b4) (hh8:(bits BinOp.and IntKind.i64 m 8 != 0)=b8) (hh16:(bits BinOp.and IntKind.i64 m 16 != 0)=b16) (hh32:(bits BinOp.and IntKind.i64 m 32 != 0)=b32) (hh64:(bits BinOp.and IntKind.i64 m 64 != 0)=b64) (hh128:(bits BinOp.and IntKind.i64 m 128 != 0)=b128) (hh256:(bits BinOp.and IntKind.i64 m 256 != 0)=b256) (bm:Nat) (ad ad1 ad2:Option Addr) (cap cap1 cap2:Nat) (hB:c.bulk≤2000000) (hm:w.cell? ⟨0,0,none⟩=some (.map (some bm)))
  (hr:RdN w c (.slice ad1 c.ex.sub.length cap1) (.slice ad2 c.ds.length cap2) (.slice ad c.sub.length cap)) (HLS:Hid (LookS w))
  (hc:m=0∨m=15∨m=256∨m=136∨m=272)
  (hlk:∀ W,Below w.heap.size w W→(Instr.lookup 140 (.map (some bm)) (.int .u8 (c.k:Int)) true).run Tryz.prog W = .ok (.tuple #[.int .i64 m,.bool true]) W) :
  Calls Tryz.prog 47 #[c.val (.slice ad1 c.ex.sub.length cap1) (.slice ad2 c.ds.length cap2) (.slice ad c.sub.length cap)] w fun e w' => e = .returned (.bool (nodeP b1 b2 b4 b8 b16 b32 b64 (if b256=true then 2 else if b128=true then 1 else 0) c))∧Below w.heap.size w w':=by
 have hmb:0 < w.heap.size:=World.block_lt_of_cell? w _ hm
 have hlk1:=hlk _ (below_a1 w (.cells #[.int .u8 c.k,.string c.fr,.string c.rc,.string c.nm,.int .u8 c.ex.k,.string c.ex.ra,.string c.ex.nm,.int .i64 c.ex.d,.slice ad1 c.ex.sub.length cap1,.int .i64 c.d,.slice ad2 c.ds.length cap2,.slice ad c.sub.length cap] 51))
 have hbq:=c.bulk_eq
 have hl1:=Con.bulks_len c.sub
 have hk8:=hr.2.2.2.2
 have hB2:c.ex.bulk≤2000000:=by omega
 have hn1:c.sub.length≤2000000:=by omega
 have hn2:c.ds.length≤2000000:=by omega
 have hf1:c.fr.size≤2000000:=by omega
 have hf2:c.rc.size≤2000000:=by omega
 have hf3:c.nm.size≤2000000:=by omega
 have HE:Hid (∀ W,Below w.heap.size w W→RdE W c.ex.sub (.slice ad1 c.ex.sub.length cap1)):=Lib.hid fun W hb => hr.1.frame hb
 have HXb:Hid (∀ W,Below w.heap.size w W→Calls Tryz.prog 77 #[.agg #[.int .u8 c.ex.k,.string c.ex.ra,.string c.ex.nm,.int .i64 c.ex.d,.slice ad1 c.ex.sub.length cap1]] W fun e w' => e = .returned (.bool (c.ex.bare))∧Below W.heap.size W w'):=Lib.hid fun W hb => bare_any c.ex _ W (HE.out W hb)
 have HXn:Hid (∀ W,Below w.heap.size w W→Calls Tryz.prog 84 #[.agg #[.int .u8 c.ex.k,.string c.ex.ra,.string c.ex.nm,.int .i64 c.ex.d,.slice ad1 c.ex.sub.length cap1]] W fun e w' => e = .returned (.bool (c.ex.isA 1))∧Below W.heap.size W w'):=Lib.hid fun W hb => onum_any c.ex _ W hB2 (HE.out W hb) hk8 (HLS.out.frame hb)
 have HXt:Hid (∀ W,Below w.heap.size w W→Calls Tryz.prog 85 #[.agg #[.int .u8 c.ex.k,.string c.ex.ra,.string c.ex.nm,.int .i64 c.ex.d,.slice ad1 c.ex.sub.length cap1]] W fun e w' => e = .returned (.bool (c.ex.isA 2))∧Below W.heap.size W w'):=Lib.hid fun W hb => otruth_any c.ex _ W hB2 (HE.out W hb) hk8 (HLS.out.frame hb)
 have HD:Hid (∀ W,Below w.heap.size w W→Calls Tryz.prog 87 #[.slice ad2 c.ds.length cap2] W fun e w' => e = .returned (.bool (isDays c.ds))∧W=w'):=Lib.hid fun W hb => days_any c.ds _ W hn2 (hr.2.1.frame hb)
 have HY:Hid (∀ W,Calls Tryz.prog 86 #[.int .i64 c.d] W fun e w' => e = .returned (.bool (isDay c.d))∧W=w'):=Lib.hid fun W => cwithin_any c.d W
 clear hlk hbq hl1 hr
 have HR:Hid (nodeP b1 b2 b4 b8 b16 b32 b64 (if b256=true then 2 else if b128=true then 1 else 0) c=(wordB b1 c.fr && (wordB b2 c.rc && (wordB b4 c.nm && (!(b2 && (c.fr.toList == c.rc.toList)) && ((if b8=true then c.ex.isA 1 else if b16=true then c.ex.isA 2 else c.ex.bare) && ((if b32=true then isDay c.d else decide (c.d=0)) && ((if b64=true then isDays c.ds else decide (c.ds.length=0)) && decide (c.sub.length=if b256=true then 2 else if b128=true then 1 else 0))))))))):=Lib.hid (by unfold nodeP;rw [toList_beq])
 generalize nodeP b1 b2 b4 b8 b16 b32 b64 (if b256=true then 2 else if b128=true then 1 else 0) c=R at *
 rcases hc with rfl | rfl | rfl | rfl | rfl
 all_goals
  (cases b8 <;> try (exact absurd hh8 (by decide)))
  (cases b16 <;> try (exact absurd hh16 (by decide)))
  (cases b32 <;> try (exact absurd hh32 (by decide)))
  (cases b64 <;> try (exact absurd hh64 (by decide)))
  (cases b128 <;> try (exact absurd hh128 (by decide)))
  (cases b256 <;> try (exact absurd hh256 (by decide)))
  unfold Con.val
  go_enter Tryz.func47,Tryz.ntmps47
  go_wp2_with fail
  obtain ⟨W,hW,hbW,hzW,q1,q2,q3,q4,q5,q6,q7,q8,q9,q10,q11,q12,q13⟩:=node_world w c ad ad1 ad2 cap cap1 cap2 _
  rw [hW]
  clear hW hlk1
  have HW1:=Lib.hid (word_any _ 1 _ hh1 c.fr hf1 _ _ W q12 q13)
  have HW2:=Lib.hid (word_any _ 2 _ hh2 c.rc hf2 _ _ W q12 q13)
  have HW4:=Lib.hid (word_any _ 4 _ hh4 c.nm hf3 _ _ W q12 q13)
  have H2:=Lib.hid (fun W' hc => has_any _ 2 _ hh2 (w.heap.size+1) W' hc)
  have H8:=Lib.hid (fun W' hc => has_any _ 8 _ hh8 (w.heap.size+1) W' hc)
  have H16:=Lib.hid (fun W' hc => has_any _ 16 _ hh16 (w.heap.size+1) W' hc)
  have H32:=Lib.hid (fun W' hc => has_any _ 32 _ hh32 (w.heap.size+1) W' hc)
  have H64:=Lib.hid (fun W' hc => has_any _ 64 _ hh64 (w.heap.size+1) W' hc)
  have H128:=Lib.hid (fun W' hc => has_any _ 128 _ hh128 (w.heap.size+1) W' hc)
  have H256:=Lib.hid (fun W' hc => has_any _ 256 _ hh256 (w.heap.size+1) W' hc)
  clear hh1 hh2 hh4 hh8 hh16 hh32 hh64 hh128 hh256
  have HK:=Lib.hid (node_keep hbW hzW q9 q10 q11 q12 q13)
  have hx0:w.heap.size < W.heap.size:=by omega
  have hx1:w.heap.size+1 < W.heap.size:=by omega
  have hx2:w.heap.size+1+1 < W.heap.size:=by omega
  clear hzW hm hmb
  generalize wordB b1 c.fr=B1 at *
  generalize wordB b2 c.rc=B2 at *
  generalize wordB b4 c.nm=B3 at *
  generalize c.ex.isA 2=E2 at *
  generalize c.ex.isA 1=E1 at *
  generalize c.ex.bare=E at *
  generalize isDay c.d=DY at *
  generalize isDays c.ds=DS at *
  go_wp2_with (first
   | (go_at_call 83;(first | with_reducible refine HW1.out.mono ?_ | with_reducible refine HW2.out.mono ?_ | with_reducible refine HW4.out.mono ?_);rintro e w1 ⟨rfl,rfl⟩)
   | (go_at_call 82;(first | with_reducible refine (H2.out _ (by assumption)).mono ?_ | with_reducible refine (H8.out _ (by assumption)).mono ?_ | with_reducible refine (H16.out _ (by assumption)).mono ?_ | with_reducible refine (H32.out _ (by assumption)).mono ?_ | with_reducible refine (H64.out _ (by assumption)).mono ?_ | with_reducible refine (H128.out _ (by assumption)).mono ?_ | with_reducible refine (H256.out _ (by assumption)).mono ?_);rintro e w1 ⟨rfl,rfl⟩)
   | (go_at_call 77;refine (HXb.out _ (by assumption)).mono ?_;rintro e W2 ⟨rfl,hb2⟩;obtain ⟨r9,r10,r11,r12,r13,hbW2⟩:=HK.out W2 hb2;clear hb2)
   | (go_at_call 84;refine (HXn.out _ (by assumption)).mono ?_;rintro e W2 ⟨rfl,hb2⟩;obtain ⟨r9,r10,r11,r12,r13,hbW2⟩:=HK.out W2 hb2;clear hb2)
   | (go_at_call 85;refine (HXt.out _ (by assumption)).mono ?_;rintro e W2 ⟨rfl,hb2⟩;obtain ⟨r9,r10,r11,r12,r13,hbW2⟩:=HK.out W2 hb2;clear hb2)
   | (go_at_call 86;refine (HY.out _).mono ?_;rintro e w1 ⟨rfl,rfl⟩)
   | (go_at_call 87;refine (HD.out _ (by assumption)).mono ?_;rintro e w1 ⟨rfl,rfl⟩))
  all_goals
   go_ret
   first
    | exact ⟨ret_bool' (by rw [HR.out];simp [*,len_one,len_two,len_zero]),hbW2⟩
    | exact ⟨ret_bool' (by rw [HR.out];simp [*]),hbW⟩
end Go.Proofs.YthdeijdimfjceaaGreatDoor

namespace Go.Proofs.YthdeijdimfjceaaGreatDoor
open Go.RowKit
set_option maxHeartbeats 60000000 in
set_option maxRecDepth 100000 in
theorem node_mask2 (c:Con) (w:World) (m:Int) {b1 b2 b4 b8 b16 b32 b64 b128 b256:Bool} (hh1:(bits BinOp.and IntKind.i64 m 1 != 0)=b1) (hh2:(bits BinOp.and IntKind.i64 m 2 != 0)=b2) (hh4:(bits BinOp.and IntKind.i64 m 4 != 0)=b4) (hh8:(bits BinOp.and IntKind.i64 m 8 != 0)=b8) (hh16:(bits BinOp.and IntKind.i64 m 16 != 0)=b16) (hh32:(bits BinOp.and IntKind.i64 m 32 != 0)=b32) (hh64:(bits BinOp.and IntKind.i64 m 64 != 0)=b64) (hh128:(bits BinOp.and IntKind.i64 m 128 != 0)=b128) (hh256:(bits BinOp.and IntKind.i64 m 256 != 0)=b256) (bm:Nat) (ad ad1 ad2:Option Addr) (cap cap1 cap2:Nat) (hB:c.bulk≤2000000) (hm:w.cell? ⟨0,0,none⟩=some (.map (some bm)))
  (hr:RdN w c (.slice ad1 c.ex.sub.length cap1) (.slice ad2 c.ds.length cap2) (.slice ad c.sub.length cap)) (HLS:Hid (LookS w))
  (hc:m=160∨m=261∨m=197∨m=208)
  (hlk:∀ W,Below w.heap.size w W→(Instr.lookup 140 (.map (some bm)) (.int .u8 (c.k:Int)) true).run Tryz.prog W = .ok (.tuple #[.int .i64 m,.bool true]) W) :
  Calls Tryz.prog 47 #[c.val (.slice ad1 c.ex.sub.length cap1) (.slice ad2 c.ds.length cap2) (.slice ad c.sub.length cap)] w fun e w' => e = .returned (.bool (nodeP b1 b2 b4 b8 b16 b32 b64 (if b256=true then 2 else if b128=true then 1 else 0) c))∧Below w.heap.size w w':=by
 have hmb:0 < w.heap.size:=World.block_lt_of_cell? w _ hm
 have hlk1:=hlk _ (below_a1 w (.cells #[.int .u8 c.k,.string c.fr,.string c.rc,.string c.nm,.int .u8 c.ex.k,.string c.ex.ra,.string c.ex.nm,.int .i64 c.ex.d,.slice ad1 c.ex.sub.length cap1,.int .i64 c.d,.slice ad2 c.ds.length cap2,.slice ad c.sub.length cap] 51))
 have hbq:=c.bulk_eq
 have hl1:=Con.bulks_len c.sub
 have hk8:=hr.2.2.2.2
 have hB2:c.ex.bulk≤2000000:=by omega
 have hn1:c.sub.length≤2000000:=by omega
 have hn2:c.ds.length≤2000000:=by omega
 have hf1:c.fr.size≤2000000:=by omega
 have hf2:c.rc.size≤2000000:=by omega
 have hf3:c.nm.size≤2000000:=by omega
 have HE:Hid (∀ W,Below w.heap.size w W→RdE W c.ex.sub (.slice ad1 c.ex.sub.length cap1)):=Lib.hid fun W hb => hr.1.frame hb
 have HXb:Hid (∀ W,Below w.heap.size w W→Calls Tryz.prog 77 #[.agg #[.int .u8 c.ex.k,.string c.ex.ra,.string c.ex.nm,.int .i64 c.ex.d,.slice ad1 c.ex.sub.length cap1]] W fun e w' => e = .returned (.bool (c.ex.bare))∧Below W.heap.size W w'):=Lib.hid fun W hb => bare_any c.ex _ W (HE.out W hb)
 have HXn:Hid (∀ W,Below w.heap.size w W→Calls Tryz.prog 84 #[.agg #[.int .u8 c.ex.k,.string c.ex.ra,.string c.ex.nm,.int .i64 c.ex.d,.slice ad1 c.ex.sub.length cap1]] W fun e w' => e = .returned (.bool (c.ex.isA 1))∧Below W.heap.size W w'):=Lib.hid fun W hb => onum_any c.ex _ W hB2 (HE.out W hb) hk8 (HLS.out.frame hb)
 have HXt:Hid (∀ W,Below w.heap.size w W→Calls Tryz.prog 85 #[.agg #[.int .u8 c.ex.k,.string c.ex.ra,.string c.ex.nm,.int .i64 c.ex.d,.slice ad1 c.ex.sub.length cap1]] W fun e w' => e = .returned (.bool (c.ex.isA 2))∧Below W.heap.size W w'):=Lib.hid fun W hb => otruth_any c.ex _ W hB2 (HE.out W hb) hk8 (HLS.out.frame hb)
 have HD:Hid (∀ W,Below w.heap.size w W→Calls Tryz.prog 87 #[.slice ad2 c.ds.length cap2] W fun e w' => e = .returned (.bool (isDays c.ds))∧W=w'):=Lib.hid fun W hb => days_any c.ds _ W hn2 (hr.2.1.frame hb)
 have HY:Hid (∀ W,Calls Tryz.prog 86 #[.int .i64 c.d] W fun e w' => e = .returned (.bool (isDay c.d))∧W=w'):=Lib.hid fun W => cwithin_any c.d W
 clear hlk hbq hl1 hr
 have HR:Hid (nodeP b1 b2 b4 b8 b16 b32 b64 (if b256=true then 2 else if b128=true then 1 else 0) c=(wordB b1 c.fr && (wordB b2 c.rc && (wordB b4 c.nm && (!(b2 && (c.fr.toList == c.rc.toList)) && ((if b8=true then c.ex.isA 1 else if b16=true then c.ex.isA 2 else c.ex.bare) && ((if b32=true then isDay c.d else decide (c.d=0)) && ((if b64=true then isDays c.ds else decide (c.ds.length=0)) && decide (c.sub.length=if b256=true then 2 else if b128=true then 1 else 0))))))))):=Lib.hid (by unfold nodeP;rw [toList_beq])
 generalize nodeP b1 b2 b4 b8 b16 b32 b64 (if b256=true then 2 else if b128=true then 1 else 0) c=R at *
 rcases hc with rfl | rfl | rfl | rfl
 all_goals
  (cases b8 <;> try (exact absurd hh8 (by decide)))
  (cases b16 <;> try (exact absurd hh16 (by decide)))
  (cases b32 <;> try (exact absurd hh32 (by decide)))
  (cases b64 <;> try (exact absurd hh64 (by decide)))
  (cases b128 <;> try (exact absurd hh128 (by decide)))
  (cases b256 <;> try (exact absurd hh256 (by decide)))
  unfold Con.val
  go_enter Tryz.func47,Tryz.ntmps47
  go_wp2_with fail
  obtain ⟨W,hW,hbW,hzW,q1,q2,q3,q4,q5,q6,q7,q8,q9,q10,q11,q12,q13⟩:=node_world w c ad ad1 ad2 cap cap1 cap2 _
  rw [hW]
  clear hW hlk1
  have HW1:=Lib.hid (word_any _ 1 _ hh1 c.fr hf1 _ _ W q12 q13)
  have HW2:=Lib.hid (word_any _ 2 _ hh2 c.rc hf2 _ _ W q12 q13)
  have HW4:=Lib.hid (word_any _ 4 _ hh4 c.nm hf3 _ _ W q12 q13)
  have H2:=Lib.hid (fun W' hc => has_any _ 2 _ hh2 (w.heap.size+1) W' hc)
  have H8:=Lib.hid (fun W' hc => has_any _ 8 _ hh8 (w.heap.size+1) W' hc)
  have H16:=Lib.hid (fun W' hc => has_any _ 16 _ hh16 (w.heap.size+1) W' hc)
  have H32:=Lib.hid (fun W' hc => has_any _ 32 _ hh32 (w.heap.size+1) W' hc)
  have H64:=Lib.hid (fun W' hc => has_any _ 64 _ hh64 (w.heap.size+1) W' hc)
  have H128:=Lib.hid (fun W' hc => has_any _ 128 _ hh128 (w.heap.size+1) W' hc)
  have H256:=Lib.hid (fun W' hc => has_any _ 256 _ hh256 (w.heap.size+1) W' hc)
  clear hh1 hh2 hh4 hh8 hh16 hh32 hh64 hh128 hh256
  have HK:=Lib.hid (node_keep hbW hzW q9 q10 q11 q12 q13)
  have hx0:w.heap.size < W.heap.size:=by omega
  have hx1:w.heap.size+1 < W.heap.size:=by omega
  have hx2:w.heap.size+1+1 < W.heap.size:=by omega
  clear hzW hm hmb
  generalize wordB b1 c.fr=B1 at *
  generalize wordB b2 c.rc=B2 at *
  generalize wordB b4 c.nm=B3 at *
  generalize c.ex.isA 2=E2 at *
  generalize c.ex.isA 1=E1 at *
  generalize c.ex.bare=E at *
  generalize isDay c.d=DY at *
  generalize isDays c.ds=DS at *
  go_wp2_with (first
   | (go_at_call 83;(first | with_reducible refine HW1.out.mono ?_ | with_reducible refine HW2.out.mono ?_ | with_reducible refine HW4.out.mono ?_);rintro e w1 ⟨rfl,rfl⟩)
   | (go_at_call 82;(first | with_reducible refine (H2.out _ (by assumption)).mono ?_ | with_reducible refine (H8.out _ (by assumption)).mono ?_ | with_reducible refine (H16.out _ (by assumption)).mono ?_ | with_reducible refine (H32.out _ (by assumption)).mono ?_ | with_reducible refine (H64.out _ (by assumption)).mono ?_ | with_reducible refine (H128.out _ (by assumption)).mono ?_ | with_reducible refine (H256.out _ (by assumption)).mono ?_);rintro e w1 ⟨rfl,rfl⟩)
   | (go_at_call 77;refine (HXb.out _ (by assumption)).mono ?_;rintro e W2 ⟨rfl,hb2⟩;obtain ⟨r9,r10,r11,r12,r13,hbW2⟩:=HK.out W2 hb2;clear hb2)
   | (go_at_call 84;refine (HXn.out _ (by assumption)).mono ?_;rintro e W2 ⟨rfl,hb2⟩;obtain ⟨r9,r10,r11,r12,r13,hbW2⟩:=HK.out W2 hb2;clear hb2)
   | (go_at_call 85;refine (HXt.out _ (by assumption)).mono ?_;rintro e W2 ⟨rfl,hb2⟩;obtain ⟨r9,r10,r11,r12,r13,hbW2⟩:=HK.out W2 hb2;clear hb2)
   | (go_at_call 86;refine (HY.out _).mono ?_;rintro e w1 ⟨rfl,rfl⟩)
   | (go_at_call 87;refine (HD.out _ (by assumption)).mono ?_;rintro e w1 ⟨rfl,rfl⟩))
  all_goals
   go_ret
   first
    | exact ⟨ret_bool' (by rw [HR.out];simp [*,len_one,len_two]),hbW2⟩
    | exact ⟨ret_bool' (by rw [HR.out];simp [*]),hbW⟩
end Go.Proofs.YthdeijdimfjceaaGreatDoor

namespace Go.Proofs.YthdeijdimfjceaaGreatDoor
open Go.RowKit
theorem nodeOk_none {c:Con} (h:partOf c.k=none):nodeOk c=false:=by
 unfold partOf at h
 repeat' split at h
 all_goals first
  | (cases h;done)
  | skip
 unfold nodeOk
 simp [*]
theorem nodeOk_some {c:Con}:∀ {m:Nat},partOf c.k=some m →
  (m=0∧nodeOk c=nodeP false false false false false false false 0 c)∨(m=15∧nodeOk c=nodeP true true true true false false false 0 c)∨(m=256∧nodeOk c=nodeP false false false false false false false 2 c) ∨
  (m=136∧nodeOk c=nodeP false false false true false false false 1 c)∨(m=272∧nodeOk c=nodeP false false false false true false false 2 c)∨(m=160∧nodeOk c=nodeP false false false false false true false 1 c) ∨
  (m=261∧nodeOk c=nodeP true false true false false false false 2 c)∨(m=197∧nodeOk c=nodeP true false true false false false true 1 c)∨(m=208∧nodeOk c=nodeP false false false false true false true 1 c):=by
 intro m h
 unfold partOf at h
 repeat' split at h
 all_goals first
  | (cases h;done)
  | (rename_i hk
     cases h
     simp only [Nat.reduceEqDiff,false_and,true_and,false_or,or_false]
     unfold nodeOk nodeP wordB
     first
      | (rw [hk]
         simp (decide:=true) only [if_true,if_false,Bool.false_and,Bool.not_false,Bool.true_and]
         ac_rfl)
      | (rcases hk with hk | hk <;> rw [hk] <;> simp (decide:=true) only [if_true,if_false,Bool.false_and,Bool.not_false,Bool.true_and] <;> ac_rfl))
set_option maxHeartbeats 1000000 in
set_option maxRecDepth 100000 in
theorem node_any (c:Con) (es dd ss:Value) (w:World) (hB:c.bulk≤2000000) (hr:RdN w c es dd ss) (hS:LookS w) (hP:LookP w) :
  Calls Tryz.prog 47 #[c.val es dd ss] w fun e w' => e = .returned (.bool (nodeOk c))∧Below w.heap.size w w':=by
 obtain ⟨ad,cap,rfl⟩:=hr.2.2.1.len
 obtain ⟨ad1,cap1,rfl⟩:=hr.1.len
 obtain ⟨ad2,cap2,rfl⟩:=hr.2.1.len
 obtain ⟨bm,hm,hlk⟩:=hP
 have hk8:=hr.2.2.2.1
 cases hp:partOf c.k with
 | none =>
  have HF:Hid (nodeOk c=false):=nodeOk_none hp
  have hmb:0 < w.heap.size:=World.block_lt_of_cell? w _ hm
  have hlk1:=hlk _ (below_a1 w (.cells #[.int .u8 c.k,.string c.fr,.string c.rc,.string c.nm,.int .u8 c.ex.k,.string c.ex.ra,.string c.ex.nm,.int .i64 c.ex.d,.slice ad1 c.ex.sub.length cap1,.int .i64 c.d,.slice ad2 c.ds.length cap2,.slice ad c.sub.length cap] 51)) c.k hk8
  have hbW:=below_a2 w (.cells #[.int .u8 c.k,.string c.fr,.string c.rc,.string c.nm,.int .u8 c.ex.k,.string c.ex.ra,.string c.ex.nm,.int .i64 c.ex.d,.slice ad1 c.ex.sub.length cap1,.int .i64 c.d,.slice ad2 c.ds.length cap2,.slice ad c.sub.length cap] 51) (.cells #[.int .i64 0] 3)
  rw [hp] at hlk1
  unfold PartAt at hlk1
  clear hlk hr hp
  unfold Con.val
  go_enter Tryz.func47,Tryz.ntmps47
  go_wp2_with fail
  go_ret
  exact ⟨ret_bool' HF.out.symm,hbW⟩
 | some m =>
  have hlk2:∀ W,Below w.heap.size w W→(Instr.lookup 140 (.map (some bm)) (.int .u8 (c.k:Int)) true).run Tryz.prog W = .ok (.tuple #[.int .i64 (m:Int),.bool true]) W:=fun W hb => by
   have h:=hlk W hb c.k hk8
   rw [hp] at h
   exact h
  rcases nodeOk_some hp with ⟨rfl,e⟩ | ⟨rfl,e⟩ | ⟨rfl,e⟩ | ⟨rfl,e⟩ | ⟨rfl,e⟩ | ⟨rfl,e⟩ | ⟨rfl,e⟩ | ⟨rfl,e⟩ | ⟨rfl,e⟩ <;> rw [e]
  all_goals first
   | exact node_mask (b128:=false) (b256:=false) c w _ (by decide) (by decide) (by decide) (by decide) (by decide) (by decide) (by decide) (by decide) (by decide) bm ad ad1 ad2 cap cap1 cap2 hB hm hr (Lib.hid hS) (by decide) hlk2
   | exact node_mask (b128:=true) (b256:=false) c w _ (by decide) (by decide) (by decide) (by decide) (by decide) (by decide) (by decide) (by decide) (by decide) bm ad ad1 ad2 cap cap1 cap2 hB hm hr (Lib.hid hS) (by decide) hlk2
   | exact node_mask (b128:=false) (b256:=true) c w _ (by decide) (by decide) (by decide) (by decide) (by decide) (by decide) (by decide) (by decide) (by decide) bm ad ad1 ad2 cap cap1 cap2 hB hm hr (Lib.hid hS) (by decide) hlk2
   | exact node_mask2 (b128:=true) (b256:=false) c w _ (by decide) (by decide) (by decide) (by decide) (by decide) (by decide) (by decide) (by decide) (by decide) bm ad ad1 ad2 cap cap1 cap2 hB hm hr (Lib.hid hS) (by decide) hlk2
   | exact node_mask2 (b128:=false) (b256:=true) c w _ (by decide) (by decide) (by decide) (by decide) (by decide) (by decide) (by decide) (by decide) (by decide) bm ad ad1 ad2 cap cap1 cap2 hB hm hr (Lib.hid hS) (by decide) hlk2
end Go.Proofs.YthdeijdimfjceaaGreatDoor
