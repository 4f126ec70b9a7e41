/- A part. -/
import Derived.Test.YthdeijdimfjceaaGreatDoorA13
import Derived.Laws.AppendOwnNone
import Derived.OwnWalk
import Derived.Defers
import Derived.Recover
import Derived.StillTail
import Derived.RegionTactic
import Derived.Laws.IdiomCopy
namespace Go.Proofs.YthdeijdimfjceaaGreatDoor
open Go.RowKit
theorem ul_flows:Tryz.prog.underlying 90=some (.slice 134):=by kernel_rfl
theorem info_flow:(Tryz.prog.info? 134).map (fun i => (i.zero,i.size,i.bytes))=some (some (.agg #[.int .i64 0,.string ⟨#[]⟩,.string ⟨#[]⟩,.string ⟨#[]⟩,.string ⟨#[]⟩]),5,72):=by kernel_rfl
theorem fl_oneCell (l:List Fl):∀ u ∈ l.flatMap Fl.cells,u.oneCell'=true:=by
 intro u hu
 obtain ⟨f,_,hf⟩:=List.mem_flatMap.1 hu
 simp [Fl.cells] at hf
 rcases hf with rfl | rfl | rfl | rfl | rfl <;> rfl
theorem own_shape5 {w:World} {base:Nat} {e:TypeId} {m:Nat} {v:Value} {n:Nat} {xs:List Value} (h:w.ownsRow base e m v n xs):∃ ad cap,v = .slice ad n cap:=by
 rcases h.2 with ⟨rfl,rfl⟩ | ⟨g,cap,_,rfl,_⟩
 ·exact ⟨_,_,rfl⟩
 ·exact ⟨_,_,rfl⟩
theorem wpList_append_flows {w:World} {ops:Array Oper} {rest:List Oper} {o:Oper} {a:Act} {Q:Exit→Act→World→Prop} (hgd:o.guard=none) (s x:Operand)
  (ho:o.op = .call { callee:=.builtin .append,args:=#[s,x],argTypes:=#[90,90] }) (base base2:Nat) (v v2:Value) (l m:List Fl)
  (hs:a.eval s=v) (hown:w.ownsRow base 134 5 v l.length (l.flatMap Fl.cells)) (hx:a.eval x=v2) (hown2:w.ownsRow base2 134 5 v2 m.length (m.flatMap Fl.cells))
  (hlen:l.length+m.length≤10000000) (hbase:base≤w.heap.size)
  (h:∀ v' w',w'.ownsRow base 134 5 v' (l ++ m).length ((l ++ m).flatMap Fl.cells)→Below base w w'→wpList Tryz.prog ops Q rest (a.put o.dst v') w'):wpList Tryz.prog ops Q (o :: rest) a w:=by
 obtain ⟨i0,hi,hz0,hz1,hz2⟩:=info_parts info_flow
 rcases hown2.2 with ⟨rfl,hm⟩ | ⟨g,cap,cur,rfl,hg,_⟩
 ·obtain rfl:=List.length_eq_zero_iff.1 hm
  refine wpList_append_own_none hgd s x 90 ho base 134 i0 5 ul_flows hi v _ _ hs hown hx ?_
  exact h v w (by rw [List.append_nil];exact hown) (Below.refl _ _)
 ·refine wpList_append_own w hgd s x 90 ho base 134 i0 _ 5 72 ul_flows hi hz0 hz1 hz2 rfl (by decide) v l.length _ hs hown ⟨g,0,none⟩ m.length cap (m.flatMap Fl.cells) hx hown2.1 (hown2.cells rfl) (fl_oneCell m) (by unfold maxLen;omega) (by omega) hbase ?_
  intro v' w' h1 h2 _
  exact h v' w' (by rw [List.length_append,List.flatMap_append];exact h1) ((Below.refl base w).grown h2 hbase (fun k hk => (hown.lt k hk).1))
theorem step_append_flows {w:World} {ops:Array Oper} {o:Oper} {a:Act} {K:Act→World→Prop} {Q:Exit→Act→World→Prop} {E:Prop} (hgd:o.guard=none) (s x:Operand)
  (ho:o.op = .call { callee:=.builtin .append,args:=#[s,x],argTypes:=#[90,90] }) (base base2:Nat) (v v2:Value) (l m:List Fl)
  (hs:a.eval s=v) (hown:w.ownsRow base 134 5 v l.length (l.flatMap Fl.cells)) (hx:a.eval x=v2) (hown2:w.ownsRow base2 134 5 v2 m.length (m.flatMap Fl.cells))
  (hlen:l.length+m.length≤10000000) (hbase:base≤w.heap.size)
  (h:∀ v' w',w'.ownsRow base 134 5 v' (l ++ m).length ((l ++ m).flatMap Fl.cells)→Below base w w'→K (a.put o.dst v') w'):if Region.wanted o (yielded ops a.tmps)=true then Oper.wp Tryz.prog o a w K Q else E:=by
 obtain ⟨i0,hi,hz0,hz1,hz2⟩:=info_parts info_flow
 have hw:Region.wanted o (yielded ops a.tmps)=true:=by simp [Region.wanted,hgd]
 rw [if_pos hw]
 rcases hown2.2 with ⟨rfl,hm⟩ | ⟨g,cap,cur,rfl,hg,_⟩
 ·obtain rfl:=List.length_eq_zero_iff.1 hm
  have hrun:=run_append_owned_none (P:=Tryz.prog) (w:=w) base 90 o.type 134 i0 5 ul_flows hi v _ _ hown
  unfold Oper.wp
  simp [execOp,ho,resolve,invoke,builtin,hs,hx,hrun,Result.andThen]
  exact h v w (by rw [List.append_nil];exact hown) (Below.refl _ _)
 ·refine wp_append_own w s x 90 ho base 134 i0 _ 5 72 ul_flows hi hz0 hz1 hz2 rfl (by decide) v l.length _ hs hown ⟨g,0,none⟩ m.length cap (m.flatMap Fl.cells) hx hown2.1 (hown2.cells rfl) (fl_oneCell m) (by unfold maxLen;omega) (by omega) hbase ?_
  intro v' w' h1 h2 _
  exact h v' w' (by rw [List.length_append,List.flatMap_append];exact h1) ((Below.refl base w).grown h2 hbase (fun k hk => (hown.lt k hk).1))
def okV (v:ByteArray):Prop:=0 < v.size∧v.size≤1000000
theorem istr_pos (g:Bool) (n:Nat):0 < (istr g n).length:=by
 by_cases h:n=0
 ·subst h;simp [istr]
 ·have:=(canon_istr g n)
  cases hl:istr g n with
  | nil => rw [hl] at this;exact absurd this (by decide)
  | cons _ _ => simp
theorem ratTxt_pos (sg:Bool) (N D:Nat):0 < (ratTxt sg N D).length:=by
 unfold ratTxt
 split
 ·exact istr_pos _ _
 ·rw [List.length_append,List.length_append]
  have:=istr_pos sg (N / Nat.gcd N D)
  omega
theorem sumS_ok {a b:ByteArray} {z:Int} (h:sumE a b z=0):okV (mkB (sumS a b z)):=by
 refine ⟨?_,by rw [mkB_size];exact Nat.le_trans (sumS_len _ _ _) (by decide)⟩
 rw [mkB_size,sumS,if_pos h]
 exact ratTxt_pos _ _ _
theorem mulS_ok {a b:ByteArray} (h:mulE a b=0):okV (mkB (mulS a b)):=by
 refine ⟨?_,Nat.le_trans (mulS_size a b) (by decide)⟩
 rw [mkB_size]
 unfold mulS frS
 rw [if_pos (show frE a b _ _=0 from h)]
 exact ratTxt_pos _ _ _
theorem op2_ok {k:Nat} {a b:ByteArray} (ha:okV a) (hb:okV b) (h:(op2 k a b).1=0):okV (op2 k a b).2:=by
 unfold op2 at h ⊢
 by_cases h4:k=4
 ·rw [if_pos h4] at h ⊢;exact sumS_ok h
 rw [if_neg h4] at h ⊢
 by_cases h5:k=5
 ·rw [if_pos h5] at h ⊢;exact sumS_ok h
 rw [if_neg h5] at h ⊢
 by_cases h6:k=6
 ·rw [if_pos h6] at h ⊢;exact mulS_ok h
 rw [if_neg h6]
 by_cases h7:k=7
 ·rw [if_pos h7]
  show okV (if cmpV a b < 0 then b else a)
  split <;> assumption
 ·rw [if_neg h7]
  show okV (if cmpV b a < 0 then b else a)
  split <;> assumption
theorem andR_ok {α β:Type} {a:Int × α} {z:β} {f:α→Int × β} (h:(andR a z f).1=0):a.1=0∧andR a z f=f a.2:=by
 unfold andR at h ⊢
 by_cases h0:a.1=0
 ·rw [if_neg (fun k => k h0)];exact ⟨h0,rfl⟩
 ·rw [if_pos h0] at h;exact absurd h h0
theorem value_ok {F:List Fx} (hF:∀ f ∈ F,ratErr f.vl=0) (day:Int):∀ (N:Nat) (x:Ex),x.bulk≤N→x.sort=1→(x.value F day).1=0→okV (x.value F day).2
 | 0,x,hN,_,_ => by have:=x.sub_lt;omega
 | N+1,.mk k ra nm d l,hN,hs,h0 => by
  have IH:∀ y ∈ l,y.sort=1→(y.value F day).1=0→okV (y.value F day).2:=fun y hy => value_ok hF day N y (by have:=Ex.mem_lt (x:=.mk k ra nm d l) hy;omega)
  have rk:∀ {v:ByteArray},ratErr v=0→okV v:=fun h => ⟨(rat_size h).2,Nat.le_trans (rat_size h).1 (by decide)⟩
  have fk:∀ nm d,(fixR F nm d).1=0→okV (fixR F nm d).2:=fun nm d h => by
   rw [fixR_eq] at h ⊢
   cases hf:F.find? (fxIs ⟨nm,d,⟨#[]⟩⟩) with
   | none => rw [hf] at h;cases h
   | some f => exact rk (hF f (List.mem_of_find?_eq_some hf))
  rcases num_cases hs with ⟨rfl,rfl,h3⟩ | ⟨rfl,rfl⟩ | ⟨rfl,rfl⟩ | ⟨rfl,p,y,z,rfl,h1,h2,h3⟩ | ⟨h4,h8,y,z,rfl,h1,h2⟩
  ·have e:(Ex.mk 1 ra nm d []).value F day=(0,ra):=by simp [Ex.value]
   rw [e];exact rk h3
  ·have e:(Ex.mk 2 ra nm d []).value F day=fixR F nm d:=by simp [Ex.value]
   rw [e] at h0 ⊢;exact fk _ _ h0
  ·have e:(Ex.mk 3 ra nm d []).value F day=fixR F nm day:=by simp [Ex.value]
   rw [e] at h0 ⊢;exact fk _ _ h0
  ·have e:(Ex.mk 9 ra nm d [p,y,z]).value F day=andR (p.hold F day) ByteArray.empty fun b => if b=true then y.value F day else z.value F day:=by
    rw [Ex.value,if_neg (by decide),if_neg (by decide),if_neg (by decide)]
   rw [e] at h0 ⊢
   obtain ⟨_,e2⟩:=andR_ok h0
   rw [e2] at h0 ⊢
   by_cases hb:(p.hold F day).2=true
   ·rw [if_pos hb] at h0 ⊢;exact IH y (by simp) h2 h0
   ·rw [if_neg hb] at h0 ⊢;exact IH z (by simp) h3 h0
  ·have e:(Ex.mk k ra nm d [y,z]).value F day=andR (y.value F day) ByteArray.empty fun a => andR (z.value F day) ByteArray.empty fun b => op2 k a b:=by
    rw [Ex.value,if_neg (by omega),if_neg (by omega),if_neg (by omega)]
   rw [e] at h0 ⊢
   obtain ⟨k1,e2⟩:=andR_ok h0
   rw [e2] at h0 ⊢
   obtain ⟨k2,e3⟩:=andR_ok h0
   rw [e3] at h0 ⊢
   exact op2_ok (IH y (by simp) h1 k1) (IH z (by simp) h2 k2) h0
theorem paidS_len (d:Int) (fr rc cy am:ByteArray):(paidS d fr rc cy am).length≤1:=by
 unfold paidS
 repeat' split
 all_goals simp
theorem andR_len {α β:Type} (a:Int × α) (f:α→Int × List β) (n:Nat) (h:(f a.2).2.length≤n):(andR a [] f).2.length≤n:=by
 unfold andR
 split
 ·exact Nat.zero_le _
 ·exact h
theorem mulAll_len (k:ByteArray):∀ l:List Fl,(mulAll k l).2.length≤l.length
 | [] => Nat.le_refl _
 | f :: l => by
  unfold mulAll
  refine andR_len _ _ _ (andR_len _ _ _ ?_)
  have h1:=mulAll_len k l
  have h2:=paidS_len f.d f.fr f.rc f.cy (mulE f.am k,mkB (mulS f.am k)).2
  rw [List.length_append,List.length_cons]
  omega
theorem flows_len (F:List Fx) (C:List Ch):∀ (N:Nat) (c:Con),c.bulk≤N→∀ day fin,(c.flows F C day fin).2.length≤c.bulk
 | 0,c,hN => by have:=c.sub_lt;omega
 | N+1,.mk k fr rc nm ex d ds l,hN => fun day fin => by
  have IH:∀ y ∈ l,∀ day fin,(y.flows F C day fin).2.length≤y.bulk:=fun y hy => flows_len F C N y (by have:=Con.mem_lt (x:=.mk k fr rc nm ex d ds l) hy;omega)
  have hb:=Con.bulk_eq (.mk k fr rc nm ex d ds l)
  simp only [Con.fr,Con.rc,Con.nm,Con.ex,Con.ds,Con.sub] at hb
  generalize (Con.mk k fr rc nm ex d ds l).bulk=M at hb ⊢
  unfold Con.flows
  split
  ·exact Nat.zero_le _
  ·match l,IH,hb with
   | [],_,_ =>
    dsimp only
    split
    ·exact andR_len _ _ _ (Nat.le_trans (paidS_len _ _ _ _ _) (by omega))
    ·exact Nat.zero_le _
   | [x],IH,hb =>
    have hx:=IH x (by simp)
    simp only [Con.bulks] at hb
    dsimp only
    repeat' split
    all_goals first
     | exact Nat.zero_le _
     | exact Nat.le_trans (hx _ _) (by omega)
     | exact andR_len _ _ _ (Nat.le_trans (hx _ _) (by omega))
     | exact andR_len _ _ _ (andR_len _ _ _ (Nat.le_trans (mulAll_len _ _) (Nat.le_trans (hx _ _) (by omega))))
   | [x,y],IH,hb =>
    have hx:=IH x (by simp)
    have hy:=IH y (by simp)
    simp only [Con.bulks] at hb
    dsimp only
    repeat' split
    all_goals first
     | exact Nat.le_trans (hx _ _) (by omega)
     | exact Nat.le_trans (hy _ _) (by omega)
     | (refine andR_len _ _ _ (andR_len _ _ _ ?_);rw [List.length_append];have:=hx day fin;have:=hy day fin;omega)
     | (refine andR_len _ _ _ ?_;split;exact Nat.le_trans (hx _ _) (by omega);exact Nat.le_trans (hy _ _) (by omega))
   | _ :: _ :: _ :: _,_,_ => exact Nat.zero_le _
end Go.Proofs.YthdeijdimfjceaaGreatDoor

namespace Go.Proofs.YthdeijdimfjceaaGreatDoor
open Go.RowKit
set_option maxRecDepth 100000 in
theorem bef1_any (x y:Fl) (w:World):Calls Tryz.prog 108 #[.agg #[.int .i64 x.d,.string x.fr,.string x.rc,.string x.cy,.string x.am],.agg #[.int .i64 y.d,.string y.fr,.string y.rc,.string y.cy,.string y.am]] w fun e w' => e = .returned (.bool (decide (x.d < y.d)))∧Below w.heap.size w w':=by
 go_enter Tryz.func108,Tryz.ntmps108
 go_wp2
 go_ret
 exact ⟨rfl,below_a2 _ _ _⟩
theorem Rd.head {w:World} {ad:Option Addr} {x:Fl} {l:List Fl} (h:Rd Fl.cells 5 w ad (x :: l)):∃ b off,ad=some ⟨b,off,none⟩∧b < w.heap.size∧(∀ W,Below w.heap.size w W→W.cell? ⟨b,off,none⟩=some (.int .i64 x.d)∧W.cell? ⟨b,off+1,none⟩=some (.string x.fr)∧W.cell? ⟨b,off+2,none⟩=some (.string x.rc)∧W.cell? ⟨b,off+3,none⟩=some (.string x.cy)∧W.cell? ⟨b,off+4,none⟩=some (.string x.am))∧Rd Fl.cells 5 w (some ⟨b,off+5,none⟩) l:=by
 obtain ⟨b,off,rfl,c0,c1,c2,c3,c4⟩:=h.fl (j:=0) rfl
 rw [Nat.zero_mul,Nat.add_zero] at c0 c1 c2 c3 c4
 have hk:∀ {W:World} {p:Addr} {u:Value},Below w.heap.size w W→w.cell? p=some u→W.cell? p=some u:=fun {W p u} hb hu => by rw [hb.cell (p:=p) (World.block_lt_of_cell? w _ hu)];exact hu
 refine ⟨b,off,rfl,World.block_lt_of_cell? w _ c0,fun W hb => ⟨hk hb c0,hk hb c1,hk hb c2,hk hb c3,hk hb c4⟩,fun j y hj => ?_⟩
 obtain ⟨b',off',e,h3⟩:=h (j+1) y (by simpa using hj)
 obtain ⟨rfl,rfl⟩:b=b'∧off=off':=by simpa using e
 refine ⟨b,off+5,rfl,fun i u hu => ?_⟩
 have:=h3 i u hu
 rw [show off+5+j * 5+i=off+(j+1) * 5+i by omega]
 exact this
theorem Rd.nil (w:World) (ad:Option Addr):Rd Fl.cells 5 w ad []:=fun j x h => by simp at h
theorem own_fl1 (w:World) (f:Fl) (base:Nat) (hb:base≤w.heap.size):(w.alloc (.cells #[.int .i64 f.d,.string f.fr,.string f.rc,.string f.cy,.string f.am] 134)).ownsRow base 134 5 (.slice (some ⟨w.heap.size,0,none⟩) 1 1) [f].length ([f].flatMap Fl.cells):=ownsRow_base' (own_new w f).2 hb
theorem wpList_append_rd {w:World} {ops:Array Oper} {rest:List Oper} {o:Oper} {a:Act} {Q:Exit→Act→World→Prop} (hgd:o.guard=none) (s x:Operand)
  (ho:o.op = .call { callee:=.builtin .append,args:=#[s,x],argTypes:=#[90,90] }) (base:Nat) (v:Value) (ad:Option Addr) (c:Nat) (l m:List Fl)
  (hs:a.eval s=v) (hown:w.ownsRow base 134 5 v l.length (l.flatMap Fl.cells)) (hx:a.eval x = .slice ad m.length c) (hm:Rd Fl.cells 5 w ad m) (hc:ad=none→c=0)
  (hlen:l.length+m.length≤10000000) (hbase:base≤w.heap.size)
  (h:∀ v' w',w'.ownsRow base 134 5 v' (l ++ m).length ((l ++ m).flatMap Fl.cells)→Below base w w'→wpList Tryz.prog ops Q rest (a.put o.dst v') w'):wpList Tryz.prog ops Q (o :: rest) a w:=by
 obtain ⟨i0,hi,hz0,hz1,hz2⟩:=info_parts info_flow
 cases ad with
 | none =>
  obtain rfl:=hc rfl
  obtain rfl:m=[]:=by
   cases m with
   | nil => rfl
   | cons y m => obtain ⟨_,_,e,_⟩:=hm.head;cases e
  refine wpList_append_own_none hgd s x 90 ho base 134 i0 5 ul_flows hi v _ _ hs hown hx ?_
  exact h v w (by rw [List.append_nil];exact hown) (Below.refl _ _)
 | some ad =>
  refine wpList_append_own w hgd s x 90 ho base 134 i0 _ 5 72 ul_flows hi hz0 hz1 hz2 rfl (by decide) v l.length _ hs hown ad m.length c (m.flatMap Fl.cells) hx (flat_length Fl.cells 5 (fun _ => rfl) m) (fun j u hj => ?_) (fl_oneCell m) (by unfold maxLen;omega) (by omega) hbase ?_
  ·have hj5:j / 5 < m.length:=by
    have h1:=(List.getElem?_eq_some_iff.1 hj).1
    rw [flat_length Fl.cells 5 (fun _ => rfl) m] at h1
    omega
   obtain ⟨f,hf⟩:∃ f,m[j / 5]? = some f:=⟨_,List.getElem?_eq_getElem hj5⟩
   obtain ⟨b,off,e,h3⟩:=hm (j / 5) f hf
   cases e
   obtain ⟨u',hu'⟩:∃ u',(Fl.cells f)[j % 5]? = some u':=⟨_,List.getElem?_eq_getElem (show j % 5 < 5 from Nat.mod_lt _ (by decide))⟩
   have h4:=flat_get Fl.cells 5 (fun _ => rfl) m (j / 5) f (j % 5) u' hf hu'
   rw [show j / 5 * 5+j % 5=j by omega,hj] at h4
   cases h4
   have h5:=h3 (j % 5) u hu'
   rw [show off+j / 5 * 5+j % 5=off+j by omega] at h5
   rw [show Addr.add ⟨b,off,none⟩ j=⟨b,off+j,none⟩ by unfold Addr.add;split <;> simp_all]
   exact h5
  ·intro v' w' h1 h2 _
   exact h v' w' (by rw [List.length_append,List.flatMap_append];exact h1) ((Below.refl base w).grown h2 hbase (fun k hk => (hown.lt k hk).1))
def slN:Value→Nat
 | .slice _ n _ => n
 | _ => 0
set_option maxHeartbeats 4000000 in
set_option maxRecDepth 100000 in
theorem merge_any (A B:List Fl) (aa ab:Option Addr) (ca cb:Nat) (w:World) (hA:Rd Fl.cells 5 w aa A) (hB:Rd Fl.cells 5 w ab B) (la:A.length≤ca) (lb:B.length≤cb) (na:aa=none→ca=0) (nb:ab=none→cb=0) (hn:A.length+B.length≤5000000) :
  Calls Tryz.prog 127 #[.slice aa A.length ca,.slice ab B.length cb,.func (.func 108) #[] #[]] w fun e w' => ∃ v,e = .returned v∧OwnFl w w' (mrgFl A B) v∧Below w.heap.size w w':=by
 have HA:=Lib.hid hA
 have HB:=Lib.hid hB
 have HNa:=Lib.hid na
 have HNb:=Lib.hid nb
 clear hA hB na nb
 go_enter Tryz.func127,Tryz.ntmps127
 go_wp2_with fail
 go_loopw [0,1,7] (fun av bv ov wr => ∃ (A1 B1 acc:List Fl) (a1 b1 oa:Option Addr) (c1 d1 oc:Nat),av = .slice a1 A1.length c1∧bv = .slice b1 B1.length d1∧ov = .slice oa acc.length oc∧A1.length≤c1∧B1.length≤d1∧A1.length+B1.length+acc.length=A.length+B.length∧Hid (Rd Fl.cells 5 w a1 A1∧Rd Fl.cells 5 w b1 B1∧(a1=none→c1=0)∧(b1=none→d1=0))∧Hid (mrgFl A B=acc ++ mrgFl A1 B1)∧Hid (wr.ownsRow w.heap.size 134 5 (.slice oa acc.length oc) acc.length (acc.flatMap Fl.cells))∧Hid (Below w.heap.size w wr)∧w.heap.size≤wr.heap.size) (fun av bv _ _ => slN av+slN bv)
 case atStart => exact ⟨A,B,[],aa,ab,none,ca,cb,0,rfl,rfl,rfl,la,lb,rfl,Lib.hid ⟨HA.out,HB.out,HNa.out,HNb.out⟩,Lib.hid rfl,Lib.hid (World.ownsRow_nil _ _ _ _),Lib.hid (Below.refl _ _),Nat.le_refl _⟩
 case round =>
  obtain ⟨A1,B1,acc,a1,b1,oa,c1,d1,oc,rfl,rfl,rfl,l1,l2,hsum,HR,HM,HO,HBl,hz⟩:=hrel
  clear HA HB HNa HNb
  cases A1 with
  | nil =>
   have r1:=(HR.out.1).below HBl.out
   have r2:=HR.out.2.1
   obtain ⟨n1,n2⟩:=HR.out.2.2
   have HM1:mrgFl A B=(acc ++ ([]:List Fl)) ++ B1:=by rw [HM.out,nil_mrgFl,List.append_nil]
   have hO:=HO.out
   have hBl:=HBl.out
   clear HO HR HM HBl
   have hq1:acc.length+([]:List Fl).length≤10000000:=by omega
   have hq2:acc.length+([]:List Fl).length+B1.length≤10000000:=by omega
   go_upto_region 6 with (fail)
   generalize hLA:([]:List Fl)=LA at *
   generalize hLB:B1=LB at *
   have HM1:=Lib.hid HM1
   go_wp2_with (at_builtin;refine wpList_append_rd rfl _ _ rfl w.heap.size _ a1 c1 acc LA rfl hO rfl r1 n1 hq1 hz ?_)
   intro v2 w2 hO2 hb2
   have hz2:=Nat.le_trans hz hb2.size
   have r3:=r2.below (hBl.trans hb2)
   have hq3:(acc ++ LA).length+LB.length≤10000000:=by rw [List.length_append];exact hq2
   have HM2:=HM1.out
   generalize hL2:acc ++ LA=L2 at hq3 HM2
   replace hO2:w2.ownsRow w.heap.size 134 5 v2 L2.length (L2.flatMap Fl.cells):=by rw [← hL2,List.length_append,List.flatMap_append];exact hO2
   have HM3:=Lib.hid HM2
   clear HM2
   go_wp2_with (at_builtin;refine wpList_append_rd rfl _ _ rfl w.heap.size _ b1 d1 L2 LB rfl hO2 rfl r3 n2 hq3 hz2 ?_)
   intro v3 w3 hO3 hb3
   replace hO3:w3.ownsRow w.heap.size 134 5 v3 (L2 ++ LB).length ((L2 ++ LB).flatMap Fl.cells):=by rw [List.length_append,List.flatMap_append];exact hO3
   have HF:Hid (OwnFl w w3 (mrgFl A B) v3∧Below w.heap.size w w3):=⟨by rw [HM3.out];exact ⟨own_shape5 hO3,hO3⟩,(hBl.trans hb2).trans hb3⟩
   go_wp2
   go_ret
   exact ⟨_,rfl,HF.out⟩
  | cons x A1 =>
   cases B1 with
   | nil =>
    have r1:=(HR.out.1).below HBl.out
    have r2:=HR.out.2.1
    obtain ⟨n1,n2⟩:=HR.out.2.2
    have HM1:mrgFl A B=(acc ++ (x :: A1)) ++ ([]:List Fl):=by rw [HM.out,mrgFl_nil,List.append_nil]
    have hO:=HO.out
    have hBl:=HBl.out
    have la2:(0:Int) < ((x :: A1).length:Int):=by simp
    have la1:0 < (x :: A1).length:=by simp
    clear HO HR HM HBl
    have hq1:acc.length+(x :: A1).length≤10000000:=by omega
    have hq2:acc.length+(x :: A1).length+([]:List Fl).length≤10000000:=by omega
    go_upto_region 6 with (fail)
    generalize hLA:(x :: A1)=LA at *
    generalize hLB:([]:List Fl)=LB at *
    have HM1:=Lib.hid HM1
    go_wp2_with (at_builtin;refine wpList_append_rd rfl _ _ rfl w.heap.size _ a1 c1 acc LA rfl hO rfl r1 n1 hq1 hz ?_)
    intro v2 w2 hO2 hb2
    have hz2:=Nat.le_trans hz hb2.size
    have r3:=r2.below (hBl.trans hb2)
    have hq3:(acc ++ LA).length+LB.length≤10000000:=by rw [List.length_append];exact hq2
    have HM2:=HM1.out
    generalize hL2:acc ++ LA=L2 at hq3 HM2
    replace hO2:w2.ownsRow w.heap.size 134 5 v2 L2.length (L2.flatMap Fl.cells):=by rw [← hL2,List.length_append,List.flatMap_append];exact hO2
    have HM3:=Lib.hid HM2
    clear HM2
    go_wp2_with (at_builtin;refine wpList_append_rd rfl _ _ rfl w.heap.size _ b1 d1 L2 LB rfl hO2 rfl r3 n2 hq3 hz2 ?_)
    intro v3 w3 hO3 hb3
    replace hO3:w3.ownsRow w.heap.size 134 5 v3 (L2 ++ LB).length ((L2 ++ LB).flatMap Fl.cells):=by rw [List.length_append,List.flatMap_append];exact hO3
    have HF:Hid (OwnFl w w3 (mrgFl A B) v3∧Below w.heap.size w w3):=⟨by rw [HM3.out];exact ⟨own_shape5 hO3,hO3⟩,(hBl.trans hb2).trans hb3⟩
    go_wp2
    go_ret
    exact ⟨_,rfl,HF.out⟩
   | cons y B1 =>
    obtain ⟨ra,rb,n1,n2⟩:=HR.out
    obtain ⟨b,off,rfl,hbl,cx,ra'⟩:=ra.head
    obtain ⟨b2,off2,rfl,hbl2,cy,rb'⟩:=rb.head
    obtain ⟨x0,x1,x2,x3,x4⟩:=cx wr HBl.out
    obtain ⟨y0,y1,y2,y3,y4⟩:=cy wr HBl.out
    have HCx:=Lib.hid cx
    have HCy:=Lib.hid cy
    have HC:=Lib.hid (fun W => bef1_any y x W)
    have hx1:b < wr.heap.size:=by omega
    have hy1:b2 < wr.heap.size:=by omega
    have la1:0 < (x :: A1).length:=by simp
    have lb1:0 < (y :: B1).length:=by simp
    have la2:(0:Int) < ((x :: A1).length:Int):=by omega
    have lb2:(0:Int) < ((y :: B1).length:Int):=by omega
    generalize hLa:(x :: A1).length=La at *
    generalize hLb:(y :: B1).length=Lb at *
    clear ra rb cx cy
    go_wp2_with fail
    go_still_tail 7,(by kernel_rfl)
    change wpList _ _ _ _ _ wr.drew
    have hb1:Below w.heap.size w wr.drew:=below_drewN HBl.out 1
    have hz1:wr.heap.size≤wr.drew.heap.size:=Nat.le_refl _
    have hO1:wr.drew.ownsRow w.heap.size 134 5 (.slice oa acc.length oc) acc.length (acc.flatMap Fl.cells):=ownsRow_below' HO.out (below_drewN (Below.refl _ _) 1)
    generalize wr.drew=w2 at *
    clear x0 x1 x2 x3 x4 y0 y1 y2 y3 y4
    go_wp2_with fail
    go_at_call 108
    refine (HC.out w2).mono ?_
    rintro e w3 ⟨rfl,hb3⟩
    have hO3:=ownsRow_below' hO1 hb3
    have hz3:=hb3.size
    have hbl3:=hb1.trans (hb3.mono (by omega))
    obtain ⟨x0,x1,x2,x3,x4⟩:=HCx.out w3 hbl3
    obtain ⟨y0,y1,y2,y3,y4⟩:=HCy.out w3 hbl3
    have lac:acc.length≤5000000:=by omega
    cases hc:decide (y.d < x.d) with
    | true =>
     have hO4:=ownsRow_below' hO3 (((Below.refl w3.heap.size w3).drew).alloc (Nat.le_refl _) (.cells #[.int .i64 y.d,.string y.fr,.string y.rc,.string y.cy,.string y.am] 134))
     have hO5:=own_fl1 w3.drew y w.heap.size (show w.heap.size≤w3.heap.size by omega)
     have hzz:w.heap.size≤(w3.drew.alloc (.cells #[.int .i64 y.d,.string y.fr,.string y.rc,.string y.cy,.string y.am] 134)).heap.size:=by rw [World.size_alloc];show w.heap.size≤w3.heap.size+1;omega
     have hbb:Below w.heap.size w (w3.drew.alloc (.cells #[.int .i64 y.d,.string y.fr,.string y.rc,.string y.cy,.string y.am] 134)):=hbl3.trans ((((Below.refl w3.heap.size w3).drew).alloc (Nat.le_refl _) _).mono (by omega))
     have s1:(1:Int)≤(Lb:Int):=by omega
     have s2:(Lb:Int)≤(d1:Int):=by omega
     have s3:(1:Int)≤(d1:Int):=by omega
     have s4:1≤Lb:=by omega
     have s5:1≤d1:=by omega
     have s6:(0:Int)≤(Lb:Int):=by omega
     have hx3:b2 < w3.heap.size:=by omega
     by_cases hcap:d1=1
     all_goals
      go_wp2_with fail
      go_region_held3 (fun w' => w'.cell? ⟨b2,off2,none⟩=some (.int .i64 y.d)∧w'.cell? ⟨b2,off2+1,none⟩=some (.string y.fr)∧w'.cell? ⟨b2,off2+2,none⟩=some (.string y.rc)∧w'.cell? ⟨b2,off2+3,none⟩=some (.string y.cy)∧w'.cell? ⟨b2,off2+4,none⟩=some (.string y.am)) (first | assumption | exact ⟨by assumption,by assumption,by assumption,by assumption,by assumption⟩ | go_keep) (first | (refine step_append_flows rfl (.tmp 24) (.tmp 28) rfl w.heap.size w.heap.size _ _ acc [y] rfl hO4 rfl hO5 (by simp;omega) hzz ?_;intro v' w4 ho4 hb4;obtain ⟨z0,z1,z2,z3,z4⟩:=HCy.out w4 (hbb.trans hb4)) | fail)
      obtain ⟨oa',oc',rfl⟩:=own_shape5 ho4
      have hz4:=hb4.size
      have HM':mrgFl A B=(acc ++ [y]) ++ mrgFl (x :: A1) B1:=by rw [HM.out,mrgFl_cons,if_pos (of_decide_eq_true hc),List.append_assoc];rfl
      have hbf:=hbb.trans hb4
      have hLB:Lb - 1=B1.length:=by rw [← hLb];simp
      clear z0 z1 z2 z3 z4 hO4 hO5
     ·obtain rfl:B1=[]:=by cases B1 with | nil => rfl | cons z B1 => simp at hLb;omega
      have HRr:=Rd.nil w (some ⟨b2,off2,none⟩)
      go_roundw
      case rel =>
       (repeat apply Exists.intro)
       exact ⟨⟨x :: A1,[],acc ++ [y],_,_,_,c1,0,_,by rw [hLa],by rw [← hLB],rfl,by rw [hLa];exact l1,by omega,by rw [List.length_append,hLa];simp;omega,Lib.hid ⟨HR.out.1,HRr,n1,fun h => by cases h⟩,Lib.hid HM',Lib.hid ho4,Lib.hid hbf,hbf.size⟩,rfl⟩
      case measure => simp [slN];omega
     ·have HRr:=rb'
      go_roundw
      case rel =>
       (repeat apply Exists.intro)
       exact ⟨⟨x :: A1,B1,acc ++ [y],_,_,_,c1,d1 - 1,_,by rw [hLa],by rw [← hLB],rfl,by rw [hLa];exact l1,by omega,by rw [List.length_append,hLa];simp;omega,Lib.hid ⟨HR.out.1,HRr,n1,fun h => by cases h⟩,Lib.hid HM',Lib.hid ho4,Lib.hid hbf,hbf.size⟩,rfl⟩
      case measure => simp [slN];omega
    | false =>
     have hO4:=ownsRow_below' hO3 (((Below.refl w3.heap.size w3).drew).alloc (Nat.le_refl _) (.cells #[.int .i64 x.d,.string x.fr,.string x.rc,.string x.cy,.string x.am] 134))
     have hO5:=own_fl1 w3.drew x w.heap.size (show w.heap.size≤w3.heap.size by omega)
     have hzz:w.heap.size≤(w3.drew.alloc (.cells #[.int .i64 x.d,.string x.fr,.string x.rc,.string x.cy,.string x.am] 134)).heap.size:=by rw [World.size_alloc];show w.heap.size≤w3.heap.size+1;omega
     have hbb:Below w.heap.size w (w3.drew.alloc (.cells #[.int .i64 x.d,.string x.fr,.string x.rc,.string x.cy,.string x.am] 134)):=hbl3.trans ((((Below.refl w3.heap.size w3).drew).alloc (Nat.le_refl _) _).mono (by omega))
     have s1:(1:Int)≤(La:Int):=by omega
     have s2:(La:Int)≤(c1:Int):=by omega
     have s3:(1:Int)≤(c1:Int):=by omega
     have s4:1≤La:=by omega
     have s5:1≤c1:=by omega
     have s6:(0:Int)≤(La:Int):=by omega
     have hx3:b < w3.heap.size:=by omega
     by_cases hcap:c1=1
     all_goals
      go_wp2_with fail
      go_region_held3 (fun w' => w'.cell? ⟨b,off,none⟩=some (.int .i64 x.d)∧w'.cell? ⟨b,off+1,none⟩=some (.string x.fr)∧w'.cell? ⟨b,off+2,none⟩=some (.string x.rc)∧w'.cell? ⟨b,off+3,none⟩=some (.string x.cy)∧w'.cell? ⟨b,off+4,none⟩=some (.string x.am)) (first | assumption | exact ⟨by assumption,by assumption,by assumption,by assumption,by assumption⟩ | go_keep) (first | (refine step_append_flows rfl (.tmp 32) (.tmp 36) rfl w.heap.size w.heap.size _ _ acc [x] rfl hO4 rfl hO5 (by simp;omega) hzz ?_;intro v' w4 ho4 hb4;obtain ⟨z0,z1,z2,z3,z4⟩:=HCx.out w4 (hbb.trans hb4)) | fail)
      obtain ⟨oa',oc',rfl⟩:=own_shape5 ho4
      have hz4:=hb4.size
      have HM':mrgFl A B=(acc ++ [x]) ++ mrgFl A1 (y :: B1):=by rw [HM.out,mrgFl_cons,if_neg (of_decide_eq_false hc),List.append_assoc];rfl
      have hbf:=hbb.trans hb4
      have hLB:La - 1=A1.length:=by rw [← hLa];simp
      clear z0 z1 z2 z3 z4 hO4 hO5
     ·obtain rfl:A1=[]:=by cases A1 with | nil => rfl | cons z A1 => simp at hLa;omega
      have HRr:=Rd.nil w (some ⟨b,off,none⟩)
      go_roundw
      case rel =>
       (repeat apply Exists.intro)
       exact ⟨⟨[],y :: B1,acc ++ [x],_,_,_,0,d1,_,by rw [← hLB],by rw [hLb],rfl,by omega,by rw [hLb];exact l2,by rw [List.length_append,hLb];simp;omega,Lib.hid ⟨HRr,HR.out.2.1,fun h => (by cases h),n2⟩,Lib.hid HM',Lib.hid ho4,Lib.hid hbf,hbf.size⟩,rfl⟩
      case measure => simp [slN];omega
     ·have HRr:=ra'
      go_roundw
      case rel =>
       (repeat apply Exists.intro)
       exact ⟨⟨A1,y :: B1,acc ++ [x],_,_,_,c1 - 1,d1,_,by rw [← hLB],by rw [hLb],rfl,by omega,by rw [hLb];exact l2,by rw [List.length_append,hLb];simp;omega,Lib.hid ⟨HRr,HR.out.2.1,fun h => (by cases h),n2⟩,Lib.hid HM',Lib.hid ho4,Lib.hid hbf,hbf.size⟩,rfl⟩
      case measure => simp [slN];omega
end Go.Proofs.YthdeijdimfjceaaGreatDoor

namespace Go.Proofs.YthdeijdimfjceaaGreatDoor
open Go.RowKit
theorem Rd.take {w:World} {ad:Option Addr} {l:List Fl} (h:Rd Fl.cells 5 w ad l) (n:Nat):Rd Fl.cells 5 w ad (l.take n):=fun j x hj => h j x (by
 have h1:=(List.getElem?_eq_some_iff.1 hj).1
 rw [List.length_take] at h1
 rw [List.getElem?_take_of_lt (by omega)] at hj
 exact hj)
theorem Rd.drop {w:World} {b off:Nat} {l:List Fl} (h:Rd Fl.cells 5 w (some ⟨b,off,none⟩) l) (n:Nat):Rd Fl.cells 5 w (some ⟨b,off+n * 5,none⟩) (l.drop n):=fun j x hj => by
 rw [List.getElem?_drop] at hj
 obtain ⟨b',off',e,h3⟩:=h (n+j) x hj
 obtain ⟨rfl,rfl⟩:b=b'∧off=off':=by simpa using e
 refine ⟨b,off+n * 5,rfl,fun i u hu => ?_⟩
 have:=h3 i u hu
 rw [show off+n * 5+j * 5+i=off+(n+j) * 5+i by rw [Nat.add_mul];omega]
 exact this
theorem own_rd {w:World} {base:Nat} {ad:Option Addr} {cap:Nat} {l:List Fl} (h:w.ownsRow base 134 5 (.slice ad l.length cap) l.length (l.flatMap Fl.cells)):Rd Fl.cells 5 w ad l∧l.length≤cap∧(ad=none→cap=0):=by
 refine ⟨Rd.of_sl (enc:=Fl.cells) (m:=5) (fun _ => rfl) (by decide) (Sl.of_owns h),?_⟩
 rcases h.2 with ⟨h1,h2⟩ | ⟨g,c,cur,h1,h2,h3,h4,h5⟩
 ·obtain ⟨rfl,_,rfl⟩:ad=none∧l.length=0∧cap=0:=by simpa using h1
  exact ⟨by omega,fun _ => rfl⟩
 ·cases h1;exact ⟨h4,fun h => by cases h⟩
theorem own_rd2 {w:World} {base n:Nat} {ad:Option Addr} {cap:Nat} {l:List Fl} (hn:l.length=n) (h:w.ownsRow base 134 5 (.slice ad n cap) l.length (l.flatMap Fl.cells)):Rd Fl.cells 5 w ad l∧n≤cap∧(ad=none→cap=0):=by
 subst hn;exact own_rd h
abbrev OrdP (w:World) (l:List Fl) (e:Ending) (w':World):Prop :=
 ∃ ad cap,e = .returned (.slice ad l.length cap)∧Below w.heap.size w w'∧l.length≤cap∧(ad=none→cap=0)∧Rd Fl.cells 5 w' ad (srtFl l)
set_option maxRecDepth 100000 in
theorem ordered_zero (l:List Fl) (hN:l.length≤0) (aa:Option Addr) (ca:Nat) (w:World) (hr:Rd Fl.cells 5 w aa l) (la:l.length≤ca) (na:aa=none→ca=0):Calls Tryz.prog 106 #[.slice aa l.length ca,.func (.func 108) #[] #[]] w (OrdP w l):=by
 obtain rfl:l=[]:=List.length_eq_zero_iff.1 (by omega)
 have HR:=Lib.hid hr
 have HN:=Lib.hid na
 clear hr na
 go_enter Tryz.func106,Tryz.ntmps106
 go_wp2_with fail
 go_ret
 exact ⟨_,_,rfl,Below.refl _ _,la,HN.out,HR.out⟩
def PO (N:Nat):Prop:=∀ (l:List Fl),l.length≤N→l.length≤5000000→∀ (aa:Option Addr) (ca:Nat) (w:World),Rd Fl.cells 5 w aa l→l.length≤ca→(aa=none→ca=0) →
  Calls Tryz.prog 106 #[.slice aa l.length ca,.func (.func 108) #[] #[]] w (OrdP w l)
set_option maxHeartbeats 4000000 in
set_option maxRecDepth 100000 in
theorem ordered_step (N:Nat) (IH:PO N):PO (N+1):=by
 intro l hN hl aa ca w hr la na
 by_cases h2:l.length < 2
 ·have h3:(l.length:Int) < 2:=by omega
  have HR:=Lib.hid hr
  have HN:=Lib.hid na
  have HS:=Lib.hid (srtFl_one h2)
  clear hr na
  go_enter Tryz.func106,Tryz.ntmps106
  go_wp2_with fail
  go_ret
  exact ⟨_,_,rfl,Below.refl _ _,la,HN.out,by rw [HS.out];exact HR.out⟩
 ·obtain ⟨b,off,rfl⟩:∃ b off,aa=some ⟨b,off,none⟩:=by
   cases l with
   | nil => exact absurd (Nat.zero_lt_succ _) h2
   | cons x l => obtain ⟨b,off,e,_⟩:=hr.head;exact ⟨b,off,e⟩
  have hd:(l.drop (l.length / 2)).length=l.length - l.length / 2:=List.length_drop
  have ht:(l.take (l.length / 2)).length=l.length / 2:=by rw [List.length_take];omega
  have H1:=Lib.hid (fun W (hb:Below w.heap.size w W) => IH (l.take (l.length / 2)) (by omega) (by omega) (some ⟨b,off,none⟩) ca W ((hr.take _).below hb) (by omega) (fun h => by cases h))
  have H2:=Lib.hid (fun W (hb:Below w.heap.size w W) => IH (l.drop (l.length / 2)) (by omega) (by omega) (some ⟨b,off+l.length / 2 * 5,none⟩) (ca - l.length / 2) W ((hr.drop _).below hb) (by omega) (fun h => by cases h))
  have HS:=Lib.hid (srtFl_half l (l.length / 2))
  have l1:(srtFl (l.take (l.length / 2))).length=l.length / 2:=by rw [srtFl_len,ht]
  have l2:(srtFl (l.drop (l.length / 2))).length=l.length - l.length / 2:=by rw [srtFl_len,hd]
  have hq:(l.length:Int).tdiv 2=((l.length / 2:Nat):Int):=by rw [Int.tdiv_eq_ediv_of_nonneg (by omega)];omega
  have hll:(mrgFl (srtFl (l.take (l.length / 2))) (srtFl (l.drop (l.length / 2)))).length=l.length:=by rw [mrgFl_len,l1,l2];omega
  have HM:=Lib.hid (fun aa ab ca cb W a b c d e f => merge_any (srtFl (l.take (l.length / 2))) (srtFl (l.drop (l.length / 2))) aa ab ca cb W a b c d e f (by omega))
  have H1:=Lib.hid (fun W (hb:Below w.heap.size w W) => (H1.out W hb).mono (fun e w' (h:OrdP W (l.take (l.length / 2)) e w') => show ∃ ad cap,e = .returned (.slice ad (l.length / 2) cap)∧Below W.heap.size W w'∧l.length / 2≤cap∧(ad=none→cap=0)∧Rd Fl.cells 5 w' ad (srtFl (l.take (l.length / 2))) by
   obtain ⟨ad,cap,he,hb,q⟩:=h
   rw [ht] at he q
   exact ⟨ad,cap,he,hb,q⟩))
  have H2:=Lib.hid (fun W (hb:Below w.heap.size w W) => (H2.out W hb).mono (fun e w' (h:OrdP W (l.drop (l.length / 2)) e w') => show ∃ ad cap,e = .returned (.slice ad (l.length - l.length / 2) cap)∧Below W.heap.size W w'∧l.length - l.length / 2≤cap∧(ad=none→cap=0)∧Rd Fl.cells 5 w' ad (srtFl (l.drop (l.length / 2))) by
   obtain ⟨ad,cap,he,hb,q⟩:=h
   rw [hd] at he q
   exact ⟨ad,cap,he,hb,q⟩))
  rw [ht] at H1
  rw [hd] at H2
  rw [l1,l2] at HM
  generalize hLl:l.length=L at *
  generalize hnn:L / 2=n at *
  generalize hA:srtFl (l.take n)=A at *
  generalize hB:srtFl (l.drop n)=B at *
  have k1:n≤L:=by omega
  have k2:(0:Int)≤(n:Int):=by omega
  have k3:(n:Int)≤(L:Int):=by omega
  have k4:(L:Int)≤(ca:Int):=by omega
  have k5:(n:Int)≤(ca:Int):=by omega
  have k6 : ¬ (L:Int) < 2:=by omega
  have k7:n < ca:=by omega
  have k8 : ¬ ca=n:=by omega
  have k9:IntKind.i64.wrap (n:Int)=(n:Int):=IntWalk.i64_in _ (by omega)
  clear hr na hd ht
  show Calls _ _ _ _ (fun e w' => ∃ ad cap,e = .returned (.slice ad l.length cap)∧Below w.heap.size w w'∧l.length≤cap∧(ad=none→cap=0)∧Rd Fl.cells 5 w' ad (srtFl l))
  rw [hLl]
  go_enter Tryz.func106,Tryz.ntmps106
  go_wp2_with fail
  have e1:Below w.heap.size w w.drew:=(Below.refl _ _).drew
  go_region_held3 (fun _ => True) (exact trivial)
   (first
    | (go_at_call 106;with_reducible refine (H1.out _ e1).mono ?_;rintro e w2 ⟨a2,c2,rfl,hb2,q1,q2,r2⟩;have e2:=e1.trans (hb2.mono e1.size))
    | (go_at_call 106;with_reducible refine (H2.out _ e2).mono ?_;rintro e w3 ⟨a3,c3,rfl,hb3,q3,q4,r3⟩;have e3:=e2.trans (hb3.mono e2.size);have r4:=r2.below hb3)
    | (go_at_call 127;refine (HM.out a2 a3 c2 c3 _ r4 r3 q1 q3 q2 q4).mono ?_;rintro e w4 ⟨v,rfl,ho,hb4⟩;have e4:=e3.trans (hb4.mono e3.size)))
  go_wp2
  go_ret
  obtain ⟨⟨a5,c5,hv⟩,ho5⟩:=ho
  rw [hll] at hv
  subst hv
  obtain ⟨o1,o2,o3⟩:=own_rd2 hll ho5
  exact ⟨_,_,rfl,e4,o2,o3,by rw [HS.out];exact o1⟩
theorem ordered_any:∀ N,PO N
 | 0 => fun l hN hl aa ca w hr la na => ordered_step 0 (fun l hN hl aa ca w hr la na => ordered_zero l hN aa ca w hr la na) l (by omega) hl aa ca w hr la na
 | N+1 => ordered_step N (ordered_any N)
end Go.Proofs.YthdeijdimfjceaaGreatDoor

namespace Go.Proofs.YthdeijdimfjceaaGreatDoor
open Go.RowKit
theorem wp_gen {P:Program} {c:Code} {Q:Exit→Act→World→Prop} {a:Act} {w:World} (h:∀ Q':Exit→Act→World→Prop,(∀ e a w,Q' e a w=Q e a w)→c.wp P Q' a w):c.wp P Q a w:=h Q (fun _ _ _ => rfl)
set_option maxHeartbeats 2000000 in
set_option maxRecDepth 100000 in
theorem caught_panicking (be bl:Nat) (x e:Int) (v:Value) (older:List PanicEntry) (w:World) (hc:w.cell? ⟨be,0,none⟩=some (.int .i64 x)) (hz:w.frozen? ⟨be,0,none⟩=false) (hl:w.cell? ⟨bl,0,none⟩=some v) (hlz:w.frozen? ⟨bl,0,none⟩=false) (hne:be ≠ bl) (hbe:be < w.heap.size) (hbl:bl < w.heap.size) :
  CallsD Tryz.prog 105 #[.pointer (some ⟨be,0,none⟩),.pointer (some ⟨bl,0,none⟩)] (.panicking ({ v:=.iface 190 (.agg #[.int .i64 e]),recovered:=false } :: older)) w fun en u' w' =>
   en = .returned (.tuple #[])∧u' = .panicking ({ v:=.iface 190 (.agg #[.int .i64 e]),recovered:=true } :: older)∧w'=((w.setCell ⟨be,0,none⟩ (.int .i64 e)).setCell ⟨bl,0,none⟩ (.slice none 0 0)).alloc (.cells #[.int .i64 e] 190):=by
 have hta:∀ w:World,(Instr.typeAssert (.iface 190 (.agg #[.int .i64 e])) 20 190 true).run Tryz.prog w = .ok (.tuple #[.agg #[.int .i64 e],.bool true]) w:=fun w => rfl
 refine callsD_of_wpS Tryz.func105 rfl fun c₀ cs hu => ?_
 apply wpS_seq
 apply wpS_region
 simp [wpOpsS,go_sem,recoverD,hu,Tryz.ntmps105,Exit.thenS]
 refine wpS_of_wp ?_
 refine wp_gen fun Q hQ => ?_
 change Code.wp _ _ _ { tmps:=#[.pointer (some ⟨be,0,none⟩),.pointer (some ⟨bl,0,none⟩),undef,undef,undef,undef,undef,.iface 190 (.agg #[.int .i64 e]),undef,undef,undef,undef,undef,undef,undef,undef,undef,undef,undef],defers:=[] } _
 go_wp2
 rw [hQ]
 simp [bodyPostS,results,Tryz.results105]
set_option maxHeartbeats 2000000 in
set_option maxRecDepth 100000 in
theorem caught_idle (p q:Value) (w:World) :
  CallsD Tryz.prog 105 #[p,q] .returning w fun e u' w' => e = .returned (.tuple #[])∧u' = .returning∧w'=w:=by
 refine callsD_of_wpS Tryz.func105 rfl fun c₀ cs hu => ?_
 apply wpS_seq
 apply wpS_region
 simp [wpOpsS,go_sem,recoverD,hu,Tryz.ntmps105,Exit.thenS]
 refine wpS_of_wp ?_
 refine wp_gen fun Q hQ => ?_
 change Code.wp _ _ _ { tmps:=#[p,q,undef,undef,undef,undef,undef,.nilIface,undef,undef,undef,undef,undef,undef,undef,undef,undef,undef,undef],defers:=[] } _
 go_wp2
 rw [hQ]
 cases c₀
 simp_all [bodyPostS,results,Tryz.results105]
end Go.Proofs.YthdeijdimfjceaaGreatDoor

namespace Go.Proofs.YthdeijdimfjceaaGreatDoor
open Go.RowKit
def upd (L:Nat→Bool) (i:Nat):Nat→Bool:=fun j => if j=i then true else L j
def cnt:List Bool→Nat
 | [] => 0
 | b :: l => (if b then 0 else 1)+cnt l
theorem cnt_set:∀ {l:List Bool} {i:Nat},l[i]? = some false→cnt (l.set i true)+1=cnt l
 | [],i,h => by simp at h
 | b :: l,0,h => by
  simp at h;subst h
  simp [cnt];omega
 | b :: l,i+1,h => by
  have:=cnt_set (l:=l) (i:=i) (by simpa using h)
  simp only [List.set_cons_succ,cnt]
  omega
theorem cnt_zero:∀ {l:List Bool},cnt l=0→∀ j,j < l.length→l[j]? = some true
 | [],_,j,hj => by simp at hj
 | b :: l,h,j,hj => by
  simp only [cnt] at h
  cases b with
  | false => simp at h
  | true =>
   cases j with
   | zero => rfl
   | succ j => simpa using cnt_zero (l:=l) (by simpa using h) j (by simpa using hj)
theorem cnt_replicate:∀ n,cnt (List.replicate n false)=n
 | 0 => rfl
 | n+1 => by rw [List.replicate_succ,cnt,cnt_replicate n];simp;omega
section
variable {P:Program} {ops:Array Oper} {md:Region.Mode}
def fwdB (md:Region.Mode) (ops:Array Oper):Bool :=
 (List.range ops.size).all fun j => match ops[j]? with | some o => o.after.all fun e => !Region.binds md e || decide (e.on < j) | none => true
theorem fwd_spec (h:fwdB md ops=true) {j:Nat} {o:Oper} (ho:ops[j]? = some o):∀ e ∈ o.after,Region.binds md e=true→e.on < j:=by
 intro e he hb
 have hj:j < ops.size:=(Array.getElem?_eq_some_iff.1 ho).1
 have h1:=List.all_eq_true.1 h j (List.mem_range.2 hj)
 simp only [ho] at h1
 have h2:=Array.all_eq_true'.1 h1 e he
 simp only [hb,Bool.not_true,Bool.false_or,decide_eq_true_eq] at h2
 exact h2
theorem getD_both' {listed:Array Bool} {j:Nat} (hj:j < listed.size):listed.getD j true=listed.getD j false:=by
 simp [hj]
theorem ready_all (hf:fwdB md ops=true) {listed:Array Bool} (hs:listed.size=ops.size) (hr:Region.ready md ops listed=[]):∀ j,j < ops.size→listed.getD j false=true:=by
 intro j
 induction j using Nat.strongRecOn with
 | _ j ih =>
  intro hj
  cases h:listed.getD j false with
  | true => rfl
  | false =>
   exfalso
   obtain ⟨o,ho⟩:∃ o,ops[j]? = some o:=⟨_,Array.getElem?_eq_getElem hj⟩
   have:j ∈ Region.ready md ops listed:=mem_ready.2 ⟨by rw [getD_both' (by omega)];exact h,o,ho,fun e he hb => ih e.on (fwd_spec hf ho e he hb) (by have:=fwd_spec hf ho e he hb;omega)⟩
   rw [hr] at this
   cases this
theorem upd_listed {listed:Array Bool} {i:Nat} (hi:i < listed.size):(fun j => (listed.setIfInBounds i true).getD j false)=upd (fun j => listed.getD j false) i:=by
 funext j
 unfold upd
 by_cases h:j=i
 ·subst h
  rw [if_pos rfl]
  simp [hi]
 ·rw [if_neg h,getD_set_ne false (fun e => h e.symm)]
theorem wpAny_inv {Q:Exit→Act→World→Prop} {Inv:(Nat→Bool)→Act→World→Prop} (hf:fwdB md ops=true)
  (hst:∀ L a w,Inv L a w→∀ i o,ops[i]? = some o→L i=false→(∀ e ∈ o.after,Region.binds md e=true→L e.on=true)→wpOp P ops Q i (Inv (upd L i)) a w)
  (hend:∀ L a w,Inv L a w→(∀ j,j < ops.size→L j=true)→Q .normal a w) :
  ∀ (f:Nat) (listed:Array Bool) (a:Act) (w:World),listed.size=ops.size→cnt listed.toList≤f→Inv (fun j => listed.getD j false) a w→wpAny P md ops Q f listed a w
 | 0,listed,a,w,hs,hc,h => by
  have hall:∀ j,j < ops.size→listed.getD j false=true:=fun j hj => by
   have:=cnt_zero (Nat.le_zero.1 hc) j (by simpa [hs] using hj)
   have hj':j < listed.size:=by omega
   simp [hj'] at this ⊢
   exact this
  refine ⟨?_,hend _ _ _ h hall⟩
  rw [List.eq_nil_iff_forall_not_mem]
  intro i hi
  obtain ⟨h1,o,ho,_⟩:=mem_ready.1 hi
  have hj:i < ops.size:=(Array.getElem?_eq_some_iff.1 ho).1
  rw [getD_both' (by omega),hall i hj] at h1
  cases h1
 | f+1,listed,a,w,hs,hc,h => by
  refine ⟨fun hr => hend _ _ _ h (ready_all hf hs hr),fun i hi => ?_⟩
  obtain ⟨h1,o,ho,h2⟩:=mem_ready.1 hi
  have hj:i < listed.size:=by have:=(Array.getElem?_eq_some_iff.1 ho).1;omega
  have h3:listed.getD i false=false:=by rw [← getD_both' hj];exact h1
  have h4:listed.toList[i]? = some false:=by simp [hj] at h3 ⊢;exact h3
  refine wpOp_mono (fun a' w' h5 => ?_) (hst _ a w h i o ho h3 h2)
  refine wpAny_inv hf hst hend f (listed.setIfInBounds i true) a' w' (by simpa using hs) ?_ ?_
  ·have:=cnt_set h4
   rw [Array.toList_setIfInBounds]
   omega
  ·rw [upd_listed hj];exact h5
def predB (md:Region.Mode) (ops:Array Oper) (i j:Nat):Bool :=
 match ops[i]? with | some o => o.after.any fun e => Region.binds md e && e.on == j | none => false
theorem pred_spec {i j:Nat} {o:Oper} {L:Nat→Bool} (ho:ops[i]? = some o) (hp:∀ e ∈ o.after,Region.binds md e=true→L e.on=true) (h:predB md ops i j=true):L j=true:=by
 unfold predB at h
 simp only [ho] at h
 obtain ⟨e,he,h1⟩:=Array.any_eq_true'.1 h
 simp only [Bool.and_eq_true,beq_iff_eq] at h1
 rw [← h1.2]
 exact hp e he h1.1
theorem wp_region_inv {id:Nat} {Q:Exit→Act→World→Prop} {a:Act} {w:World} (Inv:(Nat→Bool)→Act→World→Prop) (hm:P.follows .mixedOrders=true) (hf:fwdB .any ops=true)
  (h0:Inv (fun _ => false) a w.drew)
  (hst:∀ L a w,Inv L a w→∀ i o,ops[i]? = some o→L i=false→(∀ e ∈ o.after,Region.binds .any e=true→L e.on=true)→wpOp P ops Q i (Inv (upd L i)) a w)
  (hend:∀ L a w,Inv L a w→(∀ j,j < ops.size→L j=true)→Q .normal a w):(Code.region id ops true).wp P Q a w:=by
 refine wp_region_any hm (wpAny_inv hf hst hend ops.size _ _ _ (by simp) ?_ ?_)
 ·simp [cnt_replicate]
 ·have e:(fun j => (Array.replicate ops.size false).getD j false)=fun _ => false:=by
   funext j
   by_cases hj:j < ops.size <;> simp [hj]
  rw [e];exact h0
end
end Go.Proofs.YthdeijdimfjceaaGreatDoor

namespace Go.Proofs.YthdeijdimfjceaaGreatDoor
open Go.RowKit
structure VInv (W0:World) (vals cur:List Value) (L:Nat→Bool) (w:World):Prop where
 b:Below W0.heap.size W0 w
 len:cur.length=vals.length
 f:∀ (i:Nat) (v:Value),L i=true→vals[i]? = some v→cur[i]? = some v
section
variable {W0 w w':World} {vals cur:List Value} {L:Nat→Bool}
theorem VInv.start (h:Below W0.heap.size W0 w) (hl:cur.length=vals.length):VInv W0 vals cur (fun _ => false) w:=⟨h,hl,fun _ _ h => by cases h⟩
theorem VInv.ext (h:VInv W0 vals cur L w) (hb:Below w.heap.size w w'):VInv W0 vals cur L w':=⟨h.b.trans (hb.mono h.b.size),h.len,h.f⟩
theorem VInv.step (h:VInv W0 vals cur L w) {i:Nat} {v:Value} (hv:vals[i]? = some v):VInv W0 vals (cur.set i v) (upd L i) w:=by
 have hi:i < cur.length:=by rw [h.len];exact (List.getElem?_eq_some_iff.1 hv).1
 refine ⟨h.b,by rw [List.length_set];exact h.len,fun j u hj hu => ?_⟩
 by_cases e:j=i
 ·subst e
  rw [List.getElem?_set_self hi,← hv,hu]
 ·rw [List.getElem?_set_ne (fun e' => e e'.symm)]
  exact h.f j u (by rw [← hj];unfold upd;rw [if_neg e]) hu
theorem VInv.at (h:VInv W0 vals cur L w) {i:Nat} {u v:Value} (hL:L i=true) (hv:vals[i]? = some v) (hu:cur[i]? = some u):u=v:=Option.some.inj (hu.symm.trans (h.f i v hL hv))
end
end Go.Proofs.YthdeijdimfjceaaGreatDoor

namespace Go.Proofs.YthdeijdimfjceaaGreatDoor
open Go.RowKit
structure Turned (lo hi:Nat) (w w':World):Prop where
 os:w'.os=w.os
 tape:w'.tape=w.tape
 output:w'.output=w.output
 size:w'.heap.size=w.heap.size
 block:∀ k,k < lo∨hi≤k→w'.heap[k]? = w.heap[k]?
theorem Turned.refl (lo hi:Nat) (w:World):Turned lo hi w w:=⟨rfl,rfl,rfl,rfl,fun _ _ => rfl⟩
theorem Turned.below {lo hi:Nat} {w w':World} (h:Turned lo hi w w'):Below lo w w':=⟨h.os,h.tape,h.output,Nat.le_of_eq h.size.symm,fun k hk => h.block k (.inl hk)⟩
theorem Turned.setCell {lo hi:Nat} {w w':World} (h:Turned lo hi w w') {a:Addr} (h1:lo≤a.block) (h2:a.block < hi) (u:Value):Turned lo hi w (w'.setCell a u) :=
 ⟨h.os,h.tape,h.output,by rw [← h.size];simp [World.setCell],fun k hk => (Below.heap_setCell _ _ _ _ (by omega)).trans (h.block k hk)⟩
theorem owns_some {w:World} {base n c m:Nat} {e:TypeId} {a:Option Addr} {xs:List Value} (h:w.ownsRow base e m (.slice a n c) n xs) (hn:0 < n):∃ g,a=some ⟨g,0,none⟩:=by
 rcases h.2 with ⟨h',h0⟩ | ⟨g,cap,cur,h',_⟩
 ·omega
 ·exact ⟨g,(Value.slice.inj h').1⟩
end Go.Proofs.YthdeijdimfjceaaGreatDoor

namespace Go.Proofs.YthdeijdimfjceaaGreatDoor
open Go.RowKit
structure RSt (wr W:World) (T:TypeId) (m g B0 n cap:Nat) (os:List Value):Prop where
 gr:wr.grownBy W (some g)
 own:W.ownsRow B0 T m (.slice (some ⟨g,0,none⟩) n cap) n os
section
variable {wr W W':World} {T:TypeId} {m g B0 n cap:Nat} {os:List Value}
theorem RSt.start (h:wr.ownsRow B0 T m (.slice (some ⟨g,0,none⟩) n cap) n os):RSt wr wr T m g B0 n cap os:=⟨World.grownBy.refl _ _,h⟩
theorem RSt.lt (h:RSt wr W T m g B0 n cap os):B0≤g∧g < W.heap.size:=h.own.lt g rfl
theorem RSt.ext (h:RSt wr W T m g B0 n cap os) (hb:Below W.heap.size W W'):RSt wr W' T m g B0 n cap os :=
 ⟨h.gr.trans ⟨hb.os,hb.tape,hb.output,hb.size,fun k hk _ => hb.block k hk⟩,ownsRow_below' h.own hb⟩
theorem RSt.alloc (h:RSt wr W T m g B0 n cap os) (o:Obj):RSt wr (W.alloc o) T m g B0 n cap os:=h.ext (below_a1 _ _)
theorem RSt.set (h:RSt wr W T m g B0 n cap os) (j:Nat) (u:Value):RSt wr (W.setCell ⟨g,j,none⟩ u) T m g B0 n cap (os.set j u) :=
 ⟨h.gr.trans (h.own.stored j u).2,(h.own.stored j u).1⟩
theorem RSt.but (h:RSt wr W T m g B0 n cap os) {K:Nat} (hK:wr.heap.size≤K) (hg:g < wr.heap.size) (hb:Below K W W') (hs:W.heap.size≤W'.heap.size) (ho:∀ b,b ≠ K→W'.heap[b]? = W.heap[b]?):RSt wr W' T m g B0 n cap os:=by
 refine ⟨⟨hb.os.trans h.gr.os,hb.tape.trans h.gr.tape,hb.output.trans h.gr.output,Nat.le_trans h.gr.size hs,fun k hk hne => (ho k (by omega)).trans (h.gr.block k hk hne)⟩,ownsRow_kept h.own fun k hk _ => ho k ?_⟩
 have:g=k:=by simpa [Value.ownBlock] using hk
 omega
theorem RSt.below {W0:World} {B:Nat} (h:RSt wr W T m g B0 n cap os) (h0:Below B W0 wr) (hB:B≤wr.heap.size) (hg:B≤g):Below B W0 W :=
 h0.grown h.gr hB (fun k hk => by obtain rfl:=Option.some.inj hk;exact hg)
theorem RSt.box {B:Nat} {t:TypeId} {cs:List Value} (h:RSt wr W T m g B0 n cap os) (hb:BoxN wr B t cs) (hB:B ≠ g):BoxN W B t cs :=
 hb.of_block (h.gr.block B hb.lt (by simpa using hB))
theorem RSt.box2 {B:Nat} {t:TypeId} {u v:Value} (h:RSt wr W T m g B0 n cap os) (hb:Boxed2 wr B t u v) (hB:B ≠ g):Boxed2 W B t u v :=
 hb.of_block (h.gr.block B hb.lt (by simpa using hB))
theorem RSt.at (h:RSt wr W T m g B0 n cap os) {j:Nat} {u:Value} (hj:os[j]? = some u):W.cell? ⟨g,j,none⟩=some u:=by
 have hl:os.length=n * m:=h.own.1
 rw [h.own.cellAt j (by rw [← hl];exact (List.getElem?_eq_some_iff.1 hj).1)]
 exact hj
theorem RSt.ice (h:RSt wr W T m g B0 n cap os) (j:Nat):W.frozen? ⟨g,j,none⟩=false:=h.own.frozenAt j
end
def upTo {α:Type} (f:α→α) (l:List α) (k:Nat):List α:=(l.take k).map f ++ l.drop k
theorem upTo_zero {α:Type} (f:α→α) (l:List α):upTo f l 0=l:=by simp [upTo]
theorem upTo_end {α:Type} (f:α→α) (l:List α):upTo f l l.length=l.map f:=by simp [upTo]
theorem upTo_len {α:Type} (f:α→α) (l:List α) (k:Nat):(upTo f l k).length=l.length:=by
 simp [upTo];omega
theorem drop_get {α:Type} {l:List α} {k:Nat} {x:α} (h:l[k]? = some x):l.drop k=x :: l.drop (k+1):=by
 obtain ⟨h1,h2⟩:=List.getElem?_eq_some_iff.1 h
 rw [List.drop_eq_getElem_cons h1,h2]
theorem upTo_split {α:Type} (f:α→α) {l:List α} {k:Nat} {x:α} (h:l[k]? = some x):upTo f l k=(l.take k).map f ++ (x :: l.drop (k+1)):=by rw [upTo,drop_get h]
theorem upTo_succ {α:Type} (f:α→α) {l:List α} {k:Nat} {x:α} (h:l[k]? = some x):upTo f l (k+1)=(l.take k).map f ++ (f x :: l.drop (k+1)):=by
 rw [upTo,take_snoc_get h,List.map_append];simp
theorem upTo_same {α:Type} (f:α→α) {l:List α} {k:Nat} {x:α} (h:l[k]? = some x) (hf:f x=x):upTo f l (k+1)=upTo f l k:=by rw [upTo_succ f h,upTo_split f h,hf]
theorem set_flat {α:Type} {enc:α→List Value} {m:Nat} (hm:∀ x,(enc x).length=m) (A B:List α) (x y:α) (k j:Nat) (u:Value) (hA:A.length=k) (hj:j < m) (hs:(enc x).set j u=enc y) :
  ((A ++ (x :: B)).flatMap enc).set (k * m+j) u=(A ++ (y :: B)).flatMap enc:=by
 have hl:(A.flatMap enc).length=k * m:=by rw [flat_length enc m hm,hA]
 rw [List.flatMap_append,List.flatMap_append,List.flatMap_cons,List.flatMap_cons,List.set_append_right _ _ (by omega),hl]
 rw [show k * m+j - k * m=j by omega,List.set_append_left _ _ (by rw [hm];exact hj),hs]
theorem get_flat {α:Type} {enc:α→List Value} {m:Nat} (hm:∀ x,(enc x).length=m) (A B:List α) (x:α) (k j:Nat) (u:Value) (hA:A.length=k) (hs:(enc x)[j]? = some u) :
  ((A ++ (x :: B)).flatMap enc)[k * m+j]? = some u:=by
 have hl:(A.flatMap enc).length=k * m:=by rw [flat_length enc m hm,hA]
 rw [List.flatMap_append,List.flatMap_cons,List.getElem?_append_right (by omega),hl,show k * m+j - k * m=j by omega,List.getElem?_append_left (List.getElem?_eq_some_iff.1 hs).1,hs]
end Go.Proofs.YthdeijdimfjceaaGreatDoor

namespace Go.Proofs.YthdeijdimfjceaaGreatDoor
open Go.RowKit
structure STO {α:Type} (lt:α→α→Bool):Prop where
 irrefl:∀ x,lt x x=false
 trans:∀ x y z,lt x y=true→lt y z=true→lt x z=true
 conn:∀ x y,lt x y=false→lt y x=false→x=y
def Srt {α:Type} (lt:α→α→Bool) (l:List α):Prop:=l.Pairwise fun a b => lt a b=true
theorem Srt.nil {α:Type} (lt:α→α→Bool):Srt lt []:=List.Pairwise.nil
section
variable {α:Type} {lt:α→α→Bool} (h:STO lt)
include h
theorem STO.ne {x y:α} (hxy:lt x y=true):x ≠ y:=by
 rintro rfl;rw [h.irrefl] at hxy;cases hxy
end
end Go.Proofs.YthdeijdimfjceaaGreatDoor

namespace Go.Proofs.YthdeijdimfjceaaGreatDoor
open Go.RowKit
section
variable {α:Type}
theorem flat_at {enc:α→List Value} {m:Nat} (hm:∀ x,(enc x).length=m) {C:List α} {k:Nat} {y:α} (hy:C[k]? = some y) (j:Nat) (u:Value) (hu:(enc y)[j]? = some u):(C.flatMap enc)[k * m+j]? = some u:=by
 have hk:=(List.getElem?_eq_some_iff.1 hy).1
 have e:C=C.take k ++ (y :: C.drop (k+1)):=by rw [← drop_get hy,List.take_append_drop]
 rw [e]
 exact get_flat (enc:=enc) (m:=m) hm (C.take k) (C.drop (k+1)) y k j u (by rw [List.length_take];omega) hu
end
section
variable {α:Type} [DecidableEq α]
omit [DecidableEq α] in
end
section
variable {α:Type} [DecidableEq α]
end
theorem RSt.drewN {wr W:World} {T:TypeId} {m g B0 n cap:Nat} {os:List Value} (h:RSt wr W T m g B0 n cap os) (q:Nat):RSt wr (W.drewN q) T m g B0 n cap os:=h.ext (below_drewN (Below.refl _ _) q)
theorem RSt.drew {wr W:World} {T:TypeId} {m g B0 n cap:Nat} {os:List Value} (h:RSt wr W T m g B0 n cap os):RSt wr W.drew T m g B0 n cap os:=h.ext (Below.refl _ _).drew
end Go.Proofs.YthdeijdimfjceaaGreatDoor
