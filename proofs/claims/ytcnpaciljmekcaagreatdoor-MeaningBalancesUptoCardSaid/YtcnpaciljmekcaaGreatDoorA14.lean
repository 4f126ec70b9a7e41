/- A part. -/
import Derived.Test.YtcnpaciljmekcaaGreatDoorA13
import Derived.Defers
import Derived.Recover
import Derived.StillTail
import Derived.RegionTactic
import Derived.Laws.IdiomCopy
import Derived.Laws.AppendOwn
namespace Go.Proofs.YtcnpaciljmekcaaGreatDoor
open Go.RowKit
set_option maxRecDepth 100000 in
theorem bef1_any (x y:Fl) (w:World):Calls Tryz.prog 65 #[.agg #[.int .i64 x.d,.string x.fr,.string x.rc,.string x.cy,.string x.am],.agg #[.int .i64 y.d,.string y.fr,.string y.rc,.string y.cy,.string y.am]] w fun e w' => e = .returned (.bool (decide (x.d < y.d)))∧Below w.heap.size w w':=by
 go_enter Tryz.func65,Tryz.ntmps65
 go_wp2
 go_ret
 exact ⟨rfl,below_a2 _ _ _⟩
theorem Rd.head {w:World} {ad:Option Addr} {x:Fl} {l:List Fl} (h:Rd Fl.cells 5 w ad (x :: l)):∃ b off,ad=some ⟨b,off,none⟩∧b < w.heap.size∧(∀ W,Below w.heap.size w W→W.cell? ⟨b,off,none⟩=some (.int .i64 x.d)∧W.cell? ⟨b,off+1,none⟩=some (.string x.fr)∧W.cell? ⟨b,off+2,none⟩=some (.string x.rc)∧W.cell? ⟨b,off+3,none⟩=some (.string x.cy)∧W.cell? ⟨b,off+4,none⟩=some (.string x.am))∧Rd Fl.cells 5 w (some ⟨b,off+5,none⟩) l:=by
 obtain ⟨b,off,rfl,c0,c1,c2,c3,c4⟩:=h.fl (j:=0) rfl
 rw [Nat.zero_mul,Nat.add_zero] at c0 c1 c2 c3 c4
 have hk:∀ {W:World} {p:Addr} {u:Value},Below w.heap.size w W→w.cell? p=some u→W.cell? p=some u:=fun {W p u} hb hu => by rw [hb.cell (p:=p) (World.block_lt_of_cell? w _ hu)];exact hu
 refine ⟨b,off,rfl,World.block_lt_of_cell? w _ c0,fun W hb => ⟨hk hb c0,hk hb c1,hk hb c2,hk hb c3,hk hb c4⟩,fun j y hj => ?_⟩
 obtain ⟨b',off',e,h3⟩:=h (j+1) y (by simpa using hj)
 obtain ⟨rfl,rfl⟩:b=b'∧off=off':=by simpa using e
 refine ⟨b,off+5,rfl,fun i u hu => ?_⟩
 have:=h3 i u hu
 rw [show off+5+j * 5+i=off+(j+1) * 5+i by omega]
 exact this
theorem Rd.nil (w:World) (ad:Option Addr):Rd Fl.cells 5 w ad []:=fun j x h => by simp at h
theorem own_fl1 (w:World) (f:Fl) (base:Nat) (hb:base≤w.heap.size):(w.alloc (.cells #[.int .i64 f.d,.string f.fr,.string f.rc,.string f.cy,.string f.am] 46)).ownsRow base 46 5 (.slice (some ⟨w.heap.size,0,none⟩) 1 1) [f].length ([f].flatMap Fl.cells):=ownsRow_base' (own_new w f).2 hb
theorem wpList_append_rd {w:World} {ops:Array Oper} {rest:List Oper} {o:Oper} {a:Act} {Q:Exit→Act→World→Prop} (hgd:o.guard=none) (s x:Operand)
  (ho:o.op = .call { callee:=.builtin .append,args:=#[s,x],argTypes:=#[36,36] }) (base:Nat) (v:Value) (ad:Option Addr) (c:Nat) (l m:List Fl)
  (hs:a.eval s=v) (hown:w.ownsRow base 46 5 v l.length (l.flatMap Fl.cells)) (hx:a.eval x = .slice ad m.length c) (hm:Rd Fl.cells 5 w ad m) (hc:ad=none→c=0)
  (hlen:l.length+m.length≤10000000) (hbase:base≤w.heap.size)
  (h:∀ v' w',w'.ownsRow base 46 5 v' (l ++ m).length ((l ++ m).flatMap Fl.cells)→Below base w w'→wpList Tryz.prog ops Q rest (a.put o.dst v') w'):wpList Tryz.prog ops Q (o :: rest) a w:=by
 obtain ⟨i0,hi,hz0,hz1,hz2⟩:=info_parts info_flow
 cases ad with
 | none =>
  obtain rfl:=hc rfl
  obtain rfl:m=[]:=by
   cases m with
   | nil => rfl
   | cons y m => obtain ⟨_,_,e,_⟩:=hm.head;cases e
  refine wpList_append_own_none hgd s x 36 ho base 46 i0 5 ul_flows hi v _ _ hs hown hx ?_
  exact h v w (by rw [List.append_nil];exact hown) (Below.refl _ _)
 | some ad =>
  refine wpList_append_own w hgd s x 36 ho base 46 i0 _ 5 72 ul_flows hi hz0 hz1 hz2 rfl (by decide) v l.length _ hs hown ad m.length c (m.flatMap Fl.cells) hx (flat_length Fl.cells 5 (fun _ => rfl) m) (fun j u hj => ?_) (fl_oneCell m) (by unfold maxLen;omega) (by omega) hbase ?_
  ·have hj5:j / 5 < m.length:=by
    have h1:=(List.getElem?_eq_some_iff.1 hj).1
    rw [flat_length Fl.cells 5 (fun _ => rfl) m] at h1
    omega
   obtain ⟨f,hf⟩:∃ f,m[j / 5]? = some f:=⟨_,List.getElem?_eq_getElem hj5⟩
   obtain ⟨b,off,e,h3⟩:=hm (j / 5) f hf
   cases e
   obtain ⟨u',hu'⟩:∃ u',(Fl.cells f)[j % 5]? = some u':=⟨_,List.getElem?_eq_getElem (show j % 5 < 5 from Nat.mod_lt _ (by decide))⟩
   have h4:=flat_get Fl.cells 5 (fun _ => rfl) m (j / 5) f (j % 5) u' hf hu'
   rw [show j / 5 * 5+j % 5=j by omega,hj] at h4
   cases h4
   have h5:=h3 (j % 5) u hu'
   rw [show off+j / 5 * 5+j % 5=off+j by omega] at h5
   rw [show Addr.add ⟨b,off,none⟩ j=⟨b,off+j,none⟩ by unfold Addr.add;split <;> simp_all]
   exact h5
  ·intro v' w' h1 h2 _
   exact h v' w' (by rw [List.length_append,List.flatMap_append];exact h1) ((Below.refl base w).grown h2 hbase (fun k hk => (hown.lt k hk).1))
def slN:Value→Nat
 | .slice _ n _ => n
 | _ => 0
set_option maxHeartbeats 4000000 in
set_option maxRecDepth 100000 in
theorem merge_any (A B:List Fl) (aa ab:Option Addr) (ca cb:Nat) (w:World) (hA:Rd Fl.cells 5 w aa A) (hB:Rd Fl.cells 5 w ab B) (la:A.length≤ca) (lb:B.length≤cb) (na:aa=none→ca=0) (nb:ab=none→cb=0) (hn:A.length+B.length≤5000000) :
  Calls Tryz.prog 114 #[.slice aa A.length ca,.slice ab B.length cb,.func (.func 65) #[] #[]] w fun e w' => ∃ v,e = .returned v∧OwnFl w w' (mrgFl A B) v∧Below w.heap.size w w':=by
 have HA:=Lib.hid hA
 have HB:=Lib.hid hB
 have HNa:=Lib.hid na
 have HNb:=Lib.hid nb
 clear hA hB na nb
 go_enter Tryz.func114,Tryz.ntmps114
 go_wp2_with fail
 go_loopw [0,1,7] (fun av bv ov wr => ∃ (A1 B1 acc:List Fl) (a1 b1 oa:Option Addr) (c1 d1 oc:Nat),av = .slice a1 A1.length c1∧bv = .slice b1 B1.length d1∧ov = .slice oa acc.length oc∧A1.length≤c1∧B1.length≤d1∧A1.length+B1.length+acc.length=A.length+B.length∧Hid (Rd Fl.cells 5 w a1 A1∧Rd Fl.cells 5 w b1 B1∧(a1=none→c1=0)∧(b1=none→d1=0))∧Hid (mrgFl A B=acc ++ mrgFl A1 B1)∧Hid (wr.ownsRow w.heap.size 46 5 (.slice oa acc.length oc) acc.length (acc.flatMap Fl.cells))∧Hid (Below w.heap.size w wr)∧w.heap.size≤wr.heap.size) (fun av bv _ _ => slN av+slN bv)
 case atStart => exact ⟨A,B,[],aa,ab,none,ca,cb,0,rfl,rfl,rfl,la,lb,rfl,Lib.hid ⟨HA.out,HB.out,HNa.out,HNb.out⟩,Lib.hid rfl,Lib.hid (World.ownsRow_nil _ _ _ _),Lib.hid (Below.refl _ _),Nat.le_refl _⟩
 case round =>
  obtain ⟨A1,B1,acc,a1,b1,oa,c1,d1,oc,rfl,rfl,rfl,l1,l2,hsum,HR,HM,HO,HBl,hz⟩:=hrel
  clear HA HB HNa HNb
  cases A1 with
  | nil =>
   have r1:=(HR.out.1).below HBl.out
   have r2:=HR.out.2.1
   obtain ⟨n1,n2⟩:=HR.out.2.2
   have HM1:mrgFl A B=(acc ++ ([]:List Fl)) ++ B1:=by rw [HM.out,nil_mrgFl,List.append_nil]
   have hO:=HO.out
   have hBl:=HBl.out
   clear HO HR HM HBl
   have hq1:acc.length+([]:List Fl).length≤10000000:=by omega
   have hq2:acc.length+([]:List Fl).length+B1.length≤10000000:=by omega
   go_upto_region 6 with (fail)
   generalize hLA:([]:List Fl)=LA at *
   generalize hLB:B1=LB at *
   have HM1:=Lib.hid HM1
   go_wp2_with (at_builtin;refine wpList_append_rd rfl _ _ rfl w.heap.size _ a1 c1 acc LA rfl hO rfl r1 n1 hq1 hz ?_)
   intro v2 w2 hO2 hb2
   have hz2:=Nat.le_trans hz hb2.size
   have r3:=r2.below (hBl.trans hb2)
   have hq3:(acc ++ LA).length+LB.length≤10000000:=by rw [List.length_append];exact hq2
   have HM2:=HM1.out
   generalize hL2:acc ++ LA=L2 at hq3 HM2
   replace hO2:w2.ownsRow w.heap.size 46 5 v2 L2.length (L2.flatMap Fl.cells):=by rw [← hL2,List.length_append,List.flatMap_append];exact hO2
   have HM3:=Lib.hid HM2
   clear HM2
   go_wp2_with (at_builtin;refine wpList_append_rd rfl _ _ rfl w.heap.size _ b1 d1 L2 LB rfl hO2 rfl r3 n2 hq3 hz2 ?_)
   intro v3 w3 hO3 hb3
   replace hO3:w3.ownsRow w.heap.size 46 5 v3 (L2 ++ LB).length ((L2 ++ LB).flatMap Fl.cells):=by rw [List.length_append,List.flatMap_append];exact hO3
   have HF:Hid (OwnFl w w3 (mrgFl A B) v3∧Below w.heap.size w w3):=⟨by rw [HM3.out];exact ⟨own_shape5 hO3,hO3⟩,(hBl.trans hb2).trans hb3⟩
   go_wp2
   go_ret
   exact ⟨_,rfl,HF.out⟩
  | cons x A1 =>
   cases B1 with
   | nil =>
    have r1:=(HR.out.1).below HBl.out
    have r2:=HR.out.2.1
    obtain ⟨n1,n2⟩:=HR.out.2.2
    have HM1:mrgFl A B=(acc ++ (x :: A1)) ++ ([]:List Fl):=by rw [HM.out,mrgFl_nil,List.append_nil]
    have hO:=HO.out
    have hBl:=HBl.out
    have la2:(0:Int) < ((x :: A1).length:Int):=by simp
    have la1:0 < (x :: A1).length:=by simp
    clear HO HR HM HBl
    have hq1:acc.length+(x :: A1).length≤10000000:=by omega
    have hq2:acc.length+(x :: A1).length+([]:List Fl).length≤10000000:=by omega
    go_upto_region 6 with (fail)
    generalize hLA:(x :: A1)=LA at *
    generalize hLB:([]:List Fl)=LB at *
    have HM1:=Lib.hid HM1
    go_wp2_with (at_builtin;refine wpList_append_rd rfl _ _ rfl w.heap.size _ a1 c1 acc LA rfl hO rfl r1 n1 hq1 hz ?_)
    intro v2 w2 hO2 hb2
    have hz2:=Nat.le_trans hz hb2.size
    have r3:=r2.below (hBl.trans hb2)
    have hq3:(acc ++ LA).length+LB.length≤10000000:=by rw [List.length_append];exact hq2
    have HM2:=HM1.out
    generalize hL2:acc ++ LA=L2 at hq3 HM2
    replace hO2:w2.ownsRow w.heap.size 46 5 v2 L2.length (L2.flatMap Fl.cells):=by rw [← hL2,List.length_append,List.flatMap_append];exact hO2
    have HM3:=Lib.hid HM2
    clear HM2
    go_wp2_with (at_builtin;refine wpList_append_rd rfl _ _ rfl w.heap.size _ b1 d1 L2 LB rfl hO2 rfl r3 n2 hq3 hz2 ?_)
    intro v3 w3 hO3 hb3
    replace hO3:w3.ownsRow w.heap.size 46 5 v3 (L2 ++ LB).length ((L2 ++ LB).flatMap Fl.cells):=by rw [List.length_append,List.flatMap_append];exact hO3
    have HF:Hid (OwnFl w w3 (mrgFl A B) v3∧Below w.heap.size w w3):=⟨by rw [HM3.out];exact ⟨own_shape5 hO3,hO3⟩,(hBl.trans hb2).trans hb3⟩
    go_wp2
    go_ret
    exact ⟨_,rfl,HF.out⟩
   | cons y B1 =>
    obtain ⟨ra,rb,n1,n2⟩:=HR.out
    obtain ⟨b,off,rfl,hbl,cx,ra'⟩:=ra.head
    obtain ⟨b2,off2,rfl,hbl2,cy,rb'⟩:=rb.head
    obtain ⟨x0,x1,x2,x3,x4⟩:=cx wr HBl.out
    obtain ⟨y0,y1,y2,y3,y4⟩:=cy wr HBl.out
    have HCx:=Lib.hid cx
    have HCy:=Lib.hid cy
    have HC:=Lib.hid (fun W => bef1_any y x W)
    have hx1:b < wr.heap.size:=by omega
    have hy1:b2 < wr.heap.size:=by omega
    have la1:0 < (x :: A1).length:=by simp
    have lb1:0 < (y :: B1).length:=by simp
    have la2:(0:Int) < ((x :: A1).length:Int):=by omega
    have lb2:(0:Int) < ((y :: B1).length:Int):=by omega
    generalize hLa:(x :: A1).length=La at *
    generalize hLb:(y :: B1).length=Lb at *
    clear ra rb cx cy
    go_wp2_with fail
    go_still_tail 7,(by kernel_rfl)
    change wpList _ _ _ _ _ wr.drew
    have hb1:Below w.heap.size w wr.drew:=below_drewN HBl.out 1
    have hz1:wr.heap.size≤wr.drew.heap.size:=Nat.le_refl _
    have hO1:wr.drew.ownsRow w.heap.size 46 5 (.slice oa acc.length oc) acc.length (acc.flatMap Fl.cells):=ownsRow_below' HO.out (below_drewN (Below.refl _ _) 1)
    generalize wr.drew=w2 at *
    clear x0 x1 x2 x3 x4 y0 y1 y2 y3 y4
    go_wp2_with fail
    go_at_call 65
    refine (HC.out w2).mono ?_
    rintro e w3 ⟨rfl,hb3⟩
    have hO3:=ownsRow_below' hO1 hb3
    have hz3:=hb3.size
    have hbl3:=hb1.trans (hb3.mono (by omega))
    obtain ⟨x0,x1,x2,x3,x4⟩:=HCx.out w3 hbl3
    obtain ⟨y0,y1,y2,y3,y4⟩:=HCy.out w3 hbl3
    have lac:acc.length≤5000000:=by omega
    cases hc:decide (y.d < x.d) with
    | true =>
     have hO4:=ownsRow_below' hO3 (((Below.refl w3.heap.size w3).drew).alloc (Nat.le_refl _) (.cells #[.int .i64 y.d,.string y.fr,.string y.rc,.string y.cy,.string y.am] 46))
     have hO5:=own_fl1 w3.drew y w.heap.size (show w.heap.size≤w3.heap.size by omega)
     have hzz:w.heap.size≤(w3.drew.alloc (.cells #[.int .i64 y.d,.string y.fr,.string y.rc,.string y.cy,.string y.am] 46)).heap.size:=by rw [World.size_alloc];show w.heap.size≤w3.heap.size+1;omega
     have hbb:Below w.heap.size w (w3.drew.alloc (.cells #[.int .i64 y.d,.string y.fr,.string y.rc,.string y.cy,.string y.am] 46)):=hbl3.trans ((((Below.refl w3.heap.size w3).drew).alloc (Nat.le_refl _) _).mono (by omega))
     have s1:(1:Int)≤(Lb:Int):=by omega
     have s2:(Lb:Int)≤(d1:Int):=by omega
     have s3:(1:Int)≤(d1:Int):=by omega
     have s4:1≤Lb:=by omega
     have s5:1≤d1:=by omega
     have s6:(0:Int)≤(Lb:Int):=by omega
     have hx3:b2 < w3.heap.size:=by omega
     by_cases hcap:d1=1
     all_goals
      go_wp2_with fail
      go_region_held3 (fun w' => w'.cell? ⟨b2,off2,none⟩=some (.int .i64 y.d)∧w'.cell? ⟨b2,off2+1,none⟩=some (.string y.fr)∧w'.cell? ⟨b2,off2+2,none⟩=some (.string y.rc)∧w'.cell? ⟨b2,off2+3,none⟩=some (.string y.cy)∧w'.cell? ⟨b2,off2+4,none⟩=some (.string y.am)) (first | assumption | exact ⟨by assumption,by assumption,by assumption,by assumption,by assumption⟩ | go_keep) (first | (refine step_append_flows rfl (.tmp 24) (.tmp 28) rfl w.heap.size w.heap.size _ _ acc [y] rfl hO4 rfl hO5 (by simp;omega) hzz ?_;intro v' w4 ho4 hb4;obtain ⟨z0,z1,z2,z3,z4⟩:=HCy.out w4 (hbb.trans hb4)) | fail)
      obtain ⟨oa',oc',rfl⟩:=own_shape5 ho4
      have hz4:=hb4.size
      have HM':mrgFl A B=(acc ++ [y]) ++ mrgFl (x :: A1) B1:=by rw [HM.out,mrgFl_cons,if_pos (of_decide_eq_true hc),List.append_assoc];rfl
      have hbf:=hbb.trans hb4
      have hLB:Lb - 1=B1.length:=by rw [← hLb];simp
      clear z0 z1 z2 z3 z4 hO4 hO5
     ·obtain rfl:B1=[]:=by cases B1 with | nil => rfl | cons z B1 => simp at hLb;omega
      have HRr:=Rd.nil w (some ⟨b2,off2,none⟩)
      go_roundw
      case rel =>
       (repeat apply Exists.intro)
       exact ⟨⟨x :: A1,[],acc ++ [y],_,_,_,c1,0,_,by rw [hLa],by rw [← hLB],rfl,by rw [hLa];exact l1,by omega,by rw [List.length_append,hLa];simp;omega,Lib.hid ⟨HR.out.1,HRr,n1,fun h => by cases h⟩,Lib.hid HM',Lib.hid ho4,Lib.hid hbf,hbf.size⟩,rfl⟩
      case measure => simp [slN];omega
     ·have HRr:=rb'
      go_roundw
      case rel =>
       (repeat apply Exists.intro)
       exact ⟨⟨x :: A1,B1,acc ++ [y],_,_,_,c1,d1 - 1,_,by rw [hLa],by rw [← hLB],rfl,by rw [hLa];exact l1,by omega,by rw [List.length_append,hLa];simp;omega,Lib.hid ⟨HR.out.1,HRr,n1,fun h => by cases h⟩,Lib.hid HM',Lib.hid ho4,Lib.hid hbf,hbf.size⟩,rfl⟩
      case measure => simp [slN];omega
    | false =>
     have hO4:=ownsRow_below' hO3 (((Below.refl w3.heap.size w3).drew).alloc (Nat.le_refl _) (.cells #[.int .i64 x.d,.string x.fr,.string x.rc,.string x.cy,.string x.am] 46))
     have hO5:=own_fl1 w3.drew x w.heap.size (show w.heap.size≤w3.heap.size by omega)
     have hzz:w.heap.size≤(w3.drew.alloc (.cells #[.int .i64 x.d,.string x.fr,.string x.rc,.string x.cy,.string x.am] 46)).heap.size:=by rw [World.size_alloc];show w.heap.size≤w3.heap.size+1;omega
     have hbb:Below w.heap.size w (w3.drew.alloc (.cells #[.int .i64 x.d,.string x.fr,.string x.rc,.string x.cy,.string x.am] 46)):=hbl3.trans ((((Below.refl w3.heap.size w3).drew).alloc (Nat.le_refl _) _).mono (by omega))
     have s1:(1:Int)≤(La:Int):=by omega
     have s2:(La:Int)≤(c1:Int):=by omega
     have s3:(1:Int)≤(c1:Int):=by omega
     have s4:1≤La:=by omega
     have s5:1≤c1:=by omega
     have s6:(0:Int)≤(La:Int):=by omega
     have hx3:b < w3.heap.size:=by omega
     by_cases hcap:c1=1
     all_goals
      go_wp2_with fail
      go_region_held3 (fun w' => w'.cell? ⟨b,off,none⟩=some (.int .i64 x.d)∧w'.cell? ⟨b,off+1,none⟩=some (.string x.fr)∧w'.cell? ⟨b,off+2,none⟩=some (.string x.rc)∧w'.cell? ⟨b,off+3,none⟩=some (.string x.cy)∧w'.cell? ⟨b,off+4,none⟩=some (.string x.am)) (first | assumption | exact ⟨by assumption,by assumption,by assumption,by assumption,by assumption⟩ | go_keep) (first | (refine step_append_flows rfl (.tmp 32) (.tmp 36) rfl w.heap.size w.heap.size _ _ acc [x] rfl hO4 rfl hO5 (by simp;omega) hzz ?_;intro v' w4 ho4 hb4;obtain ⟨z0,z1,z2,z3,z4⟩:=HCx.out w4 (hbb.trans hb4)) | fail)
      obtain ⟨oa',oc',rfl⟩:=own_shape5 ho4
      have hz4:=hb4.size
      have HM':mrgFl A B=(acc ++ [x]) ++ mrgFl A1 (y :: B1):=by rw [HM.out,mrgFl_cons,if_neg (of_decide_eq_false hc),List.append_assoc];rfl
      have hbf:=hbb.trans hb4
      have hLB:La - 1=A1.length:=by rw [← hLa];simp
      clear z0 z1 z2 z3 z4 hO4 hO5
     ·obtain rfl:A1=[]:=by cases A1 with | nil => rfl | cons z A1 => simp at hLa;omega
      have HRr:=Rd.nil w (some ⟨b,off,none⟩)
      go_roundw
      case rel =>
       (repeat apply Exists.intro)
       exact ⟨⟨[],y :: B1,acc ++ [x],_,_,_,0,d1,_,by rw [← hLB],by rw [hLb],rfl,by omega,by rw [hLb];exact l2,by rw [List.length_append,hLb];simp;omega,Lib.hid ⟨HRr,HR.out.2.1,fun h => (by cases h),n2⟩,Lib.hid HM',Lib.hid ho4,Lib.hid hbf,hbf.size⟩,rfl⟩
      case measure => simp [slN];omega
     ·have HRr:=ra'
      go_roundw
      case rel =>
       (repeat apply Exists.intro)
       exact ⟨⟨A1,y :: B1,acc ++ [x],_,_,_,c1 - 1,d1,_,by rw [← hLB],by rw [hLb],rfl,by omega,by rw [hLb];exact l2,by rw [List.length_append,hLb];simp;omega,Lib.hid ⟨HRr,HR.out.2.1,fun h => (by cases h),n2⟩,Lib.hid HM',Lib.hid ho4,Lib.hid hbf,hbf.size⟩,rfl⟩
      case measure => simp [slN];omega
end Go.Proofs.YtcnpaciljmekcaaGreatDoor

namespace Go.Proofs.YtcnpaciljmekcaaGreatDoor
open Go.RowKit
theorem Rd.take {w:World} {ad:Option Addr} {l:List Fl} (h:Rd Fl.cells 5 w ad l) (n:Nat):Rd Fl.cells 5 w ad (l.take n):=fun j x hj => h j x (by
 have h1:=(List.getElem?_eq_some_iff.1 hj).1
 rw [List.length_take] at h1
 rw [List.getElem?_take_of_lt (by omega)] at hj
 exact hj)
theorem Rd.drop {w:World} {b off:Nat} {l:List Fl} (h:Rd Fl.cells 5 w (some ⟨b,off,none⟩) l) (n:Nat):Rd Fl.cells 5 w (some ⟨b,off+n * 5,none⟩) (l.drop n):=fun j x hj => by
 rw [List.getElem?_drop] at hj
 obtain ⟨b',off',e,h3⟩:=h (n+j) x hj
 obtain ⟨rfl,rfl⟩:b=b'∧off=off':=by simpa using e
 refine ⟨b,off+n * 5,rfl,fun i u hu => ?_⟩
 have:=h3 i u hu
 rw [show off+n * 5+j * 5+i=off+(n+j) * 5+i by rw [Nat.add_mul];omega]
 exact this
theorem own_rd {w:World} {base:Nat} {ad:Option Addr} {cap:Nat} {l:List Fl} (h:w.ownsRow base 46 5 (.slice ad l.length cap) l.length (l.flatMap Fl.cells)):Rd Fl.cells 5 w ad l∧l.length≤cap∧(ad=none→cap=0):=by
 refine ⟨Rd.of_sl (enc:=Fl.cells) (m:=5) (fun _ => rfl) (by decide) (Sl.of_owns h),?_⟩
 rcases h.2 with ⟨h1,h2⟩ | ⟨g,c,cur,h1,h2,h3,h4,h5⟩
 ·obtain ⟨rfl,_,rfl⟩:ad=none∧l.length=0∧cap=0:=by simpa using h1
  exact ⟨by omega,fun _ => rfl⟩
 ·cases h1;exact ⟨h4,fun h => by cases h⟩
theorem own_rd2 {w:World} {base n:Nat} {ad:Option Addr} {cap:Nat} {l:List Fl} (hn:l.length=n) (h:w.ownsRow base 46 5 (.slice ad n cap) l.length (l.flatMap Fl.cells)):Rd Fl.cells 5 w ad l∧n≤cap∧(ad=none→cap=0):=by
 subst hn;exact own_rd h
abbrev OrdP (w:World) (l:List Fl) (e:Ending) (w':World):Prop :=
 ∃ ad cap,e = .returned (.slice ad l.length cap)∧Below w.heap.size w w'∧l.length≤cap∧(ad=none→cap=0)∧Rd Fl.cells 5 w' ad (srtFl l)
set_option maxRecDepth 100000 in
theorem ordered_zero (l:List Fl) (hN:l.length≤0) (aa:Option Addr) (ca:Nat) (w:World) (hr:Rd Fl.cells 5 w aa l) (la:l.length≤ca) (na:aa=none→ca=0):Calls Tryz.prog 63 #[.slice aa l.length ca,.func (.func 65) #[] #[]] w (OrdP w l):=by
 obtain rfl:l=[]:=List.length_eq_zero_iff.1 (by omega)
 have HR:=Lib.hid hr
 have HN:=Lib.hid na
 clear hr na
 go_enter Tryz.func63,Tryz.ntmps63
 go_wp2_with fail
 go_ret
 exact ⟨_,_,rfl,Below.refl _ _,la,HN.out,HR.out⟩
def PO (N:Nat):Prop:=∀ (l:List Fl),l.length≤N→l.length≤5000000→∀ (aa:Option Addr) (ca:Nat) (w:World),Rd Fl.cells 5 w aa l→l.length≤ca→(aa=none→ca=0) →
  Calls Tryz.prog 63 #[.slice aa l.length ca,.func (.func 65) #[] #[]] w (OrdP w l)
set_option maxHeartbeats 4000000 in
set_option maxRecDepth 100000 in
theorem ordered_step (N:Nat) (IH:PO N):PO (N+1):=by
 intro l hN hl aa ca w hr la na
 by_cases h2:l.length < 2
 ·have h3:(l.length:Int) < 2:=by omega
  have HR:=Lib.hid hr
  have HN:=Lib.hid na
  have HS:=Lib.hid (srtFl_one h2)
  clear hr na
  go_enter Tryz.func63,Tryz.ntmps63
  go_wp2_with fail
  go_ret
  exact ⟨_,_,rfl,Below.refl _ _,la,HN.out,by rw [HS.out];exact HR.out⟩
 ·obtain ⟨b,off,rfl⟩:∃ b off,aa=some ⟨b,off,none⟩:=by
   cases l with
   | nil => exact absurd (Nat.zero_lt_succ _) h2
   | cons x l => obtain ⟨b,off,e,_⟩:=hr.head;exact ⟨b,off,e⟩
  have hd:(l.drop (l.length / 2)).length=l.length - l.length / 2:=List.length_drop
  have ht:(l.take (l.length / 2)).length=l.length / 2:=by rw [List.length_take];omega
  have H1:=Lib.hid (fun W (hb:Below w.heap.size w W) => IH (l.take (l.length / 2)) (by omega) (by omega) (some ⟨b,off,none⟩) ca W ((hr.take _).below hb) (by omega) (fun h => by cases h))
  have H2:=Lib.hid (fun W (hb:Below w.heap.size w W) => IH (l.drop (l.length / 2)) (by omega) (by omega) (some ⟨b,off+l.length / 2 * 5,none⟩) (ca - l.length / 2) W ((hr.drop _).below hb) (by omega) (fun h => by cases h))
  have HS:=Lib.hid (srtFl_half l (l.length / 2))
  have l1:(srtFl (l.take (l.length / 2))).length=l.length / 2:=by rw [srtFl_len,ht]
  have l2:(srtFl (l.drop (l.length / 2))).length=l.length - l.length / 2:=by rw [srtFl_len,hd]
  have hq:(l.length:Int).tdiv 2=((l.length / 2:Nat):Int):=by rw [Int.tdiv_eq_ediv_of_nonneg (by omega)];omega
  have hll:(mrgFl (srtFl (l.take (l.length / 2))) (srtFl (l.drop (l.length / 2)))).length=l.length:=by rw [mrgFl_len,l1,l2];omega
  have HM:=Lib.hid (fun aa ab ca cb W a b c d e f => merge_any (srtFl (l.take (l.length / 2))) (srtFl (l.drop (l.length / 2))) aa ab ca cb W a b c d e f (by omega))
  have H1:=Lib.hid (fun W (hb:Below w.heap.size w W) => (H1.out W hb).mono (fun e w' (h:OrdP W (l.take (l.length / 2)) e w') => show ∃ ad cap,e = .returned (.slice ad (l.length / 2) cap)∧Below W.heap.size W w'∧l.length / 2≤cap∧(ad=none→cap=0)∧Rd Fl.cells 5 w' ad (srtFl (l.take (l.length / 2))) by
   obtain ⟨ad,cap,he,hb,q⟩:=h
   rw [ht] at he q
   exact ⟨ad,cap,he,hb,q⟩))
  have H2:=Lib.hid (fun W (hb:Below w.heap.size w W) => (H2.out W hb).mono (fun e w' (h:OrdP W (l.drop (l.length / 2)) e w') => show ∃ ad cap,e = .returned (.slice ad (l.length - l.length / 2) cap)∧Below W.heap.size W w'∧l.length - l.length / 2≤cap∧(ad=none→cap=0)∧Rd Fl.cells 5 w' ad (srtFl (l.drop (l.length / 2))) by
   obtain ⟨ad,cap,he,hb,q⟩:=h
   rw [hd] at he q
   exact ⟨ad,cap,he,hb,q⟩))
  rw [ht] at H1
  rw [hd] at H2
  rw [l1,l2] at HM
  generalize hLl:l.length=L at *
  generalize hnn:L / 2=n at *
  generalize hA:srtFl (l.take n)=A at *
  generalize hB:srtFl (l.drop n)=B at *
  have k1:n≤L:=by omega
  have k2:(0:Int)≤(n:Int):=by omega
  have k3:(n:Int)≤(L:Int):=by omega
  have k4:(L:Int)≤(ca:Int):=by omega
  have k5:(n:Int)≤(ca:Int):=by omega
  have k6 : ¬ (L:Int) < 2:=by omega
  have k7:n < ca:=by omega
  have k8 : ¬ ca=n:=by omega
  have k9:IntKind.i64.wrap (n:Int)=(n:Int):=IntWalk.i64_in _ (by omega)
  clear hr na hd ht
  show Calls _ _ _ _ (fun e w' => ∃ ad cap,e = .returned (.slice ad l.length cap)∧Below w.heap.size w w'∧l.length≤cap∧(ad=none→cap=0)∧Rd Fl.cells 5 w' ad (srtFl l))
  rw [hLl]
  go_enter Tryz.func63,Tryz.ntmps63
  go_wp2_with fail
  have e1:Below w.heap.size w w.drew:=(Below.refl _ _).drew
  go_region_held3 (fun _ => True) (exact trivial)
   (first
    | (go_at_call 63;with_reducible refine (H1.out _ e1).mono ?_;rintro e w2 ⟨a2,c2,rfl,hb2,q1,q2,r2⟩;have e2:=e1.trans (hb2.mono e1.size))
    | (go_at_call 63;with_reducible refine (H2.out _ e2).mono ?_;rintro e w3 ⟨a3,c3,rfl,hb3,q3,q4,r3⟩;have e3:=e2.trans (hb3.mono e2.size);have r4:=r2.below hb3)
    | (go_at_call 114;refine (HM.out a2 a3 c2 c3 _ r4 r3 q1 q3 q2 q4).mono ?_;rintro e w4 ⟨v,rfl,ho,hb4⟩;have e4:=e3.trans (hb4.mono e3.size)))
  go_wp2
  go_ret
  obtain ⟨⟨a5,c5,hv⟩,ho5⟩:=ho
  rw [hll] at hv
  subst hv
  obtain ⟨o1,o2,o3⟩:=own_rd2 hll ho5
  exact ⟨_,_,rfl,e4,o2,o3,by rw [HS.out];exact o1⟩
theorem ordered_any:∀ N,PO N
 | 0 => fun l hN hl aa ca w hr la na => ordered_step 0 (fun l hN hl aa ca w hr la na => ordered_zero l hN aa ca w hr la na) l (by omega) hl aa ca w hr la na
 | N+1 => ordered_step N (ordered_any N)
end Go.Proofs.YtcnpaciljmekcaaGreatDoor

namespace Go.Proofs.YtcnpaciljmekcaaGreatDoor
open Go.RowKit
theorem wp_gen {P:Program} {c:Code} {Q:Exit→Act→World→Prop} {a:Act} {w:World} (h:∀ Q':Exit→Act→World→Prop,(∀ e a w,Q' e a w=Q e a w)→c.wp P Q' a w):c.wp P Q a w:=h Q (fun _ _ _ => rfl)
set_option maxHeartbeats 2000000 in
set_option maxRecDepth 100000 in
theorem caught_panicking (be bl:Nat) (x e:Int) (v:Value) (older:List PanicEntry) (w:World) (hc:w.cell? ⟨be,0,none⟩=some (.int .i64 x)) (hz:w.frozen? ⟨be,0,none⟩=false) (hl:w.cell? ⟨bl,0,none⟩=some v) (hlz:w.frozen? ⟨bl,0,none⟩=false) (hne:be ≠ bl) (hbe:be < w.heap.size) (hbl:bl < w.heap.size) :
  CallsD Tryz.prog 62 #[.pointer (some ⟨be,0,none⟩),.pointer (some ⟨bl,0,none⟩)] (.panicking ({ v:=.iface 166 (.agg #[.int .i64 e]),recovered:=false } :: older)) w fun en u' w' =>
   en = .returned (.tuple #[])∧u' = .panicking ({ v:=.iface 166 (.agg #[.int .i64 e]),recovered:=true } :: older)∧w'=((w.setCell ⟨be,0,none⟩ (.int .i64 e)).setCell ⟨bl,0,none⟩ (.slice none 0 0)).alloc (.cells #[.int .i64 e] 166):=by
 have hta:∀ w:World,(Instr.typeAssert (.iface 166 (.agg #[.int .i64 e])) 20 166 true).run Tryz.prog w = .ok (.tuple #[.agg #[.int .i64 e],.bool true]) w:=fun w => rfl
 refine callsD_of_wpS Tryz.func62 rfl fun c₀ cs hu => ?_
 apply wpS_seq
 apply wpS_region
 simp [wpOpsS,go_sem,recoverD,hu,Tryz.ntmps62,Exit.thenS]
 refine wpS_of_wp ?_
 refine wp_gen fun Q hQ => ?_
 change Code.wp _ _ _ { tmps:=#[.pointer (some ⟨be,0,none⟩),.pointer (some ⟨bl,0,none⟩),undef,undef,undef,undef,undef,.iface 166 (.agg #[.int .i64 e]),undef,undef,undef,undef,undef,undef,undef,undef,undef,undef,undef],defers:=[] } _
 go_wp2
 rw [hQ]
 simp [bodyPostS,results,Tryz.results62]
set_option maxHeartbeats 2000000 in
set_option maxRecDepth 100000 in
theorem caught_idle (p q:Value) (w:World) :
  CallsD Tryz.prog 62 #[p,q] .returning w fun e u' w' => e = .returned (.tuple #[])∧u' = .returning∧w'=w:=by
 refine callsD_of_wpS Tryz.func62 rfl fun c₀ cs hu => ?_
 apply wpS_seq
 apply wpS_region
 simp [wpOpsS,go_sem,recoverD,hu,Tryz.ntmps62,Exit.thenS]
 refine wpS_of_wp ?_
 refine wp_gen fun Q hQ => ?_
 change Code.wp _ _ _ { tmps:=#[p,q,undef,undef,undef,undef,undef,.nilIface,undef,undef,undef,undef,undef,undef,undef,undef,undef,undef,undef],defers:=[] } _
 go_wp2
 rw [hQ]
 cases c₀
 simp_all [bodyPostS,results,Tryz.results62]
end Go.Proofs.YtcnpaciljmekcaaGreatDoor

namespace Go.Proofs.YtcnpaciljmekcaaGreatDoor
open Go.RowKit
def upd (L:Nat→Bool) (i:Nat):Nat→Bool:=fun j => if j=i then true else L j
def cnt:List Bool→Nat
 | [] => 0
 | b :: l => (if b then 0 else 1)+cnt l
theorem cnt_set:∀ {l:List Bool} {i:Nat},l[i]? = some false→cnt (l.set i true)+1=cnt l
 | [],i,h => by simp at h
 | b :: l,0,h => by
  simp at h;subst h
  simp [cnt];omega
 | b :: l,i+1,h => by
  have:=cnt_set (l:=l) (i:=i) (by simpa using h)
  simp only [List.set_cons_succ,cnt]
  omega
theorem cnt_zero:∀ {l:List Bool},cnt l=0→∀ j,j < l.length→l[j]? = some true
 | [],_,j,hj => by simp at hj
 | b :: l,h,j,hj => by
  simp only [cnt] at h
  cases b with
  | false => simp at h
  | true =>
   cases j with
   | zero => rfl
   | succ j => simpa using cnt_zero (l:=l) (by simpa using h) j (by simpa using hj)
theorem cnt_replicate:∀ n,cnt (List.replicate n false)=n
 | 0 => rfl
 | n+1 => by rw [List.replicate_succ,cnt,cnt_replicate n];simp;omega
section
variable {P:Program} {ops:Array Oper} {md:Region.Mode}
def fwdB (md:Region.Mode) (ops:Array Oper):Bool :=
 (List.range ops.size).all fun j => match ops[j]? with | some o => o.after.all fun e => !Region.binds md e || decide (e.on < j) | none => true
theorem fwd_spec (h:fwdB md ops=true) {j:Nat} {o:Oper} (ho:ops[j]? = some o):∀ e ∈ o.after,Region.binds md e=true→e.on < j:=by
 intro e he hb
 have hj:j < ops.size:=(Array.getElem?_eq_some_iff.1 ho).1
 have h1:=List.all_eq_true.1 h j (List.mem_range.2 hj)
 simp only [ho] at h1
 have h2:=Array.all_eq_true'.1 h1 e he
 simp only [hb,Bool.not_true,Bool.false_or,decide_eq_true_eq] at h2
 exact h2
theorem getD_both' {listed:Array Bool} {j:Nat} (hj:j < listed.size):listed.getD j true=listed.getD j false:=by
 simp [hj]
theorem ready_all (hf:fwdB md ops=true) {listed:Array Bool} (hs:listed.size=ops.size) (hr:Region.ready md ops listed=[]):∀ j,j < ops.size→listed.getD j false=true:=by
 intro j
 induction j using Nat.strongRecOn with
 | _ j ih =>
  intro hj
  cases h:listed.getD j false with
  | true => rfl
  | false =>
   exfalso
   obtain ⟨o,ho⟩:∃ o,ops[j]? = some o:=⟨_,Array.getElem?_eq_getElem hj⟩
   have:j ∈ Region.ready md ops listed:=mem_ready.2 ⟨by rw [getD_both' (by omega)];exact h,o,ho,fun e he hb => ih e.on (fwd_spec hf ho e he hb) (by have:=fwd_spec hf ho e he hb;omega)⟩
   rw [hr] at this
   cases this
theorem upd_listed {listed:Array Bool} {i:Nat} (hi:i < listed.size):(fun j => (listed.setIfInBounds i true).getD j false)=upd (fun j => listed.getD j false) i:=by
 funext j
 unfold upd
 by_cases h:j=i
 ·subst h
  rw [if_pos rfl]
  simp [hi]
 ·rw [if_neg h,getD_set_ne false (fun e => h e.symm)]
theorem wpAny_inv {Q:Exit→Act→World→Prop} {Inv:(Nat→Bool)→Act→World→Prop} (hf:fwdB md ops=true)
  (hst:∀ L a w,Inv L a w→∀ i o,ops[i]? = some o→L i=false→(∀ e ∈ o.after,Region.binds md e=true→L e.on=true)→wpOp P ops Q i (Inv (upd L i)) a w)
  (hend:∀ L a w,Inv L a w→(∀ j,j < ops.size→L j=true)→Q .normal a w) :
  ∀ (f:Nat) (listed:Array Bool) (a:Act) (w:World),listed.size=ops.size→cnt listed.toList≤f→Inv (fun j => listed.getD j false) a w→wpAny P md ops Q f listed a w
 | 0,listed,a,w,hs,hc,h => by
  have hall:∀ j,j < ops.size→listed.getD j false=true:=fun j hj => by
   have:=cnt_zero (Nat.le_zero.1 hc) j (by simpa [hs] using hj)
   have hj':j < listed.size:=by omega
   simp [hj'] at this ⊢
   exact this
  refine ⟨?_,hend _ _ _ h hall⟩
  rw [List.eq_nil_iff_forall_not_mem]
  intro i hi
  obtain ⟨h1,o,ho,_⟩:=mem_ready.1 hi
  have hj:i < ops.size:=(Array.getElem?_eq_some_iff.1 ho).1
  rw [getD_both' (by omega),hall i hj] at h1
  cases h1
 | f+1,listed,a,w,hs,hc,h => by
  refine ⟨fun hr => hend _ _ _ h (ready_all hf hs hr),fun i hi => ?_⟩
  obtain ⟨h1,o,ho,h2⟩:=mem_ready.1 hi
  have hj:i < listed.size:=by have:=(Array.getElem?_eq_some_iff.1 ho).1;omega
  have h3:listed.getD i false=false:=by rw [← getD_both' hj];exact h1
  have h4:listed.toList[i]? = some false:=by simp [hj] at h3 ⊢;exact h3
  refine wpOp_mono (fun a' w' h5 => ?_) (hst _ a w h i o ho h3 h2)
  refine wpAny_inv hf hst hend f (listed.setIfInBounds i true) a' w' (by simpa using hs) ?_ ?_
  ·have:=cnt_set h4
   rw [Array.toList_setIfInBounds]
   omega
  ·rw [upd_listed hj];exact h5
def predB (md:Region.Mode) (ops:Array Oper) (i j:Nat):Bool :=
 match ops[i]? with | some o => o.after.any fun e => Region.binds md e && e.on == j | none => false
theorem pred_spec {i j:Nat} {o:Oper} {L:Nat→Bool} (ho:ops[i]? = some o) (hp:∀ e ∈ o.after,Region.binds md e=true→L e.on=true) (h:predB md ops i j=true):L j=true:=by
 unfold predB at h
 simp only [ho] at h
 obtain ⟨e,he,h1⟩:=Array.any_eq_true'.1 h
 simp only [Bool.and_eq_true,beq_iff_eq] at h1
 rw [← h1.2]
 exact hp e he h1.1
theorem wp_region_inv {id:Nat} {Q:Exit→Act→World→Prop} {a:Act} {w:World} (Inv:(Nat→Bool)→Act→World→Prop) (hm:P.follows .mixedOrders=true) (hf:fwdB .any ops=true)
  (h0:Inv (fun _ => false) a w.drew)
  (hst:∀ L a w,Inv L a w→∀ i o,ops[i]? = some o→L i=false→(∀ e ∈ o.after,Region.binds .any e=true→L e.on=true)→wpOp P ops Q i (Inv (upd L i)) a w)
  (hend:∀ L a w,Inv L a w→(∀ j,j < ops.size→L j=true)→Q .normal a w):(Code.region id ops true).wp P Q a w:=by
 refine wp_region_any hm (wpAny_inv hf hst hend ops.size _ _ _ (by simp) ?_ ?_)
 ·simp [cnt_replicate]
 ·have e:(fun j => (Array.replicate ops.size false).getD j false)=fun _ => false:=by
   funext j
   by_cases hj:j < ops.size <;> simp [hj]
  rw [e];exact h0
end
end Go.Proofs.YtcnpaciljmekcaaGreatDoor

namespace Go.Proofs.YtcnpaciljmekcaaGreatDoor
open Go.RowKit
structure VInv (W0:World) (vals cur:List Value) (L:Nat→Bool) (w:World):Prop where
 b:Below W0.heap.size W0 w
 len:cur.length=vals.length
 f:∀ (i:Nat) (v:Value),L i=true→vals[i]? = some v→cur[i]? = some v
section
variable {W0 w w':World} {vals cur:List Value} {L:Nat→Bool}
theorem VInv.start (h:Below W0.heap.size W0 w) (hl:cur.length=vals.length):VInv W0 vals cur (fun _ => false) w:=⟨h,hl,fun _ _ h => by cases h⟩
theorem VInv.ext (h:VInv W0 vals cur L w) (hb:Below w.heap.size w w'):VInv W0 vals cur L w':=⟨h.b.trans (hb.mono h.b.size),h.len,h.f⟩
theorem VInv.step (h:VInv W0 vals cur L w) {i:Nat} {v:Value} (hv:vals[i]? = some v):VInv W0 vals (cur.set i v) (upd L i) w:=by
 have hi:i < cur.length:=by rw [h.len];exact (List.getElem?_eq_some_iff.1 hv).1
 refine ⟨h.b,by rw [List.length_set];exact h.len,fun j u hj hu => ?_⟩
 by_cases e:j=i
 ·subst e
  rw [List.getElem?_set_self hi,← hv,hu]
 ·rw [List.getElem?_set_ne (fun e' => e e'.symm)]
  exact h.f j u (by rw [← hj];unfold upd;rw [if_neg e]) hu
theorem VInv.at (h:VInv W0 vals cur L w) {i:Nat} {u v:Value} (hL:L i=true) (hv:vals[i]? = some v) (hu:cur[i]? = some u):u=v:=Option.some.inj (hu.symm.trans (h.f i v hL hv))
end
end Go.Proofs.YtcnpaciljmekcaaGreatDoor

namespace Go.Proofs.YtcnpaciljmekcaaGreatDoor
open Go.RowKit
structure Turned (lo hi:Nat) (w w':World):Prop where
 os:w'.os=w.os
 tape:w'.tape=w.tape
 output:w'.output=w.output
 size:w'.heap.size=w.heap.size
 block:∀ k,k < lo∨hi≤k→w'.heap[k]? = w.heap[k]?
theorem Turned.refl (lo hi:Nat) (w:World):Turned lo hi w w:=⟨rfl,rfl,rfl,rfl,fun _ _ => rfl⟩
theorem Turned.below {lo hi:Nat} {w w':World} (h:Turned lo hi w w'):Below lo w w':=⟨h.os,h.tape,h.output,Nat.le_of_eq h.size.symm,fun k hk => h.block k (.inl hk)⟩
theorem Turned.setCell {lo hi:Nat} {w w':World} (h:Turned lo hi w w') {a:Addr} (h1:lo≤a.block) (h2:a.block < hi) (u:Value):Turned lo hi w (w'.setCell a u) :=
 ⟨h.os,h.tape,h.output,by rw [← h.size];simp [World.setCell],fun k hk => (Below.heap_setCell _ _ _ _ (by omega)).trans (h.block k hk)⟩
theorem owns_some {w:World} {base n c m:Nat} {e:TypeId} {a:Option Addr} {xs:List Value} (h:w.ownsRow base e m (.slice a n c) n xs) (hn:0 < n):∃ g,a=some ⟨g,0,none⟩:=by
 rcases h.2 with ⟨h',h0⟩ | ⟨g,cap,cur,h',_⟩
 ·omega
 ·exact ⟨g,(Value.slice.inj h').1⟩
end Go.Proofs.YtcnpaciljmekcaaGreatDoor

namespace Go.Proofs.YtcnpaciljmekcaaGreatDoor
open Go.RowKit
structure RSt (wr W:World) (T:TypeId) (m g B0 n cap:Nat) (os:List Value):Prop where
 gr:wr.grownBy W (some g)
 own:W.ownsRow B0 T m (.slice (some ⟨g,0,none⟩) n cap) n os
section
variable {wr W W':World} {T:TypeId} {m g B0 n cap:Nat} {os:List Value}
theorem RSt.start (h:wr.ownsRow B0 T m (.slice (some ⟨g,0,none⟩) n cap) n os):RSt wr wr T m g B0 n cap os:=⟨World.grownBy.refl _ _,h⟩
theorem RSt.lt (h:RSt wr W T m g B0 n cap os):B0≤g∧g < W.heap.size:=h.own.lt g rfl
theorem RSt.ext (h:RSt wr W T m g B0 n cap os) (hb:Below W.heap.size W W'):RSt wr W' T m g B0 n cap os :=
 ⟨h.gr.trans ⟨hb.os,hb.tape,hb.output,hb.size,fun k hk _ => hb.block k hk⟩,ownsRow_below' h.own hb⟩
theorem RSt.alloc (h:RSt wr W T m g B0 n cap os) (o:Obj):RSt wr (W.alloc o) T m g B0 n cap os:=h.ext (below_a1 _ _)
theorem RSt.set (h:RSt wr W T m g B0 n cap os) (j:Nat) (u:Value):RSt wr (W.setCell ⟨g,j,none⟩ u) T m g B0 n cap (os.set j u) :=
 ⟨h.gr.trans (h.own.stored j u).2,(h.own.stored j u).1⟩
theorem RSt.but (h:RSt wr W T m g B0 n cap os) {K:Nat} (hK:wr.heap.size≤K) (hg:g < wr.heap.size) (hb:Below K W W') (hs:W.heap.size≤W'.heap.size) (ho:∀ b,b ≠ K→W'.heap[b]? = W.heap[b]?):RSt wr W' T m g B0 n cap os:=by
 refine ⟨⟨hb.os.trans h.gr.os,hb.tape.trans h.gr.tape,hb.output.trans h.gr.output,Nat.le_trans h.gr.size hs,fun k hk hne => (ho k (by omega)).trans (h.gr.block k hk hne)⟩,ownsRow_kept h.own fun k hk _ => ho k ?_⟩
 have:g=k:=by simpa [Value.ownBlock] using hk
 omega
theorem RSt.below {W0:World} {B:Nat} (h:RSt wr W T m g B0 n cap os) (h0:Below B W0 wr) (hB:B≤wr.heap.size) (hg:B≤g):Below B W0 W :=
 h0.grown h.gr hB (fun k hk => by obtain rfl:=Option.some.inj hk;exact hg)
theorem RSt.box {B:Nat} {t:TypeId} {cs:List Value} (h:RSt wr W T m g B0 n cap os) (hb:BoxN wr B t cs) (hB:B ≠ g):BoxN W B t cs :=
 hb.of_block (h.gr.block B hb.lt (by simpa using hB))
theorem RSt.at (h:RSt wr W T m g B0 n cap os) {j:Nat} {u:Value} (hj:os[j]? = some u):W.cell? ⟨g,j,none⟩=some u:=by
 have hl:os.length=n * m:=h.own.1
 rw [h.own.cellAt j (by rw [← hl];exact (List.getElem?_eq_some_iff.1 hj).1)]
 exact hj
end
theorem drop_get {α:Type} {l:List α} {k:Nat} {x:α} (h:l[k]? = some x):l.drop k=x :: l.drop (k+1):=by
 obtain ⟨h1,h2⟩:=List.getElem?_eq_some_iff.1 h
 rw [List.drop_eq_getElem_cons h1,h2]
theorem get_flat {α:Type} {enc:α→List Value} {m:Nat} (hm:∀ x,(enc x).length=m) (A B:List α) (x:α) (k j:Nat) (u:Value) (hA:A.length=k) (hs:(enc x)[j]? = some u) :
  ((A ++ (x :: B)).flatMap enc)[k * m+j]? = some u:=by
 have hl:(A.flatMap enc).length=k * m:=by rw [flat_length enc m hm,hA]
 rw [List.flatMap_append,List.flatMap_cons,List.getElem?_append_right (by omega),hl,show k * m+j - k * m=j by omega,List.getElem?_append_left (List.getElem?_eq_some_iff.1 hs).1,hs]
end Go.Proofs.YtcnpaciljmekcaaGreatDoor

namespace Go.Proofs.YtcnpaciljmekcaaGreatDoor
open Go.RowKit
structure STO {α:Type} (lt:α→α→Bool):Prop where
 irrefl:∀ x,lt x x=false
 trans:∀ x y z,lt x y=true→lt y z=true→lt x z=true
 conn:∀ x y,lt x y=false→lt y x=false→x=y
def Srt {α:Type} (lt:α→α→Bool) (l:List α):Prop:=l.Pairwise fun a b => lt a b=true
theorem Srt.nil {α:Type} (lt:α→α→Bool):Srt lt []:=List.Pairwise.nil
section
variable {α:Type} {lt:α→α→Bool} (h:STO lt)
include h
theorem STO.ne {x y:α} (hxy:lt x y=true):x ≠ y:=by
 rintro rfl;rw [h.irrefl] at hxy;cases hxy
end
abbrev NdP:Type:=ByteArray × Int
abbrev ChP:Type:=ByteArray × ByteArray × Int
end Go.Proofs.YtcnpaciljmekcaaGreatDoor

namespace Go.Proofs.YtcnpaciljmekcaaGreatDoor
open Go.RowKit
section
variable {α:Type}
theorem flat_at {enc:α→List Value} {m:Nat} (hm:∀ x,(enc x).length=m) {C:List α} {k:Nat} {y:α} (hy:C[k]? = some y) (j:Nat) (u:Value) (hu:(enc y)[j]? = some u):(C.flatMap enc)[k * m+j]? = some u:=by
 have hk:=(List.getElem?_eq_some_iff.1 hy).1
 have e:C=C.take k ++ (y :: C.drop (k+1)):=by rw [← drop_get hy,List.take_append_drop]
 rw [e]
 exact get_flat (enc:=enc) (m:=m) hm (C.take k) (C.drop (k+1)) y k j u (by rw [List.length_take];omega) hu
end
section
variable {α:Type} [DecidableEq α]
omit [DecidableEq α] in
end
section
variable {α:Type} [DecidableEq α]
end
theorem RSt.drewN {wr W:World} {T:TypeId} {m g B0 n cap:Nat} {os:List Value} (h:RSt wr W T m g B0 n cap os) (q:Nat):RSt wr (W.drewN q) T m g B0 n cap os:=h.ext (below_drewN (Below.refl _ _) q)
theorem RSt.drew {wr W:World} {T:TypeId} {m g B0 n cap:Nat} {os:List Value} (h:RSt wr W T m g B0 n cap os):RSt wr W.drew T m g B0 n cap os:=h.ext (Below.refl _ _).drew
end Go.Proofs.YtcnpaciljmekcaaGreatDoor

namespace Go.Proofs.YtcnpaciljmekcaaGreatDoor
open Go.RowKit
def Keep (o:Option Nat) (base:Nat) (w:World) (R:World→Prop):Prop :=
 ∀ w':World,w.heap.size≤w'.heap.size→(∀ b,base≤b→b < w.heap.size→some b ≠ o→w'.heap[b]? = w.heap[b]?)→R w'
section
variable {o o':Option Nat} {base B:Nat} {w w':World} {R:World→Prop}
theorem Keep.rd (h:Keep o base w R):R w:=h w (Nat.le_refl _) fun _ _ _ _ => rfl
theorem Keep.below (h:Keep o base w R) (hb:Below w.heap.size w w'):Keep o base w' R:=fun w2 h1 h2 =>
 h w2 (Nat.le_trans hb.size h1) fun b hb1 hb2 hb3 => (h2 b hb1 (Nat.lt_of_lt_of_le hb2 hb.size) hb3).trans (hb.block b hb2)
theorem Keep.grown (h:Keep o base w R) (hg:w.grownBy w' o) (ho:o'=o∨∃ g,o'=some g∧w.heap.size≤g):Keep o' base w' R:=fun w2 h1 h2 =>
 h w2 (Nat.le_trans hg.size h1) fun b hb1 hb2 hb3 => by
  have hne:some b ≠ o':=by
   rcases ho with rfl | ⟨g,rfl,hg2⟩
   ·exact hb3
   ·intro e;have:=Option.some.inj e;omega
  exact (h2 b hb1 (Nat.lt_of_lt_of_le hb2 hg.size) hne).trans (hg.block b hb2 hb3)
theorem Keep.of_new (h:Keep none B w R) (hB:base≤B) (ho:∀ b,o=some b→b < B):Keep o base w R:=fun w2 h1 h2 =>
 h w2 h1 fun b hb1 hb2 _ => h2 b (Nat.le_trans hB hb1) hb2 fun e => by have:=ho b e.symm;omega
theorem Keep.set (h:Keep o base w R) {a:Addr} (ha:a.block < base) (u:Value):Keep o base (w.setCell a u) R:=fun w2 h1 h2 =>
 h w2 (by simpa [World.setCell] using h1) fun b hb1 hb2 hb3 => (h2 b hb1 (by simpa [World.setCell] using hb2) hb3).trans (Below.heap_setCell _ _ _ _ (by omega))
end
def PRow {α:Type} (enc:α→List Value) (e:TypeId) (m:Nat) (Rd:α→World→Prop) (R0:World→Prop) (w:World) (D:Nat) (LL:List α) (a2:Option Addr) (c2:Nat) (wr:World):Prop :=
 wr.ownsRow D e m (.slice a2 LL.length c2) LL.length (LL.flatMap enc)∧(∀ p ∈ LL,Keep (Value.slice a2 LL.length c2).ownBlock D wr (Rd p))∧Below w.heap.size w wr∧D≤wr.heap.size∧Keep (Value.slice a2 LL.length c2).ownBlock D wr R0
section
variable {α:Type} {enc:α→List Value} {e:TypeId} {m:Nat} {Rd:α→World→Prop} {R0:World→Prop} {w:World} {D:Nat} {LL:List α} {a2:Option Addr} {c2:Nat} {wr w1 w2:World}
theorem PRow.append (h:PRow enc e m Rd R0 w D LL a2 c2 wr) (hw:w.heap.size≤D) (hb:Below wr.heap.size wr w1) {y:α} (hk:Keep none wr.heap.size w1 (Rd y)) {v':Value}
  (hown:w2.ownsRow D e m v' (LL.length+1) (LL.flatMap enc ++ enc y)) (hg:w1.grownBy w2 (Value.slice a2 LL.length c2).ownBlock) (hl:v'.ownBlock=(Value.slice a2 LL.length c2).ownBlock∨∃ g,v'.ownBlock=some g∧w1.heap.size≤g) :
  ∃ a3 c3,v' = .slice a3 (LL ++ [y]).length c3∧PRow enc e m Rd R0 w D (LL ++ [y]) a3 c3 w2:=by
 obtain ⟨h1,h2,h3,h4,h5⟩:=h
 obtain ⟨a3,c3,rfl⟩:∃ a3 c3,v' = .slice a3 (LL.length+1) c3:=by rcases hown.2 with ⟨rfl,h0⟩ | ⟨g,cap,_,rfl,_⟩;omega;exact ⟨_,_,rfl⟩
 have hz:(LL ++ [y]).length=LL.length+1:=by simp
 refine ⟨a3,c3,by rw [hz],?_,?_,?_,Nat.le_trans h4 (Nat.le_trans hb.size hg.size),by rw [hz];exact (h5.below hb).grown hg hl⟩
 ·rw [hz,List.flatMap_append]
  simpa using hown
 ·rw [hz]
  intro p hp
  rcases List.mem_append.1 hp with hp | hp
  ·exact ((h2 p hp).below hb).grown hg hl
  ·obtain rfl:p=y:=by simpa using hp
   exact (hk.of_new h4 fun b hb2 => (h1.lt b hb2).2).grown hg hl
 ·exact (h3.trans (hb.mono h3.size)).grown hg (Nat.le_trans h3.size hb.size) fun k hk2 => Nat.le_trans hw (h1.lt k hk2).1
theorem PRow.set (h:PRow enc e m Rd R0 w D LL a2 c2 wr) {a:Addr} (ha:a.block < D) (ha2:w.heap.size≤a.block) (u:Value):PRow enc e m Rd R0 w D LL a2 c2 (wr.setCell a u):=by
 obtain ⟨h1,h2,h3,h4,h5⟩:=h
 exact ⟨ownsRow_kept h1 fun k hk hk2 => Below.heap_setCell _ _ _ _ (by have:=(h1.lt k hk).1;omega),fun p hp => (h2 p hp).set ha u,h3.setCell ha2 u,by simpa [World.setCell] using h4,h5.set ha u⟩
theorem PRow.box (h:PRow enc e m Rd R0 w D LL a2 c2 wr) {B:Nat} {t:TypeId} {cs:List Value} (hB:BoxN wr B t cs) (hBD:B < D) (hg:wr.grownBy w2 (Value.slice a2 LL.length c2).ownBlock):BoxN w2 B t cs :=
 hB.of_block (hg.block _ hB.lt fun e => by have:=(h.1.lt B e.symm).1;omega)
theorem PRow.cell (h:PRow enc e m Rd R0 w D LL a2 c2 wr) (hm:∀ x,(enc x).length=m) {k:Nat} {y:α} (hy:LL[k]? = some y) {j:Nat} {u:Value} (hu:(enc y)[j]? = some u) (hag:∀ b,D≤b→b < wr.heap.size→w2.heap[b]? = wr.heap[b]?) :
  ∃ g,a2=some ⟨g,0,none⟩∧w2.cell? ⟨g,0+k * m+j,none⟩=some u:=by
 obtain ⟨h1,_⟩:=h
 have hk:=(List.getElem?_eq_some_iff.1 hy).1
 obtain ⟨g,rfl⟩:=owns_some h1 (by omega)
 refine ⟨g,rfl,?_⟩
 have h5:=h1.lt g rfl
 have h6:=h1.cells (g:=g) rfl (k * m+j) u (flat_at hm hy j u hu)
 rw [Addr.add_lit] at h6
 rw [World.cell?_of_block (w:=wr) (hag g h5.1 h5.2),Nat.add_assoc]
 exact h6
end
theorem PRow.kept {α:Type} {enc:α→List Value} {e:TypeId} {m:Nat} {Rd:α→World→Prop} {R0:World→Prop} {w:World} {D:Nat} {LL:List α} {a2:Option Addr} {c2:Nat} {wr w1 w2:World} (h:PRow enc e m Rd R0 w D LL a2 c2 wr) (hb:Below wr.heap.size wr w1) (hg:w1.grownBy w2 (Value.slice a2 LL.length c2).ownBlock)
  {B:Nat} {t:TypeId} {cs:List Value} (hB:BoxN wr B t cs) (hBD:B < D):BoxN w2 B t cs :=
 BoxN.of_block hB ((hg.block B (Nat.lt_of_lt_of_le hB.lt hb.size) fun e => by have:=(h.1.lt B e.symm).1;omega).trans (hb.block B hB.lt))
theorem cell_below {wr w:World} (hb:Below wr.heap.size wr w) {p:Addr} {u:Value} (h:wr.cell? p=some u):w.cell? p=some u:=by
 rw [hb.cell (p:=p) (World.block_lt_of_cell? wr _ h)];exact h
def Closed (ops:Array Oper) (L:Nat→Bool):Prop:=∀ j o,ops[j]? = some o→L j=true→∀ e ∈ o.after,Region.binds .any e=true→L e.on=true
section
variable {P:Program} {ops:Array Oper}
theorem upd_true {L:Nat→Bool} {i j:Nat} (h:L j=true):upd L i j=true:=by
 unfold upd
 split
 ·rfl
 ·exact h
theorem cl_spec {L:Nat→Bool} (hc:Closed ops L) {i j:Nat} (hi:L i=true) (h:predB .any ops i j=true):L j=true:=by
 cases ho:ops[i]? with
 | none => simp [predB,ho] at h
 | some o => exact pred_spec ho (hc i o ho hi) h
theorem cl_no {L:Nat→Bool} (hc:Closed ops L) {j:Nat} (hj:L j=false) (i:Nat) (h:predB .any ops i j=true):L i=false:=by
 cases hi:L i with
 | false => rfl
 | true => rw [cl_spec hc hi h] at hj;cases hj
theorem wp_region_invc {id:Nat} {Q:Exit→Act→World→Prop} {a:Act} {w:World} (Inv:(Nat→Bool)→Act→World→Prop) (hm:P.follows .mixedOrders=true) (hf:fwdB .any ops=true)
  (h0:Inv (fun _ => false) a w.drew)
  (hst:∀ L a w,Inv L a w→Closed ops L→∀ i o,ops[i]? = some o→L i=false→(∀ e ∈ o.after,Region.binds .any e=true→L e.on=true)→wpOp P ops Q i (Inv (upd L i)) a w)
  (hend:∀ L a w,Inv L a w→(∀ j,j < ops.size→L j=true)→Q .normal a w):(Code.region id ops true).wp P Q a w:=by
 refine wp_region_inv (fun L a w => Inv L a w∧Closed ops L) hm hf ⟨h0,fun _ _ _ h => by cases h⟩ ?_ fun L a w h => hend L a w h.1
 intro L a w ⟨h1,h2⟩ i o ho hL hp
 refine wpOp_mono (fun a' w' h3 => ⟨h3,?_⟩) (hst L a w h1 h2 i o ho hL hp)
 intro j o2 hj hL2 e he hb
 by_cases hji:j=i
 ·subst hji
  rw [ho] at hj
  cases hj
  exact upd_true (hp e he hb)
 ·refine upd_true (h2 j o2 hj ?_ e he hb)
  unfold upd at hL2
  rwa [if_neg hji] at hL2
end
structure TwI {σ:Type} (Q0:World→Prop) (Q1:World→σ→Prop) (Q2:World→σ→Nat→Prop) (Q3 Q4:World→σ→Value→Prop) (L:Nat→Bool) (s:σ) (g:Nat) (r:Value) (w:World):Prop where
 a:L 7=false→Q0 w
 b:L 7=true→L 8=false→Q1 w s
 c:L 8=true→L 9=false→Q2 w s g
 d:L 9=true→L 11=false→Q3 w s r
 e:L 11=true→Q4 w s r
section
variable {σ:Type} {Q0:World→Prop} {Q1:World→σ→Prop} {Q2:World→σ→Nat→Prop} {Q3 Q4:World→σ→Value→Prop} {L:Nat→Bool} {s:σ} {r:Value} {g:Nat} {w:World}
theorem TwI.keep (h:TwI Q0 Q1 Q2 Q3 Q4 L s g r w) {i:Nat} (hi:i ≠ 7∧i ≠ 8∧i ≠ 9∧i ≠ 11):TwI Q0 Q1 Q2 Q3 Q4 (upd L i) s g r w:=by
 have e:∀ j,j ≠ i→upd L i j=L j:=fun j hj => if_neg hj
 refine ⟨?_,?_,?_,?_,?_⟩
 ·rw [e 7 (Ne.symm hi.1)];exact h.a
 ·rw [e 7 (Ne.symm hi.1),e 8 (Ne.symm hi.2.1)];exact h.b
 ·rw [e 8 (Ne.symm hi.2.1),e 9 (Ne.symm hi.2.2.1)];exact h.c
 ·rw [e 9 (Ne.symm hi.2.2.1),e 11 (Ne.symm hi.2.2.2)];exact h.d
 ·rw [e 11 (Ne.symm hi.2.2.2)];exact h.e
theorem TwI.u8 (h7:L 7=true) (h9:L 9=false) (h11:L 11=false) (h:Q2 w s g):TwI Q0 Q1 Q2 Q3 Q4 (upd L 8) s g r w :=
 ⟨fun k => (by simp [upd,h7] at k),fun _ k => (by simp [upd] at k),fun _ _ => h,fun k => (by simp [upd,h9] at k),fun k => (by simp [upd,h11] at k)⟩
theorem TwI.u9 (h7:L 7=true) (h8:L 8=true) (h11:L 11=false) (h:Q3 w s r):TwI Q0 Q1 Q2 Q3 Q4 (upd L 9) s g r w :=
 ⟨fun k => (by simp [upd,h7] at k),fun _ k => (by simp [upd,h8] at k),fun _ k => (by simp [upd] at k),fun _ _ => h,fun k => (by simp [upd,h11] at k)⟩
theorem TwI.u11 (h7:L 7=true) (h8:L 8=true) (h9:L 9=true) (h:Q4 w s r):TwI Q0 Q1 Q2 Q3 Q4 (upd L 11) s g r w :=
 ⟨fun k => (by simp [upd,h7] at k),fun _ k => (by simp [upd,h8] at k),fun _ k => (by simp [upd,h9] at k),fun _ k => (by simp [upd] at k),fun _ => h⟩
end
theorem VInv.skip {W0 w:World} {vals cur:List Value} {L:Nat→Bool} (h:VInv W0 vals cur L w) {i:Nat} (hi:vals.length≤i):VInv W0 vals cur (upd L i) w:=by
 refine ⟨h.b,h.len,fun j v hj hv => h.f j v ?_ hv⟩
 unfold upd at hj
 split at hj
 ·next e => subst e;rw [List.getElem?_eq_none hi] at hv;cases hv
 ·exact hj
theorem VInv.late {W0 w:World} {vals cur:List Value} {L:Nat→Bool} (h:VInv W0 vals cur L w) {i:Nat} (hL:L i=false) (u:Value):VInv W0 (vals.set i u) cur L w:=by
 refine ⟨h.b,by rw [List.length_set];exact h.len,fun j v hj hv => ?_⟩
 by_cases e:i=j
 ·subst e;rw [hL] at hj;cases hj
 ·rw [List.getElem?_set_ne e] at hv
  exact h.f j v hj hv
end Go.Proofs.YtcnpaciljmekcaaGreatDoor
