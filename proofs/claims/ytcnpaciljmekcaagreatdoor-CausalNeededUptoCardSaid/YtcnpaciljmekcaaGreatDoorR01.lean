/- A part. -/
import Derived.Test.YtcnpaciljmekcaaGreatDoorN08
import Derived.Test.YtcnpaciljmekcaaGreatDoorCards
import Derived.Test.YtcnpaciljmekcaaGreatDoorTie
namespace Go.Proofs.YtcnpaciljmekcaaGreatDoor
open Go.RowKit
set_option maxHeartbeats 4000000 in
set_option maxRecDepth 100000 in
theorem need15_any (c:Con) (es dd ss:Value) (day:Int) (E:EvD) (w:World) (hA:BfH c es dd ss E w) (hfF:∀ f ∈ E.F,f.fits) (hfC:∀ f ∈ E.C,f.fits) :
  Calls Tryz.prog 6 #[c.val es dd ss,.int .i64 day,E.val] w fun e w' => e = .returned (.bool true)∧Below w.heap.size w w':=by
 obtain ⟨p1,pn1,rfl⟩:=hA.rd.1.len
 obtain ⟨p2,pn2,rfl⟩:=hA.rd.2.1.len
 obtain ⟨p3,pn3,rfl⟩:=hA.rd.2.2.1.len
 obtain ⟨W0,hW0,hb0,hz0,bx⟩:=bx2_world w c (.slice p1 c.ex.sub.length pn1) (.slice p2 c.ds.length pn2) (.slice p3 c.sub.length pn3) E
 have hba:c.bulk≤1100000:=hA.bulk
 have HAl:Hid (∀ W,Below w.heap.size w W→Calls Tryz.prog 17 #[] W fun e w' => e = .returned (.bool true)∧Below W.heap.size W w'):=Lib.hid fun W hb => alive_any W (hA.frame hb).ls (hA.frame hb).lp
 have HG:=Lib.hid fun W (hb:Below w.heap.size w W) => cgreat_any c _ _ _ W (by omega) (hA.frame hb).rd
 have HE:Hid (∀ W,Below w.heap.size w W→Calls Tryz.prog 19 #[E.val] W (BoolPost W)):=Lib.hid fun W hb => (great_any E.F E.C E.af E.ac E.cf E.cc W hA.e.nf hA.e.nc (hA.frame hb).e.f (hA.frame hb).e.c hA.fs hA.cs).mono fun e w' h => .mk _ h.1 h.2
 have HH:=Lib.hid fun W (hb:Below w.heap.size w W) => heavy_any c _ _ _ E W (by omega) (hA.frame hb).rd (hA.frame hb).e
 have HNd:=Lib.hid fun W (hb:Below w.heap.size w W) => needs_any c _ _ _ day W (by omega) (hA.frame hb).rd (hA.frame hb).ls (hA.frame hb).lp
 have HDl:=Lib.hid fun W (hb:Below w.heap.size w W) => deadlines_any c _ _ _ day W (by omega) (hA.frame hb).rd (hA.frame hb).ls (hA.frame hb).lp
 have HB:=Lib.hid fun W (hb:Below w.heap.size w W) => mflows_any c _ _ _ day E W (hA.frame hb)
 have HO:Hid (nErr c day=0→dErr c day=0→∀ W,Below w.heap.size w W→∀ an cn ak ck,Rd Nd.cells 2 W an ((nSet c day).map mkNd)→Rd Ch.cells 4 W ak ((dSet c day).map mkCh)→Calls Tryz.prog 28 #[E.val,.slice an (nSet c day).length cn,.slice ak (dSet c day).length ck] W (EnvPost W (envErr E.F E.C) (onlyF E.F E.C ((nSet c day).map mkNd)) (onlyC E.F E.C ((dSet c day).map mkCh)))):=Lib.hid fun hn hd W hb an cn ak ck h1 h2 => by
  have l1:=(nSet_ok hn).2.1
  have l2:=(dSet_ok hd).2.1
  have h:=only_any E.F E.C _ _ E.af E.ac an ak E.cf E.cc cn ck W hA.e.nf hA.e.nc (by rw [List.length_map];omega) (by rw [List.length_map];omega) (hA.frame hb).e.f (hA.frame hb).e.c h1 h2 hA.fs hA.cs (nSet_small hn) (dSet_small hd) hfF hfC
  rw [List.length_map,List.length_map] at h
  exact h
 have hlF:=onlyF_len E.F E.C ((nSet c day).map mkNd)
 have hlC:=onlyC_len E.F E.C ((dSet c day).map mkCh)
 have HB2:Hid (∀ W,Below w.heap.size w W→∀ a1 n1 a2 n2,Rd Fx.cells 3 W a1 (onlyF E.F E.C ((nSet c day).map mkNd))→Rd Ch.cells 4 W a2 (onlyC E.F E.C ((dSet c day).map mkCh))→Calls Tryz.prog 9 #[c.val (.slice p1 c.ex.sub.length pn1) (.slice p2 c.ds.length pn2) (.slice p3 c.sub.length pn3),.int .i64 day,.agg #[.slice a1 (onlyF E.F E.C ((nSet c day).map mkNd)).length n1,.slice a2 (onlyC E.F E.C ((dSet c day).map mkCh)).length n2]] W (BfP W (befR c day 100000 (onlyF E.F E.C ((nSet c day).map mkNd)) (onlyC E.F E.C ((dSet c day).map mkCh))))):=Lib.hid fun W hb a1 n1 a2 n2 h1 h2 =>
  mflows_any c _ _ _ day ⟨onlyF E.F E.C ((nSet c day).map mkNd),onlyC E.F E.C ((dSet c day).map mkCh),a1,a2,n1,n2⟩ W ⟨hba,(hA.frame hb).rd,(hA.frame hb).ls,(hA.frame hb).lp,(hA.frame hb).lo,⟨h1,h2,Nat.le_trans hlF hA.e.nf,Nat.le_trans hlC hA.e.nc⟩,fun f hf => hA.fs f (onlyF_mem hf),fun f hf => hA.cs f (onlyC_mem hf)⟩
 have HL:Hid (nErr c day=0→dErr c day=0→envErr E.F E.C=0→befR c day 100000 (onlyF E.F E.C ((nSet c day).map mkNd)) (onlyC E.F E.C ((dSet c day).map mkCh))=befR c day 100000 E.F E.C∧((onlyF E.F E.C ((nSet c day).map mkNd)).length=(nSet c day).length→(befR c day 100000 E.F E.C).1 ≠ 30)):=Lib.hid fun h1 h2 h3 => needed_fin h1 h2 h3
 have HM:Hid (nErr c day=0→envErr E.F E.C ≠ 0→(befR c day 100000 E.F E.C).1=envErr E.F E.C):=Lib.hid fun h1 h2 => needed_err h1 h2
 have HY:Hid ((befR c day 100000 E.F E.C).2.length≤1100000):=Lib.hid (Nat.le_trans (befR_len _ _ _ _ _) hba)
 generalize befR c day 100000 E.F E.C=R at HB HL HM HY
 generalize befR c day 100000 (onlyF E.F E.C ((nSet c day).map mkNd)) (onlyC E.F E.C ((dSet c day).map mkCh))=R2 at HB2 HL
 generalize envErr E.F E.C=ve at HO HL HM
 generalize onlyF E.F E.C ((nSet c day).map mkNd)=KF at HO HB2 HL
 generalize onlyC E.F E.C ((dSet c day).map mkCh)=KC at HO HB2 HL
 generalize nErr c day=ne at HNd HO HL HM
 generalize dErr c day=de at HDl HO HL
 generalize nSet c day=N at HNd HO HL
 generalize dSet c day=K at HDl HO
 clear hA hlF hlC
 unfold Con.val EvD.val at *
 have HX:=Lib.hid bx
 have Hb0:=Lib.hid hb0
 clear bx hb0
 go_enter Tryz.func6,Tryz.ntmps6
 go_upto_region 1 with (fail)
 clear hW0
 go_wp2_with (first | (go_at_call 17;refine (HAl.out _ Hb0.out).mono ?_;rintro e w1 ⟨rfl,hb1⟩;have hbA:=Hb0.out.trans (hb1.mono Hb0.out.size);have hB1:=HX.out.below hb1;obtain ⟨k0,k1,k2,k3,k4,k5,k6,k7,k8,k9,k10,k11,v0,v1⟩:=hB1.all) | (go_at_call 18;refine (HG.out _ hbA).mono ?_;rintro e w2 ⟨⟨b1,rfl⟩,hb2⟩;have hbB:=hbA.trans (hb2.mono hbA.size);have hB2:=hB1.below hb2;clear k0 k1 k2 k3 k4 k5 k6 k7 k8 k9 k10 k11 v0 v1;obtain ⟨k0,k1,k2,k3,k4,k5,k6,k7,k8,k9,k10,k11,v0,v1⟩:=hB2.all;cases b1) | (go_at_call 19;refine (HE.out _ hbB).mono ?_;rintro e w3 ⟨⟨b2,rfl⟩,hb3⟩;have hbC:=hbB.trans (hb3.mono hbB.size);have hB3:=hB2.below hb3;clear k0 k1 k2 k3 k4 k5 k6 k7 k8 k9 k10 k11 v0 v1;obtain ⟨k0,k1,k2,k3,k4,k5,k6,k7,k8,k9,k10,k11,v0,v1⟩:=hB3.all;cases b2) | (go_at_call 20;refine (HH.out _ hbC).mono ?_;rintro e w4 ⟨⟨b3,rfl⟩,hb4⟩;have hbD:=hbC.trans (hb4.mono hbC.size);have hB4:=hB3.below hb4;clear k0 k1 k2 k3 k4 k5 k6 k7 k8 k9 k10 k11 v0 v1;obtain ⟨k0,k1,k2,k3,k4,k5,k6,k7,k8,k9,k10,k11,v0,v1⟩:=hB4.all;cases b3))
 all_goals try (go_ret;first | exact ⟨rfl,hbD⟩ | exact ⟨rfl,hbC⟩ | exact ⟨rfl,hbB⟩)
 clear HAl HG HE HH hB1 hB2 hB3 hb1 hb2 hb3 hb4 hbA hbB hbC HX Hb0
 refine (HNd.out _ hbD).mono ?_
 rintro e w5 ⟨v,rfl,hoN,hb5⟩
 obtain ⟨an,cn,rfl,_⟩:=RdNd.own hoN
 have RN:=rd_nd hoN
 have hbE:=hbD.trans (hb5.mono hbD.size)
 have hB5:=hB4.below hb5
 clear k0 k1 k2 k3 k4 k5 k6 k7 k8 k9 k10 k11 v0 v1 hoN HNd hB4
 obtain ⟨k0,k1,k2,k3,k4,k5,k6,k7,k8,k9,k10,k11,v0,v1⟩:=hB5.all
 go_wp2_with fail
 refine (HDl.out _ hbE).mono ?_
 rintro e w6 ⟨v,rfl,hoK,hb6⟩
 obtain ⟨ak,ck,rfl,_⟩:=RdCx.own hoK
 have RK:=rd_cx hoK
 have hbF:=hbE.trans (hb6.mono hbE.size)
 have hB6:=hB5.below hb6
 have HN6:=Lib.hid (RN.below hb6)
 have HK6:=Lib.hid RK
 clear k0 k1 k2 k3 k4 k5 k6 k7 k8 k9 k10 k11 v0 v1 hoK HDl hB5 RN RK
 obtain ⟨k0,k1,k2,k3,k4,k5,k6,k7,k8,k9,k10,k11,v0,v1⟩:=hB6.all
 by_cases hn:ne=0
 case neg =>
  have t1:(ne != 0)=true:=by rw [bne_iff_ne];exact hn
  go_wp2
  go_ret
  exact ⟨rfl,hbF⟩
 subst hn
 by_cases hd:de=0
 case neg =>
  have t1:(de != 0)=true:=by rw [bne_iff_ne];exact hd
  go_wp2
  go_ret
  exact ⟨rfl,hbF⟩
 subst hd
 have HO':=Lib.hid (HO.out (by simp) (by simp) _ hbF an cn ak ck HN6.out HK6.out)
 clear HO HN6 HK6
 go_wp2_with fail
 refine HO'.out.mono ?_
 rintro e w7 ⟨a1,n1,a2,n2,rfl,ho1,ho2,hb7⟩
 have hbG:=hbF.trans (hb7.mono hbF.size)
 have hB7:=hB6.below hb7
 obtain ⟨W8,hW8,hb8,bx8⟩:∃ W,w7.alloc (.cells #[.slice a1 KF.length n1,.slice a2 KC.length n2] 33)=W∧Below w7.heap.size w7 W∧BoxN W w7.heap.size 33 [.slice a1 KF.length n1,.slice a2 KC.length n2]:=⟨_,rfl,below_a1 _ _,BoxN.new w7 _ _⟩
 have hbH:=hbG.trans (hb8.mono hbG.size)
 have hB8:=hB7.below hb8
 have R1:=Lib.hid ((rd_fx ho1).below hb8)
 have R3:=Lib.hid ((rd_ch ho2).below hb8)
 clear k0 k1 k2 k3 k4 k5 k6 k7 k8 k9 k10 k11 v0 v1 ho1 ho2 hB6 hB7 HO'
 obtain ⟨k0,k1,k2,k3,k4,k5,k6,k7,k8,k9,k10,k11,v0,v1⟩:=hB8.all
 go_wp2_with fail
 clear hW8
 refine (HB.out _ hbH).mono ?_
 rintro e w9 ⟨ad9,cp9,rfl,hb9,l9,n9,r9⟩
 have hbI:=hbH.trans (hb9.mono hbH.size)
 have hB9:=hB8.below hb9
 have bx9:=bx8.below hb9 bx8.lt
 have u0:w9.cell? ⟨w7.heap.size,0,none⟩=some (.slice a1 KF.length n1):=bx9.cell (j:=0) rfl
 have u1:w9.cell? ⟨w7.heap.size,1,none⟩=some (.slice a2 KC.length n2):=bx9.cell (j:=1) rfl
 obtain ⟨ef,L⟩:=R
 clear k0 k1 k2 k3 k4 k5 k6 k7 k8 k9 k10 k11 v0 v1 HB hB8 bx8
 obtain ⟨k0,k1,k2,k3,k4,k5,k6,k7,k8,k9,k10,k11,v0,v1⟩:=hB9.all
 by_cases hv:ve=0
 case neg =>
  have t1:(ve != 0)=true:=by rw [bne_iff_ne];exact hv
  have t2:(ef == ve)=true:=by rw [show ef=ve from HM.out (by simp) hv];exact beq_self_eq_true ve
  go_wp2
  go_ret
  exact ⟨rfl,hbI⟩
 subst hv
 obtain ⟨rfl,hfu⟩:=HL.out (by simp) (by simp) (by simp)
 have HFu:Hid (KF.length=N.length→ef ≠ 30):=Lib.hid hfu
 clear hfu HL HM
 go_wp2_with fail
 refine (HB2.out _ hbI _ _ _ _ (R1.out.below hb9) (R3.out.below hb9)).mono ?_
 rintro e w10 ⟨ad10,cp10,rfl,hb10,l10,n10,r10⟩
 have HbJ:=Lib.hid (hbI.trans (hb10.mono hbI.size))
 have bx10:=bx9.below hb10 bx9.lt
 have x0:w10.cell? ⟨w7.heap.size,0,none⟩=some (.slice a1 KF.length n1):=bx10.cell (j:=0) rfl
 have x1:w10.cell? ⟨w7.heap.size,1,none⟩=some (.slice a2 KC.length n2):=bx10.cell (j:=1) rfl
 have HS:=Lib.hid (sameFl_any L ad9 ad10 cp9 cp10 w10 HY.out (r9.below hb10) r10)
 have hq:(ef == ef)=true:=beq_self_eq_true ef
 clear k0 k1 k2 k3 k4 k5 k6 k7 k8 k9 k10 k11 v0 v1 u0 u1 hB9 HB2 R1 R3 r9 r10 hb10 hb9 hb8 hb7 hb6 hb5 bx9 bx10 hbD hbE hbF hbG hbH hbI HY l9 l10 n9 n10
 obtain ⟨nf,hnf⟩:∃ n,KF.length=n:=⟨_,rfl⟩
 obtain ⟨nn,hnn⟩:∃ n,N.length=n:=⟨_,rfl⟩
 rw [hnf,hnn] at HFu
 simp only [hnf,hnn] at *
 clear hnf hnn
 by_cases hl:nf=nn
 ·have hne:=HFu.out hl
  have t1:((nf:Int) == (nn:Int))=true:=by rw [hl];exact beq_self_eq_true _
  have t2:(ef != 30)=true:=by rw [bne_iff_ne];exact hne
  have t1':decide ((nf:Int)=(nn:Int))=true:=decide_eq_true (by rw [hl])
  clear hl hne HFu
  go_wp2_with fail
  refine HS.out.mono ?_
  rintro e w11 ⟨rfl,hb11⟩
  have HbK:=Lib.hid (HbJ.out.trans (hb11.mono HbJ.out.size))
  clear hb11
  go_wp2
  go_ret
  exact ⟨rfl,HbK.out⟩
 ·have t1:((nf:Int) == (nn:Int))=false:=by rw [beq_eq_false_iff_ne];omega
  have t1':decide ((nf:Int)=(nn:Int))=false:=decide_eq_false (by omega)
  clear hl HFu
  go_wp2_with fail
  refine HS.out.mono ?_
  rintro e w11 ⟨rfl,hb11⟩
  have HbK:=Lib.hid (HbJ.out.trans (hb11.mono HbJ.out.size))
  clear hb11
  go_wp2
  go_ret
  exact ⟨rfl,HbK.out⟩
end Go.Proofs.YtcnpaciljmekcaaGreatDoor

namespace Go.Proofs.YtcnpaciljmekcaaGreatDoor
open Go.ChangeShapes Go.WideShapes Go.ChangeAt Go.RowKit Go.Joins Go.Deep
set_option maxRecDepth 100000 in
theorem contractNe15 (H:Type) (enc:TypeId × Value→H) (W:World) (base:Nat) (args:Array Value) (ds gs:List (DataW H)) (before:List MemPlace)
  (hval:∀ (j:Nat) t v,Tryz.f6.params[j]? = some t→args[j]? = some v→Value.okWide Tryz.prog W .any base t v)
  (hW:DataW.Whole enc Tryz.prog Tryz.f6.params.toList Rows.causalNeededSpec.vars false W args.toList ds gs before) (hk:Rows.uptoSmall H (ds ++ gs)=true)
  (hL:laidMetH Tryz.prog Rows.causalNeededUptoRow.laid W) :
  Calls Tryz.prog 6 args W fun e W' => ∃ v,e = .returned v∧Rows.causalNeededSpec.post enc Tryz.prog Tryz.f6 false true false false W args v W':=by
 have hW':=hW
 obtain ⟨p,q,hA0,hV,rfl,hfz,hnd⟩:=hW
 have hA:DataW.TrodAll enc Tryz.prog W 0 (fun _ => true) true Tryz.f6.params.toList args.toList ds p:=hA0
 rw [Tryz.params6] at hA hval
 obtain ⟨v0,vs0,d0,ds0,p0,q0,hargs,rfl,rfl,h0,r0⟩:=trodAll_cons hA
 obtain ⟨v1,vs1,d1,ds1,p1,q1,rfl,rfl,rfl,h1,r1⟩:=trodAll_cons r0
 obtain ⟨v2,vs2,d2,ds2,p2,q2,rfl,rfl,rfl,h2,r2⟩:=trodAll_cons r1
 obtain ⟨rfl,rfl,rfl⟩:=trodAll_nil r2
 obtain rfl:args=#[v0,v1,v2]:=by cases args;simp_all
 obtain ⟨rfl,rfl⟩:=trodVars_none hV
 have k0:=h0
 have l0:∀ x ∈ p0,x.block < W.heap.size:=by obtain ⟨m,hm⟩:=k0;exact DataW.trod_lt m _ _ _ hm
 have k1:=h1
 have l1:∀ x ∈ p1,x.block < W.heap.size:=by obtain ⟨m,hm⟩:=k1;exact DataW.trod_lt m _ _ _ hm
 have k2:=h2
 have l2:∀ x ∈ p2,x.block < W.heap.size:=by obtain ⟨m,hm⟩:=k2;exact DataW.trod_lt m _ _ _ hm
 have hb:Rows.uptoBulkAll [d0,d1,d2]≤1048576:=by
  have h:Rows.uptoBulkAll ([d0,d1,d2] ++ [])≤1048576:=of_decide_eq_true hk
  rw [List.append_nil] at h
  exact h
 have hsum:Rows.uptoBulk d0+Rows.uptoBulk d1+Rows.uptoBulk d2≤1048576:=by
  simp only [Rows.uptoBulkAll] at hb
  omega
 obtain ⟨c0,es0,dd0,ss0,rfl,hr0,hc0⟩:=open_con (hval 0 _ v0 rfl rfl) h0
 obtain ⟨n1,rfl,rfl,rfl,w1⟩:=open_int Tryz.underlying3 (hval 1 3 v1 rfl rfl) h1
 obtain ⟨E,rfl,hE,hEf,hEc,hFf,hCf⟩:=open_envE (hval 2 _ v2 rfl rfl) h2 (by omega)
 obtain ⟨hS,hP,hO⟩:=laid_look3 hL
 clear hA0
 refine (need15_any c0 _ _ _ n1 E W ⟨by omega,hr0,hS,hP,hO,hE,hEf,hEc⟩ hFf hCf).mono fun e W' ⟨he,bel⟩ => ?_
 subst he
 exact ⟨_,rfl,_,_,_,[],_,[],hW',trodAll_mk1 (shut_bool Tryz.underlying4 _),
  trodAll_cons_mk (Below.trod laidOut10 (by kernel_rfl) (of_decide_eq_true (by kernel_rfl)) k0 bel l0) (trodAll_cons_mk (Below.trod laidOut10 (by kernel_rfl) (of_decide_eq_true (by kernel_rfl)) k1 bel l1) (trodAll_cons_mk (Below.trod laidOut10 (by kernel_rfl) (of_decide_eq_true (by kernel_rfl)) k2 bel l2) (trodAll_mk0))),
  rfl,bel.frame _,fun h => by cases h⟩
def argNe15:Array Value:=#[.agg #[.int .u8 0,.string ⟨#[]⟩,.string ⟨#[]⟩,.string ⟨#[]⟩,.int .u8 0,.string ⟨#[]⟩,.string ⟨#[]⟩,.int .i64 0,.slice none 0 0,.int .i64 0,.slice none 0 0,.slice none 0 0],.int .i64 0,.agg #[.slice none 0 0,.slice none 0 0]]
theorem metNe15 (os:Os):laidMetH Tryz.prog Rows.causalNeededUptoRow.laid ((World.doorLaid Tryz.prog 176 os).forCall (fun _ _ => 0) ⟨#[],argNe15,[]⟩).memory :=
 laidMetH_of_parts3 (fuel:=8) (laidMet_of_run' 8 (by kernel_rfl) (by kernel_rfl)) (by kernel_rfl) (by kernel_rfl)
theorem readsNe15 (os:Os) {H:Type} (enc:TypeId × Value→H):∃ places,DataW.whole enc Tryz.prog ((World.doorLaid Tryz.prog 176 os).forCall (fun _ _ => 0) ⟨#[],argNe15,[]⟩).memory Tryz.f6.params.toList Rows.causalNeededSpec.vars false argNe15.toList 8 =
  some ([.agg [.lit (.int .u8 0),.lit (.string []),.lit (.string []),.lit (.string []),.agg [.lit (.int .u8 0),.lit (.string []),.lit (.string []),.lit (.int .i64 0),.nil],.lit (.int .i64 0),.nil,.nil],.lit (.int .i64 0),.agg [.nil,.nil]],[],places) :=
 ⟨[],by kernel_rfl⟩
set_option maxRecDepth 100000 in
theorem liftedNe15 (os:Os) (started:os.Started) (H:Type) (enc:TypeId × Value→H) (F:Stop.Interp) :
  ReturnsInHanded {} Tryz.checked os 6 .any ((Rows.OpenSpec.upto Rows.causalNeededSpec).preRow enc Tryz.prog Tryz.f6 Rows.causalNeededUptoRow.domain false Rows.causalNeededUptoRow.laid) (((Rows.OpenSpec.upto Rows.causalNeededSpec).at F).post enc Tryz.prog Tryz.f6 false true false false):=by
 obtain ⟨places,hx⟩:=readsNe15 os enc
 refine returnsInHanded_of_row (C:=Tryz.checked) (s:=Rows.OpenSpec.upto Rows.causalNeededSpec) own10 started (by kernel_rfl) Tryz.func6
  (witness_row_atRef (enc:=enc) (C:=Tryz.checked) false (World.doorLaid Tryz.prog 176 os) argNe15 rfl (by kernel_rfl) (by kernel_rfl) (by kernel_rfl)
   (OpenSpec.preRow_of_cond 8 hx (by kernel_rfl) (fun k hk => by cases hk;kernel_rfl) (by kernel_rfl) (metNe15 os))) ?_
 intro W base args ds gs before hval hW _ hcond _ hL _ _
 exact contractNe15 H enc W base args ds gs before hval hW (hcond _ rfl) hL
theorem causalNeeded_upto:Rows.CausalNeededUptoSaid :=
 OpenClaim.holds_of_cond 6 Tryz.f6 rfl rfl rfl rfl rfl rfl rfl ⟨rfl,rfl,rfl,rfl,rfl⟩ rfl rfl rfl rfl rfl (by kernel_rfl) Tryz.func6 (by kernel_rfl)
  (of_decide_eq_true (by kernel_rfl)) (by unfold Func.isWrapper;first | (rw [if_pos (by decide +kernel)];kernel_rfl) | (rw [if_neg (by decide +kernel)];exact ⟨rfl,rfl⟩))
  (fun os started H enc _ F => by rw [OpenClaim.pre_eq_preRow];exact liftedNe15 os started H enc F)
theorem plainNe15 (f : FuncId) (fn : Func) (hf : Tryz.pinned.checked.prog.funcNamed "novation/novationlaw15.CausalNeeded" = some f) (hfn : Tryz.pinned.checked.prog.funcs[f]? = some fn) :
  true=Tryz.pinned.checked.prog.looks []∧∀ (j:Nat) t,fn.params[j]? = some t→Tryz.pinned.checked.prog.wantsStandIn t=false:=by
 obtain rfl : f = 6 := Option.some.inj ((show Tryz.prog.funcNamed "novation/novationlaw15.CausalNeeded" = some 6 by kernel_rfl).symm.trans hf) |>.symm
 obtain rfl:fn=Tryz.f6:=(Option.some.inj (Tryz.func6.symm.trans hfn)).symm
 refine ⟨by kernel_rfl,fun j t ht => ?_⟩
 rw [Tryz.params6] at ht
 have hm:t ∈ [29,3,33]:=by simpa using Array.mem_of_getElem? ht
 have hall:([29,3,33].all fun u => !Tryz.prog.wantsStandIn u)=true:=by kernel_rfl
 exact (show Tryz.prog.wantsStandIn t=false by simpa using List.all_eq_true.1 hall t hm)
theorem causalNeeded_card:Rows.CausalNeededUptoCardSaid :=
 Claim7.holds_tied_plain_at .later [] _ _ _ _ causalNeeded_upto (fun _ h => by cases h) (by kernel_rfl) (fun _ h => by cases h) causalNeededUpto_row_tie rfl ⟨rfl,rfl⟩ (by kernel_rfl) rfl plainNe15 (by kernel_rfl)
#print axioms causalNeeded_card
end Go.Proofs.YtcnpaciljmekcaaGreatDoor
