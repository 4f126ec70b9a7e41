/- A part. -/
import Derived.Test.YthdeijdimfjceaaGreatDoorA26
namespace Go.Proofs.YthdeijdimfjceaaGreatDoor
open Go.RowKit
theorem rd_box {w:World} {B:Nat} {t:TypeId} {s:ByteArray} (h:BoxN w B t [.string s]):Rd sC 1 w (some ⟨B,0,none⟩) [s]:=fun j x hj => by
 match j,hj with
 | 0,hj => cases hj;exact ⟨B,0,rfl,fun i u hu => by
   match i,hu with
   | 0,hu => cases hu;exact h.cell (j:=0) rfl⟩
theorem rd_boxS {w:World} {B:Nat} {t:TypeId} {x:Sh} (h:BoxN w B t x.cells):Rd Sh.cells 4 w (some ⟨B,0,none⟩) [x]:=fun j y hj => by
 match j,hj with
 | 0,hj => cases hj;exact ⟨B,0,rfl,fun i u hu => by rw [Nat.zero_mul,Nat.zero_add];exact h.cell hu⟩
theorem rd_boxF {w:World} {B:Nat} {t:TypeId} {x:Fx} (h:BoxN w B t x.cells):Rd Fx.cells 3 w (some ⟨B,0,none⟩) [x]:=fun j y hj => by
 match j,hj with
 | 0,hj => cases hj;exact ⟨B,0,rfl,fun i u hu => by rw [Nat.zero_mul,Nat.zero_add];exact h.cell hu⟩
theorem rd_noC (w:World) (a:Option Addr):Rd Ch.cells 4 w a []:=fun j x hj => by simp at hj
theorem box_own {w:World} {base K size:Nat} {t:TypeId} {xs:List Value} (h:w.ownsRow base t size (.slice (some ⟨K,0,none⟩) 1 1) 1 xs):BoxN w K t xs:=by
 rcases h.2 with ⟨e,_⟩ | ⟨g,cap,cur,e,_,hg,_,_,hs,ht⟩
 ·cases e
 ·cases e
  have e2:cur=xs.toArray:=by
   have hl:=h.1
   rw [← ht]
   apply Array.ext'
   rw [List.take_of_length_le (by simp [hs])]
  rw [e2] at hg
  exact hg
def envD (K:Nat) (x:ByteArray):EvD:=⟨knF x,[],some ⟨K,0,none⟩,none,1,0⟩
theorem envD_rd {w:World} {base K:Nat} {x:ByteArray} (h:w.ownsRow base 37 3 (.slice (some ⟨K,0,none⟩) 1 1) 1 ((knF x).flatMap Fx.cells)):(envD K x).Rd w :=
 ⟨rd_fx h,rd_noC _ _,by show 1≤1100000;decide,by show 0≤1100000;decide⟩
theorem knF_small (x:ByteArray) (h:x.size≤1000000):∀ f ∈ knF x,f.small∧f.vl.size≤1000000:=fun f hf => by
 obtain rfl:=List.mem_singleton.1 hf
 exact ⟨⟨by show 4≤1100000;decide,by show x.size≤_;omega⟩,h⟩
theorem envD_s {w:World} {base K:Nat} {x:ByteArray} (h:w.ownsRow base 37 3 (.slice (some ⟨K,0,none⟩) 1 1) 1 ((knF x).flatMap Fx.cells)):EnvS (envD K x) w :=
 ⟨Sl.of_owns h,Sl.of_owns (base:=0) (e:=37) ⟨rfl,.inl ⟨rfl,rfl⟩⟩,(fun h => by cases h),fun _ => rfl⟩
theorem sameK_any (a1 a2:Option Addr) (n1 n2:Nat) {B:Nat} (w:World) (h1:Rd Fx.cells 3 w a1 (knF s19)) (h2:Rd Ch.cells 4 w a2 []) (h3:BoxN w B 37 [.string ⟨#[65,67,77,69]⟩,.int .i64 5,.string ⟨#[49,57]⟩]) :
  Calls Tryz.prog 17 #[.agg #[.slice a1 1 n1,.slice a2 0 n2],.agg #[.slice (some ⟨B,0,none⟩) 1 1,.slice none 0 0]] w fun e w' => e = .returned (.bool true)∧Below w.heap.size w w':=by
 have h:=same_any (knF s19) (knF s19) [] [] a1 a2 (some ⟨B,0,none⟩) none n1 n2 1 0 w (by decide) (by decide) (by decide) (by decide) h1 h2 (rd_boxF h3) (rd_noC _ _)
 rw [eqB_true (p:=knF s19=knF s19∧([]:List Ch)=[]) ⟨rfl,rfl⟩] at h
 exact h
set_option maxHeartbeats 1000000 in
set_option maxRecDepth 100000 in
theorem sameRats_any (l:List ByteArray) (a b:Option Addr) (c d:Nat) (w:World) (hn:l.length≤1100000) (ha:Rd sC 1 w a l) (hb:Rd sC 1 w b l) :
  Calls Tryz.prog 24 #[.slice a l.length c,.slice b l.length d] w fun e w' => e = .returned (.bool true)∧Below w.heap.size w w':=by
 have HA:=Lib.hid ha
 have HB:=Lib.hid hb
 clear ha hb
 have t0:((l.length:Int) != (l.length:Int))=false:=by simp
 go_enter Tryz.func24,Tryz.ntmps24
 go_wp2_with fail
 go_loopw [5] (fun i wr => ∃ (k nq:Nat),k≤l.length∧i = .int .i64 k∧wr=w.drewN nq) (fun i _ => l.length - (intOf i).toNat)
 case atStart => exact ⟨0,0,by omega,rfl,rfl⟩
 case round =>
  obtain ⟨k,mq,hk,rfl,rfl⟩:=hrel
  by_cases hlt:k < l.length
  ·obtain ⟨f,hf⟩:∃ f,l[k]? = some f:=⟨_,List.getElem?_eq_getElem hlt⟩
   obtain ⟨b1,off,rfl,c0⟩:=HA.out.st hf
   obtain ⟨b2,off2,rfl,d0⟩:=HB.out.st hf
   have u:(f.toList != f.toList)=false:=by simp
   have hk2:(k:Int) < (l.length:Int):=by omega
   clear hf
   go_wp2
   go_quiet (fail)
   go_wp2
   go_roundw
   case rel => exact ⟨k+1,_,by omega,by go_num,rfl⟩
   case measure => simp [intOf];omega
  ·obtain rfl:k=l.length:=by omega
   go_wp2
   go_ret
   exact ⟨rfl,below_drewN (Below.refl _ _) _⟩
def al32F (al ai a1 a2:Option Addr) (cl ci n1 n2:Nat):List Fc:=[.lit (.int .i64 0),.lit (.bool true),.lit (.bool true),.lit (.string ⟨#[50,48]⟩),.lit (.bool true),.lit (.bool true),.lit (.bool true),.lit (.int .i64 0),.lit (.bool true),.lit (.bool true),.lit (.bool true),.lit (.slice al 1 cl),.row 22 1 [.string ⟨#[49]⟩],.lit (.bool true),.lit (.bool true),.lit (.bool true),.lit (.int .i64 0),.lit (.bool true),.lit (.bool true),.lit (.bool true),.lit (.agg #[.slice ai 1 ci]),.lit (.agg #[.string ⟨#[65,67,77,69]⟩,.int .i64 0,.string ⟨#[49,48,47,57]⟩,.string ⟨#[45,49,48,47,57]⟩]),.row 24 1 [.string ⟨#[65,67,77,69]⟩,.int .i64 0,.string ⟨#[49,48,47,57]⟩,.string ⟨#[45,49,48,47,57]⟩],.row1 24 1 [.string ⟨#[65,67,77,69]⟩,.int .i64 0,.string ⟨#[49,48,47,57]⟩,.string ⟨#[45,49,48,47,57]⟩],.lit (.bool true),.lit (.bool true),.lit (.bool true),.lit (.int .i64 0),.lit (.bool true),.lit (.bool true),.lit (.bool true),.lit (.agg #[.slice a1 1 n1,.slice a2 0 n2]),.row2 37 1 [.string ⟨#[65,67,77,69]⟩,.int .i64 5,.string ⟨#[49,57]⟩],.lit (.bool true),.lit (.bool true),.lit (.bool true)]
set_option maxHeartbeats 8000000 in
set_option maxRecDepth 100000 in
theorem alive32_any (w:World) (hS:LookS w) (hP:LookP w) (hO:LookO w):Calls Tryz.prog 16 #[] w fun e w' => e = .returned (.bool true)∧Below w.heap.size w w':=by
 have HP:=Lib.hid fun W => pays32_any W
 have HK:=Lib.hid fun x W => known32_any x W
 have HE:=Lib.hid fun W => example32_any W
 have HBf:Hid (∀ W,Below w.heap.size w W→∀ K N base,W.ownsRow base 37 3 (.slice (some ⟨K,0,none⟩) 1 1) 1 ((knF s20).flatMap Fx.cells)→RdN W paysC (.slice none 0 0) (.slice none 0 0) (.slice (some ⟨N,0,none⟩) 1 1)→BfH paysC (.slice none 0 0) (.slice none 0 0) (.slice (some ⟨N,0,none⟩) 1 1) (envD K s20) W):=Lib.hid fun W hW K N base h1 h2 =>
  ⟨by decide +kernel,h2,hS.frame hW,hP.frame hW,hO.frame hW,envD_rd h1,fun f hf => (knF_small s20 (by decide) f hf).1,fun f hf => by cases hf⟩
 clear hS hP hO
 go_enter Tryz.func16,Tryz.ntmps16
 go_wp2_with fail
 refine (HP.out _).mono ?_
 rintro e w1 ⟨N1,rfl,rp1,hb1⟩
 go_wp2_with fail
 refine (HK.out s20 _).mono ?_
 rintro e w2 ⟨K2,rfl,ok2,hb2⟩
 have hbA:=hb1.trans (hb2.mono hb1.size)
 have HV1:=Lib.hid (value32_any paysC _ _ _ sAnn sUSD 2 (envD K2 s20) w2 (HBf.out w2 hbA K2 N1 _ ok2 (rp1.frame hb2)) (by decide) (by decide))
 change Hid (Calls Tryz.prog 13 _ w2 (ConP w2 (conR paysC sAnn sUSD 2 (knF s20) []))) at HV1
 rw [con20] at HV1
 unfold ConP at HV1
 clear hb1 hb2 rp1 ok2
 go_wp2_with fail
 refine HV1.out.mono ?_
 rintro e w3 ⟨rfl,hb3⟩
 have hbB:=hbA.trans (hb3.mono hbA.size)
 clear HV1 hb3 hbA
 go_wp2_with fail
 refine (HE.out _).mono ?_
 rintro e w4 ⟨K4,rfl,ok4,hb4⟩
 have hbC:=hbB.trans (hb4.mono hbB.size)
 obtain ⟨W5,hW5,hb5,bx5⟩:∃ W,w4.alloc (.cells #[.slice (some ⟨K4,0,none⟩) 1 1] 28)=W∧Below w4.heap.size w4 W∧BoxN W w4.heap.size 28 [.slice (some ⟨K4,0,none⟩) 1 1]:=⟨_,rfl,below_a1 _ _,BoxN.new w4 _ _⟩
 have hbD:=hbC.trans (hb5.mono hbC.size)
 have ok5:=ownsRow_below' ok4 hb5
 clear hbB hb4 ok4
 go_wp2_with fail
 clear hW5
 refine (HP.out _).mono ?_
 rintro e w6 ⟨N6,rfl,rp6,hb6⟩
 go_wp2_with fail
 refine (HK.out s20 _).mono ?_
 rintro e w7 ⟨K7,rfl,ok7,hb7⟩
 have hb57:=hb6.trans (hb7.mono hb6.size)
 have hbE:=hbD.trans (hb57.mono hbD.size)
 have bx7:=bx5.below hb57 bx5.lt
 have oe7:=ownsRow_below' ok5 hb57
 have hrs:RdS w7 (some ⟨w4.heap.size,0,none⟩) [exS]:=fun j s hj => by
  match j,hj with
  | 0,hj => cases hj;exact ⟨w4.heap.size,0,some ⟨K4,0,none⟩,1,rfl,bx7.cell (j:=0) rfl,rd_sh oe7⟩
 have HLs:=Lib.hid (losses_any [exS] paysC _ _ _ sAnn sUSD 2 (envD K7 s20) (some ⟨w4.heap.size,0,none⟩) 1 w7 (by decide) hrs (fun s hs => by
  obtain rfl:=List.mem_singleton.1 hs
  exact ⟨by decide,fun x hx => by
   obtain rfl:=List.mem_singleton.1 hx
   exact ⟨⟨by decide,by decide,by decide⟩,by decide,by decide⟩⟩) (HBf.out w7 hbE K7 N6 _ ok7 (rp6.frame hb7)) (envD_s ok7) (fun f hf => (knF_small s20 (by decide) f hf).2) (by decide) (by decide))
 change Hid (Calls Tryz.prog 15 _ w7 (LosP w7 (losE [exS] paysC sAnn sUSD 2 (knF s20) []) (losL [exS] paysC sAnn sUSD 2 (knF s20) []))) at HLs
 rw [los_ex.1,los_ex.2] at HLs
 unfold LosP at HLs
 clear hb6 hb7 rp6 ok7 hrs bx7 hb57
 go_wp2_with fail
 refine HLs.out.mono ?_
 rintro e w8 ⟨v8,rfl,ow8,hb8⟩
 obtain ⟨al,cl,rfl⟩:∃ al cl,v8 = .slice al 1 cl:=by
  rcases ow8.2 with ⟨_,h0⟩ | ⟨g,cap,cur,rfl,_⟩
  ·cases h0
  ·exact ⟨_,_,rfl⟩
 have hal8:Rd sC 1 w8 al [s1]:=rd_st ow8 rfl
 have hbF:=hbE.trans (hb8.mono hbE.size)
 clear HLs ow8 hb8 hbE hbD bx5 ok5 oe7 hbC hb5
 go_wp2_with fail
 refine (HE.out _).mono ?_
 rintro e w9 ⟨K9,rfl,ok9,hb9⟩
 have hbG:=hbF.trans (hb9.mono hbF.size)
 have hal9:=hal8.below hb9
 have HIn:=Lib.hid (inverse_any exS (some ⟨K9,0,none⟩) 1 w9 (by decide) (rd_sh ok9) (Sl.of_owns ok9) (fun h => by cases h) (fun x hx => by
  obtain rfl:=List.mem_singleton.1 hx
  exact ⟨⟨by decide,by decide,by decide⟩,by decide,by decide⟩))
 rw [inv_ex.1,inv_ex.2] at HIn
 unfold ScnPost at HIn
 clear hal8 hb9 hbF
 go_wp2_with fail
 refine HIn.out.mono ?_
 rintro e w10 ⟨ai,ci,rfl,oi10,hb10⟩
 have hbH:=hbG.trans (hb10.mono hbG.size)
 obtain ⟨W11,hW11,hb11,bx11⟩:∃ W,w10.alloc (.cells #[.slice ai exI.length ci] 28)=W∧Below w10.heap.size w10 W∧BoxN W w10.heap.size 28 [.slice ai 1 ci]:=⟨_,rfl,below_a1 _ _,BoxN.new w10 _ _⟩
 have hbI:=hbH.trans (hb11.mono hbH.size)
 have hal11:=(hal9.below hb10).below hb11
 have hai11:Rd Sh.cells 4 W11 ai exI:=(rd_sh oi10).below hb11
 clear HIn ok9 hal9 hb10 hbG oi10 hbH hb11
 go_wp2_with fail
 clear hW11
 refine (HE.out _).mono ?_
 rintro e w12 ⟨K12,rfl,ok12,hb12⟩
 go_wp2_with fail
 refine (HK.out s20 _).mono ?_
 rintro e w13 ⟨K13,rfl,ok13,hb13⟩
 have hb2:=hb12.trans (hb13.mono hb12.size)
 have hbJ:=hbI.trans (hb2.mono hbI.size)
 have HAp:=Lib.hid (apply_any exS (knF s20) [] (some ⟨K12,0,none⟩) (some ⟨K13,0,none⟩) none 1 1 0 w13 (by decide) (by decide) (by decide) ((rd_sh ok12).below hb13) (fun x hx => by
  obtain rfl:=List.mem_singleton.1 hx
  exact ⟨⟨by decide,by decide,by decide⟩,by decide,by decide⟩) (rd_fx ok13) (rd_noC _ _) (knF_small s20 (by decide)) (fun f hf => by cases hf) (envD_s ok13).f (envD_s ok13).nf (envD_s ok13).c (envD_s ok13).nc)
 rw [ap_ok.1,ap_ok.2.1,ap_ok.2.2] at HAp
 unfold EnvPost at HAp
 have hal13:=hal11.below hb2
 have hai13:=hai11.below hb2
 have bx13:=bx11.below hb2 bx11.lt
 clear hal11 hai11 bx11 hb2 hb12 hb13 ok12 ok13 hbI
 go_wp2_with fail
 refine HAp.out.mono ?_
 rintro e w14 ⟨a1,n1,a2,n2,rfl,of14,oc14,hb14⟩
 obtain ⟨W15,hW15,hb15,bx15⟩:∃ W,w14.alloc (.cells #[.slice a1 (knF s19).length n1,.slice a2 0 n2] 32)=W∧Below w14.heap.size w14 W∧BoxN W w14.heap.size 32 [.slice a1 1 n1,.slice a2 0 n2]:=⟨_,rfl,below_a1 _ _,BoxN.new w14 _ _⟩
 have hbK:=hbJ.trans (hb14.mono hbJ.size)
 have hbL:=Lib.hid (hbK.trans (hb15.mono hbK.size))
 have hb16:=hb14.trans (hb15.mono hb14.size)
 have hal:=Lib.hid (hal13.below hb16)
 have hai:=Lib.hid (hai13.below hb16)
 have h5:=Lib.hid (bx13.below hb16 bx13.lt)
 have haf:=Lib.hid ((rd_fx of14).below hb15)
 have hac:=Lib.hid ((rd_ch oc14).below hb15)
 have h7:=Lib.hid bx15
 have HV:=hbL
 clear HAp HE HK HP HBf hal13 hai13 bx13 hbJ hbK hb16 hb14 hb15 of14 oc14 bx15
 go_wp2_with fail
 clear hW15 hbL
 generalize (.tuple #[.string s20,.int .i64 0]:Value)=uA
 generalize (paysC.val (.slice none 0 0) (.slice none 0 0) (.slice (some ⟨N1,0,none⟩) 1 1):Value)=uB
 generalize (.agg #[.slice (some ⟨K2,0,none⟩) 1 1,.slice none 0 0]:Value)=uC
 generalize (.tuple #[.slice al 1 cl,.int .i64 0]:Value)=uD
 generalize (.agg #[.slice (some ⟨K4,0,none⟩) 1 1]:Value)=uE
 generalize (.slice (some ⟨w4.heap.size,0,none⟩) 1 1:Value)=uF
 generalize (paysC.val (.slice none 0 0) (.slice none 0 0) (.slice (some ⟨N6,0,none⟩) 1 1):Value)=uG
 generalize (.agg #[.slice (some ⟨K7,0,none⟩) 1 1,.slice none 0 0]:Value)=uH
 generalize (.tuple #[.agg #[.slice ai exI.length ci],.int .i64 0]:Value)=uI
 generalize (.agg #[.slice (some ⟨K9,0,none⟩) 1 1]:Value)=uJ
 generalize (.agg #[.slice ai exI.length ci]:Value)=uK
 generalize (.tuple #[.agg #[.slice a1 (knF s19).length n1,.slice a2 0 n2],.int .i64 0]:Value)=uL
 generalize (.agg #[.slice (some ⟨K12,0,none⟩) 1 1]:Value)=uM
 generalize (.agg #[.slice (some ⟨K13,0,none⟩) 1 1,.slice none 0 0]:Value)=uN
 generalize (.agg #[.slice a1 (knF s19).length n1,.slice a2 0 n2]:Value)=uO
 generalize w10.heap.size=S5 at h5 ⊢
 generalize w14.heap.size=S7 at h7 ⊢
 generalize W15=V at HV hal hai h5 haf hac h7 ⊢
 refine wp_region_invc (fun L aa w' => ∃ v0 v1 v2 v3 v4 v5 v6 v7 v8 v9 v10 v11 v12 v13 v14 v15 v16 v17 v18 v19 v20 v21 v22 v23 v24 v25 v26 v27 v28 v29 v30 v31 v32 v33 v34 v35,aa=⟨#[v35,.string ⟨#[50,48]⟩,.int .i64 0,.slice al 1 cl,.int .i64 0,.pointer (some ⟨S5,0,none⟩),.int .i64 0,.pointer (some ⟨S7,0,none⟩),.int .i64 0,uA,uB,uC,uA,.string s20,.int .i64 0,uD,uE,uF,uG,uH,uD,.slice al 1 cl,.int .i64 0,uI,uJ,uI,uK,.int .i64 0,uL,uM,uN,uL,uO,.int .i64 0,v0,v1,v2,v3,v4,v5,v6,v7,v8,v9,v10,v11,v12,v13,v14,v15,v16,v17,v18,v19,v20,v21,v22,v23,v24,v25,v26,v27,v28,v29,v30,v31,v32,v33,v34],[]⟩∧FInv V w' (al32F al ai a1 a2 cl ci n1 n2) [v0,v1,v2,v3,v4,v5,v6,v7,v8,v9,v10,v11,v12,v13,v14,v15,v16,v17,v18,v19,v20,v21,v22,v23,v24,v25,v26,v27,v28,v29,v30,v31,v32,v33,v34,v35] L∧(L 35=false→v35 = .bool false)) (by kernel_rfl) (by kernel_rfl) ?_ ?_ ?_
 ·exact ⟨_,_,_,_,_,_,_,_,_,_,_,_,_,_,_,_,_,_,_,_,_,_,_,_,_,_,_,_,_,_,_,_,_,_,_,_,rfl,FInv.start (below_drewN (Below.refl _ _) 1),fun _ => rfl⟩
 ·rintro L aa w' ⟨v0,v1,v2,v3,v4,v5,v6,v7,v8,v9,v10,v11,v12,v13,v14,v15,v16,v17,v18,v19,v20,v21,v22,v23,v24,v25,v26,v27,v28,v29,v30,v31,v32,v33,v34,v35,rfl,h,hx⟩ hc i0 op9 ho hL hp
  have hi9:i0 < 36:=by simpa using (Array.getElem?_eq_some_iff.1 ho).1
  have hi2:i0=0∨i0=1∨i0=2∨i0=3∨i0=4∨i0=5∨i0=6∨i0=7∨i0=8∨i0=9∨i0=10∨i0=11∨i0=12∨i0=13∨i0=14∨i0=15∨i0=16∨i0=17∨i0=18∨i0=19∨i0=20∨i0=21∨i0=22∨i0=23∨i0=24∨i0=25∨i0=26∨i0=27∨i0=28∨i0=29∨i0=30∨i0=31∨i0=32∨i0=33∨i0=34∨i0=35:=by omega
  clear hi9
  rcases hi2 with rfl | rfl | rfl | rfl | rfl | rfl | rfl | rfl | rfl | rfl | rfl | rfl | rfl | rfl | rfl | rfl | rfl | rfl | rfl | rfl | rfl | rfl | rfl | rfl | rfl | rfl | rfl | rfl | rfl | rfl | rfl | rfl | rfl | rfl | rfl | rfl
  ·refine wpOp_step rfl ?_
   intro K9 hK
   go_simp
   exact hK _ _ ⟨_,_,_,_,_,_,_,_,_,_,_,_,_,_,_,_,_,_,_,_,_,_,_,_,_,_,_,_,_,_,_,_,_,_,_,_,rfl,h.step (Below.refl _ _) (i:=0) (F:=.lit (.int .i64 0)) rfl (rfl),fun q => hx (by rw [← q];unfold upd;rw [if_neg (by decide)])⟩
  ·refine wpOp_step rfl ?_
   intro K9 hK
   have f0:=h.lit (i:=0) (u:=.int .i64 0) (pred_spec ho hp (j:=0) (by kernel_rfl)) rfl rfl
   subst f0
   go_simp
   exact hK _ _ ⟨_,_,_,_,_,_,_,_,_,_,_,_,_,_,_,_,_,_,_,_,_,_,_,_,_,_,_,_,_,_,_,_,_,_,_,_,rfl,h.step (Below.refl _ _) (i:=1) (F:=.lit (.bool true)) rfl (rfl),fun q => hx (by rw [← q];unfold upd;rw [if_neg (by decide)])⟩
  ·refine wpOp_step rfl ?_
   intro K9 hK
   have f1:=h.lit (i:=1) (u:=.bool true) (pred_spec ho hp (j:=1) (by kernel_rfl)) rfl rfl
   subst f1
   go_simp
   exact hK _ _ ⟨_,_,_,_,_,_,_,_,_,_,_,_,_,_,_,_,_,_,_,_,_,_,_,_,_,_,_,_,_,_,_,_,_,_,_,_,rfl,h.step (Below.refl _ _) (i:=2) (F:=.lit (.bool true)) rfl (rfl),fun q => hx (by rw [← q];unfold upd;rw [if_neg (by decide)])⟩
  ·refine wpOp_step rfl ?_
   intro K9 hK
   have f2:=h.lit (i:=2) (u:=.bool true) (pred_spec ho hp (j:=2) (by kernel_rfl)) rfl rfl
   subst f2
   go_simp
   exact hK _ _ ⟨_,_,_,_,_,_,_,_,_,_,_,_,_,_,_,_,_,_,_,_,_,_,_,_,_,_,_,_,_,_,_,_,_,_,_,_,rfl,h.step (Below.refl _ _) (i:=3) (F:=.lit (.string ⟨#[50,48]⟩)) rfl (rfl),fun q => hx (by rw [← q];unfold upd;rw [if_neg (by decide)])⟩
  ·refine wpOp_step rfl ?_
   intro K9 hK
   have f2:=h.lit (i:=2) (u:=.bool true) (pred_spec ho hp (j:=2) (by kernel_rfl)) rfl rfl
   subst f2
   have f3:=h.lit (i:=3) (u:=.string ⟨#[50,48]⟩) (pred_spec ho hp (j:=3) (by kernel_rfl)) rfl rfl
   subst f3
   go_simp
   exact hK _ _ ⟨_,_,_,_,_,_,_,_,_,_,_,_,_,_,_,_,_,_,_,_,_,_,_,_,_,_,_,_,_,_,_,_,_,_,_,_,rfl,h.step (Below.refl _ _) (i:=4) (F:=.lit (.bool true)) rfl (rfl),fun q => hx (by rw [← q];unfold upd;rw [if_neg (by decide)])⟩
  ·refine wpOp_step rfl ?_
   intro K9 hK
   have f2:=h.lit (i:=2) (u:=.bool true) (pred_spec ho hp (j:=2) (by kernel_rfl)) rfl rfl
   subst f2
   have f4:=h.lit (i:=4) (u:=.bool true) (pred_spec ho hp (j:=4) (by kernel_rfl)) rfl rfl
   subst f4
   go_simp
   exact hK _ _ ⟨_,_,_,_,_,_,_,_,_,_,_,_,_,_,_,_,_,_,_,_,_,_,_,_,_,_,_,_,_,_,_,_,_,_,_,_,rfl,h.step (Below.refl _ _) (i:=5) (F:=.lit (.bool true)) rfl (rfl),fun q => hx (by rw [← q];unfold upd;rw [if_neg (by decide)])⟩
  ·refine wpOp_step rfl ?_
   intro K9 hK
   have f5:=h.lit (i:=5) (u:=.bool true) (pred_spec ho hp (j:=5) (by kernel_rfl)) rfl rfl
   subst f5
   go_simp
   exact hK _ _ ⟨_,_,_,_,_,_,_,_,_,_,_,_,_,_,_,_,_,_,_,_,_,_,_,_,_,_,_,_,_,_,_,_,_,_,_,_,rfl,h.step (Below.refl _ _) (i:=6) (F:=.lit (.bool true)) rfl (rfl),fun q => hx (by rw [← q];unfold upd;rw [if_neg (by decide)])⟩
  ·refine wpOp_step rfl ?_
   intro K9 hK
   have f6:=h.lit (i:=6) (u:=.bool true) (pred_spec ho hp (j:=6) (by kernel_rfl)) rfl rfl
   subst f6
   go_simp
   exact hK _ _ ⟨_,_,_,_,_,_,_,_,_,_,_,_,_,_,_,_,_,_,_,_,_,_,_,_,_,_,_,_,_,_,_,_,_,_,_,_,rfl,h.step (Below.refl _ _) (i:=7) (F:=.lit (.int .i64 0)) rfl (rfl),fun q => hx (by rw [← q];unfold upd;rw [if_neg (by decide)])⟩
  ·refine wpOp_step rfl ?_
   intro K9 hK
   have f6:=h.lit (i:=6) (u:=.bool true) (pred_spec ho hp (j:=6) (by kernel_rfl)) rfl rfl
   subst f6
   have f7:=h.lit (i:=7) (u:=.int .i64 0) (pred_spec ho hp (j:=7) (by kernel_rfl)) rfl rfl
   subst f7
   go_simp
   exact hK _ _ ⟨_,_,_,_,_,_,_,_,_,_,_,_,_,_,_,_,_,_,_,_,_,_,_,_,_,_,_,_,_,_,_,_,_,_,_,_,rfl,h.step (Below.refl _ _) (i:=8) (F:=.lit (.bool true)) rfl (rfl),fun q => hx (by rw [← q];unfold upd;rw [if_neg (by decide)])⟩
  ·refine wpOp_step rfl ?_
   intro K9 hK
   have f6:=h.lit (i:=6) (u:=.bool true) (pred_spec ho hp (j:=6) (by kernel_rfl)) rfl rfl
   subst f6
   have f8:=h.lit (i:=8) (u:=.bool true) (pred_spec ho hp (j:=8) (by kernel_rfl)) rfl rfl
   subst f8
   go_simp
   exact hK _ _ ⟨_,_,_,_,_,_,_,_,_,_,_,_,_,_,_,_,_,_,_,_,_,_,_,_,_,_,_,_,_,_,_,_,_,_,_,_,rfl,h.step (Below.refl _ _) (i:=9) (F:=.lit (.bool true)) rfl (rfl),fun q => hx (by rw [← q];unfold upd;rw [if_neg (by decide)])⟩
  ·refine wpOp_step rfl ?_
   intro K9 hK
   have f9:=h.lit (i:=9) (u:=.bool true) (pred_spec ho hp (j:=9) (by kernel_rfl)) rfl rfl
   subst f9
   go_simp
   exact hK _ _ ⟨_,_,_,_,_,_,_,_,_,_,_,_,_,_,_,_,_,_,_,_,_,_,_,_,_,_,_,_,_,_,_,_,_,_,_,_,rfl,h.step (Below.refl _ _) (i:=10) (F:=.lit (.bool true)) rfl (rfl),fun q => hx (by rw [← q];unfold upd;rw [if_neg (by decide)])⟩
  ·refine wpOp_step rfl ?_
   intro K9 hK
   have f10:=h.lit (i:=10) (u:=.bool true) (pred_spec ho hp (j:=10) (by kernel_rfl)) rfl rfl
   subst f10
   go_simp
   exact hK _ _ ⟨_,_,_,_,_,_,_,_,_,_,_,_,_,_,_,_,_,_,_,_,_,_,_,_,_,_,_,_,_,_,_,_,_,_,_,_,rfl,h.step (Below.refl _ _) (i:=11) (F:=.lit (.slice al 1 cl)) rfl (rfl),fun q => hx (by rw [← q];unfold upd;rw [if_neg (by decide)])⟩
  ·refine wpOp_step rfl ?_
   intro K9 hK
   have f10:=h.lit (i:=10) (u:=.bool true) (pred_spec ho hp (j:=10) (by kernel_rfl)) rfl rfl
   subst f10
   go_simp
   exact hK _ _ ⟨_,_,_,_,_,_,_,_,_,_,_,_,_,_,_,_,_,_,_,_,_,_,_,_,_,_,_,_,_,_,_,_,_,_,_,_,rfl,h.step (below_a1 _ _) (i:=12) (F:=.row 22 1 [.string ⟨#[49]⟩]) rfl (⟨_,rfl,BoxN.new _ _ _⟩),fun q => hx (by rw [← q];unfold upd;rw [if_neg (by decide)])⟩
  ·refine wpOp_step rfl ?_
   intro K9 hK
   have f10:=h.lit (i:=10) (u:=.bool true) (pred_spec ho hp (j:=10) (by kernel_rfl)) rfl rfl
   subst f10
   have f11:=h.lit (i:=11) (u:=.slice al 1 cl) (pred_spec ho hp (j:=11) (by kernel_rfl)) rfl rfl
   subst f11
   obtain ⟨B12,e12,hc12⟩:=h.at (i:=12) (F:=.row 22 1 [.string ⟨#[49]⟩]) (pred_spec ho hp (j:=12) (by kernel_rfl)) rfl rfl
   subst e12
   go_simp
   refine (sameRats_any [s1] al _ cl _ w' (by decide) (hal.out.below h.b) (rd_box hc12)).mono ?_
   rintro e w4 ⟨rfl,hb4⟩
   exact hK _ _ ⟨_,_,_,_,_,_,_,_,_,_,_,_,_,_,_,_,_,_,_,_,_,_,_,_,_,_,_,_,_,_,_,_,_,_,_,_,rfl,h.step (hb4) (i:=13) (F:=.lit (.bool true)) rfl (rfl),fun q => hx (by rw [← q];unfold upd;rw [if_neg (by decide)])⟩
  ·refine wpOp_step rfl ?_
   intro K9 hK
   have f10:=h.lit (i:=10) (u:=.bool true) (pred_spec ho hp (j:=10) (by kernel_rfl)) rfl rfl
   subst f10
   have f13:=h.lit (i:=13) (u:=.bool true) (pred_spec ho hp (j:=13) (by kernel_rfl)) rfl rfl
   subst f13
   go_simp
   exact hK _ _ ⟨_,_,_,_,_,_,_,_,_,_,_,_,_,_,_,_,_,_,_,_,_,_,_,_,_,_,_,_,_,_,_,_,_,_,_,_,rfl,h.step (Below.refl _ _) (i:=14) (F:=.lit (.bool true)) rfl (rfl),fun q => hx (by rw [← q];unfold upd;rw [if_neg (by decide)])⟩
  ·refine wpOp_step rfl ?_
   intro K9 hK
   have f14:=h.lit (i:=14) (u:=.bool true) (pred_spec ho hp (j:=14) (by kernel_rfl)) rfl rfl
   subst f14
   go_simp
   exact hK _ _ ⟨_,_,_,_,_,_,_,_,_,_,_,_,_,_,_,_,_,_,_,_,_,_,_,_,_,_,_,_,_,_,_,_,_,_,_,_,rfl,h.step (Below.refl _ _) (i:=15) (F:=.lit (.bool true)) rfl (rfl),fun q => hx (by rw [← q];unfold upd;rw [if_neg (by decide)])⟩
  ·refine wpOp_step rfl ?_
   intro K9 hK
   have f15:=h.lit (i:=15) (u:=.bool true) (pred_spec ho hp (j:=15) (by kernel_rfl)) rfl rfl
   subst f15
   go_simp
   exact hK _ _ ⟨_,_,_,_,_,_,_,_,_,_,_,_,_,_,_,_,_,_,_,_,_,_,_,_,_,_,_,_,_,_,_,_,_,_,_,_,rfl,h.step (Below.refl _ _) (i:=16) (F:=.lit (.int .i64 0)) rfl (rfl),fun q => hx (by rw [← q];unfold upd;rw [if_neg (by decide)])⟩
  ·refine wpOp_step rfl ?_
   intro K9 hK
   have f15:=h.lit (i:=15) (u:=.bool true) (pred_spec ho hp (j:=15) (by kernel_rfl)) rfl rfl
   subst f15
   have f16:=h.lit (i:=16) (u:=.int .i64 0) (pred_spec ho hp (j:=16) (by kernel_rfl)) rfl rfl
   subst f16
   go_simp
   exact hK _ _ ⟨_,_,_,_,_,_,_,_,_,_,_,_,_,_,_,_,_,_,_,_,_,_,_,_,_,_,_,_,_,_,_,_,_,_,_,_,rfl,h.step (Below.refl _ _) (i:=17) (F:=.lit (.bool true)) rfl (rfl),fun q => hx (by rw [← q];unfold upd;rw [if_neg (by decide)])⟩
  ·refine wpOp_step rfl ?_
   intro K9 hK
   have f15:=h.lit (i:=15) (u:=.bool true) (pred_spec ho hp (j:=15) (by kernel_rfl)) rfl rfl
   subst f15
   have f17:=h.lit (i:=17) (u:=.bool true) (pred_spec ho hp (j:=17) (by kernel_rfl)) rfl rfl
   subst f17
   go_simp
   exact hK _ _ ⟨_,_,_,_,_,_,_,_,_,_,_,_,_,_,_,_,_,_,_,_,_,_,_,_,_,_,_,_,_,_,_,_,_,_,_,_,rfl,h.step (Below.refl _ _) (i:=18) (F:=.lit (.bool true)) rfl (rfl),fun q => hx (by rw [← q];unfold upd;rw [if_neg (by decide)])⟩
  ·refine wpOp_step rfl ?_
   intro K9 hK
   have f18:=h.lit (i:=18) (u:=.bool true) (pred_spec ho hp (j:=18) (by kernel_rfl)) rfl rfl
   subst f18
   go_simp
   exact hK _ _ ⟨_,_,_,_,_,_,_,_,_,_,_,_,_,_,_,_,_,_,_,_,_,_,_,_,_,_,_,_,_,_,_,_,_,_,_,_,rfl,h.step (Below.refl _ _) (i:=19) (F:=.lit (.bool true)) rfl (rfl),fun q => hx (by rw [← q];unfold upd;rw [if_neg (by decide)])⟩
  ·refine wpOp_step rfl ?_
   intro K9 hK
   have f19:=h.lit (i:=19) (u:=.bool true) (pred_spec ho hp (j:=19) (by kernel_rfl)) rfl rfl
   subst f19
   have y0:w'.cell? ⟨S5,0,none⟩=some (.slice ai 1 ci):=(h5.out.below h.b h5.out.lt).cell (j:=0) rfl
   go_simp
   exact hK _ _ ⟨_,_,_,_,_,_,_,_,_,_,_,_,_,_,_,_,_,_,_,_,_,_,_,_,_,_,_,_,_,_,_,_,_,_,_,_,rfl,h.step (Below.refl _ _) (i:=20) (F:=.lit (.agg #[.slice ai 1 ci])) rfl (rfl),fun q => hx (by rw [← q];unfold upd;rw [if_neg (by decide)])⟩
  ·refine wpOp_step rfl ?_
   intro K9 hK
   have f19:=h.lit (i:=19) (u:=.bool true) (pred_spec ho hp (j:=19) (by kernel_rfl)) rfl rfl
   subst f19
   go_simp
   exact hK _ _ ⟨_,_,_,_,_,_,_,_,_,_,_,_,_,_,_,_,_,_,_,_,_,_,_,_,_,_,_,_,_,_,_,_,_,_,_,_,rfl,h.step (Below.refl _ _) (i:=21) (F:=.lit (.agg #[.string ⟨#[65,67,77,69]⟩,.int .i64 0,.string ⟨#[49,48,47,57]⟩,.string ⟨#[45,49,48,47,57]⟩])) rfl (rfl),fun q => hx (by rw [← q];unfold upd;rw [if_neg (by decide)])⟩
  ·refine wpOp_step rfl ?_
   intro K9 hK
   have f19:=h.lit (i:=19) (u:=.bool true) (pred_spec ho hp (j:=19) (by kernel_rfl)) rfl rfl
   subst f19
   have f21:=h.lit (i:=21) (u:=.agg #[.string ⟨#[65,67,77,69]⟩,.int .i64 0,.string ⟨#[49,48,47,57]⟩,.string ⟨#[45,49,48,47,57]⟩]) (pred_spec ho hp (j:=21) (by kernel_rfl)) rfl rfl
   subst f21
   go_simp
   exact hK _ _ ⟨_,_,_,_,_,_,_,_,_,_,_,_,_,_,_,_,_,_,_,_,_,_,_,_,_,_,_,_,_,_,_,_,_,_,_,_,rfl,h.step (below_a1 _ _) (i:=22) (F:=.row 24 1 [.string ⟨#[65,67,77,69]⟩,.int .i64 0,.string ⟨#[49,48,47,57]⟩,.string ⟨#[45,49,48,47,57]⟩]) rfl (⟨_,rfl,BoxN.new _ _ _⟩),fun q => hx (by rw [← q];unfold upd;rw [if_neg (by decide)])⟩
  ·refine wpOp_step rfl ?_
   intro K9 hK
   have f19:=h.lit (i:=19) (u:=.bool true) (pred_spec ho hp (j:=19) (by kernel_rfl)) rfl rfl
   subst f19
   obtain ⟨B22,e22,hc22⟩:=h.at (i:=22) (F:=.row 24 1 [.string ⟨#[65,67,77,69]⟩,.int .i64 0,.string ⟨#[49,48,47,57]⟩,.string ⟨#[45,49,48,47,57]⟩]) (pred_spec ho hp (j:=22) (by kernel_rfl)) rfl rfl
   subst e22
   go_simp
   exact hK _ _ ⟨_,_,_,_,_,_,_,_,_,_,_,_,_,_,_,_,_,_,_,_,_,_,_,_,_,_,_,_,_,_,_,_,_,_,_,_,rfl,h.step (Below.refl _ _) (i:=23) (F:=.row1 24 1 [.string ⟨#[65,67,77,69]⟩,.int .i64 0,.string ⟨#[49,48,47,57]⟩,.string ⟨#[45,49,48,47,57]⟩]) rfl (⟨_,rfl,hc22⟩),fun q => hx (by rw [← q];unfold upd;rw [if_neg (by decide)])⟩
  ·refine wpOp_step rfl ?_
   intro K9 hK
   have f19:=h.lit (i:=19) (u:=.bool true) (pred_spec ho hp (j:=19) (by kernel_rfl)) rfl rfl
   subst f19
   have f20:=h.lit (i:=20) (u:=.agg #[.slice ai 1 ci]) (pred_spec ho hp (j:=20) (by kernel_rfl)) rfl rfl
   subst f20
   obtain ⟨B23,e23,hc23⟩:=h.at (i:=23) (F:=.row1 24 1 [.string ⟨#[65,67,77,69]⟩,.int .i64 0,.string ⟨#[49,48,47,57]⟩,.string ⟨#[45,49,48,47,57]⟩]) (pred_spec ho hp (j:=23) (by kernel_rfl)) rfl rfl
   subst e23
   go_simp
   refine (sameSh_any exI ai _ ci _ w' (by decide) (hai.out.below h.b) (rd_boxS hc23)).mono ?_
   rintro e w4 ⟨rfl,hb4⟩
   exact hK _ _ ⟨_,_,_,_,_,_,_,_,_,_,_,_,_,_,_,_,_,_,_,_,_,_,_,_,_,_,_,_,_,_,_,_,_,_,_,_,rfl,h.step (hb4) (i:=24) (F:=.lit (.bool true)) rfl (rfl),fun q => hx (by rw [← q];unfold upd;rw [if_neg (by decide)])⟩
  ·refine wpOp_step rfl ?_
   intro K9 hK
   have f19:=h.lit (i:=19) (u:=.bool true) (pred_spec ho hp (j:=19) (by kernel_rfl)) rfl rfl
   subst f19
   have f24:=h.lit (i:=24) (u:=.bool true) (pred_spec ho hp (j:=24) (by kernel_rfl)) rfl rfl
   subst f24
   go_simp
   exact hK _ _ ⟨_,_,_,_,_,_,_,_,_,_,_,_,_,_,_,_,_,_,_,_,_,_,_,_,_,_,_,_,_,_,_,_,_,_,_,_,rfl,h.step (Below.refl _ _) (i:=25) (F:=.lit (.bool true)) rfl (rfl),fun q => hx (by rw [← q];unfold upd;rw [if_neg (by decide)])⟩
  ·refine wpOp_step rfl ?_
   intro K9 hK
   have f25:=h.lit (i:=25) (u:=.bool true) (pred_spec ho hp (j:=25) (by kernel_rfl)) rfl rfl
   subst f25
   go_simp
   exact hK _ _ ⟨_,_,_,_,_,_,_,_,_,_,_,_,_,_,_,_,_,_,_,_,_,_,_,_,_,_,_,_,_,_,_,_,_,_,_,_,rfl,h.step (Below.refl _ _) (i:=26) (F:=.lit (.bool true)) rfl (rfl),fun q => hx (by rw [← q];unfold upd;rw [if_neg (by decide)])⟩
  ·refine wpOp_step rfl ?_
   intro K9 hK
   have f26:=h.lit (i:=26) (u:=.bool true) (pred_spec ho hp (j:=26) (by kernel_rfl)) rfl rfl
   subst f26
   go_simp
   exact hK _ _ ⟨_,_,_,_,_,_,_,_,_,_,_,_,_,_,_,_,_,_,_,_,_,_,_,_,_,_,_,_,_,_,_,_,_,_,_,_,rfl,h.step (Below.refl _ _) (i:=27) (F:=.lit (.int .i64 0)) rfl (rfl),fun q => hx (by rw [← q];unfold upd;rw [if_neg (by decide)])⟩
  ·refine wpOp_step rfl ?_
   intro K9 hK
   have f26:=h.lit (i:=26) (u:=.bool true) (pred_spec ho hp (j:=26) (by kernel_rfl)) rfl rfl
   subst f26
   have f27:=h.lit (i:=27) (u:=.int .i64 0) (pred_spec ho hp (j:=27) (by kernel_rfl)) rfl rfl
   subst f27
   go_simp
   exact hK _ _ ⟨_,_,_,_,_,_,_,_,_,_,_,_,_,_,_,_,_,_,_,_,_,_,_,_,_,_,_,_,_,_,_,_,_,_,_,_,rfl,h.step (Below.refl _ _) (i:=28) (F:=.lit (.bool true)) rfl (rfl),fun q => hx (by rw [← q];unfold upd;rw [if_neg (by decide)])⟩
  ·refine wpOp_step rfl ?_
   intro K9 hK
   have f26:=h.lit (i:=26) (u:=.bool true) (pred_spec ho hp (j:=26) (by kernel_rfl)) rfl rfl
   subst f26
   have f28:=h.lit (i:=28) (u:=.bool true) (pred_spec ho hp (j:=28) (by kernel_rfl)) rfl rfl
   subst f28
   go_simp
   exact hK _ _ ⟨_,_,_,_,_,_,_,_,_,_,_,_,_,_,_,_,_,_,_,_,_,_,_,_,_,_,_,_,_,_,_,_,_,_,_,_,rfl,h.step (Below.refl _ _) (i:=29) (F:=.lit (.bool true)) rfl (rfl),fun q => hx (by rw [← q];unfold upd;rw [if_neg (by decide)])⟩
  ·refine wpOp_step rfl ?_
   intro K9 hK
   have f29:=h.lit (i:=29) (u:=.bool true) (pred_spec ho hp (j:=29) (by kernel_rfl)) rfl rfl
   subst f29
   go_simp
   exact hK _ _ ⟨_,_,_,_,_,_,_,_,_,_,_,_,_,_,_,_,_,_,_,_,_,_,_,_,_,_,_,_,_,_,_,_,_,_,_,_,rfl,h.step (Below.refl _ _) (i:=30) (F:=.lit (.bool true)) rfl (rfl),fun q => hx (by rw [← q];unfold upd;rw [if_neg (by decide)])⟩
  ·refine wpOp_step rfl ?_
   intro K9 hK
   have f30:=h.lit (i:=30) (u:=.bool true) (pred_spec ho hp (j:=30) (by kernel_rfl)) rfl rfl
   subst f30
   have y0:w'.cell? ⟨S7,0,none⟩=some (.slice a1 1 n1):=(h7.out.below h.b h7.out.lt).cell (j:=0) rfl
   have y1:w'.cell? ⟨S7,1,none⟩=some (.slice a2 0 n2):=(h7.out.below h.b h7.out.lt).cell (j:=1) rfl
   go_simp
   exact hK _ _ ⟨_,_,_,_,_,_,_,_,_,_,_,_,_,_,_,_,_,_,_,_,_,_,_,_,_,_,_,_,_,_,_,_,_,_,_,_,rfl,h.step (Below.refl _ _) (i:=31) (F:=.lit (.agg #[.slice a1 1 n1,.slice a2 0 n2])) rfl (rfl),fun q => hx (by rw [← q];unfold upd;rw [if_neg (by decide)])⟩
  ·refine wpOp_step rfl ?_
   intro K9 hK
   have f30:=h.lit (i:=30) (u:=.bool true) (pred_spec ho hp (j:=30) (by kernel_rfl)) rfl rfl
   subst f30
   go_simp
   refine (known32_any s19 w').mono ?_
   rintro e w4 ⟨K4,rfl,ho4,hb4⟩
   exact hK _ _ ⟨_,_,_,_,_,_,_,_,_,_,_,_,_,_,_,_,_,_,_,_,_,_,_,_,_,_,_,_,_,_,_,_,_,_,_,_,rfl,h.step (hb4) (i:=32) (F:=.row2 37 1 [.string ⟨#[65,67,77,69]⟩,.int .i64 5,.string ⟨#[49,57]⟩]) rfl (⟨K4,rfl,box_own ho4⟩),fun q => hx (by rw [← q];unfold upd;rw [if_neg (by decide)])⟩
  ·refine wpOp_step rfl ?_
   intro K9 hK
   have f30:=h.lit (i:=30) (u:=.bool true) (pred_spec ho hp (j:=30) (by kernel_rfl)) rfl rfl
   subst f30
   have f31:=h.lit (i:=31) (u:=.agg #[.slice a1 1 n1,.slice a2 0 n2]) (pred_spec ho hp (j:=31) (by kernel_rfl)) rfl rfl
   subst f31
   obtain ⟨B32,e32,hc32⟩:=h.at (i:=32) (F:=.row2 37 1 [.string ⟨#[65,67,77,69]⟩,.int .i64 5,.string ⟨#[49,57]⟩]) (pred_spec ho hp (j:=32) (by kernel_rfl)) rfl rfl
   subst e32
   go_simp
   refine (sameK_any a1 a2 n1 n2 w' (haf.out.below h.b) (hac.out.below h.b) hc32).mono ?_
   rintro e w4 ⟨rfl,hb4⟩
   exact hK _ _ ⟨_,_,_,_,_,_,_,_,_,_,_,_,_,_,_,_,_,_,_,_,_,_,_,_,_,_,_,_,_,_,_,_,_,_,_,_,rfl,h.step (hb4) (i:=33) (F:=.lit (.bool true)) rfl (rfl),fun q => hx (by rw [← q];unfold upd;rw [if_neg (by decide)])⟩
  ·refine wpOp_step rfl ?_
   intro K9 hK
   have f30:=h.lit (i:=30) (u:=.bool true) (pred_spec ho hp (j:=30) (by kernel_rfl)) rfl rfl
   subst f30
   have f33:=h.lit (i:=33) (u:=.bool true) (pred_spec ho hp (j:=33) (by kernel_rfl)) rfl rfl
   subst f33
   go_simp
   exact hK _ _ ⟨_,_,_,_,_,_,_,_,_,_,_,_,_,_,_,_,_,_,_,_,_,_,_,_,_,_,_,_,_,_,_,_,_,_,_,_,rfl,h.step (Below.refl _ _) (i:=34) (F:=.lit (.bool true)) rfl (rfl),fun q => hx (by rw [← q];unfold upd;rw [if_neg (by decide)])⟩
  ·refine wpOp_step rfl ?_
   intro K9 hK
   have e0:=hx hL
   subst e0
   have f34:=h.lit (i:=34) (u:=.bool true) (pred_spec ho hp (j:=34) (by kernel_rfl)) rfl rfl
   subst f34
   go_simp
   exact hK _ _ ⟨_,_,_,_,_,_,_,_,_,_,_,_,_,_,_,_,_,_,_,_,_,_,_,_,_,_,_,_,_,_,_,_,_,_,_,_,rfl,h.step (Below.refl _ _) (i:=35) (F:=.lit (.bool true)) rfl (rfl),fun q => by simp [upd] at q⟩
 ·rintro L aa w' ⟨v0,v1,v2,v3,v4,v5,v6,v7,v8,v9,v10,v11,v12,v13,v14,v15,v16,v17,v18,v19,v20,v21,v22,v23,v24,v25,v26,v27,v28,v29,v30,v31,v32,v33,v34,v35,rfl,h,hx⟩ hall
  have e9:=h.lit (i:=35) (u:=.bool true) (hall 35 (by decide)) rfl rfl
  subst e9
  have hbb:=Lib.hid h.b
  clear h hall hx
  go_wp2
  go_ret
  exact ⟨rfl,HV.out.trans (hbb.out.mono HV.out.size)⟩
end Go.Proofs.YthdeijdimfjceaaGreatDoor
