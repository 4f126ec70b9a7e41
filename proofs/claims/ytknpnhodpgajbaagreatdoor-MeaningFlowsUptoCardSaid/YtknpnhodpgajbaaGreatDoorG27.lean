/- A part. -/
import Derived.Test.YtknpnhodpgajbaaGreatDoorG26
set_option maxHeartbeats 8000000
set_option maxRecDepth 100000
namespace Go.Proofs.YtknpnhodpgajbaaGreatDoor
open Go.RowKit
theorem Zzw (c:Con) (a1 a2 a3:Option Addr) (n1 n2 n3:Nat) (day fin:Int) (E:EvD) (w:World) (h:FlH c (.slice a1 c.ex.sub.length n1) (.slice a2 c.ds.length n2) (.slice a3 c.sub.length n3) E w) (hk:c.k=9) (hn : ¬ fin≤day) (hd0:0≤day) (hf1:fin≤100000) (hds:Zbi c.ds=true) (hA:c.ex.isA 2=true) (x:Con) (hl:c.sub=[x]) (Hx:PRL E x) (R:Int × List Fl) (hRR:R=andR (Zax (fun e=>c.ex.hold E.F e) day fin c.ds) [] fun q=>x.flows E.F E.C day q) :
  Calls Tryz.prog 48 #[.agg #[.int .u8 c.k,.string c.fr,.string c.rc,.string c.nm,.int .u8 c.ex.k,.string c.ex.ra,.string c.ex.nm,.int .i64 c.ex.d,.slice a1 c.ex.sub.length n1,.int .i64 c.d,.slice a2 c.ds.length n2,.slice a3 c.sub.length n3],.int .i64 day,.int .i64 fin,.agg #[.slice E.af E.F.length E.cf,.slice E.ac E.C.length E.cc]] w (RLP w R):=by
 have HRR:=Lh hRR;clear hRR;obtain ⟨W1,hW1,hb1,hB⟩:=Zb2 w c (.slice a1 c.ex.sub.length n1) (.slice a2 c.ds.length n2) (.slice a3 c.sub.length n3) E;have hH:=h.frame hb1;have hz1:=hb1.size;have HB:=Lh hB;have Hb1:=Lh hb1;have HH:=Lh hH;have hn2:decide (fin≤day)=false:=decide_eq_false hn;have HT:=Zja c a1 a2 a3 n1 n2 n3 day fin E W1 hH hA;have hbd0:=Ze0 (fun e=>c.ex.hold E.F e) day fin (by omega) c.ds
 rw [Zhu _ _ _ _ (Zp2 hds)] at HT;generalize Zax (fun e=>c.ex.hold E.F e) day fin c.ds=Q at *;rw [hk] at HT;simp only [Int.cast_ofNat_Int] at HT;have HT:=Lh HT;have hs0:(0:Int) < (c.sub.length:Int):=by rw [hl];simp
 have hm0:0 < c.sub.length:=by rw [hl];simp
 obtain ⟨b,off,rfl⟩:=(hH.rd.2.2.1).addr (by rw [hl];simp);obtain ⟨e1,e4,e2,e5,e3,e6,hrx,hbl,cX⟩:=(hH.rd.2.2.1).nth (j:=0) (x:=x) (by rw [hl];rfl) off (by omega);have HX:=Lh cX;have HKx:=Lh (hB.keep cX);obtain ⟨x0,x1,x2,x3,x4,x5,x6,x7,x8,x9,x10,x11,xv0,xv1⟩:=hB.all;rw [hk] at x0;simp only [Int.cast_ofNat_Int] at x0;clear h hn hds hA hk;by_cases h0:Q.1=0
 ·obtain ⟨q1,q2⟩:=hbd0 h0;have HC1:=Lh fun W (hb:Below W1.heap.size W1 W)=>Hx _ _ _ day Q.2 W ((hH.sub (by rw [hl];simp) hrx).frame hb) (by omega) (by omega)
  have HR:Hid (R=x.flows E.F E.C day Q.2):=by show _=_;rw [HRR.out];exact Zbo h0
  rw [h0] at HT;clear h0 q1 q2 hd0 hf1 Hx hrx cX hl hb1 hH HH hB hbd0 HRR;unfold RLP at HC1;generalize x.flows E.F E.C day Q.2=Rx at *;obtain ⟨lx,hlx⟩:∃ l,l=(Zaw [] Rx).2:=⟨_,rfl⟩
  obtain ⟨ex,hex⟩:∃ l,l=Rx.1:=⟨_,rfl⟩
  rw [← hlx,← hex] at HC1;have Hlx:=Lh hlx;have Hex:=Lh hex;clear hlx hex;generalize Q.2=qq at *;go_enter Tryz.func48,Tryz.ntmps48
  go_upto_region 1 with (fail);clear hW1;go_wp2_with fail;refine HT.out.mono ?_;rintro e w2 ⟨rfl,hb2⟩;have Hb12:=Lh hb2;have Hbz:=Lh (Hb1.out.trans (hb2.mono hz1));have hz2:=Hbz.out.size;have hd:Below W1.heap.size W1 w2.drew:=hb2.drew;have hbl2:b < w2.heap.size:=by have:=hb2.size;omega
  clear hb2 HT x0 x1 x2 x3 x4 x5 x6 x7 x8 x9 x10 x11 xv0 xv1;go_upto_region 60 with (fail);go_region_held3 (fun w'=>CBc w' w.heap.size c (.slice a1 c.ex.sub.length n1) (.slice a2 c.ds.length n2) (.slice (some ⟨b,off,none⟩) c.sub.length n3) E∧E12 w' b off x (.slice e1 x.ex.sub.length e4) (.slice e2 x.ds.length e5) (.slice e3 x.sub.length e6)) (first | exact HKx.out _ hbd | exact HKx.out _ hd | go_keep)
   (first | (go_at_call 48;refine (HC1.out _ hd).mono ?_;rintro e w3 ⟨v,rfl,⟨⟨ad1,cp1,rfl⟩,ho1⟩,hb2⟩;have hbd:=hd.trans (hb2.mono hd.size)))
  have HF:=Lh (RLP.of HR.out Hlx.out Hex.out ho1 (by show w.heap.size≤w2.drew.heap.size;exact hz2) (Hb1.out.trans (hbd.mono hz1)));clear HC1 ho1 hb2 hbd;go_wp2;go_ret2;exact HF.out
 ·have t1:(Q.1 != 0)=true:=by rw [bne_iff_ne];exact h0
  have HR:Hid (R=(Q.1,[])):=by show _=_;rw [HRR.out];exact Zcw h0
  have H0:=Lh h0;clear h0;clear hbd0 hl Hx hrx cX hb1 hH HH hB hd0 hf1;go_enter Tryz.func48,Tryz.ntmps48
  go_upto_region 1 with (fail);clear hW1;go_wp2_with fail;refine HT.out.mono ?_;rintro e w2 ⟨rfl,hb2⟩;have HF:=Lh (RLP.err HR.out H0.out (Hb1.out.trans (hb2.mono hz1)));clear HT hb2;go_wp2;go_ret2;exact HF.out
theorem Z19 (c:Con) (a1 a2 a3:Option Addr) (n1 n2 n3:Nat) (day fin:Int) (E:EvD) (w:World) (h:FlH c (.slice a1 c.ex.sub.length n1) (.slice a2 c.ds.length n2) (.slice a3 c.sub.length n3) E w) (hk:c.k=10) (hn : ¬ fin≤day) (hd0:0≤day) (hf1:fin≤100000) (hds:Zbi c.ds=true) (hA:c.ex.isA 2=true) (x:Con) (hl:c.sub=[x]) (Hx:PRL E x) (R:Int × List Fl) (hRR:R=andR (Zax (fun e=>c.ex.hold E.F e) day fin c.ds) [] fun q=>x.flows E.F E.C q fin) :
  Calls Tryz.prog 48 #[.agg #[.int .u8 c.k,.string c.fr,.string c.rc,.string c.nm,.int .u8 c.ex.k,.string c.ex.ra,.string c.ex.nm,.int .i64 c.ex.d,.slice a1 c.ex.sub.length n1,.int .i64 c.d,.slice a2 c.ds.length n2,.slice a3 c.sub.length n3],.int .i64 day,.int .i64 fin,.agg #[.slice E.af E.F.length E.cf,.slice E.ac E.C.length E.cc]] w (RLP w R):=by
 have HRR:=Lh hRR;clear hRR;obtain ⟨W1,hW1,hb1,hB⟩:=Zb2 w c (.slice a1 c.ex.sub.length n1) (.slice a2 c.ds.length n2) (.slice a3 c.sub.length n3) E;have hH:=h.frame hb1;have hz1:=hb1.size;have HB:=Lh hB;have Hb1:=Lh hb1;have HH:=Lh hH;have hn2:decide (fin≤day)=false:=decide_eq_false hn;have HT:=Zja c a1 a2 a3 n1 n2 n3 day fin E W1 hH hA;have hbd0:=Ze0 (fun e=>c.ex.hold E.F e) day fin (by omega) c.ds
 rw [Zhu _ _ _ _ (Zp2 hds)] at HT;generalize Zax (fun e=>c.ex.hold E.F e) day fin c.ds=Q at *;rw [hk] at HT;simp only [Int.cast_ofNat_Int] at HT;have HT:=Lh HT;have hs0:(0:Int) < (c.sub.length:Int):=by rw [hl];simp
 have hm0:0 < c.sub.length:=by rw [hl];simp
 obtain ⟨b,off,rfl⟩:=(hH.rd.2.2.1).addr (by rw [hl];simp);obtain ⟨e1,e4,e2,e5,e3,e6,hrx,hbl,cX⟩:=(hH.rd.2.2.1).nth (j:=0) (x:=x) (by rw [hl];rfl) off (by omega);have HX:=Lh cX;have HKx:=Lh (hB.keep cX);obtain ⟨x0,x1,x2,x3,x4,x5,x6,x7,x8,x9,x10,x11,xv0,xv1⟩:=hB.all;rw [hk] at x0;simp only [Int.cast_ofNat_Int] at x0;clear h hn hds hA hk;by_cases h0:Q.1=0
 ·obtain ⟨q1,q2⟩:=hbd0 h0;have HC1:=Lh fun W (hb:Below W1.heap.size W1 W)=>Hx _ _ _ Q.2 fin W ((hH.sub (by rw [hl];simp) hrx).frame hb) (by omega) (by omega)
  have HR:Hid (R=x.flows E.F E.C Q.2 fin):=by show _=_;rw [HRR.out];exact Zbo h0
  rw [h0] at HT;clear h0 q1 q2 hd0 hf1 Hx hrx cX hl hb1 hH HH hB hbd0 HRR;unfold RLP at HC1;generalize x.flows E.F E.C Q.2 fin=Rx at *;obtain ⟨lx,hlx⟩:∃ l,l=(Zaw [] Rx).2:=⟨_,rfl⟩
  obtain ⟨ex,hex⟩:∃ l,l=Rx.1:=⟨_,rfl⟩
  rw [← hlx,← hex] at HC1;have Hlx:=Lh hlx;have Hex:=Lh hex;clear hlx hex;generalize Q.2=qq at *;go_enter Tryz.func48,Tryz.ntmps48
  go_upto_region 1 with (fail);clear hW1;go_wp2_with fail;refine HT.out.mono ?_;rintro e w2 ⟨rfl,hb2⟩;have Hb12:=Lh hb2;have Hbz:=Lh (Hb1.out.trans (hb2.mono hz1));have hz2:=Hbz.out.size;have hd:Below W1.heap.size W1 w2.drew:=hb2.drew;have hbl2:b < w2.heap.size:=by have:=hb2.size;omega
  clear hb2 HT x0 x1 x2 x3 x4 x5 x6 x7 x8 x9 x10 x11 xv0 xv1;go_upto_region 66 with (fail);go_region_held3 (fun w'=>CBc w' w.heap.size c (.slice a1 c.ex.sub.length n1) (.slice a2 c.ds.length n2) (.slice (some ⟨b,off,none⟩) c.sub.length n3) E∧E12 w' b off x (.slice e1 x.ex.sub.length e4) (.slice e2 x.ds.length e5) (.slice e3 x.sub.length e6)) (first | exact HKx.out _ hbd | exact HKx.out _ hd | go_keep)
   (first | (go_at_call 48;refine (HC1.out _ hd).mono ?_;rintro e w3 ⟨v,rfl,⟨⟨ad1,cp1,rfl⟩,ho1⟩,hb2⟩;have hbd:=hd.trans (hb2.mono hd.size)))
  have HF:=Lh (RLP.of HR.out Hlx.out Hex.out ho1 (by show w.heap.size≤w2.drew.heap.size;exact hz2) (Hb1.out.trans (hbd.mono hz1)));clear HC1 ho1 hb2 hbd;go_wp2;go_ret2;exact HF.out
 ·have t1:(Q.1 != 0)=true:=by rw [bne_iff_ne];exact h0
  have HR:Hid (R=(Q.1,[])):=by show _=_;rw [HRR.out];exact Zcw h0
  have H0:=Lh h0;clear h0;clear hbd0 hl Hx hrx cX hb1 hH HH hB hd0 hf1;go_enter Tryz.func48,Tryz.ntmps48
  go_upto_region 1 with (fail);clear hW1;go_wp2_with fail;refine HT.out.mono ?_;rintro e w2 ⟨rfl,hb2⟩;have HF:=Lh (RLP.err HR.out H0.out (Hb1.out.trans (hb2.mono hz1)));clear HT hb2;go_wp2;go_ret2;exact HF.out
theorem Z17 (c:Con) (a1 a2 a3:Option Addr) (n1 n2 n3:Nat) (day fin:Int) (E:EvD) (w:World) (h:FlH c (.slice a1 c.ex.sub.length n1) (.slice a2 c.ds.length n2) (.slice a3 c.sub.length n3) E w) (hk:c.k=8) (hn : ¬ fin≤day) (hd0:0≤day) (hf1:fin≤100000) (hds:Zbi c.ds=true) (x:Con) (hl:c.sub=[x]) (Hx:PRL E x) (R:Int × List Fl) (hRR:R=x.flows E.F E.C (Zax (fun e=>(0,Za5 E.C c.fr c.nm e)) day fin c.ds).2 fin) :
  Calls Tryz.prog 48 #[.agg #[.int .u8 c.k,.string c.fr,.string c.rc,.string c.nm,.int .u8 c.ex.k,.string c.ex.ra,.string c.ex.nm,.int .i64 c.ex.d,.slice a1 c.ex.sub.length n1,.int .i64 c.d,.slice a2 c.ds.length n2,.slice a3 c.sub.length n3],.int .i64 day,.int .i64 fin,.agg #[.slice E.af E.F.length E.cf,.slice E.ac E.C.length E.cc]] w (RLP w R):=by
 have HRR:=Lh hRR;clear hRR;obtain ⟨W1,hW1,hb1,hB⟩:=Zb2 w c (.slice a1 c.ex.sub.length n1) (.slice a2 c.ds.length n2) (.slice a3 c.sub.length n3) E;have hH:=h.frame hb1;have hz1:=hb1.size;have HB:=Lh hB;have Hb1:=Lh hb1;have HH:=Lh hH;have hn2:decide (fin≤day)=false:=decide_eq_false hn;have HT:=fun W (hb:Below W1.heap.size W1 W)=>Zq1 c a1 a2 a3 n1 n2 n3 day fin E W (hH.frame hb)
 have hbd0:=Ze0 (fun e=>(0,Za5 E.C c.fr c.nm e)) day fin (by omega) c.ds (Zgn _ day fin c.ds);rw [Zhu _ _ _ _ (Zp2 hds)] at HT;generalize (Zax (fun e=>(0,Za5 E.C c.fr c.nm e)) day fin c.ds).2=q at *;have HT:=Lh HT;have hs0:(0:Int) < (c.sub.length:Int):=by rw [hl];simp
 have hm0:0 < c.sub.length:=by rw [hl];simp
 obtain ⟨b,off,rfl⟩:=(hH.rd.2.2.1).addr (by rw [hl];simp);obtain ⟨e1,e4,e2,e5,e3,e6,hrx,hbl,cX⟩:=(hH.rd.2.2.1).nth (j:=0) (x:=x) (by rw [hl];rfl) off (by omega);have HX:=Lh cX;have HKx:=Lh (hB.keep cX);obtain ⟨x0,-,-,-,-,-,-,-,-,-,-,-,xv0,xv1⟩:=hB.all;rw [hk] at x0;simp only [Int.cast_ofNat_Int] at x0;obtain ⟨q1,q2⟩:=hbd0;have HC1:=Lh fun W (hb:Below W1.heap.size W1 W)=>Hx _ _ _ q fin W ((hH.sub (by rw [hl];simp) hrx).frame hb) (by omega) hf1
 have HR:Hid (R=x.flows E.F E.C q fin):=HRR;clear h hn hds hk q1 q2 hd0 hf1 Hx hrx cX hl hb1 hH HH hB HRR;unfold RLP at HC1;generalize x.flows E.F E.C q fin=Rx at *;obtain ⟨lx,hlx⟩:∃ l,l=(Zaw [] Rx).2:=⟨_,rfl⟩
 obtain ⟨ex,hex⟩:∃ l,l=Rx.1:=⟨_,rfl⟩
 rw [← hlx,← hex] at HC1;have Hlx:=Lh hlx;have Hex:=Lh hex;clear hlx hex;have hd:Below W1.heap.size W1 W1.drew:=(Below.refl _ _).drew;go_enter Tryz.func48,Tryz.ntmps48
 go_upto_region 1 with (fail);clear hW1;go_upto_region 54 with (fail);go_region_held3 (fun w'=>CBc w' w.heap.size c (.slice a1 c.ex.sub.length n1) (.slice a2 c.ds.length n2) (.slice (some ⟨b,off,none⟩) c.sub.length n3) E∧E12 w' b off x (.slice e1 x.ex.sub.length e4) (.slice e2 x.ds.length e5) (.slice e3 x.sub.length e6)) (first | exact HKx.out _ hbd | exact HKx.out _ hbd1 | exact HKx.out _ hd | go_keep)
  (first | (go_at_call 105;refine (HT.out _ hd).mono ?_;rintro e w2 ⟨rfl,hb2⟩;have hbd1:=hd.trans (hb2.mono hd.size)) | (go_at_call 48;refine (HC1.out _ hbd1).mono ?_;rintro e w3 ⟨v,rfl,⟨⟨ad1,cp1,rfl⟩,ho1⟩,hb3⟩;have hbd:=hbd1.trans (hb3.mono hbd1.size)))
 have HF:=Lh (RLP.of HR.out Hlx.out Hex.out ho1 (by have:=hbd1.size;omega) (Hb1.out.trans (hbd.mono hz1)));clear HC1 HT ho1 hb2 hb3 hbd hbd1;go_wp2;go_ret2;exact HF.out
theorem Zvk {w:World} {B:Nat} {t:TypeId} {cs:List Value} (h:BoxN w B t cs) (hl:cs.length=12) (v0 v1 v2 v3 v4 v5 v6 v7 v8 v9 v10 v11:Value) :
  ∃ W,((((((((((((w.setCell ⟨B,0,none⟩ (v0)).setCell ⟨B,1,none⟩ (v1)).setCell ⟨B,2,none⟩ (v2)).setCell ⟨B,3,none⟩ (v3)).setCell ⟨B,4,none⟩ (v4)).setCell ⟨B,5,none⟩ (v5)).setCell ⟨B,6,none⟩ (v6)).setCell ⟨B,7,none⟩ (v7)).setCell ⟨B,8,none⟩ (v8)).setCell ⟨B,9,none⟩ (v9)).setCell ⟨B,10,none⟩ (v10)).setCell ⟨B,11,none⟩ (v11))=W∧(∀ B0,B0≤B→Below B0 w W)∧BoxN W B t [v0,v1,v2,v3,v4,v5,v6,v7,v8,v9,v10,v11]:=by
 obtain ⟨W,hW⟩:∃ W,((((((((((((w.setCell ⟨B,0,none⟩ (v0)).setCell ⟨B,1,none⟩ (v1)).setCell ⟨B,2,none⟩ (v2)).setCell ⟨B,3,none⟩ (v3)).setCell ⟨B,4,none⟩ (v4)).setCell ⟨B,5,none⟩ (v5)).setCell ⟨B,6,none⟩ (v6)).setCell ⟨B,7,none⟩ (v7)).setCell ⟨B,8,none⟩ (v8)).setCell ⟨B,9,none⟩ (v9)).setCell ⟨B,10,none⟩ (v10)).setCell ⟨B,11,none⟩ (v11))=W:=⟨_,rfl⟩
 refine ⟨W,hW,fun B0 hB=>?_,?_⟩
 ·rw [← hW];repeat (refine Below.setCell ?_ (p:=⟨B,_,none⟩) hB _)
  exact Below.refl B0 w
 ·match cs,hl with
  | [a0,a1,a2,a3,a4,a5,a6,a7,a8,a9,a10,a11],_ =>
   rw [← hW];exact ((((((((((((h.set 0 v0).set 1 v1).set 2 v2).set 3 v3).set 4 v4).set 5 v5).set 6 v6).set 7 v7).set 8 v8).set 9 v9).set 10 v10).set 11 v11)
theorem Zxa (w:World):(w.alloc (.cells #[] 52)).ownsRow w.heap.size 52 5 (.slice (some ⟨w.heap.size,0,none⟩) 0 0) 0 []:=⟨rfl,.inr ⟨w.heap.size,0,_,rfl,Nat.le_refl _,BoxN.new w [] 52,Nat.le_refl _,by decide,rfl,rfl⟩⟩
theorem Z3p (c:Con) (a1 a2 a3:Option Addr) (n1 n2 n3:Nat) (day fin:Int) (E:EvD) (w:World) (h:FlH c (.slice a1 c.ex.sub.length n1) (.slice a2 c.ds.length n2) (.slice a3 c.sub.length n3) E w) (hk:c.k=5) (hn : ¬ fin≤day) (hd0:0≤day) (hf1:fin≤100000) (hA:c.ex.isA 2=true) (x y:Con) (hl:c.sub=[x,y]) (Hx:PRL E x) (Hy:PRL E y) (R:Int × List Fl) (hRR:R=andR (c.ex.hold E.F day) [] fun b=>if b=true then x.flows E.F E.C day fin else y.flows E.F E.C day fin) :
  Calls Tryz.prog 48 #[.agg #[.int .u8 c.k,.string c.fr,.string c.rc,.string c.nm,.int .u8 c.ex.k,.string c.ex.ra,.string c.ex.nm,.int .i64 c.ex.d,.slice a1 c.ex.sub.length n1,.int .i64 c.d,.slice a2 c.ds.length n2,.slice a3 c.sub.length n3],.int .i64 day,.int .i64 fin,.agg #[.slice E.af E.F.length E.cf,.slice E.ac E.C.length E.cc]] w (RLP w R):=by
 have HRR:=Lh hRR;clear hRR;obtain ⟨W1,hW1,hb1,hB⟩:=Zb2 w c (.slice a1 c.ex.sub.length n1) (.slice a2 c.ds.length n2) (.slice a3 c.sub.length n3) E;have hH:=h.frame hb1;have hz1:=hb1.size;have HB:=Lh hB;have Hb1:=Lh hb1;have HH:=Lh hH;have hn2:decide (fin≤day)=false:=decide_eq_false hn;have HC0:=Lh (show Calls Tryz.prog 103 #[.agg #[.int .u8 c.ex.k,.string c.ex.ra,.string c.ex.nm,.int .i64 c.ex.d,.slice a1 c.ex.sub.length n1],.int .i64 day,.agg #[.slice E.af E.F.length E.cf,.slice E.ac E.C.length E.cc]] W1 fun e w'=>e = .returned (.tuple #[.bool (Zaw false (c.ex.hold E.F day)).2,.int .i64 (c.ex.hold E.F day).1])∧Below W1.heap.size W1 w' from ((Zge E day (Zel hH.ok) c.ex.bulk c.ex (Nat.le_refl _)).2 (Zg1 hA).2) W1 _ hH.e hH.rd.1 hH.rd.2.2.2.2)
 have hs0:(0:Int) < (c.sub.length:Int):=by rw [hl];simp
 have hs1:(1:Int) < (c.sub.length:Int):=by rw [hl];simp
 have hm0:0 < c.sub.length:=by rw [hl];simp
 have hm1:1 < c.sub.length:=by rw [hl];simp
 obtain ⟨b,off,rfl⟩:=(hH.rd.2.2.1).addr (by rw [hl];simp);obtain ⟨e1,e4,e2,e5,e3,e6,hrx,hbl,cX⟩:=(hH.rd.2.2.1).nth (j:=0) (x:=x) (by rw [hl];rfl) off (by omega);have HX:=Lh cX;have HKx:=Lh (hB.keep cX);obtain ⟨f1,f4,f2,f5,f3,f6,hry,_,cY⟩:=(hH.rd.2.2.1).nth (j:=1) (x:=y) (by rw [hl];rfl) (off+12) (by omega);have HY:=Lh cY;have HKy:=Lh (hB.keep cY);have HC1:=Lh fun W (hb:Below W1.heap.size W1 W)=>Hx _ _ _ day fin W ((hH.sub (by rw [hl];simp) hrx).frame hb) hd0 hf1
 have HC2:=Lh fun W (hb:Below W1.heap.size W1 W)=>Hy _ _ _ day fin W ((hH.sub (by rw [hl];simp) hry).frame hb) hd0 hf1
 obtain ⟨x0,-,-,-,x4,x5,x6,x7,x8,-,-,x11,xv0,xv1⟩:=hB.all;rw [hk] at x0;simp only [Int.cast_ofNat_Int] at x0;clear h hn hd0 hf1 hA hk Hx Hy hrx hry cX cY hl hB hH HH hb1;generalize c.ex.hold E.F day=Rv at *;unfold RLP at HC1 HC2;generalize x.flows E.F E.C day fin=Rx at *;generalize y.flows E.F E.C day fin=Ry at *;by_cases h0:Rv.1=0
 ·rw [Zbv h0,h0] at HC0;have HR:Hid (R=if Rv.2=true then Rx else Ry):=by show _=_;rw [HRR.out];exact Zbo h0
  clear h0 HRR;go_enter Tryz.func48,Tryz.ntmps48
  go_upto_region 1 with (fail);clear hW1;go_wp2_with fail;refine HC0.out.mono ?_;rintro e w2 ⟨rfl,hb2⟩;have Hb12:=Lh hb2;have Hbz:=Lh (Hb1.out.trans (hb2.mono hz1));have hB2:=HB.out.below hb2;have hlx:=hB2.c.lt;have hlv:=hB2.v.lt;have hbl2:b < w2.heap.size:=by have:=hb2.size;omega
  clear hb2 HC0 x0 x4 x5 x6 x7 x8 x11 xv0 xv1;obtain ⟨-,-,-,-,-,-,-,-,-,-,-,x11,xv0,xv1⟩:=hB2.all;obtain ⟨d0,d1,d2,d3,d4,d5,d6,d7,d8,d9,d10,d11⟩:=HX.out w2 Hb12.out;obtain ⟨g0,g1,g2,g3,g4,g5,g6,g7,g8,g9,g10,g11⟩:=HY.out w2 Hb12.out;clear hB2
  cases hv:Rv.2 with
  | false =>
   have HR2:Hid (R=Ry):=by show _=_;rw [HR.out,hv];rfl
   clear hv HR;have hbx:=Zac w2 (.cells #[.int .u8 y.k,.string y.fr,.string y.rc,.string y.nm,.int .u8 y.ex.k,.string y.ex.ra,.string y.ex.nm,.int .i64 y.ex.d,.slice f1 y.ex.sub.length f4,.int .i64 y.d,.slice f2 y.ds.length f5,.slice f3 y.sub.length f6] 29);have HC:=Lh (HC2.out _ (Hb12.out.trans (hbx.mono Hb12.out.size)));have Hbx:=Lh (Hbz.out.trans (hbx.mono Hbz.out.size));clear hbx HC1 HC2;go_wp2_with fail
   refine HC.out.mono ?_;rintro e w4 ⟨v,rfl,ho,hb4⟩;have HF:Hid (RLP w R (.returned (.tuple #[v,.int .i64 Ry.1])) w4):=by rw [HR2.out];exact ⟨v,rfl,ho.at Hbx.out.size,Hbx.out.trans (hb4.mono Hbx.out.size)⟩
   obtain ⟨⟨ad1,cp1,rfl⟩,_⟩:=ho;clear HC hb4;go_wp2;go_ret2;exact HF.out
  | true =>
   have HR2:Hid (R=Rx):=by show _=_;rw [HR.out,hv];rfl
   clear hv HR;have hbx:=Zac w2 (.cells #[.int .u8 x.k,.string x.fr,.string x.rc,.string x.nm,.int .u8 x.ex.k,.string x.ex.ra,.string x.ex.nm,.int .i64 x.ex.d,.slice e1 x.ex.sub.length e4,.int .i64 x.d,.slice e2 x.ds.length e5,.slice e3 x.sub.length e6] 29);have HC:=Lh (HC1.out _ (Hb12.out.trans (hbx.mono Hb12.out.size)));have Hbx:=Lh (Hbz.out.trans (hbx.mono Hbz.out.size));clear hbx HC1 HC2;go_wp2_with fail
   refine HC.out.mono ?_;rintro e w4 ⟨v,rfl,ho,hb4⟩;have HF:Hid (RLP w R (.returned (.tuple #[v,.int .i64 Rx.1])) w4):=by rw [HR2.out];exact ⟨v,rfl,ho.at Hbx.out.size,Hbx.out.trans (hb4.mono Hbx.out.size)⟩
   obtain ⟨⟨ad1,cp1,rfl⟩,_⟩:=ho;clear HC hb4;go_wp2;go_ret2;exact HF.out
 ·have t1:(Rv.1 != 0)=true:=by rw [bne_iff_ne];exact h0
  have HR:Hid (R=(Rv.1,[])):=by show _=_;rw [HRR.out];exact Zcw h0
  have H0:=Lh h0;clear h0;clear HC1 HC2;go_enter Tryz.func48,Tryz.ntmps48
  go_upto_region 1 with (fail);clear hW1;go_wp2_with fail;refine HC0.out.mono ?_;rintro e w2 ⟨rfl,hb2⟩;have HF:=Lh (RLP.err HR.out H0.out (Hb1.out.trans (hb2.mono hz1)));clear HC0 hb2;go_wp2;go_ret2;exact HF.out
theorem Z18 (c:Con) (a1 a2 a3:Option Addr) (n1 n2 n3:Nat) (day fin:Int) (E:EvD) (w:World) (h:FlH c (.slice a1 c.ex.sub.length n1) (.slice a2 c.ds.length n2) (.slice a3 c.sub.length n3) E w) (hk:c.k=7) (hn : ¬ fin≤day) (hd0:0≤day) (hf1:fin≤100000) (x y:Con) (hl:c.sub=[x,y]) (Hx:PRL E x) (Hy:PRL E y) (R:Int × List Fl) (hRR:R=if Za5 E.C c.fr c.nm day=true then x.flows E.F E.C day fin else y.flows E.F E.C day fin) :
  Calls Tryz.prog 48 #[.agg #[.int .u8 c.k,.string c.fr,.string c.rc,.string c.nm,.int .u8 c.ex.k,.string c.ex.ra,.string c.ex.nm,.int .i64 c.ex.d,.slice a1 c.ex.sub.length n1,.int .i64 c.d,.slice a2 c.ds.length n2,.slice a3 c.sub.length n3],.int .i64 day,.int .i64 fin,.agg #[.slice E.af E.F.length E.cf,.slice E.ac E.C.length E.cc]] w (RLP w R):=by
 have HRR:=Lh hRR;clear hRR;obtain ⟨W1,hW1,hb1,hB⟩:=Zb2 w c (.slice a1 c.ex.sub.length n1) (.slice a2 c.ds.length n2) (.slice a3 c.sub.length n3) E;have hH:=h.frame hb1;have hz1:=hb1.size;have HB:=Lh hB;have Hb1:=Lh hb1;have HH:=Lh hH;have hn2:decide (fin≤day)=false:=decide_eq_false hn;have hs0:(0:Int) < (c.sub.length:Int):=by rw [hl];simp
 have hs1:(1:Int) < (c.sub.length:Int):=by rw [hl];simp
 have hm0:0 < c.sub.length:=by rw [hl];simp
 have hm1:1 < c.sub.length:=by rw [hl];simp
 obtain ⟨b,off,rfl⟩:=(hH.rd.2.2.1).addr (by rw [hl];simp);obtain ⟨e1,e4,e2,e5,e3,e6,hrx,hbl,cX⟩:=(hH.rd.2.2.1).nth (j:=0) (x:=x) (by rw [hl];rfl) off (by omega);have HX:=Lh cX;have HKx:=Lh (hB.keep cX);obtain ⟨f1,f4,f2,f5,f3,f6,hry,_,cY⟩:=(hH.rd.2.2.1).nth (j:=1) (x:=y) (by rw [hl];rfl) (off+12) (by omega);have HY:=Lh cY;have HKy:=Lh (hB.keep cY);have HC1:=Lh fun W (hb:Below W1.heap.size W1 W)=>Hx _ _ _ day fin W ((hH.sub (by rw [hl];simp) hrx).frame hb) hd0 hf1
 have HC2:=Lh fun W (hb:Below W1.heap.size W1 W)=>Hy _ _ _ day fin W ((hH.sub (by rw [hl];simp) hry).frame hb) hd0 hf1
 obtain ⟨x0,x1,-,x3,-,-,-,-,-,-,-,x11,xv0,xv1⟩:=hB.all;rw [hk] at x0;simp only [Int.cast_ofNat_Int] at x0;obtain ⟨g0,g1,g2,g3,g4,g5,g6,g7,g8,g9,g10,g11⟩:=HY.out W1 (Below.refl _ _);obtain ⟨W2,hW2⟩:∃ W,W1.alloc (.cells #[.int .u8 y.k,.string y.fr,.string y.rc,.string y.nm,.int .u8 y.ex.k,.string y.ex.ra,.string y.ex.nm,.int .i64 y.ex.d,.slice f1 y.ex.sub.length f4,.int .i64 y.d,.slice f2 y.ds.length f5,.slice f3 y.sub.length f6] 29)=W:=⟨_,rfl⟩
 have hb2:Below W1.heap.size W1 W2:=by rw [← hW2];exact Zac _ _
 have bx:BoxN W2 W1.heap.size 29 [.int .u8 y.k,.string y.fr,.string y.rc,.string y.nm,.int .u8 y.ex.k,.string y.ex.ra,.string y.ex.nm,.int .i64 y.ex.d,.slice f1 y.ex.sub.length f4,.int .i64 y.d,.slice f2 y.ds.length f5,.slice f3 y.sub.length f6]:=by rw [← hW2];exact BoxN.new _ _ _
 have HC0:=Lh (Zi9 (hH.frame hb2).e c.fr c.nm day);have Hb2:=Lh hb2;have hlx:=hB.c.lt;have hlv:=hB.v.lt;have hB2:=HB.out.below hb2;obtain ⟨-,y1,-,y3,-,-,-,-,-,-,-,-,yv0,yv1⟩:=hB2.all;clear hB2;clear h hn hd0 hf1 hk Hx Hy hrx hry cX cY hl hB hH HH hb1 hb2;unfold RLP at HC1 HC2;generalize x.flows E.F E.C day fin=Rx at *;generalize y.flows E.F E.C day fin=Ry at *;have HR:Hid (R=if Za5 E.C c.fr c.nm day=true then Rx else Ry):=HRR
 clear HRR;generalize Za5 E.C c.fr c.nm day=bv at *;go_enter Tryz.func48,Tryz.ntmps48
 go_upto_region 1 with (fail);clear hW1;go_upto_region 49 with (fail);clear hW2 g0 g1 g2 g3 g4 g5 g6 g7 g8 g9 g10 g11;go_wp2_with fail;refine HC0.out.mono ?_;rintro e w3 ⟨rfl,hb3⟩;have bx3:=bx.below hb3 bx.lt;have hb13:=Hb2.out.trans (hb3.mono Hb2.out.size);have Hb13:=Lh hb13;have hB3:=HB.out.below hb13;obtain ⟨-,-,-,-,-,-,-,-,-,-,-,p11,pv0,pv1⟩:=hB3.all;have hlx3:=hB3.c.lt;have hlv3:=hB3.v.lt;have hbl3:b < w3.heap.size:=by have:=hb13.size;omega
 clear hB3 x0 x1 x3 x11 xv0 xv1 y1 y3 yv0 yv1 HC0 hb3 bx hb13;obtain ⟨d0,d1,d2,d3,d4,d5,d6,d7,d8,d9,d10,d11⟩:=HX.out w3 Hb13.out;have hlz:=bx3.lt
 cases bv
 ·have HR2:Hid (R=Ry):=HR.out;clear HR;obtain ⟨q0,q1,q2,q3,q4,q5,q6,q7,q8,q9,q10,q11⟩:=Zvj bx3;have HC:=Lh (HC2.out w3 Hb13.out);have Hbx:=Lh (Hb1.out.trans (Hb13.out.mono hz1));clear HC1 HC2 bx3 d0 d1 d2 d3 d4 d5 d6 d7 d8 d9 d10 d11;go_wp2_with fail;refine HC.out.mono ?_;rintro e w4 ⟨v,rfl,ho,hb4⟩;have HF:Hid (RLP w R (.returned (.tuple #[v,.int .i64 Ry.1])) w4):=by rw [HR2.out];exact ⟨v,rfl,ho.at Hbx.out.size,Hbx.out.trans (hb4.mono Hbx.out.size)⟩
  obtain ⟨⟨ad1,cp1,rfl⟩,_⟩:=ho;clear HC hb4;go_wp2;go_ret2;exact HF.out
 ·have HR2:Hid (R=Rx):=HR.out;clear HR;obtain ⟨W4,hW4,hb4,bx4⟩:=Zvk bx3 rfl (.int .u8 x.k) (.string x.fr) (.string x.rc) (.string x.nm) (.int .u8 x.ex.k) (.string x.ex.ra) (.string x.ex.nm) (.int .i64 x.ex.d) (.slice e1 x.ex.sub.length e4) (.int .i64 x.d) (.slice e2 x.ds.length e5) (.slice e3 x.sub.length e6);have hb14:=Hb13.out.trans ((hb4 W1.heap.size (Nat.le_refl _)));obtain ⟨z0,z1,z2,z3,z4,z5,z6,z7,z8,z9,z10,z11⟩:=Z2z bx3
  obtain ⟨o0,o1,o2,o3,o4,o5,o6,o7,o8,o9,o10,o11⟩:=Zvj bx3;obtain ⟨q0,q1,q2,q3,q4,q5,q6,q7,q8,q9,q10,q11⟩:=Zvj bx4;have HC:=Lh (HC1.out W4 hb14);have hB4:=HB.out.below hb14;obtain ⟨-,-,-,-,-,-,-,-,-,-,-,-,sv0,sv1⟩:=hB4.all;have Hbx:=Lh (Hb1.out.trans (hb14.mono hz1));clear HC1 HC2 bx3 bx4 hB4 hb4 hb14;go_upto_region 51 with (fail);clear hW4 z0 d0 o0 z1 d1 o1 z2 d2 o2 z3 d3 o3 z4 d4 o4 z5 d5 o5 z6 d6 o6 z7 d7 o7 z8 d8 o8 z9 d9 o9 z10 d10 o10 z11 d11 o11
  go_wp2_with fail;refine HC.out.mono ?_;rintro e w5 ⟨v,rfl,ho,hb5⟩;have HF:Hid (RLP w R (.returned (.tuple #[v,.int .i64 Rx.1])) w5):=by rw [HR2.out];exact ⟨v,rfl,ho.at Hbx.out.size,Hbx.out.trans (hb5.mono Hbx.out.size)⟩
  obtain ⟨⟨ad1,cp1,rfl⟩,_⟩:=ho;clear HC hb5;go_wp2;go_ret2;exact HF.out
theorem Z16 (c:Con) (a1 a2 a3:Option Addr) (n1 n2 n3:Nat) (day fin:Int) (E:EvD) (w:World) (h:FlH c (.slice a1 c.ex.sub.length n1) (.slice a2 c.ds.length n2) (.slice a3 c.sub.length n3) E w) (hk:c.k=3) (hn : ¬ fin≤day) (hd0:0≤day) (hf1:fin≤100000) (x y:Con) (hl:c.sub=[x,y]) (Hx:PRL E x) (Hy:PRL E y) (hlen:(x.flows E.F E.C day fin).2.length+(y.flows E.F E.C day fin).2.length≤10000000) (R:Int × List Fl) (hRR:R=andR (x.flows E.F E.C day fin) [] fun a=>andR (y.flows E.F E.C day fin) [] fun b=>(0,a ++ b)) :
  Calls Tryz.prog 48 #[.agg #[.int .u8 c.k,.string c.fr,.string c.rc,.string c.nm,.int .u8 c.ex.k,.string c.ex.ra,.string c.ex.nm,.int .i64 c.ex.d,.slice a1 c.ex.sub.length n1,.int .i64 c.d,.slice a2 c.ds.length n2,.slice a3 c.sub.length n3],.int .i64 day,.int .i64 fin,.agg #[.slice E.af E.F.length E.cf,.slice E.ac E.C.length E.cc]] w (RLP w R):=by
 have HRR:=Lh hRR;clear hRR;obtain ⟨W1,hW1,hb1,hB⟩:=Zb2 w c (.slice a1 c.ex.sub.length n1) (.slice a2 c.ds.length n2) (.slice a3 c.sub.length n3) E;have hH:=h.frame hb1;have hz1:=hb1.size;have HB:=Lh hB;have Hb1:=Lh hb1;have HH:=Lh hH;have hn2:decide (fin≤day)=false:=decide_eq_false hn;have hs0:(0:Int) < (c.sub.length:Int):=by rw [hl];simp
 have hs1:(1:Int) < (c.sub.length:Int):=by rw [hl];simp
 have hm0:0 < c.sub.length:=by rw [hl];simp
 have hm1:1 < c.sub.length:=by rw [hl];simp
 obtain ⟨b,off,rfl⟩:=(hH.rd.2.2.1).addr (by rw [hl];simp);obtain ⟨e1,e4,e2,e5,e3,e6,hrx,hbl,cX⟩:=(hH.rd.2.2.1).nth (j:=0) (x:=x) (by rw [hl];rfl) off (by omega);have HX:=Lh cX;have HKx:=Lh (hB.keep cX);obtain ⟨f1,f4,f2,f5,f3,f6,hry,_,cY⟩:=(hH.rd.2.2.1).nth (j:=1) (x:=y) (by rw [hl];rfl) (off+12) (by omega);have HY:=Lh cY;have HKy:=Lh (hB.keep cY);have HC1:=Lh fun W (hb:Below W1.heap.size W1 W)=>Hx _ _ _ day fin W ((hH.sub (by rw [hl];simp) hrx).frame hb) hd0 hf1
 have HC2:=Lh fun W (hb:Below W1.heap.size W1 W)=>Hy _ _ _ day fin W ((hH.sub (by rw [hl];simp) hry).frame hb) hd0 hf1
 obtain ⟨x0,-,-,-,-,-,-,-,-,-,-,-,xv0,xv1⟩:=hB.all;rw [hk] at x0;simp only [Int.cast_ofNat_Int] at x0;clear h hn hd0 hf1 hk Hx Hy hrx hry cX cY hl hB hH HH hb1;unfold RLP at HC1;generalize x.flows E.F E.C day fin=Rx at *;obtain ⟨lx,hlx⟩:∃ l,l=(Zaw [] Rx).2:=⟨_,rfl⟩
 obtain ⟨ex,hex⟩:∃ l,l=Rx.1:=⟨_,rfl⟩
 rw [← hlx,← hex] at HC1;have Hlx:=Lh hlx;have Hex:=Lh hex;clear hlx hex;unfold RLP at HC2;generalize y.flows E.F E.C day fin=Ry at *;obtain ⟨ly,hly⟩:∃ l,l=(Zaw [] Ry).2:=⟨_,rfl⟩
 obtain ⟨ey,hey⟩:∃ l,l=Ry.1:=⟨_,rfl⟩
 rw [← hly,← hey] at HC2;have Hly:=Lh hly;have Hey:=Lh hey;clear hly hey;have HLn:=Lh hlen;clear hlen;have hd:Below W1.heap.size W1 W1.drew:=(Below.refl _ _).drew;go_enter Tryz.func48,Tryz.ntmps48
 go_upto_region 1 with (fail);clear hW1;go_upto_region 10 with (fail);go_region_held3 (fun w'=>CBc w' w.heap.size c (.slice a1 c.ex.sub.length n1) (.slice a2 c.ds.length n2) (.slice (some ⟨b,off,none⟩) c.sub.length n3) E∧E12 w' b off x (.slice e1 x.ex.sub.length e4) (.slice e2 x.ds.length e5) (.slice e3 x.sub.length e6)) (first | exact HKx.out _ hbd | exact HKx.out _ hd | go_keep)
  (first | (go_at_call 48;refine (HC1.out _ hd).mono ?_;rintro e w2 ⟨v,rfl,⟨⟨ad1,cp1,rfl⟩,ho1⟩,hb2⟩;have hbd:=hd.trans (hb2.mono hd.size)))
 have Hb12:=Lh hbd;have Hbz:=Lh (Hb1.out.trans (hbd.mono hz1));have hbl2:b < w2.heap.size:=by have:=hbd.size;omega
 have HO1:Hid (w2.ownsRow w.heap.size 52 5 (.slice ad1 lx.length cp1) lx.length (lx.flatMap Fl.cells)):=Zat ho1 hz1;clear HC1 ho1 hb2 hbd hd x0 xv0 xv1;by_cases h0:ex=0
 ·subst h0;have hd:Below W1.heap.size W1 w2.drew:=Hb12.out.drew;go_upto_region 13 with (fail);go_region_held3 (fun w'=>CBc w' w.heap.size c (.slice a1 c.ex.sub.length n1) (.slice a2 c.ds.length n2) (.slice (some ⟨b,off,none⟩) c.sub.length n3) E∧E12 w' b (off+12) y (.slice f1 y.ex.sub.length f4) (.slice f2 y.ds.length f5) (.slice f3 y.sub.length f6)) (first | exact HKy.out _ hbd | exact HKy.out _ hd | go_keep)
   (first | (go_at_call 48;refine (HC2.out _ hd).mono ?_;rintro e w3 ⟨v,rfl,⟨⟨ad2,cp2,rfl⟩,ho2⟩,hb2⟩;have hbd:=hd.trans (hb2.mono hd.size)))
  have hb23:Below w2.heap.size w2 w3:=(Below.refl _ _).drew.trans hb2;have Hb3:=Lh (Hb1.out.trans (hbd.mono hz1));have HO3:Hid (w3.ownsRow w.heap.size 52 5 (.slice ad1 lx.length cp1) lx.length (lx.flatMap Fl.cells)):=Zag HO1.out hb23;have HO2:Hid (w3.ownsRow w.heap.size 52 5 (.slice ad2 ly.length cp2) ly.length (ly.flatMap Fl.cells)):=Zat ho2 (by show w.heap.size≤w2.drew.heap.size;exact Hbz.out.size)
  clear HC2 ho2 hb2 hbd hb23 hd HO1;by_cases h1:ey=0
  ·subst h1;have E1:Hid (lx=Rx.2):=by show _=_;rw [Hlx.out,Zbv Hex.out.symm]
   have E2:Hid (ly=Ry.2):=by show _=_;rw [Hly.out,Zbv Hey.out.symm]
   have HR:Hid (R=(0,lx ++ ly)):=by show _=_;rw [HRR.out,Zbo Hex.out.symm,Zbo Hey.out.symm,E1.out,E2.out]
   have hln:lx.length+ly.length≤10000000:=by rw [E1.out,E2.out];exact HLn.out
   have hba:=Zac w3 (.cells #[] 52);have HE:=Lh (Zxa w3);have HO4:=Lh (Zag HO3.out hba);have Hba:=Lh hba;have hz3:=Hb3.out.size;clear E1 E2 Hlx Hly Hex Hey HLn HRR HO3 hba;go_wp2_with (at_builtin;refine Zdb rfl (.tmp 101) (.tmp 102) rfl w3.heap.size w.heap.size _ _ [] lx rfl HE.out rfl HO4.out (by simp;omega) (by simp) ?_);intro v4 w4 ho4 hb4;obtain ⟨ad4,cp4,rfl⟩:=Zcr ho4;have HB4:Hid (Below w3.heap.size w3 w4):=Hba.out.trans hb4
   have HO5:=Lh (Zag HO2.out HB4.out);have HO6:=Lh ho4;have hz4:=HB4.out.size;clear ho4 hb4 HE HO4 HO2 Hba;go_wp2_with (at_builtin;refine Zdb rfl (.tmp 103) (.tmp 104) rfl w3.heap.size w.heap.size _ _ lx ly rfl HO6.out rfl HO5.out hln hz4 ?_);intro v5 w5 ho5 hb5;obtain ⟨ad5,cp5,rfl⟩:=Zcr ho5;have HF:Hid (RLP w R (.returned (.tuple #[.slice ad5 (lx.length+ly.length) cp5,.int .i64 0])) w5):=by
    rw [HR.out];refine ⟨_,rfl,?_,Hb3.out.trans ((HB4.out.trans hb5).mono hz3)⟩;show Zfw w w5 (lx ++ ly) _;unfold Zfw;rw [List.length_append,List.flatMap_append];exact ⟨⟨_,_,rfl⟩,Zat ho5 hz3⟩
   clear ho5 hb5 HO5 HO6 HB4 HR;go_wp2;go_ret2;exact HF.out
  ·have t1:(ey != 0)=true:=by rw [bne_iff_ne];exact h1
   have HR:Hid (R=(ey,[])):=by show _=_;rw [HRR.out,Zbo Hex.out.symm,Zcw (by rw [← Hey.out];exact h1),← Hey.out]
   have HF:=Lh (RLP.err HR.out h1 Hb3.out);clear h1 HO3 HO2;go_wp2;go_ret2;exact HF.out
 ·have t1:(ex != 0)=true:=by rw [bne_iff_ne];exact h0
  have HR:Hid (R=(ex,[])):=by show _=_;rw [HRR.out,Zcw (by rw [← Hex.out];exact h0),← Hex.out]
  have HF:=Lh (RLP.err HR.out h0 Hbz.out);clear h0 HO1 HC2;go_wp2;go_ret2;exact HF.out
theorem Ext.stepg {w0 w w2:World} {m N:Nat} {ad:Option Addr} (hb:Below w.heap.size w w2) (hg:m=0∨∃ g,ad=some ⟨g,0,none⟩∧w.heap.size≤g) (hz:N < w0.heap.size) (h:Ext w0 w) :
  Ext w0 w2∧(m=0∨∃ g,ad=some ⟨g,0,none⟩∧N < g) :=
 ⟨Below.trans h (hb.mono (Below.size h)),hg.imp id fun ⟨g,e,hh⟩=>⟨g,e,by have:=Below.size h;omega⟩⟩
def Zjv (w:World) (fs:List Fx) (cs:List Ch) (e:Ending) (w':World):Prop :=
 ∃ a1 c1 a2 c2,e = .returned (.agg #[.slice a1 fs.length c1,.slice a2 cs.length c2])∧Sl w' (.slice a1 fs.length c1) 3 fs.length (fs.flatMap Fx.cells)∧Sl w' (.slice a2 cs.length c2) 4 cs.length (cs.flatMap Ch.cells)∧Below w.heap.size w w' ∧
  (fs.length=0∨∃ g,a1=some ⟨g,0,none⟩∧w.heap.size+1 < g)∧(cs.length=0∨∃ g,a2=some ⟨g,0,none⟩∧w.heap.size+1 < g)
theorem Zx3 (fs:List Fx) (cs:List Ch) (af ac:Option Addr) (cf cc:Nat) (w:World) (hn:fs.length≤1100000) (hm:cs.length≤1100000)
  (hf:Sl w (.slice af fs.length cf) 3 fs.length (fs.flatMap Fx.cells)) (hc:Sl w (.slice ac cs.length cc) 4 cs.length (cs.flatMap Ch.cells)) (haf:af=none→cf=0) (hac:ac=none→cc=0) :
  Calls Tryz.prog 11 #[.agg #[.slice af fs.length cf,.slice ac cs.length cc]] w (Zjv w fs cs):=by
 obtain ⟨i0,hi0,hz0,hs0,hb0⟩:=info_parts Zqm;obtain ⟨i1,hi1,hz1,hs1,hb1⟩:=info_parts Zql;have Hf:=Lh hf;have Hc:=Lh hc;have Naf:=Lh haf;have Nac:=Lh hac;clear hf hc haf hac;go_enter Tryz.func11,Tryz.ntmps11
 go_wp2;obtain ⟨W0,hW0⟩:∃ W0,W0=((w.alloc (.cells #[.slice af fs.length cf,.slice ac cs.length cc] 33)).alloc (.cells #[.slice none 0 0,.slice none 0 0] 33)):=⟨_,rfl⟩
 rw [← hW0];have b0:Zai W0 w.heap.size 33 (.slice af fs.length cf) (.slice ac cs.length cc):=by rw [hW0];exact (Zai.new _ _ _ _).alloc _
 have b1:Zai W0 (w.heap.size+1) 33 (.slice none 0 0) (.slice none 0 0):=by
  rw [hW0];have h:=Zai.new (w.alloc (.cells #[.slice af fs.length cf,.slice ac cs.length cc] 33)) (.slice none 0 0) (.slice none 0 0) 33;simp at h
  exact h
 have hbl:Below w.heap.size w W0:=by rw [hW0];exact Zaz _ _ _
 have hz:w.heap.size+1 < W0.heap.size:=b1.lt;clear hW0;have k0:=b0.cell0;have k1:=b0.cell1;have r0:=b1.cell0;have r1:=b1.cell1;have z0:=b1.frozen 0;have z1:=b1.frozen 1;have B1:=Lh b1;clear b0 b1;go_region_held3 (fun w'=>Below w.heap.size w w'∧w'.cell? ⟨w.heap.size,0,none⟩=some (.slice af fs.length cf)∧w'.cell? ⟨w.heap.size,1,none⟩=some (.slice ac cs.length cc))
  (first | assumption | exact ⟨by assumption,by assumption,by assumption⟩ | (refine ⟨?_,?_⟩;(first | exact hbl.drew | exact Below.alloc (And.left (by assumption)) (Below.size (And.left (by assumption))) _ | exact Zds (And.left (by assumption)) (by omega) _ _ | exact Zds (by assumption) (by omega) _ _);(first | go_keep | (refine ⟨?_,?_⟩ <;> (rw [World.cell?_setCell_far _ _ _ _ (by show w.heap.size+1 ≠ w.heap.size;omega),World.cell?_setCell_far _ _ _ _ (by show w.heap.size+1 ≠ w.heap.size;omega)];assumption)))))
  (first | (refine Zfi rfl (.tmp 3) (.tmp 5) 30 rfl 94 i0 _ 3 40 Zu1 hi0 hz0 hs0 hb0 (by decide) _ af fs.length cf (fs.flatMap Fx.cells) rfl rfl ?_ Naf.out (by omega) (by omega) ?_;(exact Hf.out.below (And.left (by assumption)));intro ad2 cap2 w2 hsl2 hg2 hbb2;have hxx2:Ext W0 w2∧(fs.length=0∨∃ g,ad2=some ⟨g,0,none⟩∧w.heap.size+1 < g):=(by refine Ext.stepg hbb2 hg2 hz ?_;unfold Ext;repeat (first | exact hx2 | exact Below.refl _ _ | refine Below.drew ?_ | refine Below.alloc ?_ (by first | exact Nat.le_refl _ | exact Below.size hx2 | simp) _));have hx2:=hxx2.1;have qb2:Below w.heap.size w w2:=Below.trans (And.left (by assumption)) (hbb2.mono (Below.size (And.left (by assumption))));have qa2:w2.cell? ⟨w.heap.size,0,none⟩=some (.slice af fs.length cf):=Ext.cell hx2 k0;have qc2:w2.cell? ⟨w.heap.size,1,none⟩=some (.slice ac cs.length cc):=Ext.cell hx2 k1) | (refine Zfi rfl (.tmp 7) (.tmp 9) 31 rfl 67 i1 _ 4 48 Zu0 hi1 hz1 hs1 hb1 (by decide) _ ac cs.length cc (cs.flatMap Ch.cells) rfl rfl ?_ Nac.out (by omega) (by omega) ?_;(exact Hc.out.below (And.left (by assumption)));intro ad3 cap3 w3 hsl3 hg3 hbb3;have hxx3:Ext W0 w3∧(cs.length=0∨∃ g,ad3=some ⟨g,0,none⟩∧w.heap.size+1 < g):=(by refine Ext.stepg hbb3 hg3 hz ?_;unfold Ext;repeat (first | exact hx2 | exact Below.refl _ _ | refine Below.drew ?_ | refine Below.alloc ?_ (by first | exact Nat.le_refl _ | exact Below.size hx2 | simp) _));have hx3:=hxx3.1;have qb3:Below w.heap.size w w3:=Below.trans (And.left (by assumption)) (hbb3.mono (Below.size (And.left (by assumption))));have qa3:w3.cell? ⟨w.heap.size,0,none⟩=some (.slice af fs.length cf):=Ext.cell hx3 k0;have qc3:w3.cell? ⟨w.heap.size,1,none⟩=some (.slice ac cs.length cc):=Ext.cell hx3 k1;have r3:=Ext.cell hx3 r0;have r4:=Ext.cell hx3 r1;have z3:w3.frozen? ⟨w.heap.size+1,0,none⟩=false:=(hx3.below.frozen (p:=⟨w.heap.size+1,0,none⟩) hz).trans z0;have z4:w3.frozen? ⟨w.heap.size+1,1,none⟩=false:=(hx3.below.frozen (p:=⟨w.heap.size+1,1,none⟩) hz).trans z1))
 all_goals
  go_wp2;have HS:=Lh ((B1.out.below hx3).store (.slice ad2 fs.length cap2) (.slice ad3 cs.length cap3));have s2:Sl w3 (.slice ad2 fs.length cap2) 3 fs.length (fs.flatMap Fx.cells):=by first | exact hsl2.below hbb3 | exact (hsl2.below ((Below.refl _ _).alloc (Nat.le_refl _) _)).below hbb3
  have HP:Hid (Zjv w fs cs (.returned (.agg #[.slice ad2 fs.length cap2,.slice ad3 cs.length cap3])) ((w3.setCell ⟨w.heap.size+1,0,none⟩ (.slice ad2 fs.length cap2)).setCell ⟨w.heap.size+1,1,none⟩ (.slice ad3 cs.length cap3))) :=
   ⟨ad2,cap2,ad3,cap3,rfl,s2.stored hxx2.2 _ _,hsl3.stored hxx3.2 _ _,Zds qb3 (by omega) _ _,hxx2.2,hxx3.2⟩
  obtain ⟨W3,hW3⟩:∃ W3,W3=(w3.setCell ⟨w.heap.size+1,0,none⟩ (.slice ad2 fs.length cap2)).setCell ⟨w.heap.size+1,1,none⟩ (.slice ad3 cs.length cap3):=⟨_,rfl⟩
  rw [← hW3];rw [← hW3] at HS HP;refine bodyPost_ret (v:=.agg #[.slice ad2 fs.length cap2,.slice ad3 cs.length cap3]) (by simp [results,Tryz.results11,go_sem,HS.out.cell0,HS.out.cell1]) rfl HP.out
def KpF (N M:Nat) (R:World→Prop) (w:World):Prop:=M≤w.heap.size∧∀ w2:World,w.heap.size≤w2.heap.size→(∀ k,N≤k→k < M→w2.heap[k]? = w.heap[k]?)→R w2
section
variable {N M B:Nat} {R:World→Prop} {w w':World}
theorem KpF.rd (h:KpF N M R w):R w:=h.2 w (Nat.le_refl _) fun _ _ _=>rfl
theorem KpF.below (h:KpF N M R w) (hb:Below w.heap.size w w'):KpF N M R w' :=
 ⟨Nat.le_trans h.1 hb.size,fun w2 h1 h2=>h.2 w2 (Nat.le_trans hb.size h1) fun k k1 k2=>(h2 k k1 k2).trans (hb.block k (Nat.lt_of_lt_of_le k2 h.1))⟩
theorem KpF.far (h:KpF N M R w) (hs:w.heap.size≤w'.heap.size) (hf:∀ k,k ≠ B→w'.heap[k]? = w.heap[k]?) (hB:B < N∨M≤B):KpF N M R w' :=
 ⟨Nat.le_trans h.1 hs,fun w2 h1 h2=>h.2 w2 (Nat.le_trans hs h1) fun k k1 k2=>(h2 k k1 k2).trans (hf k (by omega))⟩
theorem KpF.of_keep (h:Keep none N w R):KpF N w.heap.size R w:=⟨Nat.le_refl _,fun w2 h1 h2=>h w2 h1 fun k k1 k2 _=>h2 k k1 k2⟩
end
theorem Zyk {w:World} {B:Nat} {t:TypeId} {a b:Value} (h:BoxN w B t [a,b]) (x y:Value) :
  ∃ W,(w.setCell ⟨B,0,none⟩ x).setCell ⟨B,1,none⟩ y=W∧(∀ B0,B0≤B→Below B0 w W)∧BoxN W B t [x,y]:=by
 refine ⟨_,rfl,fun B0 hB=>((Below.refl B0 w).setCell (p:=⟨B,0,none⟩) hB _).setCell (p:=⟨B,1,none⟩) hB _,?_⟩;have h:=h.set 0 x;simp only [List.set] at h;have h:=h.set 1 y;simp only [List.set] at h;exact h
theorem far2 {w:World} {B:Nat} {x y:Value}:∀ k,k ≠ B→((w.setCell ⟨B,0,none⟩ x).setCell ⟨B,1,none⟩ y).heap[k]? = w.heap[k]?:=fun _ hk =>
 (Below.heap_setCell _ _ _ _ hk).trans (Below.heap_setCell _ _ _ _ hk)
theorem Z3k {w:World} {B:Nat} {v0 v1 v2 v3 v4 v5 v6 v7 v8 v9 v10 v11:Value}:∀ k,k ≠ B→((((((((((((w.setCell ⟨B,0,none⟩ v0).setCell ⟨B,1,none⟩ v1).setCell ⟨B,2,none⟩ v2).setCell ⟨B,3,none⟩ v3).setCell ⟨B,4,none⟩ v4).setCell ⟨B,5,none⟩ v5).setCell ⟨B,6,none⟩ v6).setCell ⟨B,7,none⟩ v7).setCell ⟨B,8,none⟩ v8).setCell ⟨B,9,none⟩ v9).setCell ⟨B,10,none⟩ v10).setCell ⟨B,11,none⟩ v11).heap[k]? = w.heap[k]?:=fun _ hk =>
 (Below.heap_setCell _ _ _ _ hk).trans ((Below.heap_setCell _ _ _ _ hk).trans ((Below.heap_setCell _ _ _ _ hk).trans ((Below.heap_setCell _ _ _ _ hk).trans ((Below.heap_setCell _ _ _ _ hk).trans ((Below.heap_setCell _ _ _ _ hk).trans ((Below.heap_setCell _ _ _ _ hk).trans ((Below.heap_setCell _ _ _ _ hk).trans ((Below.heap_setCell _ _ _ _ hk).trans ((Below.heap_setCell _ _ _ _ hk).trans ((Below.heap_setCell _ _ _ _ hk).trans ((Below.heap_setCell _ _ _ _ hk))))))))))))
def czL:List Value:=[.int .u8 0,.string ⟨#[]⟩,.string ⟨#[]⟩,.string ⟨#[]⟩,.int .u8 0,.string ⟨#[]⟩,.string ⟨#[]⟩,.int .i64 0,.slice none 0 0,.int .i64 0,.slice none 0 0,.slice none 0 0]
def ezL:List Value:=[.slice none 0 0,.slice none 0 0]
theorem Z2i {c:Con} {a b d a' b' d':Value} (h:c.val a b d=c.val a' b' d'):a=a'∧b=b'∧d=d':=by
 unfold Con.val at h;simp only [Value.agg.injEq,Array.mk.injEq,List.cons.injEq] at h;exact ⟨h.2.2.2.2.2.2.2.2.1,h.2.2.2.2.2.2.2.2.2.2.1,h.2.2.2.2.2.2.2.2.2.2.2.1⟩
structure MI (V:World) (c:Con) (E:EvD) (cv ev:Value) (L:Nat→Bool) (v0 v1 v2 v3 v4 v5:Value) (w:World):Prop where
 b:Below V.heap.size V w
 l0:L 0=true→v0=cv
 l2:L 2=true→v2=ev
 k1:L 1=true→∃ (s:Value × Value × Value) (N M:Nat),v1=c.val s.1 s.2.1 s.2.2∧Zpz s∧V.heap.size≤N∧KpF N M (conR (c,s)) w∧(L 4=true→∀ B,v4 = .pointer (some ⟨B,0,none⟩)→B < N∨M≤B)∧(L 5=true→∀ B,v5 = .pointer (some ⟨B,0,none⟩)→B < N∨M≤B)
 k3:L 3=true→∃ (a1 a2:Option Addr) (c1 c2 N M:Nat),v3 = .agg #[.slice a1 E.F.length c1,.slice a2 E.C.length c2]∧V.heap.size≤N∧KpF N M (fun W=>EvD.Rd ⟨E.F,E.C,a1,a2,c1,c2⟩ W) w∧(L 4=true→∀ B,v4 = .pointer (some ⟨B,0,none⟩)→B < N∨M≤B)∧(L 5=true→∀ B,v5 = .pointer (some ⟨B,0,none⟩)→B < N∨M≤B)
 b4:L 4=true→∃ B,v4 = .pointer (some ⟨B,0,none⟩)∧V.heap.size≤B∧B < w.heap.size∧(L 6=false→BoxN w B 29 czL)∧(L 6=true→∀ s:Value × Value × Value,v1=c.val s.1 s.2.1 s.2.2→BoxN w B 29 (c.cells s.1 s.2.1 s.2.2))
 b5:L 5=true→∃ B,v5 = .pointer (some ⟨B,0,none⟩)∧V.heap.size≤B∧B < w.heap.size∧(L 7=false→BoxN w B 33 ezL)∧(L 7=true→∀ (a1 a2:Option Addr) (c1 c2:Nat),v3 = .agg #[.slice a1 E.F.length c1,.slice a2 E.C.length c2]→BoxN w B 33 [.slice a1 E.F.length c1,.slice a2 E.C.length c2])
 ne:L 4=true→L 5=true→v4 ≠ v5
section
variable {V w w':World} {c:Con} {E:EvD} {cv ev v0 v1 v2 v3 v4 v5:Value} {L:Nat→Bool}
theorem Zsz {L:Nat→Bool} {i j:Nat} (h:j ≠ i):upd L i j=L j:=if_neg h
theorem Z0w {L:Nat→Bool} {i:Nat}:upd L i i=true:=if_pos rfl
theorem MI.start (hb:Below V.heap.size V w):MI V c E cv ev (fun _=>false) v0 v1 v2 v3 v4 v5 w:=⟨hb,fun h=>(by cases h),fun h=>(by cases h),fun h=>(by cases h),fun h=>(by cases h),fun h=>(by cases h),fun h=>(by cases h),fun h=>(by cases h)⟩
theorem MI.move (h:MI V c E cv ev L v0 v1 v2 v3 v4 v5 w) (hb:Below w.heap.size w w'):MI V c E cv ev L v0 v1 v2 v3 v4 v5 w':=by
 refine ⟨h.b.trans (hb.mono h.b.size),h.l0,h.l2,fun k=>?_,fun k=>?_,fun k=>?_,fun k=>?_,h.ne⟩
 ·obtain ⟨s,N,M,e,hs,hN,hK,ho⟩:=h.k1 k;exact ⟨s,N,M,e,hs,hN,hK.below hb,ho⟩
 ·obtain ⟨a1,a2,c1,c2,N,M,e,hN,hK,ho⟩:=h.k3 k;exact ⟨a1,a2,c1,c2,N,M,e,hN,hK.below hb,ho⟩
 ·obtain ⟨B,e,hB,hl,h1,h2⟩:=h.b4 k;exact ⟨B,e,hB,Nat.lt_of_lt_of_le hl hb.size,fun q=>(h1 q).below hb hl,fun q s e=>(h2 q s e).below hb hl⟩
 ·obtain ⟨B,e,hB,hl,h1,h2⟩:=h.b5 k;exact ⟨B,e,hB,Nat.lt_of_lt_of_le hl hb.size,fun q=>(h1 q).below hb hl,fun q s1 s2 s3 s4 e=>(h2 q s1 s2 s3 s4 e).below hb hl⟩
theorem MI.u0 (h:MI V c E cv ev L v0 v1 v2 v3 v4 v5 w):MI V c E cv ev (upd L 0) cv v1 v2 v3 v4 v5 w :=
 ⟨h.b,fun _=>rfl,h.l2,h.k1,h.k3,h.b4,h.b5,h.ne⟩
theorem MI.u2 (h:MI V c E cv ev L v0 v1 v2 v3 v4 v5 w):MI V c E cv ev (upd L 2) v0 v1 ev v3 v4 v5 w :=
 ⟨h.b,h.l0,fun _=>rfl,h.k1,h.k3,h.b4,h.b5,h.ne⟩
theorem MI.u1 (h:MI V c E cv ev L v0 v1 v2 v3 v4 v5 w) (h6:L 6=false) (hb:Below w.heap.size w w') {s:Value × Value × Value} (hs:Zpz s) (hk:Keep none w.heap.size w' (conR (c,s))):MI V c E cv ev (upd L 1) v0 (c.val s.1 s.2.1 s.2.2) v2 v3 v4 v5 w':=by
 have m:=h.move hb;refine ⟨m.b,m.l0,m.l2,fun _=>⟨s,w.heap.size,w'.heap.size,rfl,hs,h.b.size,KpF.of_keep hk,fun k B e=>?_,fun k B e=>?_⟩,m.k3,fun k=>?_,m.b5,m.ne⟩
 ·obtain ⟨B',e',_,hl,_⟩:=h.b4 k;rw [e] at e'
  cases e'
  exact .inl hl
 ·obtain ⟨B',e',_,hl,_⟩:=h.b5 k;rw [e] at e'
  cases e'
  exact .inl hl
 ·obtain ⟨B,e,hB,hl,h1,_⟩:=m.b4 k;exact ⟨B,e,hB,hl,h1,fun q=>by rw [Zsz (by decide),h6] at q;cases q⟩
theorem MI.u3 (h:MI V c E cv ev L v0 v1 v2 v3 v4 v5 w) (h7:L 7=false) (hb:Below w.heap.size w w') {a1 a2:Option Addr} {c1 c2:Nat} (hk:Keep none w.heap.size w' (fun W=>EvD.Rd ⟨E.F,E.C,a1,a2,c1,c2⟩ W)):MI V c E cv ev (upd L 3) v0 v1 v2 (.agg #[.slice a1 E.F.length c1,.slice a2 E.C.length c2]) v4 v5 w':=by
 have m:=h.move hb;refine ⟨m.b,m.l0,m.l2,m.k1,fun _=>⟨a1,a2,c1,c2,w.heap.size,w'.heap.size,rfl,h.b.size,KpF.of_keep hk,fun k B e=>?_,fun k B e=>?_⟩,m.b4,fun k=>?_,m.ne⟩
 ·obtain ⟨B',e',_,hl,_⟩:=h.b4 k;rw [e] at e'
  cases e'
  exact .inl hl
 ·obtain ⟨B',e',_,hl,_⟩:=h.b5 k;rw [e] at e'
  cases e'
  exact .inl hl
 ·obtain ⟨B,e,hB,hl,h1,_⟩:=m.b5 k;exact ⟨B,e,hB,hl,h1,fun q=>by rw [Zsz (by decide),h7] at q;cases q⟩
theorem MI.u4 (h:MI V c E cv ev L v0 v1 v2 v3 v4 v5 w) (h6:L 6=false):MI V c E cv ev (upd L 4) v0 v1 v2 v3 (.pointer (some ⟨w.heap.size,0,none⟩)) v5 (w.alloc (.cells czL.toArray 29)):=by
 have hb:=Zac w (.cells czL.toArray 29);have m:=h.move hb;refine ⟨m.b,m.l0,m.l2,fun k=>?_,fun k=>?_,fun _=>⟨_,rfl,h.b.size,by rw [World.size_alloc];omega,fun _=>BoxN.new _ _ _,fun q=>by rw [Zsz (by decide),h6] at q;cases q⟩,m.b5,fun _ k e=>?_⟩
 ·obtain ⟨s,N,M,e,hs,hN,hK,_,ho⟩:=h.k1 k;have hM:=hK.1;exact ⟨s,N,M,e,hs,hN,hK.below hb,fun _ B e=>by cases e;exact .inr hM,ho⟩
 ·obtain ⟨a1,a2,c1,c2,N,M,e,hN,hK,_,ho⟩:=h.k3 k;have hM:=hK.1;exact ⟨a1,a2,c1,c2,N,M,e,hN,hK.below hb,fun _ B e=>by cases e;exact .inr hM,ho⟩
 ·obtain ⟨B,e',_,hl,_⟩:=h.b5 k;rw [e'] at e
  cases e
  omega
theorem MI.u5 (h:MI V c E cv ev L v0 v1 v2 v3 v4 v5 w) (h7:L 7=false):MI V c E cv ev (upd L 5) v0 v1 v2 v3 v4 (.pointer (some ⟨w.heap.size,0,none⟩)) (w.alloc (.cells ezL.toArray 33)):=by
 have hb:=Zac w (.cells ezL.toArray 33);have m:=h.move hb;refine ⟨m.b,m.l0,m.l2,fun k=>?_,fun k=>?_,m.b4,fun _=>⟨_,rfl,h.b.size,by rw [World.size_alloc];omega,fun _=>BoxN.new _ _ _,fun q=>by rw [Zsz (by decide),h7] at q;cases q⟩,fun k _ e=>?_⟩
 ·obtain ⟨s,N,M,e,hs,hN,hK,ho,_⟩:=h.k1 k;have hM:=hK.1;exact ⟨s,N,M,e,hs,hN,hK.below hb,ho,fun _ B e=>by cases e;exact .inr hM⟩
 ·obtain ⟨a1,a2,c1,c2,N,M,e,hN,hK,ho,_⟩:=h.k3 k;have hM:=hK.1;exact ⟨a1,a2,c1,c2,N,M,e,hN,hK.below hb,ho,fun _ B e=>by cases e;exact .inr hM⟩
 ·obtain ⟨B,e',_,hl,_⟩:=h.b4 k;rw [e'] at e
  cases e
  omega
theorem MI.u6 (h:MI V c E cv ev L v0 v1 v2 v3 v4 v5 w) (h4:L 4=true) {B:Nat} {s:Value × Value × Value} (e4:v4 = .pointer (some ⟨B,0,none⟩)) (e1:v1=c.val s.1 s.2.1 s.2.2) (hB:V.heap.size≤B) (hp:∀ B0,B0≤B→Below B0 w w') (hf:∀ k,k ≠ B→w'.heap[k]? = w.heap[k]?) (hx:BoxN w' B 29 (c.cells s.1 s.2.1 s.2.2)) :
  MI V c E cv ev (upd L 6) v0 v1 v2 v3 v4 v5 w':=by
 have hs:=(hp 0 (Nat.zero_le _)).size;refine ⟨h.b.trans (hp _ hB),h.l0,h.l2,fun k=>?_,fun k=>?_,fun _=>⟨B,e4,hB,hx.lt,fun q=>(by rw [Z0w] at q;cases q),fun _ s' e'=>?_⟩,fun k=>?_,h.ne⟩
 ·obtain ⟨s,N,M,e,h1,hN,hK,o4,o5⟩:=h.k1 k;exact ⟨s,N,M,e,h1,hN,hK.far hs hf (o4 h4 B e4),o4,o5⟩
 ·obtain ⟨a1,a2,c1,c2,N,M,e,hN,hK,o4,o5⟩:=h.k3 k;exact ⟨a1,a2,c1,c2,N,M,e,hN,hK.far hs hf (o4 h4 B e4),o4,o5⟩
 ·obtain ⟨x1,x2,x3⟩:=Z2i (e1.symm.trans e');obtain ⟨s1,s2,s3⟩:=s;obtain ⟨t1,t2,t3⟩:=s'
  cases x1;cases x2;cases x3
  exact hx
 ·obtain ⟨B5,e5,hB5,hl,b1,b2⟩:=h.b5 k;have hne:B5 ≠ B:=fun q=>h.ne h4 k (by rw [e4,e5,q])
  exact ⟨B5,e5,hB5,Nat.lt_of_lt_of_le hl hs,fun q=>(b1 q).of_block (hf _ hne),fun q s1 s2 s3 s4 e=>(b2 q s1 s2 s3 s4 e).of_block (hf _ hne)⟩
theorem MI.u7 (h:MI V c E cv ev L v0 v1 v2 v3 v4 v5 w) (h5:L 5=true) {B:Nat} {a1 a2:Option Addr} {c1 c2:Nat} (e5:v5 = .pointer (some ⟨B,0,none⟩)) (e3:v3 = .agg #[.slice a1 E.F.length c1,.slice a2 E.C.length c2]) (hB:V.heap.size≤B) (hp:∀ B0,B0≤B→Below B0 w w') (hf:∀ k,k ≠ B→w'.heap[k]? = w.heap[k]?) (hx:BoxN w' B 33 [.slice a1 E.F.length c1,.slice a2 E.C.length c2]) :
  MI V c E cv ev (upd L 7) v0 v1 v2 v3 v4 v5 w':=by
 have hs:=(hp 0 (Nat.zero_le _)).size;refine ⟨h.b.trans (hp _ hB),h.l0,h.l2,fun k=>?_,fun k=>?_,fun k=>?_,fun _=>⟨B,e5,hB,hx.lt,fun q=>(by rw [Z0w] at q;cases q),fun _ s1 s2 s3 s4 e'=>?_⟩,h.ne⟩
 ·obtain ⟨s,N,M,e,h1,hN,hK,o4,o5⟩:=h.k1 k;exact ⟨s,N,M,e,h1,hN,hK.far hs hf (o5 h5 B e5),o4,o5⟩
 ·obtain ⟨a1,a2,c1,c2,N,M,e,hN,hK,o4,o5⟩:=h.k3 k;exact ⟨a1,a2,c1,c2,N,M,e,hN,hK.far hs hf (o5 h5 B e5),o4,o5⟩
 ·obtain ⟨B4,e4,hB4,hl,b1,b2⟩:=h.b4 k;have hne:B4 ≠ B:=fun q=>h.ne k h5 (by rw [e4,e5,q])
  exact ⟨B4,e4,hB4,Nat.lt_of_lt_of_le hl hs,fun q=>(b1 q).of_block (hf _ hne),fun q s e=>(b2 q s e).of_block (hf _ hne)⟩
 ·have e:=e3.symm.trans e';simp only [Value.agg.injEq,Array.mk.injEq,List.cons.injEq,Value.slice.injEq] at e;obtain ⟨⟨rfl,_,rfl⟩,⟨rfl,_,rfl⟩,_⟩:=e;exact hx
theorem MI.fin (h:MI V c E cv ev L v0 v1 v2 v3 v4 v5 w) (hL:∀ j,j < 8→L j=true):∃ (s:Value × Value × Value) (a1 a2:Option Addr) (c1 c2 B4 B5:Nat),v4 = .pointer (some ⟨B4,0,none⟩)∧v5 = .pointer (some ⟨B5,0,none⟩)∧Zpz s∧RdN w c s.1 s.2.1 s.2.2∧EvD.Rd ⟨E.F,E.C,a1,a2,c1,c2⟩ w∧BoxN w B4 29 (c.cells s.1 s.2.1 s.2.2)∧BoxN w B5 33 [.slice a1 E.F.length c1,.slice a2 E.C.length c2]∧Below V.heap.size V w:=by
 obtain ⟨s,N,M,e1,hs,_,hK,_⟩:=h.k1 (hL 1 (by decide));obtain ⟨a1,a2,c1,c2,N2,M2,e3,_,hK3,_⟩:=h.k3 (hL 3 (by decide));obtain ⟨B4,e4,_,_,_,b4⟩:=h.b4 (hL 4 (by decide));obtain ⟨B5,e5,_,_,_,b5⟩:=h.b5 (hL 5 (by decide));exact ⟨s,a1,a2,c1,c2,B4,B5,e4,e5,hs,hK.rd,hK3.rd,b4 (hL 6 (by decide)) s e1,b5 (hL 7 (by decide)) a1 a2 c1 c2 e3,h.b⟩
end
theorem Zsu {w w2:World} {ad:Option Addr} {n c m:Nat} {xs:List Value} (h:Sl w (.slice ad n c) m n xs) (hg:n=0∨∃ g,ad=some ⟨g,0,none⟩∧w2.heap[g]? = w.heap[g]?):Sl w2 (.slice ad n c) m n xs:=by
 obtain ⟨ad',c',e,h1,h2,h3⟩:=h;obtain ⟨rfl,_,rfl⟩:=Value.slice.inj e;refine ⟨_,_,rfl,h1,h2,?_⟩;rcases hg with h0 | ⟨g,e1,hg⟩
 ·exact .inl h0
 ·rcases h3 with h3 | ⟨b,off,e2,h3⟩
  ·exact .inl h3
  ·rw [e1] at e2;obtain ⟨rfl,rfl⟩:g=b∧0=off:=by simpa using e2
   exact .inr ⟨g,0,e1,fun j u hj=>by rw [← h3 j u hj];unfold World.cell?;rw [hg]⟩
theorem Zx4 {E:EvD} {w w':World} {e:Ending} (hn:E.F.length≤1100000) (hm:E.C.length≤1100000) (h:Zjv w E.F E.C e w'):∃ a1 c1 a2 c2,e = .returned (.agg #[.slice a1 E.F.length c1,.slice a2 E.C.length c2])∧Keep none w.heap.size w' (fun W=>EvD.Rd ⟨E.F,E.C,a1,a2,c1,c2⟩ W)∧Below w.heap.size w w':=by
 obtain ⟨a1,c1,a2,c2,e,s1,s2,hb,g1,g2⟩:=h;refine ⟨a1,c1,a2,c2,e,fun w2 hs hk=>?_,hb⟩;have hlt:∀ {n m:Nat} {ad:Option Addr} {c:Nat} {xs:List Value},0 < m→Sl w' (.slice ad n c) m n xs→(n=0∨∃ g,ad=some ⟨g,0,none⟩∧w.heap.size+1 < g)→(n=0∨∃ g,ad=some ⟨g,0,none⟩∧w2.heap[g]? = w'.heap[g]?):=by
  intro n m ad c xs hm0 hsl hg;rcases hg with h0 | ⟨g,e1,hg⟩
  ·exact .inl h0
  ·rcases Nat.eq_zero_or_pos n with h0 | h0
   ·exact .inl h0
   ·refine .inr ⟨g,e1,hk g (by omega) ?_ (by intro q;cases q)⟩;obtain ⟨ad',c',e,_,h2,h3⟩:=hsl;obtain ⟨rfl,_,rfl⟩:=Value.slice.inj e;rcases h3 with h3 | ⟨b,off,e2,h3⟩
    ·omega
    ·rw [e1] at e2;obtain ⟨rfl,rfl⟩:g=b∧0=off:=by simpa using e2
     have hx:0 < xs.length:=by rw [h2];exact Nat.mul_pos h0 hm0
     exact World.block_lt_of_cell? w' _ (h3 0 _ (List.getElem?_eq_getElem hx))
 exact ⟨Rd.of_sl (enc:=Fx.cells) (m:=3) (fun _=>rfl) (by decide) (Zsu s1 (hlt (by decide) s1 g1)),Rd.of_sl (enc:=Ch.cells) (m:=4) (fun _=>rfl) (by decide) (Zsu s2 (hlt (by decide) s2 g2)),hn,hm⟩
end Go.Proofs.YtknpnhodpgajbaaGreatDoor
