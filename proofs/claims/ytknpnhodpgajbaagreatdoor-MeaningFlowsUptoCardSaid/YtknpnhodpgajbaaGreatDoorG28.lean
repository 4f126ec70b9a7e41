/- A part. -/
import Derived.Test.YtknpnhodpgajbaaGreatDoorG27
import Derived.Deep.CutRange
set_option maxHeartbeats 8000000
set_option maxRecDepth 100000
namespace Go.Proofs.YtknpnhodpgajbaaGreatDoor
open Go.RowKit
theorem Zzv (c:Con) (a1 a2 a3:Option Addr) (n1 n2 n3:Nat) (day fin:Int) (E:EvD) (w:World) (h:FlH c (.slice a1 c.ex.sub.length n1) (.slice a2 c.ds.length n2) (.slice a3 c.sub.length n3) E w) (hk:c.k=4) (hn : ¬ fin≤day) (hd0:0≤day) (hf1:fin≤100000) (hA:c.ex.isA 1=true) (x:Con) (hl:c.sub=[x]) (Hx:PRL E x) (hlen:(x.flows E.F E.C day fin).2.length≤1100000) (hsm:amS (x.flows E.F E.C day fin).2) (R:Int × List Fl) (hRR:R=andR (c.ex.value E.F day) [] fun a=>andR (x.flows E.F E.C day fin) [] fun l=>Za0 a l) :
  Calls Tryz.prog 48 #[.agg #[.int .u8 c.k,.string c.fr,.string c.rc,.string c.nm,.int .u8 c.ex.k,.string c.ex.ra,.string c.ex.nm,.int .i64 c.ex.d,.slice a1 c.ex.sub.length n1,.int .i64 c.d,.slice a2 c.ds.length n2,.slice a3 c.sub.length n3],.int .i64 day,.int .i64 fin,.agg #[.slice E.af E.F.length E.cf,.slice E.ac E.C.length E.cc]] w (RLP w R):=by
 have HRR:=Lh hRR;clear hRR;obtain ⟨W1,hW1,hb1,hB⟩:=Zb2 w c (.slice a1 c.ex.sub.length n1) (.slice a2 c.ds.length n2) (.slice a3 c.sub.length n3) E;have hH:=h.frame hb1;have hz1:=hb1.size;have HB:=Lh hB;have Hb1:=Lh hb1;have HH:=Lh hH;have hn2:decide (fin≤day)=false:=decide_eq_false hn;have HC0:=Lh (show Calls Tryz.prog 100 #[.agg #[.int .u8 c.ex.k,.string c.ex.ra,.string c.ex.nm,.int .i64 c.ex.d,.slice a1 c.ex.sub.length n1],.int .i64 day,.agg #[.slice E.af E.F.length E.cf,.slice E.ac E.C.length E.cc]] W1 fun e w'=>e = .returned (.tuple #[.string (Zaw ByteArray.empty (c.ex.value E.F day)).2,.int .i64 (c.ex.value E.F day).1])∧Below W1.heap.size W1 w' from ((Zge E day (Zel hH.ok) c.ex.bulk c.ex (Nat.le_refl _)).1 (Zg1 hA).2) W1 _ hH.e hH.rd.1 hH.rd.2.2.2.2)
 have HO:Hid ((c.ex.value E.F day).1=0→Zah (c.ex.value E.F day).2=0):=Zet (Zel hH.ok) day _ c.ex (Nat.le_refl _) (Zg1 hA).2;have hs0:(0:Int) < (c.sub.length:Int):=by rw [hl];simp
 have hm0:0 < c.sub.length:=by rw [hl];simp
 obtain ⟨b,off,rfl⟩:=(hH.rd.2.2.1).addr (by rw [hl];simp);obtain ⟨e1,e4,e2,e5,e3,e6,hrx,hbl,cX⟩:=(hH.rd.2.2.1).nth (j:=0) (x:=x) (by rw [hl];rfl) off (by omega);have HX:=Lh cX;have HKx:=Lh (hB.keep cX);have HC1:=Lh fun W (hb:Below W1.heap.size W1 W)=>Hx _ _ _ day fin W ((hH.sub (by rw [hl];simp) hrx).frame hb) hd0 hf1
 obtain ⟨x0,-,-,-,x4,x5,x6,x7,x8,-,-,-,xv0,xv1⟩:=hB.all;rw [hk] at x0;simp only [Int.cast_ofNat_Int] at x0;clear h hn hd0 hf1 hA hk Hx hrx cX hl hB hH HH hb1;generalize c.ex.value E.F day=Rv at *;have HLn:=Lh hlen;have HSm:=Lh hsm;clear hlen hsm;unfold RLP at HC1;generalize x.flows E.F E.C day fin=Rx at *;obtain ⟨lx,hlx⟩:∃ l,l=(Zaw [] Rx).2:=⟨_,rfl⟩
 obtain ⟨ex,hex⟩:∃ l,l=Rx.1:=⟨_,rfl⟩
 rw [← hlx,← hex] at HC1;have Hlx:=Lh hlx;have Hex:=Lh hex;clear hlx hex;by_cases h0:Rv.1=0
 ·rw [Zbv h0,h0] at HC0;have HK:=Lh (HO.out h0);have HR0:Hid (R=andR Rx [] fun l=>Za0 Rv.2 l):=by show _=_;rw [HRR.out];exact Zbo h0
  clear h0 HO HRR;generalize Rv.2=ky at *;go_enter Tryz.func48,Tryz.ntmps48
  go_upto_region 1 with (fail);clear hW1;go_wp2_with fail;refine HC0.out.mono ?_;rintro e w2 ⟨rfl,hb2⟩;have Hb12:=Lh hb2;have Hbz:=Lh (Hb1.out.trans (hb2.mono hz1));have hbl2:b < w2.heap.size:=by have:=hb2.size;omega
  have hd:Below W1.heap.size W1 w2.drew:=hb2.drew;clear hb2 HC0 x0 x4 x5 x6 x7 x8 xv0 xv1;go_upto_region 21 with (fail);go_region_held3 (fun w'=>CBc w' w.heap.size c (.slice a1 c.ex.sub.length n1) (.slice a2 c.ds.length n2) (.slice (some ⟨b,off,none⟩) c.sub.length n3) E∧E12 w' b off x (.slice e1 x.ex.sub.length e4) (.slice e2 x.ds.length e5) (.slice e3 x.sub.length e6)) (first | exact HKx.out _ hbd | exact HKx.out _ hd | go_keep)
   (first | (go_at_call 48;refine (HC1.out _ hd).mono ?_;rintro e w3 ⟨v,rfl,⟨⟨ad1,cp1,rfl⟩,ho1⟩,hb2⟩;have hbd:=hd.trans (hb2.mono hd.size)))
  have Hb3:=Lh (Hb1.out.trans (hbd.mono hz1));have HO1:=Lh ho1;clear HC1 ho1 hb2 hbd hd;by_cases h1:ex=0
  ·subst h1;have E1:Hid (lx=Rx.2):=by show _=_;rw [Hlx.out,Zbv Hex.out.symm]
   have HR:Hid (R=Za0 ky lx):=by show _=_;rw [HR0.out,Zbo Hex.out.symm,E1.out]
   have hln:lx.length≤1100000:=by rw [E1.out];exact HLn.out
   have HSm1:Hid (amS lx):=by show _;rw [E1.out];exact HSm.out
   have Hrd:=Lh (Rd.of_sl (enc:=Fl.cells) (m:=5) (fun _=>rfl) (by decide) (Sl.of_owns HO1.out):Rd Fl.cells 5 w3 ad1 lx);have hz3:w.heap.size≤w3.heap.size:=Hb3.out.size;have HKs:Hid (ky.size≤1000000):=Nat.le_trans (Zc5 HK.out).1 (by decide);clear E1 Hlx Hex HLn HSm HR0 HO1 Hb12 Hbz;go_wp2_with fail;go_loopw [20,21,22,23] (fun ov i _ _ wr=>∃ (j:Nat) (acc:List Fl) (oa:Option Addr) (oc:Nat),j≤lx.length∧i = .int .i64 (j:Int)∧ov = .slice oa acc.length oc∧acc.length≤j∧Hid ((Za0 ky lx).1=(Za0 ky (lx.drop j)).1∧((Za0 ky (lx.drop j)).1=0→(Za0 ky lx).2=acc ++ (Za0 ky (lx.drop j)).2))∧Hid (wr.ownsRow w3.heap.size 52 5 (.slice oa acc.length oc) acc.length (acc.flatMap Fl.cells))∧Hid (Below w3.heap.size w3 wr)∧w3.heap.size≤wr.heap.size) (fun _ i _ _ _=>lx.length - (intOf i).toNat)
   case atStart=>exact ⟨0,[],none,0,Nat.zero_le _,rfl,rfl,Nat.le_refl _,Lh ⟨by rw [List.drop_zero],fun _=>by rw [List.drop_zero];rfl⟩,Lh (World.ownsRow_nil _ _ _ _),Lh (Below.refl _ _),Nat.le_refl _⟩
   case round =>
    obtain ⟨j,acc,oa,oc,hj,rfl,rfl,hja,HT,HOw,HBr,hzr⟩:=hrel;by_cases hlt:j < lx.length
    ·obtain ⟨f,hf⟩:∃ f,lx[j]? = some f:=⟨_,List.getElem?_eq_getElem hlt⟩
     obtain ⟨b2,off2,e2,g0,g1,g2,g3,g4⟩:=Hrd.out.fl hf;subst e2;have hbl3:b2 < w3.heap.size:=World.block_lt_of_cell? _ _ g0;have HCf:Hid (∀ W,Below w3.heap.size w3 W→W.cell? ⟨b2,off2+j * 5,none⟩=some (.int .i64 f.d)∧W.cell? ⟨b2,off2+j * 5+1,none⟩=some (.string f.fr)∧W.cell? ⟨b2,off2+j * 5+2,none⟩=some (.string f.rc)∧W.cell? ⟨b2,off2+j * 5+3,none⟩=some (.string f.cy)∧W.cell? ⟨b2,off2+j * 5+4,none⟩=some (.string f.am)):=fun W hb=>⟨Zad hb g0,Zad hb g1,Zad hb g2,Zad hb g3,Zad hb g4⟩
     clear g0 g1 g2 g3 g4;obtain ⟨c0,c1,c2,c3,c4⟩:=HCf.out wr HBr.out;have hk1:(0:Int)≤(j:Int):=by omega
     have hk2:(j:Int) < (lx.length:Int):=by omega
     have HF:=Lh hf;clear hf;have HM:=Lh (fun W=>(Zk8 f.am ky W (HSm1.out f (List.mem_of_getElem? HF.out)) HKs.out).mono fun _ _ h=>h.val);go_wp2_with fail;refine (HM.out _).mono ?_;rintro e w5 ⟨rfl,hb5⟩;have HB5:=Lh (HBr.out.trans (hb5.mono hzr));have hz5:w3.heap.size≤w5.heap.size:=HB5.out.size;have HO5:=Lh (Zag HOw.out hb5);clear hb5 HOw HBr HM c0 c1 c2 c3 c4;by_cases hm0:mulE f.am ky=0
     ·have t9:(mulE f.am ky != 0)=false:=by rw [hm0];rfl
      have HPd:=Lh (fun W=>Zsq f.d f.fr f.rc f.cy (mkB (mulS f.am ky)) (Zr8 hm0) W);have hlp:=Zgc f.d f.fr f.rc f.cy (mkB (mulS f.am ky));have HT2:Hid ((Za0 ky lx).1=(Za0 ky (lx.drop (j+1))).1∧((Za0 ky (lx.drop (j+1))).1=0→(Za0 ky lx).2=(acc ++ Zcd f.d f.fr f.rc f.cy (mkB (mulS f.am ky))) ++ (Za0 ky (lx.drop (j+1))).2)):=by
       show _∧_;have hT:=HT.out;rw [Zd1 HF.out,Za0,andR,if_neg (fun k=>k hm0),andR] at hT;by_cases h1:(Za0 ky (lx.drop (j+1))).1=0
       ·rw [if_neg (fun k=>k h1)] at hT;exact ⟨hT.1.trans h1.symm,fun _=>by rw [hT.2 rfl,List.append_assoc]⟩
       ·rw [if_pos h1] at hT;exact ⟨hT.1,fun k=>absurd k h1⟩
      generalize Zcd f.d f.fr f.rc f.cy (mkB (mulS f.am ky))=lp at *;rw [hm0];clear hm0 HT t9;obtain ⟨c0,c1,c2,c3,c4⟩:=HCf.out w5 HB5.out;have hbl5:b2 < w5.heap.size:=by omega
      go_upto_region 31 with (fail);go_region_held3 (fun w'=>w'.cell? ⟨b2,off2+j * 5,none⟩=some (.int .i64 f.d)∧w'.cell? ⟨b2,off2+j * 5+1,none⟩=some (.string f.fr)∧w'.cell? ⟨b2,off2+j * 5+2,none⟩=some (.string f.rc)∧w'.cell? ⟨b2,off2+j * 5+3,none⟩=some (.string f.cy)∧w'.cell? ⟨b2,off2+j * 5+4,none⟩=some (.string f.am))
       (first | assumption | exact ⟨by assumption,by assumption,by assumption,by assumption,by assumption⟩ | go_keep)
       (first | (go_at_call 101;refine (HPd.out _).mono ?_;rintro e w6 ⟨v,rfl,⟨⟨ad6,cp6,rfl⟩,ho6⟩,hb6⟩;have hb56:Below w5.heap.size w5 w6:=(Below.refl _ _).drew.trans hb6;have HB6:=Lh (HB5.out.trans (hb56.mono hz5));have hz6:=HB6.out.size;have hoo:=Zag HO5.out hb56;have hop:=Zat ho6 (show w3.heap.size≤w5.drew.heap.size from hz5);obtain ⟨p0,p1,p2,p3,p4⟩:=HCf.out w6 HB6.out) | (refine Zcu rfl (.tmp 152) (.tmp 174) rfl w3.heap.size w3.heap.size _ _ acc lp rfl hoo rfl hop (by omega) hz6 ?_;intro v' w7 ho7 hb7;have HB7:=Lh (HB6.out.trans hb7);obtain ⟨q0,q1,q2,q3,q4⟩:=HCf.out w7 HB7.out))
      obtain ⟨acc2,hacc⟩:∃ a,a=acc ++ lp:=⟨_,rfl⟩
      have ho7:w7.ownsRow w3.heap.size 52 5 v' acc2.length (acc2.flatMap Fl.cells):=by rw [hacc];first | exact ho7 | (rw [List.length_append,List.flatMap_append];exact ho7)
      rw [← hacc] at HT2;have hla:acc2.length≤j+1:=by rw [hacc,List.length_append];omega
      obtain ⟨oa2,oc2,rfl⟩:=Zcr ho7;have HO4:=Lh ho7;have hz7:w3.heap.size≤w7.heap.size:=HB7.out.size;clear ho7 hb7 hoo hop ho6 hb6 hb56 HB6 HPd HO5 HB5 hacc hlp HF p0 p1 p2 p3 p4 q0 q1 q2 q3 q4 c0 c1 c2 c3 c4;go_wp2_with fail;go_roundw
      case rel=>exact ⟨j+1,acc2,oa2,oc2,by omega,by go_num,rfl,hla,HT2,HO4,HB7,hz7⟩
      case measure=>simp [intOf];omega
     ·have t9:(mulE f.am ky != 0)=true:=by rw [bne_iff_ne];exact hm0
      have HP:Hid (R=(mulE f.am ky,(Za0 ky lx).2)):=by
       show _=_;have hT:=HT.out.1;rw [Zd1 HF.out,Za0,andR,if_pos hm0] at hT;rw [HR.out];exact Prod.ext hT rfl
      have HX:=Lh (RLP.err HP.out hm0 (Hb3.out.trans (HB5.out.mono hz3)));clear HT HP hm0 HB5 HO5;go_wp2;go_ret2;exact HX.out
    ·obtain rfl:j=lx.length:=by omega
     have HP:Hid (R=(0,acc)):=by
      show _=_;have hT:=HT.out;rw [List.drop_length] at hT;rw [HR.out];exact Prod.ext hT.1 (by rw [hT.2 rfl];exact List.append_nil _)
     have HX:Hid (RLP w R (.returned (.tuple #[.slice oa acc.length oc,.int .i64 0])) wr):=by
      rw [HP.out];exact ⟨_,rfl,⟨⟨_,_,rfl⟩,Zat HOw.out hz3⟩,Hb3.out.trans (HBr.out.mono hz3)⟩
     clear HT HP HOw HBr;go_wp2;go_ret2;exact HX.out
  ·have t1:(ex != 0)=true:=by rw [bne_iff_ne];exact h1
   have HR:Hid (R=(ex,[])):=by show _=_;rw [HR0.out,Zcw (by rw [← Hex.out];exact h1),← Hex.out]
   have HF:=Lh (RLP.err HR.out h1 Hb3.out);clear h1 HO1;go_wp2;go_ret2;exact HF.out
 ·have t1:(Rv.1 != 0)=true:=by rw [bne_iff_ne];exact h0
  have HR:Hid (R=(Rv.1,[])):=by show _=_;rw [HRR.out];exact Zcw h0
  have H0:=Lh h0;clear h0;clear HC1;go_enter Tryz.func48,Tryz.ntmps48
  go_upto_region 1 with (fail);clear hW1;go_wp2_with fail;refine HC0.out.mono ?_;rintro e w2 ⟨rfl,hb2⟩;have HF:=Lh (RLP.err HR.out H0.out (Hb1.out.trans (hb2.mono hz1)));clear HC0 hb2;go_wp2;go_ret2;exact HF.out
theorem Zlp {P:Program} (w:World) (base:Nat) (t ty e:TypeId) (i:TypeInfo) (z:Value) (size bytes:Nat) (ht:P.underlying t=some (.slice e)) (hi:P.info? e=some i) (hz:i.zero=some z)
  (hsize:i.size=size) (hby:i.bytes=bytes) (hzs:z.cells.size=size) (hsz:0 < size) (g n cap:Nat) (xs:List Value) (hown:w.ownsRow base e size (.slice (some ⟨g,0,none⟩) n cap) n xs)
  (A:Option Addr) (m c:Nat) (news:List Value) (hs:Sl w (.slice A m c) size m news) (hA:A=none→c=0) (h1:∀ u ∈ news,u.oneCell'=true)
  (h63:n+m≤maxLen) (hbytes:(n+m) * bytes≤140737488355328) (hbase:base≤w.heap.size) :
  ∃ g' cap' w',(Builtin.append_ #[t,t] ty #[.slice (some ⟨g,0,none⟩) n cap,.slice A m c]).run P w = .ok (.slice (some ⟨g',0,none⟩) (n+m) cap') w'∧w'.ownsRow base e size (.slice (some ⟨g',0,none⟩) (n+m) cap') (n+m) (xs ++ news)∧w.grownBy w' (some g)∧(g'=g∨w.heap.size≤g'):=by
 obtain ⟨ad',cap',he,h2,h3,h4⟩:=hs;obtain ⟨rfl,_,rfl⟩:=Value.slice.inj he;have hnc:n≤cap:=by
  rcases hown.2 with ⟨h,_⟩ | ⟨_,_,_,h,_,_,h5,_⟩
  ·cases h
  ·obtain ⟨_,_,rfl⟩:=Value.slice.inj h;exact h5
 rcases Nat.eq_zero_or_pos m with h0 | h0
 ·subst h0;obtain rfl:news=[]:=List.eq_nil_of_length_eq_zero (by simpa using h3);refine ⟨g,cap,w,?_,by simpa using hown,⟨rfl,rfl,rfl,Nat.le_refl _,fun _ _ _=>rfl⟩,.inl rfl⟩
  cases A with
  | none =>
   obtain rfl:=hA rfl;simp [Builtin.append_,run_underlying ht,sizeOf,typeInfo,hi,Builtin.lenOf,Builtin.firstCells,storeCells,hnc]
  | some a=>simp [Builtin.append_,run_underlying ht,sizeOf,typeInfo,hi,Builtin.lenOf,Builtin.firstCells,storeCells,loadCells,loadCellsFrom,hnc]
 ·rcases h4 with h4 | ⟨b,off,rfl,h4⟩
  ·exfalso;rw [h4] at h3;have:=Nat.mul_pos h0 hsz;simp at h3;omega
  ·have hnews:∀ j u,news[j]? = some u→w.cell? ((⟨b,off,none⟩:Addr).add j)=some u:=fun j u hj=>by
    rw [Addr.add_lit];exact h4 j u hj
   obtain ⟨v',w',hr,r1,r2,_⟩:=run_append_own (P:=P) w base t ty e i z size bytes ht hi hz hsize hby hzs hsz _ n xs hown ⟨b,off,none⟩ m c news h3 hnews h1 h63 hbytes hbase;have h5:=Zia w base t ty e i z size bytes ht hi hz hsize hby _ n xs hown ⟨b,off,none⟩ m c news h3 hnews h1 h63 hbytes hr;rcases r1.2 with ⟨_,h6⟩ | ⟨g',cap',_,rfl,_⟩
   ·omega
   ·refine ⟨g',cap',w',hr,r1,r2,?_⟩;rcases h5 with h5 | ⟨k,h5,h6⟩
    ·left;simpa [Value.ownBlock] using h5
    ·right
     obtain rfl:g'=k:=by simpa [Value.ownBlock] using h5
     exact h6
theorem Zer {P:Program} {w:World} {ops:Array Oper} {o:Oper} {a:Act} {K:Act→World→Prop} {Q:Exit→Act→World→Prop} {E:Prop} (hgd:o.guard=none) (s x:Operand) (t:TypeId)
  (ho:o.op = .call { callee:=.builtin .append,args:=#[s,x],argTypes:=#[t,t] }) (base:Nat) (e:TypeId) (i:TypeInfo) (z:Value) (size bytes:Nat) (ht:P.underlying t=some (.slice e)) (hi:P.info? e=some i) (hz:i.zero=some z)
  (hsize:i.size=size) (hby:i.bytes=bytes) (hzs:z.cells.size=size) (hsz:0 < size) (g n cap:Nat) (xs:List Value) (hs:a.eval s = .slice (some ⟨g,0,none⟩) n cap) (hown:w.ownsRow base e size (.slice (some ⟨g,0,none⟩) n cap) n xs)
  (A:Option Addr) (m c:Nat) (news:List Value) (hx:a.eval x = .slice A m c) (hl:Sl w (.slice A m c) size m news) (hA:A=none→c=0) (h1:∀ u ∈ news,u.oneCell'=true)
  (h63:n+m≤maxLen) (hbytes:(n+m) * bytes≤140737488355328) (hbase:base≤w.heap.size)
  (h:∀ g' cap' w',w'.ownsRow base e size (.slice (some ⟨g',0,none⟩) (n+m) cap') (n+m) (xs ++ news)→w.grownBy w' (some g)→(g'=g∨w.heap.size≤g')→K (a.put o.dst (.slice (some ⟨g',0,none⟩) (n+m) cap')) w') :
  if Region.wanted o (yielded ops a.tmps)=true then Oper.wp P o a w K Q else E:=by
 have hw:Region.wanted o (yielded ops a.tmps)=true:=by simp [Region.wanted,hgd]
 rw [if_pos hw];obtain ⟨g',cap',w',hr,h2,h3,h4⟩:=Zlp (P:=P) w base t o.type e i z size bytes ht hi hz hsize hby hzs hsz g n cap xs hown A m c news hl hA h1 h63 hbytes hbase;unfold Oper.wp execOp;simp only [ho,resolve,invoke,builtin,Sem.run_bind,Sem.run_pure,Result.andThen_ok,List.map_toArray,List.map_cons,List.map_nil,hs,hx,hr];exact h g' cap' w' h2 h3 h4
def RowS (base:Nat) (e:TypeId) (m:Nat) (v:Value) (n:Nat) (xs:List Value) (w:World):Prop:=∃ g cap,v = .slice (some ⟨g,0,none⟩) n cap∧w.ownsRow base e m v n xs
theorem RowS.alloc {base:Nat} {e:TypeId} {m:Nat} {v:Value} {n:Nat} {xs:List Value} {w:World} (h:RowS base e m v n xs w) (o:Obj):RowS base e m v n xs (w.alloc o):=by
 obtain ⟨g,cap,rfl,h⟩:=h;exact ⟨g,cap,rfl,Zca h fun k _ hk=>Below.heap_alloc _ _ _ hk⟩
structure InsI (base:Nat) (e:TypeId) (m n1 n3:Nat) (xs1 x xs3:List Value) (iA iB iC iD iE:Nat) (L:Nat→Bool) (vA vB vC vD vE:Value) (w:World):Prop where
 pa:L iA=true→L iB=false→RowS base e m vA 0 [] w
 pb:L iB=true→L iD=false→RowS base e m vB n1 xs1 w
 pd:L iD=true→L iE=false→RowS base e m vD (n1+1) (xs1 ++ x) w
 pe:L iE=true→RowS base e m vE (n1+1+n3) (xs1 ++ x ++ xs3) w
 pc:L iC=true→L iD=false→∃ g,vC = .slice (some ⟨g,0,none⟩) 1 1∧BoxN w g e x∧(L iA=true→L iB=false→vA.ownBlock ≠ some g)∧(L iB=true→vB.ownBlock ≠ some g)
section
variable {base:Nat} {e:TypeId} {m n1 n3:Nat} {xs1 x xs3:List Value} {iA iB iC iD iE:Nat} {L:Nat→Bool} {vA vB vC vD vE:Value} {w w':World}
theorem InsI.keep (h:InsI base e m n1 n3 xs1 x xs3 iA iB iC iD iE L vA vB vC vD vE w) {i:Nat} (hi:i ≠ iA∧i ≠ iB∧i ≠ iC∧i ≠ iD∧i ≠ iE):InsI base e m n1 n3 xs1 x xs3 iA iB iC iD iE (upd L i) vA vB vC vD vE w:=by
 have e:∀ j,i ≠ j→upd L i j=L j:=fun j hj=>if_neg (Ne.symm hj)
 obtain ⟨h1,h2,h3,h4,h5⟩:=hi;refine ⟨?_,?_,?_,?_,?_⟩ <;> (try rw [e _ h1]) <;> (try rw [e _ h2]) <;> (try rw [e _ h3]) <;> (try rw [e _ h4]) <;> (try rw [e _ h5])
 ·exact h.pa
 ·exact h.pb
 ·exact h.pd
 ·exact h.pe
 ·exact h.pc
theorem InsI.uA (h:InsI base e m n1 n3 xs1 x xs3 iA iB iC iD iE L vA vB vC vD vE w) (hne:[iA,iB,iC,iD,iE].Nodup) (hB:L iB=false) (hD:L iD=false) (hE:L iE=false) (hb:base≤w.heap.size) :
  InsI base e m n1 n3 xs1 x xs3 iA iB iC iD iE (upd L iA) (.slice (some ⟨w.heap.size,0,none⟩) 0 0) vB vC vD vE (w.alloc (.cells #[] e)):=by
 simp at hne
 have e:∀ j,j ≠ iA→upd L iA j=L j:=fun j hj=>if_neg hj
 have eB:=e iB (by omega);have eC:=e iC (by omega);have eD:=e iD (by omega);have eE:=e iE (by omega);refine ⟨fun _ _=>⟨_,_,rfl,World.ownsRow_made w #[] 0 hb (Nat.zero_le _) (by simp)⟩,fun k=>?_,fun k=>?_,fun k=>?_,fun k _=>?_⟩
 ·rw [eB,hB] at k;cases k
 ·rw [eD,hD] at k;cases k
 ·rw [eE,hE] at k;cases k
 ·rw [eC] at k;obtain ⟨g,rfl,h1,_,_⟩:=h.pc k hD;refine ⟨g,rfl,h1.alloc _,fun _ _=>?_,fun k=>?_⟩
  ·have:=h1.lt
   simp [Value.ownBlock];omega
  ·rw [eB,hB] at k;cases k
theorem InsI.uC (h:InsI base e m n1 n3 xs1 x xs3 iA iB iC iD iE L vA vB vC vD vE w) (hne:[iA,iB,iC,iD,iE].Nodup) (hD:L iD=false) (hE:L iE=false) :
  InsI base e m n1 n3 xs1 x xs3 iA iB iC iD iE (upd L iC) vA vB (.slice (some ⟨w.heap.size,0,none⟩) 1 1) vD vE (w.alloc (.cells x.toArray e)):=by
 simp at hne
 have e:∀ j,j ≠ iC→upd L iC j=L j:=fun j hj=>if_neg hj
 have eA:=e iA (by omega);have eB:=e iB (by omega);have eD:=e iD (by omega);have eE:=e iE (by omega);refine ⟨fun k l=>?_,fun k l=>?_,fun k=>?_,fun k=>?_,fun _ _=>⟨_,rfl,BoxN.new _ _ _,fun k l=>?_,fun k=>?_⟩⟩
 ·rw [eA] at k;rw [eB] at l;exact (h.pa k l).alloc _
 ·rw [eB] at k;exact (h.pb k hD).alloc _
 ·rw [eD,hD] at k;cases k
 ·rw [eE,hE] at k;cases k
 ·rw [eA] at k;rw [eB] at l
  obtain ⟨g,cap,rfl,h1⟩:=h.pa k l;have:=(h1.lt g rfl).2
  simp [Value.ownBlock];omega
 ·rw [eB] at k;obtain ⟨g,cap,rfl,h1⟩:=h.pb k hD;have:=(h1.lt g rfl).2
  simp [Value.ownBlock];omega
theorem InsI.uB (h:InsI base e m n1 n3 xs1 x xs3 iA iB iC iD iE L vA vB vC vD vE w) (hne:[iA,iB,iC,iD,iE].Nodup) (hA:L iA=true) (hB:L iB=false) (hD:L iD=false) (hE:L iE=false) {g g' c cap':Nat} (hv:vA = .slice (some ⟨g,0,none⟩) 0 c)
  (hr:w'.ownsRow base e m (.slice (some ⟨g',0,none⟩) (0+n1) cap') (0+n1) ([] ++ xs1)) (hg:w.grownBy w' (some g)) (hl:g'=g∨w.heap.size≤g') :
  InsI base e m n1 n3 xs1 x xs3 iA iB iC iD iE (upd L iB) vA (.slice (some ⟨g',0,none⟩) (0+n1) cap') vC vD vE w':=by
 simp at hne
 have e:∀ j,j ≠ iB→upd L iB j=L j:=fun j hj=>if_neg hj
 have eA:=e iA (by omega);have eC:=e iC (by omega);have eD:=e iD (by omega);have eE:=e iE (by omega);have eB:upd L iB iB=true:=if_pos rfl;rw [Nat.zero_add,List.nil_append] at hr;rw [Nat.zero_add];refine ⟨fun _ l=>?_,fun _ _=>⟨g',cap',rfl,hr⟩,fun k=>?_,fun k=>?_,fun k _=>?_⟩
 ·rw [eB] at l;cases l
 ·rw [eD,hD] at k;cases k
 ·rw [eE,hE] at k;cases k
 ·rw [eC] at k;obtain ⟨gx,rfl,h1,h2,_⟩:=h.pc k hD;have h3:=h2 hA hB;rw [hv] at h3;have h4:gx ≠ g:=fun e=>h3 (by rw [e];rfl)
  refine ⟨gx,rfl,h1.of_block (hg.block _ h1.lt fun e=>h4 (Option.some.inj e)),fun _ l=>?_,fun _=>?_⟩
  ·rw [eB] at l;cases l
  ·have:=h1.lt
   simp [Value.ownBlock];omega
theorem InsI.uD (_h:InsI base e m n1 n3 xs1 x xs3 iA iB iC iD iE L vA vB vC vD vE w) (hne:[iA,iB,iC,iD,iE].Nodup) (hB:L iB=true) (hE:L iE=false) {g' cap':Nat}
  (hr:w'.ownsRow base e m (.slice (some ⟨g',0,none⟩) (n1+1) cap') (n1+1) (xs1 ++ x)) :
  InsI base e m n1 n3 xs1 x xs3 iA iB iC iD iE (upd L iD) vA vB vC (.slice (some ⟨g',0,none⟩) (n1+1) cap') vE w':=by
 simp at hne
 have e:∀ j,j ≠ iD→upd L iD j=L j:=fun j hj=>if_neg hj
 have eB:=e iB (by omega);have eE:=e iE (by omega);have eD:upd L iD iD=true:=if_pos rfl;refine ⟨fun _ l=>?_,fun _ l=>?_,fun _ _=>⟨g',cap',rfl,hr⟩,fun k=>?_,fun _ l=>?_⟩
 ·rw [eB,hB] at l;cases l
 ·rw [eD] at l;cases l
 ·rw [eE,hE] at k;cases k
 ·rw [eD] at l;cases l
theorem InsI.uE (_h:InsI base e m n1 n3 xs1 x xs3 iA iB iC iD iE L vA vB vC vD vE w) (hne:[iA,iB,iC,iD,iE].Nodup) (hB:L iB=true) (hD:L iD=true) {g' cap':Nat}
  (hr:w'.ownsRow base e m (.slice (some ⟨g',0,none⟩) (n1+1+n3) cap') (n1+1+n3) (xs1 ++ x ++ xs3)) :
  InsI base e m n1 n3 xs1 x xs3 iA iB iC iD iE (upd L iE) vA vB vC vD (.slice (some ⟨g',0,none⟩) (n1+1+n3) cap') w':=by
 simp at hne
 have e:∀ j,j ≠ iE→upd L iE j=L j:=fun j hj=>if_neg hj
 have eB:=e iB (by omega);have eD:=e iD (by omega);have eE:upd L iE iE=true:=if_pos rfl;refine ⟨fun _ l=>?_,fun _ l=>?_,fun _ l=>?_,fun _=>⟨g',cap',rfl,hr⟩,fun _ l=>?_⟩
 ·rw [eB,hB] at l;cases l
 ·rw [eD,hD] at l;cases l
 ·rw [eE] at l;cases l
 ·rw [eD,hD] at l;cases l
end
theorem VInv.grownF {W0 w w':World} {vals cur:List Value} {L:Nat→Bool} (h:VInv W0 vals cur L w) {g:Nat} (hg:w.grownBy w' (some g)) (hb:W0.heap.size≤g):VInv W0 vals cur L w' :=
 ⟨h.b.grown hg h.b.size fun k hk=>(by cases hk;exact hb),h.len,h.f⟩
theorem Z2y (x:Fl):∀ u ∈ x.cells,u.oneCell'=true:=by
 intro u hu;have:=Zeg [x] u (by simpa using hu)
 exact this
theorem Zl0 (l:List Fl):(l.flatMap Fl.cells).length=l.length * 5:=Zdv Fl.cells 5 (fun _=>rfl) l
theorem Z09 (l:List Fl) (q:Nat):(l.flatMap Fl.cells).take (q * 5)=(l.take q).flatMap Fl.cells:=by
 rcases Nat.lt_or_ge l.length q with h | h
 ·rw [List.take_of_length_le (by rw [Zl0];omega),List.take_of_length_le (by omega)]
 ·have e:l.flatMap Fl.cells=(l.take q).flatMap Fl.cells ++ (l.drop q).flatMap Fl.cells:=by rw [← List.flatMap_append,List.take_append_drop]
  rw [e,List.take_append_of_le_length (by rw [Zl0,List.length_take];omega),List.take_of_length_le (by rw [Zl0,List.length_take];omega)]
theorem Z08 (l:List Fl) (q:Nat):(l.flatMap Fl.cells).drop (q * 5)=(l.drop q).flatMap Fl.cells:=by
 rcases Nat.lt_or_ge l.length q with h | h
 ·rw [List.drop_of_length_le (by rw [Zl0];omega),List.drop_of_length_le (by omega)];rfl
 ·have e:l.flatMap Fl.cells=(l.take q).flatMap Fl.cells ++ (l.drop q).flatMap Fl.cells:=by rw [← List.flatMap_append,List.take_append_drop]
  have hl:((l.take q).flatMap Fl.cells).length=q * 5:=by rw [Zl0,List.length_take];omega
  rw [e,← hl,List.drop_left]
theorem Sl.high {w:World} {ad:Option Addr} {n cap m:Nat} {xs:List Value} (h:Sl w (.slice ad n cap) m n xs) {q:Nat} (hq:q≤n):Sl w (.slice (if cap=q then ad else Option.map (fun x=>x.add (q * m)) ad) (n - q) (cap - q)) m (n - q) (xs.drop (q * m)):=by
 obtain ⟨ad',cap',e,h1,h2,h3⟩:=h;obtain ⟨rfl,_,rfl⟩:=Value.slice.inj e;refine ⟨_,_,rfl,by omega,by rw [List.length_drop,h2,Nat.sub_mul],?_⟩;rcases Nat.eq_zero_or_pos (n - q) with h0 | h0
 ·exact .inl h0
 ·rcases h3 with h3 | ⟨b,off,rfl,h3⟩
  ·omega
  ·rw [if_neg (by omega)];refine .inr ⟨b,off+q * m,by simp [Addr.add],fun j u hj=>?_⟩;rw [List.getElem?_drop] at hj;have:=h3 _ u hj
   rwa [← Nat.add_assoc] at this
theorem Zpf (l:List Fl) (adm:Option Addr) (capm:Nat) (W:World) (hl:l.length≤1100000) (h1:Rd Fl.cells 5 W adm l) :
  Calls Tryz.prog 49 #[.slice adm l.length capm] W fun e w'=>∃ v,e = .returned v∧Zfw W w' (Zbs l) v∧Below W.heap.size W w':=by
 obtain ⟨n,hn⟩:∃ n,l.length=n:=⟨_,rfl⟩
 have Hn:=Lh hn;have HA:=Lh h1;rw [hn] at hl ⊢;clear hn h1;go_enter Tryz.func49,Tryz.ntmps49
 go_wp2_with fail;go_loopw [3,4,5] (fun v i _ wr=>∃ (k m:Nat) (ad:Option Addr) (cap:Nat),k≤n∧i = .int .i64 (k:Int)∧v = .slice ad m cap∧Hid (m=k)∧Hid (m=(Zbs (l.take k)).length)∧Hid (wr.ownsRow W.heap.size 52 5 (.slice ad m cap) m ((Zbs (l.take k)).flatMap Fl.cells))∧Below W.heap.size W wr) (fun _ i _ _=>n - (intOf i).toNat)
 case atStart=>exact ⟨0,0,none,0,Nat.zero_le _,rfl,rfl,Lh rfl,Lh rfl,Lh (World.ownsRow_nil _ _ _ _),Below.refl _ _⟩
 case round =>
  obtain ⟨k,m,ad,cap,hk,rfl,rfl,HMK,HM,HO,hb⟩:=hrel;by_cases hlt:k < n
  ·obtain ⟨x,hx⟩:∃ x,l[k]? = some x:=⟨_,List.getElem?_eq_getElem (by rw [Hn.out];exact hlt)⟩
   obtain ⟨b,off,rfl,x0,x1,x2,x3,x4⟩:=(HA.out.below hb).fl hx;have HX:=Lh hx;have hk1:(0:Int)≤(k:Int):=by omega
   have hk2:(k:Int) < (n:Int):=by omega
   have hmk:=HM.out;obtain ⟨cur,hcur⟩:∃ cur,Zbs (l.take k)=cur:=⟨_,rfl⟩
   have HSR:Hid (Znw cur):=Lh (hcur ▸ Zpm _);have HT:Hid (Zbs (l.take (k+1))=insE x cur):=Lh (by rw [Zau hx,Zuz,hcur]);rw [hcur] at HO hmk;clear hx hcur HM;subst hmk;have HRc:=Lh (Rd.of_sl (enc:=Fl.cells) (m:=5) (fun _=>rfl) (by decide) (Sl.of_owns HO.out):Rd Fl.cells 5 wr ad cur);have hcm:cur.length≤1100000:=by have:=HMK.out;omega
   go_upto_block 2 with (fail)
   go_cut [5] from 14 to 31 (fun v wc=>∃ q:Nat,q≤cur.length∧v = .int .i64 (q:Int)∧Hid ((∀ j y,q≤j→cur[j]? = some y→x.d < y.d)∧(q=0∨∃ i y,q=i+1∧cur[i]? = some y∧y.d≤x.d))∧Below wr.heap.size wr wc)
   case first =>
    go_wp2_with fail;go_loopw [5] (fun at_ w2=>∃ q:Nat,q≤cur.length∧at_ = .int .i64 (q:Int)∧Hid (∀ j y,q≤j→cur[j]? = some y→x.d < y.d)∧Below wr.heap.size wr w2) (fun at_ _=>(intOf at_).toNat)
    case atStart=>exact ⟨cur.length,Nat.le_refl _,rfl,Lh fun j y hj h=>absurd (List.getElem?_eq_some_iff.1 h).1 (by omega),Below.refl _ _⟩
    case round =>
     obtain ⟨q,hq,rfl,HG,hb2⟩:=hrel;rename_i w2
     replace x0:=Zad hb2 x0;clear x1 x2 x3 x4;rcases Nat.eq_zero_or_pos q with h0 | h0
     ·subst h0;go_wp2_with fail;go_quiet (fail)
      go_wp2;go_meet
      exact ⟨0,Nat.zero_le _,rfl,Lh ⟨HG.out,.inl rfl⟩,below_drewN hb2 _⟩
     ·obtain ⟨y,hy⟩:∃ y,cur[q - 1]? = some y:=⟨_,List.getElem?_eq_getElem (by omega)⟩
      obtain ⟨bc,oc,e9,y0,_⟩:=HRc.out.fl hy;subst e9;replace y0:=Zad hb2 y0;have e1:IntKind.i64.wrap ((q:Int) - 1)=((q - 1:Nat):Int):=by rw [IntWalk.i64_in _ (by omega)];omega
      have t1:decide ((0:Int) < (q:Int))=true:=by rw [decide_eq_true_eq];omega
      have HY:=Lh hy;have hq1:(0:Int)≤((q - 1:Nat):Int):=by omega
      have hq2:((q - 1:Nat):Int) < (cur.length:Int):=by omega
      clear hy;by_cases hxy:x.d < y.d
      ·have t2:decide (x.d < y.d)=true:=decide_eq_true hxy;have HG2:Hid (∀ j y,q - 1≤j→cur[j]? = some y→x.d < y.d):=Lh fun j z hj hz=>by
        rcases Nat.eq_or_lt_of_le hj with e | e
        ·rw [← e,HY.out] at hz;cases hz;exact hxy
        ·exact HG.out j z (by omega) hz
       clear hxy;go_wp2_with fail;go_quiet (fail)
       go_wp2;go_roundw
       case rel=>exact ⟨q - 1,by omega,by go_num,HG2,below_drewN hb2 _⟩
       case measure=>simp [intOf];omega
      ·have t2:decide (x.d < y.d)=false:=decide_eq_false hxy;have HG2:=Lh hxy;clear hxy;go_wp2_with fail;go_quiet (fail)
       go_wp2;go_meet
       exact ⟨q,hq,rfl,Lh ⟨HG.out,.inr ⟨q - 1,y,by omega,HY.out,by have:=HG2.out;omega⟩⟩,below_drewN hb2 _⟩
   case rest =>
    obtain ⟨q,hq,rfl,HG,hbc⟩:=hcut;replace x0:=Zad hbc x0;replace x1:=Zad hbc x1;replace x2:=Zad hbc x2;replace x3:=Zad hbc x3;replace x4:=Zad hbc x4;go_upto_region 8 with fail
    obtain ⟨j0,hj,jz0,jz1,jz2⟩:=info_parts Zhx;have HSw:=Lh (Sl.of_owns (Zag HO.out hbc));have hcl:cur.length≤cap:=by obtain ⟨_,_,ec,h,_⟩:=HSw.out;cases ec;exact h
    have hqc:q≤cap:=by omega
    have hqc1:(q:Int)≤(cap:Int):=by omega
    have HLO:Hid (Sl wc (.slice ad q cap) 5 q ((cur.take q).flatMap Fl.cells)):=Lh (by
     obtain ⟨_,_,ec,_,h2,h3⟩:=HSw.out
     cases ec
     refine ⟨_,_,rfl,hqc,by rw [Zl0,List.length_take];omega,?_⟩;rcases Nat.eq_zero_or_pos q with h0 | h0
     ·exact .inl h0
     ·rcases h3 with h3 | ⟨b2,o2,rfl,h3⟩
      ·omega
      ·refine .inr ⟨b2,o2,rfl,fun j u hj=>h3 j u ?_⟩;rw [← Z09] at hj;rw [List.getElem?_take] at hj;split at hj
       ·exact hj
       ·cases hj)
    have HLN:Hid (ad=none→cap=0):=Lh (fun e=>by
     subst e;rcases HO.out.2 with ⟨e,_⟩ | ⟨_,_,_,e,_⟩
     ·exact (Value.slice.inj e).2.2
     ·cases e)
    have HHI:Hid (Sl wc (.slice (if cap=q then ad else Option.map (fun x=>x.add (q * 5)) ad) (cur.length - q) (cap - q)) 5 (cur.length - q) ((cur.drop q).flatMap Fl.cells)):=Lh (by rw [← Z08];exact HSw.out.high hq);have HHN:Hid ((if cap=q then ad else Option.map (fun x=>x.add (q * 5)) ad)=none→cap - q=0):=Lh (fun e=>by
     by_cases h0:cap=q
     ·omega
     ·rw [if_neg h0,Option.map_eq_none_iff] at e;have:=HLN.out e
      omega)
    have hwc:=hbc.size;refine Zbb (fun L a w'=>∃ (v0 v1 v2 v3 v4 v5 v6 v7 v8 v9 v10 v11 v12 v13 v14 v15:Value),a=⟨#[.slice (some ⟨b,off,none⟩) n capm,undef,.slice none 0 0,v15,.int .i64 (k:Int),.int .i64 (q:Int),.int .i64 (k:Int),.slice (some ⟨b,off,none⟩) n capm,.int .i64 (n:Int),.bool true,u10,u11,.slice ad cur.length cap,.int .i64 (cur.length:Int),u14,u15,u16,u17,u18,u19,u20,u21,u22,u23,u24,u25,u26,u27,u28,u29,u30,u31,v0,v1,v2,v3,v4,v5,v6,v7,v8,v9,v10,v11,v12,v13,v14,undef],[]⟩∧VInv wc [v0,.slice ad cur.length cap,.int .i64 (q:Int),.slice ad q cap,v4,.slice (some ⟨b,off,none⟩) n capm,.int .i64 (k:Int),.pointer (some ⟨b,off+k * 5,none⟩),.agg #[.int .i64 x.d,.string x.fr,.string x.rc,.string x.cy,.string x.am],v9,v10,.slice ad cur.length cap,.int .i64 (q:Int),.slice (if cap=q then ad else Option.map (fun x=>x.add (q * 5)) ad) (cur.length - q) (cap - q),v14,v15] [v0,v1,v2,v3,v4,v5,v6,v7,v8,v9,v10,v11,v12,v13,v14,v15] L w'∧InsI wc.heap.size 52 5 q (cur.length - q) ((cur.take q).flatMap Fl.cells) x.cells ((cur.drop q).flatMap Fl.cells) 0 4 9 10 14 L v0 v4 v9 v10 v14 w'∧(L 15=false→v15 = .slice ad cur.length cap)∧(L 15=true→v15=v14)) (by kernel_rfl) (by kernel_rfl) ?_ ?_ ?_
    ·exact ⟨_,_,_,_,_,_,_,_,_,_,_,_,_,_,_,_,rfl,VInv.start (below_drewN (Below.refl _ _) 1) rfl,⟨fun h=>(by cases h),fun h=>(by cases h),fun h=>(by cases h),fun h=>(by cases h),fun h=>(by cases h)⟩,fun _=>rfl,fun h=>(by cases h)⟩
    ·rintro L a w' ⟨v0,v1,v2,v3,v4,v5,v6,v7,v8,v9,v10,v11,v12,v13,v14,v15,rfl,h,ht,hf,hg⟩ hcl i o ho hL hp;have hi9:i < 16:=by simpa using (Array.getElem?_eq_some_iff.1 ho).1
     have hi2:i=0∨i=1∨i=2∨i=3∨i=4∨i=5∨i=6∨i=7∨i=8∨i=9∨i=10∨i=11∨i=12∨i=13∨i=14∨i=15:=by omega
     clear hi9;have hz:=h.b.size;rcases hi2 with rfl | rfl | rfl | rfl | rfl | rfl | rfl | rfl | rfl | rfl | rfl | rfl | rfl | rfl | rfl | rfl
     ·refine wpOp_step rfl ?_;intro K hK;have hB:=Zba hcl hL 4 (by kernel_rfl);have hD:=Zba hcl hB 10 (by kernel_rfl);have hE:=Zba hcl hD 14 (by kernel_rfl);go_simp;exact hK _ _ ⟨_,_,_,_,_,_,_,_,_,_,_,_,_,_,_,_,rfl,VInv.step (i:=0) (v:=.slice (some ⟨w'.heap.size,0,none⟩) 0 0) ((h.ext (Zac _ _)).late hL _) rfl,ht.uA (by decide) hB hD hE hz,(fun e=>hf (by simpa [upd] using e)),(fun e=>hg (by simpa [upd] using e))⟩
     ·refine wpOp_step rfl ?_;intro K hK;obtain rfl:=hf (Zba hcl hL 15 (by kernel_rfl));go_simp;exact hK _ _ ⟨_,_,_,_,_,_,_,_,_,_,_,_,_,_,_,_,rfl,VInv.step (i:=1) (v:=.slice ad cur.length cap) (h) rfl,ht.keep (by decide),(fun e=>hf (by simpa [upd] using e)),(fun e=>hg (by simpa [upd] using e))⟩
     ·refine wpOp_step rfl ?_;intro K hK;go_simp;exact hK _ _ ⟨_,_,_,_,_,_,_,_,_,_,_,_,_,_,_,_,rfl,VInv.step (i:=2) (v:=.int .i64 (q:Int)) (h) rfl,ht.keep (by decide),(fun e=>hf (by simpa [upd] using e)),(fun e=>hg (by simpa [upd] using e))⟩
     ·refine wpOp_step rfl ?_;intro K hK;obtain rfl:=h.at (i:=1) (Zaa ho hp (j:=1) (by kernel_rfl)) rfl rfl;obtain rfl:=h.at (i:=2) (Zaa ho hp (j:=2) (by kernel_rfl)) rfl rfl;go_simp;exact hK _ _ ⟨_,_,_,_,_,_,_,_,_,_,_,_,_,_,_,_,rfl,VInv.step (i:=3) (v:=.slice ad q cap) (h) rfl,ht.keep (by decide),(fun e=>hf (by simpa [upd] using e)),(fun e=>hg (by simpa [upd] using e))⟩
     ·refine wpOp_step rfl ?_;intro K hK;obtain rfl:=h.at (i:=3) (Zaa ho hp (j:=3) (by kernel_rfl)) rfl rfl;have hA:=Zaa ho hp (j:=0) (by kernel_rfl);have hD:=Zba hcl hL 10 (by kernel_rfl);have hE:=Zba hcl hD 14 (by kernel_rfl);obtain ⟨g0,c0,rfl,hr0⟩:=ht.pa hA hL;refine Zer rfl (.tmp 32) (.tmp 35) 37 rfl wc.heap.size 52 j0 _ 5 72 Zed hj jz0 jz1 jz2 rfl (by decide) g0 0 c0 [] rfl hr0 ad q cap _ rfl (HLO.out.below h.b) HLN.out (Zeg _) (by simp only [maxLen];omega) (by omega) hz ?_
      intro g2 c2 w2 hr2 hg2 hl2;have hq0:=(hr0.lt g0 rfl).1;exact hK _ _ ⟨_,_,_,_,_,_,_,_,_,_,_,_,_,_,_,_,rfl,VInv.step (i:=4) (v:=.slice (some ⟨g2,0,none⟩) (0+q) c2) ((h.grownF hg2 hq0).late hL _) rfl,ht.uB (by decide) hA hL hD hE rfl hr2 hg2 hl2,(fun e=>hf (by simpa [upd] using e)),(fun e=>hg (by simpa [upd] using e))⟩
     ·refine wpOp_step rfl ?_;intro K hK;go_simp;exact hK _ _ ⟨_,_,_,_,_,_,_,_,_,_,_,_,_,_,_,_,rfl,VInv.step (i:=5) (v:=.slice (some ⟨b,off,none⟩) n capm) (h) rfl,ht.keep (by decide),(fun e=>hf (by simpa [upd] using e)),(fun e=>hg (by simpa [upd] using e))⟩
     ·refine wpOp_step rfl ?_;intro K hK;go_simp;exact hK _ _ ⟨_,_,_,_,_,_,_,_,_,_,_,_,_,_,_,_,rfl,VInv.step (i:=6) (v:=.int .i64 (k:Int)) (h) rfl,ht.keep (by decide),(fun e=>hf (by simpa [upd] using e)),(fun e=>hg (by simpa [upd] using e))⟩
     ·refine wpOp_step rfl ?_;intro K hK;obtain rfl:=h.at (i:=5) (Zaa ho hp (j:=5) (by kernel_rfl)) rfl rfl;obtain rfl:=h.at (i:=6) (Zaa ho hp (j:=6) (by kernel_rfl)) rfl rfl;go_simp;exact hK _ _ ⟨_,_,_,_,_,_,_,_,_,_,_,_,_,_,_,_,rfl,VInv.step (i:=7) (v:=.pointer (some ⟨b,off+k * 5,none⟩)) (h) rfl,ht.keep (by decide),(fun e=>hf (by simpa [upd] using e)),(fun e=>hg (by simpa [upd] using e))⟩
     ·refine wpOp_step rfl ?_;intro K hK;obtain rfl:=h.at (i:=7) (Zaa ho hp (j:=7) (by kernel_rfl)) rfl rfl;have z0:=Zad h.b x0;have z1:=Zad h.b x1;have z2:=Zad h.b x2;have z3:=Zad h.b x3;have z4:=Zad h.b x4;go_simp;exact hK _ _ ⟨_,_,_,_,_,_,_,_,_,_,_,_,_,_,_,_,rfl,VInv.step (i:=8) (v:=.agg #[.int .i64 x.d,.string x.fr,.string x.rc,.string x.cy,.string x.am]) (h) rfl,ht.keep (by decide),(fun e=>hf (by simpa [upd] using e)),(fun e=>hg (by simpa [upd] using e))⟩
     ·refine wpOp_step rfl ?_;intro K hK;obtain rfl:=h.at (i:=8) (Zaa ho hp (j:=8) (by kernel_rfl)) rfl rfl;have hD:=Zba hcl hL 10 (by kernel_rfl);have hE:=Zba hcl hD 14 (by kernel_rfl);go_simp;exact hK _ _ ⟨_,_,_,_,_,_,_,_,_,_,_,_,_,_,_,_,rfl,VInv.step (i:=9) (v:=.slice (some ⟨w'.heap.size,0,none⟩) 1 1) ((h.ext (Zac _ _)).late hL _) rfl,ht.uC (by decide) hD hE,(fun e=>hf (by simpa [upd] using e)),(fun e=>hg (by simpa [upd] using e))⟩
     ·refine wpOp_step rfl ?_;intro K hK;have hB:=Zaa ho hp (j:=4) (by kernel_rfl);have hC:=Zaa ho hp (j:=9) (by kernel_rfl);have hE:=Zba hcl hL 14 (by kernel_rfl);obtain ⟨g0,c0,rfl,hr0⟩:=ht.pb hB hL;obtain ⟨gx,rfl,hx1,_⟩:=ht.pc hC hL;refine Zer rfl (.tmp 36) (.tmp 41) 37 rfl wc.heap.size 52 j0 _ 5 72 Zed hj jz0 jz1 jz2 rfl (by decide) g0 q c0 _ rfl hr0 (some ⟨gx,0,none⟩) 1 1 _ rfl ⟨_,_,rfl,Nat.le_refl _,rfl,.inr ⟨gx,0,rfl,fun j u hj=>(by rw [Nat.zero_add];exact hx1.cell hj)⟩⟩ (by intro e;cases e) (Z2y x) (by simp only [maxLen];omega) (by omega) hz ?_
      intro g2 c2 w2 hr2 hg2 hl2;have hq0:=(hr0.lt g0 rfl).1;exact hK _ _ ⟨_,_,_,_,_,_,_,_,_,_,_,_,_,_,_,_,rfl,VInv.step (i:=10) (v:=.slice (some ⟨g2,0,none⟩) (q+1) c2) ((h.grownF hg2 hq0).late hL _) rfl,ht.uD (by decide) hB hE hr2,(fun e=>hf (by simpa [upd] using e)),(fun e=>hg (by simpa [upd] using e))⟩
     ·refine wpOp_step rfl ?_;intro K hK;obtain rfl:=hf (Zba hcl hL 15 (by kernel_rfl));go_simp;exact hK _ _ ⟨_,_,_,_,_,_,_,_,_,_,_,_,_,_,_,_,rfl,VInv.step (i:=11) (v:=.slice ad cur.length cap) (h) rfl,ht.keep (by decide),(fun e=>hf (by simpa [upd] using e)),(fun e=>hg (by simpa [upd] using e))⟩
     ·refine wpOp_step rfl ?_;intro K hK;go_simp;exact hK _ _ ⟨_,_,_,_,_,_,_,_,_,_,_,_,_,_,_,_,rfl,VInv.step (i:=12) (v:=.int .i64 (q:Int)) (h) rfl,ht.keep (by decide),(fun e=>hf (by simpa [upd] using e)),(fun e=>hg (by simpa [upd] using e))⟩
     ·refine wpOp_step rfl ?_;intro K hK;obtain rfl:=h.at (i:=11) (Zaa ho hp (j:=11) (by kernel_rfl)) rfl rfl;obtain rfl:=h.at (i:=12) (Zaa ho hp (j:=12) (by kernel_rfl)) rfl rfl;go_simp;exact hK _ _ ⟨_,_,_,_,_,_,_,_,_,_,_,_,_,_,_,_,rfl,VInv.step (i:=13) (v:=.slice (if cap=q then ad else Option.map (fun x=>x.add (q * 5)) ad) (cur.length - q) (cap - q)) (h) rfl,ht.keep (by decide),(fun e=>hf (by simpa [upd] using e)),(fun e=>hg (by simpa [upd] using e))⟩
     ·refine wpOp_step rfl ?_;intro K hK;obtain rfl:=h.at (i:=13) (Zaa ho hp (j:=13) (by kernel_rfl)) rfl rfl;have hD:=Zaa ho hp (j:=10) (by kernel_rfl);have hB:=Zcx hcl hD (j:=4) (by kernel_rfl);obtain ⟨g0,c0,rfl,hr0⟩:=ht.pd hD hL;refine Zer rfl (.tmp 42) (.tmp 45) 37 rfl wc.heap.size 52 j0 _ 5 72 Zed hj jz0 jz1 jz2 rfl (by decide) g0 (q+1) c0 _ rfl hr0 _ (cur.length - q) (cap - q) _ rfl (HHI.out.below h.b) HHN.out (Zeg _) (by simp only [maxLen];omega) (by omega) hz ?_
      intro g2 c2 w2 hr2 hg2 hl2;have hq0:=(hr0.lt g0 rfl).1;exact hK _ _ ⟨_,_,_,_,_,_,_,_,_,_,_,_,_,_,_,_,rfl,VInv.step (i:=14) (v:=.slice (some ⟨g2,0,none⟩) (q+1+(cur.length - q)) c2) ((h.grownF hg2 hq0).late hL _) rfl,ht.uE (by decide) hB hD hr2,(fun e=>hf (by simpa [upd] using e)),(fun e=>absurd (Zcx hcl (show L 15=true by simpa [upd] using e) (j:=14) (by kernel_rfl)) (by rw [hL];exact Bool.false_ne_true))⟩
     ·refine wpOp_step rfl ?_;intro K hK;go_simp;exact hK _ _ ⟨_,_,_,_,_,_,_,_,_,_,_,_,_,_,_,_,rfl,VInv.step (i:=15) (v:=v14) ((h).late hL _) rfl,ht.keep (by decide),(fun e=>(by simp [upd] at e)),(fun _=>rfl)⟩
    ·rintro L a w4 ⟨v0,v1,v2,v3,v4,v5,v6,v7,v8,v9,v10,v11,v12,v13,v14,v15,rfl,h,ht,hf,hg⟩ hall;obtain ⟨g4,c4,rfl,hr4⟩:=ht.pe (hall 14 (by decide));obtain rfl:=hg (hall 15 (by decide));have HN:Hid ((cur.take q).flatMap Fl.cells ++ x.cells ++ (cur.drop q).flatMap Fl.cells=(Zbs (l.take (k+1))).flatMap Fl.cells):=Lh (by
      rw [HT.out];have e9:insE x cur=cur.take q ++ x :: cur.drop q:=by
       rcases HG.out.2 with h0 | ⟨i,y,h1,h2,h3⟩
       ·exact Zl2 (y:=x) HSR.out hq HG.out.1 (.inl h0)
       ·exact Zl2 (y:=y) HSR.out hq HG.out.1 (.inr ⟨i,h1,h2,h3⟩)
      rw [e9,List.flatMap_append,List.flatMap_cons,List.append_assoc])
     have hlen9:q+1+(cur.length - q)=(Zbs (l.take (k+1))).length:=by
      rw [Zeq,List.length_take,Hn.out,Nat.min_eq_left (by omega)];have:=HMK.out;omega
     have hr5:w4.ownsRow wc.heap.size 52 5 (.slice (some ⟨g4,0,none⟩) (q+1+(cur.length - q)) c4) (q+1+(cur.length - q)) ((Zbs (l.take (k+1))).flatMap Fl.cells):=by rw [← HN.out];exact hr4
     have hr6:=Lh (Zat hr5 (Nat.le_trans hb.size hwc));have hbe:=h.b;clear ht h hg hf hall hr4 hr5;go_wp2;go_roundw
     case rel=>exact ⟨k+1,q+1+(cur.length - q),some ⟨g4,0,none⟩,c4,by omega,by go_num,rfl,Lh (by have:=HMK.out;omega),Lh hlen9,hr6,(hb.trans (hbc.mono hb.size)).trans (hbe.mono (Nat.le_trans hb.size hwc))⟩
     case measure=>simp [intOf];omega
  ·obtain rfl:k=n:=by omega
   have hmk0:m=k:=HMK.out;subst hmk0;clear HMK;have HOe:Hid (Zfw W wr (Zbs l) (.slice ad m cap)):=by
    show Zfw _ _ _ _;have e:l.take m=l:=List.take_of_length_le (by rw [Hn.out];exact Nat.le_refl _);have h1:=HM.out;have h2:=HO.out;rw [e] at h1 h2;unfold Zfw;rw [← h1];exact ⟨⟨_,_,rfl⟩,h2⟩
   clear HM HO;go_wp2;go_ret;exact ⟨_,rfl,HOe.out,hb⟩
end Go.Proofs.YtknpnhodpgajbaaGreatDoor
