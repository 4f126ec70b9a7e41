/- A part. -/
import Derived.Test.YtknpnhodpgajbaaGreatDoorG16
set_option maxHeartbeats 8000000
set_option maxRecDepth 100000
namespace Go.Proofs.YtknpnhodpgajbaaGreatDoor
open Go.RowKit
def FlA (w W:World) (c x:Con) (a1 a2 e1 e2 e3:Option Addr) (n1 n2 n3 m1 m2 m3 b off:Nat) (day fin:Int) (E:EvD):Prop :=
 W.cell? ⟨w.heap.size,0,none⟩=some (.int .u8 c.k)∧W.cell? ⟨w.heap.size,1,none⟩=some (.string c.fr)∧W.cell? ⟨w.heap.size,2,none⟩=some (.string c.rc)∧W.cell? ⟨w.heap.size,3,none⟩=some (.string c.nm)∧W.cell? ⟨w.heap.size,4,none⟩=some (.int .u8 c.ex.k)∧W.cell? ⟨w.heap.size,5,none⟩=some (.string c.ex.ra)∧W.cell? ⟨w.heap.size,6,none⟩=some (.string c.ex.nm)∧W.cell? ⟨w.heap.size,7,none⟩=some (.int .i64 c.ex.d)∧W.cell? ⟨w.heap.size,8,none⟩=some (.slice a1 c.ex.sub.length n1)∧W.cell? ⟨w.heap.size,9,none⟩=some (.int .i64 c.d)∧W.cell? ⟨w.heap.size,10,none⟩=some (.slice a2 c.ds.length n2)∧W.cell? ⟨w.heap.size,11,none⟩=some (.slice (some ⟨b,off,none⟩) c.sub.length n3)∧W.cell? ⟨b,off,none⟩=some (.int .u8 x.k)∧W.cell? ⟨b,off+1,none⟩=some (.string x.fr)∧W.cell? ⟨b,off+2,none⟩=some (.string x.rc)∧W.cell? ⟨b,off+3,none⟩=some (.string x.nm)∧W.cell? ⟨b,off+4,none⟩=some (.int .u8 x.ex.k)∧W.cell? ⟨b,off+5,none⟩=some (.string x.ex.ra)∧W.cell? ⟨b,off+6,none⟩=some (.string x.ex.nm)∧W.cell? ⟨b,off+7,none⟩=some (.int .i64 x.ex.d)∧W.cell? ⟨b,off+8,none⟩=some (.slice e1 x.ex.sub.length m1)∧W.cell? ⟨b,off+9,none⟩=some (.int .i64 x.d)∧W.cell? ⟨b,off+10,none⟩=some (.slice e2 x.ds.length m2)∧W.cell? ⟨b,off+11,none⟩=some (.slice e3 x.sub.length m3)∧W.cell? ⟨w.heap.size+1,0,none⟩=some (.int .i64 day)∧W.cell? ⟨w.heap.size+1+1,0,none⟩=some (.int .i64 fin)∧W.cell? ⟨w.heap.size+1+1+1,0,none⟩=some (.slice E.af E.F.length E.cf)∧W.cell? ⟨w.heap.size+1+1+1,1,none⟩=some (.slice E.ac E.C.length E.cc)
theorem FlA.keep {w W W2:World} {c x:Con} {a1 a2 e1 e2 e3:Option Addr} {n1 n2 n3 m1 m2 m3 b off:Nat} {day fin:Int} {E:EvD} (h:FlA w W c x a1 a2 e1 e2 e3 n1 n2 n3 m1 m2 m3 b off day fin E) (hb:Below W.heap.size W W2):FlA w W2 c x a1 a2 e1 e2 e3 n1 n2 n3 m1 m2 m3 b off day fin E:=by
 have k:∀ {p u},W.cell? p=some u→W2.cell? p=some u:=fun {p u} hu=>by rw [hb.cell (p:=p) (World.block_lt_of_cell? W _ hu)];exact hu
 obtain ⟨h0,h1,h2,h3,h4,h5,h6,h7,h8,h9,h10,h11,h12,h13,h14,h15,h16,h17,h18,h19,h20,h21,h22,h23,h24,h25,h26,h27⟩:=h;exact ⟨k h0,k h1,k h2,k h3,k h4,k h5,k h6,k h7,k h8,k h9,k h10,k h11,k h12,k h13,k h14,k h15,k h16,k h17,k h18,k h19,k h20,k h21,k h22,k h23,k h24,k h25,k h26,k h27⟩
theorem Ztm (c:Con) (hk:c.k=8) (a1 a2 a3:Option Addr) (n1 n2 n3:Nat) (day fin:Int) (E:EvD) (w:World) (h:FlH c (.slice a1 c.ex.sub.length n1) (.slice a2 c.ds.length n2) (.slice a3 c.sub.length n3) E w) (hd0:0≤day) (hf1:fin≤100000) (hn : ¬ fin≤day) (x:Con) (hds:Zbi c.ds=true) (hl:c.sub=[x]) (HX:PF E x) :
  Calls Tryz.prog 43 #[.agg #[.int .u8 c.k,.string c.fr,.string c.rc,.string c.nm,.int .u8 c.ex.k,.string c.ex.ra,.string c.ex.nm,.int .i64 c.ex.d,.slice a1 c.ex.sub.length n1,.int .i64 c.d,.slice a2 c.ds.length n2,.slice a3 c.sub.length n3],.int .i64 day,.int .i64 fin,.agg #[.slice E.af E.F.length E.cf,.slice E.ac E.C.length E.cc]] w (FlP w (x.flows E.F E.C (Zax (fun e=>(0,Za5 E.C c.fr c.nm e)) day fin c.ds).2 fin)):=by
 obtain ⟨W0,hW0,hb0,hz0,hB0⟩:=Zdl w c (.slice a1 c.ex.sub.length n1) (.slice a2 c.ds.length n2) (.slice a3 c.sub.length n3) day fin E;have hmf:∀ (fn:Fn) (first cap:Array Value) (w:World),(Instr.makeFunc fn first cap).run Tryz.prog w = .ok (.func fn first cap) w:=fun _ _ _ _=>rfl
 have ck:=hB0.c.cell (j:=0) (u:=.int .u8 c.k) rfl;have d0:=hB0.d.cell (j:=0) (u:=.int .i64 day) rfl;have f0:=hB0.f.cell (j:=0) (u:=.int .i64 fin) rfl;have HB0:=Lh hB0;have hH0:=h.frame hb0;have Hb0:=Lh hb0;have hn2:decide (fin≤day)=false:=decide_eq_false hn;have tk2:((c.k:Int) == 2)=false:=by rw [hk];rfl
 have tk3:((c.k:Int) == 3)=false:=by rw [hk];rfl
 have tk4:((c.k:Int) == 4)=false:=by rw [hk];rfl
 have tk5:((c.k:Int) == 5)=false:=by rw [hk];rfl
 have tk7:((c.k:Int) == 7)=false:=by rw [hk];rfl
 have tk6:((c.k:Int) == 6)=false:=by rw [hk];rfl
 have tk8:((c.k:Int) == 8)=true:=by rw [hk];rfl
 have tk9:((c.k:Int) == 9)=false:=by rw [hk];rfl
 have tk10:((c.k:Int) == 10)=false:=by rw [hk];rfl
 have hS:=h.rd.2.2.1;rw [hl] at hS;obtain ⟨b,off,rfl⟩:=hS.addr (by simp);obtain ⟨e1,m1,e2,m2,e3,m3,hr,hbl,hc⟩:=hS.nth (j:=0) rfl off (by omega);have hF:=h.sub (x:=x) (by rw [hl];simp) hr;have HC:=Lh fun W (dy:Int) (fi:Int) (hb:Below w.heap.size w W) (h0:0≤dy) (h1:fi≤100000)=>HX _ _ _ dy fi W (hF.frame hb) h0 h1
 have q11:=hB0.c.cell (j:=11) (u:=.slice (some ⟨b,off,none⟩) c.sub.length n3) rfl;have q9:=hB0.c.cell (j:=9) (u:=.int .i64 c.d) rfl;have v0:=hB0.v.cell (j:=0) (u:=.slice E.af E.F.length E.cf) rfl;have v1:=hB0.v.cell (j:=1) (u:=.slice E.ac E.C.length E.cc) rfl;obtain ⟨c0,c1,c2,c3,c4,c5,c6,c7,c8,c9,c10,c11⟩:=hc W0 hb0;have hn5:0 < c.sub.length:=by rw [hl];simp
 have hn6:(0:Int) < (c.sub.length:Int):=by omega
 have hbl0:b < W0.heap.size:=by have:=hb0.size;omega
 have hcn:c.ds.length≤1100000:=by have:=c.bulk_eq;have:=h.bulk;omega
 have hdays:=Zm0 hds;have HFi:=Lh fun W (hb:Below W0.heap.size W0 W)=>Ztk c (.slice a1 c.ex.sub.length n1) (.slice a2 c.ds.length n2) (.slice (some ⟨b,off,none⟩) c.sub.length n3) day fin (fun e=>(0,Za5 E.C c.fr c.nm e)) w.heap.size W (hH0.frame hb).rd hcn
   (fun d hd W' hb'=>Zi1 d c _ _ _ day fin E w.heap.size W' ((HB0.out.below hb).below hb') ((hH0.frame hb).frame hb').e)
 have HK:Hid (FlA w W0 c x a1 a2 e1 e2 e3 n1 n2 n3 m1 m2 m3 b off day fin E) :=
  Lh ⟨hB0.c.cell (j:=0) rfl,hB0.c.cell (j:=1) rfl,hB0.c.cell (j:=2) rfl,hB0.c.cell (j:=3) rfl,hB0.c.cell (j:=4) rfl,hB0.c.cell (j:=5) rfl,hB0.c.cell (j:=6) rfl,hB0.c.cell (j:=7) rfl,hB0.c.cell (j:=8) rfl,hB0.c.cell (j:=9) rfl,hB0.c.cell (j:=10) rfl,hB0.c.cell (j:=11) rfl,c0,c1,c2,c3,c4,c5,c6,c7,c8,c9,c10,c11,d0,f0,v0,v1⟩
 have hz1:w.heap.size≤W0.heap.size:=hb0.size;obtain ⟨Fd,hFd⟩:∃ F,F=Zax (fun e=>(0,Za5 E.C c.fr c.nm e)) day fin c.ds:=⟨_,rfl⟩
 have hbd:=Ze0 (fun e=>(0,Za5 E.C c.fr c.nm e)) day fin (by omega) c.ds;rw [← hFd] at HFi hbd ⊢;have hF1:Fd.1=0:=by rw [hFd];exact Zgn _ _ _ _
 obtain ⟨R0,hR0⟩:∃ R0,R0=(x.flows E.F E.C Fd.2 fin):=⟨_,rfl⟩
 rw [← hR0];obtain ⟨R,hR⟩:∃ R,R=x.flows E.F E.C Fd.2 fin:=⟨_,rfl⟩
 have C1:Hid (∀ W,Below W0.heap.size W0 W→Calls _ _ _ W fun e w'=>FlP w R0 e w'∧Below W.heap.size W w'∧((∃ ad cap,e = .returned (.slice ad R.2.length cap))∨e = .panicked (Zjh R.1))):=Lh fun W hb =>
  (HC.out W Fd.2 fin (Hb0.out.trans (hb.mono hz1)) (by have:=(hbd hF1).1;omega) hf1).mono fun e w' q=>⟨by rw [hR0];exact q.at (Hb0.out.trans (hb.mono hz1)),q.1,by
   rcases q with ⟨_,⟨_,v,rfl,⟨ad,cap,rfl⟩,_⟩ | ⟨_,rfl⟩⟩
   ·exact .inl ⟨ad,cap,by rw [hR]⟩
   ·exact .inr (by rw [hR])⟩
 rw [hF1,Zfn] at HFi;clear h hH0 hB0 HB0 hn hk hl HX hd0 hf1 HC hF hr hS hc hds hdays hb0 hFd hcn q11 q9 c0 c1 c2 c3 c4 c5 c6 c7 c8 c9 c10 c11 v0 v1 hbd hR0 hR hF1;go_enter Tryz.func43,Tryz.ntmps43
 go_upto_region 1 with (fail);clear hW0;go_wp2_with fail;refine Zbb (fun L a w'=>∃ (v0 v1 v2 v3 v4 v5 v6 v7 v8 v9 v10 v11 v12:Value),a=⟨#[.agg #[.int .u8 c.k,.string c.fr,.string c.rc,.string c.nm,.int .u8 c.ex.k,.string c.ex.ra,.string c.ex.nm,.int .i64 c.ex.d,.slice a1 c.ex.sub.length n1,.int .i64 c.d,.slice a2 c.ds.length n2,.slice (some ⟨b,off,none⟩) c.sub.length n3],.int .i64 day,.int .i64 fin,.agg #[.slice E.af E.F.length E.cf,.slice E.ac E.C.length E.cc],.pointer (some ⟨w.heap.size,0,none⟩),.pointer (some ⟨w.heap.size+1,0,none⟩),.pointer (some ⟨w.heap.size+1+1,0,none⟩),.pointer (some ⟨w.heap.size+1+1+1,0,none⟩),v12,.func (.func 83) #[] #[.pointer (some ⟨w.heap.size+1+1+1,0,none⟩),.pointer (some ⟨w.heap.size,0,none⟩)],.func (.func 84) #[] #[.pointer (some ⟨w.heap.size,0,none⟩),.pointer (some ⟨w.heap.size+1+1+1,0,none⟩)],.func (.func 87) #[] #[.pointer (some ⟨w.heap.size,0,none⟩),.pointer (some ⟨w.heap.size+1,0,none⟩),.pointer (some ⟨w.heap.size+1+1+1,0,none⟩)],.func (.func 90) #[] #[.pointer (some ⟨w.heap.size,0,none⟩),.pointer (some ⟨w.heap.size+1,0,none⟩),.pointer (some ⟨w.heap.size+1+1,0,none⟩),.pointer (some ⟨w.heap.size+1+1+1,0,none⟩)],undef,undef,undef,undef,.int .i64 day,.int .i64 fin,.bool false,.func (.func 83) #[] #[.pointer (some ⟨w.heap.size+1+1+1,0,none⟩),.pointer (some ⟨w.heap.size,0,none⟩)],.func (.func 84) #[] #[.pointer (some ⟨w.heap.size,0,none⟩),.pointer (some ⟨w.heap.size+1+1+1,0,none⟩)],.func (.func 87) #[] #[.pointer (some ⟨w.heap.size,0,none⟩),.pointer (some ⟨w.heap.size+1,0,none⟩),.pointer (some ⟨w.heap.size+1+1+1,0,none⟩)],.func (.func 90) #[] #[.pointer (some ⟨w.heap.size,0,none⟩),.pointer (some ⟨w.heap.size+1,0,none⟩),.pointer (some ⟨w.heap.size+1+1,0,none⟩),.pointer (some ⟨w.heap.size+1+1+1,0,none⟩)],.pointer (some ⟨w.heap.size,0,none⟩),.int .u8 c.k,.bool false,.bool false,undef,undef,undef,undef,undef,undef,undef,undef,undef,undef,.bool false,.bool false,undef,undef,undef,undef,undef,.bool false,.bool false,undef,undef,undef,undef,undef,undef,undef,undef,undef,undef,undef,undef,undef,undef,undef,undef,undef,undef,undef,undef,undef,undef,undef,undef,undef,undef,undef,undef,undef,.bool false,.bool false,undef,undef,undef,undef,undef,undef,.bool false,.bool false,undef,undef,undef,undef,undef,undef,.bool false,.bool false,undef,undef,undef,undef,undef,undef,undef,undef,undef,undef,undef,undef,undef,.bool true,.bool true,v0,v1,v2,v3,v4,v5,v6,v7,v8,v9,v10,v11,undef,undef,undef,undef,undef,undef,undef,undef,undef,undef,undef,undef,undef,undef,undef,undef,undef,undef,undef,undef,undef,undef,undef,undef,undef,undef,undef,undef],[]⟩∧VInv W0 [.pointer (some ⟨w.heap.size,11,none⟩),.slice (some ⟨b,off,none⟩) c.sub.length n3,.pointer (some ⟨b,off,none⟩),.agg #[.int .u8 x.k,.string x.fr,.string x.rc,.string x.nm,.int .u8 x.ex.k,.string x.ex.ra,.string x.ex.nm,.int .i64 x.ex.d,.slice e1 x.ex.sub.length m1,.int .i64 x.d,.slice e2 x.ds.length m2,.slice e3 x.sub.length m3],.agg #[.int .u8 c.k,.string c.fr,.string c.rc,.string c.nm,.int .u8 c.ex.k,.string c.ex.ra,.string c.ex.nm,.int .i64 c.ex.d,.slice a1 c.ex.sub.length n1,.int .i64 c.d,.slice a2 c.ds.length n2,.slice (some ⟨b,off,none⟩) c.sub.length n3],.int .i64 day,.int .i64 fin,.func (.func 83) #[] #[.pointer (some ⟨w.heap.size+1+1+1,0,none⟩),.pointer (some ⟨w.heap.size,0,none⟩)],.int .i64 Fd.2,.int .i64 fin,.agg #[.slice E.af E.F.length E.cf,.slice E.ac E.C.length E.cc],v11,v11] [v0,v1,v2,v3,v4,v5,v6,v7,v8,v9,v10,v11,v12] L w'∧(L 11=true→(∃ ad cap,v11 = .slice ad R.2.length cap)∧FlP w R0 (.returned v11) w')) (by kernel_rfl) (by kernel_rfl) ?_ ?_ ?_
 ·exact ⟨_,_,_,_,_,_,_,_,_,_,_,_,_,rfl,VInv.start (below_drewN (Below.refl _ _) 1) rfl,fun e=>(by cases e)⟩
 ·rintro L a w' ⟨v0,v1,v2,v3,v4,v5,v6,v7,v8,v9,v10,v11,v12,rfl,h,hx⟩ hcl i o ho hL hp;have hi9:i < 13:=by simpa using (Array.getElem?_eq_some_iff.1 ho).1
  have hi2:i=0∨i=1∨i=2∨i=3∨i=4∨i=5∨i=6∨i=7∨i=8∨i=9∨i=10∨i=11∨i=12:=by omega
  clear hi9;obtain ⟨z0,z1,z2,z3,z4,z5,z6,z7,z8,z9,z10,z11,z12,z13,z14,z15,z16,z17,z18,z19,z20,z21,z22,z23,z24,z25,z26,z27⟩:=HK.out.keep h.b;rcases hi2 with rfl | rfl | rfl | rfl | rfl | rfl | rfl | rfl | rfl | rfl | rfl | rfl | rfl
  ·refine wpOp_step rfl ?_;intro K hK;go_simp;exact hK _ _ ⟨_,_,_,_,_,_,_,_,_,_,_,_,_,rfl,h.step (i:=0) rfl,(fun e=>hx (by simpa [upd] using e))⟩
  ·refine wpOp_step rfl ?_;intro K hK;obtain rfl:=h.at (i:=0) (Zaa ho hp (j:=0) (by kernel_rfl)) rfl rfl;go_simp;exact hK _ _ ⟨_,_,_,_,_,_,_,_,_,_,_,_,_,rfl,h.step (i:=1) rfl,(fun e=>hx (by simpa [upd] using e))⟩
  ·refine wpOp_step rfl ?_;intro K hK;obtain rfl:=h.at (i:=1) (Zaa ho hp (j:=1) (by kernel_rfl)) rfl rfl;go_simp;exact hK _ _ ⟨_,_,_,_,_,_,_,_,_,_,_,_,_,rfl,h.step (i:=2) rfl,(fun e=>hx (by simpa [upd] using e))⟩
  ·refine wpOp_step rfl ?_;intro K hK;obtain rfl:=h.at (i:=2) (Zaa ho hp (j:=2) (by kernel_rfl)) rfl rfl;go_simp;exact hK _ _ ⟨_,_,_,_,_,_,_,_,_,_,_,_,_,rfl,h.step (i:=3) rfl,(fun e=>hx (by simpa [upd] using e))⟩
  ·refine wpOp_step rfl ?_;intro K hK;go_simp;exact hK _ _ ⟨_,_,_,_,_,_,_,_,_,_,_,_,_,rfl,h.step (i:=4) rfl,(fun e=>hx (by simpa [upd] using e))⟩
  ·refine wpOp_step rfl ?_;intro K hK;go_simp;exact hK _ _ ⟨_,_,_,_,_,_,_,_,_,_,_,_,_,rfl,h.step (i:=5) rfl,(fun e=>hx (by simpa [upd] using e))⟩
  ·refine wpOp_step rfl ?_;intro K hK;go_simp;exact hK _ _ ⟨_,_,_,_,_,_,_,_,_,_,_,_,_,rfl,h.step (i:=6) rfl,(fun e=>hx (by simpa [upd] using e))⟩
  ·refine wpOp_step rfl ?_;intro K hK;go_simp;exact hK _ _ ⟨_,_,_,_,_,_,_,_,_,_,_,_,_,rfl,h.step (i:=7) rfl,(fun e=>hx (by simpa [upd] using e))⟩
  ·refine wpOp_step rfl ?_;intro K hK;obtain rfl:=h.at (i:=4) (Zaa ho hp (j:=4) (by kernel_rfl)) rfl rfl;obtain rfl:=h.at (i:=5) (Zaa ho hp (j:=5) (by kernel_rfl)) rfl rfl;obtain rfl:=h.at (i:=6) (Zaa ho hp (j:=6) (by kernel_rfl)) rfl rfl;obtain rfl:=h.at (i:=7) (Zaa ho hp (j:=7) (by kernel_rfl)) rfl rfl;go_simp;refine (HFi.out w' h.b).mono ?_;rintro e w4 ⟨rfl,hb4⟩;exact hK _ _ ⟨_,_,_,_,_,_,_,_,_,_,_,_,_,rfl,(h.ext hb4).step (i:=8) (v:=.int .i64 Fd.2) rfl,(fun e=>absurd (Zcx hcl (show L 11=true by simpa [upd] using e) (j:=8) (by kernel_rfl)) (by rw [hL];exact Bool.false_ne_true))⟩
  ·refine wpOp_step rfl ?_;intro K hK;go_simp;exact hK _ _ ⟨_,_,_,_,_,_,_,_,_,_,_,_,_,rfl,h.step (i:=9) rfl,(fun e=>hx (by simpa [upd] using e))⟩
  ·refine wpOp_step rfl ?_;intro K hK;go_simp;exact hK _ _ ⟨_,_,_,_,_,_,_,_,_,_,_,_,_,rfl,h.step (i:=10) rfl,(fun e=>hx (by simpa [upd] using e))⟩
  ·refine wpOp_step rfl ?_;intro K hK;obtain rfl:=h.at (i:=3) (Zaa ho hp (j:=3) (by kernel_rfl)) rfl rfl;obtain rfl:=h.at (i:=8) (Zaa ho hp (j:=8) (by kernel_rfl)) rfl rfl;obtain rfl:=h.at (i:=9) (Zaa ho hp (j:=9) (by kernel_rfl)) rfl rfl;obtain rfl:=h.at (i:=10) (Zaa ho hp (j:=10) (by kernel_rfl)) rfl rfl;go_simp;refine (C1.out w' h.b).mono ?_;rintro e w4 ⟨h3,hb4,⟨ad,cap,rfl⟩ | rfl⟩
   ·exact hK _ _ ⟨_,_,_,_,_,_,_,_,_,_,_,_,_,rfl,VInv.step (i:=11) (v:=.slice ad R.2.length cap) (((h.ext hb4).late hL (.slice ad R.2.length cap)).late (Zba hcl hL 12 (by kernel_rfl)) (.slice ad R.2.length cap)) rfl,fun _=>⟨⟨_,_,rfl⟩,h3⟩⟩
   ·exact ⟨rfl,h3⟩
  ·refine wpOp_step rfl ?_;intro K hK;go_simp;exact hK _ _ ⟨_,_,_,_,_,_,_,_,_,_,_,_,_,rfl,h.step (i:=12) (v:=v11) rfl,(fun e=>hx (by simpa [upd] using e))⟩
 ·rintro L a w1 ⟨v0,v1,v2,v3,v4,v5,v6,v7,v8,v9,v10,v11,v12,rfl,h,hx⟩ hall;obtain ⟨⟨ad,cap,rfl⟩,hf⟩:=hx (hall 11 (by decide));obtain rfl:=h.at (i:=12) (hall 12 (by decide)) rfl rfl;have HF:=Lh hf;clear hf hx hall h C1 HFi HK;go_wp2;go_ret;exact HF.out
theorem Zqb (c:Con) (hk:c.k=9) (a1 a2 a3:Option Addr) (n1 n2 n3:Nat) (day fin:Int) (E:EvD) (w:World) (h:FlH c (.slice a1 c.ex.sub.length n1) (.slice a2 c.ds.length n2) (.slice a3 c.sub.length n3) E w) (hd0:0≤day) (hf1:fin≤100000) (hn : ¬ fin≤day) (x:Con) (hds:Zbi c.ds=true) (hA:c.ex.isA 2=true) (hl:c.sub=[x]) (HX:PF E x) :
  Calls Tryz.prog 43 #[.agg #[.int .u8 c.k,.string c.fr,.string c.rc,.string c.nm,.int .u8 c.ex.k,.string c.ex.ra,.string c.ex.nm,.int .i64 c.ex.d,.slice a1 c.ex.sub.length n1,.int .i64 c.d,.slice a2 c.ds.length n2,.slice a3 c.sub.length n3],.int .i64 day,.int .i64 fin,.agg #[.slice E.af E.F.length E.cf,.slice E.ac E.C.length E.cc]] w (FlP w (andR (Zax (fun e=>c.ex.hold E.F e) day fin c.ds) [] fun q=>x.flows E.F E.C day q)):=by
 obtain ⟨W0,hW0,hb0,hz0,hB0⟩:=Zdl w c (.slice a1 c.ex.sub.length n1) (.slice a2 c.ds.length n2) (.slice a3 c.sub.length n3) day fin E;have hmf:∀ (fn:Fn) (first cap:Array Value) (w:World),(Instr.makeFunc fn first cap).run Tryz.prog w = .ok (.func fn first cap) w:=fun _ _ _ _=>rfl
 have ck:=hB0.c.cell (j:=0) (u:=.int .u8 c.k) rfl;have d0:=hB0.d.cell (j:=0) (u:=.int .i64 day) rfl;have f0:=hB0.f.cell (j:=0) (u:=.int .i64 fin) rfl;have HB0:=Lh hB0;have hH0:=h.frame hb0;have Hb0:=Lh hb0;have hn2:decide (fin≤day)=false:=decide_eq_false hn;have tk2:((c.k:Int) == 2)=false:=by rw [hk];rfl
 have tk3:((c.k:Int) == 3)=false:=by rw [hk];rfl
 have tk4:((c.k:Int) == 4)=false:=by rw [hk];rfl
 have tk5:((c.k:Int) == 5)=false:=by rw [hk];rfl
 have tk7:((c.k:Int) == 7)=false:=by rw [hk];rfl
 have tk6:((c.k:Int) == 6)=false:=by rw [hk];rfl
 have tk8:((c.k:Int) == 8)=false:=by rw [hk];rfl
 have tk9:((c.k:Int) == 9)=true:=by rw [hk];rfl
 have tk10:((c.k:Int) == 10)=false:=by rw [hk];rfl
 have hS:=h.rd.2.2.1;rw [hl] at hS;obtain ⟨b,off,rfl⟩:=hS.addr (by simp);obtain ⟨e1,m1,e2,m2,e3,m3,hr,hbl,hc⟩:=hS.nth (j:=0) rfl off (by omega);have hF:=h.sub (x:=x) (by rw [hl];simp) hr;have HC:=Lh fun W (dy:Int) (fi:Int) (hb:Below w.heap.size w W) (h0:0≤dy) (h1:fi≤100000)=>HX _ _ _ dy fi W (hF.frame hb) h0 h1
 have q11:=hB0.c.cell (j:=11) (u:=.slice (some ⟨b,off,none⟩) c.sub.length n3) rfl;have q9:=hB0.c.cell (j:=9) (u:=.int .i64 c.d) rfl;have v0:=hB0.v.cell (j:=0) (u:=.slice E.af E.F.length E.cf) rfl;have v1:=hB0.v.cell (j:=1) (u:=.slice E.ac E.C.length E.cc) rfl;obtain ⟨c0,c1,c2,c3,c4,c5,c6,c7,c8,c9,c10,c11⟩:=hc W0 hb0;have hn5:0 < c.sub.length:=by rw [hl];simp
 have hn6:(0:Int) < (c.sub.length:Int):=by omega
 have hbl0:b < W0.heap.size:=by have:=hb0.size;omega
 have hcn:c.ds.length≤1100000:=by have:=c.bulk_eq;have:=h.bulk;omega
 have hdays:=Zm0 hds;have HFi:=Lh fun W (hb:Below W0.heap.size W0 W)=>Zly c (.slice a1 c.ex.sub.length n1) (.slice a2 c.ds.length n2) (.slice (some ⟨b,off,none⟩) c.sub.length n3) day fin (fun e=>c.ex.hold E.F e) w.heap.size W (hH0.frame hb).rd hcn
   (fun d hd W' hb'=>Zhb d c _ _ _ day fin E w.heap.size W' ((HB0.out.below hb).below hb') ((hH0.frame hb).frame hb') hA (hdays d hd))
 have HK:Hid (FlA w W0 c x a1 a2 e1 e2 e3 n1 n2 n3 m1 m2 m3 b off day fin E) :=
  Lh ⟨hB0.c.cell (j:=0) rfl,hB0.c.cell (j:=1) rfl,hB0.c.cell (j:=2) rfl,hB0.c.cell (j:=3) rfl,hB0.c.cell (j:=4) rfl,hB0.c.cell (j:=5) rfl,hB0.c.cell (j:=6) rfl,hB0.c.cell (j:=7) rfl,hB0.c.cell (j:=8) rfl,hB0.c.cell (j:=9) rfl,hB0.c.cell (j:=10) rfl,hB0.c.cell (j:=11) rfl,c0,c1,c2,c3,c4,c5,c6,c7,c8,c9,c10,c11,d0,f0,v0,v1⟩
 have hz1:w.heap.size≤W0.heap.size:=hb0.size;obtain ⟨Fd,hFd⟩:∃ F,F=Zax (fun e=>c.ex.hold E.F e) day fin c.ds:=⟨_,rfl⟩
 have hbd:=Ze0 (fun e=>c.ex.hold E.F e) day fin (by omega) c.ds;rw [← hFd] at HFi hbd ⊢;obtain ⟨R0,hR0⟩:∃ R0,R0=(andR Fd [] fun q=>x.flows E.F E.C day q):=⟨_,rfl⟩
 rw [← hR0];obtain ⟨R,hR⟩:∃ R,R=x.flows E.F E.C day Fd.2:=⟨_,rfl⟩
 have KE:Hid (∀ W2,Fd.1 ≠ 0→Below W0.heap.size W0 W2→FlP w R0 (.panicked (Zjh Fd.1)) W2):=Lh fun W2 hF hb=>by
  rw [hR0,andR,if_pos hF];exact ⟨Hb0.out.trans (hb.mono hz1),.inr ⟨hF,rfl⟩⟩
 have C1:Hid (∀ W,Fd.1=0→Below W0.heap.size W0 W→Calls _ _ _ W fun e w'=>FlP w R0 e w'∧Below W.heap.size W w'∧((∃ ad cap,e = .returned (.slice ad R.2.length cap))∨e = .panicked (Zjh R.1))):=Lh fun W hF hb =>
  (HC.out W day Fd.2 (Hb0.out.trans (hb.mono hz1)) hd0 (by have:=(hbd hF).2;omega)).mono fun e w' q=>⟨by rw [hR0,andR,if_neg (fun k=>k hF)];exact q.at (Hb0.out.trans (hb.mono hz1)),q.1,by
   rcases q with ⟨_,⟨_,v,rfl,⟨ad,cap,rfl⟩,_⟩ | ⟨_,rfl⟩⟩
   ·exact .inl ⟨ad,cap,by rw [hR]⟩
   ·exact .inr (by rw [hR])⟩
 clear h hH0 hB0 HB0 hn hk hl HX hd0 hf1 HC hF hr hS hc hds hdays hb0 hFd hcn q11 q9 c0 c1 c2 c3 c4 c5 c6 c7 c8 c9 c10 c11 v0 v1 hbd hA hR0 hR;go_enter Tryz.func43,Tryz.ntmps43
 go_upto_region 1 with (fail);clear hW0;go_wp2_with fail;refine Zbb (fun L a w'=>∃ (v0 v1 v2 v3 v4 v5 v6 v7 v8 v9 v10 v11 v12:Value),a=⟨#[.agg #[.int .u8 c.k,.string c.fr,.string c.rc,.string c.nm,.int .u8 c.ex.k,.string c.ex.ra,.string c.ex.nm,.int .i64 c.ex.d,.slice a1 c.ex.sub.length n1,.int .i64 c.d,.slice a2 c.ds.length n2,.slice (some ⟨b,off,none⟩) c.sub.length n3],.int .i64 day,.int .i64 fin,.agg #[.slice E.af E.F.length E.cf,.slice E.ac E.C.length E.cc],.pointer (some ⟨w.heap.size,0,none⟩),.pointer (some ⟨w.heap.size+1,0,none⟩),.pointer (some ⟨w.heap.size+1+1,0,none⟩),.pointer (some ⟨w.heap.size+1+1+1,0,none⟩),v12,.func (.func 83) #[] #[.pointer (some ⟨w.heap.size+1+1+1,0,none⟩),.pointer (some ⟨w.heap.size,0,none⟩)],.func (.func 84) #[] #[.pointer (some ⟨w.heap.size,0,none⟩),.pointer (some ⟨w.heap.size+1+1+1,0,none⟩)],.func (.func 87) #[] #[.pointer (some ⟨w.heap.size,0,none⟩),.pointer (some ⟨w.heap.size+1,0,none⟩),.pointer (some ⟨w.heap.size+1+1+1,0,none⟩)],.func (.func 90) #[] #[.pointer (some ⟨w.heap.size,0,none⟩),.pointer (some ⟨w.heap.size+1,0,none⟩),.pointer (some ⟨w.heap.size+1+1,0,none⟩),.pointer (some ⟨w.heap.size+1+1+1,0,none⟩)],undef,undef,undef,undef,.int .i64 day,.int .i64 fin,.bool false,.func (.func 83) #[] #[.pointer (some ⟨w.heap.size+1+1+1,0,none⟩),.pointer (some ⟨w.heap.size,0,none⟩)],.func (.func 84) #[] #[.pointer (some ⟨w.heap.size,0,none⟩),.pointer (some ⟨w.heap.size+1+1+1,0,none⟩)],.func (.func 87) #[] #[.pointer (some ⟨w.heap.size,0,none⟩),.pointer (some ⟨w.heap.size+1,0,none⟩),.pointer (some ⟨w.heap.size+1+1+1,0,none⟩)],.func (.func 90) #[] #[.pointer (some ⟨w.heap.size,0,none⟩),.pointer (some ⟨w.heap.size+1,0,none⟩),.pointer (some ⟨w.heap.size+1+1,0,none⟩),.pointer (some ⟨w.heap.size+1+1+1,0,none⟩)],.pointer (some ⟨w.heap.size,0,none⟩),.int .u8 c.k,.bool false,.bool false,undef,undef,undef,undef,undef,undef,undef,undef,undef,undef,.bool false,.bool false,undef,undef,undef,undef,undef,.bool false,.bool false,undef,undef,undef,undef,undef,undef,undef,undef,undef,undef,undef,undef,undef,undef,undef,undef,undef,undef,undef,undef,undef,undef,undef,undef,undef,undef,undef,undef,undef,.bool false,.bool false,undef,undef,undef,undef,undef,undef,.bool false,.bool false,undef,undef,undef,undef,undef,undef,.bool false,.bool false,undef,undef,undef,undef,undef,undef,undef,undef,undef,undef,undef,undef,undef,.bool false,.bool false,undef,undef,undef,undef,undef,undef,undef,undef,undef,undef,undef,undef,.bool true,.bool true,v0,v1,v2,v3,v4,v5,v6,v7,v8,v9,v10,v11,undef,undef,undef,undef,undef,undef,undef,undef,undef,undef,undef,undef,undef,undef],[]⟩∧VInv W0 [.pointer (some ⟨w.heap.size,11,none⟩),.slice (some ⟨b,off,none⟩) c.sub.length n3,.pointer (some ⟨b,off,none⟩),.agg #[.int .u8 x.k,.string x.fr,.string x.rc,.string x.nm,.int .u8 x.ex.k,.string x.ex.ra,.string x.ex.nm,.int .i64 x.ex.d,.slice e1 x.ex.sub.length m1,.int .i64 x.d,.slice e2 x.ds.length m2,.slice e3 x.sub.length m3],.int .i64 day,.agg #[.int .u8 c.k,.string c.fr,.string c.rc,.string c.nm,.int .u8 c.ex.k,.string c.ex.ra,.string c.ex.nm,.int .i64 c.ex.d,.slice a1 c.ex.sub.length n1,.int .i64 c.d,.slice a2 c.ds.length n2,.slice (some ⟨b,off,none⟩) c.sub.length n3],.int .i64 day,.int .i64 fin,.func (.func 84) #[] #[.pointer (some ⟨w.heap.size,0,none⟩),.pointer (some ⟨w.heap.size+1+1+1,0,none⟩)],.int .i64 Fd.2,.agg #[.slice E.af E.F.length E.cf,.slice E.ac E.C.length E.cc],v11,v11] [v0,v1,v2,v3,v4,v5,v6,v7,v8,v9,v10,v11,v12] L w'∧(L 9=true→Fd.1=0)∧(L 11=true→(∃ ad cap,v11 = .slice ad R.2.length cap)∧FlP w R0 (.returned v11) w')) (by kernel_rfl) (by kernel_rfl) ?_ ?_ ?_
 ·exact ⟨_,_,_,_,_,_,_,_,_,_,_,_,_,rfl,VInv.start (below_drewN (Below.refl _ _) 1) rfl,fun e=>(by cases e),fun e=>(by cases e)⟩
 ·rintro L a w' ⟨v0,v1,v2,v3,v4,v5,v6,v7,v8,v9,v10,v11,v12,rfl,h,hx⟩ hcl i o ho hL hp;have hi9:i < 13:=by simpa using (Array.getElem?_eq_some_iff.1 ho).1
  have hi2:i=0∨i=1∨i=2∨i=3∨i=4∨i=5∨i=6∨i=7∨i=8∨i=9∨i=10∨i=11∨i=12:=by omega
  clear hi9;obtain ⟨z0,z1,z2,z3,z4,z5,z6,z7,z8,z9,z10,z11,z12,z13,z14,z15,z16,z17,z18,z19,z20,z21,z22,z23,z24,z25,z26,z27⟩:=HK.out.keep h.b;rcases hi2 with rfl | rfl | rfl | rfl | rfl | rfl | rfl | rfl | rfl | rfl | rfl | rfl | rfl
  ·refine wpOp_step rfl ?_;intro K hK;go_simp;exact hK _ _ ⟨_,_,_,_,_,_,_,_,_,_,_,_,_,rfl,h.step (i:=0) rfl,fun e=>hx.1 (by simpa [upd] using e),fun e=>hx.2 (by simpa [upd] using e)⟩
  ·refine wpOp_step rfl ?_;intro K hK;obtain rfl:=h.at (i:=0) (Zaa ho hp (j:=0) (by kernel_rfl)) rfl rfl;go_simp;exact hK _ _ ⟨_,_,_,_,_,_,_,_,_,_,_,_,_,rfl,h.step (i:=1) rfl,fun e=>hx.1 (by simpa [upd] using e),fun e=>hx.2 (by simpa [upd] using e)⟩
  ·refine wpOp_step rfl ?_;intro K hK;obtain rfl:=h.at (i:=1) (Zaa ho hp (j:=1) (by kernel_rfl)) rfl rfl;go_simp;exact hK _ _ ⟨_,_,_,_,_,_,_,_,_,_,_,_,_,rfl,h.step (i:=2) rfl,fun e=>hx.1 (by simpa [upd] using e),fun e=>hx.2 (by simpa [upd] using e)⟩
  ·refine wpOp_step rfl ?_;intro K hK;obtain rfl:=h.at (i:=2) (Zaa ho hp (j:=2) (by kernel_rfl)) rfl rfl;go_simp;exact hK _ _ ⟨_,_,_,_,_,_,_,_,_,_,_,_,_,rfl,h.step (i:=3) rfl,fun e=>hx.1 (by simpa [upd] using e),fun e=>hx.2 (by simpa [upd] using e)⟩
  ·refine wpOp_step rfl ?_;intro K hK;go_simp;exact hK _ _ ⟨_,_,_,_,_,_,_,_,_,_,_,_,_,rfl,h.step (i:=4) rfl,fun e=>hx.1 (by simpa [upd] using e),fun e=>hx.2 (by simpa [upd] using e)⟩
  ·refine wpOp_step rfl ?_;intro K hK;go_simp;exact hK _ _ ⟨_,_,_,_,_,_,_,_,_,_,_,_,_,rfl,h.step (i:=5) rfl,fun e=>hx.1 (by simpa [upd] using e),fun e=>hx.2 (by simpa [upd] using e)⟩
  ·refine wpOp_step rfl ?_;intro K hK;go_simp;exact hK _ _ ⟨_,_,_,_,_,_,_,_,_,_,_,_,_,rfl,h.step (i:=6) rfl,fun e=>hx.1 (by simpa [upd] using e),fun e=>hx.2 (by simpa [upd] using e)⟩
  ·refine wpOp_step rfl ?_;intro K hK;go_simp;exact hK _ _ ⟨_,_,_,_,_,_,_,_,_,_,_,_,_,rfl,h.step (i:=7) rfl,fun e=>hx.1 (by simpa [upd] using e),fun e=>hx.2 (by simpa [upd] using e)⟩
  ·refine wpOp_step rfl ?_;intro K hK;go_simp;exact hK _ _ ⟨_,_,_,_,_,_,_,_,_,_,_,_,_,rfl,h.step (i:=8) rfl,fun e=>hx.1 (by simpa [upd] using e),fun e=>hx.2 (by simpa [upd] using e)⟩
  ·refine wpOp_step rfl ?_;intro K hK;obtain rfl:=h.at (i:=5) (Zaa ho hp (j:=5) (by kernel_rfl)) rfl rfl;obtain rfl:=h.at (i:=6) (Zaa ho hp (j:=6) (by kernel_rfl)) rfl rfl;obtain rfl:=h.at (i:=7) (Zaa ho hp (j:=7) (by kernel_rfl)) rfl rfl;obtain rfl:=h.at (i:=8) (Zaa ho hp (j:=8) (by kernel_rfl)) rfl rfl;go_simp;refine (HFi.out w' h.b).mono ?_;rintro e w4 ⟨rfl,hb4⟩;by_cases hF:Fd.1=0
   ·rw [hF,Zfn];exact hK _ _ ⟨_,_,_,_,_,_,_,_,_,_,_,_,_,rfl,(h.ext hb4).step (i:=9) (v:=.int .i64 Fd.2) rfl,fun _=>hF,fun e=>absurd (Zcx hcl (show L 11=true by simpa [upd] using e) (j:=9) (by kernel_rfl)) (by rw [hL];exact Bool.false_ne_true)⟩
   ·rw [Zcf hF];exact ⟨rfl,KE.out _ hF (h.b.trans (hb4.mono h.b.size))⟩
  ·refine wpOp_step rfl ?_;intro K hK;go_simp;exact hK _ _ ⟨_,_,_,_,_,_,_,_,_,_,_,_,_,rfl,h.step (i:=10) rfl,fun e=>hx.1 (by simpa [upd] using e),fun e=>hx.2 (by simpa [upd] using e)⟩
  ·refine wpOp_step rfl ?_;intro K hK;obtain rfl:=h.at (i:=3) (Zaa ho hp (j:=3) (by kernel_rfl)) rfl rfl;obtain rfl:=h.at (i:=4) (Zaa ho hp (j:=4) (by kernel_rfl)) rfl rfl;obtain rfl:=h.at (i:=9) (Zaa ho hp (j:=9) (by kernel_rfl)) rfl rfl;obtain rfl:=h.at (i:=10) (Zaa ho hp (j:=10) (by kernel_rfl)) rfl rfl;go_simp;refine (C1.out w' (hx.1 (Zaa ho hp (j:=9) (by kernel_rfl))) h.b).mono ?_;rintro e w4 ⟨h3,hb4,⟨ad,cap,rfl⟩ | rfl⟩
   ·exact hK _ _ ⟨_,_,_,_,_,_,_,_,_,_,_,_,_,rfl,VInv.step (i:=11) (v:=.slice ad R.2.length cap) (((h.ext hb4).late hL (.slice ad R.2.length cap)).late (Zba hcl hL 12 (by kernel_rfl)) (.slice ad R.2.length cap)) rfl,fun e=>hx.1 (by simpa [upd] using e),fun _=>⟨⟨_,_,rfl⟩,h3⟩⟩
   ·exact ⟨rfl,h3⟩
  ·refine wpOp_step rfl ?_;intro K hK;go_simp;exact hK _ _ ⟨_,_,_,_,_,_,_,_,_,_,_,_,_,rfl,h.step (i:=12) (v:=v11) rfl,fun e=>hx.1 (by simpa [upd] using e),fun e=>hx.2 (by simpa [upd] using e)⟩
 ·rintro L a w1 ⟨v0,v1,v2,v3,v4,v5,v6,v7,v8,v9,v10,v11,v12,rfl,h,hx⟩ hall;obtain ⟨⟨ad,cap,rfl⟩,hf⟩:=hx.2 (hall 11 (by decide));obtain rfl:=h.at (i:=12) (hall 12 (by decide)) rfl rfl;have HF:=Lh hf;clear hf hx hall h C1 HFi HK KE;go_wp2;go_ret;exact HF.out
theorem Zto (c:Con) (hk:c.k=10) (a1 a2 a3:Option Addr) (n1 n2 n3:Nat) (day fin:Int) (E:EvD) (w:World) (h:FlH c (.slice a1 c.ex.sub.length n1) (.slice a2 c.ds.length n2) (.slice a3 c.sub.length n3) E w) (hd0:0≤day) (hf1:fin≤100000) (hn : ¬ fin≤day) (x:Con) (hds:Zbi c.ds=true) (hA:c.ex.isA 2=true) (hl:c.sub=[x]) (HX:PF E x) :
  Calls Tryz.prog 43 #[.agg #[.int .u8 c.k,.string c.fr,.string c.rc,.string c.nm,.int .u8 c.ex.k,.string c.ex.ra,.string c.ex.nm,.int .i64 c.ex.d,.slice a1 c.ex.sub.length n1,.int .i64 c.d,.slice a2 c.ds.length n2,.slice a3 c.sub.length n3],.int .i64 day,.int .i64 fin,.agg #[.slice E.af E.F.length E.cf,.slice E.ac E.C.length E.cc]] w (FlP w (andR (Zax (fun e=>c.ex.hold E.F e) day fin c.ds) [] fun q=>x.flows E.F E.C q fin)):=by
 obtain ⟨W0,hW0,hb0,hz0,hB0⟩:=Zdl w c (.slice a1 c.ex.sub.length n1) (.slice a2 c.ds.length n2) (.slice a3 c.sub.length n3) day fin E;have hmf:∀ (fn:Fn) (first cap:Array Value) (w:World),(Instr.makeFunc fn first cap).run Tryz.prog w = .ok (.func fn first cap) w:=fun _ _ _ _=>rfl
 have ck:=hB0.c.cell (j:=0) (u:=.int .u8 c.k) rfl;have d0:=hB0.d.cell (j:=0) (u:=.int .i64 day) rfl;have f0:=hB0.f.cell (j:=0) (u:=.int .i64 fin) rfl;have HB0:=Lh hB0;have hH0:=h.frame hb0;have Hb0:=Lh hb0;have hn2:decide (fin≤day)=false:=decide_eq_false hn;have tk2:((c.k:Int) == 2)=false:=by rw [hk];rfl
 have tk3:((c.k:Int) == 3)=false:=by rw [hk];rfl
 have tk4:((c.k:Int) == 4)=false:=by rw [hk];rfl
 have tk5:((c.k:Int) == 5)=false:=by rw [hk];rfl
 have tk7:((c.k:Int) == 7)=false:=by rw [hk];rfl
 have tk6:((c.k:Int) == 6)=false:=by rw [hk];rfl
 have tk8:((c.k:Int) == 8)=false:=by rw [hk];rfl
 have tk9:((c.k:Int) == 9)=false:=by rw [hk];rfl
 have tk10:((c.k:Int) == 10)=true:=by rw [hk];rfl
 have hS:=h.rd.2.2.1;rw [hl] at hS;obtain ⟨b,off,rfl⟩:=hS.addr (by simp);obtain ⟨e1,m1,e2,m2,e3,m3,hr,hbl,hc⟩:=hS.nth (j:=0) rfl off (by omega);have hF:=h.sub (x:=x) (by rw [hl];simp) hr;have HC:=Lh fun W (dy:Int) (fi:Int) (hb:Below w.heap.size w W) (h0:0≤dy) (h1:fi≤100000)=>HX _ _ _ dy fi W (hF.frame hb) h0 h1
 have q11:=hB0.c.cell (j:=11) (u:=.slice (some ⟨b,off,none⟩) c.sub.length n3) rfl;have q9:=hB0.c.cell (j:=9) (u:=.int .i64 c.d) rfl;have v0:=hB0.v.cell (j:=0) (u:=.slice E.af E.F.length E.cf) rfl;have v1:=hB0.v.cell (j:=1) (u:=.slice E.ac E.C.length E.cc) rfl;obtain ⟨c0,c1,c2,c3,c4,c5,c6,c7,c8,c9,c10,c11⟩:=hc W0 hb0;have hn5:0 < c.sub.length:=by rw [hl];simp
 have hn6:(0:Int) < (c.sub.length:Int):=by omega
 have hbl0:b < W0.heap.size:=by have:=hb0.size;omega
 have hcn:c.ds.length≤1100000:=by have:=c.bulk_eq;have:=h.bulk;omega
 have hdays:=Zm0 hds;have HFi:=Lh fun W (hb:Below W0.heap.size W0 W)=>Zly c (.slice a1 c.ex.sub.length n1) (.slice a2 c.ds.length n2) (.slice (some ⟨b,off,none⟩) c.sub.length n3) day fin (fun e=>c.ex.hold E.F e) w.heap.size W (hH0.frame hb).rd hcn
   (fun d hd W' hb'=>Zhb d c _ _ _ day fin E w.heap.size W' ((HB0.out.below hb).below hb') ((hH0.frame hb).frame hb') hA (hdays d hd))
 have HK:Hid (FlA w W0 c x a1 a2 e1 e2 e3 n1 n2 n3 m1 m2 m3 b off day fin E) :=
  Lh ⟨hB0.c.cell (j:=0) rfl,hB0.c.cell (j:=1) rfl,hB0.c.cell (j:=2) rfl,hB0.c.cell (j:=3) rfl,hB0.c.cell (j:=4) rfl,hB0.c.cell (j:=5) rfl,hB0.c.cell (j:=6) rfl,hB0.c.cell (j:=7) rfl,hB0.c.cell (j:=8) rfl,hB0.c.cell (j:=9) rfl,hB0.c.cell (j:=10) rfl,hB0.c.cell (j:=11) rfl,c0,c1,c2,c3,c4,c5,c6,c7,c8,c9,c10,c11,d0,f0,v0,v1⟩
 have hz1:w.heap.size≤W0.heap.size:=hb0.size;obtain ⟨Fd,hFd⟩:∃ F,F=Zax (fun e=>c.ex.hold E.F e) day fin c.ds:=⟨_,rfl⟩
 have hbd:=Ze0 (fun e=>c.ex.hold E.F e) day fin (by omega) c.ds;rw [← hFd] at HFi hbd ⊢;obtain ⟨R0,hR0⟩:∃ R0,R0=(andR Fd [] fun q=>x.flows E.F E.C q fin):=⟨_,rfl⟩
 rw [← hR0];obtain ⟨R,hR⟩:∃ R,R=x.flows E.F E.C Fd.2 fin:=⟨_,rfl⟩
 have KE:Hid (∀ W2,Fd.1 ≠ 0→Below W0.heap.size W0 W2→FlP w R0 (.panicked (Zjh Fd.1)) W2):=Lh fun W2 hF hb=>by
  rw [hR0,andR,if_pos hF];exact ⟨Hb0.out.trans (hb.mono hz1),.inr ⟨hF,rfl⟩⟩
 have C1:Hid (∀ W,Fd.1=0→Below W0.heap.size W0 W→Calls _ _ _ W fun e w'=>FlP w R0 e w'∧Below W.heap.size W w'∧((∃ ad cap,e = .returned (.slice ad R.2.length cap))∨e = .panicked (Zjh R.1))):=Lh fun W hF hb =>
  (HC.out W Fd.2 fin (Hb0.out.trans (hb.mono hz1)) (by have:=(hbd hF).1;omega) hf1).mono fun e w' q=>⟨by rw [hR0,andR,if_neg (fun k=>k hF)];exact q.at (Hb0.out.trans (hb.mono hz1)),q.1,by
   rcases q with ⟨_,⟨_,v,rfl,⟨ad,cap,rfl⟩,_⟩ | ⟨_,rfl⟩⟩
   ·exact .inl ⟨ad,cap,by rw [hR]⟩
   ·exact .inr (by rw [hR])⟩
 clear h hH0 hB0 HB0 hn hk hl HX hd0 hf1 HC hF hr hS hc hds hdays hb0 hFd hcn q11 q9 c0 c1 c2 c3 c4 c5 c6 c7 c8 c9 c10 c11 v0 v1 hbd hA hR0 hR;go_enter Tryz.func43,Tryz.ntmps43
 go_upto_region 1 with (fail);clear hW0;go_wp2_with fail;refine Zbb (fun L a w'=>∃ (v0 v1 v2 v3 v4 v5 v6 v7 v8 v9 v10 v11 v12:Value),a=⟨#[.agg #[.int .u8 c.k,.string c.fr,.string c.rc,.string c.nm,.int .u8 c.ex.k,.string c.ex.ra,.string c.ex.nm,.int .i64 c.ex.d,.slice a1 c.ex.sub.length n1,.int .i64 c.d,.slice a2 c.ds.length n2,.slice (some ⟨b,off,none⟩) c.sub.length n3],.int .i64 day,.int .i64 fin,.agg #[.slice E.af E.F.length E.cf,.slice E.ac E.C.length E.cc],.pointer (some ⟨w.heap.size,0,none⟩),.pointer (some ⟨w.heap.size+1,0,none⟩),.pointer (some ⟨w.heap.size+1+1,0,none⟩),.pointer (some ⟨w.heap.size+1+1+1,0,none⟩),v12,.func (.func 83) #[] #[.pointer (some ⟨w.heap.size+1+1+1,0,none⟩),.pointer (some ⟨w.heap.size,0,none⟩)],.func (.func 84) #[] #[.pointer (some ⟨w.heap.size,0,none⟩),.pointer (some ⟨w.heap.size+1+1+1,0,none⟩)],.func (.func 87) #[] #[.pointer (some ⟨w.heap.size,0,none⟩),.pointer (some ⟨w.heap.size+1,0,none⟩),.pointer (some ⟨w.heap.size+1+1+1,0,none⟩)],.func (.func 90) #[] #[.pointer (some ⟨w.heap.size,0,none⟩),.pointer (some ⟨w.heap.size+1,0,none⟩),.pointer (some ⟨w.heap.size+1+1,0,none⟩),.pointer (some ⟨w.heap.size+1+1+1,0,none⟩)],undef,undef,undef,undef,.int .i64 day,.int .i64 fin,.bool false,.func (.func 83) #[] #[.pointer (some ⟨w.heap.size+1+1+1,0,none⟩),.pointer (some ⟨w.heap.size,0,none⟩)],.func (.func 84) #[] #[.pointer (some ⟨w.heap.size,0,none⟩),.pointer (some ⟨w.heap.size+1+1+1,0,none⟩)],.func (.func 87) #[] #[.pointer (some ⟨w.heap.size,0,none⟩),.pointer (some ⟨w.heap.size+1,0,none⟩),.pointer (some ⟨w.heap.size+1+1+1,0,none⟩)],.func (.func 90) #[] #[.pointer (some ⟨w.heap.size,0,none⟩),.pointer (some ⟨w.heap.size+1,0,none⟩),.pointer (some ⟨w.heap.size+1+1,0,none⟩),.pointer (some ⟨w.heap.size+1+1+1,0,none⟩)],.pointer (some ⟨w.heap.size,0,none⟩),.int .u8 c.k,.bool false,.bool false,undef,undef,undef,undef,undef,undef,undef,undef,undef,undef,.bool false,.bool false,undef,undef,undef,undef,undef,.bool false,.bool false,undef,undef,undef,undef,undef,undef,undef,undef,undef,undef,undef,undef,undef,undef,undef,undef,undef,undef,undef,undef,undef,undef,undef,undef,undef,undef,undef,undef,undef,.bool false,.bool false,undef,undef,undef,undef,undef,undef,.bool false,.bool false,undef,undef,undef,undef,undef,undef,.bool false,.bool false,undef,undef,undef,undef,undef,undef,undef,undef,undef,undef,undef,undef,undef,.bool false,.bool false,undef,undef,undef,undef,undef,undef,undef,undef,undef,undef,undef,undef,.bool false,.bool false,undef,undef,undef,undef,undef,undef,undef,undef,undef,undef,undef,undef,.bool true,.bool true,v0,v1,v2,v3,v4,v5,v6,v7,v8,v9,v10,v11],[]⟩∧VInv W0 [.pointer (some ⟨w.heap.size,11,none⟩),.slice (some ⟨b,off,none⟩) c.sub.length n3,.pointer (some ⟨b,off,none⟩),.agg #[.int .u8 x.k,.string x.fr,.string x.rc,.string x.nm,.int .u8 x.ex.k,.string x.ex.ra,.string x.ex.nm,.int .i64 x.ex.d,.slice e1 x.ex.sub.length m1,.int .i64 x.d,.slice e2 x.ds.length m2,.slice e3 x.sub.length m3],.agg #[.int .u8 c.k,.string c.fr,.string c.rc,.string c.nm,.int .u8 c.ex.k,.string c.ex.ra,.string c.ex.nm,.int .i64 c.ex.d,.slice a1 c.ex.sub.length n1,.int .i64 c.d,.slice a2 c.ds.length n2,.slice (some ⟨b,off,none⟩) c.sub.length n3],.int .i64 day,.int .i64 fin,.func (.func 84) #[] #[.pointer (some ⟨w.heap.size,0,none⟩),.pointer (some ⟨w.heap.size+1+1+1,0,none⟩)],.int .i64 Fd.2,.int .i64 fin,.agg #[.slice E.af E.F.length E.cf,.slice E.ac E.C.length E.cc],v11,v11] [v0,v1,v2,v3,v4,v5,v6,v7,v8,v9,v10,v11,v12] L w'∧(L 8=true→Fd.1=0)∧(L 11=true→(∃ ad cap,v11 = .slice ad R.2.length cap)∧FlP w R0 (.returned v11) w')) (by kernel_rfl) (by kernel_rfl) ?_ ?_ ?_
 ·exact ⟨_,_,_,_,_,_,_,_,_,_,_,_,_,rfl,VInv.start (below_drewN (Below.refl _ _) 1) rfl,fun e=>(by cases e),fun e=>(by cases e)⟩
 ·rintro L a w' ⟨v0,v1,v2,v3,v4,v5,v6,v7,v8,v9,v10,v11,v12,rfl,h,hx⟩ hcl i o ho hL hp;have hi9:i < 13:=by simpa using (Array.getElem?_eq_some_iff.1 ho).1
  have hi2:i=0∨i=1∨i=2∨i=3∨i=4∨i=5∨i=6∨i=7∨i=8∨i=9∨i=10∨i=11∨i=12:=by omega
  clear hi9;obtain ⟨z0,z1,z2,z3,z4,z5,z6,z7,z8,z9,z10,z11,z12,z13,z14,z15,z16,z17,z18,z19,z20,z21,z22,z23,z24,z25,z26,z27⟩:=HK.out.keep h.b;rcases hi2 with rfl | rfl | rfl | rfl | rfl | rfl | rfl | rfl | rfl | rfl | rfl | rfl | rfl
  ·refine wpOp_step rfl ?_;intro K hK;go_simp;exact hK _ _ ⟨_,_,_,_,_,_,_,_,_,_,_,_,_,rfl,h.step (i:=0) rfl,fun e=>hx.1 (by simpa [upd] using e),fun e=>hx.2 (by simpa [upd] using e)⟩
  ·refine wpOp_step rfl ?_;intro K hK;obtain rfl:=h.at (i:=0) (Zaa ho hp (j:=0) (by kernel_rfl)) rfl rfl;go_simp;exact hK _ _ ⟨_,_,_,_,_,_,_,_,_,_,_,_,_,rfl,h.step (i:=1) rfl,fun e=>hx.1 (by simpa [upd] using e),fun e=>hx.2 (by simpa [upd] using e)⟩
  ·refine wpOp_step rfl ?_;intro K hK;obtain rfl:=h.at (i:=1) (Zaa ho hp (j:=1) (by kernel_rfl)) rfl rfl;go_simp;exact hK _ _ ⟨_,_,_,_,_,_,_,_,_,_,_,_,_,rfl,h.step (i:=2) rfl,fun e=>hx.1 (by simpa [upd] using e),fun e=>hx.2 (by simpa [upd] using e)⟩
  ·refine wpOp_step rfl ?_;intro K hK;obtain rfl:=h.at (i:=2) (Zaa ho hp (j:=2) (by kernel_rfl)) rfl rfl;go_simp;exact hK _ _ ⟨_,_,_,_,_,_,_,_,_,_,_,_,_,rfl,h.step (i:=3) rfl,fun e=>hx.1 (by simpa [upd] using e),fun e=>hx.2 (by simpa [upd] using e)⟩
  ·refine wpOp_step rfl ?_;intro K hK;go_simp;exact hK _ _ ⟨_,_,_,_,_,_,_,_,_,_,_,_,_,rfl,h.step (i:=4) rfl,fun e=>hx.1 (by simpa [upd] using e),fun e=>hx.2 (by simpa [upd] using e)⟩
  ·refine wpOp_step rfl ?_;intro K hK;go_simp;exact hK _ _ ⟨_,_,_,_,_,_,_,_,_,_,_,_,_,rfl,h.step (i:=5) rfl,fun e=>hx.1 (by simpa [upd] using e),fun e=>hx.2 (by simpa [upd] using e)⟩
  ·refine wpOp_step rfl ?_;intro K hK;go_simp;exact hK _ _ ⟨_,_,_,_,_,_,_,_,_,_,_,_,_,rfl,h.step (i:=6) rfl,fun e=>hx.1 (by simpa [upd] using e),fun e=>hx.2 (by simpa [upd] using e)⟩
  ·refine wpOp_step rfl ?_;intro K hK;go_simp;exact hK _ _ ⟨_,_,_,_,_,_,_,_,_,_,_,_,_,rfl,h.step (i:=7) rfl,fun e=>hx.1 (by simpa [upd] using e),fun e=>hx.2 (by simpa [upd] using e)⟩
  ·refine wpOp_step rfl ?_;intro K hK;obtain rfl:=h.at (i:=4) (Zaa ho hp (j:=4) (by kernel_rfl)) rfl rfl;obtain rfl:=h.at (i:=5) (Zaa ho hp (j:=5) (by kernel_rfl)) rfl rfl;obtain rfl:=h.at (i:=6) (Zaa ho hp (j:=6) (by kernel_rfl)) rfl rfl;obtain rfl:=h.at (i:=7) (Zaa ho hp (j:=7) (by kernel_rfl)) rfl rfl;go_simp;refine (HFi.out w' h.b).mono ?_;rintro e w4 ⟨rfl,hb4⟩;by_cases hF:Fd.1=0
   ·rw [hF,Zfn];exact hK _ _ ⟨_,_,_,_,_,_,_,_,_,_,_,_,_,rfl,(h.ext hb4).step (i:=8) (v:=.int .i64 Fd.2) rfl,fun _=>hF,fun e=>absurd (Zcx hcl (show L 11=true by simpa [upd] using e) (j:=8) (by kernel_rfl)) (by rw [hL];exact Bool.false_ne_true)⟩
   ·rw [Zcf hF];exact ⟨rfl,KE.out _ hF (h.b.trans (hb4.mono h.b.size))⟩
  ·refine wpOp_step rfl ?_;intro K hK;go_simp;exact hK _ _ ⟨_,_,_,_,_,_,_,_,_,_,_,_,_,rfl,h.step (i:=9) rfl,fun e=>hx.1 (by simpa [upd] using e),fun e=>hx.2 (by simpa [upd] using e)⟩
  ·refine wpOp_step rfl ?_;intro K hK;go_simp;exact hK _ _ ⟨_,_,_,_,_,_,_,_,_,_,_,_,_,rfl,h.step (i:=10) rfl,fun e=>hx.1 (by simpa [upd] using e),fun e=>hx.2 (by simpa [upd] using e)⟩
  ·refine wpOp_step rfl ?_;intro K hK;obtain rfl:=h.at (i:=3) (Zaa ho hp (j:=3) (by kernel_rfl)) rfl rfl;obtain rfl:=h.at (i:=8) (Zaa ho hp (j:=8) (by kernel_rfl)) rfl rfl;obtain rfl:=h.at (i:=9) (Zaa ho hp (j:=9) (by kernel_rfl)) rfl rfl;obtain rfl:=h.at (i:=10) (Zaa ho hp (j:=10) (by kernel_rfl)) rfl rfl;go_simp;refine (C1.out w' (hx.1 (Zaa ho hp (j:=8) (by kernel_rfl))) h.b).mono ?_;rintro e w4 ⟨h3,hb4,⟨ad,cap,rfl⟩ | rfl⟩
   ·exact hK _ _ ⟨_,_,_,_,_,_,_,_,_,_,_,_,_,rfl,VInv.step (i:=11) (v:=.slice ad R.2.length cap) (((h.ext hb4).late hL (.slice ad R.2.length cap)).late (Zba hcl hL 12 (by kernel_rfl)) (.slice ad R.2.length cap)) rfl,fun e=>hx.1 (by simpa [upd] using e),fun _=>⟨⟨_,_,rfl⟩,h3⟩⟩
   ·exact ⟨rfl,h3⟩
  ·refine wpOp_step rfl ?_;intro K hK;go_simp;exact hK _ _ ⟨_,_,_,_,_,_,_,_,_,_,_,_,_,rfl,h.step (i:=12) (v:=v11) rfl,fun e=>hx.1 (by simpa [upd] using e),fun e=>hx.2 (by simpa [upd] using e)⟩
 ·rintro L a w1 ⟨v0,v1,v2,v3,v4,v5,v6,v7,v8,v9,v10,v11,v12,rfl,h,hx⟩ hall;obtain ⟨⟨ad,cap,rfl⟩,hf⟩:=hx.2 (hall 11 (by decide));obtain rfl:=h.at (i:=12) (hall 12 (by decide)) rfl rfl;have HF:=Lh hf;clear hf hx hall h C1 HFi HK KE;go_wp2;go_ret;exact HF.out
def amS (l:List Fl):Prop:=∀ f ∈ l,f.am.size≤1000000
theorem Zsc {d:Int} {fr rc cy am:ByteArray} (h:am.size≤1000000):amS (Zcd d fr rc cy am):=by
 intro f hf;unfold Zcd at hf;split at hf
 ·cases hf
 ·split at hf
  ·rw [List.mem_singleton] at hf;subst hf
   show (mkB _).size≤_;rw [Ze2,List.length_drop,Zae];omega
  ·rw [List.mem_singleton] at hf;subst hf;exact h
theorem Ze7 {α:Type} {a:Int × α} {f:α→Int × List Fl} (h:a.1=0→amS (f a.2).2):amS (andR a [] f).2:=by
 unfold andR;split
 ·intro f hf;cases hf
 ·next h0=>exact h (Decidable.not_not.1 h0)
theorem Zoy (k:ByteArray):∀ l:List Fl,amS (Za0 k l).2
 | []=>by intro f hf;cases hf
 | f :: l=>by
  unfold Za0;refine Ze7 fun _=>Ze7 fun _=>?_
  intro g hg;rcases List.mem_append.1 hg with hg | hg
  ·exact Zsc (Nat.le_trans (Zkn f.am k) (by decide)) g hg
  ·exact Zoy k l g hg
theorem Zm9 {F:List Fx} {C:List Ch} (hF:∀ f ∈ F,Zah f.vl=0):∀ (N:Nat) (c:Con),c.bulk≤N→c.formed=true→∀ day fin,amS (c.flows F C day fin).2
 | 0,c,hN,_=>by have:=c.sub_lt;omega
 | N+1,c,hN,hw=>fun day fin=>by
  have IH:∀ y ∈ c.sub,∀ day fin,amS (y.flows F C day fin).2:=fun y hy=>Zm9 hF N y (by have:=Con.mem_lt hy;omega) (by
   rw [Con.formed_eq,Bool.and_eq_true,Con.formeds_eq] at hw;exact List.all_eq_true.1 hw.2 y hy)
  have hcs:=Zj5 c hw;obtain ⟨k,fr,rc,nm,ex,d,ds,l⟩:=c;simp only [Con.k,Con.sub,Con.ex,Con.d,Con.ds] at hcs IH;unfold Con.flows;split
  ·intro f hf;cases hf
  ·rcases hcs with ⟨rfl,rfl⟩ | ⟨rfl,rfl,hA⟩ | ⟨rfl,x,y,rfl⟩ | ⟨rfl,hA,x,rfl⟩ | ⟨rfl,hA,x,y,rfl⟩ | ⟨rfl,hd,x,rfl⟩ | ⟨rfl,x,y,rfl⟩ | ⟨rfl,hd,x,rfl⟩ | ⟨hk,hd,hA,x,rfl⟩
   ·intro f hf;cases hf
   ·dsimp only
    rw [if_pos rfl];exact Ze7 fun h=>Zsc (Zjr hF day ex.bulk ex (Nat.le_refl _) (Zg1 hA).2 h).2
   ·dsimp only
    rw [if_pos rfl];refine Ze7 fun _=>Ze7 fun _=>?_
    intro f hf;rcases List.mem_append.1 hf with hf | hf
    ·exact IH x (by simp) _ _ f hf
    ·exact IH y (by simp) _ _ f hf
   ·dsimp only
    rw [if_pos rfl];exact Ze7 fun _=>Ze7 fun _=>Zoy _ _
   ·dsimp only
    rw [if_neg (by decide),if_pos rfl];refine Ze7 fun _=>?_
    split
    ·exact IH x (by simp) _ _
    ·exact IH y (by simp) _ _
   ·dsimp only
    rw [if_neg (by decide),if_pos rfl];split
    ·exact IH x (by simp) _ _
    ·intro f hf;cases hf
   ·dsimp only
    rw [if_neg (by decide),if_neg (by decide)];split
    ·exact IH x (by simp) _ _
    ·exact IH y (by simp) _ _
   ·dsimp only
    rw [if_neg (by decide),if_neg (by decide),if_pos rfl];exact IH x (by simp) _ _
   ·dsimp only
    rcases hk with rfl | rfl
    ·rw [if_neg (by decide),if_neg (by decide),if_neg (by decide),if_pos rfl];exact Ze7 fun _=>IH x (by simp) _ _
    ·rw [if_neg (by decide),if_neg (by decide),if_neg (by decide),if_neg (by decide)];exact Ze7 fun _=>IH x (by simp) _ _
theorem Zog:∀ (N:Nat) (c:Con) (E:EvD),c.bulk≤N→PF E c
 | 0,c,E,hN=>by have:=c.sub_lt;omega
 | N+1,c,E,hN=>fun es dd ss day fin W h h0 h1=>by
  have IH:∀ y ∈ c.sub,PF E y:=fun y hy=>Zog N y E (by have:=Con.mem_lt hy;omega)
  obtain ⟨a1,n1,rfl⟩:=h.rd.1.len;obtain ⟨a2,n2,rfl⟩:=h.rd.2.1.len;obtain ⟨a3,n3,rfl⟩:=h.rd.2.2.1.len;have hcs:=Zj5 c h.wf;have hbk:=c.bulk_eq;have hB:=h.bulk;have hlen:∀ x ∈ c.sub,∀ day fin,(x.flows E.F E.C day fin).2.length≤x.bulk:=fun x _=>Zff E.F E.C x.bulk x (Nat.le_refl _)
  have hwf:∀ x ∈ c.sub,x.formed=true:=fun x hx=>by
   have hw:=h.wf;rw [Con.formed_eq,Bool.and_eq_true,Con.formeds_eq] at hw;exact List.all_eq_true.1 hw.2 x hx
  by_cases hn:fin≤day
  ·have e:c.flows E.F E.C day fin=(0,[]):=by cases c;unfold Con.flows;rw [if_pos hn]
   rw [e];exact Zvz c a1 a2 a3 n1 n2 n3 day fin E W h hn
  ·rcases hcs with ⟨hk,hl⟩ | ⟨hk,hl,hA⟩ | ⟨hk,x,y,hl⟩ | ⟨hk,hA,x,hl⟩ | ⟨hk,hA,x,y,hl⟩ | ⟨hk,hd,x,hl⟩ | ⟨hk,x,y,hl⟩ | ⟨hk,hd,x,hl⟩ | ⟨hk,hd,hA,x,hl⟩
   ·have e:c.flows E.F E.C day fin=(0,[]):=by
     cases c;simp only [Con.k,Con.sub] at hk hl;subst hk hl;rw [Con.flows,if_neg hn];(try dsimp only);rw [if_neg (by decide)]
    rw [e];exact Ztp c hk a1 a2 a3 n1 n2 n3 day fin E W h hn
   ·have e:c.flows E.F E.C day fin=andR (c.ex.value E.F day) [] fun a=>(0,Zcd day c.fr c.rc c.nm a):=by
     cases c;simp only [Con.k,Con.sub] at hk hl;subst hk hl;rw [Con.flows,if_neg hn];(try dsimp only);rw [if_pos rfl];rfl
    rw [e];exact Zv0 c hk a1 a2 a3 n1 n2 n3 day fin E W h h0 h1 hn hA
   ·have e:c.flows E.F E.C day fin=andR (x.flows E.F E.C day fin) [] fun a=>andR (y.flows E.F E.C day fin) [] fun b=>(0,a ++ b):=by
     cases c;simp only [Con.k,Con.sub] at hk hl;subst hk hl;rw [Con.flows,if_neg hn];(try dsimp only);rw [if_pos rfl]
    rw [e];have l1:=hlen x (by rw [hl];simp) day fin;have l2:=hlen y (by rw [hl];simp) day fin;rw [hl] at hbk;simp only [Con.bulks] at hbk;exact Ztl c hk a1 a2 a3 n1 n2 n3 day fin E W h h0 h1 hn x y hl (IH x (by rw [hl];simp)) (IH y (by rw [hl];simp)) (by omega)
   ·have e:c.flows E.F E.C day fin=andR (c.ex.value E.F day) [] fun a=>andR (x.flows E.F E.C day fin) [] fun l=>Za0 a l:=by
     cases c;simp only [Con.k,Con.sub] at hk hl;subst hk hl;rw [Con.flows,if_neg hn];(try dsimp only);rw [if_pos rfl];rfl
    rw [e];exact Zqa c hk a1 a2 a3 n1 n2 n3 day fin E W h h0 h1 hn hA x hl (IH x (by rw [hl];simp)) (by have:=hlen x (by rw [hl];simp) day fin;have:=Con.mem_lt (x:=c) (y:=x) (by rw [hl];simp);omega) (Zm9 (Zel h.ok) x.bulk x (Nat.le_refl _) (hwf x (by rw [hl];simp)) day fin)
   ·have e:c.flows E.F E.C day fin=andR (c.ex.hold E.F day) [] fun b=>if b=true then x.flows E.F E.C day fin else y.flows E.F E.C day fin:=by
     cases c;simp only [Con.k,Con.sub] at hk hl;subst hk hl;rw [Con.flows,if_neg hn];(try dsimp only);rw [if_neg (by decide),if_pos rfl];rfl
    rw [e];exact Zy1 c hk a1 a2 a3 n1 n2 n3 day fin E W h h0 h1 hn hA x y hl (IH x (by rw [hl];simp)) (IH y (by rw [hl];simp))
   ·have e:c.flows E.F E.C day fin=if day≤c.d then x.flows E.F E.C c.d fin else (0,[]):=by
     cases c;simp only [Con.k,Con.sub] at hk hl;subst hk hl;rw [Con.flows,if_neg hn];(try dsimp only);rw [if_neg (by decide),if_pos rfl];rfl
    rw [e];exact Zy0 c hk a1 a2 a3 n1 n2 n3 day fin E W h h1 hn x hd hl (IH x (by rw [hl];simp))
   ·have e:c.flows E.F E.C day fin=if Za5 E.C c.fr c.nm day=true then x.flows E.F E.C day fin else y.flows E.F E.C day fin:=by
     cases c;simp only [Con.k,Con.sub] at hk hl;subst hk hl;rw [Con.flows,if_neg hn];(try dsimp only);rw [if_neg (by decide),if_neg (by decide)];rfl
    rw [e];exact Ztn c hk a1 a2 a3 n1 n2 n3 day fin E W h h0 h1 hn x y hl (IH x (by rw [hl];simp)) (IH y (by rw [hl];simp))
   ·have e:c.flows E.F E.C day fin=x.flows E.F E.C (Zax (fun e=>(0,Za5 E.C c.fr c.nm e)) day fin c.ds).2 fin:=by
     cases c;simp only [Con.k,Con.sub] at hk hl;subst hk hl;rw [Con.flows,if_neg hn];(try dsimp only);rw [if_neg (by decide),if_neg (by decide),if_pos rfl];rfl
    rw [e];exact Ztm c hk a1 a2 _ n1 n2 n3 day fin E W h h0 h1 hn x hd hl (IH x (by rw [hl];simp))
   ·rcases hk with hk | hk
    ·have e:c.flows E.F E.C day fin=andR (Zax (fun e=>c.ex.hold E.F e) day fin c.ds) [] fun q=>x.flows E.F E.C day q:=by
      cases c;simp only [Con.k,Con.sub] at hk hl;subst hk hl;rw [Con.flows,if_neg hn];(try dsimp only);rw [if_neg (by decide),if_neg (by decide),if_neg (by decide),if_pos rfl];rfl
     rw [e];exact Zqb c hk a1 a2 _ n1 n2 n3 day fin E W h h0 h1 hn x hd hA hl (IH x (by rw [hl];simp))
    ·have e:c.flows E.F E.C day fin=andR (Zax (fun e=>c.ex.hold E.F e) day fin c.ds) [] fun q=>x.flows E.F E.C q fin:=by
      cases c;simp only [Con.k,Con.sub] at hk hl;subst hk hl;rw [Con.flows,if_neg hn];(try dsimp only);rw [if_neg (by decide),if_neg (by decide),if_neg (by decide),if_neg (by decide)];rfl
     rw [e];exact Zto c hk a1 a2 _ n1 n2 n3 day fin E W h h0 h1 hn x hd hA hl (IH x (by rw [hl];simp))
theorem Z1m {l:List UInt8} (h1:0 < l.length) (h2:l.length≤40) (h3:l.head?.any Ze8=true) (h4:l.all Zf8=true):isNm l=true:=by
 have a1:decide (1≤l.length)=true:=by rw [decide_eq_true_eq];omega
 have a2:decide (l.length≤40)=true:=by rw [decide_eq_true_eq];omega
 rw [isNm,a1,a2,h3,h4];rfl
theorem Zqp {l:List UInt8} (h:l.all Zf8=false):isNm l=false:=by simp [isNm,h]
theorem Zov {l:List UInt8} (h:l.head?.any Ze8=false):isNm l=false:=by simp [isNm,h]
theorem Zs5 (c:UInt8):∃ b1 b2 b3 b4 b5 b6 b7 b8,decide ((97:Int)≤((c.toNat:Nat):Int))=b1∧decide (((c.toNat:Nat):Int)≤122)=b2∧decide ((65:Int)≤((c.toNat:Nat):Int))=b3∧decide (((c.toNat:Nat):Int)≤90)=b4∧decide ((48:Int)≤((c.toNat:Nat):Int))=b5∧decide (((c.toNat:Nat):Int)≤57)=b6 ∧
  (((c.toNat:Nat):Int) == 95)=b7∧(((c.toNat:Nat):Int) == 45)=b8∧Ze8 c=(b1 && b2 || b3 && b4)∧Zow c=(b5 && b6 || b7 || b8):=by
 refine ⟨_,_,_,_,_,_,_,_,rfl,rfl,rfl,rfl,rfl,rfl,rfl,rfl,?_,?_⟩
 ·rw [Bool.eq_iff_iff,Ze8];simp;omega
 ·rw [Bool.eq_iff_iff,Zow,Zav];simp;omega
theorem Zsn (s:ByteArray) (w:World) (h:s.size=0∨40 < s.size) (hl:s.size≤9223372036854775807) :
  Calls Tryz.prog 96 #[.string s] w fun e w'=>e = .returned (.bool (isNm (bl s)))∧w=w':=by
 have HR:Hid (isNm (bl s)=false):=by
  show _=_;rcases h with h | h
  ·exact Zl4 (by rw [Zae];exact h)
  ·exact Zou (by rw [Zae];exact h)
 rcases h with h | h
 ·have d1:((s.size:Int) == 0)=true:=by simp [h]
  clear h;go_enter Tryz.func96,Tryz.ntmps96
  go_wp2;go_ret;exact ⟨Zaf HR.out.symm,rfl⟩
 ·have d1:((s.size:Int) == 0)=false:=by rw [beq_eq_false_iff_ne];omega
  have d2:decide ((40:Int) < (s.size:Int))=true:=by rw [decide_eq_true_eq];omega
  clear hl;go_enter Tryz.func96,Tryz.ntmps96
  go_wp2;go_ret;exact ⟨Zaf HR.out.symm,rfl⟩
theorem Zun (s:ByteArray) (w:World) (h1:0 < s.size) (h2:s.size≤40) :
  Calls Tryz.prog 96 #[.string s] w fun e w'=>e = .returned (.bool (isNm (bl s)))∧w=w':=by
 have d1:((s.size:Int) == 0)=false:=by rw [beq_eq_false_iff_ne];omega
 have d2:decide ((40:Int) < (s.size:Int))=false:=by rw [decide_eq_false_iff_not];omega
 go_enter Tryz.func96,Tryz.ntmps96
 go_wp2;go_loop [3] (fun i=>∃ k:Nat,k≤s.size∧i = .int .i64 k∧Hid (((bl s).take k).all Zf8=true∧(0 < k→(bl s).head?.any Ze8=true))) (fun i=>s.size - (intOf i).toNat)
 case atStart=>exact ⟨0,Nat.zero_le _,rfl,⟨rfl,fun h=>absurd h (Nat.lt_irrefl _)⟩⟩
 case round =>
  obtain ⟨k,hk,rfl,Hall⟩:=hrel;clear d1 d2;by_cases hlt:k < s.size
  ·have Hs:=Lh (Zdo Zf8 s k hlt);have Hh:Hid (k=0→(bl s).head?.any Ze8=Ze8 s[k]):=by
    intro h;subst h;rw [Zby s h1];rfl
   obtain ⟨c,hc⟩:∃ c,s[k]=c:=⟨_,rfl⟩
   rw [hc] at Hs Hh;obtain ⟨b1,b2,b3,b4,b5,b6,b7,b8,t1,t2,t3,t4,t5,t6,t7,t8,hl,ho⟩:=Zs5 c;obtain ⟨b9,t9,HK⟩:∃ b9,((k:Int) == 0)=b9∧Hid (b9=true ↔ k=0):=⟨_,rfl,Lh (by simp)⟩
   have HN:Hid (Ze8 c=false→Zow c=false∨b9=true→isNm (bl s)=false):=Lh fun h1 h2=>by
    rcases h2 with h2 | h2
    ·exact Zqp (Zfa (k:=k+1) (by rw [Hs.out,Zf8,h1,h2];simp))
    ·exact Zov (by rw [Hh.out (HK.out.1 h2)];exact h1)
   have HY:Hid (Ze8 c=true∨Zow c=true∧b9=false→((bl s).take (k+1)).all Zf8=true∧(0 < k+1→(bl s).head?.any Ze8=true)):=Lh fun h=>by
    refine ⟨by rw [Hs.out,Hall.out.1,Zf8];rcases h with h | ⟨h,_⟩ <;> rw [h] <;> simp,fun _=>?_⟩;rcases Nat.eq_zero_or_pos k with h0 | h0
    ·rcases h with h | ⟨_,h⟩
     ·rw [Hh.out h0];exact h
     ·rw [HK.out.2 h0] at h;exact absurd h (by decide)
    ·exact Hall.out.2 h0
   have HL:=Lh hl;have HO:=Lh ho;clear hl ho Hs Hh HK Hall;go_wp2
   all_goals first
    | (go_ret
       exact ⟨Zaf (HN.out (by rw [HL.out];simp [*] <;> (cases b8 <;> simp_all)) (by rw [HO.out];simp [*] <;> (cases b8 <;> simp_all))).symm,rfl⟩)
    | (go_round
       case rel=>exact ⟨k+1,by omega,by go_num,Lh (HY.out (by rw [HL.out,HO.out];simp [*] <;> (cases b8 <;> simp_all)))⟩
       case measure=>simp [intOf];omega)
  ·obtain rfl:k=s.size:=by omega
   have HY:Hid (isNm (bl s)=true):=by
    show _=_;exact Z1m (by rw [Zae];exact h1) (by rw [Zae];exact h2) (Hall.out.2 h1) (by rw [← Hall.out.1,List.take_of_length_le (by rw [Zae];exact Nat.le_refl _)])
   go_wp2;go_ret;exact ⟨Zaf HY.out.symm,rfl⟩
theorem Zd4 (s:ByteArray) (w:World) (hl:s.size≤9223372036854775807) :
  Calls Tryz.prog 96 #[.string s] w fun e w'=>e = .returned (.bool (isNm (bl s)))∧w=w':=by
 by_cases h1:0 < s.size
 ·by_cases h2:s.size≤40
  ·exact Zun s w h1 h2
  ·exact Zsn s w (.inr (by omega)) hl
 ·exact Zsn s w (.inl (by omega)) hl
end Go.Proofs.YtknpnhodpgajbaaGreatDoor
