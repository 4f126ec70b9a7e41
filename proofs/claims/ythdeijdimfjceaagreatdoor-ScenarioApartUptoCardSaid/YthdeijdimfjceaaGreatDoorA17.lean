/- A part. -/
import Derived.Test.YthdeijdimfjceaaGreatDoorA16
namespace Go.Proofs.YthdeijdimfjceaaGreatDoor
open Go.RowKit
def FlA (w W:World) (c x:Con) (a1 a2 e1 e2 e3:Option Addr) (n1 n2 n3 m1 m2 m3 b off:Nat) (day fin:Int) (E:EvD):Prop :=
 W.cell? ⟨w.heap.size,0,none⟩=some (.int .u8 c.k)∧W.cell? ⟨w.heap.size,1,none⟩=some (.string c.fr)∧W.cell? ⟨w.heap.size,2,none⟩=some (.string c.rc)∧W.cell? ⟨w.heap.size,3,none⟩=some (.string c.nm)∧W.cell? ⟨w.heap.size,4,none⟩=some (.int .u8 c.ex.k)∧W.cell? ⟨w.heap.size,5,none⟩=some (.string c.ex.ra)∧W.cell? ⟨w.heap.size,6,none⟩=some (.string c.ex.nm)∧W.cell? ⟨w.heap.size,7,none⟩=some (.int .i64 c.ex.d)∧W.cell? ⟨w.heap.size,8,none⟩=some (.slice a1 c.ex.sub.length n1)∧W.cell? ⟨w.heap.size,9,none⟩=some (.int .i64 c.d)∧W.cell? ⟨w.heap.size,10,none⟩=some (.slice a2 c.ds.length n2)∧W.cell? ⟨w.heap.size,11,none⟩=some (.slice (some ⟨b,off,none⟩) c.sub.length n3)∧W.cell? ⟨b,off,none⟩=some (.int .u8 x.k)∧W.cell? ⟨b,off+1,none⟩=some (.string x.fr)∧W.cell? ⟨b,off+2,none⟩=some (.string x.rc)∧W.cell? ⟨b,off+3,none⟩=some (.string x.nm)∧W.cell? ⟨b,off+4,none⟩=some (.int .u8 x.ex.k)∧W.cell? ⟨b,off+5,none⟩=some (.string x.ex.ra)∧W.cell? ⟨b,off+6,none⟩=some (.string x.ex.nm)∧W.cell? ⟨b,off+7,none⟩=some (.int .i64 x.ex.d)∧W.cell? ⟨b,off+8,none⟩=some (.slice e1 x.ex.sub.length m1)∧W.cell? ⟨b,off+9,none⟩=some (.int .i64 x.d)∧W.cell? ⟨b,off+10,none⟩=some (.slice e2 x.ds.length m2)∧W.cell? ⟨b,off+11,none⟩=some (.slice e3 x.sub.length m3)∧W.cell? ⟨w.heap.size+1,0,none⟩=some (.int .i64 day)∧W.cell? ⟨w.heap.size+1+1,0,none⟩=some (.int .i64 fin)∧W.cell? ⟨w.heap.size+1+1+1,0,none⟩=some (.slice E.af E.F.length E.cf)∧W.cell? ⟨w.heap.size+1+1+1,1,none⟩=some (.slice E.ac E.C.length E.cc)
theorem FlA.keep {w W W2:World} {c x:Con} {a1 a2 e1 e2 e3:Option Addr} {n1 n2 n3 m1 m2 m3 b off:Nat} {day fin:Int} {E:EvD} (h:FlA w W c x a1 a2 e1 e2 e3 n1 n2 n3 m1 m2 m3 b off day fin E) (hb:Below W.heap.size W W2):FlA w W2 c x a1 a2 e1 e2 e3 n1 n2 n3 m1 m2 m3 b off day fin E:=by
 have k:∀ {p u},W.cell? p=some u→W2.cell? p=some u:=fun {p u} hu => by rw [hb.cell (p:=p) (World.block_lt_of_cell? W _ hu)];exact hu
 obtain ⟨h0,h1,h2,h3,h4,h5,h6,h7,h8,h9,h10,h11,h12,h13,h14,h15,h16,h17,h18,h19,h20,h21,h22,h23,h24,h25,h26,h27⟩:=h
 exact ⟨k h0,k h1,k h2,k h3,k h4,k h5,k h6,k h7,k h8,k h9,k h10,k h11,k h12,k h13,k h14,k h15,k h16,k h17,k h18,k h19,k h20,k h21,k h22,k h23,k h24,k h25,k h26,k h27⟩
set_option maxHeartbeats 4000000 in
set_option maxRecDepth 100000 in
theorem flows_call (c:Con) (hk:c.k=8) (a1 a2 a3:Option Addr) (n1 n2 n3:Nat) (day fin:Int) (E:EvD) (w:World) (h:FlH c (.slice a1 c.ex.sub.length n1) (.slice a2 c.ds.length n2) (.slice a3 c.sub.length n3) E w) (hd0:0≤day) (hf1:fin≤100000) (hn : ¬ fin≤day) (x:Con) (hds:isDays c.ds=true) (hl:c.sub=[x]) (HX:PF E x) :
  Calls Tryz.prog 107 #[.agg #[.int .u8 c.k,.string c.fr,.string c.rc,.string c.nm,.int .u8 c.ex.k,.string c.ex.ra,.string c.ex.nm,.int .i64 c.ex.d,.slice a1 c.ex.sub.length n1,.int .i64 c.d,.slice a2 c.ds.length n2,.slice a3 c.sub.length n3],.int .i64 day,.int .i64 fin,.agg #[.slice E.af E.F.length E.cf,.slice E.ac E.C.length E.cc]] w (FlP w (x.flows E.F E.C (firstR (fun e => (0,chosenB E.C c.fr c.nm e)) day fin c.ds).2 fin)):=by
 obtain ⟨W0,hW0,hb0,hz0,hB0⟩:=fl_world w c (.slice a1 c.ex.sub.length n1) (.slice a2 c.ds.length n2) (.slice a3 c.sub.length n3) day fin E
 have hmf:∀ (fn:Fn) (first cap:Array Value) (w:World),(Instr.makeFunc fn first cap).run Tryz.prog w = .ok (.func fn first cap) w:=fun _ _ _ _ => rfl
 have ck:=hB0.c.cell (j:=0) (u:=.int .u8 c.k) rfl
 have d0:=hB0.d.cell (j:=0) (u:=.int .i64 day) rfl
 have f0:=hB0.f.cell (j:=0) (u:=.int .i64 fin) rfl
 have HB0:=Lib.hid hB0
 have hH0:=h.frame hb0
 have Hb0:=Lib.hid hb0
 have hn2:decide (fin≤day)=false:=decide_eq_false hn
 have tk2:((c.k:Int) == 2)=false:=by rw [hk];rfl
 have tk3:((c.k:Int) == 3)=false:=by rw [hk];rfl
 have tk4:((c.k:Int) == 4)=false:=by rw [hk];rfl
 have tk5:((c.k:Int) == 5)=false:=by rw [hk];rfl
 have tk7:((c.k:Int) == 7)=false:=by rw [hk];rfl
 have tk6:((c.k:Int) == 6)=false:=by rw [hk];rfl
 have tk8:((c.k:Int) == 8)=true:=by rw [hk];rfl
 have tk9:((c.k:Int) == 9)=false:=by rw [hk];rfl
 have tk10:((c.k:Int) == 10)=false:=by rw [hk];rfl
 have hS:=h.rd.2.2.1
 rw [hl] at hS
 obtain ⟨b,off,rfl⟩:=hS.addr (by simp)
 obtain ⟨e1,m1,e2,m2,e3,m3,hr,hbl,hc⟩:=hS.nth (j:=0) rfl off (by omega)
 have hF:=h.sub (x:=x) (by rw [hl];simp) hr
 have HC:=Lib.hid fun W (dy:Int) (fi:Int) (hb:Below w.heap.size w W) (h0:0≤dy) (h1:fi≤100000) => HX _ _ _ dy fi W (hF.frame hb) h0 h1
 have q11:=hB0.c.cell (j:=11) (u:=.slice (some ⟨b,off,none⟩) c.sub.length n3) rfl
 have q9:=hB0.c.cell (j:=9) (u:=.int .i64 c.d) rfl
 have v0:=hB0.v.cell (j:=0) (u:=.slice E.af E.F.length E.cf) rfl
 have v1:=hB0.v.cell (j:=1) (u:=.slice E.ac E.C.length E.cc) rfl
 obtain ⟨c0,c1,c2,c3,c4,c5,c6,c7,c8,c9,c10,c11⟩:=hc W0 hb0
 have hn5:0 < c.sub.length:=by rw [hl];simp
 have hn6:(0:Int) < (c.sub.length:Int):=by omega
 have hbl0:b < W0.heap.size:=by have:=hb0.size;omega
 have hcn:c.ds.length≤1100000:=by have:=c.bulk_eq;have:=h.bulk;omega
 have hdays:=days_all hds
 have HFi:=Lib.hid fun W (hb:Below W0.heap.size W0 W) => firstC_any c (.slice a1 c.ex.sub.length n1) (.slice a2 c.ds.length n2) (.slice (some ⟨b,off,none⟩) c.sub.length n3) day fin (fun e => (0,chosenB E.C c.fr c.nm e)) w.heap.size W (hH0.frame hb).rd hcn
   (fun d hd W' hb' => chosenCl_any d c _ _ _ day fin E w.heap.size W' ((HB0.out.below hb).below hb') ((hH0.frame hb).frame hb').e)
 have HK:Hid (FlA w W0 c x a1 a2 e1 e2 e3 n1 n2 n3 m1 m2 m3 b off day fin E) :=
  Lib.hid ⟨hB0.c.cell (j:=0) rfl,hB0.c.cell (j:=1) rfl,hB0.c.cell (j:=2) rfl,hB0.c.cell (j:=3) rfl,hB0.c.cell (j:=4) rfl,hB0.c.cell (j:=5) rfl,hB0.c.cell (j:=6) rfl,hB0.c.cell (j:=7) rfl,hB0.c.cell (j:=8) rfl,hB0.c.cell (j:=9) rfl,hB0.c.cell (j:=10) rfl,hB0.c.cell (j:=11) rfl,c0,c1,c2,c3,c4,c5,c6,c7,c8,c9,c10,c11,d0,f0,v0,v1⟩
 have hz1:w.heap.size≤W0.heap.size:=hb0.size
 obtain ⟨Fd,hFd⟩:∃ F,F=firstR (fun e => (0,chosenB E.C c.fr c.nm e)) day fin c.ds:=⟨_,rfl⟩
 have hbd:=first_bd (fun e => (0,chosenB E.C c.fr c.nm e)) day fin (by omega) c.ds
 rw [← hFd] at HFi hbd ⊢
 have hF1:Fd.1=0:=by rw [hFd];exact first_pure _ _ _ _
 obtain ⟨R0,hR0⟩:∃ R0,R0=(x.flows E.F E.C Fd.2 fin):=⟨_,rfl⟩
 rw [← hR0]
 obtain ⟨R,hR⟩:∃ R,R=x.flows E.F E.C Fd.2 fin:=⟨_,rfl⟩
 have C1:Hid (∀ W,Below W0.heap.size W0 W→Calls _ _ _ W fun e w' => FlP w R0 e w'∧Below W.heap.size W w'∧((∃ ad cap,e = .returned (.slice ad R.2.length cap))∨e = .panicked (stopC R.1))):=Lib.hid fun W hb =>
  (HC.out W Fd.2 fin (Hb0.out.trans (hb.mono hz1)) (by have:=(hbd hF1).1;omega) hf1).mono fun e w' q => ⟨by rw [hR0];exact q.at (Hb0.out.trans (hb.mono hz1)),q.1,by
   rcases q with ⟨_,⟨_,v,rfl,⟨ad,cap,rfl⟩,_⟩ | ⟨_,rfl⟩⟩
   ·exact .inl ⟨ad,cap,by rw [hR]⟩
   ·exact .inr (by rw [hR])⟩
 rw [hF1,endR_ok] at HFi
 clear h hH0 hB0 HB0 hn hk hl HX hd0 hf1 HC hF hr hS hc hds hdays hb0 hFd hcn q11 q9 c0 c1 c2 c3 c4 c5 c6 c7 c8 c9 c10 c11 v0 v1 hbd hR0 hR hF1
 go_enter Tryz.func107,Tryz.ntmps107
 go_upto_region 1 with (fail)
 clear hW0
 go_wp2_with fail
 refine wp_region_invc (fun L a w' => ∃ (v0 v1 v2 v3 v4 v5 v6 v7 v8 v9 v10 v11 v12:Value),a=⟨#[.agg #[.int .u8 c.k,.string c.fr,.string c.rc,.string c.nm,.int .u8 c.ex.k,.string c.ex.ra,.string c.ex.nm,.int .i64 c.ex.d,.slice a1 c.ex.sub.length n1,.int .i64 c.d,.slice a2 c.ds.length n2,.slice (some ⟨b,off,none⟩) c.sub.length n3],.int .i64 day,.int .i64 fin,.agg #[.slice E.af E.F.length E.cf,.slice E.ac E.C.length E.cc],.pointer (some ⟨w.heap.size,0,none⟩),.pointer (some ⟨w.heap.size+1,0,none⟩),.pointer (some ⟨w.heap.size+1+1,0,none⟩),.pointer (some ⟨w.heap.size+1+1+1,0,none⟩),v12,.func (.func 128) #[] #[.pointer (some ⟨w.heap.size+1+1+1,0,none⟩),.pointer (some ⟨w.heap.size,0,none⟩)],.func (.func 130) #[] #[.pointer (some ⟨w.heap.size,0,none⟩),.pointer (some ⟨w.heap.size+1+1+1,0,none⟩)],.func (.func 133) #[] #[.pointer (some ⟨w.heap.size,0,none⟩),.pointer (some ⟨w.heap.size+1,0,none⟩),.pointer (some ⟨w.heap.size+1+1+1,0,none⟩)],.func (.func 136) #[] #[.pointer (some ⟨w.heap.size,0,none⟩),.pointer (some ⟨w.heap.size+1,0,none⟩),.pointer (some ⟨w.heap.size+1+1,0,none⟩),.pointer (some ⟨w.heap.size+1+1+1,0,none⟩)],undef,undef,undef,undef,.int .i64 day,.int .i64 fin,.bool false,.func (.func 128) #[] #[.pointer (some ⟨w.heap.size+1+1+1,0,none⟩),.pointer (some ⟨w.heap.size,0,none⟩)],.func (.func 130) #[] #[.pointer (some ⟨w.heap.size,0,none⟩),.pointer (some ⟨w.heap.size+1+1+1,0,none⟩)],.func (.func 133) #[] #[.pointer (some ⟨w.heap.size,0,none⟩),.pointer (some ⟨w.heap.size+1,0,none⟩),.pointer (some ⟨w.heap.size+1+1+1,0,none⟩)],.func (.func 136) #[] #[.pointer (some ⟨w.heap.size,0,none⟩),.pointer (some ⟨w.heap.size+1,0,none⟩),.pointer (some ⟨w.heap.size+1+1,0,none⟩),.pointer (some ⟨w.heap.size+1+1+1,0,none⟩)],.pointer (some ⟨w.heap.size,0,none⟩),.int .u8 c.k,.bool false,.bool false,undef,undef,undef,undef,undef,undef,undef,undef,undef,undef,.bool false,.bool false,undef,undef,undef,undef,undef,.bool false,.bool false,undef,undef,undef,undef,undef,undef,undef,undef,undef,undef,undef,undef,undef,undef,undef,undef,undef,undef,undef,undef,undef,undef,undef,undef,undef,undef,undef,undef,undef,.bool false,.bool false,undef,undef,undef,undef,undef,undef,.bool false,.bool false,undef,undef,undef,undef,undef,undef,.bool false,.bool false,undef,undef,undef,undef,undef,undef,undef,undef,undef,undef,undef,undef,undef,.bool true,.bool true,v0,v1,v2,v3,v4,v5,v6,v7,v8,v9,v10,v11,undef,undef,undef,undef,undef,undef,undef,undef,undef,undef,undef,undef,undef,undef,undef,undef,undef,undef,undef,undef,undef,undef,undef,undef,undef,undef,undef,undef],[]⟩∧VInv W0 [.pointer (some ⟨w.heap.size,11,none⟩),.slice (some ⟨b,off,none⟩) c.sub.length n3,.pointer (some ⟨b,off,none⟩),.agg #[.int .u8 x.k,.string x.fr,.string x.rc,.string x.nm,.int .u8 x.ex.k,.string x.ex.ra,.string x.ex.nm,.int .i64 x.ex.d,.slice e1 x.ex.sub.length m1,.int .i64 x.d,.slice e2 x.ds.length m2,.slice e3 x.sub.length m3],.agg #[.int .u8 c.k,.string c.fr,.string c.rc,.string c.nm,.int .u8 c.ex.k,.string c.ex.ra,.string c.ex.nm,.int .i64 c.ex.d,.slice a1 c.ex.sub.length n1,.int .i64 c.d,.slice a2 c.ds.length n2,.slice (some ⟨b,off,none⟩) c.sub.length n3],.int .i64 day,.int .i64 fin,.func (.func 128) #[] #[.pointer (some ⟨w.heap.size+1+1+1,0,none⟩),.pointer (some ⟨w.heap.size,0,none⟩)],.int .i64 Fd.2,.int .i64 fin,.agg #[.slice E.af E.F.length E.cf,.slice E.ac E.C.length E.cc],v11,v11] [v0,v1,v2,v3,v4,v5,v6,v7,v8,v9,v10,v11,v12] L w'∧(L 11=true→(∃ ad cap,v11 = .slice ad R.2.length cap)∧FlP w R0 (.returned v11) w')) (by kernel_rfl) (by kernel_rfl) ?_ ?_ ?_
 ·exact ⟨_,_,_,_,_,_,_,_,_,_,_,_,_,rfl,VInv.start (below_drewN (Below.refl _ _) 1) rfl,fun e => (by cases e)⟩
 ·rintro L a w' ⟨v0,v1,v2,v3,v4,v5,v6,v7,v8,v9,v10,v11,v12,rfl,h,hx⟩ hcl i o ho hL hp
  have hi9:i < 13:=by simpa using (Array.getElem?_eq_some_iff.1 ho).1
  have hi2:i=0∨i=1∨i=2∨i=3∨i=4∨i=5∨i=6∨i=7∨i=8∨i=9∨i=10∨i=11∨i=12:=by omega
  clear hi9
  obtain ⟨z0,z1,z2,z3,z4,z5,z6,z7,z8,z9,z10,z11,z12,z13,z14,z15,z16,z17,z18,z19,z20,z21,z22,z23,z24,z25,z26,z27⟩:=HK.out.keep h.b
  rcases hi2 with rfl | rfl | rfl | rfl | rfl | rfl | rfl | rfl | rfl | rfl | rfl | rfl | rfl
  ·refine wpOp_step rfl ?_
   intro K hK
   go_simp
   exact hK _ _ ⟨_,_,_,_,_,_,_,_,_,_,_,_,_,rfl,h.step (i:=0) rfl,(fun e => hx (by simpa [upd] using e))⟩
  ·refine wpOp_step rfl ?_
   intro K hK
   obtain rfl:=h.at (i:=0) (pred_spec ho hp (j:=0) (by kernel_rfl)) rfl rfl
   go_simp
   exact hK _ _ ⟨_,_,_,_,_,_,_,_,_,_,_,_,_,rfl,h.step (i:=1) rfl,(fun e => hx (by simpa [upd] using e))⟩
  ·refine wpOp_step rfl ?_
   intro K hK
   obtain rfl:=h.at (i:=1) (pred_spec ho hp (j:=1) (by kernel_rfl)) rfl rfl
   go_simp
   exact hK _ _ ⟨_,_,_,_,_,_,_,_,_,_,_,_,_,rfl,h.step (i:=2) rfl,(fun e => hx (by simpa [upd] using e))⟩
  ·refine wpOp_step rfl ?_
   intro K hK
   obtain rfl:=h.at (i:=2) (pred_spec ho hp (j:=2) (by kernel_rfl)) rfl rfl
   go_simp
   exact hK _ _ ⟨_,_,_,_,_,_,_,_,_,_,_,_,_,rfl,h.step (i:=3) rfl,(fun e => hx (by simpa [upd] using e))⟩
  ·refine wpOp_step rfl ?_
   intro K hK
   go_simp
   exact hK _ _ ⟨_,_,_,_,_,_,_,_,_,_,_,_,_,rfl,h.step (i:=4) rfl,(fun e => hx (by simpa [upd] using e))⟩
  ·refine wpOp_step rfl ?_
   intro K hK
   go_simp
   exact hK _ _ ⟨_,_,_,_,_,_,_,_,_,_,_,_,_,rfl,h.step (i:=5) rfl,(fun e => hx (by simpa [upd] using e))⟩
  ·refine wpOp_step rfl ?_
   intro K hK
   go_simp
   exact hK _ _ ⟨_,_,_,_,_,_,_,_,_,_,_,_,_,rfl,h.step (i:=6) rfl,(fun e => hx (by simpa [upd] using e))⟩
  ·refine wpOp_step rfl ?_
   intro K hK
   go_simp
   exact hK _ _ ⟨_,_,_,_,_,_,_,_,_,_,_,_,_,rfl,h.step (i:=7) rfl,(fun e => hx (by simpa [upd] using e))⟩
  ·refine wpOp_step rfl ?_
   intro K hK
   obtain rfl:=h.at (i:=4) (pred_spec ho hp (j:=4) (by kernel_rfl)) rfl rfl
   obtain rfl:=h.at (i:=5) (pred_spec ho hp (j:=5) (by kernel_rfl)) rfl rfl
   obtain rfl:=h.at (i:=6) (pred_spec ho hp (j:=6) (by kernel_rfl)) rfl rfl
   obtain rfl:=h.at (i:=7) (pred_spec ho hp (j:=7) (by kernel_rfl)) rfl rfl
   go_simp
   refine (HFi.out w' h.b).mono ?_
   rintro e w4 ⟨rfl,hb4⟩
   exact hK _ _ ⟨_,_,_,_,_,_,_,_,_,_,_,_,_,rfl,(h.ext hb4).step (i:=8) (v:=.int .i64 Fd.2) rfl,(fun e => absurd (cl_spec hcl (show L 11=true by simpa [upd] using e) (j:=8) (by kernel_rfl)) (by rw [hL];exact Bool.false_ne_true))⟩
  ·refine wpOp_step rfl ?_
   intro K hK
   go_simp
   exact hK _ _ ⟨_,_,_,_,_,_,_,_,_,_,_,_,_,rfl,h.step (i:=9) rfl,(fun e => hx (by simpa [upd] using e))⟩
  ·refine wpOp_step rfl ?_
   intro K hK
   go_simp
   exact hK _ _ ⟨_,_,_,_,_,_,_,_,_,_,_,_,_,rfl,h.step (i:=10) rfl,(fun e => hx (by simpa [upd] using e))⟩
  ·refine wpOp_step rfl ?_
   intro K hK
   obtain rfl:=h.at (i:=3) (pred_spec ho hp (j:=3) (by kernel_rfl)) rfl rfl
   obtain rfl:=h.at (i:=8) (pred_spec ho hp (j:=8) (by kernel_rfl)) rfl rfl
   obtain rfl:=h.at (i:=9) (pred_spec ho hp (j:=9) (by kernel_rfl)) rfl rfl
   obtain rfl:=h.at (i:=10) (pred_spec ho hp (j:=10) (by kernel_rfl)) rfl rfl
   go_simp
   refine (C1.out w' h.b).mono ?_
   rintro e w4 ⟨h3,hb4,⟨ad,cap,rfl⟩ | rfl⟩
   ·exact hK _ _ ⟨_,_,_,_,_,_,_,_,_,_,_,_,_,rfl,VInv.step (i:=11) (v:=.slice ad R.2.length cap) (((h.ext hb4).late hL (.slice ad R.2.length cap)).late (cl_no hcl hL 12 (by kernel_rfl)) (.slice ad R.2.length cap)) rfl,fun _ => ⟨⟨_,_,rfl⟩,h3⟩⟩
   ·exact ⟨rfl,h3⟩
  ·refine wpOp_step rfl ?_
   intro K hK
   go_simp
   exact hK _ _ ⟨_,_,_,_,_,_,_,_,_,_,_,_,_,rfl,h.step (i:=12) (v:=v11) rfl,(fun e => hx (by simpa [upd] using e))⟩
 ·rintro L a w1 ⟨v0,v1,v2,v3,v4,v5,v6,v7,v8,v9,v10,v11,v12,rfl,h,hx⟩ hall
  obtain ⟨⟨ad,cap,rfl⟩,hf⟩:=hx (hall 11 (by decide))
  obtain rfl:=h.at (i:=12) (hall 12 (by decide)) rfl rfl
  have HF:=Lib.hid hf
  clear hf hx hall h C1 HFi HK
  go_wp2
  go_ret
  exact HF.out
end Go.Proofs.YthdeijdimfjceaaGreatDoor

namespace Go.Proofs.YthdeijdimfjceaaGreatDoor
open Go.RowKit
set_option maxHeartbeats 4000000 in
set_option maxRecDepth 100000 in
theorem flows_until (c:Con) (hk:c.k=9) (a1 a2 a3:Option Addr) (n1 n2 n3:Nat) (day fin:Int) (E:EvD) (w:World) (h:FlH c (.slice a1 c.ex.sub.length n1) (.slice a2 c.ds.length n2) (.slice a3 c.sub.length n3) E w) (hd0:0≤day) (hf1:fin≤100000) (hn : ¬ fin≤day) (x:Con) (hds:isDays c.ds=true) (hA:c.ex.isA 2=true) (hl:c.sub=[x]) (HX:PF E x) :
  Calls Tryz.prog 107 #[.agg #[.int .u8 c.k,.string c.fr,.string c.rc,.string c.nm,.int .u8 c.ex.k,.string c.ex.ra,.string c.ex.nm,.int .i64 c.ex.d,.slice a1 c.ex.sub.length n1,.int .i64 c.d,.slice a2 c.ds.length n2,.slice a3 c.sub.length n3],.int .i64 day,.int .i64 fin,.agg #[.slice E.af E.F.length E.cf,.slice E.ac E.C.length E.cc]] w (FlP w (andR (firstR (fun e => c.ex.hold E.F e) day fin c.ds) [] fun q => x.flows E.F E.C day q)):=by
 obtain ⟨W0,hW0,hb0,hz0,hB0⟩:=fl_world w c (.slice a1 c.ex.sub.length n1) (.slice a2 c.ds.length n2) (.slice a3 c.sub.length n3) day fin E
 have hmf:∀ (fn:Fn) (first cap:Array Value) (w:World),(Instr.makeFunc fn first cap).run Tryz.prog w = .ok (.func fn first cap) w:=fun _ _ _ _ => rfl
 have ck:=hB0.c.cell (j:=0) (u:=.int .u8 c.k) rfl
 have d0:=hB0.d.cell (j:=0) (u:=.int .i64 day) rfl
 have f0:=hB0.f.cell (j:=0) (u:=.int .i64 fin) rfl
 have HB0:=Lib.hid hB0
 have hH0:=h.frame hb0
 have Hb0:=Lib.hid hb0
 have hn2:decide (fin≤day)=false:=decide_eq_false hn
 have tk2:((c.k:Int) == 2)=false:=by rw [hk];rfl
 have tk3:((c.k:Int) == 3)=false:=by rw [hk];rfl
 have tk4:((c.k:Int) == 4)=false:=by rw [hk];rfl
 have tk5:((c.k:Int) == 5)=false:=by rw [hk];rfl
 have tk7:((c.k:Int) == 7)=false:=by rw [hk];rfl
 have tk6:((c.k:Int) == 6)=false:=by rw [hk];rfl
 have tk8:((c.k:Int) == 8)=false:=by rw [hk];rfl
 have tk9:((c.k:Int) == 9)=true:=by rw [hk];rfl
 have tk10:((c.k:Int) == 10)=false:=by rw [hk];rfl
 have hS:=h.rd.2.2.1
 rw [hl] at hS
 obtain ⟨b,off,rfl⟩:=hS.addr (by simp)
 obtain ⟨e1,m1,e2,m2,e3,m3,hr,hbl,hc⟩:=hS.nth (j:=0) rfl off (by omega)
 have hF:=h.sub (x:=x) (by rw [hl];simp) hr
 have HC:=Lib.hid fun W (dy:Int) (fi:Int) (hb:Below w.heap.size w W) (h0:0≤dy) (h1:fi≤100000) => HX _ _ _ dy fi W (hF.frame hb) h0 h1
 have q11:=hB0.c.cell (j:=11) (u:=.slice (some ⟨b,off,none⟩) c.sub.length n3) rfl
 have q9:=hB0.c.cell (j:=9) (u:=.int .i64 c.d) rfl
 have v0:=hB0.v.cell (j:=0) (u:=.slice E.af E.F.length E.cf) rfl
 have v1:=hB0.v.cell (j:=1) (u:=.slice E.ac E.C.length E.cc) rfl
 obtain ⟨c0,c1,c2,c3,c4,c5,c6,c7,c8,c9,c10,c11⟩:=hc W0 hb0
 have hn5:0 < c.sub.length:=by rw [hl];simp
 have hn6:(0:Int) < (c.sub.length:Int):=by omega
 have hbl0:b < W0.heap.size:=by have:=hb0.size;omega
 have hcn:c.ds.length≤1100000:=by have:=c.bulk_eq;have:=h.bulk;omega
 have hdays:=days_all hds
 have HFi:=Lib.hid fun W (hb:Below W0.heap.size W0 W) => firstH_any c (.slice a1 c.ex.sub.length n1) (.slice a2 c.ds.length n2) (.slice (some ⟨b,off,none⟩) c.sub.length n3) day fin (fun e => c.ex.hold E.F e) w.heap.size W (hH0.frame hb).rd hcn
   (fun d hd W' hb' => holdsCl_any d c _ _ _ day fin E w.heap.size W' ((HB0.out.below hb).below hb') ((hH0.frame hb).frame hb') hA (hdays d hd))
 have HK:Hid (FlA w W0 c x a1 a2 e1 e2 e3 n1 n2 n3 m1 m2 m3 b off day fin E) :=
  Lib.hid ⟨hB0.c.cell (j:=0) rfl,hB0.c.cell (j:=1) rfl,hB0.c.cell (j:=2) rfl,hB0.c.cell (j:=3) rfl,hB0.c.cell (j:=4) rfl,hB0.c.cell (j:=5) rfl,hB0.c.cell (j:=6) rfl,hB0.c.cell (j:=7) rfl,hB0.c.cell (j:=8) rfl,hB0.c.cell (j:=9) rfl,hB0.c.cell (j:=10) rfl,hB0.c.cell (j:=11) rfl,c0,c1,c2,c3,c4,c5,c6,c7,c8,c9,c10,c11,d0,f0,v0,v1⟩
 have hz1:w.heap.size≤W0.heap.size:=hb0.size
 obtain ⟨Fd,hFd⟩:∃ F,F=firstR (fun e => c.ex.hold E.F e) day fin c.ds:=⟨_,rfl⟩
 have hbd:=first_bd (fun e => c.ex.hold E.F e) day fin (by omega) c.ds
 rw [← hFd] at HFi hbd ⊢
 obtain ⟨R0,hR0⟩:∃ R0,R0=(andR Fd [] fun q => x.flows E.F E.C day q):=⟨_,rfl⟩
 rw [← hR0]
 obtain ⟨R,hR⟩:∃ R,R=x.flows E.F E.C day Fd.2:=⟨_,rfl⟩
 have KE:Hid (∀ W2,Fd.1 ≠ 0→Below W0.heap.size W0 W2→FlP w R0 (.panicked (stopC Fd.1)) W2):=Lib.hid fun W2 hF hb => by
  rw [hR0,andR,if_pos hF]
  exact ⟨Hb0.out.trans (hb.mono hz1),.inr ⟨hF,rfl⟩⟩
 have C1:Hid (∀ W,Fd.1=0→Below W0.heap.size W0 W→Calls _ _ _ W fun e w' => FlP w R0 e w'∧Below W.heap.size W w'∧((∃ ad cap,e = .returned (.slice ad R.2.length cap))∨e = .panicked (stopC R.1))):=Lib.hid fun W hF hb =>
  (HC.out W day Fd.2 (Hb0.out.trans (hb.mono hz1)) hd0 (by have:=(hbd hF).2;omega)).mono fun e w' q => ⟨by rw [hR0,andR,if_neg (fun k => k hF)];exact q.at (Hb0.out.trans (hb.mono hz1)),q.1,by
   rcases q with ⟨_,⟨_,v,rfl,⟨ad,cap,rfl⟩,_⟩ | ⟨_,rfl⟩⟩
   ·exact .inl ⟨ad,cap,by rw [hR]⟩
   ·exact .inr (by rw [hR])⟩
 clear h hH0 hB0 HB0 hn hk hl HX hd0 hf1 HC hF hr hS hc hds hdays hb0 hFd hcn q11 q9 c0 c1 c2 c3 c4 c5 c6 c7 c8 c9 c10 c11 v0 v1 hbd hA hR0 hR
 go_enter Tryz.func107,Tryz.ntmps107
 go_upto_region 1 with (fail)
 clear hW0
 go_wp2_with fail
 refine wp_region_invc (fun L a w' => ∃ (v0 v1 v2 v3 v4 v5 v6 v7 v8 v9 v10 v11 v12:Value),a=⟨#[.agg #[.int .u8 c.k,.string c.fr,.string c.rc,.string c.nm,.int .u8 c.ex.k,.string c.ex.ra,.string c.ex.nm,.int .i64 c.ex.d,.slice a1 c.ex.sub.length n1,.int .i64 c.d,.slice a2 c.ds.length n2,.slice (some ⟨b,off,none⟩) c.sub.length n3],.int .i64 day,.int .i64 fin,.agg #[.slice E.af E.F.length E.cf,.slice E.ac E.C.length E.cc],.pointer (some ⟨w.heap.size,0,none⟩),.pointer (some ⟨w.heap.size+1,0,none⟩),.pointer (some ⟨w.heap.size+1+1,0,none⟩),.pointer (some ⟨w.heap.size+1+1+1,0,none⟩),v12,.func (.func 128) #[] #[.pointer (some ⟨w.heap.size+1+1+1,0,none⟩),.pointer (some ⟨w.heap.size,0,none⟩)],.func (.func 130) #[] #[.pointer (some ⟨w.heap.size,0,none⟩),.pointer (some ⟨w.heap.size+1+1+1,0,none⟩)],.func (.func 133) #[] #[.pointer (some ⟨w.heap.size,0,none⟩),.pointer (some ⟨w.heap.size+1,0,none⟩),.pointer (some ⟨w.heap.size+1+1+1,0,none⟩)],.func (.func 136) #[] #[.pointer (some ⟨w.heap.size,0,none⟩),.pointer (some ⟨w.heap.size+1,0,none⟩),.pointer (some ⟨w.heap.size+1+1,0,none⟩),.pointer (some ⟨w.heap.size+1+1+1,0,none⟩)],undef,undef,undef,undef,.int .i64 day,.int .i64 fin,.bool false,.func (.func 128) #[] #[.pointer (some ⟨w.heap.size+1+1+1,0,none⟩),.pointer (some ⟨w.heap.size,0,none⟩)],.func (.func 130) #[] #[.pointer (some ⟨w.heap.size,0,none⟩),.pointer (some ⟨w.heap.size+1+1+1,0,none⟩)],.func (.func 133) #[] #[.pointer (some ⟨w.heap.size,0,none⟩),.pointer (some ⟨w.heap.size+1,0,none⟩),.pointer (some ⟨w.heap.size+1+1+1,0,none⟩)],.func (.func 136) #[] #[.pointer (some ⟨w.heap.size,0,none⟩),.pointer (some ⟨w.heap.size+1,0,none⟩),.pointer (some ⟨w.heap.size+1+1,0,none⟩),.pointer (some ⟨w.heap.size+1+1+1,0,none⟩)],.pointer (some ⟨w.heap.size,0,none⟩),.int .u8 c.k,.bool false,.bool false,undef,undef,undef,undef,undef,undef,undef,undef,undef,undef,.bool false,.bool false,undef,undef,undef,undef,undef,.bool false,.bool false,undef,undef,undef,undef,undef,undef,undef,undef,undef,undef,undef,undef,undef,undef,undef,undef,undef,undef,undef,undef,undef,undef,undef,undef,undef,undef,undef,undef,undef,.bool false,.bool false,undef,undef,undef,undef,undef,undef,.bool false,.bool false,undef,undef,undef,undef,undef,undef,.bool false,.bool false,undef,undef,undef,undef,undef,undef,undef,undef,undef,undef,undef,undef,undef,.bool false,.bool false,undef,undef,undef,undef,undef,undef,undef,undef,undef,undef,undef,undef,.bool true,.bool true,v0,v1,v2,v3,v4,v5,v6,v7,v8,v9,v10,v11,undef,undef,undef,undef,undef,undef,undef,undef,undef,undef,undef,undef,undef,undef],[]⟩∧VInv W0 [.pointer (some ⟨w.heap.size,11,none⟩),.slice (some ⟨b,off,none⟩) c.sub.length n3,.pointer (some ⟨b,off,none⟩),.agg #[.int .u8 x.k,.string x.fr,.string x.rc,.string x.nm,.int .u8 x.ex.k,.string x.ex.ra,.string x.ex.nm,.int .i64 x.ex.d,.slice e1 x.ex.sub.length m1,.int .i64 x.d,.slice e2 x.ds.length m2,.slice e3 x.sub.length m3],.int .i64 day,.agg #[.int .u8 c.k,.string c.fr,.string c.rc,.string c.nm,.int .u8 c.ex.k,.string c.ex.ra,.string c.ex.nm,.int .i64 c.ex.d,.slice a1 c.ex.sub.length n1,.int .i64 c.d,.slice a2 c.ds.length n2,.slice (some ⟨b,off,none⟩) c.sub.length n3],.int .i64 day,.int .i64 fin,.func (.func 130) #[] #[.pointer (some ⟨w.heap.size,0,none⟩),.pointer (some ⟨w.heap.size+1+1+1,0,none⟩)],.int .i64 Fd.2,.agg #[.slice E.af E.F.length E.cf,.slice E.ac E.C.length E.cc],v11,v11] [v0,v1,v2,v3,v4,v5,v6,v7,v8,v9,v10,v11,v12] L w'∧(L 9=true→Fd.1=0)∧(L 11=true→(∃ ad cap,v11 = .slice ad R.2.length cap)∧FlP w R0 (.returned v11) w')) (by kernel_rfl) (by kernel_rfl) ?_ ?_ ?_
 ·exact ⟨_,_,_,_,_,_,_,_,_,_,_,_,_,rfl,VInv.start (below_drewN (Below.refl _ _) 1) rfl,fun e => (by cases e),fun e => (by cases e)⟩
 ·rintro L a w' ⟨v0,v1,v2,v3,v4,v5,v6,v7,v8,v9,v10,v11,v12,rfl,h,hx⟩ hcl i o ho hL hp
  have hi9:i < 13:=by simpa using (Array.getElem?_eq_some_iff.1 ho).1
  have hi2:i=0∨i=1∨i=2∨i=3∨i=4∨i=5∨i=6∨i=7∨i=8∨i=9∨i=10∨i=11∨i=12:=by omega
  clear hi9
  obtain ⟨z0,z1,z2,z3,z4,z5,z6,z7,z8,z9,z10,z11,z12,z13,z14,z15,z16,z17,z18,z19,z20,z21,z22,z23,z24,z25,z26,z27⟩:=HK.out.keep h.b
  rcases hi2 with rfl | rfl | rfl | rfl | rfl | rfl | rfl | rfl | rfl | rfl | rfl | rfl | rfl
  ·refine wpOp_step rfl ?_
   intro K hK
   go_simp
   exact hK _ _ ⟨_,_,_,_,_,_,_,_,_,_,_,_,_,rfl,h.step (i:=0) rfl,fun e => hx.1 (by simpa [upd] using e),fun e => hx.2 (by simpa [upd] using e)⟩
  ·refine wpOp_step rfl ?_
   intro K hK
   obtain rfl:=h.at (i:=0) (pred_spec ho hp (j:=0) (by kernel_rfl)) rfl rfl
   go_simp
   exact hK _ _ ⟨_,_,_,_,_,_,_,_,_,_,_,_,_,rfl,h.step (i:=1) rfl,fun e => hx.1 (by simpa [upd] using e),fun e => hx.2 (by simpa [upd] using e)⟩
  ·refine wpOp_step rfl ?_
   intro K hK
   obtain rfl:=h.at (i:=1) (pred_spec ho hp (j:=1) (by kernel_rfl)) rfl rfl
   go_simp
   exact hK _ _ ⟨_,_,_,_,_,_,_,_,_,_,_,_,_,rfl,h.step (i:=2) rfl,fun e => hx.1 (by simpa [upd] using e),fun e => hx.2 (by simpa [upd] using e)⟩
  ·refine wpOp_step rfl ?_
   intro K hK
   obtain rfl:=h.at (i:=2) (pred_spec ho hp (j:=2) (by kernel_rfl)) rfl rfl
   go_simp
   exact hK _ _ ⟨_,_,_,_,_,_,_,_,_,_,_,_,_,rfl,h.step (i:=3) rfl,fun e => hx.1 (by simpa [upd] using e),fun e => hx.2 (by simpa [upd] using e)⟩
  ·refine wpOp_step rfl ?_
   intro K hK
   go_simp
   exact hK _ _ ⟨_,_,_,_,_,_,_,_,_,_,_,_,_,rfl,h.step (i:=4) rfl,fun e => hx.1 (by simpa [upd] using e),fun e => hx.2 (by simpa [upd] using e)⟩
  ·refine wpOp_step rfl ?_
   intro K hK
   go_simp
   exact hK _ _ ⟨_,_,_,_,_,_,_,_,_,_,_,_,_,rfl,h.step (i:=5) rfl,fun e => hx.1 (by simpa [upd] using e),fun e => hx.2 (by simpa [upd] using e)⟩
  ·refine wpOp_step rfl ?_
   intro K hK
   go_simp
   exact hK _ _ ⟨_,_,_,_,_,_,_,_,_,_,_,_,_,rfl,h.step (i:=6) rfl,fun e => hx.1 (by simpa [upd] using e),fun e => hx.2 (by simpa [upd] using e)⟩
  ·refine wpOp_step rfl ?_
   intro K hK
   go_simp
   exact hK _ _ ⟨_,_,_,_,_,_,_,_,_,_,_,_,_,rfl,h.step (i:=7) rfl,fun e => hx.1 (by simpa [upd] using e),fun e => hx.2 (by simpa [upd] using e)⟩
  ·refine wpOp_step rfl ?_
   intro K hK
   go_simp
   exact hK _ _ ⟨_,_,_,_,_,_,_,_,_,_,_,_,_,rfl,h.step (i:=8) rfl,fun e => hx.1 (by simpa [upd] using e),fun e => hx.2 (by simpa [upd] using e)⟩
  ·refine wpOp_step rfl ?_
   intro K hK
   obtain rfl:=h.at (i:=5) (pred_spec ho hp (j:=5) (by kernel_rfl)) rfl rfl
   obtain rfl:=h.at (i:=6) (pred_spec ho hp (j:=6) (by kernel_rfl)) rfl rfl
   obtain rfl:=h.at (i:=7) (pred_spec ho hp (j:=7) (by kernel_rfl)) rfl rfl
   obtain rfl:=h.at (i:=8) (pred_spec ho hp (j:=8) (by kernel_rfl)) rfl rfl
   go_simp
   refine (HFi.out w' h.b).mono ?_
   rintro e w4 ⟨rfl,hb4⟩
   by_cases hF:Fd.1=0
   ·rw [hF,endR_ok]
    exact hK _ _ ⟨_,_,_,_,_,_,_,_,_,_,_,_,_,rfl,(h.ext hb4).step (i:=9) (v:=.int .i64 Fd.2) rfl,fun _ => hF,fun e => absurd (cl_spec hcl (show L 11=true by simpa [upd] using e) (j:=9) (by kernel_rfl)) (by rw [hL];exact Bool.false_ne_true)⟩
   ·rw [endR_no hF]
    exact ⟨rfl,KE.out _ hF (h.b.trans (hb4.mono h.b.size))⟩
  ·refine wpOp_step rfl ?_
   intro K hK
   go_simp
   exact hK _ _ ⟨_,_,_,_,_,_,_,_,_,_,_,_,_,rfl,h.step (i:=10) rfl,fun e => hx.1 (by simpa [upd] using e),fun e => hx.2 (by simpa [upd] using e)⟩
  ·refine wpOp_step rfl ?_
   intro K hK
   obtain rfl:=h.at (i:=3) (pred_spec ho hp (j:=3) (by kernel_rfl)) rfl rfl
   obtain rfl:=h.at (i:=4) (pred_spec ho hp (j:=4) (by kernel_rfl)) rfl rfl
   obtain rfl:=h.at (i:=9) (pred_spec ho hp (j:=9) (by kernel_rfl)) rfl rfl
   obtain rfl:=h.at (i:=10) (pred_spec ho hp (j:=10) (by kernel_rfl)) rfl rfl
   go_simp
   refine (C1.out w' (hx.1 (pred_spec ho hp (j:=9) (by kernel_rfl))) h.b).mono ?_
   rintro e w4 ⟨h3,hb4,⟨ad,cap,rfl⟩ | rfl⟩
   ·exact hK _ _ ⟨_,_,_,_,_,_,_,_,_,_,_,_,_,rfl,VInv.step (i:=11) (v:=.slice ad R.2.length cap) (((h.ext hb4).late hL (.slice ad R.2.length cap)).late (cl_no hcl hL 12 (by kernel_rfl)) (.slice ad R.2.length cap)) rfl,fun e => hx.1 (by simpa [upd] using e),fun _ => ⟨⟨_,_,rfl⟩,h3⟩⟩
   ·exact ⟨rfl,h3⟩
  ·refine wpOp_step rfl ?_
   intro K hK
   go_simp
   exact hK _ _ ⟨_,_,_,_,_,_,_,_,_,_,_,_,_,rfl,h.step (i:=12) (v:=v11) rfl,fun e => hx.1 (by simpa [upd] using e),fun e => hx.2 (by simpa [upd] using e)⟩
 ·rintro L a w1 ⟨v0,v1,v2,v3,v4,v5,v6,v7,v8,v9,v10,v11,v12,rfl,h,hx⟩ hall
  obtain ⟨⟨ad,cap,rfl⟩,hf⟩:=hx.2 (hall 11 (by decide))
  obtain rfl:=h.at (i:=12) (hall 12 (by decide)) rfl rfl
  have HF:=Lib.hid hf
  clear hf hx hall h C1 HFi HK KE
  go_wp2
  go_ret
  exact HF.out
set_option maxHeartbeats 4000000 in
set_option maxRecDepth 100000 in
theorem flows_when (c:Con) (hk:c.k=10) (a1 a2 a3:Option Addr) (n1 n2 n3:Nat) (day fin:Int) (E:EvD) (w:World) (h:FlH c (.slice a1 c.ex.sub.length n1) (.slice a2 c.ds.length n2) (.slice a3 c.sub.length n3) E w) (hd0:0≤day) (hf1:fin≤100000) (hn : ¬ fin≤day) (x:Con) (hds:isDays c.ds=true) (hA:c.ex.isA 2=true) (hl:c.sub=[x]) (HX:PF E x) :
  Calls Tryz.prog 107 #[.agg #[.int .u8 c.k,.string c.fr,.string c.rc,.string c.nm,.int .u8 c.ex.k,.string c.ex.ra,.string c.ex.nm,.int .i64 c.ex.d,.slice a1 c.ex.sub.length n1,.int .i64 c.d,.slice a2 c.ds.length n2,.slice a3 c.sub.length n3],.int .i64 day,.int .i64 fin,.agg #[.slice E.af E.F.length E.cf,.slice E.ac E.C.length E.cc]] w (FlP w (andR (firstR (fun e => c.ex.hold E.F e) day fin c.ds) [] fun q => x.flows E.F E.C q fin)):=by
 obtain ⟨W0,hW0,hb0,hz0,hB0⟩:=fl_world w c (.slice a1 c.ex.sub.length n1) (.slice a2 c.ds.length n2) (.slice a3 c.sub.length n3) day fin E
 have hmf:∀ (fn:Fn) (first cap:Array Value) (w:World),(Instr.makeFunc fn first cap).run Tryz.prog w = .ok (.func fn first cap) w:=fun _ _ _ _ => rfl
 have ck:=hB0.c.cell (j:=0) (u:=.int .u8 c.k) rfl
 have d0:=hB0.d.cell (j:=0) (u:=.int .i64 day) rfl
 have f0:=hB0.f.cell (j:=0) (u:=.int .i64 fin) rfl
 have HB0:=Lib.hid hB0
 have hH0:=h.frame hb0
 have Hb0:=Lib.hid hb0
 have hn2:decide (fin≤day)=false:=decide_eq_false hn
 have tk2:((c.k:Int) == 2)=false:=by rw [hk];rfl
 have tk3:((c.k:Int) == 3)=false:=by rw [hk];rfl
 have tk4:((c.k:Int) == 4)=false:=by rw [hk];rfl
 have tk5:((c.k:Int) == 5)=false:=by rw [hk];rfl
 have tk7:((c.k:Int) == 7)=false:=by rw [hk];rfl
 have tk6:((c.k:Int) == 6)=false:=by rw [hk];rfl
 have tk8:((c.k:Int) == 8)=false:=by rw [hk];rfl
 have tk9:((c.k:Int) == 9)=false:=by rw [hk];rfl
 have tk10:((c.k:Int) == 10)=true:=by rw [hk];rfl
 have hS:=h.rd.2.2.1
 rw [hl] at hS
 obtain ⟨b,off,rfl⟩:=hS.addr (by simp)
 obtain ⟨e1,m1,e2,m2,e3,m3,hr,hbl,hc⟩:=hS.nth (j:=0) rfl off (by omega)
 have hF:=h.sub (x:=x) (by rw [hl];simp) hr
 have HC:=Lib.hid fun W (dy:Int) (fi:Int) (hb:Below w.heap.size w W) (h0:0≤dy) (h1:fi≤100000) => HX _ _ _ dy fi W (hF.frame hb) h0 h1
 have q11:=hB0.c.cell (j:=11) (u:=.slice (some ⟨b,off,none⟩) c.sub.length n3) rfl
 have q9:=hB0.c.cell (j:=9) (u:=.int .i64 c.d) rfl
 have v0:=hB0.v.cell (j:=0) (u:=.slice E.af E.F.length E.cf) rfl
 have v1:=hB0.v.cell (j:=1) (u:=.slice E.ac E.C.length E.cc) rfl
 obtain ⟨c0,c1,c2,c3,c4,c5,c6,c7,c8,c9,c10,c11⟩:=hc W0 hb0
 have hn5:0 < c.sub.length:=by rw [hl];simp
 have hn6:(0:Int) < (c.sub.length:Int):=by omega
 have hbl0:b < W0.heap.size:=by have:=hb0.size;omega
 have hcn:c.ds.length≤1100000:=by have:=c.bulk_eq;have:=h.bulk;omega
 have hdays:=days_all hds
 have HFi:=Lib.hid fun W (hb:Below W0.heap.size W0 W) => firstH_any c (.slice a1 c.ex.sub.length n1) (.slice a2 c.ds.length n2) (.slice (some ⟨b,off,none⟩) c.sub.length n3) day fin (fun e => c.ex.hold E.F e) w.heap.size W (hH0.frame hb).rd hcn
   (fun d hd W' hb' => holdsCl_any d c _ _ _ day fin E w.heap.size W' ((HB0.out.below hb).below hb') ((hH0.frame hb).frame hb') hA (hdays d hd))
 have HK:Hid (FlA w W0 c x a1 a2 e1 e2 e3 n1 n2 n3 m1 m2 m3 b off day fin E) :=
  Lib.hid ⟨hB0.c.cell (j:=0) rfl,hB0.c.cell (j:=1) rfl,hB0.c.cell (j:=2) rfl,hB0.c.cell (j:=3) rfl,hB0.c.cell (j:=4) rfl,hB0.c.cell (j:=5) rfl,hB0.c.cell (j:=6) rfl,hB0.c.cell (j:=7) rfl,hB0.c.cell (j:=8) rfl,hB0.c.cell (j:=9) rfl,hB0.c.cell (j:=10) rfl,hB0.c.cell (j:=11) rfl,c0,c1,c2,c3,c4,c5,c6,c7,c8,c9,c10,c11,d0,f0,v0,v1⟩
 have hz1:w.heap.size≤W0.heap.size:=hb0.size
 obtain ⟨Fd,hFd⟩:∃ F,F=firstR (fun e => c.ex.hold E.F e) day fin c.ds:=⟨_,rfl⟩
 have hbd:=first_bd (fun e => c.ex.hold E.F e) day fin (by omega) c.ds
 rw [← hFd] at HFi hbd ⊢
 obtain ⟨R0,hR0⟩:∃ R0,R0=(andR Fd [] fun q => x.flows E.F E.C q fin):=⟨_,rfl⟩
 rw [← hR0]
 obtain ⟨R,hR⟩:∃ R,R=x.flows E.F E.C Fd.2 fin:=⟨_,rfl⟩
 have KE:Hid (∀ W2,Fd.1 ≠ 0→Below W0.heap.size W0 W2→FlP w R0 (.panicked (stopC Fd.1)) W2):=Lib.hid fun W2 hF hb => by
  rw [hR0,andR,if_pos hF]
  exact ⟨Hb0.out.trans (hb.mono hz1),.inr ⟨hF,rfl⟩⟩
 have C1:Hid (∀ W,Fd.1=0→Below W0.heap.size W0 W→Calls _ _ _ W fun e w' => FlP w R0 e w'∧Below W.heap.size W w'∧((∃ ad cap,e = .returned (.slice ad R.2.length cap))∨e = .panicked (stopC R.1))):=Lib.hid fun W hF hb =>
  (HC.out W Fd.2 fin (Hb0.out.trans (hb.mono hz1)) (by have:=(hbd hF).1;omega) hf1).mono fun e w' q => ⟨by rw [hR0,andR,if_neg (fun k => k hF)];exact q.at (Hb0.out.trans (hb.mono hz1)),q.1,by
   rcases q with ⟨_,⟨_,v,rfl,⟨ad,cap,rfl⟩,_⟩ | ⟨_,rfl⟩⟩
   ·exact .inl ⟨ad,cap,by rw [hR]⟩
   ·exact .inr (by rw [hR])⟩
 clear h hH0 hB0 HB0 hn hk hl HX hd0 hf1 HC hF hr hS hc hds hdays hb0 hFd hcn q11 q9 c0 c1 c2 c3 c4 c5 c6 c7 c8 c9 c10 c11 v0 v1 hbd hA hR0 hR
 go_enter Tryz.func107,Tryz.ntmps107
 go_upto_region 1 with (fail)
 clear hW0
 go_wp2_with fail
 refine wp_region_invc (fun L a w' => ∃ (v0 v1 v2 v3 v4 v5 v6 v7 v8 v9 v10 v11 v12:Value),a=⟨#[.agg #[.int .u8 c.k,.string c.fr,.string c.rc,.string c.nm,.int .u8 c.ex.k,.string c.ex.ra,.string c.ex.nm,.int .i64 c.ex.d,.slice a1 c.ex.sub.length n1,.int .i64 c.d,.slice a2 c.ds.length n2,.slice (some ⟨b,off,none⟩) c.sub.length n3],.int .i64 day,.int .i64 fin,.agg #[.slice E.af E.F.length E.cf,.slice E.ac E.C.length E.cc],.pointer (some ⟨w.heap.size,0,none⟩),.pointer (some ⟨w.heap.size+1,0,none⟩),.pointer (some ⟨w.heap.size+1+1,0,none⟩),.pointer (some ⟨w.heap.size+1+1+1,0,none⟩),v12,.func (.func 128) #[] #[.pointer (some ⟨w.heap.size+1+1+1,0,none⟩),.pointer (some ⟨w.heap.size,0,none⟩)],.func (.func 130) #[] #[.pointer (some ⟨w.heap.size,0,none⟩),.pointer (some ⟨w.heap.size+1+1+1,0,none⟩)],.func (.func 133) #[] #[.pointer (some ⟨w.heap.size,0,none⟩),.pointer (some ⟨w.heap.size+1,0,none⟩),.pointer (some ⟨w.heap.size+1+1+1,0,none⟩)],.func (.func 136) #[] #[.pointer (some ⟨w.heap.size,0,none⟩),.pointer (some ⟨w.heap.size+1,0,none⟩),.pointer (some ⟨w.heap.size+1+1,0,none⟩),.pointer (some ⟨w.heap.size+1+1+1,0,none⟩)],undef,undef,undef,undef,.int .i64 day,.int .i64 fin,.bool false,.func (.func 128) #[] #[.pointer (some ⟨w.heap.size+1+1+1,0,none⟩),.pointer (some ⟨w.heap.size,0,none⟩)],.func (.func 130) #[] #[.pointer (some ⟨w.heap.size,0,none⟩),.pointer (some ⟨w.heap.size+1+1+1,0,none⟩)],.func (.func 133) #[] #[.pointer (some ⟨w.heap.size,0,none⟩),.pointer (some ⟨w.heap.size+1,0,none⟩),.pointer (some ⟨w.heap.size+1+1+1,0,none⟩)],.func (.func 136) #[] #[.pointer (some ⟨w.heap.size,0,none⟩),.pointer (some ⟨w.heap.size+1,0,none⟩),.pointer (some ⟨w.heap.size+1+1,0,none⟩),.pointer (some ⟨w.heap.size+1+1+1,0,none⟩)],.pointer (some ⟨w.heap.size,0,none⟩),.int .u8 c.k,.bool false,.bool false,undef,undef,undef,undef,undef,undef,undef,undef,undef,undef,.bool false,.bool false,undef,undef,undef,undef,undef,.bool false,.bool false,undef,undef,undef,undef,undef,undef,undef,undef,undef,undef,undef,undef,undef,undef,undef,undef,undef,undef,undef,undef,undef,undef,undef,undef,undef,undef,undef,undef,undef,.bool false,.bool false,undef,undef,undef,undef,undef,undef,.bool false,.bool false,undef,undef,undef,undef,undef,undef,.bool false,.bool false,undef,undef,undef,undef,undef,undef,undef,undef,undef,undef,undef,undef,undef,.bool false,.bool false,undef,undef,undef,undef,undef,undef,undef,undef,undef,undef,undef,undef,.bool false,.bool false,undef,undef,undef,undef,undef,undef,undef,undef,undef,undef,undef,undef,.bool true,.bool true,v0,v1,v2,v3,v4,v5,v6,v7,v8,v9,v10,v11],[]⟩∧VInv W0 [.pointer (some ⟨w.heap.size,11,none⟩),.slice (some ⟨b,off,none⟩) c.sub.length n3,.pointer (some ⟨b,off,none⟩),.agg #[.int .u8 x.k,.string x.fr,.string x.rc,.string x.nm,.int .u8 x.ex.k,.string x.ex.ra,.string x.ex.nm,.int .i64 x.ex.d,.slice e1 x.ex.sub.length m1,.int .i64 x.d,.slice e2 x.ds.length m2,.slice e3 x.sub.length m3],.agg #[.int .u8 c.k,.string c.fr,.string c.rc,.string c.nm,.int .u8 c.ex.k,.string c.ex.ra,.string c.ex.nm,.int .i64 c.ex.d,.slice a1 c.ex.sub.length n1,.int .i64 c.d,.slice a2 c.ds.length n2,.slice (some ⟨b,off,none⟩) c.sub.length n3],.int .i64 day,.int .i64 fin,.func (.func 130) #[] #[.pointer (some ⟨w.heap.size,0,none⟩),.pointer (some ⟨w.heap.size+1+1+1,0,none⟩)],.int .i64 Fd.2,.int .i64 fin,.agg #[.slice E.af E.F.length E.cf,.slice E.ac E.C.length E.cc],v11,v11] [v0,v1,v2,v3,v4,v5,v6,v7,v8,v9,v10,v11,v12] L w'∧(L 8=true→Fd.1=0)∧(L 11=true→(∃ ad cap,v11 = .slice ad R.2.length cap)∧FlP w R0 (.returned v11) w')) (by kernel_rfl) (by kernel_rfl) ?_ ?_ ?_
 ·exact ⟨_,_,_,_,_,_,_,_,_,_,_,_,_,rfl,VInv.start (below_drewN (Below.refl _ _) 1) rfl,fun e => (by cases e),fun e => (by cases e)⟩
 ·rintro L a w' ⟨v0,v1,v2,v3,v4,v5,v6,v7,v8,v9,v10,v11,v12,rfl,h,hx⟩ hcl i o ho hL hp
  have hi9:i < 13:=by simpa using (Array.getElem?_eq_some_iff.1 ho).1
  have hi2:i=0∨i=1∨i=2∨i=3∨i=4∨i=5∨i=6∨i=7∨i=8∨i=9∨i=10∨i=11∨i=12:=by omega
  clear hi9
  obtain ⟨z0,z1,z2,z3,z4,z5,z6,z7,z8,z9,z10,z11,z12,z13,z14,z15,z16,z17,z18,z19,z20,z21,z22,z23,z24,z25,z26,z27⟩:=HK.out.keep h.b
  rcases hi2 with rfl | rfl | rfl | rfl | rfl | rfl | rfl | rfl | rfl | rfl | rfl | rfl | rfl
  ·refine wpOp_step rfl ?_
   intro K hK
   go_simp
   exact hK _ _ ⟨_,_,_,_,_,_,_,_,_,_,_,_,_,rfl,h.step (i:=0) rfl,fun e => hx.1 (by simpa [upd] using e),fun e => hx.2 (by simpa [upd] using e)⟩
  ·refine wpOp_step rfl ?_
   intro K hK
   obtain rfl:=h.at (i:=0) (pred_spec ho hp (j:=0) (by kernel_rfl)) rfl rfl
   go_simp
   exact hK _ _ ⟨_,_,_,_,_,_,_,_,_,_,_,_,_,rfl,h.step (i:=1) rfl,fun e => hx.1 (by simpa [upd] using e),fun e => hx.2 (by simpa [upd] using e)⟩
  ·refine wpOp_step rfl ?_
   intro K hK
   obtain rfl:=h.at (i:=1) (pred_spec ho hp (j:=1) (by kernel_rfl)) rfl rfl
   go_simp
   exact hK _ _ ⟨_,_,_,_,_,_,_,_,_,_,_,_,_,rfl,h.step (i:=2) rfl,fun e => hx.1 (by simpa [upd] using e),fun e => hx.2 (by simpa [upd] using e)⟩
  ·refine wpOp_step rfl ?_
   intro K hK
   obtain rfl:=h.at (i:=2) (pred_spec ho hp (j:=2) (by kernel_rfl)) rfl rfl
   go_simp
   exact hK _ _ ⟨_,_,_,_,_,_,_,_,_,_,_,_,_,rfl,h.step (i:=3) rfl,fun e => hx.1 (by simpa [upd] using e),fun e => hx.2 (by simpa [upd] using e)⟩
  ·refine wpOp_step rfl ?_
   intro K hK
   go_simp
   exact hK _ _ ⟨_,_,_,_,_,_,_,_,_,_,_,_,_,rfl,h.step (i:=4) rfl,fun e => hx.1 (by simpa [upd] using e),fun e => hx.2 (by simpa [upd] using e)⟩
  ·refine wpOp_step rfl ?_
   intro K hK
   go_simp
   exact hK _ _ ⟨_,_,_,_,_,_,_,_,_,_,_,_,_,rfl,h.step (i:=5) rfl,fun e => hx.1 (by simpa [upd] using e),fun e => hx.2 (by simpa [upd] using e)⟩
  ·refine wpOp_step rfl ?_
   intro K hK
   go_simp
   exact hK _ _ ⟨_,_,_,_,_,_,_,_,_,_,_,_,_,rfl,h.step (i:=6) rfl,fun e => hx.1 (by simpa [upd] using e),fun e => hx.2 (by simpa [upd] using e)⟩
  ·refine wpOp_step rfl ?_
   intro K hK
   go_simp
   exact hK _ _ ⟨_,_,_,_,_,_,_,_,_,_,_,_,_,rfl,h.step (i:=7) rfl,fun e => hx.1 (by simpa [upd] using e),fun e => hx.2 (by simpa [upd] using e)⟩
  ·refine wpOp_step rfl ?_
   intro K hK
   obtain rfl:=h.at (i:=4) (pred_spec ho hp (j:=4) (by kernel_rfl)) rfl rfl
   obtain rfl:=h.at (i:=5) (pred_spec ho hp (j:=5) (by kernel_rfl)) rfl rfl
   obtain rfl:=h.at (i:=6) (pred_spec ho hp (j:=6) (by kernel_rfl)) rfl rfl
   obtain rfl:=h.at (i:=7) (pred_spec ho hp (j:=7) (by kernel_rfl)) rfl rfl
   go_simp
   refine (HFi.out w' h.b).mono ?_
   rintro e w4 ⟨rfl,hb4⟩
   by_cases hF:Fd.1=0
   ·rw [hF,endR_ok]
    exact hK _ _ ⟨_,_,_,_,_,_,_,_,_,_,_,_,_,rfl,(h.ext hb4).step (i:=8) (v:=.int .i64 Fd.2) rfl,fun _ => hF,fun e => absurd (cl_spec hcl (show L 11=true by simpa [upd] using e) (j:=8) (by kernel_rfl)) (by rw [hL];exact Bool.false_ne_true)⟩
   ·rw [endR_no hF]
    exact ⟨rfl,KE.out _ hF (h.b.trans (hb4.mono h.b.size))⟩
  ·refine wpOp_step rfl ?_
   intro K hK
   go_simp
   exact hK _ _ ⟨_,_,_,_,_,_,_,_,_,_,_,_,_,rfl,h.step (i:=9) rfl,fun e => hx.1 (by simpa [upd] using e),fun e => hx.2 (by simpa [upd] using e)⟩
  ·refine wpOp_step rfl ?_
   intro K hK
   go_simp
   exact hK _ _ ⟨_,_,_,_,_,_,_,_,_,_,_,_,_,rfl,h.step (i:=10) rfl,fun e => hx.1 (by simpa [upd] using e),fun e => hx.2 (by simpa [upd] using e)⟩
  ·refine wpOp_step rfl ?_
   intro K hK
   obtain rfl:=h.at (i:=3) (pred_spec ho hp (j:=3) (by kernel_rfl)) rfl rfl
   obtain rfl:=h.at (i:=8) (pred_spec ho hp (j:=8) (by kernel_rfl)) rfl rfl
   obtain rfl:=h.at (i:=9) (pred_spec ho hp (j:=9) (by kernel_rfl)) rfl rfl
   obtain rfl:=h.at (i:=10) (pred_spec ho hp (j:=10) (by kernel_rfl)) rfl rfl
   go_simp
   refine (C1.out w' (hx.1 (pred_spec ho hp (j:=8) (by kernel_rfl))) h.b).mono ?_
   rintro e w4 ⟨h3,hb4,⟨ad,cap,rfl⟩ | rfl⟩
   ·exact hK _ _ ⟨_,_,_,_,_,_,_,_,_,_,_,_,_,rfl,VInv.step (i:=11) (v:=.slice ad R.2.length cap) (((h.ext hb4).late hL (.slice ad R.2.length cap)).late (cl_no hcl hL 12 (by kernel_rfl)) (.slice ad R.2.length cap)) rfl,fun e => hx.1 (by simpa [upd] using e),fun _ => ⟨⟨_,_,rfl⟩,h3⟩⟩
   ·exact ⟨rfl,h3⟩
  ·refine wpOp_step rfl ?_
   intro K hK
   go_simp
   exact hK _ _ ⟨_,_,_,_,_,_,_,_,_,_,_,_,_,rfl,h.step (i:=12) (v:=v11) rfl,fun e => hx.1 (by simpa [upd] using e),fun e => hx.2 (by simpa [upd] using e)⟩
 ·rintro L a w1 ⟨v0,v1,v2,v3,v4,v5,v6,v7,v8,v9,v10,v11,v12,rfl,h,hx⟩ hall
  obtain ⟨⟨ad,cap,rfl⟩,hf⟩:=hx.2 (hall 11 (by decide))
  obtain rfl:=h.at (i:=12) (hall 12 (by decide)) rfl rfl
  have HF:=Lib.hid hf
  clear hf hx hall h C1 HFi HK KE
  go_wp2
  go_ret
  exact HF.out
end Go.Proofs.YthdeijdimfjceaaGreatDoor

namespace Go.Proofs.YthdeijdimfjceaaGreatDoor
open Go.RowKit
def amS (l:List Fl):Prop:=∀ f ∈ l,f.am.size≤1000000
theorem paidS_sm {d:Int} {fr rc cy am:ByteArray} (h:am.size≤1000000):amS (paidS d fr rc cy am):=by
 intro f hf
 unfold paidS at hf
 split at hf
 ·cases hf
 ·split at hf
  ·rw [List.mem_singleton] at hf;subst hf
   show (mkB _).size≤_
   rw [mkB_size,List.length_drop,bl_length];omega
  ·rw [List.mem_singleton] at hf;subst hf;exact h
theorem andR_sm {α:Type} {a:Int × α} {f:α→Int × List Fl} (h:a.1=0→amS (f a.2).2):amS (andR a [] f).2:=by
 unfold andR
 split
 ·intro f hf;cases hf
 ·next h0 => exact h (Decidable.not_not.1 h0)
theorem mulAll_sm (k:ByteArray):∀ l:List Fl,amS (mulAll k l).2
 | [] => by intro f hf;cases hf
 | f :: l => by
  unfold mulAll
  refine andR_sm fun _ => andR_sm fun _ => ?_
  intro g hg
  rcases List.mem_append.1 hg with hg | hg
  ·exact paidS_sm (Nat.le_trans (mulS_size f.am k) (by decide)) g hg
  ·exact mulAll_sm k l g hg
theorem flows_sm {F:List Fx} {C:List Ch} (hF:∀ f ∈ F,ratErr f.vl=0):∀ (N:Nat) (c:Con),c.bulk≤N→c.formed=true→∀ day fin,amS (c.flows F C day fin).2
 | 0,c,hN,_ => by have:=c.sub_lt;omega
 | N+1,c,hN,hw => fun day fin => by
  have IH:∀ y ∈ c.sub,∀ day fin,amS (y.flows F C day fin).2:=fun y hy => flows_sm hF N y (by have:=Con.mem_lt hy;omega) (by
   rw [Con.formed_eq,Bool.and_eq_true,Con.formeds_eq] at hw;exact List.all_eq_true.1 hw.2 y hy)
  have hcs:=con_cases c hw
  obtain ⟨k,fr,rc,nm,ex,d,ds,l⟩:=c
  simp only [Con.k,Con.sub,Con.ex,Con.d,Con.ds] at hcs IH
  unfold Con.flows
  split
  ·intro f hf;cases hf
  ·rcases hcs with ⟨rfl,rfl⟩ | ⟨rfl,rfl,hA⟩ | ⟨rfl,x,y,rfl⟩ | ⟨rfl,hA,x,rfl⟩ | ⟨rfl,hA,x,y,rfl⟩ | ⟨rfl,hd,x,rfl⟩ | ⟨rfl,x,y,rfl⟩ | ⟨rfl,hd,x,rfl⟩ | ⟨hk,hd,hA,x,rfl⟩
   ·intro f hf;cases hf
   ·dsimp only
    rw [if_pos rfl]
    exact andR_sm fun h => paidS_sm (value_ok hF day ex.bulk ex (Nat.le_refl _) (isA_is hA).2 h).2
   ·dsimp only
    rw [if_pos rfl]
    refine andR_sm fun _ => andR_sm fun _ => ?_
    intro f hf
    rcases List.mem_append.1 hf with hf | hf
    ·exact IH x (by simp) _ _ f hf
    ·exact IH y (by simp) _ _ f hf
   ·dsimp only
    rw [if_pos rfl]
    exact andR_sm fun _ => andR_sm fun _ => mulAll_sm _ _
   ·dsimp only
    rw [if_neg (by decide),if_pos rfl]
    refine andR_sm fun _ => ?_
    split
    ·exact IH x (by simp) _ _
    ·exact IH y (by simp) _ _
   ·dsimp only
    rw [if_neg (by decide),if_pos rfl]
    split
    ·exact IH x (by simp) _ _
    ·intro f hf;cases hf
   ·dsimp only
    rw [if_neg (by decide),if_neg (by decide)]
    split
    ·exact IH x (by simp) _ _
    ·exact IH y (by simp) _ _
   ·dsimp only
    rw [if_neg (by decide),if_neg (by decide),if_pos rfl]
    exact IH x (by simp) _ _
   ·dsimp only
    rcases hk with rfl | rfl
    ·rw [if_neg (by decide),if_neg (by decide),if_neg (by decide),if_pos rfl]
     exact andR_sm fun _ => IH x (by simp) _ _
    ·rw [if_neg (by decide),if_neg (by decide),if_neg (by decide),if_neg (by decide)]
     exact andR_sm fun _ => IH x (by simp) _ _
theorem flows_any:∀ (N:Nat) (c:Con) (E:EvD),c.bulk≤N→PF E c
 | 0,c,E,hN => by have:=c.sub_lt;omega
 | N+1,c,E,hN => fun es dd ss day fin W h h0 h1 => by
  have IH:∀ y ∈ c.sub,PF E y:=fun y hy => flows_any N y E (by have:=Con.mem_lt hy;omega)
  obtain ⟨a1,n1,rfl⟩:=h.rd.1.len
  obtain ⟨a2,n2,rfl⟩:=h.rd.2.1.len
  obtain ⟨a3,n3,rfl⟩:=h.rd.2.2.1.len
  have hcs:=con_cases c h.wf
  have hbk:=c.bulk_eq
  have hB:=h.bulk
  have hlen:∀ x ∈ c.sub,∀ day fin,(x.flows E.F E.C day fin).2.length≤x.bulk:=fun x _ => flows_len E.F E.C x.bulk x (Nat.le_refl _)
  have hwf:∀ x ∈ c.sub,x.formed=true:=fun x hx => by
   have hw:=h.wf
   rw [Con.formed_eq,Bool.and_eq_true,Con.formeds_eq] at hw;exact List.all_eq_true.1 hw.2 x hx
  by_cases hn:fin≤day
  ·have e:c.flows E.F E.C day fin=(0,[]):=by cases c;unfold Con.flows;rw [if_pos hn]
   rw [e]
   exact flows_nil c a1 a2 a3 n1 n2 n3 day fin E W h hn
  ·rcases hcs with ⟨hk,hl⟩ | ⟨hk,hl,hA⟩ | ⟨hk,x,y,hl⟩ | ⟨hk,hA,x,hl⟩ | ⟨hk,hA,x,y,hl⟩ | ⟨hk,hd,x,hl⟩ | ⟨hk,x,y,hl⟩ | ⟨hk,hd,x,hl⟩ | ⟨hk,hd,hA,x,hl⟩
   ·have e:c.flows E.F E.C day fin=(0,[]):=by
     cases c;simp only [Con.k,Con.sub] at hk hl;subst hk hl;rw [Con.flows,if_neg hn];(try dsimp only);rw [if_neg (by decide)]
    rw [e]
    exact flows_zero c hk a1 a2 a3 n1 n2 n3 day fin E W h hn
   ·have e:c.flows E.F E.C day fin=andR (c.ex.value E.F day) [] fun a => (0,paidS day c.fr c.rc c.nm a):=by
     cases c;simp only [Con.k,Con.sub] at hk hl;subst hk hl;rw [Con.flows,if_neg hn];(try dsimp only);rw [if_pos rfl];rfl
    rw [e]
    exact flows_pay c hk a1 a2 a3 n1 n2 n3 day fin E W h h0 h1 hn hA
   ·have e:c.flows E.F E.C day fin=andR (x.flows E.F E.C day fin) [] fun a => andR (y.flows E.F E.C day fin) [] fun b => (0,a ++ b):=by
     cases c;simp only [Con.k,Con.sub] at hk hl;subst hk hl;rw [Con.flows,if_neg hn];(try dsimp only);rw [if_pos rfl]
    rw [e]
    have l1:=hlen x (by rw [hl];simp) day fin
    have l2:=hlen y (by rw [hl];simp) day fin
    rw [hl] at hbk
    simp only [Con.bulks] at hbk
    exact flows_both c hk a1 a2 a3 n1 n2 n3 day fin E W h h0 h1 hn x y hl (IH x (by rw [hl];simp)) (IH y (by rw [hl];simp)) (by omega)
   ·have e:c.flows E.F E.C day fin=andR (c.ex.value E.F day) [] fun a => andR (x.flows E.F E.C day fin) [] fun l => mulAll a l:=by
     cases c;simp only [Con.k,Con.sub] at hk hl;subst hk hl;rw [Con.flows,if_neg hn];(try dsimp only);rw [if_pos rfl];rfl
    rw [e]
    exact flows_scale c hk a1 a2 a3 n1 n2 n3 day fin E W h h0 h1 hn hA x hl (IH x (by rw [hl];simp)) (by have:=hlen x (by rw [hl];simp) day fin;have:=Con.mem_lt (x:=c) (y:=x) (by rw [hl];simp);omega) (flows_sm (env_rat h.ok) x.bulk x (Nat.le_refl _) (hwf x (by rw [hl];simp)) day fin)
   ·have e:c.flows E.F E.C day fin=andR (c.ex.hold E.F day) [] fun b => if b=true then x.flows E.F E.C day fin else y.flows E.F E.C day fin:=by
     cases c;simp only [Con.k,Con.sub] at hk hl;subst hk hl;rw [Con.flows,if_neg hn];(try dsimp only);rw [if_neg (by decide),if_pos rfl];rfl
    rw [e]
    exact flows_if c hk a1 a2 a3 n1 n2 n3 day fin E W h h0 h1 hn hA x y hl (IH x (by rw [hl];simp)) (IH y (by rw [hl];simp))
   ·have e:c.flows E.F E.C day fin=if day≤c.d then x.flows E.F E.C c.d fin else (0,[]):=by
     cases c;simp only [Con.k,Con.sub] at hk hl;subst hk hl;rw [Con.flows,if_neg hn];(try dsimp only);rw [if_neg (by decide),if_pos rfl];rfl
    rw [e]
    exact flows_at c hk a1 a2 a3 n1 n2 n3 day fin E W h h1 hn x hd hl (IH x (by rw [hl];simp))
   ·have e:c.flows E.F E.C day fin=if chosenB E.C c.fr c.nm day=true then x.flows E.F E.C day fin else y.flows E.F E.C day fin:=by
     cases c;simp only [Con.k,Con.sub] at hk hl;subst hk hl;rw [Con.flows,if_neg hn];(try dsimp only);rw [if_neg (by decide),if_neg (by decide)];rfl
    rw [e]
    exact flows_pick c hk a1 a2 a3 n1 n2 n3 day fin E W h h0 h1 hn x y hl (IH x (by rw [hl];simp)) (IH y (by rw [hl];simp))
   ·have e:c.flows E.F E.C day fin=x.flows E.F E.C (firstR (fun e => (0,chosenB E.C c.fr c.nm e)) day fin c.ds).2 fin:=by
     cases c;simp only [Con.k,Con.sub] at hk hl;subst hk hl;rw [Con.flows,if_neg hn];(try dsimp only);rw [if_neg (by decide),if_neg (by decide),if_pos rfl];rfl
    rw [e]
    exact flows_call c hk a1 a2 _ n1 n2 n3 day fin E W h h0 h1 hn x hd hl (IH x (by rw [hl];simp))
   ·rcases hk with hk | hk
    ·have e:c.flows E.F E.C day fin=andR (firstR (fun e => c.ex.hold E.F e) day fin c.ds) [] fun q => x.flows E.F E.C day q:=by
      cases c;simp only [Con.k,Con.sub] at hk hl;subst hk hl;rw [Con.flows,if_neg hn];(try dsimp only);rw [if_neg (by decide),if_neg (by decide),if_neg (by decide),if_pos rfl];rfl
     rw [e]
     exact flows_until c hk a1 a2 _ n1 n2 n3 day fin E W h h0 h1 hn x hd hA hl (IH x (by rw [hl];simp))
    ·have e:c.flows E.F E.C day fin=andR (firstR (fun e => c.ex.hold E.F e) day fin c.ds) [] fun q => x.flows E.F E.C q fin:=by
      cases c;simp only [Con.k,Con.sub] at hk hl;subst hk hl;rw [Con.flows,if_neg hn];(try dsimp only);rw [if_neg (by decide),if_neg (by decide),if_neg (by decide),if_neg (by decide)];rfl
     rw [e]
     exact flows_when c hk a1 a2 _ n1 n2 n3 day fin E W h h0 h1 hn x hd hA hl (IH x (by rw [hl];simp))
end Go.Proofs.YthdeijdimfjceaaGreatDoor

namespace Go.Proofs.YthdeijdimfjceaaGreatDoor
open Go.RowKit
def CBox (W:World) (B:Nat) (x:Con) (es dd ss:Value):Prop :=
 W.cell? ⟨B,0,none⟩=some (.int .u8 x.k)∧W.cell? ⟨B,1,none⟩=some (.string x.fr)∧W.cell? ⟨B,2,none⟩=some (.string x.rc)∧W.cell? ⟨B,3,none⟩=some (.string x.nm)
  ∧ W.cell? ⟨B,4,none⟩=some (.int .u8 x.ex.k)∧W.cell? ⟨B,5,none⟩=some (.string x.ex.ra)∧W.cell? ⟨B,6,none⟩=some (.string x.ex.nm)∧W.cell? ⟨B,7,none⟩=some (.int .i64 x.ex.d)∧W.cell? ⟨B,8,none⟩=some es
  ∧ W.cell? ⟨B,9,none⟩=some (.int .i64 x.d)∧W.cell? ⟨B,10,none⟩=some dd∧W.cell? ⟨B,11,none⟩=some ss
theorem CBox.new (w:World) (x:Con) (es dd ss:Value) (t:TypeId):CBox (w.alloc (.cells #[.int .u8 x.k,.string x.fr,.string x.rc,.string x.nm,.int .u8 x.ex.k,.string x.ex.ra,.string x.ex.nm,.int .i64 x.ex.d,es,.int .i64 x.d,dd,ss] t)) w.heap.size x es dd ss :=
 ⟨by go_simp,by go_simp,by go_simp,by go_simp,by go_simp,by go_simp,by go_simp,by go_simp,by go_simp,by go_simp,by go_simp,by go_simp⟩
theorem CBox.lt {W:World} {B:Nat} {x:Con} {es dd ss:Value} (h:CBox W B x es dd ss):B < W.heap.size:=World.block_lt_of_cell? W _ h.1
theorem CBox.kept {W W':World} {B:Nat} {x:Con} {es dd ss:Value} (h:CBox W B x es dd ss) (k:∀ o u,W.cell? ⟨B,o,none⟩=some u→W'.cell? ⟨B,o,none⟩=some u):CBox W' B x es dd ss:=by
 obtain ⟨c0,c1,c2,c3,c4,c5,c6,c7,c8,c9,c10,c11⟩:=h
 exact ⟨k _ _ c0,k _ _ c1,k _ _ c2,k _ _ c3,k _ _ c4,k _ _ c5,k _ _ c6,k _ _ c7,k _ _ c8,k _ _ c9,k _ _ c10,k _ _ c11⟩
theorem CBox.below {W W':World} {B n:Nat} {x:Con} {es dd ss:Value} (h:CBox W B x es dd ss) (hb:Below n W W') (hB:B < n):CBox W' B x es dd ss :=
 h.kept fun o u hc => by rw [hb.cell (p:=⟨B,o,none⟩) hB];exact hc
theorem CBox.low {W W':World} {B:Nat} {x:Con} {es dd ss:Value} (h:CBox W B x es dd ss) (hb:Below W.heap.size W W'):CBox W' B x es dd ss:=h.below hb h.lt
theorem CBox.far {W:World} {B:Nat} {x:Con} {es dd ss:Value} (h:CBox W B x es dd ss) {a:Addr} (ha:B ≠ a.block) (u:Value):CBox (W.setCell a u) B x es dd ss :=
 h.kept fun o v hc => by rw [World.cell?_of_block (w:=W) (Below.heap_setCell _ _ _ _ ha)];exact hc
def EBox (W:World) (B:Nat) (x:Ex) (s:Value):Prop :=
 W.cell? ⟨B,0,none⟩=some (.int .u8 x.k)∧W.cell? ⟨B,1,none⟩=some (.string x.ra)∧W.cell? ⟨B,2,none⟩=some (.string x.nm)∧W.cell? ⟨B,3,none⟩=some (.int .i64 x.d)∧W.cell? ⟨B,4,none⟩=some s
theorem EBox.new (w:World) (x:Ex) (s:Value) (t:TypeId):EBox (w.alloc (.cells #[.int .u8 x.k,.string x.ra,.string x.nm,.int .i64 x.d,s] t)) w.heap.size x s :=
 ⟨by go_simp,by go_simp,by go_simp,by go_simp,by go_simp⟩
theorem EBox.lt {W:World} {B:Nat} {x:Ex} {s:Value} (h:EBox W B x s):B < W.heap.size:=World.block_lt_of_cell? W _ h.1
theorem EBox.kept {W W':World} {B:Nat} {x:Ex} {s:Value} (h:EBox W B x s) (k:∀ o u,W.cell? ⟨B,o,none⟩=some u→W'.cell? ⟨B,o,none⟩=some u):EBox W' B x s:=by
 obtain ⟨c0,c1,c2,c3,c4⟩:=h
 exact ⟨k _ _ c0,k _ _ c1,k _ _ c2,k _ _ c3,k _ _ c4⟩
theorem EBox.below {W W':World} {B n:Nat} {x:Ex} {s:Value} (h:EBox W B x s) (hb:Below n W W') (hB:B < n):EBox W' B x s :=
 h.kept fun o u hc => by rw [hb.cell (p:=⟨B,o,none⟩) hB];exact hc
theorem EBox.low {W W':World} {B:Nat} {x:Ex} {s:Value} (h:EBox W B x s) (hb:Below W.heap.size W W'):EBox W' B x s:=h.below hb h.lt
end Go.Proofs.YthdeijdimfjceaaGreatDoor
