/-
  meaning.flows: a call.  Printed by tools/genflw4.py.
-/
import Derived.Test.YtknpnhodpgajbaaGreatDoorE23
namespace Go.Proofs.YtknpnhodpgajbaaGreatDoor
open Go.RowKit
def FlA (w W:World) (c x:Con) (a1 a2 e1 e2 e3:Option Addr) (n1 n2 n3 m1 m2 m3 b off:Nat) (day fin:Int) (E:EvD):Prop :=
 W.cell? ⟨w.heap.size,0,none⟩=some (.int .u8 c.k)∧W.cell? ⟨w.heap.size,1,none⟩=some (.string c.fr)∧W.cell? ⟨w.heap.size,2,none⟩=some (.string c.rc)∧W.cell? ⟨w.heap.size,3,none⟩=some (.string c.nm)∧W.cell? ⟨w.heap.size,4,none⟩=some (.int .u8 c.ex.k)∧W.cell? ⟨w.heap.size,5,none⟩=some (.string c.ex.ra)∧W.cell? ⟨w.heap.size,6,none⟩=some (.string c.ex.nm)∧W.cell? ⟨w.heap.size,7,none⟩=some (.int .i64 c.ex.d)∧W.cell? ⟨w.heap.size,8,none⟩=some (.slice a1 c.ex.sub.length n1)∧W.cell? ⟨w.heap.size,9,none⟩=some (.int .i64 c.d)∧W.cell? ⟨w.heap.size,10,none⟩=some (.slice a2 c.ds.length n2)∧W.cell? ⟨w.heap.size,11,none⟩=some (.slice (some ⟨b,off,none⟩) c.sub.length n3)∧W.cell? ⟨b,off,none⟩=some (.int .u8 x.k)∧W.cell? ⟨b,off+1,none⟩=some (.string x.fr)∧W.cell? ⟨b,off+2,none⟩=some (.string x.rc)∧W.cell? ⟨b,off+3,none⟩=some (.string x.nm)∧W.cell? ⟨b,off+4,none⟩=some (.int .u8 x.ex.k)∧W.cell? ⟨b,off+5,none⟩=some (.string x.ex.ra)∧W.cell? ⟨b,off+6,none⟩=some (.string x.ex.nm)∧W.cell? ⟨b,off+7,none⟩=some (.int .i64 x.ex.d)∧W.cell? ⟨b,off+8,none⟩=some (.slice e1 x.ex.sub.length m1)∧W.cell? ⟨b,off+9,none⟩=some (.int .i64 x.d)∧W.cell? ⟨b,off+10,none⟩=some (.slice e2 x.ds.length m2)∧W.cell? ⟨b,off+11,none⟩=some (.slice e3 x.sub.length m3)∧W.cell? ⟨w.heap.size+1,0,none⟩=some (.int .i64 day)∧W.cell? ⟨w.heap.size+1+1,0,none⟩=some (.int .i64 fin)∧W.cell? ⟨w.heap.size+1+1+1,0,none⟩=some (.slice E.af E.F.length E.cf)∧W.cell? ⟨w.heap.size+1+1+1,1,none⟩=some (.slice E.ac E.C.length E.cc)
theorem FlA.keep {w W W2:World} {c x:Con} {a1 a2 e1 e2 e3:Option Addr} {n1 n2 n3 m1 m2 m3 b off:Nat} {day fin:Int} {E:EvD} (h:FlA w W c x a1 a2 e1 e2 e3 n1 n2 n3 m1 m2 m3 b off day fin E) (hb:Below W.heap.size W W2):FlA w W2 c x a1 a2 e1 e2 e3 n1 n2 n3 m1 m2 m3 b off day fin E:=by
 have k:∀ {p u},W.cell? p=some u→W2.cell? p=some u:=fun {p u} hu => by rw [hb.cell (p:=p) (World.block_lt_of_cell? W _ hu)];exact hu
 obtain ⟨h0,h1,h2,h3,h4,h5,h6,h7,h8,h9,h10,h11,h12,h13,h14,h15,h16,h17,h18,h19,h20,h21,h22,h23,h24,h25,h26,h27⟩:=h
 exact ⟨k h0,k h1,k h2,k h3,k h4,k h5,k h6,k h7,k h8,k h9,k h10,k h11,k h12,k h13,k h14,k h15,k h16,k h17,k h18,k h19,k h20,k h21,k h22,k h23,k h24,k h25,k h26,k h27⟩
set_option maxHeartbeats 4000000 in
set_option maxRecDepth 100000 in
theorem flows_call (c:Con) (hk:c.k=8) (a1 a2 a3:Option Addr) (n1 n2 n3:Nat) (day fin:Int) (E:EvD) (w:World) (h:FlH c (.slice a1 c.ex.sub.length n1) (.slice a2 c.ds.length n2) (.slice a3 c.sub.length n3) E w) (hd0:0≤day) (hf1:fin≤100000) (hn : ¬ fin≤day) (x:Con) (hds:isDays c.ds=true) (hl:c.sub=[x]) (HX:PF E x) :
  Calls Tryz.prog 43 #[.agg #[.int .u8 c.k,.string c.fr,.string c.rc,.string c.nm,.int .u8 c.ex.k,.string c.ex.ra,.string c.ex.nm,.int .i64 c.ex.d,.slice a1 c.ex.sub.length n1,.int .i64 c.d,.slice a2 c.ds.length n2,.slice a3 c.sub.length n3],.int .i64 day,.int .i64 fin,.agg #[.slice E.af E.F.length E.cf,.slice E.ac E.C.length E.cc]] w (FlP w (x.flows E.F E.C (firstR (fun e => (0,chosenB E.C c.fr c.nm e)) day fin c.ds).2 fin)):=by
 obtain ⟨W0,hW0,hb0,hz0,hB0⟩:=fl_world w c (.slice a1 c.ex.sub.length n1) (.slice a2 c.ds.length n2) (.slice a3 c.sub.length n3) day fin E
 have hmf:∀ (fn:Fn) (first cap:Array Value) (w:World),(Instr.makeFunc fn first cap).run Tryz.prog w = .ok (.func fn first cap) w:=fun _ _ _ _ => rfl
 have ck:=hB0.c.cell (j:=0) (u:=.int .u8 c.k) rfl
 have d0:=hB0.d.cell (j:=0) (u:=.int .i64 day) rfl
 have f0:=hB0.f.cell (j:=0) (u:=.int .i64 fin) rfl
 have HB0:=Lib.hid hB0
 have hH0:=h.frame hb0
 have Hb0:=Lib.hid hb0
 have hn2:decide (fin≤day)=false:=decide_eq_false hn
 have tk2:((c.k:Int) == 2)=false:=by rw [hk];rfl
 have tk3:((c.k:Int) == 3)=false:=by rw [hk];rfl
 have tk4:((c.k:Int) == 4)=false:=by rw [hk];rfl
 have tk5:((c.k:Int) == 5)=false:=by rw [hk];rfl
 have tk7:((c.k:Int) == 7)=false:=by rw [hk];rfl
 have tk6:((c.k:Int) == 6)=false:=by rw [hk];rfl
 have tk8:((c.k:Int) == 8)=true:=by rw [hk];rfl
 have tk9:((c.k:Int) == 9)=false:=by rw [hk];rfl
 have tk10:((c.k:Int) == 10)=false:=by rw [hk];rfl
 have hS:=h.rd.2.2.1
 rw [hl] at hS
 obtain ⟨b,off,rfl⟩:=hS.addr (by simp)
 obtain ⟨e1,m1,e2,m2,e3,m3,hr,hbl,hc⟩:=hS.nth (j:=0) rfl off (by omega)
 have hF:=h.sub (x:=x) (by rw [hl];simp) hr
 have HC:Hid (∀ W dy fi,Below w.heap.size w W→0≤dy→fi≤100000→Calls Tryz.prog 43 #[.agg #[.int .u8 x.k,.string x.fr,.string x.rc,.string x.nm,.int .u8 x.ex.k,.string x.ex.ra,.string x.ex.nm,.int .i64 x.ex.d,.slice e1 x.ex.sub.length m1,.int .i64 x.d,.slice e2 x.ds.length m2,.slice e3 x.sub.length m3],.int .i64 dy,.int .i64 fi,.agg #[.slice E.af E.F.length E.cf,.slice E.ac E.C.length E.cc]] W (FlP W (x.flows E.F E.C dy fi))) :=
  Lib.hid fun W dy fi hb h0 h1 => HX _ _ _ dy fi W (hF.frame hb) h0 h1
 have q11:=hB0.c.cell (j:=11) (u:=.slice (some ⟨b,off,none⟩) c.sub.length n3) rfl
 have q9:=hB0.c.cell (j:=9) (u:=.int .i64 c.d) rfl
 have v0:=hB0.v.cell (j:=0) (u:=.slice E.af E.F.length E.cf) rfl
 have v1:=hB0.v.cell (j:=1) (u:=.slice E.ac E.C.length E.cc) rfl
 obtain ⟨c0,c1,c2,c3,c4,c5,c6,c7,c8,c9,c10,c11⟩:=hc W0 hb0
 have hn5:0 < c.sub.length:=by rw [hl];simp
 have hn6:(0:Int) < (c.sub.length:Int):=by omega
 have hbl0:b < W0.heap.size:=by have:=hb0.size;omega
 have hcn:c.ds.length≤1100000:=by have:=c.bulk_eq;have:=h.bulk;omega
 have hdays:=days_all hds
 have HFi:Hid (∀ W,Below W0.heap.size W0 W→Calls Tryz.prog 92 #[.agg #[.int .u8 c.k,.string c.fr,.string c.rc,.string c.nm,.int .u8 c.ex.k,.string c.ex.ra,.string c.ex.nm,.int .i64 c.ex.d,.slice a1 c.ex.sub.length n1,.int .i64 c.d,.slice a2 c.ds.length n2,.slice (some ⟨b,off,none⟩) c.sub.length n3],.int .i64 day,.int .i64 fin,.func (.func 83) #[] #[.pointer (some ⟨w.heap.size+1+1+1,0,none⟩),.pointer (some ⟨w.heap.size,0,none⟩)]] W fun e w' => e=endR (.int .i64 (firstR (fun e => (0,chosenB E.C c.fr c.nm e)) day fin c.ds).2) (firstR (fun e => (0,chosenB E.C c.fr c.nm e)) day fin c.ds).1∧Below W.heap.size W w') :=
  Lib.hid fun W hb => firstC_any c (.slice a1 c.ex.sub.length n1) (.slice a2 c.ds.length n2) (.slice (some ⟨b,off,none⟩) c.sub.length n3) day fin (fun e => (0,chosenB E.C c.fr c.nm e)) w.heap.size W (hH0.frame hb).rd hcn
   (fun d hd W' hb' => chosenCl_any d c _ _ _ day fin E w.heap.size W' ((HB0.out.below hb).below hb') ((hH0.frame hb).frame hb').e)
 have HK:Hid (FlA w W0 c x a1 a2 e1 e2 e3 n1 n2 n3 m1 m2 m3 b off day fin E) :=
  Lib.hid ⟨hB0.c.cell (j:=0) rfl,hB0.c.cell (j:=1) rfl,hB0.c.cell (j:=2) rfl,hB0.c.cell (j:=3) rfl,hB0.c.cell (j:=4) rfl,hB0.c.cell (j:=5) rfl,hB0.c.cell (j:=6) rfl,hB0.c.cell (j:=7) rfl,hB0.c.cell (j:=8) rfl,hB0.c.cell (j:=9) rfl,hB0.c.cell (j:=10) rfl,hB0.c.cell (j:=11) rfl,c0,c1,c2,c3,c4,c5,c6,c7,c8,c9,c10,c11,d0,f0,v0,v1⟩
 have hz1:w.heap.size≤W0.heap.size:=hb0.size
 obtain ⟨Fd,hFd⟩:∃ F,F=firstR (fun e => (0,chosenB E.C c.fr c.nm e)) day fin c.ds:=⟨_,rfl⟩
 have hbd:=first_bd (fun e => (0,chosenB E.C c.fr c.nm e)) day fin (by omega) c.ds
 rw [← hFd] at HFi hbd ⊢
 have hF1:Fd.1=0:=by rw [hFd];exact first_pure _ _ _ _
 obtain ⟨R0,hR0⟩:∃ R0,R0=(x.flows E.F E.C Fd.2 fin):=⟨_,rfl⟩
 rw [← hR0]
 obtain ⟨R,hR⟩:∃ R,R=x.flows E.F E.C Fd.2 fin:=⟨_,rfl⟩
 have C1:Hid (∀ W,Below W0.heap.size W0 W→Calls _ _ _ W fun e w' => FlP w R0 e w'∧Below W.heap.size W w'∧((∃ ad cap,e = .returned (.slice ad R.2.length cap))∨e = .panicked (stopC R.1))):=Lib.hid fun W hb =>
  (HC.out W Fd.2 fin (Hb0.out.trans (hb.mono hz1)) (by have:=(hbd hF1).1;omega) hf1).mono fun e w' q => ⟨by rw [hR0];exact q.at (Hb0.out.trans (hb.mono hz1)),q.1,by
   rcases q with ⟨_,⟨_,v,rfl,⟨ad,cap,rfl⟩,_⟩ | ⟨_,rfl⟩⟩
   ·exact .inl ⟨ad,cap,by rw [hR]⟩
   ·exact .inr (by rw [hR])⟩
 rw [hF1,endR_ok] at HFi
 clear h hH0 hB0 HB0 hn hk hl HX hd0 hf1 HC hF hr hS hc hds hdays hb0 hFd hcn q11 q9 c0 c1 c2 c3 c4 c5 c6 c7 c8 c9 c10 c11 v0 v1 hbd hR0 hR hF1
 go_enter Tryz.func43,Tryz.ntmps43
 go_upto_region 1 with (fail)
 clear hW0
 go_wp2_with fail
 refine wp_region_invc (fun L a w' => ∃ (v0 v1 v2 v3 v4 v5 v6 v7 v8 v9 v10 v11 v12:Value),a=⟨#[.agg #[.int .u8 c.k,.string c.fr,.string c.rc,.string c.nm,.int .u8 c.ex.k,.string c.ex.ra,.string c.ex.nm,.int .i64 c.ex.d,.slice a1 c.ex.sub.length n1,.int .i64 c.d,.slice a2 c.ds.length n2,.slice (some ⟨b,off,none⟩) c.sub.length n3],.int .i64 day,.int .i64 fin,.agg #[.slice E.af E.F.length E.cf,.slice E.ac E.C.length E.cc],.pointer (some ⟨w.heap.size,0,none⟩),.pointer (some ⟨w.heap.size+1,0,none⟩),.pointer (some ⟨w.heap.size+1+1,0,none⟩),.pointer (some ⟨w.heap.size+1+1+1,0,none⟩),v12,.func (.func 83) #[] #[.pointer (some ⟨w.heap.size+1+1+1,0,none⟩),.pointer (some ⟨w.heap.size,0,none⟩)],.func (.func 84) #[] #[.pointer (some ⟨w.heap.size,0,none⟩),.pointer (some ⟨w.heap.size+1+1+1,0,none⟩)],.func (.func 87) #[] #[.pointer (some ⟨w.heap.size,0,none⟩),.pointer (some ⟨w.heap.size+1,0,none⟩),.pointer (some ⟨w.heap.size+1+1+1,0,none⟩)],.func (.func 90) #[] #[.pointer (some ⟨w.heap.size,0,none⟩),.pointer (some ⟨w.heap.size+1,0,none⟩),.pointer (some ⟨w.heap.size+1+1,0,none⟩),.pointer (some ⟨w.heap.size+1+1+1,0,none⟩)],undef,undef,undef,undef,.int .i64 day,.int .i64 fin,.bool false,.func (.func 83) #[] #[.pointer (some ⟨w.heap.size+1+1+1,0,none⟩),.pointer (some ⟨w.heap.size,0,none⟩)],.func (.func 84) #[] #[.pointer (some ⟨w.heap.size,0,none⟩),.pointer (some ⟨w.heap.size+1+1+1,0,none⟩)],.func (.func 87) #[] #[.pointer (some ⟨w.heap.size,0,none⟩),.pointer (some ⟨w.heap.size+1,0,none⟩),.pointer (some ⟨w.heap.size+1+1+1,0,none⟩)],.func (.func 90) #[] #[.pointer (some ⟨w.heap.size,0,none⟩),.pointer (some ⟨w.heap.size+1,0,none⟩),.pointer (some ⟨w.heap.size+1+1,0,none⟩),.pointer (some ⟨w.heap.size+1+1+1,0,none⟩)],.pointer (some ⟨w.heap.size,0,none⟩),.int .u8 c.k,.bool false,.bool false,undef,undef,undef,undef,undef,undef,undef,undef,undef,undef,.bool false,.bool false,undef,undef,undef,undef,undef,.bool false,.bool false,undef,undef,undef,undef,undef,undef,undef,undef,undef,undef,undef,undef,undef,undef,undef,undef,undef,undef,undef,undef,undef,undef,undef,undef,undef,undef,undef,undef,undef,.bool false,.bool false,undef,undef,undef,undef,undef,undef,.bool false,.bool false,undef,undef,undef,undef,undef,undef,.bool false,.bool false,undef,undef,undef,undef,undef,undef,undef,undef,undef,undef,undef,undef,undef,.bool true,.bool true,v0,v1,v2,v3,v4,v5,v6,v7,v8,v9,v10,v11,undef,undef,undef,undef,undef,undef,undef,undef,undef,undef,undef,undef,undef,undef,undef,undef,undef,undef,undef,undef,undef,undef,undef,undef,undef,undef,undef,undef],[]⟩∧VInv W0 [.pointer (some ⟨w.heap.size,11,none⟩),.slice (some ⟨b,off,none⟩) c.sub.length n3,.pointer (some ⟨b,off,none⟩),.agg #[.int .u8 x.k,.string x.fr,.string x.rc,.string x.nm,.int .u8 x.ex.k,.string x.ex.ra,.string x.ex.nm,.int .i64 x.ex.d,.slice e1 x.ex.sub.length m1,.int .i64 x.d,.slice e2 x.ds.length m2,.slice e3 x.sub.length m3],.agg #[.int .u8 c.k,.string c.fr,.string c.rc,.string c.nm,.int .u8 c.ex.k,.string c.ex.ra,.string c.ex.nm,.int .i64 c.ex.d,.slice a1 c.ex.sub.length n1,.int .i64 c.d,.slice a2 c.ds.length n2,.slice (some ⟨b,off,none⟩) c.sub.length n3],.int .i64 day,.int .i64 fin,.func (.func 83) #[] #[.pointer (some ⟨w.heap.size+1+1+1,0,none⟩),.pointer (some ⟨w.heap.size,0,none⟩)],.int .i64 Fd.2,.int .i64 fin,.agg #[.slice E.af E.F.length E.cf,.slice E.ac E.C.length E.cc],v11,v11] [v0,v1,v2,v3,v4,v5,v6,v7,v8,v9,v10,v11,v12] L w'∧(L 11=true→(∃ ad cap,v11 = .slice ad R.2.length cap)∧FlP w R0 (.returned v11) w')) (by kernel_rfl) (by kernel_rfl) ?_ ?_ ?_
 ·exact ⟨_,_,_,_,_,_,_,_,_,_,_,_,_,rfl,VInv.start (below_drewN (Below.refl _ _) 1) rfl,fun e => (by cases e)⟩
 ·rintro L a w' ⟨v0,v1,v2,v3,v4,v5,v6,v7,v8,v9,v10,v11,v12,rfl,h,hx⟩ hcl i o ho hL hp
  have hi9:i < 13:=by simpa using (Array.getElem?_eq_some_iff.1 ho).1
  have hi2:i=0∨i=1∨i=2∨i=3∨i=4∨i=5∨i=6∨i=7∨i=8∨i=9∨i=10∨i=11∨i=12:=by omega
  clear hi9
  obtain ⟨z0,z1,z2,z3,z4,z5,z6,z7,z8,z9,z10,z11,z12,z13,z14,z15,z16,z17,z18,z19,z20,z21,z22,z23,z24,z25,z26,z27⟩:=HK.out.keep h.b
  rcases hi2 with rfl | rfl | rfl | rfl | rfl | rfl | rfl | rfl | rfl | rfl | rfl | rfl | rfl
  ·refine wpOp_step rfl ?_
   intro K hK
   go_simp
   exact hK _ _ ⟨_,_,_,_,_,_,_,_,_,_,_,_,_,rfl,h.step (i:=0) rfl,(fun e => hx (by simpa [upd] using e))⟩
  ·refine wpOp_step rfl ?_
   intro K hK
   obtain rfl:=h.at (i:=0) (pred_spec ho hp (j:=0) (by kernel_rfl)) rfl rfl
   go_simp
   exact hK _ _ ⟨_,_,_,_,_,_,_,_,_,_,_,_,_,rfl,h.step (i:=1) rfl,(fun e => hx (by simpa [upd] using e))⟩
  ·refine wpOp_step rfl ?_
   intro K hK
   obtain rfl:=h.at (i:=1) (pred_spec ho hp (j:=1) (by kernel_rfl)) rfl rfl
   go_simp
   exact hK _ _ ⟨_,_,_,_,_,_,_,_,_,_,_,_,_,rfl,h.step (i:=2) rfl,(fun e => hx (by simpa [upd] using e))⟩
  ·refine wpOp_step rfl ?_
   intro K hK
   obtain rfl:=h.at (i:=2) (pred_spec ho hp (j:=2) (by kernel_rfl)) rfl rfl
   go_simp
   exact hK _ _ ⟨_,_,_,_,_,_,_,_,_,_,_,_,_,rfl,h.step (i:=3) rfl,(fun e => hx (by simpa [upd] using e))⟩
  ·refine wpOp_step rfl ?_
   intro K hK
   go_simp
   exact hK _ _ ⟨_,_,_,_,_,_,_,_,_,_,_,_,_,rfl,h.step (i:=4) rfl,(fun e => hx (by simpa [upd] using e))⟩
  ·refine wpOp_step rfl ?_
   intro K hK
   go_simp
   exact hK _ _ ⟨_,_,_,_,_,_,_,_,_,_,_,_,_,rfl,h.step (i:=5) rfl,(fun e => hx (by simpa [upd] using e))⟩
  ·refine wpOp_step rfl ?_
   intro K hK
   go_simp
   exact hK _ _ ⟨_,_,_,_,_,_,_,_,_,_,_,_,_,rfl,h.step (i:=6) rfl,(fun e => hx (by simpa [upd] using e))⟩
  ·refine wpOp_step rfl ?_
   intro K hK
   go_simp
   exact hK _ _ ⟨_,_,_,_,_,_,_,_,_,_,_,_,_,rfl,h.step (i:=7) rfl,(fun e => hx (by simpa [upd] using e))⟩
  ·refine wpOp_step rfl ?_
   intro K hK
   obtain rfl:=h.at (i:=4) (pred_spec ho hp (j:=4) (by kernel_rfl)) rfl rfl
   obtain rfl:=h.at (i:=5) (pred_spec ho hp (j:=5) (by kernel_rfl)) rfl rfl
   obtain rfl:=h.at (i:=6) (pred_spec ho hp (j:=6) (by kernel_rfl)) rfl rfl
   obtain rfl:=h.at (i:=7) (pred_spec ho hp (j:=7) (by kernel_rfl)) rfl rfl
   go_simp
   refine (HFi.out w' h.b).mono ?_
   rintro e w4 ⟨rfl,hb4⟩
   exact hK _ _ ⟨_,_,_,_,_,_,_,_,_,_,_,_,_,rfl,(h.ext hb4).step (i:=8) (v:=.int .i64 Fd.2) rfl,(fun e => absurd (cl_spec hcl (show L 11=true by simpa [upd] using e) (j:=8) (by kernel_rfl)) (by rw [hL];exact Bool.false_ne_true))⟩
  ·refine wpOp_step rfl ?_
   intro K hK
   go_simp
   exact hK _ _ ⟨_,_,_,_,_,_,_,_,_,_,_,_,_,rfl,h.step (i:=9) rfl,(fun e => hx (by simpa [upd] using e))⟩
  ·refine wpOp_step rfl ?_
   intro K hK
   go_simp
   exact hK _ _ ⟨_,_,_,_,_,_,_,_,_,_,_,_,_,rfl,h.step (i:=10) rfl,(fun e => hx (by simpa [upd] using e))⟩
  ·refine wpOp_step rfl ?_
   intro K hK
   obtain rfl:=h.at (i:=3) (pred_spec ho hp (j:=3) (by kernel_rfl)) rfl rfl
   obtain rfl:=h.at (i:=8) (pred_spec ho hp (j:=8) (by kernel_rfl)) rfl rfl
   obtain rfl:=h.at (i:=9) (pred_spec ho hp (j:=9) (by kernel_rfl)) rfl rfl
   obtain rfl:=h.at (i:=10) (pred_spec ho hp (j:=10) (by kernel_rfl)) rfl rfl
   go_simp
   refine (C1.out w' h.b).mono ?_
   rintro e w4 ⟨h3,hb4,⟨ad,cap,rfl⟩ | rfl⟩
   ·exact hK _ _ ⟨_,_,_,_,_,_,_,_,_,_,_,_,_,rfl,VInv.step (i:=11) (v:=.slice ad R.2.length cap) (((h.ext hb4).late hL (.slice ad R.2.length cap)).late (cl_no hcl hL 12 (by kernel_rfl)) (.slice ad R.2.length cap)) rfl,fun _ => ⟨⟨_,_,rfl⟩,h3⟩⟩
   ·exact ⟨rfl,h3⟩
  ·refine wpOp_step rfl ?_
   intro K hK
   go_simp
   exact hK _ _ ⟨_,_,_,_,_,_,_,_,_,_,_,_,_,rfl,h.step (i:=12) (v:=v11) rfl,(fun e => hx (by simpa [upd] using e))⟩
 ·rintro L a w1 ⟨v0,v1,v2,v3,v4,v5,v6,v7,v8,v9,v10,v11,v12,rfl,h,hx⟩ hall
  obtain ⟨⟨ad,cap,rfl⟩,hf⟩:=hx (hall 11 (by decide))
  obtain rfl:=h.at (i:=12) (hall 12 (by decide)) rfl rfl
  have HF:=Lib.hid hf
  clear hf hx hall h C1 HFi HK
  go_wp2
  go_ret
  exact HF.out
end Go.Proofs.YtknpnhodpgajbaaGreatDoor
