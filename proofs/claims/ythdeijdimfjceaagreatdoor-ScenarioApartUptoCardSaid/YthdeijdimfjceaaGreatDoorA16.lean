/- A part. -/
import Derived.Test.YthdeijdimfjceaaGreatDoorA15
namespace Go.Proofs.YthdeijdimfjceaaGreatDoor
open Go.RowKit
set_option maxHeartbeats 4000000 in
set_option maxRecDepth 100000 in
theorem flows_pay (c:Con) (hk:c.k=2) (a1 a2 a3:Option Addr) (n1 n2 n3:Nat) (day fin:Int) (E:EvD) (w:World) (h:FlH c (.slice a1 c.ex.sub.length n1) (.slice a2 c.ds.length n2) (.slice a3 c.sub.length n3) E w) (hd0:0≤day) (hf1:fin≤100000) (hn : ¬ fin≤day) (hA:c.ex.isA 1=true) :
  Calls Tryz.prog 107 #[.agg #[.int .u8 c.k,.string c.fr,.string c.rc,.string c.nm,.int .u8 c.ex.k,.string c.ex.ra,.string c.ex.nm,.int .i64 c.ex.d,.slice a1 c.ex.sub.length n1,.int .i64 c.d,.slice a2 c.ds.length n2,.slice a3 c.sub.length n3],.int .i64 day,.int .i64 fin,.agg #[.slice E.af E.F.length E.cf,.slice E.ac E.C.length E.cc]] w (FlP w (andR (c.ex.value E.F day) [] fun a => (0,paidS day c.fr c.rc c.nm a))):=by
 obtain ⟨W0,hW0,hb0,hz0,hB0⟩:=fl_world w c (.slice a1 c.ex.sub.length n1) (.slice a2 c.ds.length n2) (.slice a3 c.sub.length n3) day fin E
 have hmf:∀ (fn:Fn) (first cap:Array Value) (w:World),(Instr.makeFunc fn first cap).run Tryz.prog w = .ok (.func fn first cap) w:=fun _ _ _ _ => rfl
 have ck:=hB0.c.cell (j:=0) (u:=.int .u8 c.k) rfl
 have d0:=hB0.d.cell (j:=0) (u:=.int .i64 day) rfl
 have f0:=hB0.f.cell (j:=0) (u:=.int .i64 fin) rfl
 have HB0:=Lib.hid hB0
 have hH0:=h.frame hb0
 have Hb0:=Lib.hid hb0
 have hn2:decide (fin≤day)=false:=decide_eq_false hn
 have tk2:((c.k:Int) == 2)=true:=by rw [hk];rfl
 have tk3:((c.k:Int) == 3)=false:=by rw [hk];rfl
 have tk4:((c.k:Int) == 4)=false:=by rw [hk];rfl
 have tk5:((c.k:Int) == 5)=false:=by rw [hk];rfl
 have tk7:((c.k:Int) == 7)=false:=by rw [hk];rfl
 have tk6:((c.k:Int) == 6)=false:=by rw [hk];rfl
 have tk8:((c.k:Int) == 8)=false:=by rw [hk];rfl
 have tk9:((c.k:Int) == 9)=false:=by rw [hk];rfl
 have tk10:((c.k:Int) == 10)=false:=by rw [hk];rfl
 have hday:isDay day=true:=by simp [isDay];omega
 have HV:=Lib.hid fun W (hb:Below W0.heap.size W0 W) => valueCl_any c _ _ _ day fin E w.heap.size W (HB0.out.below hb) (hH0.frame hb) hA hday
 have hz1:w.heap.size≤W0.heap.size:=hb0.size
 have C0:=Lib.hid (fun W hb => HV.out W hb)
 have HO:Hid ((c.ex.value E.F day).1=0→okV (c.ex.value E.F day).2):=Lib.hid (value_ok (env_rat h.ok) day c.ex.bulk c.ex (Nat.le_refl _) (isA_is hA).2)
 have HK:=Lib.hid (fun W (hb:Below W0.heap.size W0 W) => HB0.out.below hb)
 clear HV h hH0 hb0 hB0 HB0 hn hk hA hday hd0 hf1
 generalize hR:c.ex.value E.F day=R at *
 clear hR
 by_cases h0:R.1=0
 ·have HO1:=Lib.hid (HO.out h0)
  have HR:Hid ((andR R [] fun a => (0,paidS day c.fr c.rc c.nm a))=(0,paidS day c.fr c.rc c.nm R.2)):=by show _=_;rw [andR,if_neg (fun k => k h0)]
  rw [h0] at C0
  have C0:Hid (∀ W,Below W0.heap.size W0 W→Calls _ _ _ W fun e w' => e = .returned (.string R.2)∧Below W.heap.size W w'):=C0
  clear h0 HO
  have kb0:=HK.out W0 (Below.refl _ _)
  have x1:=kb0.c.cell (j:=1) (u:=.string c.fr) rfl
  have x2:=kb0.c.cell (j:=2) (u:=.string c.rc) rfl
  have x3:=kb0.c.cell (j:=3) (u:=.string c.nm) rfl
  have xd:=kb0.d.cell (j:=0) (u:=.int .i64 day) rfl
  have HPd:=Lib.hid (fun W => paid_any day c.fr c.rc c.nm R.2 HO1.out.1 HO1.out.2 W)
  generalize paidS day c.fr c.rc c.nm R.2=lp at HPd HR
  have hd:Below W0.heap.size W0 W0.drew:=(Below.refl _ _).drew
  clear kb0 HO1
  go_enter Tryz.func107,Tryz.ntmps107
  go_upto_region 1 with (fail)
  clear hW0
  go_upto_region 9 with (fail)
  go_region_held3 (fun w' => w'.cell? ⟨w.heap.size,1,none⟩=some (.string c.fr)∧w'.cell? ⟨w.heap.size,2,none⟩=some (.string c.rc)∧w'.cell? ⟨w.heap.size,3,none⟩=some (.string c.nm)∧w'.cell? ⟨w.heap.size+1,0,none⟩=some (.int .i64 day))
   (first | assumption | exact ⟨by assumption,by assumption,by assumption,by assumption⟩ | go_keep)
   (first | (go_at_call 133;refine (C0.out _ hd).mono ?_;rintro e w2 ⟨rfl,hb2⟩;have hb9:=hd.trans (hb2.mono hd.size);have kb:=HK.out w2 hb9;have y1:=kb.c.cell (j:=1) (u:=.string c.fr) rfl;have y2:=kb.c.cell (j:=2) (u:=.string c.rc) rfl;have y3:=kb.c.cell (j:=3) (u:=.string c.nm) rfl;have yd:=kb.d.cell (j:=0) (u:=.int .i64 day) rfl) | (go_at_call 137;refine (HPd.out _).mono ?_;rintro e w3 ⟨v,rfl,⟨⟨ad,cap,rfl⟩,ho⟩,hb3⟩;have hb8:=hb9.trans (hb3.mono hb9.size);have kb2:=HK.out w3 hb8;have z1:=kb2.c.cell (j:=1) (u:=.string c.fr) rfl;have z2:=kb2.c.cell (j:=2) (u:=.string c.rc) rfl;have z3:=kb2.c.cell (j:=3) (u:=.string c.nm) rfl;have zd:=kb2.d.cell (j:=0) (u:=.int .i64 day) rfl))
  have HF:Hid (FlP w (andR R [] fun a => (0,paidS day c.fr c.rc c.nm a)) (.returned (.slice ad lp.length cap)) w3):=by
   show FlP _ _ _ _
   rw [HR.out]
   exact ⟨Hb0.out.trans (hb8.mono hz1),.inl ⟨rfl,_,rfl,⟨_,_,rfl⟩,ownsRow_base' ho (Nat.le_trans hz1 hb9.size)⟩⟩
  clear x1 x2 x3 xd y1 y2 y3 yd z1 z2 z3 zd kb kb2 hb2 hb3 hb8 hb9 ho HPd C0 HR
  go_wp2
  go_ret
  exact HF.out
 ·have HR:Hid ((andR R [] fun a => (0,paidS day c.fr c.rc c.nm a)).1=R.1):=by show _=_;rw [andR,if_pos h0]
  have C0:Hid (∀ W,Below W0.heap.size W0 W→Calls _ _ _ W fun e w' => e = .panicked (stopC R.1)∧Below W.heap.size W w'):=Lib.hid fun W hb => by have:=C0.out W hb;rw [endR_no h0] at this;exact this
  clear HO
  go_enter Tryz.func107,Tryz.ntmps107
  go_upto_region 1 with (fail)
  clear hW0
  go_wp2_with fail
  refine wp_region_invc (fun L a w' => ∃ (v0 v1 v2 v3 v4 v5 v6 v7 v8 v9 v10:Value),a=⟨#[.agg #[.int .u8 c.k,.string c.fr,.string c.rc,.string c.nm,.int .u8 c.ex.k,.string c.ex.ra,.string c.ex.nm,.int .i64 c.ex.d,.slice a1 c.ex.sub.length n1,.int .i64 c.d,.slice a2 c.ds.length n2,.slice a3 c.sub.length n3],.int .i64 day,.int .i64 fin,.agg #[.slice E.af E.F.length E.cf,.slice E.ac E.C.length E.cc],.pointer (some ⟨w.heap.size,0,none⟩),.pointer (some ⟨w.heap.size+1,0,none⟩),.pointer (some ⟨w.heap.size+1+1,0,none⟩),.pointer (some ⟨w.heap.size+1+1+1,0,none⟩),v10,.func (.func 128) #[] #[.pointer (some ⟨w.heap.size+1+1+1,0,none⟩),.pointer (some ⟨w.heap.size,0,none⟩)],.func (.func 130) #[] #[.pointer (some ⟨w.heap.size,0,none⟩),.pointer (some ⟨w.heap.size+1+1+1,0,none⟩)],.func (.func 133) #[] #[.pointer (some ⟨w.heap.size,0,none⟩),.pointer (some ⟨w.heap.size+1,0,none⟩),.pointer (some ⟨w.heap.size+1+1+1,0,none⟩)],.func (.func 136) #[] #[.pointer (some ⟨w.heap.size,0,none⟩),.pointer (some ⟨w.heap.size+1,0,none⟩),.pointer (some ⟨w.heap.size+1+1,0,none⟩),.pointer (some ⟨w.heap.size+1+1+1,0,none⟩)],undef,undef,undef,undef,.int .i64 day,.int .i64 fin,.bool false,.func (.func 128) #[] #[.pointer (some ⟨w.heap.size+1+1+1,0,none⟩),.pointer (some ⟨w.heap.size,0,none⟩)],.func (.func 130) #[] #[.pointer (some ⟨w.heap.size,0,none⟩),.pointer (some ⟨w.heap.size+1+1+1,0,none⟩)],.func (.func 133) #[] #[.pointer (some ⟨w.heap.size,0,none⟩),.pointer (some ⟨w.heap.size+1,0,none⟩),.pointer (some ⟨w.heap.size+1+1+1,0,none⟩)],.func (.func 136) #[] #[.pointer (some ⟨w.heap.size,0,none⟩),.pointer (some ⟨w.heap.size+1,0,none⟩),.pointer (some ⟨w.heap.size+1+1,0,none⟩),.pointer (some ⟨w.heap.size+1+1+1,0,none⟩)],.pointer (some ⟨w.heap.size,0,none⟩),.int .u8 c.k,.bool true,.bool true,v0,v1,v2,v3,v4,v5,v6,v7,v8,v9,undef,undef,undef,undef,undef,undef,undef,undef,undef,undef,undef,undef,undef,undef,undef,undef,undef,undef,undef,undef,undef,undef,undef,undef,undef,undef,undef,undef,undef,undef,undef,undef,undef,undef,undef,undef,undef,undef,undef,undef,undef,undef,undef,undef,undef,undef,undef,undef,undef,undef,undef,undef,undef,undef,undef,undef,undef,undef,undef,undef,undef,undef,undef,undef,undef,undef,undef,undef,undef,undef,undef,undef,undef,undef,undef,undef,undef,undef,undef,undef,undef,undef,undef,undef,undef,undef,undef,undef,undef,undef,undef,undef,undef,undef,undef,undef,undef,undef,undef,undef,undef,undef,undef,undef,undef,undef,undef,undef,undef,undef,undef],[]⟩∧VInv W0 [.int .i64 day,.pointer (some ⟨w.heap.size,1,none⟩),.string c.fr,.pointer (some ⟨w.heap.size,2,none⟩),.string c.rc,.pointer (some ⟨w.heap.size,3,none⟩),.string c.nm,.func (.func 133) #[] #[.pointer (some ⟨w.heap.size,0,none⟩),.pointer (some ⟨w.heap.size+1,0,none⟩),.pointer (some ⟨w.heap.size+1+1+1,0,none⟩)],.string R.2,v9,v9] [v0,v1,v2,v3,v4,v5,v6,v7,v8,v9,v10] L w'∧L 8=false) (by kernel_rfl) (by kernel_rfl) ?_ ?_ ?_
  ·exact ⟨_,_,_,_,_,_,_,_,_,_,_,rfl,VInv.start (below_drewN (Below.refl _ _) 1) rfl,rfl⟩
  ·rintro L a w' ⟨v0,v1,v2,v3,v4,v5,v6,v7,v8,v9,v10,rfl,h,hx⟩ hcl i o ho hL hp
   have hi9:i < 11:=by simpa using (Array.getElem?_eq_some_iff.1 ho).1
   have hi2:i=0∨i=1∨i=2∨i=3∨i=4∨i=5∨i=6∨i=7∨i=8∨i=9∨i=10:=by omega
   clear hi9
   have kb:=HK.out w' h.b
   have z1:=kb.c.cell (j:=1) (u:=.string c.fr) rfl
   have z2:=kb.c.cell (j:=2) (u:=.string c.rc) rfl
   have z3:=kb.c.cell (j:=3) (u:=.string c.nm) rfl
   have zd:=kb.d.cell (j:=0) (u:=.int .i64 day) rfl
   clear kb
   rcases hi2 with rfl | rfl | rfl | rfl | rfl | rfl | rfl | rfl | rfl | rfl | rfl
   ·refine wpOp_step rfl ?_
    intro K hK
    go_simp
    exact hK _ _ ⟨_,_,_,_,_,_,_,_,_,_,_,rfl,h.step (i:=0) (v:=.int .i64 day) rfl,(by simpa [upd] using hx)⟩
   ·refine wpOp_step rfl ?_
    intro K hK
    go_simp
    exact hK _ _ ⟨_,_,_,_,_,_,_,_,_,_,_,rfl,h.step (i:=1) (v:=.pointer (some ⟨w.heap.size,1,none⟩)) rfl,(by simpa [upd] using hx)⟩
   ·refine wpOp_step rfl ?_
    intro K hK
    obtain rfl:=h.at (i:=1) (pred_spec ho hp (j:=1) (by kernel_rfl)) rfl rfl
    go_simp
    exact hK _ _ ⟨_,_,_,_,_,_,_,_,_,_,_,rfl,h.step (i:=2) (v:=.string c.fr) rfl,(by simpa [upd] using hx)⟩
   ·refine wpOp_step rfl ?_
    intro K hK
    go_simp
    exact hK _ _ ⟨_,_,_,_,_,_,_,_,_,_,_,rfl,h.step (i:=3) (v:=.pointer (some ⟨w.heap.size,2,none⟩)) rfl,(by simpa [upd] using hx)⟩
   ·refine wpOp_step rfl ?_
    intro K hK
    obtain rfl:=h.at (i:=3) (pred_spec ho hp (j:=3) (by kernel_rfl)) rfl rfl
    go_simp
    exact hK _ _ ⟨_,_,_,_,_,_,_,_,_,_,_,rfl,h.step (i:=4) (v:=.string c.rc) rfl,(by simpa [upd] using hx)⟩
   ·refine wpOp_step rfl ?_
    intro K hK
    go_simp
    exact hK _ _ ⟨_,_,_,_,_,_,_,_,_,_,_,rfl,h.step (i:=5) (v:=.pointer (some ⟨w.heap.size,3,none⟩)) rfl,(by simpa [upd] using hx)⟩
   ·refine wpOp_step rfl ?_
    intro K hK
    obtain rfl:=h.at (i:=5) (pred_spec ho hp (j:=5) (by kernel_rfl)) rfl rfl
    go_simp
    exact hK _ _ ⟨_,_,_,_,_,_,_,_,_,_,_,rfl,h.step (i:=6) (v:=.string c.nm) rfl,(by simpa [upd] using hx)⟩
   ·refine wpOp_step rfl ?_
    intro K hK
    go_simp
    exact hK _ _ ⟨_,_,_,_,_,_,_,_,_,_,_,rfl,h.step (i:=7) (v:=.func (.func 133) #[] #[.pointer (some ⟨w.heap.size,0,none⟩),.pointer (some ⟨w.heap.size+1,0,none⟩),.pointer (some ⟨w.heap.size+1+1+1,0,none⟩)]) rfl,(by simpa [upd] using hx)⟩
   ·refine wpOp_step rfl ?_
    intro K hK
    obtain rfl:=h.at (i:=7) (pred_spec ho hp (j:=7) (by kernel_rfl)) rfl rfl
    go_simp
    refine (C0.out w' h.b).mono ?_
    rintro e w4 ⟨rfl,hb4⟩
    exact ⟨rfl,Hb0.out.trans ((h.ext hb4).b.mono hz1),.inr ⟨by rw [HR.out];exact h0,by rw [HR.out]⟩⟩
   ·refine wpOp_step rfl ?_
    intro K hK
    exact absurd (pred_spec ho hp (j:=8) (by kernel_rfl)) (by rw [hx];exact Bool.false_ne_true)
   ·refine wpOp_step rfl ?_
    intro K hK
    exact absurd (cl_spec hcl (pred_spec ho hp (j:=9) (by kernel_rfl)) (j:=8) (by kernel_rfl)) (by rw [hx];exact Bool.false_ne_true)
  ·rintro L a w1 ⟨v0,v1,v2,v3,v4,v5,v6,v7,v8,v9,v10,rfl,h,hx⟩ hall
   exact absurd (hall 8 (by decide)) (by rw [hx];exact Bool.false_ne_true)
set_option maxHeartbeats 4000000 in
set_option maxRecDepth 100000 in
theorem flows_scale (c:Con) (hk:c.k=4) (a1 a2 a3:Option Addr) (n1 n2 n3:Nat) (day fin:Int) (E:EvD) (w:World) (h:FlH c (.slice a1 c.ex.sub.length n1) (.slice a2 c.ds.length n2) (.slice a3 c.sub.length n3) E w) (hd0:0≤day) (hf1:fin≤100000) (hn : ¬ fin≤day) (hA:c.ex.isA 1=true) (x:Con) (hl:c.sub=[x]) (HX:PF E x) (hlen:(x.flows E.F E.C day fin).2.length≤5000000) (hsm:∀ f ∈ (x.flows E.F E.C day fin).2,f.am.size≤1000000) :
  Calls Tryz.prog 107 #[.agg #[.int .u8 c.k,.string c.fr,.string c.rc,.string c.nm,.int .u8 c.ex.k,.string c.ex.ra,.string c.ex.nm,.int .i64 c.ex.d,.slice a1 c.ex.sub.length n1,.int .i64 c.d,.slice a2 c.ds.length n2,.slice a3 c.sub.length n3],.int .i64 day,.int .i64 fin,.agg #[.slice E.af E.F.length E.cf,.slice E.ac E.C.length E.cc]] w (FlP w (andR (c.ex.value E.F day) [] fun a => andR (x.flows E.F E.C day fin) [] fun l => mulAll a l)):=by
 obtain ⟨W0,hW0,hb0,hz0,hB0⟩:=fl_world w c (.slice a1 c.ex.sub.length n1) (.slice a2 c.ds.length n2) (.slice a3 c.sub.length n3) day fin E
 have hmf:∀ (fn:Fn) (first cap:Array Value) (w:World),(Instr.makeFunc fn first cap).run Tryz.prog w = .ok (.func fn first cap) w:=fun _ _ _ _ => rfl
 have ck:=hB0.c.cell (j:=0) (u:=.int .u8 c.k) rfl
 have d0:=hB0.d.cell (j:=0) (u:=.int .i64 day) rfl
 have f0:=hB0.f.cell (j:=0) (u:=.int .i64 fin) rfl
 have HB0:=Lib.hid hB0
 have hH0:=h.frame hb0
 have Hb0:=Lib.hid hb0
 have hn2:decide (fin≤day)=false:=decide_eq_false hn
 have tk2:((c.k:Int) == 2)=false:=by rw [hk];rfl
 have tk3:((c.k:Int) == 3)=false:=by rw [hk];rfl
 have tk4:((c.k:Int) == 4)=true:=by rw [hk];rfl
 have tk5:((c.k:Int) == 5)=false:=by rw [hk];rfl
 have tk7:((c.k:Int) == 7)=false:=by rw [hk];rfl
 have tk6:((c.k:Int) == 6)=false:=by rw [hk];rfl
 have tk8:((c.k:Int) == 8)=false:=by rw [hk];rfl
 have tk9:((c.k:Int) == 9)=false:=by rw [hk];rfl
 have tk10:((c.k:Int) == 10)=false:=by rw [hk];rfl
 have hday:isDay day=true:=by simp [isDay];omega
 have HV:=Lib.hid fun W (hb:Below W0.heap.size W0 W) => valueCl_any c _ _ _ day fin E w.heap.size W (HB0.out.below hb) (hH0.frame hb) hA hday
 have H1:=Lib.hid fun W (hb:Below W0.heap.size W0 W) => partCl_first c x [] _ _ _ day fin E w.heap.size W (HB0.out.below hb) (hH0.frame hb) hl hd0 hf1 HX
 have hz1:w.heap.size≤W0.heap.size:=hb0.size
 have C0:=Lib.hid (HV.out W0 (Below.refl _ _))
 have HO:Hid ((c.ex.value E.F day).1=0→okV (c.ex.value E.F day).2):=Lib.hid (value_ok (env_rat h.ok) day c.ex.bulk c.ex (Nat.le_refl _) (isA_is hA).2)
 clear HV h hH0 hb0 hB0 HB0 hn hk hA hday hd0 hf1 hl HX
 generalize hR:c.ex.value E.F day=R at *
 generalize hR1:x.flows E.F E.C day fin=R1 at *
 clear hR hR1
 by_cases h0:R.1=0
 ·have HO1:=Lib.hid (HO.out h0)
  have HR:Hid ((andR R [] fun a => andR R1 [] fun l => mulAll a l)=andR R1 [] fun l => mulAll R.2 l):=by show _=_;rw [andR,if_neg (fun k => k h0)]
  rw [h0,endR_ok] at C0
  clear h0 HO
  go_enter Tryz.func107,Tryz.ntmps107
  go_upto_region 1 with (fail)
  clear hW0
  go_wp2_with fail
  refine C0.out.mono ?_
  rintro e w1 ⟨rfl,hb1⟩
  have C1:=Lib.hid (H1.out w1 hb1)
  have hbw1:=Hb0.out.trans (hb1.mono hz1)
  clear H1 C0 hb1
  go_wp2_with fail
  refine C1.out.mono ?_
  rintro e w2 ⟨hb2,⟨h0,v,rfl,⟨ad1,cp1,rfl⟩,ho1⟩ | ⟨h0,rfl⟩⟩
  ·have HR2:Hid ((andR R [] fun a => andR R1 [] fun l => mulAll a l)=mulAll R.2 R1.2):=by show _=_;rw [HR.out,andR,if_neg (fun k => k h0)]
   obtain ⟨Lf,hLf⟩:∃ L,L=R1.2:=⟨_,rfl⟩
   rw [← hLf] at HR2 ho1 hlen hsm ⊢
   obtain ⟨ky,hky⟩:∃ ky,ky=R.2:=⟨_,rfl⟩
   rw [← hky] at HR2 HO1 ⊢
   have Hbw2:=Lib.hid (hbw1.trans (hb2.mono hbw1.size))
   have Hrd:=Lib.hid (Rd.of_sl (enc:=Fl.cells) (m:=5) (fun _ => rfl) (by decide) (Sl.of_owns ho1):Rd Fl.cells 5 w2 ad1 Lf)
   have Hsm:=Lib.hid hsm
   have hz2:w.heap.size≤w2.heap.size:=Hbw2.out.size
   clear HR C1 h0 hb2 ho1 hbw1 hLf hsm hky
   go_wp2_with fail
   go_loopw [14,52] (fun ov i wr => ∃ (j:Nat) (acc:List Fl) (oa:Option Addr) (oc:Nat),j≤Lf.length∧i = .int .i64 (j:Int)∧ov = .slice oa acc.length oc∧acc.length≤j∧Hid ((mulAll ky Lf).1=(mulAll ky (Lf.drop j)).1∧((mulAll ky (Lf.drop j)).1=0→(mulAll ky Lf).2=acc ++ (mulAll ky (Lf.drop j)).2))∧Hid (wr.ownsRow w2.heap.size 134 5 (.slice oa acc.length oc) acc.length (acc.flatMap Fl.cells))∧Hid (Below w2.heap.size w2 wr)∧w2.heap.size≤wr.heap.size) (fun _ i _ => Lf.length - (intOf i).toNat)
   case atStart => exact ⟨0,[],none,0,Nat.zero_le _,rfl,rfl,Nat.le_refl _,Lib.hid ⟨by rw [List.drop_zero],fun _ => by rw [List.drop_zero];rfl⟩,Lib.hid (World.ownsRow_nil _ _ _ _),Lib.hid (Below.refl _ _),Nat.le_refl _⟩
   case round =>
    obtain ⟨j,acc,oa,oc,hj,rfl,rfl,hja,HT,HOw,HBr,hzr⟩:=hrel
    by_cases hlt:j < Lf.length
    ·obtain ⟨f,hf⟩:∃ f,Lf[j]? = some f:=⟨_,List.getElem?_eq_getElem hlt⟩
     obtain ⟨b,off,rfl,c0,c1,c2,c3,c4⟩:=(Hrd.out.below HBr.out).fl hf
     have hk1:(0:Int)≤(j:Int):=by omega
     have hk2:(j:Int) < (Lf.length:Int):=by omega
     have HF:=Lib.hid hf
     clear hf
     go_wp2_with fail
     have hsmf:f.am.size≤1000000:=Hsm.out f (List.mem_of_getElem? HF.out)
     have HM:Hid (∀ W,Calls _ _ _ W fun e w' => e = .returned (.tuple #[.string (mkB (mulS f.am ky)),.int .i64 (mulE f.am ky)])∧Below W.heap.size W w'):=Lib.hid fun W => (ratmul_any f.am ky W hsmf HO1.out.2).mono fun _ _ h => h.val
     obtain ⟨Wf,hWf⟩:∃ W,(wr.alloc (.cells #[.int .i64 f.d,.string f.fr,.string f.rc,.string f.cy,.string f.am] 134))=W:=⟨_,rfl⟩
     have hbf0:Below wr.heap.size wr Wf:=by rw [← hWf];exact below_a1 _ _
     have hbx:BoxN Wf wr.heap.size 134 [.int .i64 f.d,.string f.fr,.string f.rc,.string f.cy,.string f.am]:=by rw [← hWf];exact BoxN.new _ _ _
     have x0:=hbx.cell (j:=0) (u:=.int .i64 f.d) rfl
     have x1:=hbx.cell (j:=1) (u:=.string f.fr) rfl
     have x2:=hbx.cell (j:=2) (u:=.string f.rc) rfl
     have x3:=hbx.cell (j:=3) (u:=.string f.cy) rfl
     have x4:=hbx.cell (j:=4) (u:=.string f.am) rfl
     have HOf:=Lib.hid (ownsRow_below' HOw.out hbf0)
     have hbwf:Below w2.heap.size w2 Wf:=HBr.out.trans (hbf0.mono hzr)
     rw [hWf]
     clear hWf hbx c0 c1 c2 c3 c4
     by_cases hm0:mulE f.am ky=0
     ·have HMu:Hid (∀ W,Calls Tryz.prog 134 #[.string (mkB (mulS f.am ky)),.int .i64 (mulE f.am ky)] W fun e w' => e = .returned (.string (mkB (mulS f.am ky)))∧W=w'):=Lib.hid fun W => (mustR_any (mkB (mulS f.am ky)) (mulE f.am ky) W).mono fun e w' ⟨h1,h2⟩ => ⟨by rw [h1,hm0];rfl,h2⟩
      have hok:=mulS_ok hm0
      have HPd:=Lib.hid (fun W => paid_any f.d f.fr f.rc f.cy (mkB (mulS f.am ky)) hok.1 hok.2 W)
      have HT2:Hid ((mulAll ky Lf).1=(mulAll ky (Lf.drop (j+1))).1∧((mulAll ky (Lf.drop (j+1))).1=0→(mulAll ky Lf).2=(acc ++ paidS f.d f.fr f.rc f.cy (mkB (mulS f.am ky))) ++ (mulAll ky (Lf.drop (j+1))).2)):=by
       show _∧_
       have hT:=HT.out
       rw [drop_getF HF.out,mulAll,andR,if_neg (fun k => k hm0),andR] at hT
       by_cases h1:(mulAll ky (Lf.drop (j+1))).1=0
       ·rw [if_neg (fun k => k h1)] at hT
        exact ⟨hT.1.trans h1.symm,fun _ => by rw [hT.2 rfl,List.append_assoc]⟩
       ·rw [if_pos h1] at hT
        exact ⟨hT.1,fun k => absurd k h1⟩
      clear hm0 hok HT
      refine wp_region_invc (fun L a w' => ∃ (v0 v1 v2 v3 v4 v5 v6 v7 v8 v9 v10 v11 v12 v13 v14 v15 v16 v17 v18:Value),a=⟨#[.agg #[.int .u8 c.k,.string c.fr,.string c.rc,.string c.nm,.int .u8 c.ex.k,.string c.ex.ra,.string c.ex.nm,.int .i64 c.ex.d,.slice a1 c.ex.sub.length n1,.int .i64 c.d,.slice a2 c.ds.length n2,.slice a3 c.sub.length n3],.int .i64 day,.int .i64 fin,.agg #[.slice E.af E.F.length E.cf,.slice E.ac E.C.length E.cc],.pointer (some ⟨w.heap.size,0,none⟩),.pointer (some ⟨w.heap.size+1,0,none⟩),.pointer (some ⟨w.heap.size+1+1,0,none⟩),.pointer (some ⟨w.heap.size+1+1+1,0,none⟩),.slice none 0 0,.func (.func 128) #[] #[.pointer (some ⟨w.heap.size+1+1+1,0,none⟩),.pointer (some ⟨w.heap.size,0,none⟩)],.func (.func 130) #[] #[.pointer (some ⟨w.heap.size,0,none⟩),.pointer (some ⟨w.heap.size+1+1+1,0,none⟩)],.func (.func 133) #[] #[.pointer (some ⟨w.heap.size,0,none⟩),.pointer (some ⟨w.heap.size+1,0,none⟩),.pointer (some ⟨w.heap.size+1+1+1,0,none⟩)],.func (.func 136) #[] #[.pointer (some ⟨w.heap.size,0,none⟩),.pointer (some ⟨w.heap.size+1,0,none⟩),.pointer (some ⟨w.heap.size+1+1,0,none⟩),.pointer (some ⟨w.heap.size+1+1+1,0,none⟩)],.string ky,v18,undef,.pointer (some ⟨wr.heap.size,0,none⟩),.int .i64 day,.int .i64 fin,.bool false,.func (.func 128) #[] #[.pointer (some ⟨w.heap.size+1+1+1,0,none⟩),.pointer (some ⟨w.heap.size,0,none⟩)],.func (.func 130) #[] #[.pointer (some ⟨w.heap.size,0,none⟩),.pointer (some ⟨w.heap.size+1+1+1,0,none⟩)],.func (.func 133) #[] #[.pointer (some ⟨w.heap.size,0,none⟩),.pointer (some ⟨w.heap.size+1,0,none⟩),.pointer (some ⟨w.heap.size+1+1+1,0,none⟩)],.func (.func 136) #[] #[.pointer (some ⟨w.heap.size,0,none⟩),.pointer (some ⟨w.heap.size+1,0,none⟩),.pointer (some ⟨w.heap.size+1+1,0,none⟩),.pointer (some ⟨w.heap.size+1+1+1,0,none⟩)],.pointer (some ⟨w.heap.size,0,none⟩),.int .u8 c.k,.bool false,.bool false,undef,undef,undef,undef,undef,undef,undef,undef,undef,undef,.bool false,.bool false,undef,undef,undef,undef,undef,.bool true,.bool true,.func (.func 133) #[] #[.pointer (some ⟨w.heap.size,0,none⟩),.pointer (some ⟨w.heap.size+1,0,none⟩),.pointer (some ⟨w.heap.size+1+1+1,0,none⟩)],.string ky,.func (.func 136) #[] #[.pointer (some ⟨w.heap.size,0,none⟩),.pointer (some ⟨w.heap.size+1,0,none⟩),.pointer (some ⟨w.heap.size+1+1,0,none⟩),.pointer (some ⟨w.heap.size+1+1+1,0,none⟩)],.slice (some ⟨b,off,none⟩) Lf.length cp1,.int .i64 Lf.length,.int .i64 j,.bool true,.pointer (some ⟨b,off+j * 5,none⟩),.agg #[.int .i64 f.d,.string f.fr,.string f.rc,.string f.cy,.string f.am],v0,v1,v2,v3,v4,v5,v6,v7,v8,v9,v10,v11,v12,v13,v14,v15,v16,v17,u74,undef,undef,undef,undef,undef,undef,undef,undef,undef,undef,undef,undef,undef,undef,undef,undef,undef,undef,undef,undef,undef,undef,undef,undef,undef,undef,undef,undef,undef,undef,undef,undef,undef,undef,undef,undef,undef,undef,undef,undef,undef,undef,undef,undef,undef,undef,undef,undef,undef,undef,undef,undef,undef,undef,undef,undef,undef,undef,undef,undef,undef,undef,undef,undef,undef,undef,undef,undef,undef,undef,undef,undef,undef,undef],[]⟩∧VInv w2 [.slice oa acc.length oc,.pointer (some ⟨wr.heap.size,0,none⟩),.int .i64 f.d,.pointer (some ⟨wr.heap.size,1,none⟩),.string f.fr,.pointer (some ⟨wr.heap.size,2,none⟩),.string f.rc,.pointer (some ⟨wr.heap.size,3,none⟩),.string f.cy,.pointer (some ⟨wr.heap.size,4,none⟩),.string f.am,.string ky,.tuple #[.string (mkB (mulS f.am ky)),.int .i64 (mulE f.am ky)],.string (mkB (mulS f.am ky)),.int .i64 (mulE f.am ky),.string (mkB (mulS f.am ky)),v16,v17,v17] [v0,v1,v2,v3,v4,v5,v6,v7,v8,v9,v10,v11,v12,v13,v14,v15,v16,v17,v18] L w'∧(L 17=false→Below Wf.heap.size Wf w')∧(L 16=true→L 17=false→w'.ownsRow w2.heap.size 134 5 v16 (paidS f.d f.fr f.rc f.cy (mkB (mulS f.am ky))).length ((paidS f.d f.fr f.rc f.cy (mkB (mulS f.am ky))).flatMap Fl.cells))∧(L 17=true→w'.ownsRow w2.heap.size 134 5 v17 (acc ++ paidS f.d f.fr f.rc f.cy (mkB (mulS f.am ky))).length ((acc ++ paidS f.d f.fr f.rc f.cy (mkB (mulS f.am ky))).flatMap Fl.cells)∧Below w2.heap.size w2 w')∧(L 18=false→v18 = .slice oa acc.length oc)) (by kernel_rfl) (by kernel_rfl) ?_ ?_ ?_
      ·exact ⟨_,_,_,_,_,_,_,_,_,_,_,_,_,_,_,_,_,_,_,rfl,VInv.start (below_drewN hbwf 1) rfl,⟨fun _ => below_drewN (Below.refl _ _) 1,fun e => (by cases e),fun e => (by cases e),fun _ => rfl⟩⟩
      ·rintro L a w' ⟨v0,v1,v2,v3,v4,v5,v6,v7,v8,v9,v10,v11,v12,v13,v14,v15,v16,v17,v18,rfl,h,hx⟩ hcl i o ho hL hp
       have hi9:i < 19:=by simpa using (Array.getElem?_eq_some_iff.1 ho).1
       have hi2:i=0∨i=1∨i=2∨i=3∨i=4∨i=5∨i=6∨i=7∨i=8∨i=9∨i=10∨i=11∨i=12∨i=13∨i=14∨i=15∨i=16∨i=17∨i=18:=by omega
       clear hi9
       rcases hi2 with rfl | rfl | rfl | rfl | rfl | rfl | rfl | rfl | rfl | rfl | rfl | rfl | rfl | rfl | rfl | rfl | rfl | rfl | rfl
       ·refine wpOp_step rfl ?_
        intro K hK
        obtain rfl:=hx.2.2.2 (cl_no hcl hL 18 (by kernel_rfl))
        go_simp
        exact hK _ _ ⟨_,_,_,_,_,_,_,_,_,_,_,_,_,_,_,_,_,_,_,rfl,h.step (i:=0) (v:=.slice oa acc.length oc) rfl,⟨fun e => hx.1 (by simpa [upd] using e),fun e e2 => hx.2.1 (by simpa [upd] using e) (by simpa [upd] using e2),fun e => hx.2.2.1 (by simpa [upd] using e),fun e => hx.2.2.2 (by simpa [upd] using e)⟩⟩
       ·refine wpOp_step rfl ?_
        intro K hK
        go_simp
        exact hK _ _ ⟨_,_,_,_,_,_,_,_,_,_,_,_,_,_,_,_,_,_,_,rfl,h.step (i:=1) (v:=.pointer (some ⟨wr.heap.size,0,none⟩)) rfl,⟨fun e => hx.1 (by simpa [upd] using e),fun e e2 => hx.2.1 (by simpa [upd] using e) (by simpa [upd] using e2),fun e => hx.2.2.1 (by simpa [upd] using e),fun e => hx.2.2.2 (by simpa [upd] using e)⟩⟩
       ·refine wpOp_step rfl ?_
        intro K hK
        obtain rfl:=h.at (i:=1) (pred_spec ho hp (j:=1) (by kernel_rfl)) rfl rfl
        have h16:=cl_no hcl hL 16 (by kernel_rfl)
        have h17:=cl_no hcl h16 17 (by kernel_rfl)
        have hbf:=hx.1 h17
        have z0:=cell_below hbf x0
        have z1:=cell_below hbf x1
        have z2:=cell_below hbf x2
        have z3:=cell_below hbf x3
        have z4:=cell_below hbf x4
        go_simp
        exact hK _ _ ⟨_,_,_,_,_,_,_,_,_,_,_,_,_,_,_,_,_,_,_,rfl,h.step (i:=2) (v:=.int .i64 f.d) rfl,⟨fun e => hx.1 (by simpa [upd] using e),fun e e2 => hx.2.1 (by simpa [upd] using e) (by simpa [upd] using e2),fun e => hx.2.2.1 (by simpa [upd] using e),fun e => hx.2.2.2 (by simpa [upd] using e)⟩⟩
       ·refine wpOp_step rfl ?_
        intro K hK
        go_simp
        exact hK _ _ ⟨_,_,_,_,_,_,_,_,_,_,_,_,_,_,_,_,_,_,_,rfl,h.step (i:=3) (v:=.pointer (some ⟨wr.heap.size,1,none⟩)) rfl,⟨fun e => hx.1 (by simpa [upd] using e),fun e e2 => hx.2.1 (by simpa [upd] using e) (by simpa [upd] using e2),fun e => hx.2.2.1 (by simpa [upd] using e),fun e => hx.2.2.2 (by simpa [upd] using e)⟩⟩
       ·refine wpOp_step rfl ?_
        intro K hK
        obtain rfl:=h.at (i:=3) (pred_spec ho hp (j:=3) (by kernel_rfl)) rfl rfl
        have h16:=cl_no hcl hL 16 (by kernel_rfl)
        have h17:=cl_no hcl h16 17 (by kernel_rfl)
        have hbf:=hx.1 h17
        have z0:=cell_below hbf x0
        have z1:=cell_below hbf x1
        have z2:=cell_below hbf x2
        have z3:=cell_below hbf x3
        have z4:=cell_below hbf x4
        go_simp
        exact hK _ _ ⟨_,_,_,_,_,_,_,_,_,_,_,_,_,_,_,_,_,_,_,rfl,h.step (i:=4) (v:=.string f.fr) rfl,⟨fun e => hx.1 (by simpa [upd] using e),fun e e2 => hx.2.1 (by simpa [upd] using e) (by simpa [upd] using e2),fun e => hx.2.2.1 (by simpa [upd] using e),fun e => hx.2.2.2 (by simpa [upd] using e)⟩⟩
       ·refine wpOp_step rfl ?_
        intro K hK
        go_simp
        exact hK _ _ ⟨_,_,_,_,_,_,_,_,_,_,_,_,_,_,_,_,_,_,_,rfl,h.step (i:=5) (v:=.pointer (some ⟨wr.heap.size,2,none⟩)) rfl,⟨fun e => hx.1 (by simpa [upd] using e),fun e e2 => hx.2.1 (by simpa [upd] using e) (by simpa [upd] using e2),fun e => hx.2.2.1 (by simpa [upd] using e),fun e => hx.2.2.2 (by simpa [upd] using e)⟩⟩
       ·refine wpOp_step rfl ?_
        intro K hK
        obtain rfl:=h.at (i:=5) (pred_spec ho hp (j:=5) (by kernel_rfl)) rfl rfl
        have h16:=cl_no hcl hL 16 (by kernel_rfl)
        have h17:=cl_no hcl h16 17 (by kernel_rfl)
        have hbf:=hx.1 h17
        have z0:=cell_below hbf x0
        have z1:=cell_below hbf x1
        have z2:=cell_below hbf x2
        have z3:=cell_below hbf x3
        have z4:=cell_below hbf x4
        go_simp
        exact hK _ _ ⟨_,_,_,_,_,_,_,_,_,_,_,_,_,_,_,_,_,_,_,rfl,h.step (i:=6) (v:=.string f.rc) rfl,⟨fun e => hx.1 (by simpa [upd] using e),fun e e2 => hx.2.1 (by simpa [upd] using e) (by simpa [upd] using e2),fun e => hx.2.2.1 (by simpa [upd] using e),fun e => hx.2.2.2 (by simpa [upd] using e)⟩⟩
       ·refine wpOp_step rfl ?_
        intro K hK
        go_simp
        exact hK _ _ ⟨_,_,_,_,_,_,_,_,_,_,_,_,_,_,_,_,_,_,_,rfl,h.step (i:=7) (v:=.pointer (some ⟨wr.heap.size,3,none⟩)) rfl,⟨fun e => hx.1 (by simpa [upd] using e),fun e e2 => hx.2.1 (by simpa [upd] using e) (by simpa [upd] using e2),fun e => hx.2.2.1 (by simpa [upd] using e),fun e => hx.2.2.2 (by simpa [upd] using e)⟩⟩
       ·refine wpOp_step rfl ?_
        intro K hK
        obtain rfl:=h.at (i:=7) (pred_spec ho hp (j:=7) (by kernel_rfl)) rfl rfl
        have h16:=cl_no hcl hL 16 (by kernel_rfl)
        have h17:=cl_no hcl h16 17 (by kernel_rfl)
        have hbf:=hx.1 h17
        have z0:=cell_below hbf x0
        have z1:=cell_below hbf x1
        have z2:=cell_below hbf x2
        have z3:=cell_below hbf x3
        have z4:=cell_below hbf x4
        go_simp
        exact hK _ _ ⟨_,_,_,_,_,_,_,_,_,_,_,_,_,_,_,_,_,_,_,rfl,h.step (i:=8) (v:=.string f.cy) rfl,⟨fun e => hx.1 (by simpa [upd] using e),fun e e2 => hx.2.1 (by simpa [upd] using e) (by simpa [upd] using e2),fun e => hx.2.2.1 (by simpa [upd] using e),fun e => hx.2.2.2 (by simpa [upd] using e)⟩⟩
       ·refine wpOp_step rfl ?_
        intro K hK
        go_simp
        exact hK _ _ ⟨_,_,_,_,_,_,_,_,_,_,_,_,_,_,_,_,_,_,_,rfl,h.step (i:=9) (v:=.pointer (some ⟨wr.heap.size,4,none⟩)) rfl,⟨fun e => hx.1 (by simpa [upd] using e),fun e e2 => hx.2.1 (by simpa [upd] using e) (by simpa [upd] using e2),fun e => hx.2.2.1 (by simpa [upd] using e),fun e => hx.2.2.2 (by simpa [upd] using e)⟩⟩
       ·refine wpOp_step rfl ?_
        intro K hK
        obtain rfl:=h.at (i:=9) (pred_spec ho hp (j:=9) (by kernel_rfl)) rfl rfl
        have h12:=cl_no hcl hL 12 (by kernel_rfl)
        have h13:=cl_no hcl h12 13 (by kernel_rfl)
        have h15:=cl_no hcl h13 15 (by kernel_rfl)
        have h16:=cl_no hcl h15 16 (by kernel_rfl)
        have h17:=cl_no hcl h16 17 (by kernel_rfl)
        have hbf:=hx.1 h17
        have z0:=cell_below hbf x0
        have z1:=cell_below hbf x1
        have z2:=cell_below hbf x2
        have z3:=cell_below hbf x3
        have z4:=cell_below hbf x4
        go_simp
        exact hK _ _ ⟨_,_,_,_,_,_,_,_,_,_,_,_,_,_,_,_,_,_,_,rfl,h.step (i:=10) (v:=.string f.am) rfl,⟨fun e => hx.1 (by simpa [upd] using e),fun e e2 => hx.2.1 (by simpa [upd] using e) (by simpa [upd] using e2),fun e => hx.2.2.1 (by simpa [upd] using e),fun e => hx.2.2.2 (by simpa [upd] using e)⟩⟩
       ·refine wpOp_step rfl ?_
        intro K hK
        go_simp
        exact hK _ _ ⟨_,_,_,_,_,_,_,_,_,_,_,_,_,_,_,_,_,_,_,rfl,h.step (i:=11) (v:=.string ky) rfl,⟨fun e => hx.1 (by simpa [upd] using e),fun e e2 => hx.2.1 (by simpa [upd] using e) (by simpa [upd] using e2),fun e => hx.2.2.1 (by simpa [upd] using e),fun e => hx.2.2.2 (by simpa [upd] using e)⟩⟩
       ·refine wpOp_step rfl ?_
        intro K hK
        obtain rfl:=h.at (i:=10) (pred_spec ho hp (j:=10) (by kernel_rfl)) rfl rfl
        obtain rfl:=h.at (i:=11) (pred_spec ho hp (j:=11) (by kernel_rfl)) rfl rfl
        go_simp
        have h13:=cl_no hcl hL 13 (by kernel_rfl)
        have h15:=cl_no hcl h13 15 (by kernel_rfl)
        have h16:=cl_no hcl h15 16 (by kernel_rfl)
        have h17:=cl_no hcl h16 17 (by kernel_rfl)
        have hbf:=hx.1 h17
        refine (HM.out w').mono ?_
        rintro e w4 ⟨rfl,hb4⟩
        have hb4f:=hbf.trans (hb4.mono hbf.size)
        exact hK _ _ ⟨_,_,_,_,_,_,_,_,_,_,_,_,_,_,_,_,_,_,_,rfl,VInv.step (i:=12) (v:=.tuple #[.string (mkB (mulS f.am ky)),.int .i64 (mulE f.am ky)]) ⟨h.b.trans (hb4.mono h.b.size),h.len,h.f⟩ rfl,⟨fun _ => hb4f,fun e _ => absurd (show L 16=true by simpa [upd] using e) (by rw [h16];exact Bool.false_ne_true),fun e => absurd (show L 17=true by simpa [upd] using e) (by rw [h17];exact Bool.false_ne_true),fun e => hx.2.2.2 (by simpa [upd] using e)⟩⟩
       ·refine wpOp_step rfl ?_
        intro K hK
        obtain rfl:=h.at (i:=12) (pred_spec ho hp (j:=12) (by kernel_rfl)) rfl rfl
        go_simp
        exact hK _ _ ⟨_,_,_,_,_,_,_,_,_,_,_,_,_,_,_,_,_,_,_,rfl,h.step (i:=13) (v:=.string (mkB (mulS f.am ky))) rfl,⟨fun e => hx.1 (by simpa [upd] using e),fun e e2 => hx.2.1 (by simpa [upd] using e) (by simpa [upd] using e2),fun e => hx.2.2.1 (by simpa [upd] using e),fun e => hx.2.2.2 (by simpa [upd] using e)⟩⟩
       ·refine wpOp_step rfl ?_
        intro K hK
        obtain rfl:=h.at (i:=12) (pred_spec ho hp (j:=12) (by kernel_rfl)) rfl rfl
        go_simp
        exact hK _ _ ⟨_,_,_,_,_,_,_,_,_,_,_,_,_,_,_,_,_,_,_,rfl,h.step (i:=14) (v:=.int .i64 (mulE f.am ky)) rfl,⟨fun e => hx.1 (by simpa [upd] using e),fun e e2 => hx.2.1 (by simpa [upd] using e) (by simpa [upd] using e2),fun e => hx.2.2.1 (by simpa [upd] using e),fun e => hx.2.2.2 (by simpa [upd] using e)⟩⟩
       ·refine wpOp_step rfl ?_
        intro K hK
        obtain rfl:=h.at (i:=13) (pred_spec ho hp (j:=13) (by kernel_rfl)) rfl rfl
        obtain rfl:=h.at (i:=14) (pred_spec ho hp (j:=14) (by kernel_rfl)) rfl rfl
        go_simp
        refine (HMu.out w').mono ?_
        rintro e w4 ⟨rfl,rfl⟩
        exact hK _ _ ⟨_,_,_,_,_,_,_,_,_,_,_,_,_,_,_,_,_,_,_,rfl,h.step (i:=15) (v:=.string (mkB (mulS f.am ky))) rfl,⟨fun e => hx.1 (by simpa [upd] using e),fun e e2 => hx.2.1 (by simpa [upd] using e) (by simpa [upd] using e2),fun e => hx.2.2.1 (by simpa [upd] using e),fun e => hx.2.2.2 (by simpa [upd] using e)⟩⟩
       ·refine wpOp_step rfl ?_
        intro K hK
        obtain rfl:=h.at (i:=2) (pred_spec ho hp (j:=2) (by kernel_rfl)) rfl rfl
        obtain rfl:=h.at (i:=4) (pred_spec ho hp (j:=4) (by kernel_rfl)) rfl rfl
        obtain rfl:=h.at (i:=6) (pred_spec ho hp (j:=6) (by kernel_rfl)) rfl rfl
        obtain rfl:=h.at (i:=8) (pred_spec ho hp (j:=8) (by kernel_rfl)) rfl rfl
        obtain rfl:=h.at (i:=15) (pred_spec ho hp (j:=15) (by kernel_rfl)) rfl rfl
        go_simp
        have h17:=cl_no hcl hL 17 (by kernel_rfl)
        have h18:=cl_no hcl hL 18 (by kernel_rfl)
        have hbf:=hx.1 h17
        refine (HPd.out w').mono ?_
        rintro e w4 ⟨v,rfl,ho9,hb4⟩
        have hb4f:=hbf.trans (hb4.mono hbf.size)
        exact hK _ _ ⟨_,_,_,_,_,_,_,_,_,_,_,_,_,_,_,_,_,_,_,rfl,VInv.step (i:=16) (v:=v) (VInv.late (L:=L) ⟨h.b.trans (hb4.mono h.b.size),h.len,h.f⟩ hL v) rfl,⟨fun _ => hb4f,fun _ _ => ownsRow_base' ho9.2 h.b.size,fun e => absurd (show L 17=true by simpa [upd] using e) (by rw [h17];exact Bool.false_ne_true),fun e => hx.2.2.2 (by simpa [upd] using e)⟩⟩
       ·refine wpOp_step rfl ?_
        intro K hK
        obtain rfl:=h.at (i:=0) (pred_spec ho hp (j:=0) (by kernel_rfl)) rfl rfl
        have h18:=cl_no hcl hL 18 (by kernel_rfl)
        have hbf:=hx.1 hL
        have ho16:=hx.2.1 (pred_spec ho hp (j:=16) (by kernel_rfl)) hL
        have hoo:=ownsRow_below' HOf.out hbf
        refine step_append_flows rfl (.tmp 56) (.tmp 72) rfl w2.heap.size w2.heap.size _ _ acc (paidS f.d f.fr f.rc f.cy (mkB (mulS f.am ky))) rfl hoo rfl ho16 (by have:=paidS_len f.d f.fr f.rc f.cy (mkB (mulS f.am ky));omega) h.b.size ?_
        intro v' w4 ho4 hb4
        exact hK _ _ ⟨_,_,_,_,_,_,_,_,_,_,_,_,_,_,_,_,_,_,_,rfl,VInv.step (i:=17) (v:=v') (VInv.late (VInv.late (L:=L) ⟨h.b.trans hb4,h.len,h.f⟩ hL v') h18 v') rfl,⟨fun e => (by simp [upd] at e),fun _ e => (by simp [upd] at e),fun _ => ⟨ho4,h.b.trans hb4⟩,fun e => hx.2.2.2 (by simpa [upd] using e)⟩⟩
       ·refine wpOp_step rfl ?_
        intro K hK
        go_simp
        exact hK _ _ ⟨_,_,_,_,_,_,_,_,_,_,_,_,_,_,_,_,_,_,_,rfl,h.step (i:=18) (v:=v17) rfl,⟨fun e => hx.1 (by simpa [upd] using e),fun e e2 => hx.2.1 (by simpa [upd] using e) (by simpa [upd] using e2),fun e => hx.2.2.1 (by simpa [upd] using e),fun e => (by simp [upd] at e)⟩⟩
      ·rintro L a w1 ⟨v0,v1,v2,v3,v4,v5,v6,v7,v8,v9,v10,v11,v12,v13,v14,v15,v16,v17,v18,rfl,h,hx⟩ hall
       obtain ⟨ho4,hb5⟩:=hx.2.2.1 (hall 17 (by decide))
       obtain rfl:=h.at (i:=18) (hall 18 (by decide)) rfl rfl
       have hlp:=paidS_len f.d f.fr f.rc f.cy (mkB (mulS f.am ky))
       obtain ⟨acc2,hacc⟩:∃ a,a=acc ++ paidS f.d f.fr f.rc f.cy (mkB (mulS f.am ky)):=⟨_,rfl⟩
       rw [← hacc] at ho4 HT2
       have hla:acc2.length≤j+1:=by rw [hacc,List.length_append];omega
       obtain ⟨oa2,oc2,rfl⟩:=own_shape5 ho4
       have HO4:=Lib.hid ho4
       have HB5:=Lib.hid hb5
       have hz5:w2.heap.size≤w1.heap.size:=hb5.size
       clear ho4 hb5 hx hall h HPd HMu HM HOf HOw HBr hacc hlp hsmf hbf0 hbwf x0 x1 x2 x3 x4 HF
       go_wp2
       go_roundw
       case rel => (repeat apply Exists.intro);exact ⟨⟨j+1,acc2,oa2,oc2,by omega,by go_num,rfl,hla,HT2,HO4,HB5,hz5⟩,rfl⟩
       case measure => simp [intOf];omega
     ·have HMu:Hid (∀ W,Calls Tryz.prog 134 #[.string (mkB (mulS f.am ky)),.int .i64 (mulE f.am ky)] W fun e w' => e = .panicked (stopC (mulE f.am ky))∧W=w'):=Lib.hid fun W => (mustR_any (mkB (mulS f.am ky)) (mulE f.am ky) W).mono fun e w' ⟨h1,h2⟩ => ⟨by rw [h1,endR_no hm0],h2⟩
      have HP:Hid ((andR R [] fun a => andR R1 [] fun l => mulAll a l).1=mulE f.am ky):=by
       show _=_
       have hT:=HT.out.1
       rw [drop_getF HF.out,mulAll,andR,if_pos hm0] at hT
       rw [HR2.out];exact hT
      clear HT
      refine wp_region_invc (fun L a w' => ∃ (v0 v1 v2 v3 v4 v5 v6 v7 v8 v9 v10 v11 v12 v13 v14 v15 v16 v17 v18:Value),a=⟨#[.agg #[.int .u8 c.k,.string c.fr,.string c.rc,.string c.nm,.int .u8 c.ex.k,.string c.ex.ra,.string c.ex.nm,.int .i64 c.ex.d,.slice a1 c.ex.sub.length n1,.int .i64 c.d,.slice a2 c.ds.length n2,.slice a3 c.sub.length n3],.int .i64 day,.int .i64 fin,.agg #[.slice E.af E.F.length E.cf,.slice E.ac E.C.length E.cc],.pointer (some ⟨w.heap.size,0,none⟩),.pointer (some ⟨w.heap.size+1,0,none⟩),.pointer (some ⟨w.heap.size+1+1,0,none⟩),.pointer (some ⟨w.heap.size+1+1+1,0,none⟩),.slice none 0 0,.func (.func 128) #[] #[.pointer (some ⟨w.heap.size+1+1+1,0,none⟩),.pointer (some ⟨w.heap.size,0,none⟩)],.func (.func 130) #[] #[.pointer (some ⟨w.heap.size,0,none⟩),.pointer (some ⟨w.heap.size+1+1+1,0,none⟩)],.func (.func 133) #[] #[.pointer (some ⟨w.heap.size,0,none⟩),.pointer (some ⟨w.heap.size+1,0,none⟩),.pointer (some ⟨w.heap.size+1+1+1,0,none⟩)],.func (.func 136) #[] #[.pointer (some ⟨w.heap.size,0,none⟩),.pointer (some ⟨w.heap.size+1,0,none⟩),.pointer (some ⟨w.heap.size+1+1,0,none⟩),.pointer (some ⟨w.heap.size+1+1+1,0,none⟩)],.string ky,v18,undef,.pointer (some ⟨wr.heap.size,0,none⟩),.int .i64 day,.int .i64 fin,.bool false,.func (.func 128) #[] #[.pointer (some ⟨w.heap.size+1+1+1,0,none⟩),.pointer (some ⟨w.heap.size,0,none⟩)],.func (.func 130) #[] #[.pointer (some ⟨w.heap.size,0,none⟩),.pointer (some ⟨w.heap.size+1+1+1,0,none⟩)],.func (.func 133) #[] #[.pointer (some ⟨w.heap.size,0,none⟩),.pointer (some ⟨w.heap.size+1,0,none⟩),.pointer (some ⟨w.heap.size+1+1+1,0,none⟩)],.func (.func 136) #[] #[.pointer (some ⟨w.heap.size,0,none⟩),.pointer (some ⟨w.heap.size+1,0,none⟩),.pointer (some ⟨w.heap.size+1+1,0,none⟩),.pointer (some ⟨w.heap.size+1+1+1,0,none⟩)],.pointer (some ⟨w.heap.size,0,none⟩),.int .u8 c.k,.bool false,.bool false,undef,undef,undef,undef,undef,undef,undef,undef,undef,undef,.bool false,.bool false,undef,undef,undef,undef,undef,.bool true,.bool true,.func (.func 133) #[] #[.pointer (some ⟨w.heap.size,0,none⟩),.pointer (some ⟨w.heap.size+1,0,none⟩),.pointer (some ⟨w.heap.size+1+1+1,0,none⟩)],.string ky,.func (.func 136) #[] #[.pointer (some ⟨w.heap.size,0,none⟩),.pointer (some ⟨w.heap.size+1,0,none⟩),.pointer (some ⟨w.heap.size+1+1,0,none⟩),.pointer (some ⟨w.heap.size+1+1+1,0,none⟩)],.slice (some ⟨b,off,none⟩) Lf.length cp1,.int .i64 Lf.length,.int .i64 j,.bool true,.pointer (some ⟨b,off+j * 5,none⟩),.agg #[.int .i64 f.d,.string f.fr,.string f.rc,.string f.cy,.string f.am],v0,v1,v2,v3,v4,v5,v6,v7,v8,v9,v10,v11,v12,v13,v14,v15,v16,v17,u74,undef,undef,undef,undef,undef,undef,undef,undef,undef,undef,undef,undef,undef,undef,undef,undef,undef,undef,undef,undef,undef,undef,undef,undef,undef,undef,undef,undef,undef,undef,undef,undef,undef,undef,undef,undef,undef,undef,undef,undef,undef,undef,undef,undef,undef,undef,undef,undef,undef,undef,undef,undef,undef,undef,undef,undef,undef,undef,undef,undef,undef,undef,undef,undef,undef,undef,undef,undef,undef,undef,undef,undef,undef,undef],[]⟩∧VInv w2 [.slice oa acc.length oc,.pointer (some ⟨wr.heap.size,0,none⟩),.int .i64 f.d,.pointer (some ⟨wr.heap.size,1,none⟩),.string f.fr,.pointer (some ⟨wr.heap.size,2,none⟩),.string f.rc,.pointer (some ⟨wr.heap.size,3,none⟩),.string f.cy,.pointer (some ⟨wr.heap.size,4,none⟩),.string f.am,.string ky,.tuple #[.string (mkB (mulS f.am ky)),.int .i64 (mulE f.am ky)],.string (mkB (mulS f.am ky)),.int .i64 (mulE f.am ky),.string (mkB (mulS f.am ky)),v16,v17,v17] [v0,v1,v2,v3,v4,v5,v6,v7,v8,v9,v10,v11,v12,v13,v14,v15,v16,v17,v18] L w'∧Below Wf.heap.size Wf w'∧L 15=false∧(L 18=false→v18 = .slice oa acc.length oc)) (by kernel_rfl) (by kernel_rfl) ?_ ?_ ?_
      ·exact ⟨_,_,_,_,_,_,_,_,_,_,_,_,_,_,_,_,_,_,_,rfl,VInv.start (below_drewN hbwf 1) rfl,⟨below_drewN (Below.refl _ _) 1,rfl,fun _ => rfl⟩⟩
      ·rintro L a w' ⟨v0,v1,v2,v3,v4,v5,v6,v7,v8,v9,v10,v11,v12,v13,v14,v15,v16,v17,v18,rfl,h,hx⟩ hcl i o ho hL hp
       have hi9:i < 19:=by simpa using (Array.getElem?_eq_some_iff.1 ho).1
       have hi2:i=0∨i=1∨i=2∨i=3∨i=4∨i=5∨i=6∨i=7∨i=8∨i=9∨i=10∨i=11∨i=12∨i=13∨i=14∨i=15∨i=16∨i=17∨i=18:=by omega
       clear hi9
       rcases hi2 with rfl | rfl | rfl | rfl | rfl | rfl | rfl | rfl | rfl | rfl | rfl | rfl | rfl | rfl | rfl | rfl | rfl | rfl | rfl
       ·refine wpOp_step rfl ?_
        intro K hK
        obtain rfl:=hx.2.2 (cl_no hcl hL 18 (by kernel_rfl))
        go_simp
        exact hK _ _ ⟨_,_,_,_,_,_,_,_,_,_,_,_,_,_,_,_,_,_,_,rfl,h.step (i:=0) (v:=.slice oa acc.length oc) rfl,⟨hx.1,(by simpa [upd] using hx.2.1),fun e => hx.2.2 (by simpa [upd] using e)⟩⟩
       ·refine wpOp_step rfl ?_
        intro K hK
        go_simp
        exact hK _ _ ⟨_,_,_,_,_,_,_,_,_,_,_,_,_,_,_,_,_,_,_,rfl,h.step (i:=1) (v:=.pointer (some ⟨wr.heap.size,0,none⟩)) rfl,⟨hx.1,(by simpa [upd] using hx.2.1),fun e => hx.2.2 (by simpa [upd] using e)⟩⟩
       ·refine wpOp_step rfl ?_
        intro K hK
        obtain rfl:=h.at (i:=1) (pred_spec ho hp (j:=1) (by kernel_rfl)) rfl rfl
        have hbf:=hx.1
        have z0:=cell_below hbf x0
        have z1:=cell_below hbf x1
        have z2:=cell_below hbf x2
        have z3:=cell_below hbf x3
        have z4:=cell_below hbf x4
        go_simp
        exact hK _ _ ⟨_,_,_,_,_,_,_,_,_,_,_,_,_,_,_,_,_,_,_,rfl,h.step (i:=2) (v:=.int .i64 f.d) rfl,⟨hx.1,(by simpa [upd] using hx.2.1),fun e => hx.2.2 (by simpa [upd] using e)⟩⟩
       ·refine wpOp_step rfl ?_
        intro K hK
        go_simp
        exact hK _ _ ⟨_,_,_,_,_,_,_,_,_,_,_,_,_,_,_,_,_,_,_,rfl,h.step (i:=3) (v:=.pointer (some ⟨wr.heap.size,1,none⟩)) rfl,⟨hx.1,(by simpa [upd] using hx.2.1),fun e => hx.2.2 (by simpa [upd] using e)⟩⟩
       ·refine wpOp_step rfl ?_
        intro K hK
        obtain rfl:=h.at (i:=3) (pred_spec ho hp (j:=3) (by kernel_rfl)) rfl rfl
        have hbf:=hx.1
        have z0:=cell_below hbf x0
        have z1:=cell_below hbf x1
        have z2:=cell_below hbf x2
        have z3:=cell_below hbf x3
        have z4:=cell_below hbf x4
        go_simp
        exact hK _ _ ⟨_,_,_,_,_,_,_,_,_,_,_,_,_,_,_,_,_,_,_,rfl,h.step (i:=4) (v:=.string f.fr) rfl,⟨hx.1,(by simpa [upd] using hx.2.1),fun e => hx.2.2 (by simpa [upd] using e)⟩⟩
       ·refine wpOp_step rfl ?_
        intro K hK
        go_simp
        exact hK _ _ ⟨_,_,_,_,_,_,_,_,_,_,_,_,_,_,_,_,_,_,_,rfl,h.step (i:=5) (v:=.pointer (some ⟨wr.heap.size,2,none⟩)) rfl,⟨hx.1,(by simpa [upd] using hx.2.1),fun e => hx.2.2 (by simpa [upd] using e)⟩⟩
       ·refine wpOp_step rfl ?_
        intro K hK
        obtain rfl:=h.at (i:=5) (pred_spec ho hp (j:=5) (by kernel_rfl)) rfl rfl
        have hbf:=hx.1
        have z0:=cell_below hbf x0
        have z1:=cell_below hbf x1
        have z2:=cell_below hbf x2
        have z3:=cell_below hbf x3
        have z4:=cell_below hbf x4
        go_simp
        exact hK _ _ ⟨_,_,_,_,_,_,_,_,_,_,_,_,_,_,_,_,_,_,_,rfl,h.step (i:=6) (v:=.string f.rc) rfl,⟨hx.1,(by simpa [upd] using hx.2.1),fun e => hx.2.2 (by simpa [upd] using e)⟩⟩
       ·refine wpOp_step rfl ?_
        intro K hK
        go_simp
        exact hK _ _ ⟨_,_,_,_,_,_,_,_,_,_,_,_,_,_,_,_,_,_,_,rfl,h.step (i:=7) (v:=.pointer (some ⟨wr.heap.size,3,none⟩)) rfl,⟨hx.1,(by simpa [upd] using hx.2.1),fun e => hx.2.2 (by simpa [upd] using e)⟩⟩
       ·refine wpOp_step rfl ?_
        intro K hK
        obtain rfl:=h.at (i:=7) (pred_spec ho hp (j:=7) (by kernel_rfl)) rfl rfl
        have hbf:=hx.1
        have z0:=cell_below hbf x0
        have z1:=cell_below hbf x1
        have z2:=cell_below hbf x2
        have z3:=cell_below hbf x3
        have z4:=cell_below hbf x4
        go_simp
        exact hK _ _ ⟨_,_,_,_,_,_,_,_,_,_,_,_,_,_,_,_,_,_,_,rfl,h.step (i:=8) (v:=.string f.cy) rfl,⟨hx.1,(by simpa [upd] using hx.2.1),fun e => hx.2.2 (by simpa [upd] using e)⟩⟩
       ·refine wpOp_step rfl ?_
        intro K hK
        go_simp
        exact hK _ _ ⟨_,_,_,_,_,_,_,_,_,_,_,_,_,_,_,_,_,_,_,rfl,h.step (i:=9) (v:=.pointer (some ⟨wr.heap.size,4,none⟩)) rfl,⟨hx.1,(by simpa [upd] using hx.2.1),fun e => hx.2.2 (by simpa [upd] using e)⟩⟩
       ·refine wpOp_step rfl ?_
        intro K hK
        obtain rfl:=h.at (i:=9) (pred_spec ho hp (j:=9) (by kernel_rfl)) rfl rfl
        have hbf:=hx.1
        have z0:=cell_below hbf x0
        have z1:=cell_below hbf x1
        have z2:=cell_below hbf x2
        have z3:=cell_below hbf x3
        have z4:=cell_below hbf x4
        go_simp
        exact hK _ _ ⟨_,_,_,_,_,_,_,_,_,_,_,_,_,_,_,_,_,_,_,rfl,h.step (i:=10) (v:=.string f.am) rfl,⟨hx.1,(by simpa [upd] using hx.2.1),fun e => hx.2.2 (by simpa [upd] using e)⟩⟩
       ·refine wpOp_step rfl ?_
        intro K hK
        go_simp
        exact hK _ _ ⟨_,_,_,_,_,_,_,_,_,_,_,_,_,_,_,_,_,_,_,rfl,h.step (i:=11) (v:=.string ky) rfl,⟨hx.1,(by simpa [upd] using hx.2.1),fun e => hx.2.2 (by simpa [upd] using e)⟩⟩
       ·refine wpOp_step rfl ?_
        intro K hK
        obtain rfl:=h.at (i:=10) (pred_spec ho hp (j:=10) (by kernel_rfl)) rfl rfl
        obtain rfl:=h.at (i:=11) (pred_spec ho hp (j:=11) (by kernel_rfl)) rfl rfl
        go_simp
        refine (HM.out w').mono ?_
        rintro e w4 ⟨rfl,hb4⟩
        exact hK _ _ ⟨_,_,_,_,_,_,_,_,_,_,_,_,_,_,_,_,_,_,_,rfl,VInv.step (i:=12) (v:=.tuple #[.string (mkB (mulS f.am ky)),.int .i64 (mulE f.am ky)]) ⟨h.b.trans (hb4.mono h.b.size),h.len,h.f⟩ rfl,⟨hx.1.trans (hb4.mono hx.1.size),(by simpa [upd] using hx.2.1),fun e => hx.2.2 (by simpa [upd] using e)⟩⟩
       ·refine wpOp_step rfl ?_
        intro K hK
        obtain rfl:=h.at (i:=12) (pred_spec ho hp (j:=12) (by kernel_rfl)) rfl rfl
        go_simp
        exact hK _ _ ⟨_,_,_,_,_,_,_,_,_,_,_,_,_,_,_,_,_,_,_,rfl,h.step (i:=13) (v:=.string (mkB (mulS f.am ky))) rfl,⟨hx.1,(by simpa [upd] using hx.2.1),fun e => hx.2.2 (by simpa [upd] using e)⟩⟩
       ·refine wpOp_step rfl ?_
        intro K hK
        obtain rfl:=h.at (i:=12) (pred_spec ho hp (j:=12) (by kernel_rfl)) rfl rfl
        go_simp
        exact hK _ _ ⟨_,_,_,_,_,_,_,_,_,_,_,_,_,_,_,_,_,_,_,rfl,h.step (i:=14) (v:=.int .i64 (mulE f.am ky)) rfl,⟨hx.1,(by simpa [upd] using hx.2.1),fun e => hx.2.2 (by simpa [upd] using e)⟩⟩
       ·refine wpOp_step rfl ?_
        intro K hK
        obtain rfl:=h.at (i:=13) (pred_spec ho hp (j:=13) (by kernel_rfl)) rfl rfl
        obtain rfl:=h.at (i:=14) (pred_spec ho hp (j:=14) (by kernel_rfl)) rfl rfl
        go_simp
        refine (HMu.out w').mono ?_
        rintro e w4 ⟨rfl,rfl⟩
        exact ⟨rfl,Hbw2.out.trans (h.b.mono hz2),.inr ⟨by rw [HP.out];exact hm0,by rw [HP.out]⟩⟩
       ·refine wpOp_step rfl ?_
        intro K hK
        exact absurd (pred_spec ho hp (j:=15) (by kernel_rfl)) (by rw [hx.2.1];exact Bool.false_ne_true)
       ·refine wpOp_step rfl ?_
        intro K hK
        exact absurd (cl_spec hcl (pred_spec ho hp (j:=16) (by kernel_rfl)) (j:=15) (by kernel_rfl)) (by rw [hx.2.1];exact Bool.false_ne_true)
       ·refine wpOp_step rfl ?_
        intro K hK
        exact absurd (cl_spec hcl (cl_spec hcl (pred_spec ho hp (j:=17) (by kernel_rfl)) (j:=16) (by kernel_rfl)) (j:=15) (by kernel_rfl)) (by rw [hx.2.1];exact Bool.false_ne_true)
      ·rintro L a w1 ⟨v0,v1,v2,v3,v4,v5,v6,v7,v8,v9,v10,v11,v12,v13,v14,v15,v16,v17,v18,rfl,h,hx⟩ hall
       exact absurd (hall 15 (by decide)) (by rw [hx.2.1];exact Bool.false_ne_true)
    ·obtain rfl:j=Lf.length:=by omega
     have HE:Hid (mulAll ky Lf=(0,acc)):=by
      show _=_
      have hT:=HT.out
      rw [List.drop_length,mulAll] at hT
      exact Prod.ext hT.1 (by rw [hT.2 rfl,List.append_nil])
     have HFin:Hid (FlP w (andR R [] fun a => andR R1 [] fun l => mulAll a l) (.returned (.slice oa acc.length oc)) wr):=by
      show FlP _ _ _ _
      rw [HR2.out,HE.out]
      exact ⟨Hbw2.out.trans (HBr.out.mono hz2),.inl ⟨rfl,_,rfl,⟨_,_,rfl⟩,ownsRow_base' HOw.out hz2⟩⟩
     clear HE HT HOw HBr HR2 Hbw2 Hrd Hsm
     go_wp2
     go_ret
     exact HFin.out
  ·have HR2:Hid ((andR R [] fun a => andR R1 [] fun l => mulAll a l).1=R1.1):=by show _=_;rw [HR.out,andR,if_pos h0]
   exact ⟨rfl,hbw1.trans (hb2.mono hbw1.size),.inr ⟨by rw [HR2.out];exact h0,by rw [HR2.out]⟩⟩
 ·have HR:Hid ((andR R [] fun a => andR R1 [] fun l => mulAll a l).1=R.1):=by show _=_;rw [andR,if_pos h0]
  rw [endR_no h0] at C0
  clear HO
  go_enter Tryz.func107,Tryz.ntmps107
  go_upto_region 1 with (fail)
  clear hW0
  go_wp2_with fail
  refine C0.out.mono ?_
  rintro e w1 ⟨rfl,hb1⟩
  exact ⟨rfl,Hb0.out.trans (hb1.mono hz1),.inr ⟨by rw [HR.out];exact h0,by rw [HR.out]⟩⟩
end Go.Proofs.YthdeijdimfjceaaGreatDoor
