/- A part. -/
import Derived.Test.YtcnpaciljmekcaaGreatDoorB01
namespace Go.Proofs.YtcnpaciljmekcaaGreatDoor
open Go.RowKit
section
variable {W0 w w':World} {x:Ex} {s:Value} {k:Nat} {r:ByteArray} {L:Nat→Bool} {v7 v8 v9 v10 v2:Value}
theorem TqI.u4 (h:TqI W0 x s k r L v7 v8 v9 v10 v2 w) (hL:L 4=false) {X:Nat} (hX:W0.heap.size≤X) (hB:BoxN w X 25 zEx):TqI W0 x s k r (upd L 4) v7 v8 v9 v10 (.pointer (some ⟨X,0,none⟩)) w :=
 ⟨h.bw,fun a => h.f0 (by simpa [upd] using a),fun a => h.f1 (by simpa [upd] using a),fun a b => h.f2 (by simpa [upd] using a) (by simpa [upd] using b),fun a b => h.f3 (by simpa [upd] using a) (by simpa [upd] using b),fun _ _ => ⟨X,rfl,hX,hB⟩,fun a => (by have:=h.open5 (by decide) hL;simp [upd] at a;rw [this] at a;cases a),fun i a b => (by have:=h.open5 (by decide) hL;simp [upd] at a;rw [this] at a;cases a),fun a => (by have:=h.f9 (by simpa [upd] using a);simpa [upd] using this)⟩
theorem TqI.u5 {X S:Nat} (h:TqI W0 x s k r L v7 v8 (.slice (some ⟨S,0,none⟩) 2 2) v10 (.pointer (some ⟨X,0,none⟩)) w) (hall:∀ i,i < 5→L i=true) (hX:W0.heap.size≤X) (hbx:BoxN w X 25 zEx) (gS:W0.heap.size≤S) (hbs:BoxN w S 25 (x.cells s ++ (xCon r).cells (.slice none 0 0))) :
  TqI W0 x s k r (upd L 5) v7 v8 (.slice (some ⟨S,0,none⟩) 2 2) v10 (.pointer (some ⟨X,0,none⟩)) (((((w.setCell ⟨X,0,none⟩ (.int .u8 k)).setCell ⟨X,1,none⟩ (.string ⟨#[]⟩)).setCell ⟨X,2,none⟩ (.string ⟨#[]⟩)).setCell ⟨X,3,none⟩ (.int .i64 0)).setCell ⟨X,4,none⟩ (.slice (some ⟨S,0,none⟩) 2 2)):=by
 have hne:S ≠ X:=by
  rintro rfl
  have e:=Option.some.inj (hbx.symm.trans hbs)
  simp [zEx,Ex.cells] at e
 have hb:=((((h.bw.setCell (p:=⟨X,0,none⟩) hX (.int .u8 k)).setCell (p:=⟨X,1,none⟩) hX (.string ⟨#[]⟩)).setCell (p:=⟨X,2,none⟩) hX (.string ⟨#[]⟩)).setCell (p:=⟨X,3,none⟩) hX (.int .i64 0)).setCell (p:=⟨X,4,none⟩) hX (.slice (some ⟨S,0,none⟩) 2 2)
 have h5:upd L 5 5=true:=by simp [upd]
 exact ⟨hb,fun a => h.f0 (by simpa [upd] using a),fun a => h.f1 (by simpa [upd] using a),fun _ b => (by rw [h5] at b;cases b),fun _ b => (by rw [h5] at b;cases b),fun _ b => (by rw [h5] at b;cases b),fun _ => ⟨X,S,rfl,hX,gS,((((hbs.far hne _).far hne _).far hne _).far hne _).far hne _,((((hbx.set 0 _).set 1 _).set 2 _).set 3 _).set 4 _⟩,fun i _ b => (by show (if i=5 then true else L i)=true;rw [if_neg (by omega)];exact hall i b),fun _ => (by show (if 2=5 then true else L 2)=true;exact hall 2 (by decide))⟩
end
section
variable {W0 w w':World} {F:Nat} {x:Ex} {s:Value} {k:Nat} {r:ByteArray} {L:Nat→Bool} {v7 v8 v9 v10:Value}
theorem TqJ.u4 {S:Nat} (h:TqJ W0 F x s k r L v7 v8 v9 v10 w) (h4:L 4=false) (hall:∀ i,i < 4→L i=true) (gS:W0.heap.size≤S) (hbs:BoxN w S 25 (x.cells s ++ (xCon r).cells (.slice none 0 0))) :
  TqJ W0 F x s k r (upd L 4) v7 v8 v9 v10 (((((w.setCell ⟨F,0,none⟩ (.int .u8 k)).setCell ⟨F,1,none⟩ (.string ⟨#[]⟩)).setCell ⟨F,2,none⟩ (.string ⟨#[]⟩)).setCell ⟨F,3,none⟩ (.int .i64 0)).setCell ⟨F,4,none⟩ (.slice (some ⟨S,0,none⟩) 2 2)):=by
 have h5:upd L 4 4=true:=by simp [upd]
 exact ⟨fun b => (by rw [h5] at b;cases b),fun a => h.f0 (by simpa [upd] using a),fun a => h.f1 (by simpa [upd] using a),fun _ b => (by rw [h5] at b;cases b),fun _ b => (by rw [h5] at b;cases b),fun _ => ⟨S,w,h.bw h4,gS,hbs,rfl⟩,fun i _ b => (by show (if i=4 then true else L i)=true;rw [if_neg (by omega)];exact hall i b),fun _ => (by show (if 2=4 then true else L 2)=true;exact hall 2 (by decide))⟩
end
set_option maxHeartbeats 4000000 in
set_option maxRecDepth 100000 in
theorem twice10_any (w:World):Calls Tryz.prog 30 #[] w fun e w' => ∃ B,e = .returned (.agg #[.int .u8 6,.string ⟨#[]⟩,.string ⟨#[]⟩,.int .i64 0,.slice (some ⟨B,0,none⟩) 2 2])∧RdE w' [xMax,xCon m2] (.slice (some ⟨B,0,none⟩) 2 2)∧Below w.heap.size w w':=by
 have HN:=Lib.hid (fun W => now10_any mSpot W)
 have HC:=Lib.hid (fun r W => con10_any r W)
 have z0:=BoxN.new w [.int .u8 0,.string ⟨#[]⟩,.string ⟨#[]⟩,.int .i64 0,.slice none 0 0] 25
 have HZ:=Lib.hid z0
 clear z0
 go_enter Tryz.func30,Tryz.ntmps30
 go_wp2_with (first | (go_at_call 77;refine (HN.out _).mono ?_;rintro e w1 ⟨rfl,hb1⟩) | (go_at_call 32;refine (HC.out m3 _).mono ?_;rintro e w2 ⟨rfl,hb2⟩))
 have hz:w.heap.size < w2.heap.size:=by have:=hb1.size;have:=hb2.size;simp at *;omega
 have hbw:Below w.heap.size w w2:=(below_a1 w _).trans ((hb1.trans (hb2.mono hb1.size)).mono (by simp))
 have HZ2:BoxN w2 w.heap.size 25 [.int .u8 0,.string ⟨#[]⟩,.string ⟨#[]⟩,.int .i64 0,.slice none 0 0]:=(HZ.out.below hb1 (by simp)).below hb2 (by have:=hb1.size;simp at *;omega)
 obtain ⟨W1,hW1⟩:∃ W1,W1=(w2.alloc (.cells #[.int .u8 3,.string ⟨#[]⟩,.string mSpot,.int .i64 0,.slice none 0 0,.int .u8 1,.string m3,.string ⟨#[]⟩,.int .i64 0,.slice none 0 0] 25)).alloc (.cells #[.int .u8 5,.string ⟨#[]⟩,.string ⟨#[]⟩,.int .i64 0,.slice (some ⟨w2.heap.size,0,none⟩) 2 2] 25):=⟨_,rfl⟩
 rw [← hW1]
 have hS0:=(BoxN.new w2 (xNow.cells (.slice none 0 0) ++ (xCon m3).cells (.slice none 0 0)) 25).alloc (.cells #[.int .u8 5,.string ⟨#[]⟩,.string ⟨#[]⟩,.int .i64 0,.slice (some ⟨w2.heap.size,0,none⟩) 2 2] 25)
 have hB0:=BoxN.new (w2.alloc (.cells #[.int .u8 3,.string ⟨#[]⟩,.string mSpot,.int .i64 0,.slice none 0 0,.int .u8 1,.string m3,.string ⟨#[]⟩,.int .i64 0,.slice none 0 0] 25)) (xSub.cells (.slice (some ⟨w2.heap.size,0,none⟩) 2 2)) 25
 rw [World.size_alloc] at hB0
 have T1:TwG w.heap.size W1 (w2.heap.size+1) xSub (.slice (some ⟨w2.heap.size,0,none⟩) 2 2):=by
  rw [hW1]
  exact fun _ hk => ⟨hB0.kp hk (by omega),rdE_two (s1:=.slice none 0 0) (s2:=.slice none 0 0) (by decide) (by decide) (fun i u h => (hS0.kp hk (by omega)).cell h) (rdE_nil _) (rdE_nil _)⟩
 have HZ1:BoxN W1 w.heap.size 25 [.int .u8 0,.string ⟨#[]⟩,.string ⟨#[]⟩,.int .i64 0,.slice none 0 0]:=by rw [hW1];exact (HZ2.alloc _).alloc _
 have hbw1:Below w.heap.size w W1:=by rw [hW1];exact hbw.trans ((below_a2 w2 _ _).mono (by omega))
 have hz1:w2.heap.size+1 < W1.heap.size:=(T1 _ (Kp.of (Below.refl _ _))).b.lt
 clear hW1 hS0 hB0 HZ2 hbw hb1 hb2 HZ HN
 generalize w2.heap.size=S1 at *
 clear w1 w2
 have c0:W1.cell? ⟨S1+1,0,none⟩=some (.int .u8 5):=(T1 _ (Kp.of (Below.refl _ _))).b.cell (j:=0) rfl
 have c1:W1.cell? ⟨S1+1,1,none⟩=some (.string ⟨#[]⟩):=(T1 _ (Kp.of (Below.refl _ _))).b.cell (j:=1) rfl
 have c2:W1.cell? ⟨S1+1,2,none⟩=some (.string ⟨#[]⟩):=(T1 _ (Kp.of (Below.refl _ _))).b.cell (j:=2) rfl
 have c3:W1.cell? ⟨S1+1,3,none⟩=some (.int .i64 0):=(T1 _ (Kp.of (Below.refl _ _))).b.cell (j:=3) rfl
 have c4:W1.cell? ⟨S1+1,4,none⟩=some (.slice (some ⟨S1,0,none⟩) 2 2):=(T1 _ (Kp.of (Below.refl _ _))).b.cell (j:=4) rfl
 go_upto_region 3 with (fail)
 go_cut [2] from 7 to 10 (fun v wc => ∃ B S,v = .pointer (some ⟨B,0,none⟩)∧w.heap.size < B∧Hid (TwG w.heap.size wc B xMax (.slice (some ⟨S,0,none⟩) 2 2))∧Hid (Below w.heap.size w wc)∧Hid (BoxN wc w.heap.size 25 [.int .u8 0,.string ⟨#[]⟩,.string ⟨#[]⟩,.int .i64 0,.slice none 0 0]))
 case first =>
  have HT:=Lib.hid T1
  have HW:=Lib.hid hbw1
  have HZ3:=Lib.hid HZ1
  have hz2:w.heap.size < W1.heap.size:=HZ1.lt
  clear T1 HZ1 hbw1 c0 c1 c2 c3 c4
  refine wp_region_inv (fun L a w' => ∃ v7 v8 v9 v10 v2,a=⟨#[.pointer (some ⟨w.heap.size,0,none⟩),.pointer (some ⟨S1+1,0,none⟩),v2,.agg #[.int .u8 3,.string ⟨#[]⟩,.string mSpot,.int .i64 0,.slice none 0 0],.agg #[.int .u8 1,.string m3,.string ⟨#[]⟩,.int .i64 0,.slice none 0 0],.slice (some ⟨S1,0,none⟩) 2 2,.agg #[.int .u8 5,.string ⟨#[]⟩,.string ⟨#[]⟩,.int .i64 0,.slice (some ⟨S1,0,none⟩) 2 2],v7,v8,v9,v10,undef,undef,undef,undef],[]⟩∧TqI W1 xSub (.slice (some ⟨S1,0,none⟩) 2 2) 7 m0 L v7 v8 v9 v10 v2 w') (by kernel_rfl) (by kernel_rfl) ?_ ?_ ?_
  ·exact ⟨_,_,_,_,_,rfl,TqI.start (Below.refl _ _).drew⟩
  ·rintro L a w' ⟨v7,v8,v9,v10,v2,rfl,h⟩ i o ho hL hp
   have hi:i < 6:=by simpa using (Array.getElem?_eq_some_iff.1 ho).1
   have hi2:i=0∨i=1∨i=2∨i=3∨i=4∨i=5:=by omega
   clear hi
   rcases hi2 with rfl | rfl | rfl | rfl | rfl | rfl
   ·refine wpOp_step rfl ?_
    intro K hK
    have hq:=(HT.out _ (Kp.of h.bw)).b
    have c0:w'.cell? ⟨S1+1,0,none⟩=some (.int .u8 5):=hq.cell (j:=0) rfl
    have c1:w'.cell? ⟨S1+1,1,none⟩=some (.string ⟨#[]⟩):=hq.cell (j:=1) rfl
    have c2:w'.cell? ⟨S1+1,2,none⟩=some (.string ⟨#[]⟩):=hq.cell (j:=2) rfl
    have c3:w'.cell? ⟨S1+1,3,none⟩=some (.int .i64 0):=hq.cell (j:=3) rfl
    have c4:w'.cell? ⟨S1+1,4,none⟩=some (.slice (some ⟨S1,0,none⟩) 2 2):=hq.cell (j:=4) rfl
    go_simp
    exact hK _ _ ⟨_,_,_,_,_,rfl,h.u0 hL⟩
   ·refine wpOp_step rfl ?_
    intro K hK
    go_simp
    refine (HC.out m0 _).mono ?_
    rintro e w4 ⟨rfl,hb4⟩
    exact hK _ _ ⟨_,_,_,_,_,rfl,(h.ext hb4).u1 hL⟩
   ·refine wpOp_step rfl ?_
    intro K hK
    obtain rfl:=h.f0 (pred_spec ho hp (j:=0) (by kernel_rfl))
    obtain rfl:=h.f1 (pred_spec ho hp (j:=1) (by kernel_rfl))
    simp only [Ex.val]
    go_simp
    exact hK _ _ ⟨_,_,_,_,_,rfl,(h.ext (below_a1 _ _)).u2 hL h.bw.size (BoxN.new _ _ _)⟩
   ·refine wpOp_step rfl ?_
    intro K hK
    obtain ⟨S,rfl,_,_⟩:=h.f2 (pred_spec ho hp (j:=2) (by kernel_rfl)) (h.open5 (by decide) hL)
    go_simp
    exact hK _ _ ⟨_,_,_,_,_,rfl,h.u3 hL (pred_spec ho hp (j:=2) (by kernel_rfl))⟩
   ·refine wpOp_step rfl ?_
    intro K hK
    go_simp
    exact hK _ _ ⟨_,_,_,_,_,rfl,(h.ext (below_a1 _ _)).u4 hL h.bw.size (BoxN.new _ zEx _)⟩
   ·refine wpOp_step rfl ?_
    intro K hK
    have p2:=pred_spec ho hp (j:=2) (by kernel_rfl)
    obtain rfl:=h.f3 (pred_spec ho hp (j:=3) (by kernel_rfl)) hL
    obtain ⟨X,rfl,hX,hbx⟩:=h.f4 (pred_spec ho hp (j:=4) (by kernel_rfl)) hL
    obtain ⟨S,rfl,gS,hbs⟩:=h.f2 p2 hL
    have hall:∀ i,i < 5→L i=true:=fun i hi => by
     have hi2:i=0∨i=1∨i=2∨i=3∨i=4:=by omega
     rcases hi2 with rfl | rfl | rfl | rfl | rfl
     all_goals exact pred_spec ho hp (by kernel_rfl)
    have y0:w'.cell? ⟨X,0,none⟩=some (.int .u8 0):=hbx.cell (j:=0) rfl
    have y1:w'.cell? ⟨X,1,none⟩=some (.string ⟨#[]⟩):=hbx.cell (j:=1) rfl
    have y2:w'.cell? ⟨X,2,none⟩=some (.string ⟨#[]⟩):=hbx.cell (j:=2) rfl
    have y3:w'.cell? ⟨X,3,none⟩=some (.int .i64 0):=hbx.cell (j:=3) rfl
    have y4:w'.cell? ⟨X,4,none⟩=some (.slice none 0 0):=hbx.cell (j:=4) rfl
    have f0:=hbx.frozen 0
    have f1:=hbx.frozen 1
    have f2:=hbx.frozen 2
    have f3:=hbx.frozen 3
    have f4:=hbx.frozen 4
    simp only [Ex.val,Ex.k,Ex.ra,Ex.nm,Ex.d]
    go_simp
    exact hK _ _ ⟨_,_,_,_,_,rfl,h.u5 hall hX hbx gS hbs⟩
  ·rintro L a w' ⟨v7,v8,v9,v10,v2,rfl,h⟩ hLL
   obtain ⟨X,S,rfl,hX,gS,hS,hBX⟩:=h.f5 (hLL 5 (by decide))
   have hF:w.heap.size < X∧Hid (TwG w.heap.size w' X xMax (.slice (some ⟨S,0,none⟩) 2 2))∧Hid (Below w.heap.size w w')∧Hid (BoxN w' w.heap.size 25 [.int .u8 0,.string ⟨#[]⟩,.string ⟨#[]⟩,.int .i64 0,.slice none 0 0]):=⟨by omega,Lib.hid (HT.out.next (by decide) h.bw hS (by omega) hBX (by omega)),Lib.hid (HW.out.trans (h.bw.mono HW.out.size)),Lib.hid (HZ3.out.below h.bw HZ3.out.lt)⟩
   have HF:=Lib.hid hF
   clear hF h hLL hS hBX hX
   go_wp2
   go_meet
   exact ⟨X,S,rfl,HF.out⟩
 case rest =>
  obtain ⟨B,S,rfl,hB,HT,HW,HZ3⟩:=hcut
  clear T1 HZ1 hbw1 c0 c1 c2 c3 c4 hz1 hz
  have hzw:w.heap.size < wc.heap.size:=HZ3.out.lt
  go_wp2_with fail
  refine wp_region_inv (fun L a w' => ∃ v7 v8 v9 v10,a=⟨#[.pointer (some ⟨w.heap.size,0,none⟩),.pointer (some ⟨S1+1,0,none⟩),.pointer (some ⟨B,0,none⟩),.agg #[.int .u8 3,.string ⟨#[]⟩,.string mSpot,.int .i64 0,.slice none 0 0],.agg #[.int .u8 1,.string m3,.string ⟨#[]⟩,.int .i64 0,.slice none 0 0],.slice (some ⟨S1,0,none⟩) 2 2,.agg #[.int .u8 5,.string ⟨#[]⟩,.string ⟨#[]⟩,.int .i64 0,.slice (some ⟨S1,0,none⟩) 2 2],u7,u8,u9,u10,v7,v8,v9,v10],[]⟩∧TqJ wc w.heap.size xMax (.slice (some ⟨S,0,none⟩) 2 2) 6 m2 L v7 v8 v9 v10 w') (by kernel_rfl) (by kernel_rfl) ?_ ?_ ?_
  ·exact ⟨_,_,_,_,rfl,TqJ.start (Below.refl _ _).drew⟩
  ·rintro L a w' ⟨v7,v8,v9,v10,rfl,h⟩ i o ho hL hp
   have hi:i < 5:=by simpa using (Array.getElem?_eq_some_iff.1 ho).1
   have hi2:i=0∨i=1∨i=2∨i=3∨i=4:=by omega
   clear hi
   rcases hi2 with rfl | rfl | rfl | rfl | rfl
   ·refine wpOp_step rfl ?_
    intro K hK
    have hq:=(HT.out _ (Kp.of (h.bw (h.open4 (by decide) hL)))).b
    have c0:w'.cell? ⟨B,0,none⟩=some (.int .u8 7):=hq.cell (j:=0) rfl
    have c1:w'.cell? ⟨B,1,none⟩=some (.string ⟨#[]⟩):=hq.cell (j:=1) rfl
    have c2:w'.cell? ⟨B,2,none⟩=some (.string ⟨#[]⟩):=hq.cell (j:=2) rfl
    have c3:w'.cell? ⟨B,3,none⟩=some (.int .i64 0):=hq.cell (j:=3) rfl
    have c4:w'.cell? ⟨B,4,none⟩=some (.slice (some ⟨S,0,none⟩) 2 2):=hq.cell (j:=4) rfl
    go_simp
    exact hK _ _ ⟨_,_,_,_,rfl,h.u0 hL⟩
   ·refine wpOp_step rfl ?_
    intro K hK
    have h4:=h.open4 (by decide) hL
    go_simp
    refine (HC.out m2 _).mono ?_
    rintro e w4 ⟨rfl,hb4⟩
    exact hK _ _ ⟨_,_,_,_,rfl,(h.ext h4 hb4).u1 hL⟩
   ·refine wpOp_step rfl ?_
    intro K hK
    have h4:=h.open4 (by decide) hL
    obtain rfl:=h.f0 (pred_spec ho hp (j:=0) (by kernel_rfl))
    obtain rfl:=h.f1 (pred_spec ho hp (j:=1) (by kernel_rfl))
    simp only [Ex.val]
    go_simp
    exact hK _ _ ⟨_,_,_,_,rfl,(h.ext h4 (below_a1 _ _)).u2 hL (h.bw h4).size (BoxN.new _ _ _)⟩
   ·refine wpOp_step rfl ?_
    intro K hK
    have p2:=pred_spec ho hp (j:=2) (by kernel_rfl)
    obtain ⟨S',rfl,_,_⟩:=h.f2 p2 (h.open4 (by decide) hL)
    go_simp
    exact hK _ _ ⟨_,_,_,_,rfl,h.u3 hL p2⟩
   ·refine wpOp_step rfl ?_
    intro K hK
    have p2:=pred_spec ho hp (j:=2) (by kernel_rfl)
    obtain rfl:=h.f3 (pred_spec ho hp (j:=3) (by kernel_rfl)) hL
    obtain ⟨S',rfl,gS,hbs⟩:=h.f2 p2 hL
    have hall:∀ i,i < 4→L i=true:=fun i hi => by
     have hi2:i=0∨i=1∨i=2∨i=3:=by omega
     rcases hi2 with rfl | rfl | rfl | rfl
     all_goals exact pred_spec ho hp (by kernel_rfl)
    have hbx:=HZ3.out.below (h.bw hL) HZ3.out.lt
    have y0:w'.cell? ⟨w.heap.size,0,none⟩=some (.int .u8 0):=hbx.cell (j:=0) rfl
    have y1:w'.cell? ⟨w.heap.size,1,none⟩=some (.string ⟨#[]⟩):=hbx.cell (j:=1) rfl
    have y2:w'.cell? ⟨w.heap.size,2,none⟩=some (.string ⟨#[]⟩):=hbx.cell (j:=2) rfl
    have y3:w'.cell? ⟨w.heap.size,3,none⟩=some (.int .i64 0):=hbx.cell (j:=3) rfl
    have y4:w'.cell? ⟨w.heap.size,4,none⟩=some (.slice none 0 0):=hbx.cell (j:=4) rfl
    have f0:=hbx.frozen 0
    have f1:=hbx.frozen 1
    have f2:=hbx.frozen 2
    have f3:=hbx.frozen 3
    have f4:=hbx.frozen 4
    simp only [Ex.val,Ex.k,Ex.ra,Ex.nm,Ex.d]
    go_simp
    exact hK _ _ ⟨_,_,_,_,rfl,h.u4 hL hall gS hbs⟩
  ·rintro L a w' ⟨v7,v8,v9,v10,rfl,h⟩ hLL
   obtain ⟨S',w5,hb5,gS,hS,rfl⟩:=h.f5 (hLL 4 (by decide))
   have hz5:=HZ3.out.below hb5 HZ3.out.lt
   have hk:Kp w.heap.size w5 (((((w5.setCell ⟨w.heap.size,0,none⟩ (.int .u8 6)).setCell ⟨w.heap.size,1,none⟩ (.string ⟨#[]⟩)).setCell ⟨w.heap.size,2,none⟩ (.string ⟨#[]⟩)).setCell ⟨w.heap.size,3,none⟩ (.int .i64 0)).setCell ⟨w.heap.size,4,none⟩ (.slice (some ⟨S',0,none⟩) 2 2)):=((((Kp.set _ _ _).trans (Kp.set _ _ _)).trans (Kp.set _ _ _)).trans (Kp.set _ _ _)).trans (Kp.set _ _ _)
   have hR:=rdE_two (s1:=.slice (some ⟨S,0,none⟩) 2 2) (s2:=.slice none 0 0) (x:=xMax) (y:=xCon m2) (cap:=2) (by decide) (by decide) (fun _ _ e => (hS.kp hk (by omega)).cell e) (HT.out _ ((Kp.of hb5).trans hk)).r (rdE_nil _)
   have hb:=(((((HW.out.trans (hb5.mono HW.out.size)).setCell (p:=⟨w.heap.size,0,none⟩) (Nat.le_refl _) (.int .u8 6)).setCell (p:=⟨w.heap.size,1,none⟩) (Nat.le_refl _) (.string ⟨#[]⟩)).setCell (p:=⟨w.heap.size,2,none⟩) (Nat.le_refl _) (.string ⟨#[]⟩)).setCell (p:=⟨w.heap.size,3,none⟩) (Nat.le_refl _) (.int .i64 0)).setCell (p:=⟨w.heap.size,4,none⟩) (Nat.le_refl _) (.slice (some ⟨S',0,none⟩) 2 2)
   have hZ:=((((hz5.set 0 (.int .u8 6)).set 1 (.string ⟨#[]⟩)).set 2 (.string ⟨#[]⟩)).set 3 (.int .i64 0)).set 4 (.slice (some ⟨S',0,none⟩) 2 2)
   generalize ((((w5.setCell ⟨w.heap.size,0,none⟩ (.int .u8 6)).setCell ⟨w.heap.size,1,none⟩ (.string ⟨#[]⟩)).setCell ⟨w.heap.size,2,none⟩ (.string ⟨#[]⟩)).setCell ⟨w.heap.size,3,none⟩ (.int .i64 0)).setCell ⟨w.heap.size,4,none⟩ (.slice (some ⟨S',0,none⟩) 2 2)=W9 at hR hb hZ ⊢
   have y0:W9.cell? ⟨w.heap.size,0,none⟩=some (.int .u8 6):=hZ.cell (j:=0) rfl
   have y1:W9.cell? ⟨w.heap.size,1,none⟩=some (.string ⟨#[]⟩):=hZ.cell (j:=1) rfl
   have y2:W9.cell? ⟨w.heap.size,2,none⟩=some (.string ⟨#[]⟩):=hZ.cell (j:=2) rfl
   have y3:W9.cell? ⟨w.heap.size,3,none⟩=some (.int .i64 0):=hZ.cell (j:=3) rfl
   have y4:W9.cell? ⟨w.heap.size,4,none⟩=some (.slice (some ⟨S',0,none⟩) 2 2):=hZ.cell (j:=4) rfl
   have HF:=Lib.hid (And.intro hR hb)
   clear hR hb hk hS h hLL hz5 hZ
   go_wp2
   refine bodyPost_ret (v:=.agg #[.int .u8 6,.string ⟨#[]⟩,.string ⟨#[]⟩,.int .i64 0,.slice (some ⟨S',0,none⟩) 2 2]) (by simp [results,Tryz.results30,go_sem,y0,y1,y2,y3,y4]) rfl ?_
   exact ⟨_,rfl,HF.out.1,HF.out.2⟩
end Go.Proofs.YtcnpaciljmekcaaGreatDoor

namespace Go.Proofs.YtcnpaciljmekcaaGreatDoor
open Go.RowKit
def flP:Fl:=⟨5,mAnn,mBob,mUSD,m1⟩
def flS:Fl:=⟨5,mBob,mAnn,mUSD,m3⟩
theorem known_small:∀ f ∈ fKnown,f.small:=by
 intro f hf
 simp [fKnown] at hf
 rcases hf with rfl | rfl <;> exact ⟨by decide,by decide⟩
theorem flows_al1 (B K:Nat) (W:World) (hr:RdE W [xMax,xCon m2] (.slice (some ⟨B,0,none⟩) 2 2)) (hk:Rd Fx.cells 3 W (some ⟨K,0,none⟩) fKnown) (hl:Lk W) :
  Calls Tryz.prog 9 #[.agg #[.int .u8 2,.string ⟨#[65,110,110]⟩,.string ⟨#[66,111,98]⟩,.string ⟨#[85,83,68]⟩,.int .u8 6,.string ⟨#[]⟩,.string ⟨#[]⟩,.int .i64 0,.slice (some ⟨B,0,none⟩) 2 2,.int .i64 0,.slice none 0 0,.slice none 0 0],.int .i64 5,.agg #[.slice (some ⟨K,0,none⟩) 2 2,.slice none 0 0]] W
   fun e w' => ∃ ad cap,e = .returned (.tuple #[.slice ad 1 cap,.int .i64 0])∧Below W.heap.size W w'∧Rd Fl.cells 5 w' ad [flP]:=by
 have h:=mflows_any cPay (.slice (some ⟨B,0,none⟩) 2 2) (.slice none 0 0) (.slice none 0 0) 5 ⟨fKnown,[],some ⟨K,0,none⟩,none,2,0⟩ W
  ⟨by decide,⟨hr,rdI_nil _,rdC_nil _,by decide,by decide⟩,hl.s,hl.p,hl.o,⟨hk,fun j x h => (by simp at h),(by show fKnown.length≤1100000;decide),Nat.zero_le _⟩,known_small,fun c h => by cases h⟩
 rw [befR_pay] at h
 refine Calls.mono (by exact h) ?_
 rintro e w' ⟨ad,cap,rfl,hb,_,_,hr2⟩
 exact ⟨ad,cap,rfl,hb,hr2⟩
theorem flows_al2 (D K:Nat) (W:World) (hr:RdC W [cPay] (.slice (some ⟨D,0,none⟩) 1 1)) (hk:Rd Fx.cells 3 W (some ⟨K,0,none⟩) fKnown) (hl:Lk W) :
  Calls Tryz.prog 9 #[.agg #[.int .u8 4,.string ⟨#[]⟩,.string ⟨#[]⟩,.string ⟨#[]⟩,.int .u8 1,.string ⟨#[45,51]⟩,.string ⟨#[]⟩,.int .i64 0,.slice none 0 0,.int .i64 0,.slice none 0 0,.slice (some ⟨D,0,none⟩) 1 1],.int .i64 5,.agg #[.slice (some ⟨K,0,none⟩) 2 2,.slice none 0 0]] W
   fun e w' => ∃ ad cap,e = .returned (.tuple #[.slice ad 1 cap,.int .i64 0])∧Below W.heap.size W w'∧Rd Fl.cells 5 w' ad [flS]:=by
 have h:=mflows_any cScale (.slice none 0 0) (.slice none 0 0) (.slice (some ⟨D,0,none⟩) 1 1) 5 ⟨fKnown,[],some ⟨K,0,none⟩,none,2,0⟩ W
  ⟨by decide,⟨rdE_nil _,rdI_nil _,hr,by decide,by decide⟩,hl.s,hl.p,hl.o,⟨hk,fun j x h => (by simp at h),(by show fKnown.length≤1100000;decide),Nat.zero_le _⟩,known_small,fun c h => by cases h⟩
 rw [befR_scale] at h
 refine Calls.mono (by exact h) ?_
 rintro e w' ⟨ad,cap,rfl,hb,_,_,hr2⟩
 exact ⟨ad,cap,rfl,hb,hr2⟩
set_option maxHeartbeats 2000000 in
set_option maxRecDepth 100000 in
theorem alive10_any (w:World) (hl:Lk w):Calls Tryz.prog 7 #[] w fun e w' => e = .returned (.bool true)∧Below w.heap.size w w':=by
 have HL:=Lib.hid hl
 have HT:=Lib.hid (fun W => twice10_any W)
 have HP:=Lib.hid (fun k r n d ad m cap W => pay10_any k r n d ad m cap W)
 have HK:=Lib.hid (fun W => known10_any W)
 have HC:=Lib.hid (fun r W => con10_any r W)
 have HF1:=Lib.hid flows_al1
 have HF2:=Lib.hid flows_al2
 have HS:Hid (∀ a b c d W,Rd Fl.cells 5 W a [flP]→Rd Fl.cells 5 W b [flP]→Calls Tryz.prog 25 #[.slice a 1 c,.slice b 1 d] W fun e w' => e = .returned (.bool true)∧Below W.heap.size W w'):=Lib.hid (fun a b c d W h1 h2 => sameFl_any [flP] a b c d W (by decide) h1 h2)
 have HS2:Hid (∀ a b c d W,Rd Fl.cells 5 W a [flS]→Rd Fl.cells 5 W b [flS]→Calls Tryz.prog 25 #[.slice a 1 c,.slice b 1 d] W fun e w' => e = .returned (.bool true)∧Below W.heap.size W w'):=Lib.hid (fun a b c d W h1 h2 => sameFl_any [flS] a b c d W (by decide) h1 h2)
 clear hl
 go_enter Tryz.func7,Tryz.ntmps7
 go_upto_region 2 with (fail)
 go_wp2_with (first | (go_at_call 30;refine (HT.out _).mono ?_;rintro e w1 ⟨B,rfl,r1,hb1⟩) | (go_at_call 29;refine (HP.out _ _ _ _ _ _ _ _).mono ?_;rintro e w2 ⟨rfl,hb2⟩;have hb02:=hb1.trans (hb2.mono hb1.size);have r2:=r1.frame hb2) | (go_at_call 31;refine (HK.out _).mono ?_;rintro e w3 ⟨K,rfl,k3,hb3⟩;have hb03:=hb02.trans (hb3.mono hb02.size);have r3:=r2.frame hb3) | (go_at_call 9;refine (HF1.out B K _ r3 k3 (HL.out.frame hb03)).mono ?_;rintro e w4 ⟨ad4,cap4,rfl,hb4,fl4⟩;have hb04:=hb03.trans (hb4.mono hb03.size)))
 have HF4:=Lib.hid fl4
 have Hb4:=Lib.hid hb04
 clear fl4 hb04 hb03 hb02 hb1 hb2 hb3 hb4 r1 r2 r3 k3 HF1
 go_upto_region 3 with (fail)
 go_wp2_with (first | (go_at_call 32;refine (HC.out mM3 _).mono ?_;rintro e w5 ⟨rfl,hb5⟩) | (go_at_call 30;refine (HT.out _).mono ?_;rintro e w6 ⟨B2,rfl,r6,hb6⟩) | (go_at_call 29;refine (HP.out _ _ _ _ _ _ _ _).mono ?_;rintro e w7 ⟨rfl,hb7⟩;have hb47:Below w4.heap.size w4 w7:=hb5.trans ((hb6.trans (hb7.mono hb6.size)).mono hb5.size);have hD:=rdC_one (cap:=1) (B:=w7.heap.size) (fun i u h => cell_new w7 (cPay.cells (.slice (some ⟨B2,0,none⟩) 2 2) (.slice none 0 0) (.slice none 0 0)) 29 h) ⟨(r6.frame hb7).frame (below_a1 w7 _),rdI_nil _,rdC_nil _,by decide,by decide⟩;have hb48:=hb47.trans ((below_a1 w7 (.cells (cPay.cells (.slice (some ⟨B2,0,none⟩) 2 2) (.slice none 0 0) (.slice none 0 0)).toArray 29)).mono hb47.size)) | (go_at_call 31;refine (HK.out _).mono ?_;rintro e w8 ⟨K2,rfl,k8,hb8⟩;have hb49:Below w4.heap.size w4 w8:=hb48.trans (hb8.mono hb48.size);have D8:=hD.frame hb8) | (go_at_call 9;refine (HF2.out w7.heap.size K2 _ D8 k8 (HL.out.frame (Hb4.out.trans (hb49.mono Hb4.out.size)))).mono ?_;rintro e w9 ⟨ad9,cap9,rfl,hb9,fl9⟩;have hb410:=hb49.trans (hb9.mono hb49.size)))
 have q1:Rd Fl.cells 5 (w9.alloc (.cells #[.int .i64 5,.string ⟨#[65,110,110]⟩,.string ⟨#[66,111,98]⟩,.string ⟨#[85,83,68]⟩,.string ⟨#[49]⟩] 46)) (some ⟨w9.heap.size,0,none⟩) [flP]:=(own_rd (own_fl1 w9 flP w9.heap.size (Nat.le_refl _))).1
 have hb11:=hb410.trans ((below_a1 w9 (.cells #[.int .i64 5,.string ⟨#[65,110,110]⟩,.string ⟨#[66,111,98]⟩,.string ⟨#[85,83,68]⟩,.string ⟨#[49]⟩] 46)).mono hb410.size)
 refine (HS.out ad4 _ cap4 1 _ (HF4.out.below hb11) q1).mono ?_
 rintro e w10 ⟨rfl,hb12⟩
 have hb13:=hb11.trans (hb12.mono hb11.size)
 have fl10:=(fl9.below (below_a1 w9 (.cells #[.int .i64 5,.string ⟨#[65,110,110]⟩,.string ⟨#[66,111,98]⟩,.string ⟨#[85,83,68]⟩,.string ⟨#[49]⟩] 46))).below hb12
 have HFl:=Lib.hid fl10
 have Hb13:=Lib.hid hb13
 clear fl10 hb13 hb11 hb12 q1 fl9 hb410 hb9 D8 hb49 hb8 k8 hb48 hD hb47 hb7 hb6 r6 hb5
 go_wp2_with fail
 have q2:Rd Fl.cells 5 (w10.alloc (.cells #[.int .i64 5,.string ⟨#[66,111,98]⟩,.string ⟨#[65,110,110]⟩,.string ⟨#[85,83,68]⟩,.string ⟨#[51]⟩] 46)) (some ⟨w10.heap.size,0,none⟩) [flS]:=(own_rd (own_fl1 w10 flS w10.heap.size (Nat.le_refl _))).1
 have hb14:=below_a1 w10 (.cells #[.int .i64 5,.string ⟨#[66,111,98]⟩,.string ⟨#[65,110,110]⟩,.string ⟨#[85,83,68]⟩,.string ⟨#[51]⟩] 46)
 refine (HS2.out ad9 _ cap9 1 _ (HFl.out.below hb14) q2).mono ?_
 rintro e w11 ⟨rfl,hb15⟩
 have hbE:Below w.heap.size w w11:=Hb4.out.trans ((Hb13.out.trans ((hb14.trans (hb15.mono hb14.size)).mono Hb13.out.size)).mono Hb4.out.size)
 have HbE:=Lib.hid hbE
 clear hbE hb14 hb15 q2
 go_wp2
 go_ret
 exact ⟨rfl,HbE.out⟩
end Go.Proofs.YtcnpaciljmekcaaGreatDoor

namespace Go.Proofs.YtcnpaciljmekcaaGreatDoor
open Go.RowKit
set_option maxHeartbeats 2000000 in
set_option maxRecDepth 100000 in
theorem great10_any (x:Con) (es dd ss:Value) (E:EvD) (w:World) (hB:x.bulk≤2000000) (hs:RdN w x es dd ss) (hE:E.Rd w) (hf:∀ f ∈ E.F,f.small) (hc:∀ c ∈ E.C,c.small) :
  Calls Tryz.prog 8 #[x.val es dd ss,E.val] w (BoolPost w):=by
 obtain ⟨ad,cap,rfl⟩:=hs.2.2.1.len
 obtain ⟨ad1,cap1,rfl⟩:=hs.1.len
 obtain ⟨ad2,cap2,rfl⟩:=hs.2.1.len
 obtain ⟨W0,hW0,hb0,hz0,bx⟩:=bx2_world w x (.slice ad1 x.ex.sub.length cap1) (.slice ad2 x.ds.length cap2) (.slice ad x.sub.length cap) E
 have HG:Hid (∀ W,Below W0.heap.size W0 W→Calls Tryz.prog 18 #[.agg #[.int .u8 x.k,.string x.fr,.string x.rc,.string x.nm,.int .u8 x.ex.k,.string x.ex.ra,.string x.ex.nm,.int .i64 x.ex.d,.slice ad1 x.ex.sub.length cap1,.int .i64 x.d,.slice ad2 x.ds.length cap2,.slice ad x.sub.length cap]] W (BoolPost W)):=Lib.hid fun W hb => cgreat_any x _ _ _ W hB ((hs.frame hb0).frame hb)
 have HE:Hid (∀ W,Below W0.heap.size W0 W→Calls Tryz.prog 19 #[.agg #[.slice E.af E.F.length E.cf,.slice E.ac E.C.length E.cc]] W (BoolPost W)):=Lib.hid fun W hb => (great_any E.F E.C E.af E.ac E.cf E.cc W hE.nf hE.nc ((hE.frame hb0).frame hb).f ((hE.frame hb0).frame hb).c hf hc).mono fun e w' h => .mk _ h.1 h.2
 have HH:Hid (∀ W,Below W0.heap.size W0 W→Calls Tryz.prog 20 #[.agg #[.int .u8 x.k,.string x.fr,.string x.rc,.string x.nm,.int .u8 x.ex.k,.string x.ex.ra,.string x.ex.nm,.int .i64 x.ex.d,.slice ad1 x.ex.sub.length cap1,.int .i64 x.d,.slice ad2 x.ds.length cap2,.slice ad x.sub.length cap],.agg #[.slice E.af E.F.length E.cf,.slice E.ac E.C.length E.cc]] W (BoolPost W)):=Lib.hid fun W hb => heavy_any x _ _ _ E W hB ((hs.frame hb0).frame hb) ((hE.frame hb0).frame hb)
 have c0:W0.cell? ⟨w.heap.size,0,none⟩=some (.int .u8 x.k):=bx.c.cell (j:=0) rfl
 have c1:W0.cell? ⟨w.heap.size,1,none⟩=some (.string x.fr):=bx.c.cell (j:=1) rfl
 have c2:W0.cell? ⟨w.heap.size,2,none⟩=some (.string x.rc):=bx.c.cell (j:=2) rfl
 have c3:W0.cell? ⟨w.heap.size,3,none⟩=some (.string x.nm):=bx.c.cell (j:=3) rfl
 have c4:W0.cell? ⟨w.heap.size,4,none⟩=some (.int .u8 x.ex.k):=bx.c.cell (j:=4) rfl
 have c5:W0.cell? ⟨w.heap.size,5,none⟩=some (.string x.ex.ra):=bx.c.cell (j:=5) rfl
 have c6:W0.cell? ⟨w.heap.size,6,none⟩=some (.string x.ex.nm):=bx.c.cell (j:=6) rfl
 have c7:W0.cell? ⟨w.heap.size,7,none⟩=some (.int .i64 x.ex.d):=bx.c.cell (j:=7) rfl
 have c8:W0.cell? ⟨w.heap.size,8,none⟩=some (.slice ad1 x.ex.sub.length cap1):=bx.c.cell (j:=8) rfl
 have c9:W0.cell? ⟨w.heap.size,9,none⟩=some (.int .i64 x.d):=bx.c.cell (j:=9) rfl
 have c10:W0.cell? ⟨w.heap.size,10,none⟩=some (.slice ad2 x.ds.length cap2):=bx.c.cell (j:=10) rfl
 have c11:W0.cell? ⟨w.heap.size,11,none⟩=some (.slice ad x.sub.length cap):=bx.c.cell (j:=11) rfl
 have HB:=Lib.hid bx
 have Hb0:=Lib.hid hb0
 clear hs bx hE hb0 hf hc
 show Calls _ _ #[.agg #[.int .u8 x.k,.string x.fr,.string x.rc,.string x.nm,.int .u8 x.ex.k,.string x.ex.ra,.string x.ex.nm,.int .i64 x.ex.d,.slice ad1 x.ex.sub.length cap1,.int .i64 x.d,.slice ad2 x.ds.length cap2,.slice ad x.sub.length cap],.agg #[.slice E.af E.F.length E.cf,.slice E.ac E.C.length E.cc]] _ _
 go_enter Tryz.func8,Tryz.ntmps8
 go_upto_region 1 with (fail)
 clear hW0
 go_wp2_with (first | (go_at_call 18;refine (HG.out _ (Below.refl _ _)).mono ?_;rintro e w1 ⟨⟨b1,rfl⟩,hb1⟩;have hB1:=HB.out.below hb1;have pv0:w1.cell? ⟨w.heap.size+1,0,none⟩=some (.slice E.af E.F.length E.cf):=hB1.v.cell (j:=0) rfl;have pv1:w1.cell? ⟨w.heap.size+1,1,none⟩=some (.slice E.ac E.C.length E.cc):=hB1.v.cell (j:=1) rfl;have hbA:=Hb0.out.trans (hb1.mono Hb0.out.size);cases b1) | (go_at_call 19;refine (HE.out _ hb1).mono ?_;rintro e w2 ⟨⟨b2,rfl⟩,hb2⟩;have hB2:=hB1.below hb2;have qv0:w2.cell? ⟨w.heap.size+1,0,none⟩=some (.slice E.af E.F.length E.cf):=hB2.v.cell (j:=0) rfl;have qv1:w2.cell? ⟨w.heap.size+1,1,none⟩=some (.slice E.ac E.C.length E.cc):=hB2.v.cell (j:=1) rfl;have k0:w2.cell? ⟨w.heap.size,0,none⟩=some (.int .u8 x.k):=hB2.c.cell (j:=0) rfl;have k1:w2.cell? ⟨w.heap.size,1,none⟩=some (.string x.fr):=hB2.c.cell (j:=1) rfl;have k2:w2.cell? ⟨w.heap.size,2,none⟩=some (.string x.rc):=hB2.c.cell (j:=2) rfl;have k3:w2.cell? ⟨w.heap.size,3,none⟩=some (.string x.nm):=hB2.c.cell (j:=3) rfl;have k4:w2.cell? ⟨w.heap.size,4,none⟩=some (.int .u8 x.ex.k):=hB2.c.cell (j:=4) rfl;have k5:w2.cell? ⟨w.heap.size,5,none⟩=some (.string x.ex.ra):=hB2.c.cell (j:=5) rfl;have k6:w2.cell? ⟨w.heap.size,6,none⟩=some (.string x.ex.nm):=hB2.c.cell (j:=6) rfl;have k7:w2.cell? ⟨w.heap.size,7,none⟩=some (.int .i64 x.ex.d):=hB2.c.cell (j:=7) rfl;have k8:w2.cell? ⟨w.heap.size,8,none⟩=some (.slice ad1 x.ex.sub.length cap1):=hB2.c.cell (j:=8) rfl;have k9:w2.cell? ⟨w.heap.size,9,none⟩=some (.int .i64 x.d):=hB2.c.cell (j:=9) rfl;have k10:w2.cell? ⟨w.heap.size,10,none⟩=some (.slice ad2 x.ds.length cap2):=hB2.c.cell (j:=10) rfl;have k11:w2.cell? ⟨w.heap.size,11,none⟩=some (.slice ad x.sub.length cap):=hB2.c.cell (j:=11) rfl;have hb12:=hb1.trans (hb2.mono hb1.size);have hbB:=hbA.trans (hb2.mono hbA.size);cases b2) | (go_at_call 20;refine (HH.out _ hb12).mono ?_;rintro e w3 ⟨⟨b3,rfl⟩,hb3⟩;have hbC:=hbB.trans (hb3.mono hbB.size)))
 all_goals
  go_ret
  first | exact .mk _ rfl hbC | exact .mk _ rfl hbB | exact .mk _ rfl hbA
end Go.Proofs.YtcnpaciljmekcaaGreatDoor

namespace Go.Proofs.YtcnpaciljmekcaaGreatDoor
open Go.RowKit
theorem slash_not {l:List UInt8} (h:∀ k:Nat,l[k]? ≠ some 47):slashI (mkB l) = -1:=by
 rcases slash_cases (mkB l) with k | ⟨o,k,_⟩
 ·exact k
 ·have:=(slash_some k).1
  rw [bl_mkB] at this
  exact absurd this (h o)
theorem slash_is {l m:List UInt8} (h:∀ k:Nat,l[k]? ≠ some 47):slashI (mkB (l ++ [47] ++ m))=l.length:=by
 have hl:(l ++ [47] ++ m)[l.length]? = some 47:=by
  rw [List.append_assoc,List.getElem?_append_right (Nat.le_refl _)];simp
 rcases slash_cases (mkB (l ++ [47] ++ m)) with k | ⟨o,k,_⟩
 ·exact absurd (by rw [bl_mkB];exact hl) (slash_none k l.length)
 ·rw [k]
  have h2:=slash_some k
  rw [bl_mkB] at h2
  by_cases h3:o < l.length
  ·have h4:=h2.1
   rw [List.append_assoc,List.getElem?_append_left h3] at h4
   exact absurd h4 (h o)
  ·by_cases h4:l.length < o
   ·exact absurd hl (h2.2 _ h4)
   ·have:o=l.length:=by omega
    rw [this]
theorem dig_not47 {l:List UInt8} (h:l.all isDig=true) (k:Nat):l[k]? ≠ some 47:=fun e => by
 have:=List.all_eq_true.1 h 47 (List.mem_of_getElem? e)
 exact absurd this (by decide)
theorem istr_body (sg:Bool) (n:Nat):∃ d,d.all isDig=true∧(istr sg n=d∨istr sg n=45 :: d):=by
 by_cases h0:n=0
 ·subst h0;exact ⟨[48],by decide,.inl (by simp [istr])⟩
 ·rw [istr_ne sg h0]
  refine ⟨asc (dig10 n).reverse,asc_dig (Dig.rev (dig10_nrm n).1),?_⟩
  cases sg
  ·exact .inl rfl
  ·exact .inr rfl
theorem istr_not47 (sg:Bool) (n:Nat) (k:Nat):(istr sg n)[k]? ≠ some 47:=by
 obtain ⟨d,hd,h | h⟩:=istr_body sg n
 ·rw [h];exact dig_not47 hd k
 ·rw [h]
  cases k with
  | zero => simp
  | succ k => rw [List.getElem?_cons_succ];exact dig_not47 hd k
theorem ratTxt_low {sg:Bool} {N D:Nat} (h:Nat.gcd N D=1):ratTxt sg N D=if D=1 then istr sg N else istr sg N ++ [47] ++ istr false D:=by
 unfold ratTxt;rw [h,Nat.div_one,Nat.div_one]
theorem ratTxt_of (sg:Bool) (N D:Nat) (hD:0 < D):∃ N' D',ratTxt sg N D=ratTxt sg N' D'∧Nat.gcd N' D'=1∧0 < D'∧N'≤N∧D'≤D∧(N'=0 ↔ N=0):=by
 have hg:0 < Nat.gcd N D:=Nat.gcd_pos_of_pos_right _ hD
 have h1:Nat.gcd (N / Nat.gcd N D) (D / Nat.gcd N D)=1:=Nat.gcd_div_gcd_div_gcd_of_pos_right hD
 refine ⟨N / Nat.gcd N D,D / Nat.gcd N D,?_,h1,Nat.div_pos (Nat.le_of_dvd hD (Nat.gcd_dvd_right _ _)) hg,Nat.div_le_self _ _,Nat.div_le_self _ _,?_⟩
 ·rw [ratTxt_low h1];rfl
 ·constructor
  ·intro h
   have:=Nat.div_mul_cancel (Nat.gcd_dvd_left N D)
   rw [h] at this;omega
  ·rintro rfl;simp
theorem rat_txt (sg:Bool) {N D:Nat} (hN:N < ten 1000) (hD:D < ten 1000) (h0:0 < D) (hg:Nat.gcd N D=1) :
  ratErr (mkB (ratTxt sg N D))=0∧ival (bl (numS (mkB (ratTxt sg N D))))=sgnv sg N∧ival (bl (denS (mkB (ratTxt sg N D))))=D:=by
 rw [ratTxt_low hg]
 by_cases h1:D=1
 ·rw [if_pos h1]
  have hs:=slash_not (istr_not47 sg N)
  refine ⟨?_,?_,?_⟩
  ·rw [ratErr,if_pos hs,bl_mkB];exact intErr_small hN
  ·rw [numS,if_pos hs,bl_mkB,ival_istr]
  ·rw [denS,if_pos hs,h1];decide
 ·rw [if_neg h1]
  have hs:=slash_is (m:=istr false D) (istr_not47 sg N)
  have hne : ¬ ((istr sg N).length:Int) = -1:=by omega
  have e1:(istr sg N ++ [47] ++ istr false D).take (istr sg N).length=istr sg N:=by rw [List.append_assoc,List.take_left'];rfl
  have e2:(istr sg N ++ [47] ++ istr false D).drop ((istr sg N).length+1)=istr false D:=by
   rw [List.drop_left'];simp
  refine ⟨?_,?_,?_⟩
  ·rw [ratErr,hs,if_neg hne,bl_mkB]
   show fracErr (List.take (istr sg N).length _) (List.drop ((istr sg N).length+1) _)=0
   rw [e1,e2]
   have hd:(istr false D).head? ≠ some 45:=by
    have:=isNeg_istr false D
    rw [isNeg,Bool.false_and] at this
    intro k;rw [k] at this;exact absurd this (by decide)
   have h48:istr false D ≠ [48]:=by
    intro k
    have h2:=(canon_zero (canon_istr false D)).1 k
    rw [dval_istr] at h2;omega
   have h49:istr false D ≠ [49]:=fun k => h1 ((istr_one D).1 k)
   unfold fracErr
   rw [if_neg (by rw [canon_istr];decide),if_neg (by rw [canon_istr];decide),if_neg hd,if_neg h48,if_neg h49,if_neg (fun k => k (intErr_small hN)),if_neg (fun k => k (intErr_small hD)),dval_istr,dval_istr,if_pos hg]
  ·rw [numS,hs,if_neg hne]
   show ival (bl ((mkB _).extract 0 (istr sg N).length))=_
   rw [bl_extract,bl_mkB,List.drop_zero,Nat.sub_zero,e1,ival_istr]
  ·rw [denS,hs,if_neg hne]
   show ival (bl ((mkB _).extract ((istr sg N).length+1) _))=_
   rw [bl_extract,bl_mkB,e2,mkB_size,List.take_of_length_le (by simp;omega),ival_istr];rfl
theorem rat_made (sg:Bool) {N D:Nat} (hN:N < ten 1000) (hD:D < ten 1000) (h0:0 < D):ratErr (mkB (ratTxt sg N D))=0:=by
 obtain ⟨N',D',e,hg,h1,h2,h3,_⟩:=ratTxt_of sg N D h0
 rw [e]
 exact (rat_txt sg (Nat.lt_of_le_of_lt h2 hN) (Nat.lt_of_le_of_lt h3 hD) h1 hg).1
theorem int_txt {l:List UInt8} (h:intErr l=0):l=istr (isNeg l) (dval (body l))∧dval (body l) < ten 1000:=⟨(canon_text (intErr_zero h).1).symm,intErr_text h⟩
theorem rat_is {t:ByteArray} (h:ratErr t=0):∃ sg N D,t=mkB (ratTxt sg N D)∧N < ten 1000∧D < ten 1000∧0 < D∧Nat.gcd N D=1∧(sg=true→N ≠ 0):=by
 unfold ratErr at h
 have hneg:∀ {l:List UInt8},intErr l=0→isNeg l=true→dval (body l) ≠ 0:=fun hl hn => neg_nz (intErr_zero hl).1 hn
 by_cases hs:slashI t = -1
 ·rw [if_pos hs] at h
  obtain ⟨h1,h2⟩:=int_txt h
  refine ⟨isNeg (bl t),dval (body (bl t)),1,mkB_bl ?_,h2,?_,by decide,Nat.gcd_one_right _,hneg h⟩
  ·rw [ratTxt_low (Nat.gcd_one_right _),if_pos rfl];exact h1
  ·have:ten 1≤ten 1000:=ten_mono (by decide)
   exact Nat.lt_of_lt_of_le (by decide) this
 ·rw [if_neg hs] at h
  rcases slash_cases t with k | ⟨o,k,ho⟩
  ·exact absurd k hs
  rw [k] at h
  have h47:=(slash_some k).1
  have et:bl t=(bl t).take o ++ [47] ++ (bl t).drop (o+1):=by
   obtain ⟨h1,h2⟩:=List.getElem?_eq_some_iff.1 h47
   conv => lhs;rw [← List.take_append_drop o (bl t),List.drop_eq_getElem_cons h1,h2]
   simp
  have h:fracErr ((bl t).take o) ((bl t).drop (o+1))=0:=h
  generalize (bl t).take o=n at h et
  generalize (bl t).drop (o+1)=d at h et
  unfold fracErr at h
  by_cases c1:canonI n=false
  ·rw [if_pos c1] at h;cases h
  rw [if_neg c1] at h
  by_cases c2:canonI d=false
  ·rw [if_pos c2] at h;cases h
  rw [if_neg c2] at h
  by_cases c3:d.head? = some 45
  ·rw [if_pos c3] at h;cases h
  rw [if_neg c3] at h
  by_cases c4:d=[48]
  ·rw [if_pos c4] at h;cases h
  rw [if_neg c4] at h
  by_cases c5:d=[49]
  ·rw [if_pos c5] at h;cases h
  rw [if_neg c5] at h
  by_cases c6:intErr n ≠ 0
  ·rw [if_pos c6] at h;cases h
  rw [if_neg c6] at h
  by_cases c7:intErr d ≠ 0
  ·rw [if_pos c7] at h;cases h
  rw [if_neg c7] at h
  by_cases c8:Nat.gcd (dval (body n)) (dval (body d))=1
  ·have k6:intErr n=0:=Decidable.not_not.1 c6
   have k7:intErr d=0:=Decidable.not_not.1 c7
   obtain ⟨n1,n2⟩:=int_txt k6
   obtain ⟨d1,d2⟩:=int_txt k7
   have hd:isNeg d=false:=by rw [isNeg];simpa using c3
   rw [hd] at d1
   have e1:dval (body d) ≠ 1:=fun e => c5 (by rw [d1,e];rfl)
   have e0:dval (body d) ≠ 0:=fun e => c4 ((canon_zero (intErr_zero k7).1).2 e)
   refine ⟨isNeg n,dval (body n),dval (body d),mkB_bl ?_,n2,d2,by omega,c8,hneg k6⟩
   rw [ratTxt_low c8,if_neg e1,et,← n1,← d1]
  ·rw [if_neg c8] at h;cases h
theorem ratTxt_neg (sg:Bool) {N D:Nat} (hD:0 < D):isNeg (ratTxt sg N D)=(sg && decide (N ≠ 0)):=by
 obtain ⟨N',D',e,hg,h1,h2,h3,h4⟩:=ratTxt_of sg N D hD
 have hz:decide (N ≠ 0)=decide (N' ≠ 0):=by rw [decide_eq_decide];exact ⟨fun k q => k (h4.1 q),fun k q => k (h4.2 q)⟩
 rw [e,hz,ratTxt_low hg,← isNeg_istr]
 split
 ·rfl
 ·have hl:=istr_pos sg N'
  cases hi:istr sg N' with
  | nil => rw [hi] at hl;exact absurd hl (by decide)
  | cons c l => rfl
theorem ratTxt_nil (sg:Bool) {N D:Nat} (hD:0 < D):ratTxt sg N D=[48] ↔ N=0:=by
 constructor
 ·intro h
  obtain ⟨N',D',e,hg,h1,h2,h3,h4⟩:=ratTxt_of sg N D hD
  rw [e,ratTxt_low hg] at h
  refine h4.1 ?_
  split at h
  ·have:=(canon_zero (canon_istr sg N')).1 h
   rwa [dval_istr] at this
  ·have hl:=istr_pos sg N'
   have:=congrArg List.length h
   simp at this
   omega
 ·rintro rfl
  unfold ratTxt
  rw [Nat.gcd_zero_left,Nat.div_self hD,if_pos rfl,Nat.zero_div];rfl
theorem ratTxt_drop {N D:Nat} (hD:0 < D) (hN:N ≠ 0):(ratTxt true N D).drop 1=ratTxt false N D:=by
 have key:∀ n,n ≠ 0→istr true n=45 :: istr false n:=fun n hn => by rw [istr_ne _ hn,istr_ne _ hn];rfl
 obtain ⟨N',D',e,hg,h1,h2,h3,h4⟩:=ratTxt_of true N D hD
 have e':ratTxt false N D=ratTxt false N' D':=by
  have hgn:Nat.gcd N D=Nat.gcd N D:=rfl
  unfold ratTxt at e ⊢
  rw [hg,Nat.div_one,Nat.div_one] at e ⊢
  have hN0:N / Nat.gcd N D ≠ 0:=by
   have:=Nat.div_mul_cancel (Nat.gcd_dvd_left N D)
   intro k;rw [k] at this;omega
  have hN':N' ≠ 0:=fun k => hN (h4.1 k)
  rw [key _ hN0,key _ hN'] at e
  by_cases a1:D / Nat.gcd N D=1
  ·by_cases a2:D'=1
   ·rw [if_pos a1,if_pos a2] at e ⊢;exact List.cons.inj e |>.2
   ·rw [if_pos a1,if_neg a2] at e;rw [if_pos a1,if_neg a2];exact (List.cons.inj e).2
  ·by_cases a2:D'=1
   ·rw [if_neg a1,if_pos a2] at e;rw [if_neg a1,if_pos a2];exact (List.cons.inj e).2
   ·rw [if_neg a1,if_neg a2] at e ⊢;exact (List.cons.inj e).2
 rw [e,e',ratTxt_low hg,ratTxt_low hg,key N' (fun k => hN (h4.1 k))]
 split <;> rfl
theorem zpos_lt {z:Int} (h:zErr z=0) (hz:0 < z):z.natAbs < ten 1000∧0 < z.natAbs:=⟨zErr_lt h,by omega⟩
theorem sumS_rat {a b:ByteArray} {z:Int} (h:sumE a b z=0):ratErr (mkB (sumS a b z))=0:=by
 rw [sumS,if_pos h]
 unfold sumE at h
 by_cases hb:bE a b ≠ 0
 ·rw [if_pos hb] at h;exact absurd h hb
 ·rw [if_neg hb] at h
  obtain ⟨ra,rb,_,_,_,ea,_,eb⟩:=bE_zero (Decidable.not_not.1 hb)
  split at h
  ·cases h
  ·rename_i h2
   have h3:zErr z=0:=Decidable.not_not.1 fun k => h2 (.inr (.inr (.inl k)))
   have h4:zErr (ival (bl (pD a)) * ival (bl (pD b)))=0:=Decidable.not_not.1 fun k => h2 (.inr (.inr (.inr k)))
   have hp:0 < ival (bl (pD a)) * ival (bl (pD b)):=by rw [ea,eb];exact Int.mul_pos (ival_den ra) (ival_den rb)
   obtain ⟨h5,h6⟩:=zpos_lt h4 hp
   exact rat_made _ (zErr_lt h3) h5 h6
theorem mulE_parts {a b:ByteArray} (h:mulE a b=0):ratErr a=0∧ratErr b=0∧zErr (ival (bl (numS a)) * ival (bl (numS b)))=0∧zErr (ival (bl (denS a)) * ival (bl (denS b)))=0 ∧
  mulS a b=ratTxt (decide (ival (bl (numS a)) * ival (bl (numS b)) < 0)) (ival (bl (numS a)) * ival (bl (numS b))).natAbs (ival (bl (denS a)) * ival (bl (denS b))).natAbs∧0 < ival (bl (denS a)) * ival (bl (denS b)):=by
 have h0:=h
 unfold mulE frE at h
 by_cases hb:bE a b ≠ 0
 ·rw [if_pos hb] at h;exact absurd h hb
 ·rw [if_neg hb] at h
  obtain ⟨ra,rb,_,_,na,ea,nb,eb⟩:=bE_zero (Decidable.not_not.1 hb)
  split at h
  ·cases h
  ·rename_i h2
   have h3:=Decidable.not_not.1 fun k => h2 (.inl k)
   have h4:=Decidable.not_not.1 fun k => h2 (.inr k)
   have hp:0 < ival (bl (denS a)) * ival (bl (denS b)):=Int.mul_pos (ival_den ra) (ival_den rb)
   rw [na,nb] at h3
   rw [ea,eb] at h4
   refine ⟨ra,rb,h3,h4,?_,hp⟩
   unfold mulE at h0
   rw [mulS,frS,if_pos h0,na,nb,ea,eb,decide_eq_false (show ¬ ival (bl (denS a)) * ival (bl (denS b)) < 0 by omega)]
   congr 1
   cases decide (ival (bl (numS a)) * ival (bl (numS b)) < 0) <;> rfl
theorem mulS_rat {a b:ByteArray} (h:mulE a b=0):ratErr (mkB (mulS a b))=0:=by
 obtain ⟨_,_,h3,h4,e,hp⟩:=mulE_parts h
 rw [e]
 obtain ⟨h5,h6⟩:=zpos_lt h4 hp
 exact rat_made _ (zErr_lt h3) h5 h6
theorem op2_rat {k:Nat} {a b:ByteArray} (ha:ratErr a=0) (hb:ratErr b=0) (h:(op2 k a b).1=0):ratErr (op2 k a b).2=0:=by
 unfold op2 at h ⊢
 by_cases h4:k=4
 ·rw [if_pos h4] at h ⊢;exact sumS_rat h
 rw [if_neg h4] at h ⊢
 by_cases h5:k=5
 ·rw [if_pos h5] at h ⊢;exact sumS_rat h
 rw [if_neg h5] at h ⊢
 by_cases h6:k=6
 ·rw [if_pos h6] at h ⊢;exact mulS_rat h
 rw [if_neg h6]
 by_cases h7:k=7
 ·rw [if_pos h7]
  show ratErr (if cmpV a b < 0 then b else a)=0
  split <;> assumption
 ·rw [if_neg h7]
  show ratErr (if cmpV b a < 0 then b else a)=0
  split <;> assumption
theorem value_rat {F:List Fx} (hF:∀ f ∈ F,ratErr f.vl=0) (day:Int):∀ (N:Nat) (x:Ex),x.bulk≤N→x.sort=1→(x.value F day).1=0→ratErr (x.value F day).2=0
 | 0,x,hN,_,_ => by have:=x.sub_lt;omega
 | N+1,.mk k ra nm d l,hN,hs,h0 => by
  have IH:∀ y ∈ l,y.sort=1→(y.value F day).1=0→ratErr (y.value F day).2=0:=fun y hy => value_rat hF day N y (by have:=Ex.mem_lt (x:=.mk k ra nm d l) hy;omega)
  have fk:∀ nm d,(fixR F nm d).1=0→ratErr (fixR F nm d).2=0:=fun nm d h => by
   rw [fixR_eq] at h ⊢
   cases hf:F.find? (fxIs ⟨nm,d,⟨#[]⟩⟩) with
   | none => rw [hf] at h;cases h
   | some f => exact hF f (List.mem_of_find?_eq_some hf)
  rcases num_cases hs with ⟨rfl,rfl,h3⟩ | ⟨rfl,rfl⟩ | ⟨rfl,rfl⟩ | ⟨rfl,p,y,z,rfl,h1,h2,h3⟩ | ⟨h4,h8,y,z,rfl,h1,h2⟩
  ·have e:(Ex.mk 1 ra nm d []).value F day=(0,ra):=by simp [Ex.value]
   rw [e];exact h3
  ·have e:(Ex.mk 2 ra nm d []).value F day=fixR F nm d:=by simp [Ex.value]
   rw [e] at h0 ⊢;exact fk _ _ h0
  ·have e:(Ex.mk 3 ra nm d []).value F day=fixR F nm day:=by simp [Ex.value]
   rw [e] at h0 ⊢;exact fk _ _ h0
  ·have e:(Ex.mk 9 ra nm d [p,y,z]).value F day=andR (p.hold F day) ByteArray.empty fun b => if b=true then y.value F day else z.value F day:=by
    rw [Ex.value,if_neg (by decide),if_neg (by decide),if_neg (by decide)]
   rw [e] at h0 ⊢
   obtain ⟨_,e2⟩:=andR_ok h0
   rw [e2] at h0 ⊢
   by_cases hb:(p.hold F day).2=true
   ·rw [if_pos hb] at h0 ⊢;exact IH y (by simp) h2 h0
   ·rw [if_neg hb] at h0 ⊢;exact IH z (by simp) h3 h0
  ·have e:(Ex.mk k ra nm d [y,z]).value F day=andR (y.value F day) ByteArray.empty fun a => andR (z.value F day) ByteArray.empty fun b => op2 k a b:=by
    rw [Ex.value,if_neg (by omega),if_neg (by omega),if_neg (by omega)]
   rw [e] at h0 ⊢
   obtain ⟨k1,e2⟩:=andR_ok h0
   rw [e2] at h0 ⊢
   obtain ⟨k2,e3⟩:=andR_ok h0
   rw [e3] at h0 ⊢
   exact op2_rat (IH y (by simp) h1 k1) (IH z (by simp) h2 k2) h0
def posA (am:ByteArray):Prop:=ratErr am=0∧0 < ival (bl (numS am))
theorem ratTxt_pos' {N D:Nat} (hN:N < ten 1000) (hD:D < ten 1000) (h0:0 < D) (hg:Nat.gcd N D=1) (hz:N ≠ 0):posA (mkB (ratTxt false N D)):=by
 obtain ⟨h1,h2,_⟩:=rat_txt false hN hD h0 hg
 refine ⟨h1,?_⟩
 rw [h2];show (0:Int) < (N:Int);omega
theorem paidS_posA {d:Int} {fr rc cy am:ByteArray} (h:ratErr am=0):∀ f ∈ paidS d fr rc cy am,posA f.am:=by
 obtain ⟨sg,N,D,rfl,hN,hD,h0,hg,hsg⟩:=rat_is h
 intro f hf
 unfold paidS at hf
 rw [bl_mkB] at hf
 split at hf
 ·cases hf
 ·rename_i hz'
  have hz:N ≠ 0:=fun k => hz' ((ratTxt_nil sg h0).2 k)
  rw [ratTxt_neg sg h0,decide_eq_true hz,Bool.and_true] at hf
  cases sg with
  | true =>
   rw [if_pos rfl,List.mem_singleton] at hf
   subst hf
   show posA (mkB _)
   rw [ratTxt_drop h0 hz]
   exact ratTxt_pos' hN hD h0 hg hz
  | false =>
   rw [if_neg (by decide),List.mem_singleton] at hf
   subst hf
   exact ratTxt_pos' hN hD h0 hg hz
end Go.Proofs.YtcnpaciljmekcaaGreatDoor

namespace Go.Proofs.YtcnpaciljmekcaaGreatDoor
open Go.RowKit
theorem andR_err {α β:Type} {a:Int × α} {z:β} {f:α→Int × β} (h:a.1 ≠ 0):andR a z f=(a.1,z):=if_pos h
theorem andR_go {α β:Type} {a:Int × α} {z:β} {f:α→Int × β} (h:a.1=0):andR a z f=f a.2:=if_neg fun k => k h
theorem befR_nil {c:Con} {day fin:Int} {F:List Fx} {C:List Ch} (h:(befR c day fin F C).1 ≠ 0):(befR c day fin F C).2=[]:=by
 unfold befR at h ⊢
 repeat' split
 all_goals first
  | rfl
  | skip
 rename_i h1 h2 h3
 rw [if_neg h1,if_neg h2,if_neg h3] at h
 by_cases h0:(c.flows F C day fin).1=0
 ·rw [andR_go h0] at h;exact absurd rfl h
 ·rw [andR_err h0]
theorem befR_ok {c:Con} (h:c.err=0) (day fin:Int) (F:List Fx) (C:List Ch):befR c day fin F C=if envErr F C ≠ 0 then (envErr F C,[]) else if day < 0∨99999 < day∨fin < 0∨100000 < fin then (2,[]) else andR (c.flows F C day fin) [] fun l => (0,srtFl l):=if_neg fun k => k h
end Go.Proofs.YtcnpaciljmekcaaGreatDoor

namespace Go.Proofs.YtcnpaciljmekcaaGreatDoor
open Go.RowKit
theorem befR_len (c:Con) (day fin:Int) (F:List Fx) (C:List Ch):(befR c day fin F C).2.length≤c.bulk:=by
 unfold befR
 repeat' split
 all_goals first
  | exact Nat.zero_le _
  | skip
 unfold andR
 split
 ·exact Nat.zero_le _
 ·show (srtFl _).length≤_
  rw [srtFl_len]
  exact flows_len F C c.bulk c (Nat.le_refl _) day fin
end Go.Proofs.YtcnpaciljmekcaaGreatDoor

namespace Go.Proofs.YtcnpaciljmekcaaGreatDoor
open Go.RowKit
theorem err_formed {c:Con} (h:c.err=0) : ¬ (500 < c.size∨60 < c.depth)∧c.formed=true:=by
 have hs : ¬ (500 < c.size∨60 < c.depth):=by
  intro h1;unfold Con.err at h;rw [if_pos h1] at h;cases h
 refine ⟨hs,?_⟩
 unfold Con.err at h;rw [if_neg hs] at h;split at h
 ·assumption
 ·cases h
theorem paidS_d {d:Int} {fr rc cy am:ByteArray}:∀ f ∈ paidS d fr rc cy am,f.d=d:=by
 intro f hf
 unfold paidS at hf
 split at hf
 ·cases hf
 ·split at hf
  ·rw [List.mem_singleton] at hf;subst hf;rfl
  ·rw [List.mem_singleton] at hf;subst hf;rfl
theorem mulAll_d (k:ByteArray) {P:Int→Prop}:∀ l:List Fl,(∀ f ∈ l,P f.d)→∀ f ∈ (mulAll k l).2,P f.d
 | [],_ => by intro f hf;cases hf
 | g :: l,h => by
  unfold mulAll
  refine andR_all (P:=fun f => P f.d) fun _ => andR_all (P:=fun f => P f.d) fun _ => ?_
  intro f hf
  rcases List.mem_append.1 hf with hf | hf
  ·rw [paidS_d f hf];exact h g (List.mem_cons_self ..)
  ·exact mulAll_d k l (fun f hf => h f (List.mem_cons_of_mem _ hf)) f hf
theorem flows_in (F:List Fx) (C:List Ch):∀ (N:Nat) (c:Con),c.bulk≤N→c.formed=true→∀ day fin,∀ f ∈ (c.flows F C day fin).2,day≤f.d∧f.d < fin
 | 0,c,hN,_ => by have:=c.sub_lt;omega
 | N+1,c,hN,hw => fun day fin => by
  have IH:∀ y ∈ c.sub,∀ day fin,∀ f ∈ (y.flows F C day fin).2,day≤f.d∧f.d < fin:=fun y hy => flows_in F C N y (by have:=Con.mem_lt hy;omega) (by
   rw [Con.formed_eq,Bool.and_eq_true,Con.formeds_eq] at hw;exact List.all_eq_true.1 hw.2 y hy)
  have hcs:=con_cases c hw
  obtain ⟨k,fr,rc,nm,ex,d,ds,l⟩:=c
  simp only [Con.k,Con.sub,Con.ex,Con.d,Con.ds] at hcs IH
  unfold Con.flows
  by_cases hn:fin≤day
  ·rw [if_pos hn];intro f hf;cases hf
  ·rw [if_neg hn]
   have two:∀ (is:Int→Int × Bool),(firstR is day fin ds).1=0→day≤(firstR is day fin ds).2∧(firstR is day fin ds).2≤fin:=fun is h => first_bd is day fin (by omega) ds h
   rcases hcs with ⟨rfl,rfl⟩ | ⟨rfl,rfl,hA⟩ | ⟨rfl,x,y,rfl⟩ | ⟨rfl,hA,x,rfl⟩ | ⟨rfl,hA,x,y,rfl⟩ | ⟨rfl,hd,x,rfl⟩ | ⟨rfl,x,y,rfl⟩ | ⟨rfl,hd,x,rfl⟩ | ⟨hk,hd,hA,x,rfl⟩
   ·intro f hf;cases hf
   ·dsimp only
    rw [if_pos rfl]
    exact andR_all fun h f hf => by rw [paidS_d f hf];omega
   ·dsimp only
    rw [if_pos rfl]
    refine andR_all fun _ => andR_all fun _ => ?_
    intro f hf
    rcases List.mem_append.1 hf with hf | hf
    ·exact IH x (by simp) _ _ f hf
    ·exact IH y (by simp) _ _ f hf
   ·dsimp only
    rw [if_pos rfl]
    exact andR_all fun _ => andR_all fun _ => mulAll_d (P:=fun d => day≤d∧d < fin) _ _ (IH x (by simp) _ _)
   ·dsimp only
    rw [if_neg (by decide),if_pos rfl]
    refine andR_all fun _ => ?_
    split
    ·exact IH x (by simp) _ _
    ·exact IH y (by simp) _ _
   ·dsimp only
    rw [if_neg (by decide),if_pos rfl]
    split
    ·next h1 =>
     intro f hf
     have:=IH x (by simp) _ _ f hf
     omega
    ·intro f hf;cases hf
   ·dsimp only
    rw [if_neg (by decide),if_neg (by decide)]
    split
    ·exact IH x (by simp) _ _
    ·exact IH y (by simp) _ _
   ·dsimp only
    rw [if_neg (by decide),if_neg (by decide),if_pos rfl]
    intro f hf
    have h1:=IH x (by simp) _ _ f hf
    have h2:=two _ (first_pure (fun e => chosenB C fr nm e) day fin ds)
    omega
   ·dsimp only
    rcases hk with rfl | rfl
    ·rw [if_neg (by decide),if_neg (by decide),if_neg (by decide),if_pos rfl]
     refine andR_all fun h f hf => ?_
     have h1:=IH x (by simp) _ _ f hf
     have h2:=two _ h
     omega
    ·rw [if_neg (by decide),if_neg (by decide),if_neg (by decide),if_neg (by decide)]
     refine andR_all fun h f hf => ?_
     have h1:=IH x (by simp) _ _ f hf
     have h2:=two _ h
     omega
theorem befR_srt (c:Con) (day fin:Int) (F:List Fx) (C:List Ch):SrtFl (befR c day fin F C).2:=by
 unfold befR
 repeat' split
 all_goals first
  | exact List.Pairwise.nil
  | skip
 unfold andR
 split
 ·exact List.Pairwise.nil
 ·exact srtFl_srt _
end Go.Proofs.YtcnpaciljmekcaaGreatDoor

namespace Go.Proofs.YtcnpaciljmekcaaGreatDoor
open Go.RowKit
theorem andR_posA {α:Type} {a:Int × α} {f:α→Int × List Fl} (h:a.1=0→∀ g ∈ (f a.2).2,posA g.am):∀ g ∈ (andR a [] f).2,posA g.am:=andR_all (P:=fun g => posA g.am) h
theorem mulAll_posA (k:ByteArray):∀ l:List Fl,∀ f ∈ (mulAll k l).2,posA f.am
 | [] => by intro f hf;cases hf
 | f :: l => by
  unfold mulAll
  refine andR_posA fun h => andR_posA fun _ => ?_
  intro g hg
  rcases List.mem_append.1 hg with hg | hg
  ·exact paidS_posA (mulS_rat h) g hg
  ·exact mulAll_posA k l g hg
theorem flows_posA {F:List Fx} {C:List Ch} (hF:∀ f ∈ F,ratErr f.vl=0):∀ (N:Nat) (c:Con),c.bulk≤N→c.formed=true→∀ day fin,∀ f ∈ (c.flows F C day fin).2,posA f.am
 | 0,c,hN,_ => by have:=c.sub_lt;omega
 | N+1,c,hN,hw => fun day fin => by
  have IH:∀ y ∈ c.sub,∀ day fin,∀ f ∈ (y.flows F C day fin).2,posA f.am:=fun y hy => flows_posA hF N y (by have:=Con.mem_lt hy;omega) (by
   rw [Con.formed_eq,Bool.and_eq_true,Con.formeds_eq] at hw;exact List.all_eq_true.1 hw.2 y hy)
  have hcs:=con_cases c hw
  obtain ⟨k,fr,rc,nm,ex,d,ds,l⟩:=c
  simp only [Con.k,Con.sub,Con.ex,Con.d,Con.ds] at hcs IH
  unfold Con.flows
  split
  ·intro f hf;cases hf
  ·rcases hcs with ⟨rfl,rfl⟩ | ⟨rfl,rfl,hA⟩ | ⟨rfl,x,y,rfl⟩ | ⟨rfl,hA,x,rfl⟩ | ⟨rfl,hA,x,y,rfl⟩ | ⟨rfl,hd,x,rfl⟩ | ⟨rfl,x,y,rfl⟩ | ⟨rfl,hd,x,rfl⟩ | ⟨hk,hd,hA,x,rfl⟩
   ·intro f hf;cases hf
   ·dsimp only
    rw [if_pos rfl]
    exact andR_posA fun h => paidS_posA (value_rat hF day ex.bulk ex (Nat.le_refl _) (isA_is hA).2 h)
   ·dsimp only
    rw [if_pos rfl]
    refine andR_posA fun _ => andR_posA fun _ => ?_
    intro f hf
    rcases List.mem_append.1 hf with hf | hf
    ·exact IH x (by simp) _ _ f hf
    ·exact IH y (by simp) _ _ f hf
   ·dsimp only
    rw [if_pos rfl]
    exact andR_posA fun _ => andR_posA fun _ => mulAll_posA _ _
   ·dsimp only
    rw [if_neg (by decide),if_pos rfl]
    refine andR_posA fun _ => ?_
    split
    ·exact IH x (by simp) _ _
    ·exact IH y (by simp) _ _
   ·dsimp only
    rw [if_neg (by decide),if_pos rfl]
    split
    ·exact IH x (by simp) _ _
    ·intro f hf;cases hf
   ·dsimp only
    rw [if_neg (by decide),if_neg (by decide)]
    split
    ·exact IH x (by simp) _ _
    ·exact IH y (by simp) _ _
   ·dsimp only
    rw [if_neg (by decide),if_neg (by decide),if_pos rfl]
    exact IH x (by simp) _ _
   ·dsimp only
    rcases hk with rfl | rfl
    ·rw [if_neg (by decide),if_neg (by decide),if_neg (by decide),if_pos rfl]
     exact andR_posA fun _ => IH x (by simp) _ _
    ·rw [if_neg (by decide),if_neg (by decide),if_neg (by decide),if_neg (by decide)]
     exact andR_posA fun _ => IH x (by simp) _ _
end Go.Proofs.YtcnpaciljmekcaaGreatDoor
