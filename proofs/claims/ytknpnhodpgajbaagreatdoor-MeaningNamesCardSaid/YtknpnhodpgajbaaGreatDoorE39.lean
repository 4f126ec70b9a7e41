/-
  Law 10, MeaningNames.  Printed by tools/genmn.py.
-/
import Derived.Test.YtknpnhodpgajbaaGreatDoorE37
import Derived.Test.YtknpnhodpgajbaaGreatDoorE38
import Derived.Test.YtknpnhodpgajbaaGreatDoorE35
namespace Go.Proofs.YtknpnhodpgajbaaGreatDoor
open Go.RowKit
set_option maxHeartbeats 8000000 in
set_option maxRecDepth 100000 in
theorem names10_any (w:World) (hl:Lk w):Calls Tryz.prog 8 #[] w fun e w' => e = .returned (.bool true)∧Below w.heap.size w w':=by
 have HL:=Lib.hid hl
 have HK:=Lib.hid (fun W => known10_any W)
 have HNw:=Lib.hid (fun n W => now10_any n W)
 have HCo:=Lib.hid (fun r W => con10_any r W)
 have HPa:=Lib.hid (fun k r n d ad m cap W => pay10_any k r n d ad m cap W)
 clear hl
 go_enter Tryz.func8,Tryz.ntmps8
 go_upto_region 1 with (fail)
 go_upto_region 2 with (go_at_call 27;refine (HK.out _).mono ?_;rintro e w1 ⟨K,rfl,k1,hb1⟩)
 obtain ⟨W2,hW2,hb2,e2,r2⟩:=nm_w2 w1 K k1
 go_upto_region 3 with (fail)
 clear hW2
 go_upto_region 4 with (first | (go_at_call 28;refine (HNw.out _ _).mono ?_;rintro e w3 ⟨rfl,hb3⟩) | (go_at_call 22;refine (HCo.out _ _).mono ?_;rintro e w4 ⟨rfl,hb4⟩;obtain ⟨W5,hW5,hb5,l5,x5⟩:=nm_w5 w4))
 clear hW5
 have hb25:=hb3.trans ((hb4.trans (hb5.mono hb4.size)).mono hb3.size)
 have e5:=e2.below hb25 e2.lt
 have r5:=r2.frame hb25
 have hb15:=hb1.trans ((hb2.trans (hb25.mono hb2.size)).mono hb1.size)
 clear hb3 hb4 hb5 hb2 hb25 e2 r2 hb1
 go_wp2_with fail
 refine (HCo.out _ _).mono ?_
 rintro e w6 ⟨rfl,hb6⟩
 go_wp2_with fail
 refine (HPa.out _ _ _ _ _ _ _ _).mono ?_
 rintro e w7 ⟨rfl,hb7⟩
 go_wp2_with fail
 refine (HCo.out _ _).mono ?_
 rintro e w8 ⟨rfl,hb8⟩
 go_wp2_with fail
 refine (HPa.out _ _ _ _ _ _ _ _).mono ?_
 rintro e w9 ⟨rfl,hb9⟩
 go_upto_region 9 with (fail)
 obtain ⟨V,hV,hbV,o1,o2⟩:=nm_w9 w9
 rw [hV]
 clear hV
 have hq:=hb6.trans ((hb7.trans ((hb8.trans ((hb9.trans (hbV.mono hb9.size)).mono hb8.size)).mono hb7.size)).mono hb6.size)
 have eV:=e5.below hq e5.lt
 have rV:=r5.frame hq
 have lV:=l5.below hq l5.lt
 have xV:=x5.frame hq
 have hb1V:=hb15.trans (hq.mono hb15.size)
 clear hq hb6 hb7 hb8 hb9 hbV e5 r5 l5 x5 hb15
 generalize w1.heap.size=S1 at *
 generalize w4.heap.size=S4 at *
 generalize w9.heap.size=S9 at *
 go_cut [9] from 56 to 71 (fun v wc => ∃ B,v = .pointer (some ⟨B,0,none⟩)∧Hid (UntH S4 wc B)∧Hid (Below V.heap.size V wc))
 case first =>
  refine wp_region_invc (fun L aa w' => ∃ v0 v1 v2 v3 v4 v5 v6 v7 v8 v9 v10 v11 v12 v13 v14 v15 v16 o,aa=⟨#[.bool false,.pointer (some ⟨S1,0,none⟩),.pointer (some ⟨S4+1,0,none⟩),.pointer (some ⟨S9,0,none⟩),.pointer (some ⟨S9+1,0,none⟩),.func (.func 30) #[] #[],.func (.func 31) #[] #[],.func (.func 32) #[] #[.pointer (some ⟨S9,0,none⟩)],.func (.func 33) #[] #[.pointer (some ⟨S9,0,none⟩),.pointer (some ⟨S9+1,0,none⟩)],v16,undef,undef,undef,undef,undef,undef,undef,undef,undef,undef,undef,undef,undef,undef,undef,undef,undef,undef,undef,undef,undef,undef,undef,undef,undef,undef,undef,undef,undef,undef,undef,.agg #[.slice (some ⟨K,0,none⟩) 2 2,.slice none 0 0],.agg #[.string ⟨#[65,110,110]⟩,.string ⟨#[116,97,107,101]⟩,.int .i64 6,.bool true],.agg #[.string ⟨#[66,111,98]⟩,.string ⟨#[116,97,107,101]⟩,.int .i64 5,.bool true],.slice (some ⟨S1+1,0,none⟩) 2 2,.pointer (some ⟨S1,1,none⟩),.agg #[.int .u8 3,.string ⟨#[]⟩,.string ⟨#[115,112,111,116]⟩,.int .i64 0,.slice none 0 0],.agg #[.int .u8 1,.string ⟨#[51]⟩,.string ⟨#[]⟩,.int .i64 0,.slice none 0 0],.slice (some ⟨S4,0,none⟩) 2 2,.agg #[.int .u8 11,.string ⟨#[]⟩,.string ⟨#[]⟩,.int .i64 0,.slice (some ⟨S4,0,none⟩) 2 2],.agg #[.int .u8 1,.string ⟨#[49]⟩,.string ⟨#[]⟩,.int .i64 0,.slice none 0 0],.agg #[.int .u8 2,.string ⟨#[65,110,110]⟩,.string ⟨#[66,111,98]⟩,.string ⟨#[85,83,68]⟩,.int .u8 1,.string ⟨#[49]⟩,.string ⟨#[]⟩,.int .i64 0,.slice none 0 0,.int .i64 0,.slice none 0 0,.slice none 0 0],.agg #[.int .u8 1,.string ⟨#[50]⟩,.string ⟨#[]⟩,.int .i64 0,.slice none 0 0],.agg #[.int .u8 2,.string ⟨#[65,110,110]⟩,.string ⟨#[66,111,98]⟩,.string ⟨#[85,83,68]⟩,.int .u8 1,.string ⟨#[50]⟩,.string ⟨#[]⟩,.int .i64 0,.slice none 0 0,.int .i64 0,.slice none 0 0,.slice none 0 0],.func (.func 32) #[] #[.pointer (some ⟨S9,0,none⟩)],.func (.func 33) #[] #[.pointer (some ⟨S9,0,none⟩),.pointer (some ⟨S9+1,0,none⟩)],v0,v1,v2,v3,v4,v5,v6,v7,v8,v9,v10,v11,v12,v13,v14,v15,undef,undef,undef,undef,undef,undef,undef,undef,undef,undef,undef,undef,undef,undef,undef,undef,undef,undef,undef,undef,undef,undef,undef,undef,undef,undef,undef,undef,undef,undef,undef,undef,undef,undef,undef,undef,undef,undef,undef,undef,undef,undef,undef,undef,undef,undef,undef,undef,undef,undef,undef,undef,undef,undef,undef,undef,undef,undef,undef,undef,undef,undef,undef,undef,undef,undef,undef,undef,undef,undef,undef,undef,undef,undef,undef,undef,undef,undef,undef,undef,undef,undef,undef,undef,undef,undef,undef,undef,undef,undef,undef,undef,undef,undef,undef,undef,undef,undef,undef,undef,undef,undef,undef,undef,undef,undef,undef,undef,undef,undef,undef,undef,undef,undef,undef,undef,undef,undef,undef,undef,undef,undef,undef,undef,undef,undef,undef,undef,undef,undef,undef,undef,undef,undef,undef,undef,undef,undef,undef,undef,undef,undef,undef,undef,undef,undef,undef,undef,undef,undef,undef,undef,undef,undef,undef,undef,undef,undef,undef,undef,undef,undef,undef,undef,undef,undef,undef,undef,undef,undef,undef,undef,undef,undef,undef,undef,undef,undef,undef,undef,undef,undef,undef,undef,undef,undef,undef,undef,undef,undef,undef,undef,undef,undef,undef,undef,undef,undef,undef,undef,undef,undef,undef,undef,undef,undef,undef,undef,undef,undef,undef,undef,undef,undef,undef,undef,undef,undef,undef,undef,undef,undef,undef,undef,undef,undef,undef,undef,undef,undef,undef,undef,undef,undef,undef,undef,undef,undef,undef,undef,undef,undef,undef,undef,undef,undef,undef,undef,undef,undef,undef,undef,undef,undef,undef,undef,undef,undef,undef,undef,undef,undef,undef,undef,undef,undef,undef,undef,undef,undef,undef,undef,undef,undef,undef,undef,undef,undef,undef,undef,undef,undef],[]⟩∧UInv V w' S4 o L [v0,v1,v2,v3,v4,v5,v6,v7,v8,v9,v10,v11,v12,v13,v14] v15 v16) (by kernel_rfl) (by kernel_rfl) ?_ ?_ ?_
  ·exact ⟨_,_,_,_,_,_,_,_,_,_,_,_,_,_,_,_,_,none,rfl,UInv.start (below_drewN (Below.refl _ _) 1)⟩
  ·rintro L aa w' ⟨v0,v1,v2,v3,v4,v5,v6,v7,v8,v9,v10,v11,v12,v13,v14,v15,v16,o,rfl,h⟩ hc i0 op9 ho hL hp
   have hi9:i0 < 18:=by simpa using (Array.getElem?_eq_some_iff.1 ho).1
   have hi2:i0=0∨i0=1∨i0=2∨i0=3∨i0=4∨i0=5∨i0=6∨i0=7∨i0=8∨i0=9∨i0=10∨i0=11∨i0=12∨i0=13∨i0=14∨i0=15∨i0=16∨i0=17:=by omega
   clear hi9
   rcases hi2 with rfl | rfl | rfl | rfl | rfl | rfl | rfl | rfl | rfl | rfl | rfl | rfl | rfl | rfl | rfl | rfl | rfl | rfl
   ·refine wpOp_step rfl ?_
    intro K hK
    have n15:=cl_no hc hL 15 (by kernel_rfl)
    have h17:=cl_no hc n15 17 (by kernel_rfl)
    have hh:=h.h h17
    have hB:=lV.below h.b lV.lt
    have y0:w'.cell? ⟨S4+1,0,none⟩=some (.int .u8 11):=hB.cell (j:=0) rfl
    have y1:w'.cell? ⟨S4+1,1,none⟩=some (.string ⟨#[]⟩):=hB.cell (j:=1) rfl
    have y2:w'.cell? ⟨S4+1,2,none⟩=some (.string ⟨#[]⟩):=hB.cell (j:=2) rfl
    have y3:w'.cell? ⟨S4+1,3,none⟩=some (.int .i64 0):=hB.cell (j:=3) rfl
    have y4:w'.cell? ⟨S4+1,4,none⟩=some (.slice (some ⟨S4,0,none⟩) 2 2):=hB.cell (j:=4) rfl
    go_simp
    exact hK _ _ ⟨_,_,_,_,_,_,_,_,_,_,_,_,_,_,_,_,_,o,rfl,h.step n15 h17 (Below.refl _ _) (by decide) (F:=.lit (.agg #[.int .u8 11,.string ⟨#[]⟩,.string ⟨#[]⟩,.int .i64 0,.slice (some ⟨S4,0,none⟩) 2 2])) rfl (rfl)⟩
   ·refine wpOp_step rfl ?_
    intro K hK
    have n15:=cl_no hc hL 15 (by kernel_rfl)
    have h17:=cl_no hc n15 17 (by kernel_rfl)
    have hh:=h.h h17
    go_simp
    exact hK _ _ ⟨_,_,_,_,_,_,_,_,_,_,_,_,_,_,_,_,_,o,rfl,h.step n15 h17 (below_a1 _ _) (by decide) (F:=.days [4,5,6]) rfl (days_new [4,5,6] _ h.lt)⟩
   ·refine wpOp_step rfl ?_
    intro K hK
    have n13:=cl_no hc hL 13 (by kernel_rfl)
    have n14:=cl_no hc n13 14 (by kernel_rfl)
    have n15:=cl_no hc n14 15 (by kernel_rfl)
    have h17:=cl_no hc n15 17 (by kernel_rfl)
    have hh:=h.h h17
    go_simp
    exact hK _ _ ⟨_,_,_,_,_,_,_,_,_,_,_,_,_,_,_,_,_,o,rfl,h.step n15 h17 (Below.refl _ _) (by decide) (F:=.lit (.func (.func 31) #[] #[])) rfl (rfl)⟩
   ·refine wpOp_step rfl ?_
    intro K hK
    have n6:=cl_no hc hL 6 (by kernel_rfl)
    have n13:=cl_no hc n6 13 (by kernel_rfl)
    have n14:=cl_no hc n13 14 (by kernel_rfl)
    have n15:=cl_no hc n14 15 (by kernel_rfl)
    have h17:=cl_no hc n15 17 (by kernel_rfl)
    have hh:=h.h h17
    go_simp
    exact hK _ _ ⟨_,_,_,_,_,_,_,_,_,_,_,_,_,_,_,_,_,o,rfl,h.step n15 h17 (Below.refl _ _) (by decide) (F:=.lit (.func (.func 30) #[] #[])) rfl (rfl)⟩
   ·refine wpOp_step rfl ?_
    intro K hK
    have n5:=cl_no hc hL 5 (by kernel_rfl)
    have n6:=cl_no hc n5 6 (by kernel_rfl)
    have n13:=cl_no hc n6 13 (by kernel_rfl)
    have n14:=cl_no hc n13 14 (by kernel_rfl)
    have n15:=cl_no hc n14 15 (by kernel_rfl)
    have h17:=cl_no hc n15 17 (by kernel_rfl)
    have hh:=h.h h17
    go_simp
    refine (HNw.out _ w').mono ?_
    rintro e w4 ⟨rfl,hb4⟩
    exact hK _ _ ⟨_,_,_,_,_,_,_,_,_,_,_,_,_,_,_,_,_,o,rfl,h.step n15 h17 (hb4) (by decide) (F:=.lit (.agg #[.int .u8 3,.string ⟨#[]⟩,.string ⟨#[110,111,110,101]⟩,.int .i64 0,.slice none 0 0])) rfl (rfl)⟩
   ·refine wpOp_step rfl ?_
    intro K hK
    have n6:=cl_no hc hL 6 (by kernel_rfl)
    have n13:=cl_no hc n6 13 (by kernel_rfl)
    have n14:=cl_no hc n13 14 (by kernel_rfl)
    have n15:=cl_no hc n14 15 (by kernel_rfl)
    have h17:=cl_no hc n15 17 (by kernel_rfl)
    have hh:=h.h h17
    have f4:=hh.at (i:=4) (pred_spec ho hp (j:=4) (by kernel_rfl)) rfl rfl
    change v4=_ at f4
    subst f4
    go_simp
    refine (HPa.out _ _ _ _ _ _ _ w').mono ?_
    rintro e w4 ⟨rfl,hb4⟩
    exact hK _ _ ⟨_,_,_,_,_,_,_,_,_,_,_,_,_,_,_,_,_,o,rfl,h.step n15 h17 (hb4) (by decide) (F:=.lit (.agg #[.int .u8 2,.string ⟨#[65,110,110]⟩,.string ⟨#[66,111,98]⟩,.string ⟨#[85,83,68]⟩,.int .u8 3,.string ⟨#[]⟩,.string ⟨#[110,111,110,101]⟩,.int .i64 0,.slice none 0 0,.int .i64 0,.slice none 0 0,.slice none 0 0])) rfl (rfl)⟩
   ·refine wpOp_step rfl ?_
    intro K hK
    have n13:=cl_no hc hL 13 (by kernel_rfl)
    have n14:=cl_no hc n13 14 (by kernel_rfl)
    have n15:=cl_no hc n14 15 (by kernel_rfl)
    have h17:=cl_no hc n15 17 (by kernel_rfl)
    have hh:=h.h h17
    have f3:=hh.at (i:=3) (pred_spec ho hp (j:=3) (by kernel_rfl)) rfl rfl
    change v3=_ at f3
    subst f3
    have f5:=hh.at (i:=5) (pred_spec ho hp (j:=5) (by kernel_rfl)) rfl rfl
    change v5=_ at f5
    subst f5
    go_simp
    refine (nmAt_any o 7 _ cNone w' (HeldO.flat o w' cNone rfl rfl rfl (by decide) (by decide)) h.lt).mono ?_
    rintro e w4 ⟨u,rfl,hu,hb4⟩
    exact hK _ _ ⟨_,_,_,_,_,_,_,_,_,_,_,_,_,_,_,_,_,o,rfl,h.step n15 h17 (hb4) (by decide) (F:=.held (atM 7 cNone)) rfl (hu)⟩
   ·refine wpOp_step rfl ?_
    intro K hK
    have n12:=cl_no hc hL 12 (by kernel_rfl)
    have n13:=cl_no hc n12 13 (by kernel_rfl)
    have n14:=cl_no hc n13 14 (by kernel_rfl)
    have n15:=cl_no hc n14 15 (by kernel_rfl)
    have h17:=cl_no hc n15 17 (by kernel_rfl)
    have hh:=h.h h17
    go_simp
    exact hK _ _ ⟨_,_,_,_,_,_,_,_,_,_,_,_,_,_,_,_,_,o,rfl,h.step n15 h17 (Below.refl _ _) (by decide) (F:=.lit (.func (.func 31) #[] #[])) rfl (rfl)⟩
   ·refine wpOp_step rfl ?_
    intro K hK
    have n10:=cl_no hc hL 10 (by kernel_rfl)
    have n12:=cl_no hc n10 12 (by kernel_rfl)
    have n13:=cl_no hc n12 13 (by kernel_rfl)
    have n14:=cl_no hc n13 14 (by kernel_rfl)
    have n15:=cl_no hc n14 15 (by kernel_rfl)
    have h17:=cl_no hc n15 17 (by kernel_rfl)
    have hh:=h.h h17
    go_simp
    exact hK _ _ ⟨_,_,_,_,_,_,_,_,_,_,_,_,_,_,_,_,_,o,rfl,h.step n15 h17 (Below.refl _ _) (by decide) (F:=.lit (.func (.func 30) #[] #[])) rfl (rfl)⟩
   ·refine wpOp_step rfl ?_
    intro K hK
    have n10:=cl_no hc hL 10 (by kernel_rfl)
    have n12:=cl_no hc n10 12 (by kernel_rfl)
    have n13:=cl_no hc n12 13 (by kernel_rfl)
    have n14:=cl_no hc n13 14 (by kernel_rfl)
    have n15:=cl_no hc n14 15 (by kernel_rfl)
    have h17:=cl_no hc n15 17 (by kernel_rfl)
    have hh:=h.h h17
    have hB:=o2.below h.b o2.lt
    have y0:w'.cell? ⟨S9+1,0,none⟩=some (.int .u8 2):=hB.cell (j:=0) rfl
    have y1:w'.cell? ⟨S9+1,1,none⟩=some (.string ⟨#[65,110,110]⟩):=hB.cell (j:=1) rfl
    have y2:w'.cell? ⟨S9+1,2,none⟩=some (.string ⟨#[66,111,98]⟩):=hB.cell (j:=2) rfl
    have y3:w'.cell? ⟨S9+1,3,none⟩=some (.string ⟨#[85,83,68]⟩):=hB.cell (j:=3) rfl
    have y4:w'.cell? ⟨S9+1,4,none⟩=some (.int .u8 1):=hB.cell (j:=4) rfl
    have y5:w'.cell? ⟨S9+1,5,none⟩=some (.string ⟨#[50]⟩):=hB.cell (j:=5) rfl
    have y6:w'.cell? ⟨S9+1,6,none⟩=some (.string ⟨#[]⟩):=hB.cell (j:=6) rfl
    have y7:w'.cell? ⟨S9+1,7,none⟩=some (.int .i64 0):=hB.cell (j:=7) rfl
    have y8:w'.cell? ⟨S9+1,8,none⟩=some (.slice none 0 0):=hB.cell (j:=8) rfl
    have y9:w'.cell? ⟨S9+1,9,none⟩=some (.int .i64 0):=hB.cell (j:=9) rfl
    have y10:w'.cell? ⟨S9+1,10,none⟩=some (.slice none 0 0):=hB.cell (j:=10) rfl
    have y11:w'.cell? ⟨S9+1,11,none⟩=some (.slice none 0 0):=hB.cell (j:=11) rfl
    go_simp
    exact hK _ _ ⟨_,_,_,_,_,_,_,_,_,_,_,_,_,_,_,_,_,o,rfl,h.step n15 h17 (Below.refl _ _) (by decide) (F:=.lit (.agg #[.int .u8 2,.string ⟨#[65,110,110]⟩,.string ⟨#[66,111,98]⟩,.string ⟨#[85,83,68]⟩,.int .u8 1,.string ⟨#[50]⟩,.string ⟨#[]⟩,.int .i64 0,.slice none 0 0,.int .i64 0,.slice none 0 0,.slice none 0 0])) rfl (rfl)⟩
   ·refine wpOp_step rfl ?_
    intro K hK
    have n12:=cl_no hc hL 12 (by kernel_rfl)
    have n13:=cl_no hc n12 13 (by kernel_rfl)
    have n14:=cl_no hc n13 14 (by kernel_rfl)
    have n15:=cl_no hc n14 15 (by kernel_rfl)
    have h17:=cl_no hc n15 17 (by kernel_rfl)
    have hh:=h.h h17
    have f8:=hh.at (i:=8) (pred_spec ho hp (j:=8) (by kernel_rfl)) rfl rfl
    change v8=_ at f8
    subst f8
    have f9:=hh.at (i:=9) (pred_spec ho hp (j:=9) (by kernel_rfl)) rfl rfl
    change v9=_ at f9
    subst f9
    go_simp
    refine (nmAt_any o 6 _ cTwo w' (HeldO.flat o w' cTwo rfl rfl rfl (by decide) (by decide)) h.lt).mono ?_
    rintro e w4 ⟨u,rfl,hu,hb4⟩
    exact hK _ _ ⟨_,_,_,_,_,_,_,_,_,_,_,_,_,_,_,_,_,o,rfl,h.step n15 h17 (hb4) (by decide) (F:=.held (atM 6 cTwo)) rfl (hu)⟩
   ·refine wpOp_step rfl ?_
    intro K hK
    have n12:=cl_no hc hL 12 (by kernel_rfl)
    have n13:=cl_no hc n12 13 (by kernel_rfl)
    have n14:=cl_no hc n13 14 (by kernel_rfl)
    have n15:=cl_no hc n14 15 (by kernel_rfl)
    have h17:=cl_no hc n15 17 (by kernel_rfl)
    have hh:=h.h h17
    have hB:=o1.below h.b o1.lt
    have y0:w'.cell? ⟨S9,0,none⟩=some (.int .u8 2):=hB.cell (j:=0) rfl
    have y1:w'.cell? ⟨S9,1,none⟩=some (.string ⟨#[65,110,110]⟩):=hB.cell (j:=1) rfl
    have y2:w'.cell? ⟨S9,2,none⟩=some (.string ⟨#[66,111,98]⟩):=hB.cell (j:=2) rfl
    have y3:w'.cell? ⟨S9,3,none⟩=some (.string ⟨#[85,83,68]⟩):=hB.cell (j:=3) rfl
    have y4:w'.cell? ⟨S9,4,none⟩=some (.int .u8 1):=hB.cell (j:=4) rfl
    have y5:w'.cell? ⟨S9,5,none⟩=some (.string ⟨#[49]⟩):=hB.cell (j:=5) rfl
    have y6:w'.cell? ⟨S9,6,none⟩=some (.string ⟨#[]⟩):=hB.cell (j:=6) rfl
    have y7:w'.cell? ⟨S9,7,none⟩=some (.int .i64 0):=hB.cell (j:=7) rfl
    have y8:w'.cell? ⟨S9,8,none⟩=some (.slice none 0 0):=hB.cell (j:=8) rfl
    have y9:w'.cell? ⟨S9,9,none⟩=some (.int .i64 0):=hB.cell (j:=9) rfl
    have y10:w'.cell? ⟨S9,10,none⟩=some (.slice none 0 0):=hB.cell (j:=10) rfl
    have y11:w'.cell? ⟨S9,11,none⟩=some (.slice none 0 0):=hB.cell (j:=11) rfl
    go_simp
    exact hK _ _ ⟨_,_,_,_,_,_,_,_,_,_,_,_,_,_,_,_,_,o,rfl,h.step n15 h17 (Below.refl _ _) (by decide) (F:=.lit (.agg #[.int .u8 2,.string ⟨#[65,110,110]⟩,.string ⟨#[66,111,98]⟩,.string ⟨#[85,83,68]⟩,.int .u8 1,.string ⟨#[49]⟩,.string ⟨#[]⟩,.int .i64 0,.slice none 0 0,.int .i64 0,.slice none 0 0,.slice none 0 0])) rfl (rfl)⟩
   ·refine wpOp_step rfl ?_
    intro K hK
    have n13:=cl_no hc hL 13 (by kernel_rfl)
    have n14:=cl_no hc n13 14 (by kernel_rfl)
    have n15:=cl_no hc n14 15 (by kernel_rfl)
    have h17:=cl_no hc n15 17 (by kernel_rfl)
    have hh:=h.h h17
    have f7:=hh.at (i:=7) (pred_spec ho hp (j:=7) (by kernel_rfl)) rfl rfl
    change v7=_ at f7
    subst f7
    have f10:=hh.at (i:=10) (pred_spec ho hp (j:=10) (by kernel_rfl)) rfl rfl
    have f11:=hh.at (i:=11) (pred_spec ho hp (j:=11) (by kernel_rfl)) rfl rfl
    change v11=_ at f11
    subst f11
    go_simp
    refine (nmBoth_any o _ _ (atM 6 cTwo) cOne w' f10 (HeldO.flat o w' cOne rfl rfl rfl (by decide) (by decide)) h.lt).mono ?_
    rintro e w4 ⟨u,rfl,hu,hb4⟩
    exact hK _ _ ⟨_,_,_,_,_,_,_,_,_,_,_,_,_,_,_,_,_,o,rfl,h.step n15 h17 (hb4) (by decide) (F:=.held (bothN (atM 6 cTwo) cOne)) rfl (hu)⟩
   ·refine wpOp_step rfl ?_
    intro K hK
    have n14:=cl_no hc hL 14 (by kernel_rfl)
    have n15:=cl_no hc n14 15 (by kernel_rfl)
    have h17:=cl_no hc n15 17 (by kernel_rfl)
    have hh:=h.h h17
    have f2:=hh.at (i:=2) (pred_spec ho hp (j:=2) (by kernel_rfl)) rfl rfl
    change v2=_ at f2
    subst f2
    have f6:=hh.at (i:=6) (pred_spec ho hp (j:=6) (by kernel_rfl)) rfl rfl
    have f12:=hh.at (i:=12) (pred_spec ho hp (j:=12) (by kernel_rfl)) rfl rfl
    go_simp
    refine (nmBoth_any o _ _ (atM 7 cNone) (bothN (atM 6 cTwo) cOne) w' f6 f12 h.lt).mono ?_
    rintro e w4 ⟨u,rfl,hu,hb4⟩
    exact hK _ _ ⟨_,_,_,_,_,_,_,_,_,_,_,_,_,_,_,_,_,o,rfl,h.step n15 h17 (hb4) (by decide) (F:=.held cU) rfl (hu)⟩
   ·refine wpOp_step rfl ?_
    intro K hK
    have n15:=cl_no hc hL 15 (by kernel_rfl)
    have h17:=cl_no hc n15 17 (by kernel_rfl)
    have hh:=h.h h17
    have f13:=hh.at (i:=13) (pred_spec ho hp (j:=13) (by kernel_rfl)) rfl rfl
    obtain ⟨es,dd,ss,e13,h1⟩:=f13
    rw [cU_val] at e13
    subst e13
    have hz:=row_new h1 h.lt
    rw [cU_cells] at hz
    go_simp
    exact hK _ _ ⟨_,_,_,_,_,_,_,_,_,_,_,_,_,_,_,_,_,o,rfl,h.step n15 h17 (below_a1 _ _) (by decide) (F:=.row [cU]) rfl hz⟩
   ·refine wpOp_step rfl ?_
    intro K hK
    have h17:=cl_no hc hL 17 (by kernel_rfl)
    have hh:=h.h h17
    have f0:=hh.at (i:=0) (pred_spec ho hp (j:=0) (by kernel_rfl)) rfl rfl
    change v0=_ at f0
    subst f0
    have f1:=hh.at (i:=1) (pred_spec ho hp (j:=1) (by kernel_rfl)) rfl rfl
    have f14:=hh.at (i:=14) (pred_spec ho hp (j:=14) (by kernel_rfl)) rfl rfl
    obtain ⟨ad1,cp1,e1⟩:=(f1 w' (SameBut.refl _ _)).len
    obtain ⟨ad2,cp2,e2⟩:=(f14 w' (SameBut.refl _ _)).len
    subst e1 e2
    go_simp
    exact hK _ _ ⟨_,_,_,_,_,_,_,_,_,_,_,_,_,_,_,_,_,o,rfl,h.s15 h17 rfl rfl⟩
   ·refine wpOp_step rfl ?_
    intro K hK
    have h17:=cl_no hc hL 17 (by kernel_rfl)
    go_simp
    exact hK _ _ ⟨_,_,_,_,_,_,_,_,_,_,_,_,_,_,_,_,_,some w'.heap.size,rfl,h.s16 hL h17⟩
   ·refine wpOp_step rfl ?_
    intro K hK
    have g15:=pred_spec ho hp (j:=15) (by kernel_rfl)
    have g16:=pred_spec ho hp (j:=16) (by kernel_rfl)
    have g0:=cl_spec hc g15 (j:=0) (by kernel_rfl)
    have g1:=cl_spec hc g15 (j:=1) (by kernel_rfl)
    have g14:=cl_spec hc g15 (j:=14) (by kernel_rfl)
    have g13:=cl_spec hc g14 (j:=13) (by kernel_rfl)
    have g2:=cl_spec hc g13 (j:=2) (by kernel_rfl)
    have g6:=cl_spec hc g13 (j:=6) (by kernel_rfl)
    have g12:=cl_spec hc g13 (j:=12) (by kernel_rfl)
    have g3:=cl_spec hc g6 (j:=3) (by kernel_rfl)
    have g5:=cl_spec hc g6 (j:=5) (by kernel_rfl)
    have g4:=cl_spec hc g5 (j:=4) (by kernel_rfl)
    have g7:=cl_spec hc g12 (j:=7) (by kernel_rfl)
    have g10:=cl_spec hc g12 (j:=10) (by kernel_rfl)
    have g11:=cl_spec hc g12 (j:=11) (by kernel_rfl)
    have g8:=cl_spec hc g10 (j:=8) (by kernel_rfl)
    have g9:=cl_spec hc g10 (j:=9) (by kernel_rfl)
    have hall:∀ j,j < 17→L j=true:=fun j hj => by
     have hj2:j=0∨j=1∨j=2∨j=3∨j=4∨j=5∨j=6∨j=7∨j=8∨j=9∨j=10∨j=11∨j=12∨j=13∨j=14∨j=15∨j=16:=by omega
     rcases hj2 with rfl | rfl | rfl | rfl | rfl | rfl | rfl | rfl | rfl | rfl | rfl | rfl | rfl | rfl | rfl | rfl | rfl
     ·exact g0
     ·exact g1
     ·exact g2
     ·exact g3
     ·exact g4
     ·exact g5
     ·exact g6
     ·exact g7
     ·exact g8
     ·exact g9
     ·exact g10
     ·exact g11
     ·exact g12
     ·exact g13
     ·exact g14
     ·exact g15
     ·exact g16
    have hh:=h.h hL
    have f1:=hh.at (i:=1) g1 rfl rfl
    have f14:=hh.at (i:=14) g14 rfl rfl
    obtain ⟨ad1,cp1,e1⟩:=(f1 w' (SameBut.refl _ _)).len
    obtain ⟨ad2,cp2,e2⟩:=(f14 w' (SameBut.refl _ _)).len
    subst e1 e2
    obtain ⟨u1,u14,e1,e14,e15⟩:=h.a g15
    cases e1
    cases e14
    subst e15
    obtain ⟨B,e16,hB1,hB2,hB3,hB4⟩:=h.x g16
    subst e16
    have hz:=hB4 hL
    have y0:w'.cell? ⟨B,0,none⟩=some (.int .u8 0):=hz.cell (j:=0) rfl
    have y1:w'.cell? ⟨B,1,none⟩=some (.string ⟨#[]⟩):=hz.cell (j:=1) rfl
    have y2:w'.cell? ⟨B,2,none⟩=some (.string ⟨#[]⟩):=hz.cell (j:=2) rfl
    have y3:w'.cell? ⟨B,3,none⟩=some (.string ⟨#[]⟩):=hz.cell (j:=3) rfl
    have y4:w'.cell? ⟨B,4,none⟩=some (.int .u8 0):=hz.cell (j:=4) rfl
    have y5:w'.cell? ⟨B,5,none⟩=some (.string ⟨#[]⟩):=hz.cell (j:=5) rfl
    have y6:w'.cell? ⟨B,6,none⟩=some (.string ⟨#[]⟩):=hz.cell (j:=6) rfl
    have y7:w'.cell? ⟨B,7,none⟩=some (.int .i64 0):=hz.cell (j:=7) rfl
    have y8:w'.cell? ⟨B,8,none⟩=some (.slice none 0 0):=hz.cell (j:=8) rfl
    have y9:w'.cell? ⟨B,9,none⟩=some (.int .i64 0):=hz.cell (j:=9) rfl
    have y10:w'.cell? ⟨B,10,none⟩=some (.slice none 0 0):=hz.cell (j:=10) rfl
    have y11:w'.cell? ⟨B,11,none⟩=some (.slice none 0 0):=hz.cell (j:=11) rfl
    have z0:w'.frozen? ⟨B,0,none⟩=false:=hz.frozen 0
    have z1:w'.frozen? ⟨B,1,none⟩=false:=hz.frozen 1
    have z2:w'.frozen? ⟨B,2,none⟩=false:=hz.frozen 2
    have z3:w'.frozen? ⟨B,3,none⟩=false:=hz.frozen 3
    have z4:w'.frozen? ⟨B,4,none⟩=false:=hz.frozen 4
    have z5:w'.frozen? ⟨B,5,none⟩=false:=hz.frozen 5
    have z6:w'.frozen? ⟨B,6,none⟩=false:=hz.frozen 6
    have z7:w'.frozen? ⟨B,7,none⟩=false:=hz.frozen 7
    have z8:w'.frozen? ⟨B,8,none⟩=false:=hz.frozen 8
    have z9:w'.frozen? ⟨B,9,none⟩=false:=hz.frozen 9
    have z10:w'.frozen? ⟨B,10,none⟩=false:=hz.frozen 10
    have z11:w'.frozen? ⟨B,11,none⟩=false:=hz.frozen 11
    have hfin:=h.s17 hall hL xV rfl (c:=_) (v1:=_) (v14:=_) rfl rfl
    go_simp
    exact hK _ _ ⟨_,_,_,_,_,_,_,_,_,_,_,_,_,_,_,_,_,o,rfl,hfin⟩
  ·rintro L aa w' ⟨v0,v1,v2,v3,v4,v5,v6,v7,v8,v9,v10,v11,v12,v13,v14,v15,v16,o,rfl,h⟩ hall
   obtain ⟨B,e16,hu⟩:=h.u (hall 17 (by decide))
   subst e16
   have hbb:=Lib.hid h.b
   have huu:=Lib.hid hu
   clear h hall hu
   go_wp2
   go_meet
   exact ⟨B,rfl,huu,hbb⟩
 case rest =>
  obtain ⟨B,rfl,HU,HbU⟩:=hcut
  have hS:=NmS.frame ⟨HL.out.frame hb1V,eV,rV,lV,xV,o1,o2⟩ HbU.out
  have hU:=HU.out
  have Hb1:=Lib.hid (hb1V.trans (HbU.out.mono hb1V.size))
  clear hb1V eV rV lV xV o1 o2 HU HbU HL
  have y0:wc.cell? ⟨S4+1,0,none⟩=some (.int .u8 11):=hS.l.cell (j:=0) rfl
  have y1:wc.cell? ⟨S4+1,1,none⟩=some (.string ⟨#[]⟩):=hS.l.cell (j:=1) rfl
  have y2:wc.cell? ⟨S4+1,2,none⟩=some (.string ⟨#[]⟩):=hS.l.cell (j:=2) rfl
  have y3:wc.cell? ⟨S4+1,3,none⟩=some (.int .i64 0):=hS.l.cell (j:=3) rfl
  have y4:wc.cell? ⟨S4+1,4,none⟩=some (.slice (some ⟨S4,0,none⟩) 2 2):=hS.l.cell (j:=4) rfl
  have k0:wc.cell? ⟨S9+1,0,none⟩=some (.int .u8 2):=hS.o2.cell (j:=0) rfl
  have k1:wc.cell? ⟨S9+1,1,none⟩=some (.string ⟨#[65,110,110]⟩):=hS.o2.cell (j:=1) rfl
  have k2:wc.cell? ⟨S9+1,2,none⟩=some (.string ⟨#[66,111,98]⟩):=hS.o2.cell (j:=2) rfl
  have k3:wc.cell? ⟨S9+1,3,none⟩=some (.string ⟨#[85,83,68]⟩):=hS.o2.cell (j:=3) rfl
  have k4:wc.cell? ⟨S9+1,4,none⟩=some (.int .u8 1):=hS.o2.cell (j:=4) rfl
  have k5:wc.cell? ⟨S9+1,5,none⟩=some (.string ⟨#[50]⟩):=hS.o2.cell (j:=5) rfl
  have k6:wc.cell? ⟨S9+1,6,none⟩=some (.string ⟨#[]⟩):=hS.o2.cell (j:=6) rfl
  have k7:wc.cell? ⟨S9+1,7,none⟩=some (.int .i64 0):=hS.o2.cell (j:=7) rfl
  have k8:wc.cell? ⟨S9+1,8,none⟩=some (.slice none 0 0):=hS.o2.cell (j:=8) rfl
  have k9:wc.cell? ⟨S9+1,9,none⟩=some (.int .i64 0):=hS.o2.cell (j:=9) rfl
  have k10:wc.cell? ⟨S9+1,10,none⟩=some (.slice none 0 0):=hS.o2.cell (j:=10) rfl
  have k11:wc.cell? ⟨S9+1,11,none⟩=some (.slice none 0 0):=hS.o2.cell (j:=11) rfl
  have z1:=hS.o1.lt
  have z2:=hS.o2.lt
  have z3:=hS.l.lt
  go_upto_region 11 with (fail)
  clear z1 z2 z3
  obtain ⟨V2,hV2,hbV2,bW,rW⟩:=nm_w10 wc S4 hS.x
  rw [hV2]
  clear hV2 y0 y1 y2 y3 y4 k0 k1 k2 k3 k4 k5 k6 k7 k8 k9 k10 k11
  have hS2:=hS.frame hbV2
  have hU2:=hU.frame hbV2
  have Hb2:=Lib.hid (Hb1.out.trans (hbV2.mono Hb1.out.size))
  clear hS hU Hb1 hbV2
  generalize wc.heap.size=S10 at *
  have y0:V2.cell? ⟨S4+1,0,none⟩=some (.int .u8 11):=hS2.l.cell (j:=0) rfl
  have y1:V2.cell? ⟨S4+1,1,none⟩=some (.string ⟨#[]⟩):=hS2.l.cell (j:=1) rfl
  have y2:V2.cell? ⟨S4+1,2,none⟩=some (.string ⟨#[]⟩):=hS2.l.cell (j:=2) rfl
  have y3:V2.cell? ⟨S4+1,3,none⟩=some (.int .i64 0):=hS2.l.cell (j:=3) rfl
  have y4:V2.cell? ⟨S4+1,4,none⟩=some (.slice (some ⟨S4,0,none⟩) 2 2):=hS2.l.cell (j:=4) rfl
  have m0:V2.cell? ⟨S9,0,none⟩=some (.int .u8 2):=hS2.o1.cell (j:=0) rfl
  have m1:V2.cell? ⟨S9,1,none⟩=some (.string ⟨#[65,110,110]⟩):=hS2.o1.cell (j:=1) rfl
  have m2:V2.cell? ⟨S9,2,none⟩=some (.string ⟨#[66,111,98]⟩):=hS2.o1.cell (j:=2) rfl
  have m3:V2.cell? ⟨S9,3,none⟩=some (.string ⟨#[85,83,68]⟩):=hS2.o1.cell (j:=3) rfl
  have m4:V2.cell? ⟨S9,4,none⟩=some (.int .u8 1):=hS2.o1.cell (j:=4) rfl
  have m5:V2.cell? ⟨S9,5,none⟩=some (.string ⟨#[49]⟩):=hS2.o1.cell (j:=5) rfl
  have m6:V2.cell? ⟨S9,6,none⟩=some (.string ⟨#[]⟩):=hS2.o1.cell (j:=6) rfl
  have m7:V2.cell? ⟨S9,7,none⟩=some (.int .i64 0):=hS2.o1.cell (j:=7) rfl
  have m8:V2.cell? ⟨S9,8,none⟩=some (.slice none 0 0):=hS2.o1.cell (j:=8) rfl
  have m9:V2.cell? ⟨S9,9,none⟩=some (.int .i64 0):=hS2.o1.cell (j:=9) rfl
  have m10:V2.cell? ⟨S9,10,none⟩=some (.slice none 0 0):=hS2.o1.cell (j:=10) rfl
  have m11:V2.cell? ⟨S9,11,none⟩=some (.slice none 0 0):=hS2.o1.cell (j:=11) rfl
  have k0:V2.cell? ⟨S9+1,0,none⟩=some (.int .u8 2):=hS2.o2.cell (j:=0) rfl
  have k1:V2.cell? ⟨S9+1,1,none⟩=some (.string ⟨#[65,110,110]⟩):=hS2.o2.cell (j:=1) rfl
  have k2:V2.cell? ⟨S9+1,2,none⟩=some (.string ⟨#[66,111,98]⟩):=hS2.o2.cell (j:=2) rfl
  have k3:V2.cell? ⟨S9+1,3,none⟩=some (.string ⟨#[85,83,68]⟩):=hS2.o2.cell (j:=3) rfl
  have k4:V2.cell? ⟨S9+1,4,none⟩=some (.int .u8 1):=hS2.o2.cell (j:=4) rfl
  have k5:V2.cell? ⟨S9+1,5,none⟩=some (.string ⟨#[50]⟩):=hS2.o2.cell (j:=5) rfl
  have k6:V2.cell? ⟨S9+1,6,none⟩=some (.string ⟨#[]⟩):=hS2.o2.cell (j:=6) rfl
  have k7:V2.cell? ⟨S9+1,7,none⟩=some (.int .i64 0):=hS2.o2.cell (j:=7) rfl
  have k8:V2.cell? ⟨S9+1,8,none⟩=some (.slice none 0 0):=hS2.o2.cell (j:=8) rfl
  have k9:V2.cell? ⟨S9+1,9,none⟩=some (.int .i64 0):=hS2.o2.cell (j:=9) rfl
  have k10:V2.cell? ⟨S9+1,10,none⟩=some (.slice none 0 0):=hS2.o2.cell (j:=10) rfl
  have k11:V2.cell? ⟨S9+1,11,none⟩=some (.slice none 0 0):=hS2.o2.cell (j:=11) rfl
  have z1:=hS2.o1.lt
  have z2:=hS2.o2.lt
  have z3:=hS2.l.lt
  go_upto_region 12 with (fail)
  clear z1 z2 z3
  obtain ⟨V3,hV3,hbV3,bC,rC⟩:=nm_w11 V2 S4 hS2.x
  rw [hV3]
  clear hV3 y0 y1 y2 y3 y4 k0 m0 k1 m1 k2 m2 k3 m3 k4 m4 k5 m5 k6 m6 k7 m7 k8 m8 k9 m9 k10 m10 k11 m11
  have hS:=hS2.frame hbV3
  have hU:=hU2.frame hbV3
  have bW:=bW.below hbV3 bW.lt
  have rW:=rW.frame hbV3
  have Hb3:=Lib.hid (Hb2.out.trans (hbV3.mono Hb2.out.size))
  clear hS2 hU2 Hb2 hbV3
  generalize V2.heap.size=S11 at *
  obtain ⟨dd,ss,bU,rU⟩:=hU
  have hT:NmT V3 K S1 S4 S9 B S10 S11 dd ss:=⟨hS,bU,rU,bW,rW,bC,rC⟩
  clear hS bU rU bW rW bC rC
  go_cut [12] from 41 to 119 (fun v wd => v = .bool true∧Hid (Below V3.heap.size V3 wd))
  case first =>
   refine nmreg12 hT _ ?_
   intro v0 v1 v2 v3 v4 v5 v6 v7 v8 v9 v10 v11 v12 v13 v14 v15 v16 v17 v18 v19 v20 v21 v22 v23 v24 v25 v26 v27 v28 v29 v30 v31 v32 v33 v34 v35 v36 v37 v38 w' e9 hbb
   subst e9
   go_wp2
   go_meet
   exact ⟨rfl,hbb⟩
  case rest =>
   obtain ⟨rfl,hcut⟩:=hcut
   have hT:=hT.frame hcut.out
   have Hb3:=Lib.hid (Hb3.out.trans (hcut.out.mono Hb3.out.size))
   clear hcut
   go_upto_region 13 with (fail)
   go_cut [12] from 41 to 172 (fun v wd => v = .bool true∧Hid (Below wc.heap.size wc wd))
   case first =>
    refine nmreg13 hT _ ?_
    intro v0 v1 v2 v3 v4 v5 v6 v7 v8 v9 v10 v11 v12 v13 v14 v15 v16 v17 v18 v19 v20 v21 v22 v23 v24 v25 v26 v27 v28 v29 v30 v31 v32 v33 v34 v35 v36 v37 v38 v39 v40 v41 v42 v43 v44 v45 v46 v47 v48 v49 v50 v51 v52 v53 w' e9 hbb
    subst e9
    go_wp2
    go_meet
    exact ⟨rfl,hbb⟩
   case rest =>
   obtain ⟨rfl,hcut⟩:=hcut
   have hT:=hT.frame hcut.out
   have Hb3:=Lib.hid (Hb3.out.trans (hcut.out.mono Hb3.out.size))
   clear hcut
   go_upto_region 14 with (fail)
   go_cut [13,14] from 41 to 184 (fun v1 v2 wd => (∃ ad cp,v1 = .slice ad 1 cp)∧v2 = .int .i64 0∧Hid (Below wc.heap.size wc wd))
   case first =>
    refine nmreg14 hT _ ?_
    rintro v0 v1 v2 v3 v4 v5 v6 v7 v8 v9 v10 v11 v12 v13 w' ⟨ad8,cp8,e8⟩ e9 hbb
    subst e8 e9
    go_wp2
    go_meet
    exact ⟨⟨_,_,rfl⟩,rfl,hbb⟩
   case rest =>
   obtain ⟨⟨ad1,cp1,rfl⟩,rfl,hcut⟩:=hcut
   have hT:=hT.frame hcut.out
   have Hb3:=Lib.hid (Hb3.out.trans (hcut.out.mono Hb3.out.size))
   clear hcut
   go_upto_region 15 with (fail)
   go_cut [15,16] from 41 to 196 (fun v1 v2 wd => (∃ ad cp,v1 = .slice ad 0 cp)∧v2 = .int .i64 30∧Hid (Below wc.heap.size wc wd))
   case first =>
    refine nmreg15 hT _ ?_
    rintro v0 v1 v2 v3 v4 v5 v6 v7 v8 v9 v10 v11 v12 v13 w' ⟨ad8,cp8,e8⟩ e9 hbb
    subst e8 e9
    go_wp2
    go_meet
    exact ⟨⟨_,_,rfl⟩,rfl,hbb⟩
   case rest =>
   obtain ⟨⟨ad2,cp2,rfl⟩,rfl,hcut⟩:=hcut
   have hT:=hT.frame hcut.out
   have Hb3:=Lib.hid (Hb3.out.trans (hcut.out.mono Hb3.out.size))
   clear hcut
   go_upto_region 16 with (fail)
   go_cut [17,18] from 41 to 203 (fun v1 v2 wd => (∃ ad cp,v1 = .slice ad 0 cp)∧v2 = .int .i64 0∧Hid (Below wc.heap.size wc wd))
   case first =>
    refine nmreg16 hT _ ?_
    rintro v0 v1 v2 v3 v4 v5 v6 v7 v8 w' ⟨ad8,cp8,e8⟩ e9 hbb
    subst e8 e9
    go_wp2
    go_meet
    exact ⟨⟨_,_,rfl⟩,rfl,hbb⟩
   case rest =>
   obtain ⟨⟨ad3,cp3,rfl⟩,rfl,hcut⟩:=hcut
   have hT:=hT.frame hcut.out
   have Hb3:=Lib.hid (Hb3.out.trans (hcut.out.mono Hb3.out.size))
   clear hcut
   have hmk:=mkC
   have hmf:=mkF
   go_upto_region 18 with (go_at_call 12;refine (fv17 hT).mono ?_;rintro e w4 ⟨ad4,cp4,rfl,hb4⟩)
   have hT:=hT.frame hb4
   have Hb3:=Lib.hid (Hb3.out.trans (hb4.mono Hb3.out.size))
   clear hb4
   go_cut [21,22] from 41 to 217 (fun v1 v2 wd => (∃ ad cp,v1 = .slice ad 0 cp)∧v2 = .int .i64 8∧Hid (Below w4.heap.size w4 wd))
   case first =>
    refine nmreg18 hT _ ?_
    rintro v0 v1 v2 v3 v4 v5 v6 v7 v8 w' ⟨ad8,cp8,e8⟩ e9 hbb
    subst e8 e9
    go_wp2
    go_meet
    exact ⟨⟨_,_,rfl⟩,rfl,hbb⟩
   case rest =>
   obtain ⟨⟨ad5,cp5,rfl⟩,rfl,hcut⟩:=hcut
   have hT:=hT.frame hcut.out
   have Hb3:=Lib.hid (Hb3.out.trans (hcut.out.mono Hb3.out.size))
   clear hcut
   go_upto_region 19 with (fail)
   have ye0:wc.cell? ⟨S1,0,none⟩=some (.slice (some ⟨K,0,none⟩) 2 2):=hT.s.e.cell (j:=0) rfl
   have ye1:wc.cell? ⟨S1,1,none⟩=some (.slice (some ⟨S1+1,0,none⟩) 2 2):=hT.s.e.cell (j:=1) rfl
   have y10:wc.cell? ⟨S9,0,none⟩=some (.int .u8 2):=hT.s.o1.cell (j:=0) rfl
   have y11:wc.cell? ⟨S9,1,none⟩=some (.string ⟨#[65,110,110]⟩):=hT.s.o1.cell (j:=1) rfl
   have y12:wc.cell? ⟨S9,2,none⟩=some (.string ⟨#[66,111,98]⟩):=hT.s.o1.cell (j:=2) rfl
   have y13:wc.cell? ⟨S9,3,none⟩=some (.string ⟨#[85,83,68]⟩):=hT.s.o1.cell (j:=3) rfl
   have y14:wc.cell? ⟨S9,4,none⟩=some (.int .u8 1):=hT.s.o1.cell (j:=4) rfl
   have y15:wc.cell? ⟨S9,5,none⟩=some (.string ⟨#[49]⟩):=hT.s.o1.cell (j:=5) rfl
   have y16:wc.cell? ⟨S9,6,none⟩=some (.string ⟨#[]⟩):=hT.s.o1.cell (j:=6) rfl
   have y17:wc.cell? ⟨S9,7,none⟩=some (.int .i64 0):=hT.s.o1.cell (j:=7) rfl
   have y18:wc.cell? ⟨S9,8,none⟩=some (.slice none 0 0):=hT.s.o1.cell (j:=8) rfl
   have y19:wc.cell? ⟨S9,9,none⟩=some (.int .i64 0):=hT.s.o1.cell (j:=9) rfl
   have y110:wc.cell? ⟨S9,10,none⟩=some (.slice none 0 0):=hT.s.o1.cell (j:=10) rfl
   have y111:wc.cell? ⟨S9,11,none⟩=some (.slice none 0 0):=hT.s.o1.cell (j:=11) rfl
   go_upto_region 20 with (go_at_call 12;refine (qf (-1) 2 0 hT (flat1 none _) (by decide) (v_out (by decide)) rfl).mono ?_;rintro e w5 ⟨ad6,cp6,rfl,hb5⟩)
   clear ye0 ye1 y10 y11 y12 y13 y14 y15 y16 y17 y18 y19 y110 y111
   have hT:=hT.frame hb5
   have Hb3:=Lib.hid (Hb3.out.trans (hb5.mono Hb3.out.size))
   clear hb5
   have ye0:w5.cell? ⟨S1,0,none⟩=some (.slice (some ⟨K,0,none⟩) 2 2):=hT.s.e.cell (j:=0) rfl
   have ye1:w5.cell? ⟨S1,1,none⟩=some (.slice (some ⟨S1+1,0,none⟩) 2 2):=hT.s.e.cell (j:=1) rfl
   have y10:w5.cell? ⟨S9,0,none⟩=some (.int .u8 2):=hT.s.o1.cell (j:=0) rfl
   have y11:w5.cell? ⟨S9,1,none⟩=some (.string ⟨#[65,110,110]⟩):=hT.s.o1.cell (j:=1) rfl
   have y12:w5.cell? ⟨S9,2,none⟩=some (.string ⟨#[66,111,98]⟩):=hT.s.o1.cell (j:=2) rfl
   have y13:w5.cell? ⟨S9,3,none⟩=some (.string ⟨#[85,83,68]⟩):=hT.s.o1.cell (j:=3) rfl
   have y14:w5.cell? ⟨S9,4,none⟩=some (.int .u8 1):=hT.s.o1.cell (j:=4) rfl
   have y15:w5.cell? ⟨S9,5,none⟩=some (.string ⟨#[49]⟩):=hT.s.o1.cell (j:=5) rfl
   have y16:w5.cell? ⟨S9,6,none⟩=some (.string ⟨#[]⟩):=hT.s.o1.cell (j:=6) rfl
   have y17:w5.cell? ⟨S9,7,none⟩=some (.int .i64 0):=hT.s.o1.cell (j:=7) rfl
   have y18:w5.cell? ⟨S9,8,none⟩=some (.slice none 0 0):=hT.s.o1.cell (j:=8) rfl
   have y19:w5.cell? ⟨S9,9,none⟩=some (.int .i64 0):=hT.s.o1.cell (j:=9) rfl
   have y110:w5.cell? ⟨S9,10,none⟩=some (.slice none 0 0):=hT.s.o1.cell (j:=10) rfl
   have y111:w5.cell? ⟨S9,11,none⟩=some (.slice none 0 0):=hT.s.o1.cell (j:=11) rfl
   go_upto_region 21 with (go_at_call 12;refine (qf 100000 2 0 hT (flat1 none _) (by decide) (v_out (by decide)) rfl).mono ?_;rintro e w6 ⟨ad7,cp7,rfl,hb5⟩)
   clear ye0 ye1 y10 y11 y12 y13 y14 y15 y16 y17 y18 y19 y110 y111
   have hT:=hT.frame hb5
   have Hb3:=Lib.hid (Hb3.out.trans (hb5.mono Hb3.out.size))
   clear hb5
   have ye0:w6.cell? ⟨S1,0,none⟩=some (.slice (some ⟨K,0,none⟩) 2 2):=hT.s.e.cell (j:=0) rfl
   have ye1:w6.cell? ⟨S1,1,none⟩=some (.slice (some ⟨S1+1,0,none⟩) 2 2):=hT.s.e.cell (j:=1) rfl
   have y10:w6.cell? ⟨S9,0,none⟩=some (.int .u8 2):=hT.s.o1.cell (j:=0) rfl
   have y11:w6.cell? ⟨S9,1,none⟩=some (.string ⟨#[65,110,110]⟩):=hT.s.o1.cell (j:=1) rfl
   have y12:w6.cell? ⟨S9,2,none⟩=some (.string ⟨#[66,111,98]⟩):=hT.s.o1.cell (j:=2) rfl
   have y13:w6.cell? ⟨S9,3,none⟩=some (.string ⟨#[85,83,68]⟩):=hT.s.o1.cell (j:=3) rfl
   have y14:w6.cell? ⟨S9,4,none⟩=some (.int .u8 1):=hT.s.o1.cell (j:=4) rfl
   have y15:w6.cell? ⟨S9,5,none⟩=some (.string ⟨#[49]⟩):=hT.s.o1.cell (j:=5) rfl
   have y16:w6.cell? ⟨S9,6,none⟩=some (.string ⟨#[]⟩):=hT.s.o1.cell (j:=6) rfl
   have y17:w6.cell? ⟨S9,7,none⟩=some (.int .i64 0):=hT.s.o1.cell (j:=7) rfl
   have y18:w6.cell? ⟨S9,8,none⟩=some (.slice none 0 0):=hT.s.o1.cell (j:=8) rfl
   have y19:w6.cell? ⟨S9,9,none⟩=some (.int .i64 0):=hT.s.o1.cell (j:=9) rfl
   have y110:w6.cell? ⟨S9,10,none⟩=some (.slice none 0 0):=hT.s.o1.cell (j:=10) rfl
   have y111:w6.cell? ⟨S9,11,none⟩=some (.slice none 0 0):=hT.s.o1.cell (j:=11) rfl
   go_upto_region 22 with (go_at_call 14;refine (qb 0 100001 2 0 hT (flat1 none _) (by decide) (v_out (by decide)) rfl).mono ?_;rintro e w7 ⟨ad8,cp8,rfl,hb5⟩)
   clear ye0 ye1 y10 y11 y12 y13 y14 y15 y16 y17 y18 y19 y110 y111
   have hT:=hT.frame hb5
   have Hb3:=Lib.hid (Hb3.out.trans (hb5.mono Hb3.out.size))
   clear hb5
   have ye0:w7.cell? ⟨S1,0,none⟩=some (.slice (some ⟨K,0,none⟩) 2 2):=hT.s.e.cell (j:=0) rfl
   have ye1:w7.cell? ⟨S1,1,none⟩=some (.slice (some ⟨S1+1,0,none⟩) 2 2):=hT.s.e.cell (j:=1) rfl
   have y10:w7.cell? ⟨S9,0,none⟩=some (.int .u8 2):=hT.s.o1.cell (j:=0) rfl
   have y11:w7.cell? ⟨S9,1,none⟩=some (.string ⟨#[65,110,110]⟩):=hT.s.o1.cell (j:=1) rfl
   have y12:w7.cell? ⟨S9,2,none⟩=some (.string ⟨#[66,111,98]⟩):=hT.s.o1.cell (j:=2) rfl
   have y13:w7.cell? ⟨S9,3,none⟩=some (.string ⟨#[85,83,68]⟩):=hT.s.o1.cell (j:=3) rfl
   have y14:w7.cell? ⟨S9,4,none⟩=some (.int .u8 1):=hT.s.o1.cell (j:=4) rfl
   have y15:w7.cell? ⟨S9,5,none⟩=some (.string ⟨#[49]⟩):=hT.s.o1.cell (j:=5) rfl
   have y16:w7.cell? ⟨S9,6,none⟩=some (.string ⟨#[]⟩):=hT.s.o1.cell (j:=6) rfl
   have y17:w7.cell? ⟨S9,7,none⟩=some (.int .i64 0):=hT.s.o1.cell (j:=7) rfl
   have y18:w7.cell? ⟨S9,8,none⟩=some (.slice none 0 0):=hT.s.o1.cell (j:=8) rfl
   have y19:w7.cell? ⟨S9,9,none⟩=some (.int .i64 0):=hT.s.o1.cell (j:=9) rfl
   have y110:w7.cell? ⟨S9,10,none⟩=some (.slice none 0 0):=hT.s.o1.cell (j:=10) rfl
   have y111:w7.cell? ⟨S9,11,none⟩=some (.slice none 0 0):=hT.s.o1.cell (j:=11) rfl
   go_upto_region 23 with (go_at_call 14;refine (qb 0 (-1) 2 0 hT (flat1 none _) (by decide) (v_out (by decide)) rfl).mono ?_;rintro e w8 ⟨ad9,cp9,rfl,hb5⟩)
   clear ye0 ye1 y10 y11 y12 y13 y14 y15 y16 y17 y18 y19 y110 y111
   have hT:=hT.frame hb5
   have Hb3:=Lib.hid (Hb3.out.trans (hb5.mono Hb3.out.size))
   clear hb5
   go_upto_region 24 with (go_at_call 35;refine (net_many _).mono ?_;rintro e w9 ⟨rfl,hb5⟩)
   have hT:=hT.frame hb5
   have Hb3:=Lib.hid (Hb3.out.trans (hb5.mono Hb3.out.size))
   clear hb5
   go_upto_region 25 with (go_at_call 35;refine (net_arg _).mono ?_;rintro e w10 ⟨rfl,hb5⟩)
   have hT:=hT.frame hb5
   have Hb3:=Lib.hid (Hb3.out.trans (hb5.mono Hb3.out.size))
   clear hb5
   go_upto_region 26 with (go_at_call 35;refine (net_nil _).mono ?_;rintro e w11 ⟨rfl,hb5⟩)
   have hT:=hT.frame hb5
   have Hb3:=Lib.hid (Hb3.out.trans (hb5.mono Hb3.out.size))
   clear hb5
   go_upto_region 28 with (fail)
   obtain ⟨V4,hV4,hb5,bF,rF⟩:=nm_w26 w11
   rw [hV4]
   clear hV4 hmk hmf
   have hT:=hT.frame hb5
   have Hb3:=Lib.hid (Hb3.out.trans (hb5.mono Hb3.out.size))
   clear hb5
   generalize w11.heap.size=SF at *
   have HF:=Lib.hid bF
   have HR:=Lib.hid rF
   have HT:=Lib.hid hT
   clear bF rF hT
   go_wp2_with fail
   go_loopw [39] (fun i wr => ∃ k:Nat,k≤7∧i = .int .i64 k∧Hid (Below V4.heap.size V4 wr)) (fun i _ => 7 - (intOf i).toNat)
   case atStart => exact ⟨0,by omega,rfl,Lib.hid (Below.refl _ _)⟩
   case round =>
    obtain ⟨k,hk,rfl,hbel⟩:=hrel
    by_cases hlt:k < 7
    ·have hk1:(0:Int)≤(k:Int):=by omega
     have hk2:(k:Int) < 7:=by omega
     obtain ⟨f,hf⟩:∃ f,badL[k]? = some f:=⟨_,List.getElem?_eq_getElem (by show k < 7;exact hlt)⟩
     have hbF:=HF.out.below hbel.out HF.out.lt
     have hbR:∀ i u,f.cells[i]? = some u→wr.cell? ⟨SF+1,k * 5+i,none⟩=some u:=fun i u hu => cellB hbel.out (HR.out k f hf i u hu)
     have HbF:=Lib.hid hbF
     have HbR:=Lib.hid hbR
     have Hf:=Lib.hid hf
     clear hbF hbR hf HF HR HT
     go_upto_region 31 with (fail)
     have hbF:=HbF.out
     have hbR:=HbR.out
     have hf:=Hf.out
     refine wp_region_invc (fun L aa w' => ∃ v0 v1 v2 v3 v4 v5 v6 v7,aa=⟨#[u0,.pointer (some ⟨S1,0,none⟩),.pointer (some ⟨S4+1,0,none⟩),.pointer (some ⟨S9,0,none⟩),.pointer (some ⟨S9+1,0,none⟩),.func (.func 30) #[] #[],.func (.func 31) #[] #[],.func (.func 32) #[] #[.pointer (some ⟨S9,0,none⟩)],.func (.func 33) #[] #[.pointer (some ⟨S9,0,none⟩),.pointer (some ⟨S9+1,0,none⟩)],.pointer (some ⟨B,0,none⟩),.pointer (some ⟨S10+1+1,0,none⟩),.pointer (some ⟨S11+1,0,none⟩),.bool true,.slice ad1 1 cp1,.int .i64 0,.slice ad2 0 cp2,.int .i64 30,.slice ad3 0 cp3,.int .i64 0,.slice ad4 0 cp4,.int .i64 8,.slice ad5 0 cp5,.int .i64 8,.slice ad6 0 cp6,.int .i64 2,.slice ad7 0 cp7,.int .i64 2,.slice ad8 0 cp8,.int .i64 2,.slice ad9 0 cp9,.int .i64 2,.string ⟨#[]⟩,.int .i64 4,.string ⟨#[]⟩,.int .i64 2,.string ⟨#[48]⟩,.int .i64 0,.pointer (some ⟨SF,0,none⟩),.slice (some ⟨SF+1,0,none⟩) 7 7,.int .i64 k,undef,u41,u42,u43,u44,u45,u46,u47,u48,u49,u50,u51,u52,u53,u54,u55,u56,u57,u58,u59,u60,u61,u62,u63,u64,u65,u66,u67,u68,u69,u70,u71,u72,u73,u74,u75,u76,u77,u78,u79,u80,u81,u82,u83,u84,u85,u86,u87,u88,u89,u90,u91,u92,u93,u94,u95,u96,u97,u98,u99,u100,u101,u102,u103,u104,u105,u106,u107,u108,u109,u110,u111,u112,u113,u114,u115,u116,u117,u118,u119,u120,u121,u122,u123,u124,u125,u126,u127,u128,u129,u130,u131,u132,u133,u134,u135,u136,u137,u138,u139,u140,u141,u142,u143,u144,u145,u146,u147,u148,u149,u150,u151,u152,u153,u154,u155,u156,u157,u158,u159,u160,u161,u162,u163,u164,u165,u166,u167,u168,u169,u170,u171,u172,u173,u174,u175,u176,u177,u178,u179,u180,u181,u182,u183,u184,u185,u186,u187,u188,u189,u190,u191,u192,u193,u194,u195,u196,u197,u198,u199,u200,u201,u202,u203,u204,u205,u206,u207,u208,u209,u210,u211,u212,u213,u214,u215,u216,u217,.tuple #[.slice ad6 0 cp6,.int .i64 2],.agg #[.int .u8 2,.string ⟨#[65,110,110]⟩,.string ⟨#[66,111,98]⟩,.string ⟨#[85,83,68]⟩,.int .u8 1,.string ⟨#[49]⟩,.string ⟨#[]⟩,.int .i64 0,.slice none 0 0,.int .i64 0,.slice none 0 0,.slice none 0 0],.agg #[.slice (some ⟨K,0,none⟩) 2 2,.slice (some ⟨S1+1,0,none⟩) 2 2],.tuple #[.slice ad6 0 cp6,.int .i64 2],.slice ad6 0 cp6,.int .i64 2,.tuple #[.slice ad7 0 cp7,.int .i64 2],.agg #[.int .u8 2,.string ⟨#[65,110,110]⟩,.string ⟨#[66,111,98]⟩,.string ⟨#[85,83,68]⟩,.int .u8 1,.string ⟨#[49]⟩,.string ⟨#[]⟩,.int .i64 0,.slice none 0 0,.int .i64 0,.slice none 0 0,.slice none 0 0],.agg #[.slice (some ⟨K,0,none⟩) 2 2,.slice (some ⟨S1+1,0,none⟩) 2 2],.tuple #[.slice ad7 0 cp7,.int .i64 2],.slice ad7 0 cp7,.int .i64 2,.tuple #[.slice ad8 0 cp8,.int .i64 2],.agg #[.int .u8 2,.string ⟨#[65,110,110]⟩,.string ⟨#[66,111,98]⟩,.string ⟨#[85,83,68]⟩,.int .u8 1,.string ⟨#[49]⟩,.string ⟨#[]⟩,.int .i64 0,.slice none 0 0,.int .i64 0,.slice none 0 0,.slice none 0 0],.agg #[.slice (some ⟨K,0,none⟩) 2 2,.slice (some ⟨S1+1,0,none⟩) 2 2],.tuple #[.slice ad8 0 cp8,.int .i64 2],.slice ad8 0 cp8,.int .i64 2,.tuple #[.slice ad9 0 cp9,.int .i64 2],.agg #[.int .u8 2,.string ⟨#[65,110,110]⟩,.string ⟨#[66,111,98]⟩,.string ⟨#[85,83,68]⟩,.int .u8 1,.string ⟨#[49]⟩,.string ⟨#[]⟩,.int .i64 0,.slice none 0 0,.int .i64 0,.slice none 0 0,.slice none 0 0],.agg #[.slice (some ⟨K,0,none⟩) 2 2,.slice (some ⟨S1+1,0,none⟩) 2 2],.tuple #[.slice ad9 0 cp9,.int .i64 2],.slice ad9 0 cp9,.int .i64 2,.tuple #[.string ⟨#[]⟩,.int .i64 4],.slice (some ⟨w8.heap.size,0,none⟩) 5001 5001,.tuple #[.string ⟨#[]⟩,.int .i64 4],.string ⟨#[]⟩,.int .i64 4,.tuple #[.string ⟨#[]⟩,.int .i64 2],.tuple #[.string ⟨#[]⟩,.int .i64 2],.string ⟨#[]⟩,.int .i64 2,.tuple #[.string ⟨#[48]⟩,.int .i64 0],.tuple #[.string ⟨#[48]⟩,.int .i64 0],.string ⟨#[48]⟩,.int .i64 0,.agg #[.int .i64 3,.string ⟨#[65]⟩,.string ⟨#[66]⟩,.string ⟨#[67]⟩,.string ⟨#[49,47,50]⟩],.agg #[.int .i64 3,.string ⟨#[65]⟩,.string ⟨#[65]⟩,.string ⟨#[67]⟩,.string ⟨#[49]⟩],.agg #[.int .i64 3,.string ⟨#[65]⟩,.string ⟨#[66]⟩,.string ⟨#[]⟩,.string ⟨#[49]⟩],.agg #[.int .i64 3,.string ⟨#[65]⟩,.string ⟨#[66]⟩,.string ⟨#[67]⟩,.string ⟨#[48]⟩],.agg #[.int .i64 3,.string ⟨#[65]⟩,.string ⟨#[66]⟩,.string ⟨#[67]⟩,.string ⟨#[45,49]⟩],.agg #[.int .i64 3,.string ⟨#[65]⟩,.string ⟨#[66]⟩,.string ⟨#[67]⟩,.string ⟨#[]⟩],.agg #[.int .i64 (-1),.string ⟨#[65]⟩,.string ⟨#[66]⟩,.string ⟨#[67]⟩,.string ⟨#[49]⟩],.agg #[.int .i64 2,.string ⟨#[65]⟩,.string ⟨#[66]⟩,.string ⟨#[67]⟩,.string ⟨#[49]⟩],.slice (some ⟨SF+1,0,none⟩) 7 7,.int .i64 k,.slice (some ⟨SF+1,0,none⟩) 7 7,.int .i64 7,.bool true,u268,u269,v0,v1,v2,v3,v4,v5,v6,v7,undef,undef,undef,undef,undef,undef,undef,undef,undef,undef,undef,undef,undef,undef,undef,undef,undef,undef,undef,undef,undef,undef,undef,undef,undef,undef,undef,undef,undef,undef,undef,undef,undef,undef,undef,undef,undef,undef,undef,undef,undef,undef,undef,undef,undef,undef,undef,undef,undef,undef,undef,undef,undef,undef,undef,undef,undef,undef,undef,undef,undef,undef,undef,undef,undef,undef,undef,undef,undef,undef,undef,undef,undef,undef,undef,undef],[]⟩∧DInv wr w' (fs31 SF k f) [v0,v1,v2,v3,v4,v5,v6,v7] L) (by kernel_rfl) (by kernel_rfl) ?_ ?_ ?_
     ·exact ⟨_,_,_,_,_,_,_,_,rfl,DInv.start (below_drewN (Below.refl _ _) 1)⟩
     ·rintro L aa w' ⟨v0,v1,v2,v3,v4,v5,v6,v7,rfl,h⟩ hc i0 op9 ho hL hp
      have hi9:i0 < 8:=by simpa using (Array.getElem?_eq_some_iff.1 ho).1
      have hi2:i0=0∨i0=1∨i0=2∨i0=3∨i0=4∨i0=5∨i0=6∨i0=7:=by omega
      clear hi9
      rcases hi2 with rfl | rfl | rfl | rfl | rfl | rfl | rfl | rfl
      ·refine wpOp_step rfl ?_
       intro K9 hK
       have hB:=hbF.below h.b hbF.lt
       have y0:w'.cell? ⟨SF,0,none⟩=some (.int .i64 3):=hB.cell (j:=0) rfl
       have y1:w'.cell? ⟨SF,1,none⟩=some (.string ⟨#[65]⟩):=hB.cell (j:=1) rfl
       have y2:w'.cell? ⟨SF,2,none⟩=some (.string ⟨#[66]⟩):=hB.cell (j:=2) rfl
       have y3:w'.cell? ⟨SF,3,none⟩=some (.string ⟨#[67]⟩):=hB.cell (j:=3) rfl
       have y4:w'.cell? ⟨SF,4,none⟩=some (.string ⟨#[49,47,50]⟩):=hB.cell (j:=4) rfl
       go_simp
       exact hK _ _ ⟨_,_,_,_,_,_,_,_,rfl,h.step (Below.refl _ _) (i:=0) (F:=.lit (.agg #[.int .i64 3,.string ⟨#[65]⟩,.string ⟨#[66]⟩,.string ⟨#[67]⟩,.string ⟨#[49,47,50]⟩])) rfl (rfl)⟩
      ·refine wpOp_step rfl ?_
       intro K9 hK
       go_simp
       exact hK _ _ ⟨_,_,_,_,_,_,_,_,rfl,h.step (Below.refl _ _) (i:=1) (F:=.lit (.slice (some ⟨SF+1,0,none⟩) 7 7)) rfl (rfl)⟩
      ·refine wpOp_step rfl ?_
       intro K9 hK
       go_simp
       exact hK _ _ ⟨_,_,_,_,_,_,_,_,rfl,h.step (Below.refl _ _) (i:=2) (F:=.lit (.int .i64 k)) rfl (rfl)⟩
      ·refine wpOp_step rfl ?_
       intro K9 hK
       have f1:=h.lit (i:=1) (u:=.slice (some ⟨SF+1,0,none⟩) 7 7) (pred_spec ho hp (j:=1) (by kernel_rfl)) rfl rfl
       subst f1
       have f2:=h.lit (i:=2) (u:=.int .i64 k) (pred_spec ho hp (j:=2) (by kernel_rfl)) rfl rfl
       subst f2
       go_simp
       exact hK _ _ ⟨_,_,_,_,_,_,_,_,rfl,h.step (Below.refl _ _) (i:=3) (F:=.lit (.pointer (some ⟨SF+1,k * 5,none⟩))) rfl (rfl)⟩
      ·refine wpOp_step rfl ?_
       intro K9 hK
       have f3:=h.lit (i:=3) (u:=.pointer (some ⟨SF+1,k * 5,none⟩)) (pred_spec ho hp (j:=3) (by kernel_rfl)) rfl rfl
       subst f3
       have y0:w'.cell? ⟨SF+1,k * 5,none⟩=some (.int .i64 f.d):=cellB h.b (hbR 0 _ rfl)
       have y1:w'.cell? ⟨SF+1,k * 5+1,none⟩=some (.string f.fr):=cellB h.b (hbR 1 _ rfl)
       have y2:w'.cell? ⟨SF+1,k * 5+2,none⟩=some (.string f.rc):=cellB h.b (hbR 2 _ rfl)
       have y3:w'.cell? ⟨SF+1,k * 5+3,none⟩=some (.string f.cy):=cellB h.b (hbR 3 _ rfl)
       have y4:w'.cell? ⟨SF+1,k * 5+4,none⟩=some (.string f.am):=cellB h.b (hbR 4 _ rfl)
       go_simp
       exact hK _ _ ⟨_,_,_,_,_,_,_,_,rfl,h.step (Below.refl _ _) (i:=4) (F:=.lit (.agg #[.int .i64 f.d,.string f.fr,.string f.rc,.string f.cy,.string f.am])) rfl (rfl)⟩
      ·refine wpOp_step rfl ?_
       intro K9 hK
       have f0:=h.lit (i:=0) (u:=.agg #[.int .i64 3,.string ⟨#[65]⟩,.string ⟨#[66]⟩,.string ⟨#[67]⟩,.string ⟨#[49,47,50]⟩]) (pred_spec ho hp (j:=0) (by kernel_rfl)) rfl rfl
       subst f0
       have f4:=h.lit (i:=4) (u:=.agg #[.int .i64 f.d,.string f.fr,.string f.rc,.string f.cy,.string f.am]) (pred_spec ho hp (j:=4) (by kernel_rfl)) rfl rfl
       subst f4
       go_simp
       exact hK _ _ ⟨_,_,_,_,_,_,_,_,rfl,h.step (below_a1 _ _) (i:=5) (F:=.fr flG f) rfl (fr_new _ flG f)⟩
      ·refine wpOp_step rfl ?_
       intro K9 hK
       have f5:=h.at (i:=5) (F:=.fr flG f) (pred_spec ho hp (j:=5) (by kernel_rfl)) rfl rfl
       go_simp
       refine (chk_two flG_small (bad_small hf) (pair_bad hf) f5).mono ?_
       rintro e w4 ⟨rfl,hb4⟩
       exact hK _ _ ⟨_,_,_,_,_,_,_,_,rfl,h.step (hb4) (i:=6) (F:=.lit (.int .i64 8)) rfl (rfl)⟩
      ·refine wpOp_step rfl ?_
       intro K9 hK
       have f6:=h.lit (i:=6) (u:=.int .i64 8) (pred_spec ho hp (j:=6) (by kernel_rfl)) rfl rfl
       subst f6
       go_simp
       exact hK _ _ ⟨_,_,_,_,_,_,_,_,rfl,h.step (Below.refl _ _) (i:=7) (F:=.lit (.bool false)) rfl (rfl)⟩
     ·rintro L aa w' ⟨v0,v1,v2,v3,v4,v5,v6,v7,rfl,h⟩ hall
      have e9:=h.lit (i:=7) (u:=.bool false) (hall 7 (by decide)) rfl rfl
      subst e9
      have hbb:=Lib.hid (hbel.out.trans (h.b.mono hbel.out.size))
      clear h hall
      go_wp2_with fail
      go_roundw
      case rel =>
       refine ⟨_,_,_,_,_,_,_,_,_,_,_,_,_,_,_,_,?_,rfl⟩
       exact ⟨k+1,by omega,by go_num,hbb⟩
      case measure => simp [intOf];omega
    ·have hk2 : ¬ (k:Int) < 7:=by omega
     have hT:=HT.out.frame hbel.out
     have Hb3:=Lib.hid (Hb3.out.trans (hbel.out.mono Hb3.out.size))
     have yF:=HF.out.below hbel.out HF.out.lt
     clear HR hbel HT HF
     go_upto_region 33 with (fail)
     have HAl:=Lib.hid (alive10_any wr hT.s.k)
     go_upto_region 34 with (fail)
     go_wp2_with fail
     refine (HAl.out).mono ?_
     rintro e w12 ⟨rfl,hb5⟩
     have yF:=yF.below hb5 yF.lt
     have Hb3:=Lib.hid (Hb3.out.trans (hb5.mono Hb3.out.size))
     clear hb5 hT
     have y0:w12.cell? ⟨SF,0,none⟩=some (.int .i64 3):=yF.cell (j:=0) rfl
     have y1:w12.cell? ⟨SF,1,none⟩=some (.string ⟨#[65]⟩):=yF.cell (j:=1) rfl
     have y2:w12.cell? ⟨SF,2,none⟩=some (.string ⟨#[66]⟩):=yF.cell (j:=2) rfl
     have y3:w12.cell? ⟨SF,3,none⟩=some (.string ⟨#[67]⟩):=yF.cell (j:=3) rfl
     have y4:w12.cell? ⟨SF,4,none⟩=some (.string ⟨#[49,47,50]⟩):=yF.cell (j:=4) rfl
     have HCk:=Lib.hid (chk_two flG_small flG_small pairG_ok (fr_new w12 flG flG))
     have zF:=yF.lt
     go_wp2_with (go_at_call 36;refine (HCk.out).mono ?_;rintro e w13 ⟨rfl,hb5⟩)
     have hb6:=(below_a1 w12 _).trans (hb5.mono (below_a1 w12 _).size)
     have hb7:=Hb3.out.trans (hb6.mono Hb3.out.size)
     clear hb5 hb6 HCk yF zF y0 y1 y2 y3 y4
     go_ret
     exact ⟨rfl,hb7⟩
end Go.Proofs.YtknpnhodpgajbaaGreatDoor
