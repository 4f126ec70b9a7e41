/-
  Law 10, MeaningNames: its small drawn regions.  Printed by tools/gendr.py.
-/
import Derived.Test.YtknpnhodpgajbaaGreatDoorE35
namespace Go.Proofs.YtknpnhodpgajbaaGreatDoor
open Go.RowKit
def cdA:Code→Code
 | .seq a _ => a
 | .cond _ a _ => a
 | .block _ a => a
 | .loop a => a
 | .scope a => a
 | c => c
def cdB:Code→Code
 | .seq _ b => b
 | .cond _ _ b => b
 | c => c
def cdOps:Code→Array Oper
 | .region _ o _ => o
 | _ => #[]
noncomputable def nmops14:Array Oper:=cdOps (cdA (cdB (cdB (cdB (cdB (cdB (cdB (cdB (cdB (cdB (cdB (cdB (cdB (cdB (cdB (Tryz.f8.body.getD .skip))))))))))))))))
set_option maxHeartbeats 8000000 in
set_option maxRecDepth 100000 in
theorem nmreg14 {wc:World} {K S1 S4 S9 B S10 S11:Nat} {dd ss:Value} {u41 u42 u43 u44 u45 u46 u47 u48 u49 u50 u51 u52 u53 u54 u55 u56 u57 u58 u59 u60 u61 u62 u63 u64 u65 u66 u67 u68 u69 u70 u71 u72 u73 u74 u75 u76 u77 u78 u79 u80 u81 u82 u83 u84 u85 u86 u87 u88 u89 u90 u91 u92 u93 u94 u95 u96 u97 u98 u99 u100 u101 u102 u103 u104 u105 u106 u107 u108 u109 u110 u111 u112 u113 u114 u115 u116 u117 u118 u119 u120 u121 u122 u123 u124 u125 u126 u127 u128 u129 u130 u131 u132 u133 u134 u135 u136 u137 u138 u139 u140 u141 u142 u143 u144 u145 u146 u147 u148 u149 u150 u151 u152 u153 u154 u155 u156 u157 u158 u159 u160 u161 u162 u163 u164 u165 u166 u167 u168 u169 u170 u171 u172 z0 z1 z2 z3 z4 z5 z6 z7 z8 z9 z10 z11 z12 z13:Value} (hT:NmT wc K S1 S4 S9 B S10 S11 dd ss) (Q:Exit→Act→World→Prop)
  (hQ:∀ (v0 v1 v2 v3 v4 v5 v6 v7 v8 v9 v10 v11 v12 v13:Value) (w':World),(∃ ad cp,v12 = .slice ad 1 cp)→v13 = .int .i64 0→Hid (Below wc.heap.size wc w')→Q .normal ⟨#[.bool false,.pointer (some ⟨S1,0,none⟩),.pointer (some ⟨S4+1,0,none⟩),.pointer (some ⟨S9,0,none⟩),.pointer (some ⟨S9+1,0,none⟩),.func (.func 30) #[] #[],.func (.func 31) #[] #[],.func (.func 32) #[] #[.pointer (some ⟨S9,0,none⟩)],.func (.func 33) #[] #[.pointer (some ⟨S9,0,none⟩),.pointer (some ⟨S9+1,0,none⟩)],.pointer (some ⟨B,0,none⟩),.pointer (some ⟨S10+1+1,0,none⟩),.pointer (some ⟨S11+1,0,none⟩),.bool true,v12,v13,undef,undef,undef,undef,undef,undef,undef,undef,undef,undef,undef,undef,undef,undef,undef,undef,undef,undef,undef,undef,undef,undef,undef,undef,undef,undef,u41,u42,u43,u44,u45,u46,u47,u48,u49,u50,u51,u52,u53,u54,u55,u56,u57,u58,u59,u60,u61,u62,u63,u64,u65,u66,u67,u68,u69,u70,u71,u72,u73,u74,u75,u76,u77,u78,u79,u80,u81,u82,u83,u84,u85,u86,u87,u88,u89,u90,u91,u92,u93,u94,u95,u96,u97,u98,u99,u100,u101,u102,u103,u104,u105,u106,u107,u108,u109,u110,u111,u112,u113,u114,u115,u116,u117,u118,u119,u120,u121,u122,u123,u124,u125,u126,u127,u128,u129,u130,u131,u132,u133,u134,u135,u136,u137,u138,u139,u140,u141,u142,u143,u144,u145,u146,u147,u148,u149,u150,u151,u152,u153,u154,u155,u156,u157,u158,u159,u160,u161,u162,u163,u164,u165,u166,u167,u168,u169,u170,u171,u172,v9,v0,v1,v2,v3,v4,v5,v6,v7,v8,v10,v11,undef,undef,undef,undef,undef,undef,undef,undef,undef,undef,undef,undef,undef,undef,undef,undef,undef,undef,undef,undef,undef,undef,undef,undef,undef,undef,undef,undef,undef,undef,undef,undef,undef,undef,undef,undef,undef,undef,undef,undef,undef,undef,undef,undef,undef,undef,undef,undef,undef,undef,undef,undef,undef,undef,undef,undef,undef,undef,undef,undef,undef,undef,undef,undef,undef,undef,undef,undef,undef,undef,undef,undef,undef,undef,undef,undef,undef,undef,undef,undef,undef,undef,undef,undef,undef,undef,undef,undef,undef,undef,undef,undef,undef,undef,undef,undef,undef,undef,undef,undef,undef,undef,undef,undef,undef,undef,undef,undef,undef,undef,undef,undef,undef,undef,undef,undef,undef,undef,undef,undef,undef,undef,undef,undef,undef,undef,undef,undef,undef,undef,undef,undef,undef,undef,undef,undef,undef,undef,undef,undef,undef,undef,undef,undef,undef,undef,undef,undef,undef,undef,undef,undef,undef,undef,undef,undef,undef,undef,undef,undef,undef,undef,undef,undef,undef,undef,undef,undef,undef],[]⟩ w') :
  (Code.region 14 nmops14 true).wp Tryz.prog Q ⟨#[.bool false,.pointer (some ⟨S1,0,none⟩),.pointer (some ⟨S4+1,0,none⟩),.pointer (some ⟨S9,0,none⟩),.pointer (some ⟨S9+1,0,none⟩),.func (.func 30) #[] #[],.func (.func 31) #[] #[],.func (.func 32) #[] #[.pointer (some ⟨S9,0,none⟩)],.func (.func 33) #[] #[.pointer (some ⟨S9,0,none⟩),.pointer (some ⟨S9+1,0,none⟩)],.pointer (some ⟨B,0,none⟩),.pointer (some ⟨S10+1+1,0,none⟩),.pointer (some ⟨S11+1,0,none⟩),.bool true,z12,z13,undef,undef,undef,undef,undef,undef,undef,undef,undef,undef,undef,undef,undef,undef,undef,undef,undef,undef,undef,undef,undef,undef,undef,undef,undef,undef,u41,u42,u43,u44,u45,u46,u47,u48,u49,u50,u51,u52,u53,u54,u55,u56,u57,u58,u59,u60,u61,u62,u63,u64,u65,u66,u67,u68,u69,u70,u71,u72,u73,u74,u75,u76,u77,u78,u79,u80,u81,u82,u83,u84,u85,u86,u87,u88,u89,u90,u91,u92,u93,u94,u95,u96,u97,u98,u99,u100,u101,u102,u103,u104,u105,u106,u107,u108,u109,u110,u111,u112,u113,u114,u115,u116,u117,u118,u119,u120,u121,u122,u123,u124,u125,u126,u127,u128,u129,u130,u131,u132,u133,u134,u135,u136,u137,u138,u139,u140,u141,u142,u143,u144,u145,u146,u147,u148,u149,u150,u151,u152,u153,u154,u155,u156,u157,u158,u159,u160,u161,u162,u163,u164,u165,u166,u167,u168,u169,u170,u171,u172,z9,z0,z1,z2,z3,z4,z5,z6,z7,z8,z10,z11,undef,undef,undef,undef,undef,undef,undef,undef,undef,undef,undef,undef,undef,undef,undef,undef,undef,undef,undef,undef,undef,undef,undef,undef,undef,undef,undef,undef,undef,undef,undef,undef,undef,undef,undef,undef,undef,undef,undef,undef,undef,undef,undef,undef,undef,undef,undef,undef,undef,undef,undef,undef,undef,undef,undef,undef,undef,undef,undef,undef,undef,undef,undef,undef,undef,undef,undef,undef,undef,undef,undef,undef,undef,undef,undef,undef,undef,undef,undef,undef,undef,undef,undef,undef,undef,undef,undef,undef,undef,undef,undef,undef,undef,undef,undef,undef,undef,undef,undef,undef,undef,undef,undef,undef,undef,undef,undef,undef,undef,undef,undef,undef,undef,undef,undef,undef,undef,undef,undef,undef,undef,undef,undef,undef,undef,undef,undef,undef,undef,undef,undef,undef,undef,undef,undef,undef,undef,undef,undef,undef,undef,undef,undef,undef,undef,undef,undef,undef,undef,undef,undef,undef,undef,undef,undef,undef,undef,undef,undef,undef,undef,undef,undef,undef,undef,undef,undef,undef,undef],[]⟩ wc:=by
 have HNw:=Lib.hid (fun n W => now10_any n W)
 have HCo:=Lib.hid (fun r W => con10_any r W)
 have HPa:=Lib.hid (fun k r n d ad m cap W => pay10_any k r n d ad m cap W)
 unfold nmops14
 dsimp only [cdOps,cdA,cdB,Tryz.f8,Option.getD]
 refine wp_region_invc (fun L aa w' => ∃ v0 v1 v2 v3 v4 v5 v6 v7 v8 v9 v10 v11 v12 v13,aa=⟨#[.bool false,.pointer (some ⟨S1,0,none⟩),.pointer (some ⟨S4+1,0,none⟩),.pointer (some ⟨S9,0,none⟩),.pointer (some ⟨S9+1,0,none⟩),.func (.func 30) #[] #[],.func (.func 31) #[] #[],.func (.func 32) #[] #[.pointer (some ⟨S9,0,none⟩)],.func (.func 33) #[] #[.pointer (some ⟨S9,0,none⟩),.pointer (some ⟨S9+1,0,none⟩)],.pointer (some ⟨B,0,none⟩),.pointer (some ⟨S10+1+1,0,none⟩),.pointer (some ⟨S11+1,0,none⟩),.bool true,v12,v13,undef,undef,undef,undef,undef,undef,undef,undef,undef,undef,undef,undef,undef,undef,undef,undef,undef,undef,undef,undef,undef,undef,undef,undef,undef,undef,u41,u42,u43,u44,u45,u46,u47,u48,u49,u50,u51,u52,u53,u54,u55,u56,u57,u58,u59,u60,u61,u62,u63,u64,u65,u66,u67,u68,u69,u70,u71,u72,u73,u74,u75,u76,u77,u78,u79,u80,u81,u82,u83,u84,u85,u86,u87,u88,u89,u90,u91,u92,u93,u94,u95,u96,u97,u98,u99,u100,u101,u102,u103,u104,u105,u106,u107,u108,u109,u110,u111,u112,u113,u114,u115,u116,u117,u118,u119,u120,u121,u122,u123,u124,u125,u126,u127,u128,u129,u130,u131,u132,u133,u134,u135,u136,u137,u138,u139,u140,u141,u142,u143,u144,u145,u146,u147,u148,u149,u150,u151,u152,u153,u154,u155,u156,u157,u158,u159,u160,u161,u162,u163,u164,u165,u166,u167,u168,u169,u170,u171,u172,v9,v0,v1,v2,v3,v4,v5,v6,v7,v8,v10,v11,undef,undef,undef,undef,undef,undef,undef,undef,undef,undef,undef,undef,undef,undef,undef,undef,undef,undef,undef,undef,undef,undef,undef,undef,undef,undef,undef,undef,undef,undef,undef,undef,undef,undef,undef,undef,undef,undef,undef,undef,undef,undef,undef,undef,undef,undef,undef,undef,undef,undef,undef,undef,undef,undef,undef,undef,undef,undef,undef,undef,undef,undef,undef,undef,undef,undef,undef,undef,undef,undef,undef,undef,undef,undef,undef,undef,undef,undef,undef,undef,undef,undef,undef,undef,undef,undef,undef,undef,undef,undef,undef,undef,undef,undef,undef,undef,undef,undef,undef,undef,undef,undef,undef,undef,undef,undef,undef,undef,undef,undef,undef,undef,undef,undef,undef,undef,undef,undef,undef,undef,undef,undef,undef,undef,undef,undef,undef,undef,undef,undef,undef,undef,undef,undef,undef,undef,undef,undef,undef,undef,undef,undef,undef,undef,undef,undef,undef,undef,undef,undef,undef,undef,undef,undef,undef,undef,undef,undef,undef,undef,undef,undef,undef,undef,undef,undef,undef,undef,undef],[]⟩∧DInv wc w' (fs14 K S1) [v0,v1,v2,v3,v4,v5,v6,v7,v8,v9,v10,v11,v12,v13] L) (by kernel_rfl) (by kernel_rfl) ?_ ?_ ?_
 ·exact ⟨_,_,_,_,_,_,_,_,_,_,_,_,_,_,rfl,DInv.start (below_drewN (Below.refl _ _) 1)⟩
 ·rintro L aa w' ⟨v0,v1,v2,v3,v4,v5,v6,v7,v8,v9,v10,v11,v12,v13,rfl,h⟩ hc i0 op9 ho hL hp
  have hi9:i0 < 14:=by simpa using (Array.getElem?_eq_some_iff.1 ho).1
  have hi2:i0=0∨i0=1∨i0=2∨i0=3∨i0=4∨i0=5∨i0=6∨i0=7∨i0=8∨i0=9∨i0=10∨i0=11∨i0=12∨i0=13:=by omega
  clear hi9
  rcases hi2 with rfl | rfl | rfl | rfl | rfl | rfl | rfl | rfl | rfl | rfl | rfl | rfl | rfl | rfl
  ·refine wpOp_step rfl ?_
   intro K9 hK
   go_simp
   exact hK _ _ ⟨_,_,_,_,_,_,_,_,_,_,_,_,_,_,rfl,h.step (Below.refl _ _) (i:=0) (F:=.lit (.func (.func 31) #[] #[])) rfl (rfl)⟩
  ·refine wpOp_step rfl ?_
   intro K9 hK
   have hT2:=hT.frame h.b
   have y0:w'.cell? ⟨S9,0,none⟩=some (.int .u8 2):=hT2.s.o1.cell (j:=0) rfl
   have y1:w'.cell? ⟨S9,1,none⟩=some (.string ⟨#[65,110,110]⟩):=hT2.s.o1.cell (j:=1) rfl
   have y2:w'.cell? ⟨S9,2,none⟩=some (.string ⟨#[66,111,98]⟩):=hT2.s.o1.cell (j:=2) rfl
   have y3:w'.cell? ⟨S9,3,none⟩=some (.string ⟨#[85,83,68]⟩):=hT2.s.o1.cell (j:=3) rfl
   have y4:w'.cell? ⟨S9,4,none⟩=some (.int .u8 1):=hT2.s.o1.cell (j:=4) rfl
   have y5:w'.cell? ⟨S9,5,none⟩=some (.string ⟨#[49]⟩):=hT2.s.o1.cell (j:=5) rfl
   have y6:w'.cell? ⟨S9,6,none⟩=some (.string ⟨#[]⟩):=hT2.s.o1.cell (j:=6) rfl
   have y7:w'.cell? ⟨S9,7,none⟩=some (.int .i64 0):=hT2.s.o1.cell (j:=7) rfl
   have y8:w'.cell? ⟨S9,8,none⟩=some (.slice none 0 0):=hT2.s.o1.cell (j:=8) rfl
   have y9:w'.cell? ⟨S9,9,none⟩=some (.int .i64 0):=hT2.s.o1.cell (j:=9) rfl
   have y10:w'.cell? ⟨S9,10,none⟩=some (.slice none 0 0):=hT2.s.o1.cell (j:=10) rfl
   have y11:w'.cell? ⟨S9,11,none⟩=some (.slice none 0 0):=hT2.s.o1.cell (j:=11) rfl
   clear hT2
   go_simp
   exact hK _ _ ⟨_,_,_,_,_,_,_,_,_,_,_,_,_,_,rfl,h.step (Below.refl _ _) (i:=1) (F:=.lit (.agg #[.int .u8 2,.string ⟨#[65,110,110]⟩,.string ⟨#[66,111,98]⟩,.string ⟨#[85,83,68]⟩,.int .u8 1,.string ⟨#[49]⟩,.string ⟨#[]⟩,.int .i64 0,.slice none 0 0,.int .i64 0,.slice none 0 0,.slice none 0 0])) rfl (rfl)⟩
  ·refine wpOp_step rfl ?_
   intro K9 hK
   go_simp
   exact hK _ _ ⟨_,_,_,_,_,_,_,_,_,_,_,_,_,_,rfl,h.step (Below.refl _ _) (i:=2) (F:=.lit (.func (.func 30) #[] #[])) rfl (rfl)⟩
  ·refine wpOp_step rfl ?_
   intro K9 hK
   go_simp
   have hT2:=hT.frame h.b
   refine (HNw.out _ w').mono ?_
   rintro e w4 ⟨rfl,hb4⟩
   clear hT2
   exact hK _ _ ⟨_,_,_,_,_,_,_,_,_,_,_,_,_,_,rfl,h.step (hb4) (i:=3) (F:=.lit (.agg #[.int .u8 3,.string ⟨#[]⟩,.string ⟨#[110,111,110,101]⟩,.int .i64 0,.slice none 0 0])) rfl (rfl)⟩
  ·refine wpOp_step rfl ?_
   intro K9 hK
   have f3:=h.lit (i:=3) (u:=.agg #[.int .u8 3,.string ⟨#[]⟩,.string ⟨#[110,111,110,101]⟩,.int .i64 0,.slice none 0 0]) (pred_spec ho hp (j:=3) (by kernel_rfl)) rfl rfl
   subst f3
   go_simp
   have hT2:=hT.frame h.b
   refine (HPa.out _ _ _ _ _ _ _ w').mono ?_
   rintro e w4 ⟨rfl,hb4⟩
   clear hT2
   exact hK _ _ ⟨_,_,_,_,_,_,_,_,_,_,_,_,_,_,rfl,h.step (hb4) (i:=4) (F:=.lit (.agg #[.int .u8 2,.string ⟨#[65,110,110]⟩,.string ⟨#[66,111,98]⟩,.string ⟨#[85,83,68]⟩,.int .u8 3,.string ⟨#[]⟩,.string ⟨#[110,111,110,101]⟩,.int .i64 0,.slice none 0 0,.int .i64 0,.slice none 0 0,.slice none 0 0])) rfl (rfl)⟩
  ·refine wpOp_step rfl ?_
   intro K9 hK
   have f2:=h.lit (i:=2) (u:=.func (.func 30) #[] #[]) (pred_spec ho hp (j:=2) (by kernel_rfl)) rfl rfl
   subst f2
   have f4:=h.lit (i:=4) (u:=.agg #[.int .u8 2,.string ⟨#[65,110,110]⟩,.string ⟨#[66,111,98]⟩,.string ⟨#[85,83,68]⟩,.int .u8 3,.string ⟨#[]⟩,.string ⟨#[110,111,110,101]⟩,.int .i64 0,.slice none 0 0,.int .i64 0,.slice none 0 0,.slice none 0 0]) (pred_spec ho hp (j:=4) (by kernel_rfl)) rfl rfl
   subst f4
   go_simp
   have hT2:=hT.frame h.b
   refine (at_any 8 (flatN none _)).mono ?_
   rintro e w4 ⟨u4,rfl,hu4,hb4⟩
   clear hT2
   exact hK _ _ ⟨_,_,_,_,_,_,_,_,_,_,_,_,_,_,rfl,h.step (hb4) (i:=5) (F:=.held (atM 8 cNone)) rfl (hu4)⟩
  ·refine wpOp_step rfl ?_
   intro K9 hK
   have f0:=h.lit (i:=0) (u:=.func (.func 31) #[] #[]) (pred_spec ho hp (j:=0) (by kernel_rfl)) rfl rfl
   subst f0
   have f1:=h.lit (i:=1) (u:=.agg #[.int .u8 2,.string ⟨#[65,110,110]⟩,.string ⟨#[66,111,98]⟩,.string ⟨#[85,83,68]⟩,.int .u8 1,.string ⟨#[49]⟩,.string ⟨#[]⟩,.int .i64 0,.slice none 0 0,.int .i64 0,.slice none 0 0,.slice none 0 0]) (pred_spec ho hp (j:=1) (by kernel_rfl)) rfl rfl
   subst f1
   have f5:=h.at (i:=5) (F:=.held (atM 8 cNone)) (pred_spec ho hp (j:=5) (by kernel_rfl)) rfl rfl
   go_simp
   have hT2:=hT.frame h.b
   refine (bo_any (flat1 none _) f5).mono ?_
   rintro e w4 ⟨u4,rfl,hu4,hb4⟩
   clear hT2
   exact hK _ _ ⟨_,_,_,_,_,_,_,_,_,_,_,_,_,_,rfl,h.step (hb4) (i:=6) (F:=.held (bothN cOne (atM 8 cNone))) rfl (hu4)⟩
  ·refine wpOp_step rfl ?_
   intro K9 hK
   have hT2:=hT.frame h.b
   have y0:w'.cell? ⟨S1,0,none⟩=some (.slice (some ⟨K,0,none⟩) 2 2):=hT2.s.e.cell (j:=0) rfl
   have y1:w'.cell? ⟨S1,1,none⟩=some (.slice (some ⟨S1+1,0,none⟩) 2 2):=hT2.s.e.cell (j:=1) rfl
   clear hT2
   go_simp
   exact hK _ _ ⟨_,_,_,_,_,_,_,_,_,_,_,_,_,_,rfl,h.step (Below.refl _ _) (i:=7) (F:=.lit (.agg #[.slice (some ⟨K,0,none⟩) 2 2,.slice (some ⟨S1+1,0,none⟩) 2 2])) rfl (rfl)⟩
  ·refine wpOp_step rfl ?_
   intro K9 hK
   have f6:=h.at (i:=6) (F:=.held (bothN cOne (atM 8 cNone))) (pred_spec ho hp (j:=6) (by kernel_rfl)) rfl rfl
   have f7:=h.lit (i:=7) (u:=.agg #[.slice (some ⟨K,0,none⟩) 2 2,.slice (some ⟨S1+1,0,none⟩) 2 2]) (pred_spec ho hp (j:=7) (by kernel_rfl)) rfl rfl
   subst f7
   go_simp
   have hT2:=hT.frame h.b
   refine (qb 5 8 0 1 hT2 f6 (by decide) v_b8 rfl).mono ?_
   rintro e w4 ⟨ad4,cp4,rfl,hb4⟩
   clear hT2
   exact hK _ _ ⟨_,_,_,_,_,_,_,_,_,_,_,_,_,_,rfl,h.step (hb4) (i:=8) (F:=.tup 1 0) rfl (⟨_,_,rfl⟩)⟩
  ·refine wpOp_step rfl ?_
   intro K9 hK
   have f8:=h.at (i:=8) (F:=.tup 1 0) (pred_spec ho hp (j:=8) (by kernel_rfl)) rfl rfl
   obtain ⟨ad8,cp8,e8⟩:=f8
   subst e8
   go_simp
   exact hK _ _ ⟨_,_,_,_,_,_,_,_,_,_,_,_,_,_,rfl,h.step (Below.refl _ _) (i:=9) (F:=.tup 1 0) rfl (⟨_,_,rfl⟩)⟩
  ·refine wpOp_step rfl ?_
   intro K9 hK
   have f9:=h.at (i:=9) (F:=.tup 1 0) (pred_spec ho hp (j:=9) (by kernel_rfl)) rfl rfl
   obtain ⟨ad9,cp9,e9⟩:=f9
   subst e9
   go_simp
   exact hK _ _ ⟨_,_,_,_,_,_,_,_,_,_,_,_,_,_,rfl,h.step (Below.refl _ _) (i:=10) (F:=.sl 1) rfl (⟨_,_,rfl⟩)⟩
  ·refine wpOp_step rfl ?_
   intro K9 hK
   have f9:=h.at (i:=9) (F:=.tup 1 0) (pred_spec ho hp (j:=9) (by kernel_rfl)) rfl rfl
   obtain ⟨ad9,cp9,e9⟩:=f9
   subst e9
   go_simp
   exact hK _ _ ⟨_,_,_,_,_,_,_,_,_,_,_,_,_,_,rfl,h.step (Below.refl _ _) (i:=11) (F:=.lit (.int .i64 0)) rfl (rfl)⟩
  ·refine wpOp_step rfl ?_
   intro K9 hK
   have f10:=h.at (i:=10) (F:=.sl 1) (pred_spec ho hp (j:=10) (by kernel_rfl)) rfl rfl
   obtain ⟨ad10,cp10,e10⟩:=f10
   subst e10
   go_simp
   exact hK _ _ ⟨_,_,_,_,_,_,_,_,_,_,_,_,_,_,rfl,h.step (Below.refl _ _) (i:=12) (F:=.sl 1) rfl (⟨_,_,rfl⟩)⟩
  ·refine wpOp_step rfl ?_
   intro K9 hK
   have f11:=h.lit (i:=11) (u:=.int .i64 0) (pred_spec ho hp (j:=11) (by kernel_rfl)) rfl rfl
   subst f11
   go_simp
   exact hK _ _ ⟨_,_,_,_,_,_,_,_,_,_,_,_,_,_,rfl,h.step (Below.refl _ _) (i:=13) (F:=.lit (.int .i64 0)) rfl (rfl)⟩
 ·rintro L aa w' ⟨v0,v1,v2,v3,v4,v5,v6,v7,v8,v9,v10,v11,v12,v13,rfl,h⟩ hall
  have e8:=h.at (i:=12) (F:=.sl 1) (hall 12 (by decide)) rfl rfl
  have e9:=h.lit (i:=13) (u:=.int .i64 0) (hall 13 (by decide)) rfl rfl
  exact hQ v0 v1 v2 v3 v4 v5 v6 v7 v8 v9 v10 v11 v12 v13 w' e8 e9 (Lib.hid h.b)
noncomputable def nmops15:Array Oper:=cdOps (cdA (cdB (cdB (cdB (cdB (cdB (cdB (cdB (cdB (cdB (cdB (cdB (cdB (cdB (cdB (cdB (Tryz.f8.body.getD .skip)))))))))))))))))
set_option maxHeartbeats 8000000 in
set_option maxRecDepth 100000 in
theorem nmreg15 {wc:World} {K S1 S4 S9 B S10 S11:Nat} {dd ss:Value} {ad1:Option Addr} {cp1:Nat} {u41 u42 u43 u44 u45 u46 u47 u48 u49 u50 u51 u52 u53 u54 u55 u56 u57 u58 u59 u60 u61 u62 u63 u64 u65 u66 u67 u68 u69 u70 u71 u72 u73 u74 u75 u76 u77 u78 u79 u80 u81 u82 u83 u84 u85 u86 u87 u88 u89 u90 u91 u92 u93 u94 u95 u96 u97 u98 u99 u100 u101 u102 u103 u104 u105 u106 u107 u108 u109 u110 u111 u112 u113 u114 u115 u116 u117 u118 u119 u120 u121 u122 u123 u124 u125 u126 u127 u128 u129 u130 u131 u132 u133 u134 u135 u136 u137 u138 u139 u140 u141 u142 u143 u144 u145 u146 u147 u148 u149 u150 u151 u152 u153 u154 u155 u156 u157 u158 u159 u160 u161 u162 u163 u164 u165 u166 u167 u168 u169 u170 u171 u172 u173 u174 u175 u176 u177 u178 u179 u180 u181 u182 u183 u184 z0 z1 z2 z3 z4 z5 z6 z7 z8 z9 z10 z11 z12 z13:Value} (hT:NmT wc K S1 S4 S9 B S10 S11 dd ss) (Q:Exit→Act→World→Prop)
  (hQ:∀ (v0 v1 v2 v3 v4 v5 v6 v7 v8 v9 v10 v11 v12 v13:Value) (w':World),(∃ ad cp,v12 = .slice ad 0 cp)→v13 = .int .i64 30→Hid (Below wc.heap.size wc w')→Q .normal ⟨#[.bool false,.pointer (some ⟨S1,0,none⟩),.pointer (some ⟨S4+1,0,none⟩),.pointer (some ⟨S9,0,none⟩),.pointer (some ⟨S9+1,0,none⟩),.func (.func 30) #[] #[],.func (.func 31) #[] #[],.func (.func 32) #[] #[.pointer (some ⟨S9,0,none⟩)],.func (.func 33) #[] #[.pointer (some ⟨S9,0,none⟩),.pointer (some ⟨S9+1,0,none⟩)],.pointer (some ⟨B,0,none⟩),.pointer (some ⟨S10+1+1,0,none⟩),.pointer (some ⟨S11+1,0,none⟩),.bool true,.slice ad1 1 cp1,.int .i64 0,v12,v13,undef,undef,undef,undef,undef,undef,undef,undef,undef,undef,undef,undef,undef,undef,undef,undef,undef,undef,undef,undef,undef,undef,undef,undef,u41,u42,u43,u44,u45,u46,u47,u48,u49,u50,u51,u52,u53,u54,u55,u56,u57,u58,u59,u60,u61,u62,u63,u64,u65,u66,u67,u68,u69,u70,u71,u72,u73,u74,u75,u76,u77,u78,u79,u80,u81,u82,u83,u84,u85,u86,u87,u88,u89,u90,u91,u92,u93,u94,u95,u96,u97,u98,u99,u100,u101,u102,u103,u104,u105,u106,u107,u108,u109,u110,u111,u112,u113,u114,u115,u116,u117,u118,u119,u120,u121,u122,u123,u124,u125,u126,u127,u128,u129,u130,u131,u132,u133,u134,u135,u136,u137,u138,u139,u140,u141,u142,u143,u144,u145,u146,u147,u148,u149,u150,u151,u152,u153,u154,u155,u156,u157,u158,u159,u160,u161,u162,u163,u164,u165,u166,u167,u168,u169,u170,u171,u172,u173,u174,u175,u176,u177,u178,u179,u180,u181,u182,u183,u184,v9,v0,v1,v2,v3,v4,v5,v6,v7,v8,v10,v11,undef,undef,undef,undef,undef,undef,undef,undef,undef,undef,undef,undef,undef,undef,undef,undef,undef,undef,undef,undef,undef,undef,undef,undef,undef,undef,undef,undef,undef,undef,undef,undef,undef,undef,undef,undef,undef,undef,undef,undef,undef,undef,undef,undef,undef,undef,undef,undef,undef,undef,undef,undef,undef,undef,undef,undef,undef,undef,undef,undef,undef,undef,undef,undef,undef,undef,undef,undef,undef,undef,undef,undef,undef,undef,undef,undef,undef,undef,undef,undef,undef,undef,undef,undef,undef,undef,undef,undef,undef,undef,undef,undef,undef,undef,undef,undef,undef,undef,undef,undef,undef,undef,undef,undef,undef,undef,undef,undef,undef,undef,undef,undef,undef,undef,undef,undef,undef,undef,undef,undef,undef,undef,undef,undef,undef,undef,undef,undef,undef,undef,undef,undef,undef,undef,undef,undef,undef,undef,undef,undef,undef,undef,undef,undef,undef,undef,undef,undef,undef,undef,undef,undef,undef,undef,undef,undef,undef],[]⟩ w') :
  (Code.region 15 nmops15 true).wp Tryz.prog Q ⟨#[.bool false,.pointer (some ⟨S1,0,none⟩),.pointer (some ⟨S4+1,0,none⟩),.pointer (some ⟨S9,0,none⟩),.pointer (some ⟨S9+1,0,none⟩),.func (.func 30) #[] #[],.func (.func 31) #[] #[],.func (.func 32) #[] #[.pointer (some ⟨S9,0,none⟩)],.func (.func 33) #[] #[.pointer (some ⟨S9,0,none⟩),.pointer (some ⟨S9+1,0,none⟩)],.pointer (some ⟨B,0,none⟩),.pointer (some ⟨S10+1+1,0,none⟩),.pointer (some ⟨S11+1,0,none⟩),.bool true,.slice ad1 1 cp1,.int .i64 0,z12,z13,undef,undef,undef,undef,undef,undef,undef,undef,undef,undef,undef,undef,undef,undef,undef,undef,undef,undef,undef,undef,undef,undef,undef,undef,u41,u42,u43,u44,u45,u46,u47,u48,u49,u50,u51,u52,u53,u54,u55,u56,u57,u58,u59,u60,u61,u62,u63,u64,u65,u66,u67,u68,u69,u70,u71,u72,u73,u74,u75,u76,u77,u78,u79,u80,u81,u82,u83,u84,u85,u86,u87,u88,u89,u90,u91,u92,u93,u94,u95,u96,u97,u98,u99,u100,u101,u102,u103,u104,u105,u106,u107,u108,u109,u110,u111,u112,u113,u114,u115,u116,u117,u118,u119,u120,u121,u122,u123,u124,u125,u126,u127,u128,u129,u130,u131,u132,u133,u134,u135,u136,u137,u138,u139,u140,u141,u142,u143,u144,u145,u146,u147,u148,u149,u150,u151,u152,u153,u154,u155,u156,u157,u158,u159,u160,u161,u162,u163,u164,u165,u166,u167,u168,u169,u170,u171,u172,u173,u174,u175,u176,u177,u178,u179,u180,u181,u182,u183,u184,z9,z0,z1,z2,z3,z4,z5,z6,z7,z8,z10,z11,undef,undef,undef,undef,undef,undef,undef,undef,undef,undef,undef,undef,undef,undef,undef,undef,undef,undef,undef,undef,undef,undef,undef,undef,undef,undef,undef,undef,undef,undef,undef,undef,undef,undef,undef,undef,undef,undef,undef,undef,undef,undef,undef,undef,undef,undef,undef,undef,undef,undef,undef,undef,undef,undef,undef,undef,undef,undef,undef,undef,undef,undef,undef,undef,undef,undef,undef,undef,undef,undef,undef,undef,undef,undef,undef,undef,undef,undef,undef,undef,undef,undef,undef,undef,undef,undef,undef,undef,undef,undef,undef,undef,undef,undef,undef,undef,undef,undef,undef,undef,undef,undef,undef,undef,undef,undef,undef,undef,undef,undef,undef,undef,undef,undef,undef,undef,undef,undef,undef,undef,undef,undef,undef,undef,undef,undef,undef,undef,undef,undef,undef,undef,undef,undef,undef,undef,undef,undef,undef,undef,undef,undef,undef,undef,undef,undef,undef,undef,undef,undef,undef,undef,undef,undef,undef,undef,undef],[]⟩ wc:=by
 have HNw:=Lib.hid (fun n W => now10_any n W)
 have HCo:=Lib.hid (fun r W => con10_any r W)
 have HPa:=Lib.hid (fun k r n d ad m cap W => pay10_any k r n d ad m cap W)
 unfold nmops15
 dsimp only [cdOps,cdA,cdB,Tryz.f8,Option.getD]
 refine wp_region_invc (fun L aa w' => ∃ v0 v1 v2 v3 v4 v5 v6 v7 v8 v9 v10 v11 v12 v13,aa=⟨#[.bool false,.pointer (some ⟨S1,0,none⟩),.pointer (some ⟨S4+1,0,none⟩),.pointer (some ⟨S9,0,none⟩),.pointer (some ⟨S9+1,0,none⟩),.func (.func 30) #[] #[],.func (.func 31) #[] #[],.func (.func 32) #[] #[.pointer (some ⟨S9,0,none⟩)],.func (.func 33) #[] #[.pointer (some ⟨S9,0,none⟩),.pointer (some ⟨S9+1,0,none⟩)],.pointer (some ⟨B,0,none⟩),.pointer (some ⟨S10+1+1,0,none⟩),.pointer (some ⟨S11+1,0,none⟩),.bool true,.slice ad1 1 cp1,.int .i64 0,v12,v13,undef,undef,undef,undef,undef,undef,undef,undef,undef,undef,undef,undef,undef,undef,undef,undef,undef,undef,undef,undef,undef,undef,undef,undef,u41,u42,u43,u44,u45,u46,u47,u48,u49,u50,u51,u52,u53,u54,u55,u56,u57,u58,u59,u60,u61,u62,u63,u64,u65,u66,u67,u68,u69,u70,u71,u72,u73,u74,u75,u76,u77,u78,u79,u80,u81,u82,u83,u84,u85,u86,u87,u88,u89,u90,u91,u92,u93,u94,u95,u96,u97,u98,u99,u100,u101,u102,u103,u104,u105,u106,u107,u108,u109,u110,u111,u112,u113,u114,u115,u116,u117,u118,u119,u120,u121,u122,u123,u124,u125,u126,u127,u128,u129,u130,u131,u132,u133,u134,u135,u136,u137,u138,u139,u140,u141,u142,u143,u144,u145,u146,u147,u148,u149,u150,u151,u152,u153,u154,u155,u156,u157,u158,u159,u160,u161,u162,u163,u164,u165,u166,u167,u168,u169,u170,u171,u172,u173,u174,u175,u176,u177,u178,u179,u180,u181,u182,u183,u184,v9,v0,v1,v2,v3,v4,v5,v6,v7,v8,v10,v11,undef,undef,undef,undef,undef,undef,undef,undef,undef,undef,undef,undef,undef,undef,undef,undef,undef,undef,undef,undef,undef,undef,undef,undef,undef,undef,undef,undef,undef,undef,undef,undef,undef,undef,undef,undef,undef,undef,undef,undef,undef,undef,undef,undef,undef,undef,undef,undef,undef,undef,undef,undef,undef,undef,undef,undef,undef,undef,undef,undef,undef,undef,undef,undef,undef,undef,undef,undef,undef,undef,undef,undef,undef,undef,undef,undef,undef,undef,undef,undef,undef,undef,undef,undef,undef,undef,undef,undef,undef,undef,undef,undef,undef,undef,undef,undef,undef,undef,undef,undef,undef,undef,undef,undef,undef,undef,undef,undef,undef,undef,undef,undef,undef,undef,undef,undef,undef,undef,undef,undef,undef,undef,undef,undef,undef,undef,undef,undef,undef,undef,undef,undef,undef,undef,undef,undef,undef,undef,undef,undef,undef,undef,undef,undef,undef,undef,undef,undef,undef,undef,undef,undef,undef,undef,undef,undef,undef],[]⟩∧DInv wc w' (fs15 K S1) [v0,v1,v2,v3,v4,v5,v6,v7,v8,v9,v10,v11,v12,v13] L) (by kernel_rfl) (by kernel_rfl) ?_ ?_ ?_
 ·exact ⟨_,_,_,_,_,_,_,_,_,_,_,_,_,_,rfl,DInv.start (below_drewN (Below.refl _ _) 1)⟩
 ·rintro L aa w' ⟨v0,v1,v2,v3,v4,v5,v6,v7,v8,v9,v10,v11,v12,v13,rfl,h⟩ hc i0 op9 ho hL hp
  have hi9:i0 < 14:=by simpa using (Array.getElem?_eq_some_iff.1 ho).1
  have hi2:i0=0∨i0=1∨i0=2∨i0=3∨i0=4∨i0=5∨i0=6∨i0=7∨i0=8∨i0=9∨i0=10∨i0=11∨i0=12∨i0=13:=by omega
  clear hi9
  rcases hi2 with rfl | rfl | rfl | rfl | rfl | rfl | rfl | rfl | rfl | rfl | rfl | rfl | rfl | rfl
  ·refine wpOp_step rfl ?_
   intro K9 hK
   go_simp
   exact hK _ _ ⟨_,_,_,_,_,_,_,_,_,_,_,_,_,_,rfl,h.step (Below.refl _ _) (i:=0) (F:=.lit (.func (.func 31) #[] #[])) rfl (rfl)⟩
  ·refine wpOp_step rfl ?_
   intro K9 hK
   have hT2:=hT.frame h.b
   have y0:w'.cell? ⟨S9,0,none⟩=some (.int .u8 2):=hT2.s.o1.cell (j:=0) rfl
   have y1:w'.cell? ⟨S9,1,none⟩=some (.string ⟨#[65,110,110]⟩):=hT2.s.o1.cell (j:=1) rfl
   have y2:w'.cell? ⟨S9,2,none⟩=some (.string ⟨#[66,111,98]⟩):=hT2.s.o1.cell (j:=2) rfl
   have y3:w'.cell? ⟨S9,3,none⟩=some (.string ⟨#[85,83,68]⟩):=hT2.s.o1.cell (j:=3) rfl
   have y4:w'.cell? ⟨S9,4,none⟩=some (.int .u8 1):=hT2.s.o1.cell (j:=4) rfl
   have y5:w'.cell? ⟨S9,5,none⟩=some (.string ⟨#[49]⟩):=hT2.s.o1.cell (j:=5) rfl
   have y6:w'.cell? ⟨S9,6,none⟩=some (.string ⟨#[]⟩):=hT2.s.o1.cell (j:=6) rfl
   have y7:w'.cell? ⟨S9,7,none⟩=some (.int .i64 0):=hT2.s.o1.cell (j:=7) rfl
   have y8:w'.cell? ⟨S9,8,none⟩=some (.slice none 0 0):=hT2.s.o1.cell (j:=8) rfl
   have y9:w'.cell? ⟨S9,9,none⟩=some (.int .i64 0):=hT2.s.o1.cell (j:=9) rfl
   have y10:w'.cell? ⟨S9,10,none⟩=some (.slice none 0 0):=hT2.s.o1.cell (j:=10) rfl
   have y11:w'.cell? ⟨S9,11,none⟩=some (.slice none 0 0):=hT2.s.o1.cell (j:=11) rfl
   clear hT2
   go_simp
   exact hK _ _ ⟨_,_,_,_,_,_,_,_,_,_,_,_,_,_,rfl,h.step (Below.refl _ _) (i:=1) (F:=.lit (.agg #[.int .u8 2,.string ⟨#[65,110,110]⟩,.string ⟨#[66,111,98]⟩,.string ⟨#[85,83,68]⟩,.int .u8 1,.string ⟨#[49]⟩,.string ⟨#[]⟩,.int .i64 0,.slice none 0 0,.int .i64 0,.slice none 0 0,.slice none 0 0])) rfl (rfl)⟩
  ·refine wpOp_step rfl ?_
   intro K9 hK
   go_simp
   exact hK _ _ ⟨_,_,_,_,_,_,_,_,_,_,_,_,_,_,rfl,h.step (Below.refl _ _) (i:=2) (F:=.lit (.func (.func 30) #[] #[])) rfl (rfl)⟩
  ·refine wpOp_step rfl ?_
   intro K9 hK
   go_simp
   have hT2:=hT.frame h.b
   refine (HNw.out _ w').mono ?_
   rintro e w4 ⟨rfl,hb4⟩
   clear hT2
   exact hK _ _ ⟨_,_,_,_,_,_,_,_,_,_,_,_,_,_,rfl,h.step (hb4) (i:=3) (F:=.lit (.agg #[.int .u8 3,.string ⟨#[]⟩,.string ⟨#[110,111,110,101]⟩,.int .i64 0,.slice none 0 0])) rfl (rfl)⟩
  ·refine wpOp_step rfl ?_
   intro K9 hK
   have f3:=h.lit (i:=3) (u:=.agg #[.int .u8 3,.string ⟨#[]⟩,.string ⟨#[110,111,110,101]⟩,.int .i64 0,.slice none 0 0]) (pred_spec ho hp (j:=3) (by kernel_rfl)) rfl rfl
   subst f3
   go_simp
   have hT2:=hT.frame h.b
   refine (HPa.out _ _ _ _ _ _ _ w').mono ?_
   rintro e w4 ⟨rfl,hb4⟩
   clear hT2
   exact hK _ _ ⟨_,_,_,_,_,_,_,_,_,_,_,_,_,_,rfl,h.step (hb4) (i:=4) (F:=.lit (.agg #[.int .u8 2,.string ⟨#[65,110,110]⟩,.string ⟨#[66,111,98]⟩,.string ⟨#[85,83,68]⟩,.int .u8 3,.string ⟨#[]⟩,.string ⟨#[110,111,110,101]⟩,.int .i64 0,.slice none 0 0,.int .i64 0,.slice none 0 0,.slice none 0 0])) rfl (rfl)⟩
  ·refine wpOp_step rfl ?_
   intro K9 hK
   have f2:=h.lit (i:=2) (u:=.func (.func 30) #[] #[]) (pred_spec ho hp (j:=2) (by kernel_rfl)) rfl rfl
   subst f2
   have f4:=h.lit (i:=4) (u:=.agg #[.int .u8 2,.string ⟨#[65,110,110]⟩,.string ⟨#[66,111,98]⟩,.string ⟨#[85,83,68]⟩,.int .u8 3,.string ⟨#[]⟩,.string ⟨#[110,111,110,101]⟩,.int .i64 0,.slice none 0 0,.int .i64 0,.slice none 0 0,.slice none 0 0]) (pred_spec ho hp (j:=4) (by kernel_rfl)) rfl rfl
   subst f4
   go_simp
   have hT2:=hT.frame h.b
   refine (at_any 8 (flatN none _)).mono ?_
   rintro e w4 ⟨u4,rfl,hu4,hb4⟩
   clear hT2
   exact hK _ _ ⟨_,_,_,_,_,_,_,_,_,_,_,_,_,_,rfl,h.step (hb4) (i:=5) (F:=.held (atM 8 cNone)) rfl (hu4)⟩
  ·refine wpOp_step rfl ?_
   intro K9 hK
   have f0:=h.lit (i:=0) (u:=.func (.func 31) #[] #[]) (pred_spec ho hp (j:=0) (by kernel_rfl)) rfl rfl
   subst f0
   have f1:=h.lit (i:=1) (u:=.agg #[.int .u8 2,.string ⟨#[65,110,110]⟩,.string ⟨#[66,111,98]⟩,.string ⟨#[85,83,68]⟩,.int .u8 1,.string ⟨#[49]⟩,.string ⟨#[]⟩,.int .i64 0,.slice none 0 0,.int .i64 0,.slice none 0 0,.slice none 0 0]) (pred_spec ho hp (j:=1) (by kernel_rfl)) rfl rfl
   subst f1
   have f5:=h.at (i:=5) (F:=.held (atM 8 cNone)) (pred_spec ho hp (j:=5) (by kernel_rfl)) rfl rfl
   go_simp
   have hT2:=hT.frame h.b
   refine (bo_any (flat1 none _) f5).mono ?_
   rintro e w4 ⟨u4,rfl,hu4,hb4⟩
   clear hT2
   exact hK _ _ ⟨_,_,_,_,_,_,_,_,_,_,_,_,_,_,rfl,h.step (hb4) (i:=6) (F:=.held (bothN cOne (atM 8 cNone))) rfl (hu4)⟩
  ·refine wpOp_step rfl ?_
   intro K9 hK
   have hT2:=hT.frame h.b
   have y0:w'.cell? ⟨S1,0,none⟩=some (.slice (some ⟨K,0,none⟩) 2 2):=hT2.s.e.cell (j:=0) rfl
   have y1:w'.cell? ⟨S1,1,none⟩=some (.slice (some ⟨S1+1,0,none⟩) 2 2):=hT2.s.e.cell (j:=1) rfl
   clear hT2
   go_simp
   exact hK _ _ ⟨_,_,_,_,_,_,_,_,_,_,_,_,_,_,rfl,h.step (Below.refl _ _) (i:=7) (F:=.lit (.agg #[.slice (some ⟨K,0,none⟩) 2 2,.slice (some ⟨S1+1,0,none⟩) 2 2])) rfl (rfl)⟩
  ·refine wpOp_step rfl ?_
   intro K9 hK
   have f6:=h.at (i:=6) (F:=.held (bothN cOne (atM 8 cNone))) (pred_spec ho hp (j:=6) (by kernel_rfl)) rfl rfl
   have f7:=h.lit (i:=7) (u:=.agg #[.slice (some ⟨K,0,none⟩) 2 2,.slice (some ⟨S1+1,0,none⟩) 2 2]) (pred_spec ho hp (j:=7) (by kernel_rfl)) rfl rfl
   subst f7
   go_simp
   have hT2:=hT.frame h.b
   refine (qb 5 9 30 0 hT2 f6 (by decide) v_b9 rfl).mono ?_
   rintro e w4 ⟨ad4,cp4,rfl,hb4⟩
   clear hT2
   exact hK _ _ ⟨_,_,_,_,_,_,_,_,_,_,_,_,_,_,rfl,h.step (hb4) (i:=8) (F:=.tup 0 30) rfl (⟨_,_,rfl⟩)⟩
  ·refine wpOp_step rfl ?_
   intro K9 hK
   have f8:=h.at (i:=8) (F:=.tup 0 30) (pred_spec ho hp (j:=8) (by kernel_rfl)) rfl rfl
   obtain ⟨ad8,cp8,e8⟩:=f8
   subst e8
   go_simp
   exact hK _ _ ⟨_,_,_,_,_,_,_,_,_,_,_,_,_,_,rfl,h.step (Below.refl _ _) (i:=9) (F:=.tup 0 30) rfl (⟨_,_,rfl⟩)⟩
  ·refine wpOp_step rfl ?_
   intro K9 hK
   have f9:=h.at (i:=9) (F:=.tup 0 30) (pred_spec ho hp (j:=9) (by kernel_rfl)) rfl rfl
   obtain ⟨ad9,cp9,e9⟩:=f9
   subst e9
   go_simp
   exact hK _ _ ⟨_,_,_,_,_,_,_,_,_,_,_,_,_,_,rfl,h.step (Below.refl _ _) (i:=10) (F:=.sl 0) rfl (⟨_,_,rfl⟩)⟩
  ·refine wpOp_step rfl ?_
   intro K9 hK
   have f9:=h.at (i:=9) (F:=.tup 0 30) (pred_spec ho hp (j:=9) (by kernel_rfl)) rfl rfl
   obtain ⟨ad9,cp9,e9⟩:=f9
   subst e9
   go_simp
   exact hK _ _ ⟨_,_,_,_,_,_,_,_,_,_,_,_,_,_,rfl,h.step (Below.refl _ _) (i:=11) (F:=.lit (.int .i64 30)) rfl (rfl)⟩
  ·refine wpOp_step rfl ?_
   intro K9 hK
   have f10:=h.at (i:=10) (F:=.sl 0) (pred_spec ho hp (j:=10) (by kernel_rfl)) rfl rfl
   obtain ⟨ad10,cp10,e10⟩:=f10
   subst e10
   go_simp
   exact hK _ _ ⟨_,_,_,_,_,_,_,_,_,_,_,_,_,_,rfl,h.step (Below.refl _ _) (i:=12) (F:=.sl 0) rfl (⟨_,_,rfl⟩)⟩
  ·refine wpOp_step rfl ?_
   intro K9 hK
   have f11:=h.lit (i:=11) (u:=.int .i64 30) (pred_spec ho hp (j:=11) (by kernel_rfl)) rfl rfl
   subst f11
   go_simp
   exact hK _ _ ⟨_,_,_,_,_,_,_,_,_,_,_,_,_,_,rfl,h.step (Below.refl _ _) (i:=13) (F:=.lit (.int .i64 30)) rfl (rfl)⟩
 ·rintro L aa w' ⟨v0,v1,v2,v3,v4,v5,v6,v7,v8,v9,v10,v11,v12,v13,rfl,h⟩ hall
  have e8:=h.at (i:=12) (F:=.sl 0) (hall 12 (by decide)) rfl rfl
  have e9:=h.lit (i:=13) (u:=.int .i64 30) (hall 13 (by decide)) rfl rfl
  exact hQ v0 v1 v2 v3 v4 v5 v6 v7 v8 v9 v10 v11 v12 v13 w' e8 e9 (Lib.hid h.b)
noncomputable def nmops16:Array Oper:=cdOps (cdA (cdB (cdB (cdB (cdB (cdB (cdB (cdB (cdB (cdB (cdB (cdB (cdB (cdB (cdB (cdB (cdB (Tryz.f8.body.getD .skip))))))))))))))))))
set_option maxHeartbeats 8000000 in
set_option maxRecDepth 100000 in
theorem nmreg16 {wc:World} {K S1 S4 S9 B S10 S11:Nat} {dd ss:Value} {ad1 ad2:Option Addr} {cp1 cp2:Nat} {u41 u42 u43 u44 u45 u46 u47 u48 u49 u50 u51 u52 u53 u54 u55 u56 u57 u58 u59 u60 u61 u62 u63 u64 u65 u66 u67 u68 u69 u70 u71 u72 u73 u74 u75 u76 u77 u78 u79 u80 u81 u82 u83 u84 u85 u86 u87 u88 u89 u90 u91 u92 u93 u94 u95 u96 u97 u98 u99 u100 u101 u102 u103 u104 u105 u106 u107 u108 u109 u110 u111 u112 u113 u114 u115 u116 u117 u118 u119 u120 u121 u122 u123 u124 u125 u126 u127 u128 u129 u130 u131 u132 u133 u134 u135 u136 u137 u138 u139 u140 u141 u142 u143 u144 u145 u146 u147 u148 u149 u150 u151 u152 u153 u154 u155 u156 u157 u158 u159 u160 u161 u162 u163 u164 u165 u166 u167 u168 u169 u170 u171 u172 u173 u174 u175 u176 u177 u178 u179 u180 u181 u182 u183 u184 u185 u186 u187 u188 u189 u190 u191 u192 u193 u194 u195 u196 z0 z1 z2 z3 z4 z5 z6 z7 z8:Value} (hT:NmT wc K S1 S4 S9 B S10 S11 dd ss) (Q:Exit→Act→World→Prop)
  (hQ:∀ (v0 v1 v2 v3 v4 v5 v6 v7 v8:Value) (w':World),(∃ ad cp,v7 = .slice ad 0 cp)→v8 = .int .i64 0→Hid (Below wc.heap.size wc w')→Q .normal ⟨#[.bool false,.pointer (some ⟨S1,0,none⟩),.pointer (some ⟨S4+1,0,none⟩),.pointer (some ⟨S9,0,none⟩),.pointer (some ⟨S9+1,0,none⟩),.func (.func 30) #[] #[],.func (.func 31) #[] #[],.func (.func 32) #[] #[.pointer (some ⟨S9,0,none⟩)],.func (.func 33) #[] #[.pointer (some ⟨S9,0,none⟩),.pointer (some ⟨S9+1,0,none⟩)],.pointer (some ⟨B,0,none⟩),.pointer (some ⟨S10+1+1,0,none⟩),.pointer (some ⟨S11+1,0,none⟩),.bool true,.slice ad1 1 cp1,.int .i64 0,.slice ad2 0 cp2,.int .i64 30,v7,v8,undef,undef,undef,undef,undef,undef,undef,undef,undef,undef,undef,undef,undef,undef,undef,undef,undef,undef,undef,undef,undef,undef,u41,u42,u43,u44,u45,u46,u47,u48,u49,u50,u51,u52,u53,u54,u55,u56,u57,u58,u59,u60,u61,u62,u63,u64,u65,u66,u67,u68,u69,u70,u71,u72,u73,u74,u75,u76,u77,u78,u79,u80,u81,u82,u83,u84,u85,u86,u87,u88,u89,u90,u91,u92,u93,u94,u95,u96,u97,u98,u99,u100,u101,u102,u103,u104,u105,u106,u107,u108,u109,u110,u111,u112,u113,u114,u115,u116,u117,u118,u119,u120,u121,u122,u123,u124,u125,u126,u127,u128,u129,u130,u131,u132,u133,u134,u135,u136,u137,u138,u139,u140,u141,u142,u143,u144,u145,u146,u147,u148,u149,u150,u151,u152,u153,u154,u155,u156,u157,u158,u159,u160,u161,u162,u163,u164,u165,u166,u167,u168,u169,u170,u171,u172,u173,u174,u175,u176,u177,u178,u179,u180,u181,u182,u183,u184,u185,u186,u187,u188,u189,u190,u191,u192,u193,u194,u195,u196,v4,v0,v1,v2,v3,v5,v6,undef,undef,undef,undef,undef,undef,undef,undef,undef,undef,undef,undef,undef,undef,undef,undef,undef,undef,undef,undef,undef,undef,undef,undef,undef,undef,undef,undef,undef,undef,undef,undef,undef,undef,undef,undef,undef,undef,undef,undef,undef,undef,undef,undef,undef,undef,undef,undef,undef,undef,undef,undef,undef,undef,undef,undef,undef,undef,undef,undef,undef,undef,undef,undef,undef,undef,undef,undef,undef,undef,undef,undef,undef,undef,undef,undef,undef,undef,undef,undef,undef,undef,undef,undef,undef,undef,undef,undef,undef,undef,undef,undef,undef,undef,undef,undef,undef,undef,undef,undef,undef,undef,undef,undef,undef,undef,undef,undef,undef,undef,undef,undef,undef,undef,undef,undef,undef,undef,undef,undef,undef,undef,undef,undef,undef,undef,undef,undef,undef,undef,undef,undef,undef,undef,undef,undef,undef,undef,undef,undef,undef,undef,undef,undef,undef,undef,undef,undef,undef,undef],[]⟩ w') :
  (Code.region 16 nmops16 true).wp Tryz.prog Q ⟨#[.bool false,.pointer (some ⟨S1,0,none⟩),.pointer (some ⟨S4+1,0,none⟩),.pointer (some ⟨S9,0,none⟩),.pointer (some ⟨S9+1,0,none⟩),.func (.func 30) #[] #[],.func (.func 31) #[] #[],.func (.func 32) #[] #[.pointer (some ⟨S9,0,none⟩)],.func (.func 33) #[] #[.pointer (some ⟨S9,0,none⟩),.pointer (some ⟨S9+1,0,none⟩)],.pointer (some ⟨B,0,none⟩),.pointer (some ⟨S10+1+1,0,none⟩),.pointer (some ⟨S11+1,0,none⟩),.bool true,.slice ad1 1 cp1,.int .i64 0,.slice ad2 0 cp2,.int .i64 30,z7,z8,undef,undef,undef,undef,undef,undef,undef,undef,undef,undef,undef,undef,undef,undef,undef,undef,undef,undef,undef,undef,undef,undef,u41,u42,u43,u44,u45,u46,u47,u48,u49,u50,u51,u52,u53,u54,u55,u56,u57,u58,u59,u60,u61,u62,u63,u64,u65,u66,u67,u68,u69,u70,u71,u72,u73,u74,u75,u76,u77,u78,u79,u80,u81,u82,u83,u84,u85,u86,u87,u88,u89,u90,u91,u92,u93,u94,u95,u96,u97,u98,u99,u100,u101,u102,u103,u104,u105,u106,u107,u108,u109,u110,u111,u112,u113,u114,u115,u116,u117,u118,u119,u120,u121,u122,u123,u124,u125,u126,u127,u128,u129,u130,u131,u132,u133,u134,u135,u136,u137,u138,u139,u140,u141,u142,u143,u144,u145,u146,u147,u148,u149,u150,u151,u152,u153,u154,u155,u156,u157,u158,u159,u160,u161,u162,u163,u164,u165,u166,u167,u168,u169,u170,u171,u172,u173,u174,u175,u176,u177,u178,u179,u180,u181,u182,u183,u184,u185,u186,u187,u188,u189,u190,u191,u192,u193,u194,u195,u196,z4,z0,z1,z2,z3,z5,z6,undef,undef,undef,undef,undef,undef,undef,undef,undef,undef,undef,undef,undef,undef,undef,undef,undef,undef,undef,undef,undef,undef,undef,undef,undef,undef,undef,undef,undef,undef,undef,undef,undef,undef,undef,undef,undef,undef,undef,undef,undef,undef,undef,undef,undef,undef,undef,undef,undef,undef,undef,undef,undef,undef,undef,undef,undef,undef,undef,undef,undef,undef,undef,undef,undef,undef,undef,undef,undef,undef,undef,undef,undef,undef,undef,undef,undef,undef,undef,undef,undef,undef,undef,undef,undef,undef,undef,undef,undef,undef,undef,undef,undef,undef,undef,undef,undef,undef,undef,undef,undef,undef,undef,undef,undef,undef,undef,undef,undef,undef,undef,undef,undef,undef,undef,undef,undef,undef,undef,undef,undef,undef,undef,undef,undef,undef,undef,undef,undef,undef,undef,undef,undef,undef,undef,undef,undef,undef,undef,undef,undef,undef,undef,undef,undef,undef,undef,undef,undef,undef],[]⟩ wc:=by
 have HNw:=Lib.hid (fun n W => now10_any n W)
 have HCo:=Lib.hid (fun r W => con10_any r W)
 have HPa:=Lib.hid (fun k r n d ad m cap W => pay10_any k r n d ad m cap W)
 unfold nmops16
 dsimp only [cdOps,cdA,cdB,Tryz.f8,Option.getD]
 refine wp_region_invc (fun L aa w' => ∃ v0 v1 v2 v3 v4 v5 v6 v7 v8,aa=⟨#[.bool false,.pointer (some ⟨S1,0,none⟩),.pointer (some ⟨S4+1,0,none⟩),.pointer (some ⟨S9,0,none⟩),.pointer (some ⟨S9+1,0,none⟩),.func (.func 30) #[] #[],.func (.func 31) #[] #[],.func (.func 32) #[] #[.pointer (some ⟨S9,0,none⟩)],.func (.func 33) #[] #[.pointer (some ⟨S9,0,none⟩),.pointer (some ⟨S9+1,0,none⟩)],.pointer (some ⟨B,0,none⟩),.pointer (some ⟨S10+1+1,0,none⟩),.pointer (some ⟨S11+1,0,none⟩),.bool true,.slice ad1 1 cp1,.int .i64 0,.slice ad2 0 cp2,.int .i64 30,v7,v8,undef,undef,undef,undef,undef,undef,undef,undef,undef,undef,undef,undef,undef,undef,undef,undef,undef,undef,undef,undef,undef,undef,u41,u42,u43,u44,u45,u46,u47,u48,u49,u50,u51,u52,u53,u54,u55,u56,u57,u58,u59,u60,u61,u62,u63,u64,u65,u66,u67,u68,u69,u70,u71,u72,u73,u74,u75,u76,u77,u78,u79,u80,u81,u82,u83,u84,u85,u86,u87,u88,u89,u90,u91,u92,u93,u94,u95,u96,u97,u98,u99,u100,u101,u102,u103,u104,u105,u106,u107,u108,u109,u110,u111,u112,u113,u114,u115,u116,u117,u118,u119,u120,u121,u122,u123,u124,u125,u126,u127,u128,u129,u130,u131,u132,u133,u134,u135,u136,u137,u138,u139,u140,u141,u142,u143,u144,u145,u146,u147,u148,u149,u150,u151,u152,u153,u154,u155,u156,u157,u158,u159,u160,u161,u162,u163,u164,u165,u166,u167,u168,u169,u170,u171,u172,u173,u174,u175,u176,u177,u178,u179,u180,u181,u182,u183,u184,u185,u186,u187,u188,u189,u190,u191,u192,u193,u194,u195,u196,v4,v0,v1,v2,v3,v5,v6,undef,undef,undef,undef,undef,undef,undef,undef,undef,undef,undef,undef,undef,undef,undef,undef,undef,undef,undef,undef,undef,undef,undef,undef,undef,undef,undef,undef,undef,undef,undef,undef,undef,undef,undef,undef,undef,undef,undef,undef,undef,undef,undef,undef,undef,undef,undef,undef,undef,undef,undef,undef,undef,undef,undef,undef,undef,undef,undef,undef,undef,undef,undef,undef,undef,undef,undef,undef,undef,undef,undef,undef,undef,undef,undef,undef,undef,undef,undef,undef,undef,undef,undef,undef,undef,undef,undef,undef,undef,undef,undef,undef,undef,undef,undef,undef,undef,undef,undef,undef,undef,undef,undef,undef,undef,undef,undef,undef,undef,undef,undef,undef,undef,undef,undef,undef,undef,undef,undef,undef,undef,undef,undef,undef,undef,undef,undef,undef,undef,undef,undef,undef,undef,undef,undef,undef,undef,undef,undef,undef,undef,undef,undef,undef,undef,undef,undef,undef,undef,undef],[]⟩∧DInv wc w' (fs16 K S1) [v0,v1,v2,v3,v4,v5,v6,v7,v8] L) (by kernel_rfl) (by kernel_rfl) ?_ ?_ ?_
 ·exact ⟨_,_,_,_,_,_,_,_,_,rfl,DInv.start (below_drewN (Below.refl _ _) 1)⟩
 ·rintro L aa w' ⟨v0,v1,v2,v3,v4,v5,v6,v7,v8,rfl,h⟩ hc i0 op9 ho hL hp
  have hi9:i0 < 9:=by simpa using (Array.getElem?_eq_some_iff.1 ho).1
  have hi2:i0=0∨i0=1∨i0=2∨i0=3∨i0=4∨i0=5∨i0=6∨i0=7∨i0=8:=by omega
  clear hi9
  rcases hi2 with rfl | rfl | rfl | rfl | rfl | rfl | rfl | rfl | rfl
  ·refine wpOp_step rfl ?_
   intro K9 hK
   go_simp
   have hT2:=hT.frame h.b
   refine (HNw.out _ w').mono ?_
   rintro e w4 ⟨rfl,hb4⟩
   clear hT2
   exact hK _ _ ⟨_,_,_,_,_,_,_,_,_,rfl,h.step (hb4) (i:=0) (F:=.lit (.agg #[.int .u8 3,.string ⟨#[]⟩,.string ⟨#[110,111,110,101]⟩,.int .i64 0,.slice none 0 0])) rfl (rfl)⟩
  ·refine wpOp_step rfl ?_
   intro K9 hK
   have f0:=h.lit (i:=0) (u:=.agg #[.int .u8 3,.string ⟨#[]⟩,.string ⟨#[110,111,110,101]⟩,.int .i64 0,.slice none 0 0]) (pred_spec ho hp (j:=0) (by kernel_rfl)) rfl rfl
   subst f0
   go_simp
   have hT2:=hT.frame h.b
   refine (HPa.out _ _ _ _ _ _ _ w').mono ?_
   rintro e w4 ⟨rfl,hb4⟩
   clear hT2
   exact hK _ _ ⟨_,_,_,_,_,_,_,_,_,rfl,h.step (hb4) (i:=1) (F:=.lit (.agg #[.int .u8 2,.string ⟨#[65,110,110]⟩,.string ⟨#[66,111,98]⟩,.string ⟨#[85,83,68]⟩,.int .u8 3,.string ⟨#[]⟩,.string ⟨#[110,111,110,101]⟩,.int .i64 0,.slice none 0 0,.int .i64 0,.slice none 0 0,.slice none 0 0])) rfl (rfl)⟩
  ·refine wpOp_step rfl ?_
   intro K9 hK
   have hT2:=hT.frame h.b
   have y0:w'.cell? ⟨S1,0,none⟩=some (.slice (some ⟨K,0,none⟩) 2 2):=hT2.s.e.cell (j:=0) rfl
   have y1:w'.cell? ⟨S1,1,none⟩=some (.slice (some ⟨S1+1,0,none⟩) 2 2):=hT2.s.e.cell (j:=1) rfl
   clear hT2
   go_simp
   exact hK _ _ ⟨_,_,_,_,_,_,_,_,_,rfl,h.step (Below.refl _ _) (i:=2) (F:=.lit (.agg #[.slice (some ⟨K,0,none⟩) 2 2,.slice (some ⟨S1+1,0,none⟩) 2 2])) rfl (rfl)⟩
  ·refine wpOp_step rfl ?_
   intro K9 hK
   have f1:=h.lit (i:=1) (u:=.agg #[.int .u8 2,.string ⟨#[65,110,110]⟩,.string ⟨#[66,111,98]⟩,.string ⟨#[85,83,68]⟩,.int .u8 3,.string ⟨#[]⟩,.string ⟨#[110,111,110,101]⟩,.int .i64 0,.slice none 0 0,.int .i64 0,.slice none 0 0,.slice none 0 0]) (pred_spec ho hp (j:=1) (by kernel_rfl)) rfl rfl
   subst f1
   have f2:=h.lit (i:=2) (u:=.agg #[.slice (some ⟨K,0,none⟩) 2 2,.slice (some ⟨S1+1,0,none⟩) 2 2]) (pred_spec ho hp (j:=2) (by kernel_rfl)) rfl rfl
   subst f2
   go_simp
   have hT2:=hT.frame h.b
   refine (qb 5 5 0 0 hT2 (flatN none _) (by decide) v_n5 rfl).mono ?_
   rintro e w4 ⟨ad4,cp4,rfl,hb4⟩
   clear hT2
   exact hK _ _ ⟨_,_,_,_,_,_,_,_,_,rfl,h.step (hb4) (i:=3) (F:=.tup 0 0) rfl (⟨_,_,rfl⟩)⟩
  ·refine wpOp_step rfl ?_
   intro K9 hK
   have f3:=h.at (i:=3) (F:=.tup 0 0) (pred_spec ho hp (j:=3) (by kernel_rfl)) rfl rfl
   obtain ⟨ad3,cp3,e3⟩:=f3
   subst e3
   go_simp
   exact hK _ _ ⟨_,_,_,_,_,_,_,_,_,rfl,h.step (Below.refl _ _) (i:=4) (F:=.tup 0 0) rfl (⟨_,_,rfl⟩)⟩
  ·refine wpOp_step rfl ?_
   intro K9 hK
   have f4:=h.at (i:=4) (F:=.tup 0 0) (pred_spec ho hp (j:=4) (by kernel_rfl)) rfl rfl
   obtain ⟨ad4,cp4,e4⟩:=f4
   subst e4
   go_simp
   exact hK _ _ ⟨_,_,_,_,_,_,_,_,_,rfl,h.step (Below.refl _ _) (i:=5) (F:=.sl 0) rfl (⟨_,_,rfl⟩)⟩
  ·refine wpOp_step rfl ?_
   intro K9 hK
   have f4:=h.at (i:=4) (F:=.tup 0 0) (pred_spec ho hp (j:=4) (by kernel_rfl)) rfl rfl
   obtain ⟨ad4,cp4,e4⟩:=f4
   subst e4
   go_simp
   exact hK _ _ ⟨_,_,_,_,_,_,_,_,_,rfl,h.step (Below.refl _ _) (i:=6) (F:=.lit (.int .i64 0)) rfl (rfl)⟩
  ·refine wpOp_step rfl ?_
   intro K9 hK
   have f5:=h.at (i:=5) (F:=.sl 0) (pred_spec ho hp (j:=5) (by kernel_rfl)) rfl rfl
   obtain ⟨ad5,cp5,e5⟩:=f5
   subst e5
   go_simp
   exact hK _ _ ⟨_,_,_,_,_,_,_,_,_,rfl,h.step (Below.refl _ _) (i:=7) (F:=.sl 0) rfl (⟨_,_,rfl⟩)⟩
  ·refine wpOp_step rfl ?_
   intro K9 hK
   have f6:=h.lit (i:=6) (u:=.int .i64 0) (pred_spec ho hp (j:=6) (by kernel_rfl)) rfl rfl
   subst f6
   go_simp
   exact hK _ _ ⟨_,_,_,_,_,_,_,_,_,rfl,h.step (Below.refl _ _) (i:=8) (F:=.lit (.int .i64 0)) rfl (rfl)⟩
 ·rintro L aa w' ⟨v0,v1,v2,v3,v4,v5,v6,v7,v8,rfl,h⟩ hall
  have e8:=h.at (i:=7) (F:=.sl 0) (hall 7 (by decide)) rfl rfl
  have e9:=h.lit (i:=8) (u:=.int .i64 0) (hall 8 (by decide)) rfl rfl
  exact hQ v0 v1 v2 v3 v4 v5 v6 v7 v8 w' e8 e9 (Lib.hid h.b)
noncomputable def nmops18:Array Oper:=cdOps (cdA (cdB (cdB (cdB (cdB (cdB (cdB (cdB (cdB (cdB (cdB (cdB (cdB (cdB (cdB (cdB (cdB (cdB (cdB (Tryz.f8.body.getD .skip))))))))))))))))))))
set_option maxHeartbeats 8000000 in
set_option maxRecDepth 100000 in
theorem nmreg18 {w4 wc:World} {K S1 S4 S9 B S10 S11:Nat} {dd ss:Value} {ad1 ad2 ad3 ad4:Option Addr} {cp1 cp2 cp3 cp4:Nat} {u41 u42 u43 u44 u45 u46 u47 u48 u49 u50 u51 u52 u53 u54 u55 u56 u57 u58 u59 u60 u61 u62 u63 u64 u65 u66 u67 u68 u69 u70 u71 u72 u73 u74 u75 u76 u77 u78 u79 u80 u81 u82 u83 u84 u85 u86 u87 u88 u89 u90 u91 u92 u93 u94 u95 u96 u97 u98 u99 u100 u101 u102 u103 u104 u105 u106 u107 u108 u109 u110 u111 u112 u113 u114 u115 u116 u117 u118 u119 u120 u121 u122 u123 u124 u125 u126 u127 u128 u129 u130 u131 u132 u133 u134 u135 u136 u137 u138 u139 u140 u141 u142 u143 u144 u145 u146 u147 u148 u149 u150 u151 u152 u153 u154 u155 u156 u157 u158 u159 u160 u161 u162 u163 u164 u165 u166 u167 u168 u169 u170 u171 u172 u173 u174 u175 u176 u177 u178 u179 u180 u181 u182 u183 u184 u185 u186 u187 u188 u189 u190 u191 u192 u193 u194 u195 u196 u197 u198 u199 u200 u201 u202 u203 z0 z1 z2 z3 z4 z5 z6 z7 z8:Value} (hT:NmT w4 K S1 S4 S9 B S10 S11 dd ss) (Q:Exit→Act→World→Prop)
  (hQ:∀ (v0 v1 v2 v3 v4 v5 v6 v7 v8:Value) (w':World),(∃ ad cp,v7 = .slice ad 0 cp)→v8 = .int .i64 8→Hid (Below w4.heap.size w4 w')→Q .normal ⟨#[.bool false,.pointer (some ⟨S1,0,none⟩),.pointer (some ⟨S4+1,0,none⟩),.pointer (some ⟨S9,0,none⟩),.pointer (some ⟨S9+1,0,none⟩),.func (.func 30) #[] #[],.func (.func 31) #[] #[],.func (.func 32) #[] #[.pointer (some ⟨S9,0,none⟩)],.func (.func 33) #[] #[.pointer (some ⟨S9,0,none⟩),.pointer (some ⟨S9+1,0,none⟩)],.pointer (some ⟨B,0,none⟩),.pointer (some ⟨S10+1+1,0,none⟩),.pointer (some ⟨S11+1,0,none⟩),.bool true,.slice ad1 1 cp1,.int .i64 0,.slice ad2 0 cp2,.int .i64 30,.slice ad3 0 cp3,.int .i64 0,.slice ad4 0 cp4,.int .i64 8,v7,v8,undef,undef,undef,undef,undef,undef,undef,undef,undef,undef,undef,undef,undef,undef,undef,undef,undef,undef,u41,u42,u43,u44,u45,u46,u47,u48,u49,u50,u51,u52,u53,u54,u55,u56,u57,u58,u59,u60,u61,u62,u63,u64,u65,u66,u67,u68,u69,u70,u71,u72,u73,u74,u75,u76,u77,u78,u79,u80,u81,u82,u83,u84,u85,u86,u87,u88,u89,u90,u91,u92,u93,u94,u95,u96,u97,u98,u99,u100,u101,u102,u103,u104,u105,u106,u107,u108,u109,u110,u111,u112,u113,u114,u115,u116,u117,u118,u119,u120,u121,u122,u123,u124,u125,u126,u127,u128,u129,u130,u131,u132,u133,u134,u135,u136,u137,u138,u139,u140,u141,u142,u143,u144,u145,u146,u147,u148,u149,u150,u151,u152,u153,u154,u155,u156,u157,u158,u159,u160,u161,u162,u163,u164,u165,u166,u167,u168,u169,u170,u171,u172,u173,u174,u175,u176,u177,u178,u179,u180,u181,u182,u183,u184,u185,u186,u187,u188,u189,u190,u191,u192,u193,u194,u195,u196,u197,u198,u199,u200,u201,u202,u203,.tuple #[.slice ad4 0 cp4,.int .i64 8],.agg #[.int .u8 0,.string ⟨#[]⟩,.string ⟨#[]⟩,.string ⟨#[]⟩,.int .u8 0,.string ⟨#[]⟩,.string ⟨#[]⟩,.int .i64 0,.slice none 0 0,.int .i64 0,.slice none 0 0,.slice none 0 0],.slice (some ⟨wc.heap.size,0,none⟩) 1 1,.agg #[.slice none 0 0,.slice (some ⟨wc.heap.size,0,none⟩) 1 1],.tuple #[.slice ad4 0 cp4,.int .i64 8],.slice ad4 0 cp4,.int .i64 8,v4,v0,v1,v2,v3,v5,v6,undef,undef,undef,undef,undef,undef,undef,undef,undef,undef,undef,undef,undef,undef,undef,undef,undef,undef,undef,undef,undef,undef,undef,undef,undef,undef,undef,undef,undef,undef,undef,undef,undef,undef,undef,undef,undef,undef,undef,undef,undef,undef,undef,undef,undef,undef,undef,undef,undef,undef,undef,undef,undef,undef,undef,undef,undef,undef,undef,undef,undef,undef,undef,undef,undef,undef,undef,undef,undef,undef,undef,undef,undef,undef,undef,undef,undef,undef,undef,undef,undef,undef,undef,undef,undef,undef,undef,undef,undef,undef,undef,undef,undef,undef,undef,undef,undef,undef,undef,undef,undef,undef,undef,undef,undef,undef,undef,undef,undef,undef,undef,undef,undef,undef,undef,undef,undef,undef,undef,undef,undef,undef,undef,undef,undef,undef,undef,undef,undef,undef,undef,undef,undef,undef,undef,undef],[]⟩ w') :
  (Code.region 18 nmops18 true).wp Tryz.prog Q ⟨#[.bool false,.pointer (some ⟨S1,0,none⟩),.pointer (some ⟨S4+1,0,none⟩),.pointer (some ⟨S9,0,none⟩),.pointer (some ⟨S9+1,0,none⟩),.func (.func 30) #[] #[],.func (.func 31) #[] #[],.func (.func 32) #[] #[.pointer (some ⟨S9,0,none⟩)],.func (.func 33) #[] #[.pointer (some ⟨S9,0,none⟩),.pointer (some ⟨S9+1,0,none⟩)],.pointer (some ⟨B,0,none⟩),.pointer (some ⟨S10+1+1,0,none⟩),.pointer (some ⟨S11+1,0,none⟩),.bool true,.slice ad1 1 cp1,.int .i64 0,.slice ad2 0 cp2,.int .i64 30,.slice ad3 0 cp3,.int .i64 0,.slice ad4 0 cp4,.int .i64 8,z7,z8,undef,undef,undef,undef,undef,undef,undef,undef,undef,undef,undef,undef,undef,undef,undef,undef,undef,undef,u41,u42,u43,u44,u45,u46,u47,u48,u49,u50,u51,u52,u53,u54,u55,u56,u57,u58,u59,u60,u61,u62,u63,u64,u65,u66,u67,u68,u69,u70,u71,u72,u73,u74,u75,u76,u77,u78,u79,u80,u81,u82,u83,u84,u85,u86,u87,u88,u89,u90,u91,u92,u93,u94,u95,u96,u97,u98,u99,u100,u101,u102,u103,u104,u105,u106,u107,u108,u109,u110,u111,u112,u113,u114,u115,u116,u117,u118,u119,u120,u121,u122,u123,u124,u125,u126,u127,u128,u129,u130,u131,u132,u133,u134,u135,u136,u137,u138,u139,u140,u141,u142,u143,u144,u145,u146,u147,u148,u149,u150,u151,u152,u153,u154,u155,u156,u157,u158,u159,u160,u161,u162,u163,u164,u165,u166,u167,u168,u169,u170,u171,u172,u173,u174,u175,u176,u177,u178,u179,u180,u181,u182,u183,u184,u185,u186,u187,u188,u189,u190,u191,u192,u193,u194,u195,u196,u197,u198,u199,u200,u201,u202,u203,.tuple #[.slice ad4 0 cp4,.int .i64 8],.agg #[.int .u8 0,.string ⟨#[]⟩,.string ⟨#[]⟩,.string ⟨#[]⟩,.int .u8 0,.string ⟨#[]⟩,.string ⟨#[]⟩,.int .i64 0,.slice none 0 0,.int .i64 0,.slice none 0 0,.slice none 0 0],.slice (some ⟨wc.heap.size,0,none⟩) 1 1,.agg #[.slice none 0 0,.slice (some ⟨wc.heap.size,0,none⟩) 1 1],.tuple #[.slice ad4 0 cp4,.int .i64 8],.slice ad4 0 cp4,.int .i64 8,z4,z0,z1,z2,z3,z5,z6,undef,undef,undef,undef,undef,undef,undef,undef,undef,undef,undef,undef,undef,undef,undef,undef,undef,undef,undef,undef,undef,undef,undef,undef,undef,undef,undef,undef,undef,undef,undef,undef,undef,undef,undef,undef,undef,undef,undef,undef,undef,undef,undef,undef,undef,undef,undef,undef,undef,undef,undef,undef,undef,undef,undef,undef,undef,undef,undef,undef,undef,undef,undef,undef,undef,undef,undef,undef,undef,undef,undef,undef,undef,undef,undef,undef,undef,undef,undef,undef,undef,undef,undef,undef,undef,undef,undef,undef,undef,undef,undef,undef,undef,undef,undef,undef,undef,undef,undef,undef,undef,undef,undef,undef,undef,undef,undef,undef,undef,undef,undef,undef,undef,undef,undef,undef,undef,undef,undef,undef,undef,undef,undef,undef,undef,undef,undef,undef,undef,undef,undef,undef,undef,undef,undef,undef],[]⟩ w4:=by
 have HNw:=Lib.hid (fun n W => now10_any n W)
 have HCo:=Lib.hid (fun r W => con10_any r W)
 have HPa:=Lib.hid (fun k r n d ad m cap W => pay10_any k r n d ad m cap W)
 have hmk:=mkC
 unfold nmops18
 dsimp only [cdOps,cdA,cdB,Tryz.f8,Option.getD]
 refine wp_region_invc (fun L aa w' => ∃ v0 v1 v2 v3 v4 v5 v6 v7 v8,aa=⟨#[.bool false,.pointer (some ⟨S1,0,none⟩),.pointer (some ⟨S4+1,0,none⟩),.pointer (some ⟨S9,0,none⟩),.pointer (some ⟨S9+1,0,none⟩),.func (.func 30) #[] #[],.func (.func 31) #[] #[],.func (.func 32) #[] #[.pointer (some ⟨S9,0,none⟩)],.func (.func 33) #[] #[.pointer (some ⟨S9,0,none⟩),.pointer (some ⟨S9+1,0,none⟩)],.pointer (some ⟨B,0,none⟩),.pointer (some ⟨S10+1+1,0,none⟩),.pointer (some ⟨S11+1,0,none⟩),.bool true,.slice ad1 1 cp1,.int .i64 0,.slice ad2 0 cp2,.int .i64 30,.slice ad3 0 cp3,.int .i64 0,.slice ad4 0 cp4,.int .i64 8,v7,v8,undef,undef,undef,undef,undef,undef,undef,undef,undef,undef,undef,undef,undef,undef,undef,undef,undef,undef,u41,u42,u43,u44,u45,u46,u47,u48,u49,u50,u51,u52,u53,u54,u55,u56,u57,u58,u59,u60,u61,u62,u63,u64,u65,u66,u67,u68,u69,u70,u71,u72,u73,u74,u75,u76,u77,u78,u79,u80,u81,u82,u83,u84,u85,u86,u87,u88,u89,u90,u91,u92,u93,u94,u95,u96,u97,u98,u99,u100,u101,u102,u103,u104,u105,u106,u107,u108,u109,u110,u111,u112,u113,u114,u115,u116,u117,u118,u119,u120,u121,u122,u123,u124,u125,u126,u127,u128,u129,u130,u131,u132,u133,u134,u135,u136,u137,u138,u139,u140,u141,u142,u143,u144,u145,u146,u147,u148,u149,u150,u151,u152,u153,u154,u155,u156,u157,u158,u159,u160,u161,u162,u163,u164,u165,u166,u167,u168,u169,u170,u171,u172,u173,u174,u175,u176,u177,u178,u179,u180,u181,u182,u183,u184,u185,u186,u187,u188,u189,u190,u191,u192,u193,u194,u195,u196,u197,u198,u199,u200,u201,u202,u203,.tuple #[.slice ad4 0 cp4,.int .i64 8],.agg #[.int .u8 0,.string ⟨#[]⟩,.string ⟨#[]⟩,.string ⟨#[]⟩,.int .u8 0,.string ⟨#[]⟩,.string ⟨#[]⟩,.int .i64 0,.slice none 0 0,.int .i64 0,.slice none 0 0,.slice none 0 0],.slice (some ⟨wc.heap.size,0,none⟩) 1 1,.agg #[.slice none 0 0,.slice (some ⟨wc.heap.size,0,none⟩) 1 1],.tuple #[.slice ad4 0 cp4,.int .i64 8],.slice ad4 0 cp4,.int .i64 8,v4,v0,v1,v2,v3,v5,v6,undef,undef,undef,undef,undef,undef,undef,undef,undef,undef,undef,undef,undef,undef,undef,undef,undef,undef,undef,undef,undef,undef,undef,undef,undef,undef,undef,undef,undef,undef,undef,undef,undef,undef,undef,undef,undef,undef,undef,undef,undef,undef,undef,undef,undef,undef,undef,undef,undef,undef,undef,undef,undef,undef,undef,undef,undef,undef,undef,undef,undef,undef,undef,undef,undef,undef,undef,undef,undef,undef,undef,undef,undef,undef,undef,undef,undef,undef,undef,undef,undef,undef,undef,undef,undef,undef,undef,undef,undef,undef,undef,undef,undef,undef,undef,undef,undef,undef,undef,undef,undef,undef,undef,undef,undef,undef,undef,undef,undef,undef,undef,undef,undef,undef,undef,undef,undef,undef,undef,undef,undef,undef,undef,undef,undef,undef,undef,undef,undef,undef,undef,undef,undef,undef,undef,undef],[]⟩∧DInv w4 w' (fs18) [v0,v1,v2,v3,v4,v5,v6,v7,v8] L) (by kernel_rfl) (by kernel_rfl) ?_ ?_ ?_
 ·exact ⟨_,_,_,_,_,_,_,_,_,rfl,DInv.start (below_drewN (Below.refl _ _) 1)⟩
 ·rintro L aa w' ⟨v0,v1,v2,v3,v4,v5,v6,v7,v8,rfl,h⟩ hc i0 op9 ho hL hp
  have hi9:i0 < 9:=by simpa using (Array.getElem?_eq_some_iff.1 ho).1
  have hi2:i0=0∨i0=1∨i0=2∨i0=3∨i0=4∨i0=5∨i0=6∨i0=7∨i0=8:=by omega
  clear hi9
  rcases hi2 with rfl | rfl | rfl | rfl | rfl | rfl | rfl | rfl | rfl
  ·refine wpOp_step rfl ?_
   intro K9 hK
   have hT2:=hT.frame h.b
   have y0:w'.cell? ⟨S9,0,none⟩=some (.int .u8 2):=hT2.s.o1.cell (j:=0) rfl
   have y1:w'.cell? ⟨S9,1,none⟩=some (.string ⟨#[65,110,110]⟩):=hT2.s.o1.cell (j:=1) rfl
   have y2:w'.cell? ⟨S9,2,none⟩=some (.string ⟨#[66,111,98]⟩):=hT2.s.o1.cell (j:=2) rfl
   have y3:w'.cell? ⟨S9,3,none⟩=some (.string ⟨#[85,83,68]⟩):=hT2.s.o1.cell (j:=3) rfl
   have y4:w'.cell? ⟨S9,4,none⟩=some (.int .u8 1):=hT2.s.o1.cell (j:=4) rfl
   have y5:w'.cell? ⟨S9,5,none⟩=some (.string ⟨#[49]⟩):=hT2.s.o1.cell (j:=5) rfl
   have y6:w'.cell? ⟨S9,6,none⟩=some (.string ⟨#[]⟩):=hT2.s.o1.cell (j:=6) rfl
   have y7:w'.cell? ⟨S9,7,none⟩=some (.int .i64 0):=hT2.s.o1.cell (j:=7) rfl
   have y8:w'.cell? ⟨S9,8,none⟩=some (.slice none 0 0):=hT2.s.o1.cell (j:=8) rfl
   have y9:w'.cell? ⟨S9,9,none⟩=some (.int .i64 0):=hT2.s.o1.cell (j:=9) rfl
   have y10:w'.cell? ⟨S9,10,none⟩=some (.slice none 0 0):=hT2.s.o1.cell (j:=10) rfl
   have y11:w'.cell? ⟨S9,11,none⟩=some (.slice none 0 0):=hT2.s.o1.cell (j:=11) rfl
   clear hT2
   go_simp
   exact hK _ _ ⟨_,_,_,_,_,_,_,_,_,rfl,h.step (Below.refl _ _) (i:=0) (F:=.lit (.agg #[.int .u8 2,.string ⟨#[65,110,110]⟩,.string ⟨#[66,111,98]⟩,.string ⟨#[85,83,68]⟩,.int .u8 1,.string ⟨#[49]⟩,.string ⟨#[]⟩,.int .i64 0,.slice none 0 0,.int .i64 0,.slice none 0 0,.slice none 0 0])) rfl (rfl)⟩
  ·refine wpOp_step rfl ?_
   intro K9 hK
   go_simp
   exact hK _ _ ⟨_,_,_,_,_,_,_,_,_,rfl,h.step (below_a1 _ _) (i:=1) (F:=.vd) rfl (vd_new _)⟩
  ·refine wpOp_step rfl ?_
   intro K9 hK
   have f1:=h.at (i:=1) (F:=.vd) (pred_spec ho hp (j:=1) (by kernel_rfl)) rfl rfl
   obtain ⟨B1,e1,hc1⟩:=f1
   subst e1
   go_simp
   exact hK _ _ ⟨_,_,_,_,_,_,_,_,_,rfl,h.step (Below.refl _ _) (i:=2) (F:=.ve) rfl (⟨_,rfl,hc1⟩)⟩
  ·refine wpOp_step rfl ?_
   intro K9 hK
   have f0:=h.lit (i:=0) (u:=.agg #[.int .u8 2,.string ⟨#[65,110,110]⟩,.string ⟨#[66,111,98]⟩,.string ⟨#[85,83,68]⟩,.int .u8 1,.string ⟨#[49]⟩,.string ⟨#[]⟩,.int .i64 0,.slice none 0 0,.int .i64 0,.slice none 0 0,.slice none 0 0]) (pred_spec ho hp (j:=0) (by kernel_rfl)) rfl rfl
   subst f0
   have f2:=h.at (i:=2) (F:=.ve) (pred_spec ho hp (j:=2) (by kernel_rfl)) rfl rfl
   go_simp
   have hT2:=hT.frame h.b
   refine (fv hT2 (flat1 none _) (by decide) v_env f2).mono ?_
   rintro e w4 ⟨ad4,cp4,rfl,hb4⟩
   clear hT2
   exact hK _ _ ⟨_,_,_,_,_,_,_,_,_,rfl,h.step (hb4) (i:=3) (F:=.tup 0 8) rfl (⟨_,_,rfl⟩)⟩
  ·refine wpOp_step rfl ?_
   intro K9 hK
   have f3:=h.at (i:=3) (F:=.tup 0 8) (pred_spec ho hp (j:=3) (by kernel_rfl)) rfl rfl
   obtain ⟨ad3,cp3,e3⟩:=f3
   subst e3
   go_simp
   exact hK _ _ ⟨_,_,_,_,_,_,_,_,_,rfl,h.step (Below.refl _ _) (i:=4) (F:=.tup 0 8) rfl (⟨_,_,rfl⟩)⟩
  ·refine wpOp_step rfl ?_
   intro K9 hK
   have f4:=h.at (i:=4) (F:=.tup 0 8) (pred_spec ho hp (j:=4) (by kernel_rfl)) rfl rfl
   obtain ⟨ad4,cp4,e4⟩:=f4
   subst e4
   go_simp
   exact hK _ _ ⟨_,_,_,_,_,_,_,_,_,rfl,h.step (Below.refl _ _) (i:=5) (F:=.sl 0) rfl (⟨_,_,rfl⟩)⟩
  ·refine wpOp_step rfl ?_
   intro K9 hK
   have f4:=h.at (i:=4) (F:=.tup 0 8) (pred_spec ho hp (j:=4) (by kernel_rfl)) rfl rfl
   obtain ⟨ad4,cp4,e4⟩:=f4
   subst e4
   go_simp
   exact hK _ _ ⟨_,_,_,_,_,_,_,_,_,rfl,h.step (Below.refl _ _) (i:=6) (F:=.lit (.int .i64 8)) rfl (rfl)⟩
  ·refine wpOp_step rfl ?_
   intro K9 hK
   have f5:=h.at (i:=5) (F:=.sl 0) (pred_spec ho hp (j:=5) (by kernel_rfl)) rfl rfl
   obtain ⟨ad5,cp5,e5⟩:=f5
   subst e5
   go_simp
   exact hK _ _ ⟨_,_,_,_,_,_,_,_,_,rfl,h.step (Below.refl _ _) (i:=7) (F:=.sl 0) rfl (⟨_,_,rfl⟩)⟩
  ·refine wpOp_step rfl ?_
   intro K9 hK
   have f6:=h.lit (i:=6) (u:=.int .i64 8) (pred_spec ho hp (j:=6) (by kernel_rfl)) rfl rfl
   subst f6
   go_simp
   exact hK _ _ ⟨_,_,_,_,_,_,_,_,_,rfl,h.step (Below.refl _ _) (i:=8) (F:=.lit (.int .i64 8)) rfl (rfl)⟩
 ·rintro L aa w' ⟨v0,v1,v2,v3,v4,v5,v6,v7,v8,rfl,h⟩ hall
  have e8:=h.at (i:=7) (F:=.sl 0) (hall 7 (by decide)) rfl rfl
  have e9:=h.lit (i:=8) (u:=.int .i64 8) (hall 8 (by decide)) rfl rfl
  exact hQ v0 v1 v2 v3 v4 v5 v6 v7 v8 w' e8 e9 (Lib.hid h.b)
end Go.Proofs.YtknpnhodpgajbaaGreatDoor
