/-
  Law 10, MeaningNames: the drawn region of the second list.  Printed by tools/gendr.py.
-/
import Derived.Test.YtknpnhodpgajbaaGreatDoorE36
namespace Go.Proofs.YtknpnhodpgajbaaGreatDoor
open Go.RowKit
noncomputable def nmops13:Array Oper:=cdOps (cdA (cdB (cdB (cdB (cdB (cdB (cdB (cdB (cdB (cdB (cdB (cdB (cdB (cdB (Tryz.f8.body.getD .skip)))))))))))))))
set_option maxHeartbeats 8000000 in
set_option maxRecDepth 100000 in
theorem nmreg13 {wc:World} {K S1 S4 S9 B S10 S11:Nat} {dd ss:Value} {u41 u42 u43 u44 u45 u46 u47 u48 u49 u50 u51 u52 u53 u54 u55 u56 u57 u58 u59 u60 u61 u62 u63 u64 u65 u66 u67 u68 u69 u70 u71 u72 u73 u74 u75 u76 u77 u78 u79 u80 u81 u82 u83 u84 u85 u86 u87 u88 u89 u90 u91 u92 u93 u94 u95 u96 u97 u98 u99 u100 u101 u102 u103 u104 u105 u106 u107 u108 u109 u110 u111 u112 u113 u114 u115 u116 u117 u118 u119 z0 z1 z2 z3 z4 z5 z6 z7 z8 z9 z10 z11 z12 z13 z14 z15 z16 z17 z18 z19 z20 z21 z22 z23 z24 z25 z26 z27 z28 z29 z30 z31 z32 z33 z34 z35 z36 z37 z38 z39 z40 z41 z42 z43 z44 z45 z46 z47 z48 z49 z50 z51 z52:Value} (hT:NmT wc K S1 S4 S9 B S10 S11 dd ss) (Q:Exit→Act→World→Prop)
  (hQ:∀ (v0 v1 v2 v3 v4 v5 v6 v7 v8 v9 v10 v11 v12 v13 v14 v15 v16 v17 v18 v19 v20 v21 v22 v23 v24 v25 v26 v27 v28 v29 v30 v31 v32 v33 v34 v35 v36 v37 v38 v39 v40 v41 v42 v43 v44 v45 v46 v47 v48 v49 v50 v51 v52 v53:Value) (w':World),v53 = .bool true→Hid (Below wc.heap.size wc w')→Q .normal ⟨#[.bool false,.pointer (some ⟨S1,0,none⟩),.pointer (some ⟨S4+1,0,none⟩),.pointer (some ⟨S9,0,none⟩),.pointer (some ⟨S9+1,0,none⟩),.func (.func 30) #[] #[],.func (.func 31) #[] #[],.func (.func 32) #[] #[.pointer (some ⟨S9,0,none⟩)],.func (.func 33) #[] #[.pointer (some ⟨S9,0,none⟩),.pointer (some ⟨S9+1,0,none⟩)],.pointer (some ⟨B,0,none⟩),.pointer (some ⟨S10+1+1,0,none⟩),.pointer (some ⟨S11+1,0,none⟩),v53,undef,undef,undef,undef,undef,undef,undef,undef,undef,undef,undef,undef,undef,undef,undef,undef,undef,undef,undef,undef,undef,undef,undef,undef,undef,undef,undef,undef,u41,u42,u43,u44,u45,u46,u47,u48,u49,u50,u51,u52,u53,u54,u55,u56,u57,u58,u59,u60,u61,u62,u63,u64,u65,u66,u67,u68,u69,u70,u71,u72,u73,u74,u75,u76,u77,u78,u79,u80,u81,u82,u83,u84,u85,u86,u87,u88,u89,u90,u91,u92,u93,u94,u95,u96,u97,u98,u99,u100,u101,u102,u103,u104,u105,u106,u107,u108,u109,u110,u111,u112,u113,u114,u115,u116,u117,u118,u119,v0,v1,v2,v3,v4,v5,v6,v7,v8,v9,v10,v11,v12,v13,v14,v15,v16,v17,v18,v19,v20,v21,v22,v23,v24,v25,v26,v27,v28,v29,v30,v31,v32,v33,v34,v35,v36,v37,v38,v39,v40,v41,v42,v43,v44,v45,v46,v47,v48,v49,v50,v51,v52,undef,undef,undef,undef,undef,undef,undef,undef,undef,undef,undef,undef,undef,undef,undef,undef,undef,undef,undef,undef,undef,undef,undef,undef,undef,undef,undef,undef,undef,undef,undef,undef,undef,undef,undef,undef,undef,undef,undef,undef,undef,undef,undef,undef,undef,undef,undef,undef,undef,undef,undef,undef,undef,undef,undef,undef,undef,undef,undef,undef,undef,undef,undef,undef,undef,undef,undef,undef,undef,undef,undef,undef,undef,undef,undef,undef,undef,undef,undef,undef,undef,undef,undef,undef,undef,undef,undef,undef,undef,undef,undef,undef,undef,undef,undef,undef,undef,undef,undef,undef,undef,undef,undef,undef,undef,undef,undef,undef,undef,undef,undef,undef,undef,undef,undef,undef,undef,undef,undef,undef,undef,undef,undef,undef,undef,undef,undef,undef,undef,undef,undef,undef,undef,undef,undef,undef,undef,undef,undef,undef,undef,undef,undef,undef,undef,undef,undef,undef,undef,undef,undef,undef,undef,undef,undef,undef,undef,undef,undef,undef,undef,undef,undef,undef,undef,undef,undef,undef,undef,undef,undef,undef,undef,undef,undef,undef,undef,undef,undef,undef,undef],[]⟩ w') :
  (Code.region 13 nmops13 true).wp Tryz.prog Q ⟨#[.bool false,.pointer (some ⟨S1,0,none⟩),.pointer (some ⟨S4+1,0,none⟩),.pointer (some ⟨S9,0,none⟩),.pointer (some ⟨S9+1,0,none⟩),.func (.func 30) #[] #[],.func (.func 31) #[] #[],.func (.func 32) #[] #[.pointer (some ⟨S9,0,none⟩)],.func (.func 33) #[] #[.pointer (some ⟨S9,0,none⟩),.pointer (some ⟨S9+1,0,none⟩)],.pointer (some ⟨B,0,none⟩),.pointer (some ⟨S10+1+1,0,none⟩),.pointer (some ⟨S11+1,0,none⟩),.bool true,undef,undef,undef,undef,undef,undef,undef,undef,undef,undef,undef,undef,undef,undef,undef,undef,undef,undef,undef,undef,undef,undef,undef,undef,undef,undef,undef,undef,u41,u42,u43,u44,u45,u46,u47,u48,u49,u50,u51,u52,u53,u54,u55,u56,u57,u58,u59,u60,u61,u62,u63,u64,u65,u66,u67,u68,u69,u70,u71,u72,u73,u74,u75,u76,u77,u78,u79,u80,u81,u82,u83,u84,u85,u86,u87,u88,u89,u90,u91,u92,u93,u94,u95,u96,u97,u98,u99,u100,u101,u102,u103,u104,u105,u106,u107,u108,u109,u110,u111,u112,u113,u114,u115,u116,u117,u118,u119,z0,z1,z2,z3,z4,z5,z6,z7,z8,z9,z10,z11,z12,z13,z14,z15,z16,z17,z18,z19,z20,z21,z22,z23,z24,z25,z26,z27,z28,z29,z30,z31,z32,z33,z34,z35,z36,z37,z38,z39,z40,z41,z42,z43,z44,z45,z46,z47,z48,z49,z50,z51,z52,undef,undef,undef,undef,undef,undef,undef,undef,undef,undef,undef,undef,undef,undef,undef,undef,undef,undef,undef,undef,undef,undef,undef,undef,undef,undef,undef,undef,undef,undef,undef,undef,undef,undef,undef,undef,undef,undef,undef,undef,undef,undef,undef,undef,undef,undef,undef,undef,undef,undef,undef,undef,undef,undef,undef,undef,undef,undef,undef,undef,undef,undef,undef,undef,undef,undef,undef,undef,undef,undef,undef,undef,undef,undef,undef,undef,undef,undef,undef,undef,undef,undef,undef,undef,undef,undef,undef,undef,undef,undef,undef,undef,undef,undef,undef,undef,undef,undef,undef,undef,undef,undef,undef,undef,undef,undef,undef,undef,undef,undef,undef,undef,undef,undef,undef,undef,undef,undef,undef,undef,undef,undef,undef,undef,undef,undef,undef,undef,undef,undef,undef,undef,undef,undef,undef,undef,undef,undef,undef,undef,undef,undef,undef,undef,undef,undef,undef,undef,undef,undef,undef,undef,undef,undef,undef,undef,undef,undef,undef,undef,undef,undef,undef,undef,undef,undef,undef,undef,undef,undef,undef,undef,undef,undef,undef,undef,undef,undef,undef,undef,undef],[]⟩ wc:=by
 have HNw:=Lib.hid (fun n W => now10_any n W)
 have HCo:=Lib.hid (fun r W => con10_any r W)
 have HPa:=Lib.hid (fun k r n d ad m cap W => pay10_any k r n d ad m cap W)
 unfold nmops13
 dsimp only [cdOps,cdA,cdB,Tryz.f8,Option.getD]
 refine wp_region_invc (fun L aa w' => ∃ v0 v1 v2 v3 v4 v5 v6 v7 v8 v9 v10 v11 v12 v13 v14 v15 v16 v17 v18 v19 v20 v21 v22 v23 v24 v25 v26 v27 v28 v29 v30 v31 v32 v33 v34 v35 v36 v37 v38 v39 v40 v41 v42 v43 v44 v45 v46 v47 v48 v49 v50 v51 v52 v53,aa=⟨#[.bool false,.pointer (some ⟨S1,0,none⟩),.pointer (some ⟨S4+1,0,none⟩),.pointer (some ⟨S9,0,none⟩),.pointer (some ⟨S9+1,0,none⟩),.func (.func 30) #[] #[],.func (.func 31) #[] #[],.func (.func 32) #[] #[.pointer (some ⟨S9,0,none⟩)],.func (.func 33) #[] #[.pointer (some ⟨S9,0,none⟩),.pointer (some ⟨S9+1,0,none⟩)],.pointer (some ⟨B,0,none⟩),.pointer (some ⟨S10+1+1,0,none⟩),.pointer (some ⟨S11+1,0,none⟩),v53,undef,undef,undef,undef,undef,undef,undef,undef,undef,undef,undef,undef,undef,undef,undef,undef,undef,undef,undef,undef,undef,undef,undef,undef,undef,undef,undef,undef,u41,u42,u43,u44,u45,u46,u47,u48,u49,u50,u51,u52,u53,u54,u55,u56,u57,u58,u59,u60,u61,u62,u63,u64,u65,u66,u67,u68,u69,u70,u71,u72,u73,u74,u75,u76,u77,u78,u79,u80,u81,u82,u83,u84,u85,u86,u87,u88,u89,u90,u91,u92,u93,u94,u95,u96,u97,u98,u99,u100,u101,u102,u103,u104,u105,u106,u107,u108,u109,u110,u111,u112,u113,u114,u115,u116,u117,u118,u119,v0,v1,v2,v3,v4,v5,v6,v7,v8,v9,v10,v11,v12,v13,v14,v15,v16,v17,v18,v19,v20,v21,v22,v23,v24,v25,v26,v27,v28,v29,v30,v31,v32,v33,v34,v35,v36,v37,v38,v39,v40,v41,v42,v43,v44,v45,v46,v47,v48,v49,v50,v51,v52,undef,undef,undef,undef,undef,undef,undef,undef,undef,undef,undef,undef,undef,undef,undef,undef,undef,undef,undef,undef,undef,undef,undef,undef,undef,undef,undef,undef,undef,undef,undef,undef,undef,undef,undef,undef,undef,undef,undef,undef,undef,undef,undef,undef,undef,undef,undef,undef,undef,undef,undef,undef,undef,undef,undef,undef,undef,undef,undef,undef,undef,undef,undef,undef,undef,undef,undef,undef,undef,undef,undef,undef,undef,undef,undef,undef,undef,undef,undef,undef,undef,undef,undef,undef,undef,undef,undef,undef,undef,undef,undef,undef,undef,undef,undef,undef,undef,undef,undef,undef,undef,undef,undef,undef,undef,undef,undef,undef,undef,undef,undef,undef,undef,undef,undef,undef,undef,undef,undef,undef,undef,undef,undef,undef,undef,undef,undef,undef,undef,undef,undef,undef,undef,undef,undef,undef,undef,undef,undef,undef,undef,undef,undef,undef,undef,undef,undef,undef,undef,undef,undef,undef,undef,undef,undef,undef,undef,undef,undef,undef,undef,undef,undef,undef,undef,undef,undef,undef,undef,undef,undef,undef,undef,undef,undef,undef,undef,undef,undef,undef,undef],[]⟩∧DInv wc w' (fs13 K S1 S4 S9 S10 dd ss) [v0,v1,v2,v3,v4,v5,v6,v7,v8,v9,v10,v11,v12,v13,v14,v15,v16,v17,v18,v19,v20,v21,v22,v23,v24,v25,v26,v27,v28,v29,v30,v31,v32,v33,v34,v35,v36,v37,v38,v39,v40,v41,v42,v43,v44,v45,v46,v47,v48,v49,v50,v51,v52,v53] L∧(L 53=false→v53 = .bool true)) (by kernel_rfl) (by kernel_rfl) ?_ ?_ ?_
 ·exact ⟨_,_,_,_,_,_,_,_,_,_,_,_,_,_,_,_,_,_,_,_,_,_,_,_,_,_,_,_,_,_,_,_,_,_,_,_,_,_,_,_,_,_,_,_,_,_,_,_,_,_,_,_,_,_,rfl,DInv.start (below_drewN (Below.refl _ _) 1),fun _ => rfl⟩
 ·rintro L aa w' ⟨v0,v1,v2,v3,v4,v5,v6,v7,v8,v9,v10,v11,v12,v13,v14,v15,v16,v17,v18,v19,v20,v21,v22,v23,v24,v25,v26,v27,v28,v29,v30,v31,v32,v33,v34,v35,v36,v37,v38,v39,v40,v41,v42,v43,v44,v45,v46,v47,v48,v49,v50,v51,v52,v53,rfl,h,hx⟩ hc i0 op9 ho hL hp
  have hi9:i0 < 54:=by simpa using (Array.getElem?_eq_some_iff.1 ho).1
  have hi2:i0=0∨i0=1∨i0=2∨i0=3∨i0=4∨i0=5∨i0=6∨i0=7∨i0=8∨i0=9∨i0=10∨i0=11∨i0=12∨i0=13∨i0=14∨i0=15∨i0=16∨i0=17∨i0=18∨i0=19∨i0=20∨i0=21∨i0=22∨i0=23∨i0=24∨i0=25∨i0=26∨i0=27∨i0=28∨i0=29∨i0=30∨i0=31∨i0=32∨i0=33∨i0=34∨i0=35∨i0=36∨i0=37∨i0=38∨i0=39∨i0=40∨i0=41∨i0=42∨i0=43∨i0=44∨i0=45∨i0=46∨i0=47∨i0=48∨i0=49∨i0=50∨i0=51∨i0=52∨i0=53:=by omega
  clear hi9
  rcases hi2 with rfl | rfl | rfl | rfl | rfl | rfl | rfl | rfl | rfl | rfl | rfl | rfl | rfl | rfl | rfl | rfl | rfl | rfl | rfl | rfl | rfl | rfl | rfl | rfl | rfl | rfl | rfl | rfl | rfl | rfl | rfl | rfl | rfl | rfl | rfl | rfl | rfl | rfl | rfl | rfl | rfl | rfl | rfl | rfl | rfl | rfl | rfl | rfl | rfl | rfl | rfl | rfl | rfl | rfl
  ·refine wpOp_step rfl ?_
   intro K9 hK
   have e0:=hx (cl_no hc hL 53 (by kernel_rfl))
   subst e0
   go_simp
   exact hK _ _ ⟨_,_,_,_,_,_,_,_,_,_,_,_,_,_,_,_,_,_,_,_,_,_,_,_,_,_,_,_,_,_,_,_,_,_,_,_,_,_,_,_,_,_,_,_,_,_,_,_,_,_,_,_,_,_,rfl,h.step (Below.refl _ _) (i:=0) (F:=.lit (.bool true)) rfl (rfl),fun q => hx (by rw [← q];unfold upd;rw [if_neg (by decide)])⟩
  ·refine wpOp_step rfl ?_
   intro K9 hK
   have f0:=h.lit (i:=0) (u:=.bool true) (pred_spec ho hp (j:=0) (by kernel_rfl)) rfl rfl
   subst f0
   go_simp
   exact hK _ _ ⟨_,_,_,_,_,_,_,_,_,_,_,_,_,_,_,_,_,_,_,_,_,_,_,_,_,_,_,_,_,_,_,_,_,_,_,_,_,_,_,_,_,_,_,_,_,_,_,_,_,_,_,_,_,_,rfl,h.step (Below.refl _ _) (i:=1) (F:=.lit (.bool true)) rfl (rfl),fun q => hx (by rw [← q];unfold upd;rw [if_neg (by decide)])⟩
  ·refine wpOp_step rfl ?_
   intro K9 hK
   have f1:=h.lit (i:=1) (u:=.bool true) (pred_spec ho hp (j:=1) (by kernel_rfl)) rfl rfl
   subst f1
   go_simp
   exact hK _ _ ⟨_,_,_,_,_,_,_,_,_,_,_,_,_,_,_,_,_,_,_,_,_,_,_,_,_,_,_,_,_,_,_,_,_,_,_,_,_,_,_,_,_,_,_,_,_,_,_,_,_,_,_,_,_,_,rfl,h.step (Below.refl _ _) (i:=2) (F:=.lit (.func (.func 32) #[] #[.pointer (some ⟨S9,0,none⟩)])) rfl (rfl),fun q => hx (by rw [← q];unfold upd;rw [if_neg (by decide)])⟩
  ·refine wpOp_step rfl ?_
   intro K9 hK
   have f1:=h.lit (i:=1) (u:=.bool true) (pred_spec ho hp (j:=1) (by kernel_rfl)) rfl rfl
   subst f1
   go_simp
   exact hK _ _ ⟨_,_,_,_,_,_,_,_,_,_,_,_,_,_,_,_,_,_,_,_,_,_,_,_,_,_,_,_,_,_,_,_,_,_,_,_,_,_,_,_,_,_,_,_,_,_,_,_,_,_,_,_,_,_,rfl,h.step (below_a1 _ _) (i:=3) (F:=.days [3,6,7]) rfl (days_new [3,6,7] _ none_lt),fun q => hx (by rw [← q];unfold upd;rw [if_neg (by decide)])⟩
  ·refine wpOp_step rfl ?_
   intro K9 hK
   have f1:=h.lit (i:=1) (u:=.bool true) (pred_spec ho hp (j:=1) (by kernel_rfl)) rfl rfl
   subst f1
   have f2:=h.lit (i:=2) (u:=.func (.func 32) #[] #[.pointer (some ⟨S9,0,none⟩)]) (pred_spec ho hp (j:=2) (by kernel_rfl)) rfl rfl
   subst f2
   have f3:=h.at (i:=3) (F:=.days [3,6,7]) (pred_spec ho hp (j:=3) (by kernel_rfl)) rfl rfl
   go_simp
   have hT2:=hT.frame h.b
   refine (ca_dr ⟨#[65,110,110]⟩ [3,6,7] hT2.s.o1 f3).mono ?_
   rintro e w4 ⟨u4,rfl,hu4,hb4⟩
   clear hT2
   exact hK _ _ ⟨_,_,_,_,_,_,_,_,_,_,_,_,_,_,_,_,_,_,_,_,_,_,_,_,_,_,_,_,_,_,_,_,_,_,_,_,_,_,_,_,_,_,_,_,_,_,_,_,_,_,_,_,_,_,rfl,h.step (hb4) (i:=4) (F:=.held (callN ⟨#[65,110,110]⟩ [3,6,7] cOne)) rfl (hu4),fun q => hx (by rw [← q];unfold upd;rw [if_neg (by decide)])⟩
  ·refine wpOp_step rfl ?_
   intro K9 hK
   have f1:=h.lit (i:=1) (u:=.bool true) (pred_spec ho hp (j:=1) (by kernel_rfl)) rfl rfl
   subst f1
   have hT2:=hT.frame h.b
   have y0:w'.cell? ⟨S1,0,none⟩=some (.slice (some ⟨K,0,none⟩) 2 2):=hT2.s.e.cell (j:=0) rfl
   have y1:w'.cell? ⟨S1,1,none⟩=some (.slice (some ⟨S1+1,0,none⟩) 2 2):=hT2.s.e.cell (j:=1) rfl
   clear hT2
   go_simp
   exact hK _ _ ⟨_,_,_,_,_,_,_,_,_,_,_,_,_,_,_,_,_,_,_,_,_,_,_,_,_,_,_,_,_,_,_,_,_,_,_,_,_,_,_,_,_,_,_,_,_,_,_,_,_,_,_,_,_,_,rfl,h.step (Below.refl _ _) (i:=5) (F:=.lit (.agg #[.slice (some ⟨K,0,none⟩) 2 2,.slice (some ⟨S1+1,0,none⟩) 2 2])) rfl (rfl),fun q => hx (by rw [← q];unfold upd;rw [if_neg (by decide)])⟩
  ·refine wpOp_step rfl ?_
   intro K9 hK
   have f1:=h.lit (i:=1) (u:=.bool true) (pred_spec ho hp (j:=1) (by kernel_rfl)) rfl rfl
   subst f1
   go_simp
   exact hK _ _ ⟨_,_,_,_,_,_,_,_,_,_,_,_,_,_,_,_,_,_,_,_,_,_,_,_,_,_,_,_,_,_,_,_,_,_,_,_,_,_,_,_,_,_,_,_,_,_,_,_,_,_,_,_,_,_,rfl,h.step (below_a1 _ _) (i:=6) (F:=.dl [6]) rfl (dl_new _ [6] _),fun q => hx (by rw [← q];unfold upd;rw [if_neg (by decide)])⟩
  ·refine wpOp_step rfl ?_
   intro K9 hK
   have f1:=h.lit (i:=1) (u:=.bool true) (pred_spec ho hp (j:=1) (by kernel_rfl)) rfl rfl
   subst f1
   go_simp
   exact hK _ _ ⟨_,_,_,_,_,_,_,_,_,_,_,_,_,_,_,_,_,_,_,_,_,_,_,_,_,_,_,_,_,_,_,_,_,_,_,_,_,_,_,_,_,_,_,_,_,_,_,_,_,_,_,_,_,_,rfl,h.step (below_a1 _ _) (i:=7) (F:=.rl [⟨#[49]⟩]) rfl (rl_new _ [⟨#[49]⟩] _),fun q => hx (by rw [← q];unfold upd;rw [if_neg (by decide)])⟩
  ·refine wpOp_step rfl ?_
   intro K9 hK
   have f1:=h.lit (i:=1) (u:=.bool true) (pred_spec ho hp (j:=1) (by kernel_rfl)) rfl rfl
   subst f1
   have f4:=h.at (i:=4) (F:=.held (callN ⟨#[65,110,110]⟩ [3,6,7] cOne)) (pred_spec ho hp (j:=4) (by kernel_rfl)) rfl rfl
   have f5:=h.lit (i:=5) (u:=.agg #[.slice (some ⟨K,0,none⟩) 2 2,.slice (some ⟨S1+1,0,none⟩) 2 2]) (pred_spec ho hp (j:=5) (by kernel_rfl)) rfl rfl
   subst f5
   have f6:=h.at (i:=6) (F:=.dl [6]) (pred_spec ho hp (j:=6) (by kernel_rfl)) rfl rfl
   have f7:=h.at (i:=7) (F:=.rl [⟨#[49]⟩]) (pred_spec ho hp (j:=7) (by kernel_rfl)) rfl rfl
   go_simp
   have hT2:=hT.frame h.b
   refine (q1 6 ⟨#[49]⟩ hT2 f4 (by decide) v_call6 f6 f7).mono ?_
   rintro e w4 ⟨rfl,hb4⟩
   clear hT2
   exact hK _ _ ⟨_,_,_,_,_,_,_,_,_,_,_,_,_,_,_,_,_,_,_,_,_,_,_,_,_,_,_,_,_,_,_,_,_,_,_,_,_,_,_,_,_,_,_,_,_,_,_,_,_,_,_,_,_,_,rfl,h.step (hb4) (i:=8) (F:=.lit (.bool true)) rfl (rfl),fun q => hx (by rw [← q];unfold upd;rw [if_neg (by decide)])⟩
  ·refine wpOp_step rfl ?_
   intro K9 hK
   have f1:=h.lit (i:=1) (u:=.bool true) (pred_spec ho hp (j:=1) (by kernel_rfl)) rfl rfl
   subst f1
   have f8:=h.lit (i:=8) (u:=.bool true) (pred_spec ho hp (j:=8) (by kernel_rfl)) rfl rfl
   subst f8
   go_simp
   exact hK _ _ ⟨_,_,_,_,_,_,_,_,_,_,_,_,_,_,_,_,_,_,_,_,_,_,_,_,_,_,_,_,_,_,_,_,_,_,_,_,_,_,_,_,_,_,_,_,_,_,_,_,_,_,_,_,_,_,rfl,h.step (Below.refl _ _) (i:=9) (F:=.lit (.bool true)) rfl (rfl),fun q => hx (by rw [← q];unfold upd;rw [if_neg (by decide)])⟩
  ·refine wpOp_step rfl ?_
   intro K9 hK
   have f9:=h.lit (i:=9) (u:=.bool true) (pred_spec ho hp (j:=9) (by kernel_rfl)) rfl rfl
   subst f9
   go_simp
   exact hK _ _ ⟨_,_,_,_,_,_,_,_,_,_,_,_,_,_,_,_,_,_,_,_,_,_,_,_,_,_,_,_,_,_,_,_,_,_,_,_,_,_,_,_,_,_,_,_,_,_,_,_,_,_,_,_,_,_,rfl,h.step (Below.refl _ _) (i:=10) (F:=.lit (.bool true)) rfl (rfl),fun q => hx (by rw [← q];unfold upd;rw [if_neg (by decide)])⟩
  ·refine wpOp_step rfl ?_
   intro K9 hK
   have f10:=h.lit (i:=10) (u:=.bool true) (pred_spec ho hp (j:=10) (by kernel_rfl)) rfl rfl
   subst f10
   go_simp
   exact hK _ _ ⟨_,_,_,_,_,_,_,_,_,_,_,_,_,_,_,_,_,_,_,_,_,_,_,_,_,_,_,_,_,_,_,_,_,_,_,_,_,_,_,_,_,_,_,_,_,_,_,_,_,_,_,_,_,_,rfl,h.step (Below.refl _ _) (i:=11) (F:=.lit (.func (.func 32) #[] #[.pointer (some ⟨S9,0,none⟩)])) rfl (rfl),fun q => hx (by rw [← q];unfold upd;rw [if_neg (by decide)])⟩
  ·refine wpOp_step rfl ?_
   intro K9 hK
   have f10:=h.lit (i:=10) (u:=.bool true) (pred_spec ho hp (j:=10) (by kernel_rfl)) rfl rfl
   subst f10
   go_simp
   exact hK _ _ ⟨_,_,_,_,_,_,_,_,_,_,_,_,_,_,_,_,_,_,_,_,_,_,_,_,_,_,_,_,_,_,_,_,_,_,_,_,_,_,_,_,_,_,_,_,_,_,_,_,_,_,_,_,_,_,rfl,h.step (below_a1 _ _) (i:=12) (F:=.days [5,7]) rfl (days_new [5,7] _ none_lt),fun q => hx (by rw [← q];unfold upd;rw [if_neg (by decide)])⟩
  ·refine wpOp_step rfl ?_
   intro K9 hK
   have f10:=h.lit (i:=10) (u:=.bool true) (pred_spec ho hp (j:=10) (by kernel_rfl)) rfl rfl
   subst f10
   have f11:=h.lit (i:=11) (u:=.func (.func 32) #[] #[.pointer (some ⟨S9,0,none⟩)]) (pred_spec ho hp (j:=11) (by kernel_rfl)) rfl rfl
   subst f11
   have f12:=h.at (i:=12) (F:=.days [5,7]) (pred_spec ho hp (j:=12) (by kernel_rfl)) rfl rfl
   go_simp
   have hT2:=hT.frame h.b
   refine (ca_dr ⟨#[65,110,110]⟩ [5,7] hT2.s.o1 f12).mono ?_
   rintro e w4 ⟨u4,rfl,hu4,hb4⟩
   clear hT2
   exact hK _ _ ⟨_,_,_,_,_,_,_,_,_,_,_,_,_,_,_,_,_,_,_,_,_,_,_,_,_,_,_,_,_,_,_,_,_,_,_,_,_,_,_,_,_,_,_,_,_,_,_,_,_,_,_,_,_,_,rfl,h.step (hb4) (i:=13) (F:=.held (callN ⟨#[65,110,110]⟩ [5,7] cOne)) rfl (hu4),fun q => hx (by rw [← q];unfold upd;rw [if_neg (by decide)])⟩
  ·refine wpOp_step rfl ?_
   intro K9 hK
   have f10:=h.lit (i:=10) (u:=.bool true) (pred_spec ho hp (j:=10) (by kernel_rfl)) rfl rfl
   subst f10
   have hT2:=hT.frame h.b
   have y0:w'.cell? ⟨S1,0,none⟩=some (.slice (some ⟨K,0,none⟩) 2 2):=hT2.s.e.cell (j:=0) rfl
   have y1:w'.cell? ⟨S1,1,none⟩=some (.slice (some ⟨S1+1,0,none⟩) 2 2):=hT2.s.e.cell (j:=1) rfl
   clear hT2
   go_simp
   exact hK _ _ ⟨_,_,_,_,_,_,_,_,_,_,_,_,_,_,_,_,_,_,_,_,_,_,_,_,_,_,_,_,_,_,_,_,_,_,_,_,_,_,_,_,_,_,_,_,_,_,_,_,_,_,_,_,_,_,rfl,h.step (Below.refl _ _) (i:=14) (F:=.lit (.agg #[.slice (some ⟨K,0,none⟩) 2 2,.slice (some ⟨S1+1,0,none⟩) 2 2])) rfl (rfl),fun q => hx (by rw [← q];unfold upd;rw [if_neg (by decide)])⟩
  ·refine wpOp_step rfl ?_
   intro K9 hK
   have f10:=h.lit (i:=10) (u:=.bool true) (pred_spec ho hp (j:=10) (by kernel_rfl)) rfl rfl
   subst f10
   have f13:=h.at (i:=13) (F:=.held (callN ⟨#[65,110,110]⟩ [5,7] cOne)) (pred_spec ho hp (j:=13) (by kernel_rfl)) rfl rfl
   have f14:=h.lit (i:=14) (u:=.agg #[.slice (some ⟨K,0,none⟩) 2 2,.slice (some ⟨S1+1,0,none⟩) 2 2]) (pred_spec ho hp (j:=14) (by kernel_rfl)) rfl rfl
   subst f14
   go_simp
   have hT2:=hT.frame h.b
   refine (qn hT2 f13 (by decide) v_call0).mono ?_
   rintro e w4 ⟨rfl,hb4⟩
   clear hT2
   exact hK _ _ ⟨_,_,_,_,_,_,_,_,_,_,_,_,_,_,_,_,_,_,_,_,_,_,_,_,_,_,_,_,_,_,_,_,_,_,_,_,_,_,_,_,_,_,_,_,_,_,_,_,_,_,_,_,_,_,rfl,h.step (hb4) (i:=15) (F:=.lit (.bool true)) rfl (rfl),fun q => hx (by rw [← q];unfold upd;rw [if_neg (by decide)])⟩
  ·refine wpOp_step rfl ?_
   intro K9 hK
   have f10:=h.lit (i:=10) (u:=.bool true) (pred_spec ho hp (j:=10) (by kernel_rfl)) rfl rfl
   subst f10
   have f15:=h.lit (i:=15) (u:=.bool true) (pred_spec ho hp (j:=15) (by kernel_rfl)) rfl rfl
   subst f15
   go_simp
   exact hK _ _ ⟨_,_,_,_,_,_,_,_,_,_,_,_,_,_,_,_,_,_,_,_,_,_,_,_,_,_,_,_,_,_,_,_,_,_,_,_,_,_,_,_,_,_,_,_,_,_,_,_,_,_,_,_,_,_,rfl,h.step (Below.refl _ _) (i:=16) (F:=.lit (.bool true)) rfl (rfl),fun q => hx (by rw [← q];unfold upd;rw [if_neg (by decide)])⟩
  ·refine wpOp_step rfl ?_
   intro K9 hK
   have f16:=h.lit (i:=16) (u:=.bool true) (pred_spec ho hp (j:=16) (by kernel_rfl)) rfl rfl
   subst f16
   go_simp
   exact hK _ _ ⟨_,_,_,_,_,_,_,_,_,_,_,_,_,_,_,_,_,_,_,_,_,_,_,_,_,_,_,_,_,_,_,_,_,_,_,_,_,_,_,_,_,_,_,_,_,_,_,_,_,_,_,_,_,_,rfl,h.step (Below.refl _ _) (i:=17) (F:=.lit (.bool true)) rfl (rfl),fun q => hx (by rw [← q];unfold upd;rw [if_neg (by decide)])⟩
  ·refine wpOp_step rfl ?_
   intro K9 hK
   have f17:=h.lit (i:=17) (u:=.bool true) (pred_spec ho hp (j:=17) (by kernel_rfl)) rfl rfl
   subst f17
   go_simp
   exact hK _ _ ⟨_,_,_,_,_,_,_,_,_,_,_,_,_,_,_,_,_,_,_,_,_,_,_,_,_,_,_,_,_,_,_,_,_,_,_,_,_,_,_,_,_,_,_,_,_,_,_,_,_,_,_,_,_,_,rfl,h.step (Below.refl _ _) (i:=18) (F:=.lit (.func (.func 33) #[] #[.pointer (some ⟨S9,0,none⟩),.pointer (some ⟨S9+1,0,none⟩)])) rfl (rfl),fun q => hx (by rw [← q];unfold upd;rw [if_neg (by decide)])⟩
  ·refine wpOp_step rfl ?_
   intro K9 hK
   have f17:=h.lit (i:=17) (u:=.bool true) (pred_spec ho hp (j:=17) (by kernel_rfl)) rfl rfl
   subst f17
   have f18:=h.lit (i:=18) (u:=.func (.func 33) #[] #[.pointer (some ⟨S9,0,none⟩),.pointer (some ⟨S9+1,0,none⟩)]) (pred_spec ho hp (j:=18) (by kernel_rfl)) rfl rfl
   subst f18
   go_simp
   have hT2:=hT.frame h.b
   refine (pk_any ⟨#[66,111,98]⟩ hT2.s.o1 hT2.s.o2).mono ?_
   rintro e w4 ⟨u4,rfl,hu4,hb4⟩
   clear hT2
   exact hK _ _ ⟨_,_,_,_,_,_,_,_,_,_,_,_,_,_,_,_,_,_,_,_,_,_,_,_,_,_,_,_,_,_,_,_,_,_,_,_,_,_,_,_,_,_,_,_,_,_,_,_,_,_,_,_,_,_,rfl,h.step (hb4) (i:=19) (F:=.held (pickN ⟨#[66,111,98]⟩ cOne cTwo)) rfl (hu4),fun q => hx (by rw [← q];unfold upd;rw [if_neg (by decide)])⟩
  ·refine wpOp_step rfl ?_
   intro K9 hK
   have f17:=h.lit (i:=17) (u:=.bool true) (pred_spec ho hp (j:=17) (by kernel_rfl)) rfl rfl
   subst f17
   have hT2:=hT.frame h.b
   have y0:w'.cell? ⟨S1,0,none⟩=some (.slice (some ⟨K,0,none⟩) 2 2):=hT2.s.e.cell (j:=0) rfl
   have y1:w'.cell? ⟨S1,1,none⟩=some (.slice (some ⟨S1+1,0,none⟩) 2 2):=hT2.s.e.cell (j:=1) rfl
   clear hT2
   go_simp
   exact hK _ _ ⟨_,_,_,_,_,_,_,_,_,_,_,_,_,_,_,_,_,_,_,_,_,_,_,_,_,_,_,_,_,_,_,_,_,_,_,_,_,_,_,_,_,_,_,_,_,_,_,_,_,_,_,_,_,_,rfl,h.step (Below.refl _ _) (i:=20) (F:=.lit (.agg #[.slice (some ⟨K,0,none⟩) 2 2,.slice (some ⟨S1+1,0,none⟩) 2 2])) rfl (rfl),fun q => hx (by rw [← q];unfold upd;rw [if_neg (by decide)])⟩
  ·refine wpOp_step rfl ?_
   intro K9 hK
   have f17:=h.lit (i:=17) (u:=.bool true) (pred_spec ho hp (j:=17) (by kernel_rfl)) rfl rfl
   subst f17
   go_simp
   exact hK _ _ ⟨_,_,_,_,_,_,_,_,_,_,_,_,_,_,_,_,_,_,_,_,_,_,_,_,_,_,_,_,_,_,_,_,_,_,_,_,_,_,_,_,_,_,_,_,_,_,_,_,_,_,_,_,_,_,rfl,h.step (below_a1 _ _) (i:=21) (F:=.dl [5]) rfl (dl_new _ [5] _),fun q => hx (by rw [← q];unfold upd;rw [if_neg (by decide)])⟩
  ·refine wpOp_step rfl ?_
   intro K9 hK
   have f17:=h.lit (i:=17) (u:=.bool true) (pred_spec ho hp (j:=17) (by kernel_rfl)) rfl rfl
   subst f17
   go_simp
   exact hK _ _ ⟨_,_,_,_,_,_,_,_,_,_,_,_,_,_,_,_,_,_,_,_,_,_,_,_,_,_,_,_,_,_,_,_,_,_,_,_,_,_,_,_,_,_,_,_,_,_,_,_,_,_,_,_,_,_,rfl,h.step (below_a1 _ _) (i:=22) (F:=.rl [⟨#[49]⟩]) rfl (rl_new _ [⟨#[49]⟩] _),fun q => hx (by rw [← q];unfold upd;rw [if_neg (by decide)])⟩
  ·refine wpOp_step rfl ?_
   intro K9 hK
   have f17:=h.lit (i:=17) (u:=.bool true) (pred_spec ho hp (j:=17) (by kernel_rfl)) rfl rfl
   subst f17
   have f19:=h.at (i:=19) (F:=.held (pickN ⟨#[66,111,98]⟩ cOne cTwo)) (pred_spec ho hp (j:=19) (by kernel_rfl)) rfl rfl
   have f20:=h.lit (i:=20) (u:=.agg #[.slice (some ⟨K,0,none⟩) 2 2,.slice (some ⟨S1+1,0,none⟩) 2 2]) (pred_spec ho hp (j:=20) (by kernel_rfl)) rfl rfl
   subst f20
   have f21:=h.at (i:=21) (F:=.dl [5]) (pred_spec ho hp (j:=21) (by kernel_rfl)) rfl rfl
   have f22:=h.at (i:=22) (F:=.rl [⟨#[49]⟩]) (pred_spec ho hp (j:=22) (by kernel_rfl)) rfl rfl
   go_simp
   have hT2:=hT.frame h.b
   refine (q1 5 ⟨#[49]⟩ hT2 f19 (by decide) v_pickB f21 f22).mono ?_
   rintro e w4 ⟨rfl,hb4⟩
   clear hT2
   exact hK _ _ ⟨_,_,_,_,_,_,_,_,_,_,_,_,_,_,_,_,_,_,_,_,_,_,_,_,_,_,_,_,_,_,_,_,_,_,_,_,_,_,_,_,_,_,_,_,_,_,_,_,_,_,_,_,_,_,rfl,h.step (hb4) (i:=23) (F:=.lit (.bool true)) rfl (rfl),fun q => hx (by rw [← q];unfold upd;rw [if_neg (by decide)])⟩
  ·refine wpOp_step rfl ?_
   intro K9 hK
   have f17:=h.lit (i:=17) (u:=.bool true) (pred_spec ho hp (j:=17) (by kernel_rfl)) rfl rfl
   subst f17
   have f23:=h.lit (i:=23) (u:=.bool true) (pred_spec ho hp (j:=23) (by kernel_rfl)) rfl rfl
   subst f23
   go_simp
   exact hK _ _ ⟨_,_,_,_,_,_,_,_,_,_,_,_,_,_,_,_,_,_,_,_,_,_,_,_,_,_,_,_,_,_,_,_,_,_,_,_,_,_,_,_,_,_,_,_,_,_,_,_,_,_,_,_,_,_,rfl,h.step (Below.refl _ _) (i:=24) (F:=.lit (.bool true)) rfl (rfl),fun q => hx (by rw [← q];unfold upd;rw [if_neg (by decide)])⟩
  ·refine wpOp_step rfl ?_
   intro K9 hK
   have f24:=h.lit (i:=24) (u:=.bool true) (pred_spec ho hp (j:=24) (by kernel_rfl)) rfl rfl
   subst f24
   go_simp
   exact hK _ _ ⟨_,_,_,_,_,_,_,_,_,_,_,_,_,_,_,_,_,_,_,_,_,_,_,_,_,_,_,_,_,_,_,_,_,_,_,_,_,_,_,_,_,_,_,_,_,_,_,_,_,_,_,_,_,_,rfl,h.step (Below.refl _ _) (i:=25) (F:=.lit (.bool true)) rfl (rfl),fun q => hx (by rw [← q];unfold upd;rw [if_neg (by decide)])⟩
  ·refine wpOp_step rfl ?_
   intro K9 hK
   have f25:=h.lit (i:=25) (u:=.bool true) (pred_spec ho hp (j:=25) (by kernel_rfl)) rfl rfl
   subst f25
   go_simp
   exact hK _ _ ⟨_,_,_,_,_,_,_,_,_,_,_,_,_,_,_,_,_,_,_,_,_,_,_,_,_,_,_,_,_,_,_,_,_,_,_,_,_,_,_,_,_,_,_,_,_,_,_,_,_,_,_,_,_,_,rfl,h.step (Below.refl _ _) (i:=26) (F:=.lit (.func (.func 33) #[] #[.pointer (some ⟨S9,0,none⟩),.pointer (some ⟨S9+1,0,none⟩)])) rfl (rfl),fun q => hx (by rw [← q];unfold upd;rw [if_neg (by decide)])⟩
  ·refine wpOp_step rfl ?_
   intro K9 hK
   have f25:=h.lit (i:=25) (u:=.bool true) (pred_spec ho hp (j:=25) (by kernel_rfl)) rfl rfl
   subst f25
   have f26:=h.lit (i:=26) (u:=.func (.func 33) #[] #[.pointer (some ⟨S9,0,none⟩),.pointer (some ⟨S9+1,0,none⟩)]) (pred_spec ho hp (j:=26) (by kernel_rfl)) rfl rfl
   subst f26
   go_simp
   have hT2:=hT.frame h.b
   refine (pk_any ⟨#[65,110,110]⟩ hT2.s.o1 hT2.s.o2).mono ?_
   rintro e w4 ⟨u4,rfl,hu4,hb4⟩
   clear hT2
   exact hK _ _ ⟨_,_,_,_,_,_,_,_,_,_,_,_,_,_,_,_,_,_,_,_,_,_,_,_,_,_,_,_,_,_,_,_,_,_,_,_,_,_,_,_,_,_,_,_,_,_,_,_,_,_,_,_,_,_,rfl,h.step (hb4) (i:=27) (F:=.held (pickN ⟨#[65,110,110]⟩ cOne cTwo)) rfl (hu4),fun q => hx (by rw [← q];unfold upd;rw [if_neg (by decide)])⟩
  ·refine wpOp_step rfl ?_
   intro K9 hK
   have f25:=h.lit (i:=25) (u:=.bool true) (pred_spec ho hp (j:=25) (by kernel_rfl)) rfl rfl
   subst f25
   have hT2:=hT.frame h.b
   have y0:w'.cell? ⟨S1,0,none⟩=some (.slice (some ⟨K,0,none⟩) 2 2):=hT2.s.e.cell (j:=0) rfl
   have y1:w'.cell? ⟨S1,1,none⟩=some (.slice (some ⟨S1+1,0,none⟩) 2 2):=hT2.s.e.cell (j:=1) rfl
   clear hT2
   go_simp
   exact hK _ _ ⟨_,_,_,_,_,_,_,_,_,_,_,_,_,_,_,_,_,_,_,_,_,_,_,_,_,_,_,_,_,_,_,_,_,_,_,_,_,_,_,_,_,_,_,_,_,_,_,_,_,_,_,_,_,_,rfl,h.step (Below.refl _ _) (i:=28) (F:=.lit (.agg #[.slice (some ⟨K,0,none⟩) 2 2,.slice (some ⟨S1+1,0,none⟩) 2 2])) rfl (rfl),fun q => hx (by rw [← q];unfold upd;rw [if_neg (by decide)])⟩
  ·refine wpOp_step rfl ?_
   intro K9 hK
   have f25:=h.lit (i:=25) (u:=.bool true) (pred_spec ho hp (j:=25) (by kernel_rfl)) rfl rfl
   subst f25
   go_simp
   exact hK _ _ ⟨_,_,_,_,_,_,_,_,_,_,_,_,_,_,_,_,_,_,_,_,_,_,_,_,_,_,_,_,_,_,_,_,_,_,_,_,_,_,_,_,_,_,_,_,_,_,_,_,_,_,_,_,_,_,rfl,h.step (below_a1 _ _) (i:=29) (F:=.dl [5]) rfl (dl_new _ [5] _),fun q => hx (by rw [← q];unfold upd;rw [if_neg (by decide)])⟩
  ·refine wpOp_step rfl ?_
   intro K9 hK
   have f25:=h.lit (i:=25) (u:=.bool true) (pred_spec ho hp (j:=25) (by kernel_rfl)) rfl rfl
   subst f25
   go_simp
   exact hK _ _ ⟨_,_,_,_,_,_,_,_,_,_,_,_,_,_,_,_,_,_,_,_,_,_,_,_,_,_,_,_,_,_,_,_,_,_,_,_,_,_,_,_,_,_,_,_,_,_,_,_,_,_,_,_,_,_,rfl,h.step (below_a1 _ _) (i:=30) (F:=.rl [⟨#[50]⟩]) rfl (rl_new _ [⟨#[50]⟩] _),fun q => hx (by rw [← q];unfold upd;rw [if_neg (by decide)])⟩
  ·refine wpOp_step rfl ?_
   intro K9 hK
   have f25:=h.lit (i:=25) (u:=.bool true) (pred_spec ho hp (j:=25) (by kernel_rfl)) rfl rfl
   subst f25
   have f27:=h.at (i:=27) (F:=.held (pickN ⟨#[65,110,110]⟩ cOne cTwo)) (pred_spec ho hp (j:=27) (by kernel_rfl)) rfl rfl
   have f28:=h.lit (i:=28) (u:=.agg #[.slice (some ⟨K,0,none⟩) 2 2,.slice (some ⟨S1+1,0,none⟩) 2 2]) (pred_spec ho hp (j:=28) (by kernel_rfl)) rfl rfl
   subst f28
   have f29:=h.at (i:=29) (F:=.dl [5]) (pred_spec ho hp (j:=29) (by kernel_rfl)) rfl rfl
   have f30:=h.at (i:=30) (F:=.rl [⟨#[50]⟩]) (pred_spec ho hp (j:=30) (by kernel_rfl)) rfl rfl
   go_simp
   have hT2:=hT.frame h.b
   refine (q1 5 ⟨#[50]⟩ hT2 f27 (by decide) v_pickA f29 f30).mono ?_
   rintro e w4 ⟨rfl,hb4⟩
   clear hT2
   exact hK _ _ ⟨_,_,_,_,_,_,_,_,_,_,_,_,_,_,_,_,_,_,_,_,_,_,_,_,_,_,_,_,_,_,_,_,_,_,_,_,_,_,_,_,_,_,_,_,_,_,_,_,_,_,_,_,_,_,rfl,h.step (hb4) (i:=31) (F:=.lit (.bool true)) rfl (rfl),fun q => hx (by rw [← q];unfold upd;rw [if_neg (by decide)])⟩
  ·refine wpOp_step rfl ?_
   intro K9 hK
   have f25:=h.lit (i:=25) (u:=.bool true) (pred_spec ho hp (j:=25) (by kernel_rfl)) rfl rfl
   subst f25
   have f31:=h.lit (i:=31) (u:=.bool true) (pred_spec ho hp (j:=31) (by kernel_rfl)) rfl rfl
   subst f31
   go_simp
   exact hK _ _ ⟨_,_,_,_,_,_,_,_,_,_,_,_,_,_,_,_,_,_,_,_,_,_,_,_,_,_,_,_,_,_,_,_,_,_,_,_,_,_,_,_,_,_,_,_,_,_,_,_,_,_,_,_,_,_,rfl,h.step (Below.refl _ _) (i:=32) (F:=.lit (.bool true)) rfl (rfl),fun q => hx (by rw [← q];unfold upd;rw [if_neg (by decide)])⟩
  ·refine wpOp_step rfl ?_
   intro K9 hK
   have f32:=h.lit (i:=32) (u:=.bool true) (pred_spec ho hp (j:=32) (by kernel_rfl)) rfl rfl
   subst f32
   go_simp
   exact hK _ _ ⟨_,_,_,_,_,_,_,_,_,_,_,_,_,_,_,_,_,_,_,_,_,_,_,_,_,_,_,_,_,_,_,_,_,_,_,_,_,_,_,_,_,_,_,_,_,_,_,_,_,_,_,_,_,_,rfl,h.step (Below.refl _ _) (i:=33) (F:=.lit (.bool true)) rfl (rfl),fun q => hx (by rw [← q];unfold upd;rw [if_neg (by decide)])⟩
  ·refine wpOp_step rfl ?_
   intro K9 hK
   have f33:=h.lit (i:=33) (u:=.bool true) (pred_spec ho hp (j:=33) (by kernel_rfl)) rfl rfl
   subst f33
   have hT2:=hT.frame h.b
   have y0:w'.cell? ⟨B,0,none⟩=some (.int .u8 9):=hT2.bu.cell (j:=0) rfl
   have y1:w'.cell? ⟨B,1,none⟩=some (.string ⟨#[]⟩):=hT2.bu.cell (j:=1) rfl
   have y2:w'.cell? ⟨B,2,none⟩=some (.string ⟨#[]⟩):=hT2.bu.cell (j:=2) rfl
   have y3:w'.cell? ⟨B,3,none⟩=some (.string ⟨#[]⟩):=hT2.bu.cell (j:=3) rfl
   have y4:w'.cell? ⟨B,4,none⟩=some (.int .u8 11):=hT2.bu.cell (j:=4) rfl
   have y5:w'.cell? ⟨B,5,none⟩=some (.string ⟨#[]⟩):=hT2.bu.cell (j:=5) rfl
   have y6:w'.cell? ⟨B,6,none⟩=some (.string ⟨#[]⟩):=hT2.bu.cell (j:=6) rfl
   have y7:w'.cell? ⟨B,7,none⟩=some (.int .i64 0):=hT2.bu.cell (j:=7) rfl
   have y8:w'.cell? ⟨B,8,none⟩=some (.slice (some ⟨S4,0,none⟩) 2 2):=hT2.bu.cell (j:=8) rfl
   have y9:w'.cell? ⟨B,9,none⟩=some (.int .i64 0):=hT2.bu.cell (j:=9) rfl
   have y10:w'.cell? ⟨B,10,none⟩=some (dd):=hT2.bu.cell (j:=10) rfl
   have y11:w'.cell? ⟨B,11,none⟩=some (ss):=hT2.bu.cell (j:=11) rfl
   clear hT2
   go_simp
   exact hK _ _ ⟨_,_,_,_,_,_,_,_,_,_,_,_,_,_,_,_,_,_,_,_,_,_,_,_,_,_,_,_,_,_,_,_,_,_,_,_,_,_,_,_,_,_,_,_,_,_,_,_,_,_,_,_,_,_,rfl,h.step (Below.refl _ _) (i:=34) (F:=.lit (.agg #[.int .u8 9,.string ⟨#[]⟩,.string ⟨#[]⟩,.string ⟨#[]⟩,.int .u8 11,.string ⟨#[]⟩,.string ⟨#[]⟩,.int .i64 0,.slice (some ⟨S4,0,none⟩) 2 2,.int .i64 0,dd,ss])) rfl (rfl),fun q => hx (by rw [← q];unfold upd;rw [if_neg (by decide)])⟩
  ·refine wpOp_step rfl ?_
   intro K9 hK
   have f33:=h.lit (i:=33) (u:=.bool true) (pred_spec ho hp (j:=33) (by kernel_rfl)) rfl rfl
   subst f33
   have hT2:=hT.frame h.b
   have y0:w'.cell? ⟨S1,0,none⟩=some (.slice (some ⟨K,0,none⟩) 2 2):=hT2.s.e.cell (j:=0) rfl
   have y1:w'.cell? ⟨S1,1,none⟩=some (.slice (some ⟨S1+1,0,none⟩) 2 2):=hT2.s.e.cell (j:=1) rfl
   clear hT2
   go_simp
   exact hK _ _ ⟨_,_,_,_,_,_,_,_,_,_,_,_,_,_,_,_,_,_,_,_,_,_,_,_,_,_,_,_,_,_,_,_,_,_,_,_,_,_,_,_,_,_,_,_,_,_,_,_,_,_,_,_,_,_,rfl,h.step (Below.refl _ _) (i:=35) (F:=.lit (.agg #[.slice (some ⟨K,0,none⟩) 2 2,.slice (some ⟨S1+1,0,none⟩) 2 2])) rfl (rfl),fun q => hx (by rw [← q];unfold upd;rw [if_neg (by decide)])⟩
  ·refine wpOp_step rfl ?_
   intro K9 hK
   have f33:=h.lit (i:=33) (u:=.bool true) (pred_spec ho hp (j:=33) (by kernel_rfl)) rfl rfl
   subst f33
   go_simp
   exact hK _ _ ⟨_,_,_,_,_,_,_,_,_,_,_,_,_,_,_,_,_,_,_,_,_,_,_,_,_,_,_,_,_,_,_,_,_,_,_,_,_,_,_,_,_,_,_,_,_,_,_,_,_,_,_,_,_,_,rfl,h.step (below_a1 _ _) (i:=36) (F:=.dl [5]) rfl (dl_new _ [5] _),fun q => hx (by rw [← q];unfold upd;rw [if_neg (by decide)])⟩
  ·refine wpOp_step rfl ?_
   intro K9 hK
   have f33:=h.lit (i:=33) (u:=.bool true) (pred_spec ho hp (j:=33) (by kernel_rfl)) rfl rfl
   subst f33
   go_simp
   exact hK _ _ ⟨_,_,_,_,_,_,_,_,_,_,_,_,_,_,_,_,_,_,_,_,_,_,_,_,_,_,_,_,_,_,_,_,_,_,_,_,_,_,_,_,_,_,_,_,_,_,_,_,_,_,_,_,_,_,rfl,h.step (below_a1 _ _) (i:=37) (F:=.rl [⟨#[49]⟩]) rfl (rl_new _ [⟨#[49]⟩] _),fun q => hx (by rw [← q];unfold upd;rw [if_neg (by decide)])⟩
  ·refine wpOp_step rfl ?_
   intro K9 hK
   have f33:=h.lit (i:=33) (u:=.bool true) (pred_spec ho hp (j:=33) (by kernel_rfl)) rfl rfl
   subst f33
   have f34:=h.lit (i:=34) (u:=.agg #[.int .u8 9,.string ⟨#[]⟩,.string ⟨#[]⟩,.string ⟨#[]⟩,.int .u8 11,.string ⟨#[]⟩,.string ⟨#[]⟩,.int .i64 0,.slice (some ⟨S4,0,none⟩) 2 2,.int .i64 0,dd,ss]) (pred_spec ho hp (j:=34) (by kernel_rfl)) rfl rfl
   subst f34
   have f35:=h.lit (i:=35) (u:=.agg #[.slice (some ⟨K,0,none⟩) 2 2,.slice (some ⟨S1+1,0,none⟩) 2 2]) (pred_spec ho hp (j:=35) (by kernel_rfl)) rfl rfl
   subst f35
   have f36:=h.at (i:=36) (F:=.dl [5]) (pred_spec ho hp (j:=36) (by kernel_rfl)) rfl rfl
   have f37:=h.at (i:=37) (F:=.rl [⟨#[49]⟩]) (pred_spec ho hp (j:=37) (by kernel_rfl)) rfl rfl
   go_simp
   have hT2:=hT.frame h.b
   refine (q1 5 ⟨#[49]⟩ hT2 (heldU hT2) (by decide) v_until f36 f37).mono ?_
   rintro e w4 ⟨rfl,hb4⟩
   clear hT2
   exact hK _ _ ⟨_,_,_,_,_,_,_,_,_,_,_,_,_,_,_,_,_,_,_,_,_,_,_,_,_,_,_,_,_,_,_,_,_,_,_,_,_,_,_,_,_,_,_,_,_,_,_,_,_,_,_,_,_,_,rfl,h.step (hb4) (i:=38) (F:=.lit (.bool true)) rfl (rfl),fun q => hx (by rw [← q];unfold upd;rw [if_neg (by decide)])⟩
  ·refine wpOp_step rfl ?_
   intro K9 hK
   have f33:=h.lit (i:=33) (u:=.bool true) (pred_spec ho hp (j:=33) (by kernel_rfl)) rfl rfl
   subst f33
   have f38:=h.lit (i:=38) (u:=.bool true) (pred_spec ho hp (j:=38) (by kernel_rfl)) rfl rfl
   subst f38
   go_simp
   exact hK _ _ ⟨_,_,_,_,_,_,_,_,_,_,_,_,_,_,_,_,_,_,_,_,_,_,_,_,_,_,_,_,_,_,_,_,_,_,_,_,_,_,_,_,_,_,_,_,_,_,_,_,_,_,_,_,_,_,rfl,h.step (Below.refl _ _) (i:=39) (F:=.lit (.bool true)) rfl (rfl),fun q => hx (by rw [← q];unfold upd;rw [if_neg (by decide)])⟩
  ·refine wpOp_step rfl ?_
   intro K9 hK
   have f39:=h.lit (i:=39) (u:=.bool true) (pred_spec ho hp (j:=39) (by kernel_rfl)) rfl rfl
   subst f39
   go_simp
   exact hK _ _ ⟨_,_,_,_,_,_,_,_,_,_,_,_,_,_,_,_,_,_,_,_,_,_,_,_,_,_,_,_,_,_,_,_,_,_,_,_,_,_,_,_,_,_,_,_,_,_,_,_,_,_,_,_,_,_,rfl,h.step (Below.refl _ _) (i:=40) (F:=.lit (.bool true)) rfl (rfl),fun q => hx (by rw [← q];unfold upd;rw [if_neg (by decide)])⟩
  ·refine wpOp_step rfl ?_
   intro K9 hK
   have f40:=h.lit (i:=40) (u:=.bool true) (pred_spec ho hp (j:=40) (by kernel_rfl)) rfl rfl
   subst f40
   have hT2:=hT.frame h.b
   have y0:w'.cell? ⟨S10+1+1,0,none⟩=some (.int .u8 10):=hT2.bw.cell (j:=0) rfl
   have y1:w'.cell? ⟨S10+1+1,1,none⟩=some (.string ⟨#[]⟩):=hT2.bw.cell (j:=1) rfl
   have y2:w'.cell? ⟨S10+1+1,2,none⟩=some (.string ⟨#[]⟩):=hT2.bw.cell (j:=2) rfl
   have y3:w'.cell? ⟨S10+1+1,3,none⟩=some (.string ⟨#[]⟩):=hT2.bw.cell (j:=3) rfl
   have y4:w'.cell? ⟨S10+1+1,4,none⟩=some (.int .u8 11):=hT2.bw.cell (j:=4) rfl
   have y5:w'.cell? ⟨S10+1+1,5,none⟩=some (.string ⟨#[]⟩):=hT2.bw.cell (j:=5) rfl
   have y6:w'.cell? ⟨S10+1+1,6,none⟩=some (.string ⟨#[]⟩):=hT2.bw.cell (j:=6) rfl
   have y7:w'.cell? ⟨S10+1+1,7,none⟩=some (.int .i64 0):=hT2.bw.cell (j:=7) rfl
   have y8:w'.cell? ⟨S10+1+1,8,none⟩=some (.slice (some ⟨S4,0,none⟩) 2 2):=hT2.bw.cell (j:=8) rfl
   have y9:w'.cell? ⟨S10+1+1,9,none⟩=some (.int .i64 0):=hT2.bw.cell (j:=9) rfl
   have y10:w'.cell? ⟨S10+1+1,10,none⟩=some (.slice (some ⟨S10,0,none⟩) 4 4):=hT2.bw.cell (j:=10) rfl
   have y11:w'.cell? ⟨S10+1+1,11,none⟩=some (.slice (some ⟨S10+1,0,none⟩) 1 1):=hT2.bw.cell (j:=11) rfl
   clear hT2
   go_simp
   exact hK _ _ ⟨_,_,_,_,_,_,_,_,_,_,_,_,_,_,_,_,_,_,_,_,_,_,_,_,_,_,_,_,_,_,_,_,_,_,_,_,_,_,_,_,_,_,_,_,_,_,_,_,_,_,_,_,_,_,rfl,h.step (Below.refl _ _) (i:=41) (F:=.lit (.agg #[.int .u8 10,.string ⟨#[]⟩,.string ⟨#[]⟩,.string ⟨#[]⟩,.int .u8 11,.string ⟨#[]⟩,.string ⟨#[]⟩,.int .i64 0,.slice (some ⟨S4,0,none⟩) 2 2,.int .i64 0,.slice (some ⟨S10,0,none⟩) 4 4,.slice (some ⟨S10+1,0,none⟩) 1 1])) rfl (rfl),fun q => hx (by rw [← q];unfold upd;rw [if_neg (by decide)])⟩
  ·refine wpOp_step rfl ?_
   intro K9 hK
   have f40:=h.lit (i:=40) (u:=.bool true) (pred_spec ho hp (j:=40) (by kernel_rfl)) rfl rfl
   subst f40
   have hT2:=hT.frame h.b
   have y0:w'.cell? ⟨S1,0,none⟩=some (.slice (some ⟨K,0,none⟩) 2 2):=hT2.s.e.cell (j:=0) rfl
   have y1:w'.cell? ⟨S1,1,none⟩=some (.slice (some ⟨S1+1,0,none⟩) 2 2):=hT2.s.e.cell (j:=1) rfl
   clear hT2
   go_simp
   exact hK _ _ ⟨_,_,_,_,_,_,_,_,_,_,_,_,_,_,_,_,_,_,_,_,_,_,_,_,_,_,_,_,_,_,_,_,_,_,_,_,_,_,_,_,_,_,_,_,_,_,_,_,_,_,_,_,_,_,rfl,h.step (Below.refl _ _) (i:=42) (F:=.lit (.agg #[.slice (some ⟨K,0,none⟩) 2 2,.slice (some ⟨S1+1,0,none⟩) 2 2])) rfl (rfl),fun q => hx (by rw [← q];unfold upd;rw [if_neg (by decide)])⟩
  ·refine wpOp_step rfl ?_
   intro K9 hK
   have f40:=h.lit (i:=40) (u:=.bool true) (pred_spec ho hp (j:=40) (by kernel_rfl)) rfl rfl
   subst f40
   go_simp
   exact hK _ _ ⟨_,_,_,_,_,_,_,_,_,_,_,_,_,_,_,_,_,_,_,_,_,_,_,_,_,_,_,_,_,_,_,_,_,_,_,_,_,_,_,_,_,_,_,_,_,_,_,_,_,_,_,_,_,_,rfl,h.step (below_a1 _ _) (i:=43) (F:=.dl [6]) rfl (dl_new _ [6] _),fun q => hx (by rw [← q];unfold upd;rw [if_neg (by decide)])⟩
  ·refine wpOp_step rfl ?_
   intro K9 hK
   have f40:=h.lit (i:=40) (u:=.bool true) (pred_spec ho hp (j:=40) (by kernel_rfl)) rfl rfl
   subst f40
   go_simp
   exact hK _ _ ⟨_,_,_,_,_,_,_,_,_,_,_,_,_,_,_,_,_,_,_,_,_,_,_,_,_,_,_,_,_,_,_,_,_,_,_,_,_,_,_,_,_,_,_,_,_,_,_,_,_,_,_,_,_,_,rfl,h.step (below_a1 _ _) (i:=44) (F:=.rl [⟨#[50]⟩]) rfl (rl_new _ [⟨#[50]⟩] _),fun q => hx (by rw [← q];unfold upd;rw [if_neg (by decide)])⟩
  ·refine wpOp_step rfl ?_
   intro K9 hK
   have f40:=h.lit (i:=40) (u:=.bool true) (pred_spec ho hp (j:=40) (by kernel_rfl)) rfl rfl
   subst f40
   have f41:=h.lit (i:=41) (u:=.agg #[.int .u8 10,.string ⟨#[]⟩,.string ⟨#[]⟩,.string ⟨#[]⟩,.int .u8 11,.string ⟨#[]⟩,.string ⟨#[]⟩,.int .i64 0,.slice (some ⟨S4,0,none⟩) 2 2,.int .i64 0,.slice (some ⟨S10,0,none⟩) 4 4,.slice (some ⟨S10+1,0,none⟩) 1 1]) (pred_spec ho hp (j:=41) (by kernel_rfl)) rfl rfl
   subst f41
   have f42:=h.lit (i:=42) (u:=.agg #[.slice (some ⟨K,0,none⟩) 2 2,.slice (some ⟨S1+1,0,none⟩) 2 2]) (pred_spec ho hp (j:=42) (by kernel_rfl)) rfl rfl
   subst f42
   have f43:=h.at (i:=43) (F:=.dl [6]) (pred_spec ho hp (j:=43) (by kernel_rfl)) rfl rfl
   have f44:=h.at (i:=44) (F:=.rl [⟨#[50]⟩]) (pred_spec ho hp (j:=44) (by kernel_rfl)) rfl rfl
   go_simp
   have hT2:=hT.frame h.b
   refine (q1 6 ⟨#[50]⟩ hT2 (heldW hT2) (by decide) v_when f43 f44).mono ?_
   rintro e w4 ⟨rfl,hb4⟩
   clear hT2
   exact hK _ _ ⟨_,_,_,_,_,_,_,_,_,_,_,_,_,_,_,_,_,_,_,_,_,_,_,_,_,_,_,_,_,_,_,_,_,_,_,_,_,_,_,_,_,_,_,_,_,_,_,_,_,_,_,_,_,_,rfl,h.step (hb4) (i:=45) (F:=.lit (.bool true)) rfl (rfl),fun q => hx (by rw [← q];unfold upd;rw [if_neg (by decide)])⟩
  ·refine wpOp_step rfl ?_
   intro K9 hK
   have f40:=h.lit (i:=40) (u:=.bool true) (pred_spec ho hp (j:=40) (by kernel_rfl)) rfl rfl
   subst f40
   have f45:=h.lit (i:=45) (u:=.bool true) (pred_spec ho hp (j:=45) (by kernel_rfl)) rfl rfl
   subst f45
   go_simp
   exact hK _ _ ⟨_,_,_,_,_,_,_,_,_,_,_,_,_,_,_,_,_,_,_,_,_,_,_,_,_,_,_,_,_,_,_,_,_,_,_,_,_,_,_,_,_,_,_,_,_,_,_,_,_,_,_,_,_,_,rfl,h.step (Below.refl _ _) (i:=46) (F:=.lit (.bool true)) rfl (rfl),fun q => hx (by rw [← q];unfold upd;rw [if_neg (by decide)])⟩
  ·refine wpOp_step rfl ?_
   intro K9 hK
   have f46:=h.lit (i:=46) (u:=.bool true) (pred_spec ho hp (j:=46) (by kernel_rfl)) rfl rfl
   subst f46
   go_simp
   exact hK _ _ ⟨_,_,_,_,_,_,_,_,_,_,_,_,_,_,_,_,_,_,_,_,_,_,_,_,_,_,_,_,_,_,_,_,_,_,_,_,_,_,_,_,_,_,_,_,_,_,_,_,_,_,_,_,_,_,rfl,h.step (Below.refl _ _) (i:=47) (F:=.lit (.bool true)) rfl (rfl),fun q => hx (by rw [← q];unfold upd;rw [if_neg (by decide)])⟩
  ·refine wpOp_step rfl ?_
   intro K9 hK
   have f47:=h.lit (i:=47) (u:=.bool true) (pred_spec ho hp (j:=47) (by kernel_rfl)) rfl rfl
   subst f47
   go_simp
   have hT2:=hT.frame h.b
   refine (HCo.out _ w').mono ?_
   rintro e w4 ⟨rfl,hb4⟩
   clear hT2
   exact hK _ _ ⟨_,_,_,_,_,_,_,_,_,_,_,_,_,_,_,_,_,_,_,_,_,_,_,_,_,_,_,_,_,_,_,_,_,_,_,_,_,_,_,_,_,_,_,_,_,_,_,_,_,_,_,_,_,_,rfl,h.step (hb4) (i:=48) (F:=.lit (.agg #[.int .u8 1,.string ⟨#[48]⟩,.string ⟨#[]⟩,.int .i64 0,.slice none 0 0])) rfl (rfl),fun q => hx (by rw [← q];unfold upd;rw [if_neg (by decide)])⟩
  ·refine wpOp_step rfl ?_
   intro K9 hK
   have f47:=h.lit (i:=47) (u:=.bool true) (pred_spec ho hp (j:=47) (by kernel_rfl)) rfl rfl
   subst f47
   have f48:=h.lit (i:=48) (u:=.agg #[.int .u8 1,.string ⟨#[48]⟩,.string ⟨#[]⟩,.int .i64 0,.slice none 0 0]) (pred_spec ho hp (j:=48) (by kernel_rfl)) rfl rfl
   subst f48
   go_simp
   have hT2:=hT.frame h.b
   refine (HPa.out _ _ _ _ _ _ _ w').mono ?_
   rintro e w4 ⟨rfl,hb4⟩
   clear hT2
   exact hK _ _ ⟨_,_,_,_,_,_,_,_,_,_,_,_,_,_,_,_,_,_,_,_,_,_,_,_,_,_,_,_,_,_,_,_,_,_,_,_,_,_,_,_,_,_,_,_,_,_,_,_,_,_,_,_,_,_,rfl,h.step (hb4) (i:=49) (F:=.lit (.agg #[.int .u8 2,.string ⟨#[65,110,110]⟩,.string ⟨#[66,111,98]⟩,.string ⟨#[85,83,68]⟩,.int .u8 1,.string ⟨#[48]⟩,.string ⟨#[]⟩,.int .i64 0,.slice none 0 0,.int .i64 0,.slice none 0 0,.slice none 0 0])) rfl (rfl),fun q => hx (by rw [← q];unfold upd;rw [if_neg (by decide)])⟩
  ·refine wpOp_step rfl ?_
   intro K9 hK
   have f47:=h.lit (i:=47) (u:=.bool true) (pred_spec ho hp (j:=47) (by kernel_rfl)) rfl rfl
   subst f47
   have hT2:=hT.frame h.b
   have y0:w'.cell? ⟨S1,0,none⟩=some (.slice (some ⟨K,0,none⟩) 2 2):=hT2.s.e.cell (j:=0) rfl
   have y1:w'.cell? ⟨S1,1,none⟩=some (.slice (some ⟨S1+1,0,none⟩) 2 2):=hT2.s.e.cell (j:=1) rfl
   clear hT2
   go_simp
   exact hK _ _ ⟨_,_,_,_,_,_,_,_,_,_,_,_,_,_,_,_,_,_,_,_,_,_,_,_,_,_,_,_,_,_,_,_,_,_,_,_,_,_,_,_,_,_,_,_,_,_,_,_,_,_,_,_,_,_,rfl,h.step (Below.refl _ _) (i:=50) (F:=.lit (.agg #[.slice (some ⟨K,0,none⟩) 2 2,.slice (some ⟨S1+1,0,none⟩) 2 2])) rfl (rfl),fun q => hx (by rw [← q];unfold upd;rw [if_neg (by decide)])⟩
  ·refine wpOp_step rfl ?_
   intro K9 hK
   have f47:=h.lit (i:=47) (u:=.bool true) (pred_spec ho hp (j:=47) (by kernel_rfl)) rfl rfl
   subst f47
   have f49:=h.lit (i:=49) (u:=.agg #[.int .u8 2,.string ⟨#[65,110,110]⟩,.string ⟨#[66,111,98]⟩,.string ⟨#[85,83,68]⟩,.int .u8 1,.string ⟨#[48]⟩,.string ⟨#[]⟩,.int .i64 0,.slice none 0 0,.int .i64 0,.slice none 0 0,.slice none 0 0]) (pred_spec ho hp (j:=49) (by kernel_rfl)) rfl rfl
   subst f49
   have f50:=h.lit (i:=50) (u:=.agg #[.slice (some ⟨K,0,none⟩) 2 2,.slice (some ⟨S1+1,0,none⟩) 2 2]) (pred_spec ho hp (j:=50) (by kernel_rfl)) rfl rfl
   subst f50
   go_simp
   have hT2:=hT.frame h.b
   refine (qn hT2 (flat0 none _) (by decide) v_nil).mono ?_
   rintro e w4 ⟨rfl,hb4⟩
   clear hT2
   exact hK _ _ ⟨_,_,_,_,_,_,_,_,_,_,_,_,_,_,_,_,_,_,_,_,_,_,_,_,_,_,_,_,_,_,_,_,_,_,_,_,_,_,_,_,_,_,_,_,_,_,_,_,_,_,_,_,_,_,rfl,h.step (hb4) (i:=51) (F:=.lit (.bool true)) rfl (rfl),fun q => hx (by rw [← q];unfold upd;rw [if_neg (by decide)])⟩
  ·refine wpOp_step rfl ?_
   intro K9 hK
   have f47:=h.lit (i:=47) (u:=.bool true) (pred_spec ho hp (j:=47) (by kernel_rfl)) rfl rfl
   subst f47
   have f51:=h.lit (i:=51) (u:=.bool true) (pred_spec ho hp (j:=51) (by kernel_rfl)) rfl rfl
   subst f51
   go_simp
   exact hK _ _ ⟨_,_,_,_,_,_,_,_,_,_,_,_,_,_,_,_,_,_,_,_,_,_,_,_,_,_,_,_,_,_,_,_,_,_,_,_,_,_,_,_,_,_,_,_,_,_,_,_,_,_,_,_,_,_,rfl,h.step (Below.refl _ _) (i:=52) (F:=.lit (.bool true)) rfl (rfl),fun q => hx (by rw [← q];unfold upd;rw [if_neg (by decide)])⟩
  ·refine wpOp_step rfl ?_
   intro K9 hK
   have f52:=h.lit (i:=52) (u:=.bool true) (pred_spec ho hp (j:=52) (by kernel_rfl)) rfl rfl
   subst f52
   go_simp
   exact hK _ _ ⟨_,_,_,_,_,_,_,_,_,_,_,_,_,_,_,_,_,_,_,_,_,_,_,_,_,_,_,_,_,_,_,_,_,_,_,_,_,_,_,_,_,_,_,_,_,_,_,_,_,_,_,_,_,_,rfl,h.step (Below.refl _ _) (i:=53) (F:=.lit (.bool true)) rfl (rfl),fun q => by simp [upd] at q⟩
 ·rintro L aa w' ⟨v0,v1,v2,v3,v4,v5,v6,v7,v8,v9,v10,v11,v12,v13,v14,v15,v16,v17,v18,v19,v20,v21,v22,v23,v24,v25,v26,v27,v28,v29,v30,v31,v32,v33,v34,v35,v36,v37,v38,v39,v40,v41,v42,v43,v44,v45,v46,v47,v48,v49,v50,v51,v52,v53,rfl,h,hx⟩ hall
  have e9:=h.lit (i:=53) (u:=.bool true) (hall 53 (by decide)) rfl rfl
  exact hQ v0 v1 v2 v3 v4 v5 v6 v7 v8 v9 v10 v11 v12 v13 v14 v15 v16 v17 v18 v19 v20 v21 v22 v23 v24 v25 v26 v27 v28 v29 v30 v31 v32 v33 v34 v35 v36 v37 v38 v39 v40 v41 v42 v43 v44 v45 v46 v47 v48 v49 v50 v51 v52 v53 w' e9 (Lib.hid h.b)
end Go.Proofs.YtknpnhodpgajbaaGreatDoor
