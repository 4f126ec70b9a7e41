/-
  Law 10, MeaningNames: the drawn region of the first list.  Printed by tools/gendr.py.
-/
import Derived.Test.YtknpnhodpgajbaaGreatDoorE36
namespace Go.Proofs.YtknpnhodpgajbaaGreatDoor
open Go.RowKit
noncomputable def nmops12:Array Oper:=cdOps (cdA (cdB (cdB (cdB (cdB (cdB (cdB (cdB (cdB (cdB (cdB (cdB (cdB (Tryz.f8.body.getD .skip))))))))))))))
set_option maxHeartbeats 8000000 in
set_option maxRecDepth 100000 in
theorem nmreg12 {V3:World} {K S1 S4 S9 B S10 S11:Nat} {dd ss:Value} {u56 u57 u58 u59 u60 u61 u62 u63 u64 u65 u66 u67 u68 u69 u70 u71 z0 z1 z2 z3 z4 z5 z6 z7 z8 z9 z10 z11 z12 z13 z14 z15 z16 z17 z18 z19 z20 z21 z22 z23 z24 z25 z26 z27 z28 z29 z30 z31 z32 z33 z34 z35 z36 z37 z38:Value} (hT:NmT V3 K S1 S4 S9 B S10 S11 dd ss) (Q:Exit→Act→World→Prop)
  (hQ:∀ (v0 v1 v2 v3 v4 v5 v6 v7 v8 v9 v10 v11 v12 v13 v14 v15 v16 v17 v18 v19 v20 v21 v22 v23 v24 v25 v26 v27 v28 v29 v30 v31 v32 v33 v34 v35 v36 v37 v38:Value) (w':World),v38 = .bool true→Hid (Below V3.heap.size V3 w')→Q .normal ⟨#[.bool false,.pointer (some ⟨S1,0,none⟩),.pointer (some ⟨S4+1,0,none⟩),.pointer (some ⟨S9,0,none⟩),.pointer (some ⟨S9+1,0,none⟩),.func (.func 30) #[] #[],.func (.func 31) #[] #[],.func (.func 32) #[] #[.pointer (some ⟨S9,0,none⟩)],.func (.func 33) #[] #[.pointer (some ⟨S9,0,none⟩),.pointer (some ⟨S9+1,0,none⟩)],.pointer (some ⟨B,0,none⟩),.pointer (some ⟨S10+1+1,0,none⟩),.pointer (some ⟨S11+1,0,none⟩),v38,undef,undef,undef,undef,undef,undef,undef,undef,undef,undef,undef,undef,undef,undef,undef,undef,undef,undef,undef,undef,undef,undef,undef,undef,undef,undef,undef,undef,.agg #[.slice (some ⟨K,0,none⟩) 2 2,.slice none 0 0],.agg #[.string ⟨#[65,110,110]⟩,.string ⟨#[116,97,107,101]⟩,.int .i64 6,.bool true],.agg #[.string ⟨#[66,111,98]⟩,.string ⟨#[116,97,107,101]⟩,.int .i64 5,.bool true],.slice (some ⟨S1+1,0,none⟩) 2 2,.pointer (some ⟨S1,1,none⟩),.agg #[.int .u8 3,.string ⟨#[]⟩,.string ⟨#[115,112,111,116]⟩,.int .i64 0,.slice none 0 0],.agg #[.int .u8 1,.string ⟨#[51]⟩,.string ⟨#[]⟩,.int .i64 0,.slice none 0 0],.slice (some ⟨S4,0,none⟩) 2 2,.agg #[.int .u8 11,.string ⟨#[]⟩,.string ⟨#[]⟩,.int .i64 0,.slice (some ⟨S4,0,none⟩) 2 2],.agg #[.int .u8 1,.string ⟨#[49]⟩,.string ⟨#[]⟩,.int .i64 0,.slice none 0 0],.agg #[.int .u8 2,.string ⟨#[65,110,110]⟩,.string ⟨#[66,111,98]⟩,.string ⟨#[85,83,68]⟩,.int .u8 1,.string ⟨#[49]⟩,.string ⟨#[]⟩,.int .i64 0,.slice none 0 0,.int .i64 0,.slice none 0 0,.slice none 0 0],.agg #[.int .u8 1,.string ⟨#[50]⟩,.string ⟨#[]⟩,.int .i64 0,.slice none 0 0],.agg #[.int .u8 2,.string ⟨#[65,110,110]⟩,.string ⟨#[66,111,98]⟩,.string ⟨#[85,83,68]⟩,.int .u8 1,.string ⟨#[50]⟩,.string ⟨#[]⟩,.int .i64 0,.slice none 0 0,.int .i64 0,.slice none 0 0,.slice none 0 0],.func (.func 32) #[] #[.pointer (some ⟨S9,0,none⟩)],.func (.func 33) #[] #[.pointer (some ⟨S9,0,none⟩),.pointer (some ⟨S9+1,0,none⟩)],u56,u57,u58,u59,u60,u61,u62,u63,u64,u65,u66,u67,u68,u69,u70,u71,.agg #[.int .u8 11,.string ⟨#[]⟩,.string ⟨#[]⟩,.int .i64 0,.slice (some ⟨S4,0,none⟩) 2 2],.slice (some ⟨S10,0,none⟩) 4 4,.agg #[.int .u8 2,.string ⟨#[65,110,110]⟩,.string ⟨#[66,111,98]⟩,.string ⟨#[85,83,68]⟩,.int .u8 1,.string ⟨#[50]⟩,.string ⟨#[]⟩,.int .i64 0,.slice none 0 0,.int .i64 0,.slice none 0 0,.slice none 0 0],.slice (some ⟨S10+1,0,none⟩) 1 1,.agg #[.int .u8 10,.string ⟨#[]⟩,.string ⟨#[]⟩,.string ⟨#[]⟩,.int .u8 11,.string ⟨#[]⟩,.string ⟨#[]⟩,.int .i64 0,.slice (some ⟨S4,0,none⟩) 2 2,.int .i64 0,.slice (some ⟨S10,0,none⟩) 4 4,.slice (some ⟨S10+1,0,none⟩) 1 1],.agg #[.int .u8 11,.string ⟨#[]⟩,.string ⟨#[]⟩,.int .i64 0,.slice (some ⟨S4,0,none⟩) 2 2],.agg #[.int .u8 2,.string ⟨#[65,110,110]⟩,.string ⟨#[66,111,98]⟩,.string ⟨#[85,83,68]⟩,.int .u8 1,.string ⟨#[49]⟩,.string ⟨#[]⟩,.int .i64 0,.slice none 0 0,.int .i64 0,.slice none 0 0,.slice none 0 0],.agg #[.int .u8 2,.string ⟨#[65,110,110]⟩,.string ⟨#[66,111,98]⟩,.string ⟨#[85,83,68]⟩,.int .u8 1,.string ⟨#[50]⟩,.string ⟨#[]⟩,.int .i64 0,.slice none 0 0,.int .i64 0,.slice none 0 0,.slice none 0 0],.slice (some ⟨S11,0,none⟩) 2 2,.agg #[.int .u8 5,.string ⟨#[]⟩,.string ⟨#[]⟩,.string ⟨#[]⟩,.int .u8 11,.string ⟨#[]⟩,.string ⟨#[]⟩,.int .i64 0,.slice (some ⟨S4,0,none⟩) 2 2,.int .i64 0,.slice none 0 0,.slice (some ⟨S11,0,none⟩) 2 2],v0,v1,v2,v3,v4,v5,v6,v7,v8,v9,v10,v11,v12,v13,v14,v15,v16,v17,v18,v19,v20,v21,v22,v23,v24,v25,v26,v27,v28,v29,v30,v31,v32,v33,v34,v35,v36,v37,undef,undef,undef,undef,undef,undef,undef,undef,undef,undef,undef,undef,undef,undef,undef,undef,undef,undef,undef,undef,undef,undef,undef,undef,undef,undef,undef,undef,undef,undef,undef,undef,undef,undef,undef,undef,undef,undef,undef,undef,undef,undef,undef,undef,undef,undef,undef,undef,undef,undef,undef,undef,undef,undef,undef,undef,undef,undef,undef,undef,undef,undef,undef,undef,undef,undef,undef,undef,undef,undef,undef,undef,undef,undef,undef,undef,undef,undef,undef,undef,undef,undef,undef,undef,undef,undef,undef,undef,undef,undef,undef,undef,undef,undef,undef,undef,undef,undef,undef,undef,undef,undef,undef,undef,undef,undef,undef,undef,undef,undef,undef,undef,undef,undef,undef,undef,undef,undef,undef,undef,undef,undef,undef,undef,undef,undef,undef,undef,undef,undef,undef,undef,undef,undef,undef,undef,undef,undef,undef,undef,undef,undef,undef,undef,undef,undef,undef,undef,undef,undef,undef,undef,undef,undef,undef,undef,undef,undef,undef,undef,undef,undef,undef,undef,undef,undef,undef,undef,undef,undef,undef,undef,undef,undef,undef,undef,undef,undef,undef,undef,undef,undef,undef,undef,undef,undef,undef,undef,undef,undef,undef,undef,undef,undef,undef,undef,undef,undef,undef,undef,undef,undef,undef,undef,undef,undef,undef,undef,undef,undef,undef,undef,undef,undef,undef,undef,undef,undef,undef,undef,undef,undef,undef,undef,undef,undef,undef,undef,undef,undef,undef,undef,undef,undef],[]⟩ w') :
  (Code.region 12 nmops12 true).wp Tryz.prog Q ⟨#[.bool false,.pointer (some ⟨S1,0,none⟩),.pointer (some ⟨S4+1,0,none⟩),.pointer (some ⟨S9,0,none⟩),.pointer (some ⟨S9+1,0,none⟩),.func (.func 30) #[] #[],.func (.func 31) #[] #[],.func (.func 32) #[] #[.pointer (some ⟨S9,0,none⟩)],.func (.func 33) #[] #[.pointer (some ⟨S9,0,none⟩),.pointer (some ⟨S9+1,0,none⟩)],.pointer (some ⟨B,0,none⟩),.pointer (some ⟨S10+1+1,0,none⟩),.pointer (some ⟨S11+1,0,none⟩),z38,undef,undef,undef,undef,undef,undef,undef,undef,undef,undef,undef,undef,undef,undef,undef,undef,undef,undef,undef,undef,undef,undef,undef,undef,undef,undef,undef,undef,.agg #[.slice (some ⟨K,0,none⟩) 2 2,.slice none 0 0],.agg #[.string ⟨#[65,110,110]⟩,.string ⟨#[116,97,107,101]⟩,.int .i64 6,.bool true],.agg #[.string ⟨#[66,111,98]⟩,.string ⟨#[116,97,107,101]⟩,.int .i64 5,.bool true],.slice (some ⟨S1+1,0,none⟩) 2 2,.pointer (some ⟨S1,1,none⟩),.agg #[.int .u8 3,.string ⟨#[]⟩,.string ⟨#[115,112,111,116]⟩,.int .i64 0,.slice none 0 0],.agg #[.int .u8 1,.string ⟨#[51]⟩,.string ⟨#[]⟩,.int .i64 0,.slice none 0 0],.slice (some ⟨S4,0,none⟩) 2 2,.agg #[.int .u8 11,.string ⟨#[]⟩,.string ⟨#[]⟩,.int .i64 0,.slice (some ⟨S4,0,none⟩) 2 2],.agg #[.int .u8 1,.string ⟨#[49]⟩,.string ⟨#[]⟩,.int .i64 0,.slice none 0 0],.agg #[.int .u8 2,.string ⟨#[65,110,110]⟩,.string ⟨#[66,111,98]⟩,.string ⟨#[85,83,68]⟩,.int .u8 1,.string ⟨#[49]⟩,.string ⟨#[]⟩,.int .i64 0,.slice none 0 0,.int .i64 0,.slice none 0 0,.slice none 0 0],.agg #[.int .u8 1,.string ⟨#[50]⟩,.string ⟨#[]⟩,.int .i64 0,.slice none 0 0],.agg #[.int .u8 2,.string ⟨#[65,110,110]⟩,.string ⟨#[66,111,98]⟩,.string ⟨#[85,83,68]⟩,.int .u8 1,.string ⟨#[50]⟩,.string ⟨#[]⟩,.int .i64 0,.slice none 0 0,.int .i64 0,.slice none 0 0,.slice none 0 0],.func (.func 32) #[] #[.pointer (some ⟨S9,0,none⟩)],.func (.func 33) #[] #[.pointer (some ⟨S9,0,none⟩),.pointer (some ⟨S9+1,0,none⟩)],u56,u57,u58,u59,u60,u61,u62,u63,u64,u65,u66,u67,u68,u69,u70,u71,.agg #[.int .u8 11,.string ⟨#[]⟩,.string ⟨#[]⟩,.int .i64 0,.slice (some ⟨S4,0,none⟩) 2 2],.slice (some ⟨S10,0,none⟩) 4 4,.agg #[.int .u8 2,.string ⟨#[65,110,110]⟩,.string ⟨#[66,111,98]⟩,.string ⟨#[85,83,68]⟩,.int .u8 1,.string ⟨#[50]⟩,.string ⟨#[]⟩,.int .i64 0,.slice none 0 0,.int .i64 0,.slice none 0 0,.slice none 0 0],.slice (some ⟨S10+1,0,none⟩) 1 1,.agg #[.int .u8 10,.string ⟨#[]⟩,.string ⟨#[]⟩,.string ⟨#[]⟩,.int .u8 11,.string ⟨#[]⟩,.string ⟨#[]⟩,.int .i64 0,.slice (some ⟨S4,0,none⟩) 2 2,.int .i64 0,.slice (some ⟨S10,0,none⟩) 4 4,.slice (some ⟨S10+1,0,none⟩) 1 1],.agg #[.int .u8 11,.string ⟨#[]⟩,.string ⟨#[]⟩,.int .i64 0,.slice (some ⟨S4,0,none⟩) 2 2],.agg #[.int .u8 2,.string ⟨#[65,110,110]⟩,.string ⟨#[66,111,98]⟩,.string ⟨#[85,83,68]⟩,.int .u8 1,.string ⟨#[49]⟩,.string ⟨#[]⟩,.int .i64 0,.slice none 0 0,.int .i64 0,.slice none 0 0,.slice none 0 0],.agg #[.int .u8 2,.string ⟨#[65,110,110]⟩,.string ⟨#[66,111,98]⟩,.string ⟨#[85,83,68]⟩,.int .u8 1,.string ⟨#[50]⟩,.string ⟨#[]⟩,.int .i64 0,.slice none 0 0,.int .i64 0,.slice none 0 0,.slice none 0 0],.slice (some ⟨S11,0,none⟩) 2 2,.agg #[.int .u8 5,.string ⟨#[]⟩,.string ⟨#[]⟩,.string ⟨#[]⟩,.int .u8 11,.string ⟨#[]⟩,.string ⟨#[]⟩,.int .i64 0,.slice (some ⟨S4,0,none⟩) 2 2,.int .i64 0,.slice none 0 0,.slice (some ⟨S11,0,none⟩) 2 2],z0,z1,z2,z3,z4,z5,z6,z7,z8,z9,z10,z11,z12,z13,z14,z15,z16,z17,z18,z19,z20,z21,z22,z23,z24,z25,z26,z27,z28,z29,z30,z31,z32,z33,z34,z35,z36,z37,undef,undef,undef,undef,undef,undef,undef,undef,undef,undef,undef,undef,undef,undef,undef,undef,undef,undef,undef,undef,undef,undef,undef,undef,undef,undef,undef,undef,undef,undef,undef,undef,undef,undef,undef,undef,undef,undef,undef,undef,undef,undef,undef,undef,undef,undef,undef,undef,undef,undef,undef,undef,undef,undef,undef,undef,undef,undef,undef,undef,undef,undef,undef,undef,undef,undef,undef,undef,undef,undef,undef,undef,undef,undef,undef,undef,undef,undef,undef,undef,undef,undef,undef,undef,undef,undef,undef,undef,undef,undef,undef,undef,undef,undef,undef,undef,undef,undef,undef,undef,undef,undef,undef,undef,undef,undef,undef,undef,undef,undef,undef,undef,undef,undef,undef,undef,undef,undef,undef,undef,undef,undef,undef,undef,undef,undef,undef,undef,undef,undef,undef,undef,undef,undef,undef,undef,undef,undef,undef,undef,undef,undef,undef,undef,undef,undef,undef,undef,undef,undef,undef,undef,undef,undef,undef,undef,undef,undef,undef,undef,undef,undef,undef,undef,undef,undef,undef,undef,undef,undef,undef,undef,undef,undef,undef,undef,undef,undef,undef,undef,undef,undef,undef,undef,undef,undef,undef,undef,undef,undef,undef,undef,undef,undef,undef,undef,undef,undef,undef,undef,undef,undef,undef,undef,undef,undef,undef,undef,undef,undef,undef,undef,undef,undef,undef,undef,undef,undef,undef,undef,undef,undef,undef,undef,undef,undef,undef,undef,undef,undef,undef,undef,undef,undef],[]⟩ V3:=by
 have HNw:=Lib.hid (fun n W => now10_any n W)
 have HCo:=Lib.hid (fun r W => con10_any r W)
 have HPa:=Lib.hid (fun k r n d ad m cap W => pay10_any k r n d ad m cap W)
 unfold nmops12
 dsimp only [cdOps,cdA,cdB,Tryz.f8,Option.getD]
 refine wp_region_invc (fun L aa w' => ∃ v0 v1 v2 v3 v4 v5 v6 v7 v8 v9 v10 v11 v12 v13 v14 v15 v16 v17 v18 v19 v20 v21 v22 v23 v24 v25 v26 v27 v28 v29 v30 v31 v32 v33 v34 v35 v36 v37 v38,aa=⟨#[.bool false,.pointer (some ⟨S1,0,none⟩),.pointer (some ⟨S4+1,0,none⟩),.pointer (some ⟨S9,0,none⟩),.pointer (some ⟨S9+1,0,none⟩),.func (.func 30) #[] #[],.func (.func 31) #[] #[],.func (.func 32) #[] #[.pointer (some ⟨S9,0,none⟩)],.func (.func 33) #[] #[.pointer (some ⟨S9,0,none⟩),.pointer (some ⟨S9+1,0,none⟩)],.pointer (some ⟨B,0,none⟩),.pointer (some ⟨S10+1+1,0,none⟩),.pointer (some ⟨S11+1,0,none⟩),v38,undef,undef,undef,undef,undef,undef,undef,undef,undef,undef,undef,undef,undef,undef,undef,undef,undef,undef,undef,undef,undef,undef,undef,undef,undef,undef,undef,undef,.agg #[.slice (some ⟨K,0,none⟩) 2 2,.slice none 0 0],.agg #[.string ⟨#[65,110,110]⟩,.string ⟨#[116,97,107,101]⟩,.int .i64 6,.bool true],.agg #[.string ⟨#[66,111,98]⟩,.string ⟨#[116,97,107,101]⟩,.int .i64 5,.bool true],.slice (some ⟨S1+1,0,none⟩) 2 2,.pointer (some ⟨S1,1,none⟩),.agg #[.int .u8 3,.string ⟨#[]⟩,.string ⟨#[115,112,111,116]⟩,.int .i64 0,.slice none 0 0],.agg #[.int .u8 1,.string ⟨#[51]⟩,.string ⟨#[]⟩,.int .i64 0,.slice none 0 0],.slice (some ⟨S4,0,none⟩) 2 2,.agg #[.int .u8 11,.string ⟨#[]⟩,.string ⟨#[]⟩,.int .i64 0,.slice (some ⟨S4,0,none⟩) 2 2],.agg #[.int .u8 1,.string ⟨#[49]⟩,.string ⟨#[]⟩,.int .i64 0,.slice none 0 0],.agg #[.int .u8 2,.string ⟨#[65,110,110]⟩,.string ⟨#[66,111,98]⟩,.string ⟨#[85,83,68]⟩,.int .u8 1,.string ⟨#[49]⟩,.string ⟨#[]⟩,.int .i64 0,.slice none 0 0,.int .i64 0,.slice none 0 0,.slice none 0 0],.agg #[.int .u8 1,.string ⟨#[50]⟩,.string ⟨#[]⟩,.int .i64 0,.slice none 0 0],.agg #[.int .u8 2,.string ⟨#[65,110,110]⟩,.string ⟨#[66,111,98]⟩,.string ⟨#[85,83,68]⟩,.int .u8 1,.string ⟨#[50]⟩,.string ⟨#[]⟩,.int .i64 0,.slice none 0 0,.int .i64 0,.slice none 0 0,.slice none 0 0],.func (.func 32) #[] #[.pointer (some ⟨S9,0,none⟩)],.func (.func 33) #[] #[.pointer (some ⟨S9,0,none⟩),.pointer (some ⟨S9+1,0,none⟩)],u56,u57,u58,u59,u60,u61,u62,u63,u64,u65,u66,u67,u68,u69,u70,u71,.agg #[.int .u8 11,.string ⟨#[]⟩,.string ⟨#[]⟩,.int .i64 0,.slice (some ⟨S4,0,none⟩) 2 2],.slice (some ⟨S10,0,none⟩) 4 4,.agg #[.int .u8 2,.string ⟨#[65,110,110]⟩,.string ⟨#[66,111,98]⟩,.string ⟨#[85,83,68]⟩,.int .u8 1,.string ⟨#[50]⟩,.string ⟨#[]⟩,.int .i64 0,.slice none 0 0,.int .i64 0,.slice none 0 0,.slice none 0 0],.slice (some ⟨S10+1,0,none⟩) 1 1,.agg #[.int .u8 10,.string ⟨#[]⟩,.string ⟨#[]⟩,.string ⟨#[]⟩,.int .u8 11,.string ⟨#[]⟩,.string ⟨#[]⟩,.int .i64 0,.slice (some ⟨S4,0,none⟩) 2 2,.int .i64 0,.slice (some ⟨S10,0,none⟩) 4 4,.slice (some ⟨S10+1,0,none⟩) 1 1],.agg #[.int .u8 11,.string ⟨#[]⟩,.string ⟨#[]⟩,.int .i64 0,.slice (some ⟨S4,0,none⟩) 2 2],.agg #[.int .u8 2,.string ⟨#[65,110,110]⟩,.string ⟨#[66,111,98]⟩,.string ⟨#[85,83,68]⟩,.int .u8 1,.string ⟨#[49]⟩,.string ⟨#[]⟩,.int .i64 0,.slice none 0 0,.int .i64 0,.slice none 0 0,.slice none 0 0],.agg #[.int .u8 2,.string ⟨#[65,110,110]⟩,.string ⟨#[66,111,98]⟩,.string ⟨#[85,83,68]⟩,.int .u8 1,.string ⟨#[50]⟩,.string ⟨#[]⟩,.int .i64 0,.slice none 0 0,.int .i64 0,.slice none 0 0,.slice none 0 0],.slice (some ⟨S11,0,none⟩) 2 2,.agg #[.int .u8 5,.string ⟨#[]⟩,.string ⟨#[]⟩,.string ⟨#[]⟩,.int .u8 11,.string ⟨#[]⟩,.string ⟨#[]⟩,.int .i64 0,.slice (some ⟨S4,0,none⟩) 2 2,.int .i64 0,.slice none 0 0,.slice (some ⟨S11,0,none⟩) 2 2],v0,v1,v2,v3,v4,v5,v6,v7,v8,v9,v10,v11,v12,v13,v14,v15,v16,v17,v18,v19,v20,v21,v22,v23,v24,v25,v26,v27,v28,v29,v30,v31,v32,v33,v34,v35,v36,v37,undef,undef,undef,undef,undef,undef,undef,undef,undef,undef,undef,undef,undef,undef,undef,undef,undef,undef,undef,undef,undef,undef,undef,undef,undef,undef,undef,undef,undef,undef,undef,undef,undef,undef,undef,undef,undef,undef,undef,undef,undef,undef,undef,undef,undef,undef,undef,undef,undef,undef,undef,undef,undef,undef,undef,undef,undef,undef,undef,undef,undef,undef,undef,undef,undef,undef,undef,undef,undef,undef,undef,undef,undef,undef,undef,undef,undef,undef,undef,undef,undef,undef,undef,undef,undef,undef,undef,undef,undef,undef,undef,undef,undef,undef,undef,undef,undef,undef,undef,undef,undef,undef,undef,undef,undef,undef,undef,undef,undef,undef,undef,undef,undef,undef,undef,undef,undef,undef,undef,undef,undef,undef,undef,undef,undef,undef,undef,undef,undef,undef,undef,undef,undef,undef,undef,undef,undef,undef,undef,undef,undef,undef,undef,undef,undef,undef,undef,undef,undef,undef,undef,undef,undef,undef,undef,undef,undef,undef,undef,undef,undef,undef,undef,undef,undef,undef,undef,undef,undef,undef,undef,undef,undef,undef,undef,undef,undef,undef,undef,undef,undef,undef,undef,undef,undef,undef,undef,undef,undef,undef,undef,undef,undef,undef,undef,undef,undef,undef,undef,undef,undef,undef,undef,undef,undef,undef,undef,undef,undef,undef,undef,undef,undef,undef,undef,undef,undef,undef,undef,undef,undef,undef,undef,undef,undef,undef,undef,undef,undef,undef,undef,undef,undef,undef],[]⟩∧DInv V3 w' (fs12 K S1 S4 S11) [v0,v1,v2,v3,v4,v5,v6,v7,v8,v9,v10,v11,v12,v13,v14,v15,v16,v17,v18,v19,v20,v21,v22,v23,v24,v25,v26,v27,v28,v29,v30,v31,v32,v33,v34,v35,v36,v37,v38] L) (by kernel_rfl) (by kernel_rfl) ?_ ?_ ?_
 ·exact ⟨_,_,_,_,_,_,_,_,_,_,_,_,_,_,_,_,_,_,_,_,_,_,_,_,_,_,_,_,_,_,_,_,_,_,_,_,_,_,_,rfl,DInv.start (below_drewN (Below.refl _ _) 1)⟩
 ·rintro L aa w' ⟨v0,v1,v2,v3,v4,v5,v6,v7,v8,v9,v10,v11,v12,v13,v14,v15,v16,v17,v18,v19,v20,v21,v22,v23,v24,v25,v26,v27,v28,v29,v30,v31,v32,v33,v34,v35,v36,v37,v38,rfl,h⟩ hc i0 op9 ho hL hp
  have hi9:i0 < 39:=by simpa using (Array.getElem?_eq_some_iff.1 ho).1
  have hi2:i0=0∨i0=1∨i0=2∨i0=3∨i0=4∨i0=5∨i0=6∨i0=7∨i0=8∨i0=9∨i0=10∨i0=11∨i0=12∨i0=13∨i0=14∨i0=15∨i0=16∨i0=17∨i0=18∨i0=19∨i0=20∨i0=21∨i0=22∨i0=23∨i0=24∨i0=25∨i0=26∨i0=27∨i0=28∨i0=29∨i0=30∨i0=31∨i0=32∨i0=33∨i0=34∨i0=35∨i0=36∨i0=37∨i0=38:=by omega
  clear hi9
  rcases hi2 with rfl | rfl | rfl | rfl | rfl | rfl | rfl | rfl | rfl | rfl | rfl | rfl | rfl | rfl | rfl | rfl | rfl | rfl | rfl | rfl | rfl | rfl | rfl | rfl | rfl | rfl | rfl | rfl | rfl | rfl | rfl | rfl | rfl | rfl | rfl | rfl | rfl | rfl | rfl
  ·refine wpOp_step rfl ?_
   intro K9 hK
   go_simp
   exact hK _ _ ⟨_,_,_,_,_,_,_,_,_,_,_,_,_,_,_,_,_,_,_,_,_,_,_,_,_,_,_,_,_,_,_,_,_,_,_,_,_,_,_,rfl,h.step (Below.refl _ _) (i:=0) (F:=.lit (.agg #[.int .u8 1,.string ⟨#[]⟩,.string ⟨#[]⟩,.string ⟨#[]⟩,.int .u8 0,.string ⟨#[]⟩,.string ⟨#[]⟩,.int .i64 0,.slice none 0 0,.int .i64 0,.slice none 0 0,.slice none 0 0])) rfl (rfl)⟩
  ·refine wpOp_step rfl ?_
   intro K9 hK
   have hT2:=hT.frame h.b
   have y0:w'.cell? ⟨S1,0,none⟩=some (.slice (some ⟨K,0,none⟩) 2 2):=hT2.s.e.cell (j:=0) rfl
   have y1:w'.cell? ⟨S1,1,none⟩=some (.slice (some ⟨S1+1,0,none⟩) 2 2):=hT2.s.e.cell (j:=1) rfl
   clear hT2
   go_simp
   exact hK _ _ ⟨_,_,_,_,_,_,_,_,_,_,_,_,_,_,_,_,_,_,_,_,_,_,_,_,_,_,_,_,_,_,_,_,_,_,_,_,_,_,_,rfl,h.step (Below.refl _ _) (i:=1) (F:=.lit (.agg #[.slice (some ⟨K,0,none⟩) 2 2,.slice (some ⟨S1+1,0,none⟩) 2 2])) rfl (rfl)⟩
  ·refine wpOp_step rfl ?_
   intro K9 hK
   have f0:=h.lit (i:=0) (u:=.agg #[.int .u8 1,.string ⟨#[]⟩,.string ⟨#[]⟩,.string ⟨#[]⟩,.int .u8 0,.string ⟨#[]⟩,.string ⟨#[]⟩,.int .i64 0,.slice none 0 0,.int .i64 0,.slice none 0 0,.slice none 0 0]) (pred_spec ho hp (j:=0) (by kernel_rfl)) rfl rfl
   subst f0
   have f1:=h.lit (i:=1) (u:=.agg #[.slice (some ⟨K,0,none⟩) 2 2,.slice (some ⟨S1+1,0,none⟩) 2 2]) (pred_spec ho hp (j:=1) (by kernel_rfl)) rfl rfl
   subst f1
   go_simp
   have hT2:=hT.frame h.b
   refine (qn hT2 (flatZ none _) (by decide) v_zero).mono ?_
   rintro e w4 ⟨rfl,hb4⟩
   clear hT2
   exact hK _ _ ⟨_,_,_,_,_,_,_,_,_,_,_,_,_,_,_,_,_,_,_,_,_,_,_,_,_,_,_,_,_,_,_,_,_,_,_,_,_,_,_,rfl,h.step (hb4) (i:=2) (F:=.lit (.bool true)) rfl (rfl)⟩
  ·refine wpOp_step rfl ?_
   intro K9 hK
   have f2:=h.lit (i:=2) (u:=.bool true) (pred_spec ho hp (j:=2) (by kernel_rfl)) rfl rfl
   subst f2
   go_simp
   exact hK _ _ ⟨_,_,_,_,_,_,_,_,_,_,_,_,_,_,_,_,_,_,_,_,_,_,_,_,_,_,_,_,_,_,_,_,_,_,_,_,_,_,_,rfl,h.step (Below.refl _ _) (i:=3) (F:=.lit (.bool true)) rfl (rfl)⟩
  ·refine wpOp_step rfl ?_
   intro K9 hK
   have f3:=h.lit (i:=3) (u:=.bool true) (pred_spec ho hp (j:=3) (by kernel_rfl)) rfl rfl
   subst f3
   go_simp
   exact hK _ _ ⟨_,_,_,_,_,_,_,_,_,_,_,_,_,_,_,_,_,_,_,_,_,_,_,_,_,_,_,_,_,_,_,_,_,_,_,_,_,_,_,rfl,h.step (Below.refl _ _) (i:=4) (F:=.lit (.func (.func 31) #[] #[])) rfl (rfl)⟩
  ·refine wpOp_step rfl ?_
   intro K9 hK
   have f3:=h.lit (i:=3) (u:=.bool true) (pred_spec ho hp (j:=3) (by kernel_rfl)) rfl rfl
   subst f3
   go_simp
   exact hK _ _ ⟨_,_,_,_,_,_,_,_,_,_,_,_,_,_,_,_,_,_,_,_,_,_,_,_,_,_,_,_,_,_,_,_,_,_,_,_,_,_,_,rfl,h.step (Below.refl _ _) (i:=5) (F:=.lit (.func (.func 30) #[] #[])) rfl (rfl)⟩
  ·refine wpOp_step rfl ?_
   intro K9 hK
   have f3:=h.lit (i:=3) (u:=.bool true) (pred_spec ho hp (j:=3) (by kernel_rfl)) rfl rfl
   subst f3
   have hT2:=hT.frame h.b
   have y0:w'.cell? ⟨S9+1,0,none⟩=some (.int .u8 2):=hT2.s.o2.cell (j:=0) rfl
   have y1:w'.cell? ⟨S9+1,1,none⟩=some (.string ⟨#[65,110,110]⟩):=hT2.s.o2.cell (j:=1) rfl
   have y2:w'.cell? ⟨S9+1,2,none⟩=some (.string ⟨#[66,111,98]⟩):=hT2.s.o2.cell (j:=2) rfl
   have y3:w'.cell? ⟨S9+1,3,none⟩=some (.string ⟨#[85,83,68]⟩):=hT2.s.o2.cell (j:=3) rfl
   have y4:w'.cell? ⟨S9+1,4,none⟩=some (.int .u8 1):=hT2.s.o2.cell (j:=4) rfl
   have y5:w'.cell? ⟨S9+1,5,none⟩=some (.string ⟨#[50]⟩):=hT2.s.o2.cell (j:=5) rfl
   have y6:w'.cell? ⟨S9+1,6,none⟩=some (.string ⟨#[]⟩):=hT2.s.o2.cell (j:=6) rfl
   have y7:w'.cell? ⟨S9+1,7,none⟩=some (.int .i64 0):=hT2.s.o2.cell (j:=7) rfl
   have y8:w'.cell? ⟨S9+1,8,none⟩=some (.slice none 0 0):=hT2.s.o2.cell (j:=8) rfl
   have y9:w'.cell? ⟨S9+1,9,none⟩=some (.int .i64 0):=hT2.s.o2.cell (j:=9) rfl
   have y10:w'.cell? ⟨S9+1,10,none⟩=some (.slice none 0 0):=hT2.s.o2.cell (j:=10) rfl
   have y11:w'.cell? ⟨S9+1,11,none⟩=some (.slice none 0 0):=hT2.s.o2.cell (j:=11) rfl
   clear hT2
   go_simp
   exact hK _ _ ⟨_,_,_,_,_,_,_,_,_,_,_,_,_,_,_,_,_,_,_,_,_,_,_,_,_,_,_,_,_,_,_,_,_,_,_,_,_,_,_,rfl,h.step (Below.refl _ _) (i:=6) (F:=.lit (.agg #[.int .u8 2,.string ⟨#[65,110,110]⟩,.string ⟨#[66,111,98]⟩,.string ⟨#[85,83,68]⟩,.int .u8 1,.string ⟨#[50]⟩,.string ⟨#[]⟩,.int .i64 0,.slice none 0 0,.int .i64 0,.slice none 0 0,.slice none 0 0])) rfl (rfl)⟩
  ·refine wpOp_step rfl ?_
   intro K9 hK
   have f3:=h.lit (i:=3) (u:=.bool true) (pred_spec ho hp (j:=3) (by kernel_rfl)) rfl rfl
   subst f3
   have f5:=h.lit (i:=5) (u:=.func (.func 30) #[] #[]) (pred_spec ho hp (j:=5) (by kernel_rfl)) rfl rfl
   subst f5
   have f6:=h.lit (i:=6) (u:=.agg #[.int .u8 2,.string ⟨#[65,110,110]⟩,.string ⟨#[66,111,98]⟩,.string ⟨#[85,83,68]⟩,.int .u8 1,.string ⟨#[50]⟩,.string ⟨#[]⟩,.int .i64 0,.slice none 0 0,.int .i64 0,.slice none 0 0,.slice none 0 0]) (pred_spec ho hp (j:=6) (by kernel_rfl)) rfl rfl
   subst f6
   go_simp
   have hT2:=hT.frame h.b
   refine (at_any 9 (flat2 none _)).mono ?_
   rintro e w4 ⟨u4,rfl,hu4,hb4⟩
   clear hT2
   exact hK _ _ ⟨_,_,_,_,_,_,_,_,_,_,_,_,_,_,_,_,_,_,_,_,_,_,_,_,_,_,_,_,_,_,_,_,_,_,_,_,_,_,_,rfl,h.step (hb4) (i:=7) (F:=.held (atM 9 cTwo)) rfl (hu4)⟩
  ·refine wpOp_step rfl ?_
   intro K9 hK
   have f3:=h.lit (i:=3) (u:=.bool true) (pred_spec ho hp (j:=3) (by kernel_rfl)) rfl rfl
   subst f3
   have hT2:=hT.frame h.b
   have y0:w'.cell? ⟨S9,0,none⟩=some (.int .u8 2):=hT2.s.o1.cell (j:=0) rfl
   have y1:w'.cell? ⟨S9,1,none⟩=some (.string ⟨#[65,110,110]⟩):=hT2.s.o1.cell (j:=1) rfl
   have y2:w'.cell? ⟨S9,2,none⟩=some (.string ⟨#[66,111,98]⟩):=hT2.s.o1.cell (j:=2) rfl
   have y3:w'.cell? ⟨S9,3,none⟩=some (.string ⟨#[85,83,68]⟩):=hT2.s.o1.cell (j:=3) rfl
   have y4:w'.cell? ⟨S9,4,none⟩=some (.int .u8 1):=hT2.s.o1.cell (j:=4) rfl
   have y5:w'.cell? ⟨S9,5,none⟩=some (.string ⟨#[49]⟩):=hT2.s.o1.cell (j:=5) rfl
   have y6:w'.cell? ⟨S9,6,none⟩=some (.string ⟨#[]⟩):=hT2.s.o1.cell (j:=6) rfl
   have y7:w'.cell? ⟨S9,7,none⟩=some (.int .i64 0):=hT2.s.o1.cell (j:=7) rfl
   have y8:w'.cell? ⟨S9,8,none⟩=some (.slice none 0 0):=hT2.s.o1.cell (j:=8) rfl
   have y9:w'.cell? ⟨S9,9,none⟩=some (.int .i64 0):=hT2.s.o1.cell (j:=9) rfl
   have y10:w'.cell? ⟨S9,10,none⟩=some (.slice none 0 0):=hT2.s.o1.cell (j:=10) rfl
   have y11:w'.cell? ⟨S9,11,none⟩=some (.slice none 0 0):=hT2.s.o1.cell (j:=11) rfl
   clear hT2
   go_simp
   exact hK _ _ ⟨_,_,_,_,_,_,_,_,_,_,_,_,_,_,_,_,_,_,_,_,_,_,_,_,_,_,_,_,_,_,_,_,_,_,_,_,_,_,_,rfl,h.step (Below.refl _ _) (i:=8) (F:=.lit (.agg #[.int .u8 2,.string ⟨#[65,110,110]⟩,.string ⟨#[66,111,98]⟩,.string ⟨#[85,83,68]⟩,.int .u8 1,.string ⟨#[49]⟩,.string ⟨#[]⟩,.int .i64 0,.slice none 0 0,.int .i64 0,.slice none 0 0,.slice none 0 0])) rfl (rfl)⟩
  ·refine wpOp_step rfl ?_
   intro K9 hK
   have f3:=h.lit (i:=3) (u:=.bool true) (pred_spec ho hp (j:=3) (by kernel_rfl)) rfl rfl
   subst f3
   have f4:=h.lit (i:=4) (u:=.func (.func 31) #[] #[]) (pred_spec ho hp (j:=4) (by kernel_rfl)) rfl rfl
   subst f4
   have f7:=h.at (i:=7) (F:=.held (atM 9 cTwo)) (pred_spec ho hp (j:=7) (by kernel_rfl)) rfl rfl
   have f8:=h.lit (i:=8) (u:=.agg #[.int .u8 2,.string ⟨#[65,110,110]⟩,.string ⟨#[66,111,98]⟩,.string ⟨#[85,83,68]⟩,.int .u8 1,.string ⟨#[49]⟩,.string ⟨#[]⟩,.int .i64 0,.slice none 0 0,.int .i64 0,.slice none 0 0,.slice none 0 0]) (pred_spec ho hp (j:=8) (by kernel_rfl)) rfl rfl
   subst f8
   go_simp
   have hT2:=hT.frame h.b
   refine (bo_any f7 (flat1 none _)).mono ?_
   rintro e w4 ⟨u4,rfl,hu4,hb4⟩
   clear hT2
   exact hK _ _ ⟨_,_,_,_,_,_,_,_,_,_,_,_,_,_,_,_,_,_,_,_,_,_,_,_,_,_,_,_,_,_,_,_,_,_,_,_,_,_,_,rfl,h.step (hb4) (i:=9) (F:=.held (bothN (atM 9 cTwo) cOne)) rfl (hu4)⟩
  ·refine wpOp_step rfl ?_
   intro K9 hK
   have f3:=h.lit (i:=3) (u:=.bool true) (pred_spec ho hp (j:=3) (by kernel_rfl)) rfl rfl
   subst f3
   have hT2:=hT.frame h.b
   have y0:w'.cell? ⟨S1,0,none⟩=some (.slice (some ⟨K,0,none⟩) 2 2):=hT2.s.e.cell (j:=0) rfl
   have y1:w'.cell? ⟨S1,1,none⟩=some (.slice (some ⟨S1+1,0,none⟩) 2 2):=hT2.s.e.cell (j:=1) rfl
   clear hT2
   go_simp
   exact hK _ _ ⟨_,_,_,_,_,_,_,_,_,_,_,_,_,_,_,_,_,_,_,_,_,_,_,_,_,_,_,_,_,_,_,_,_,_,_,_,_,_,_,rfl,h.step (Below.refl _ _) (i:=10) (F:=.lit (.agg #[.slice (some ⟨K,0,none⟩) 2 2,.slice (some ⟨S1+1,0,none⟩) 2 2])) rfl (rfl)⟩
  ·refine wpOp_step rfl ?_
   intro K9 hK
   have f3:=h.lit (i:=3) (u:=.bool true) (pred_spec ho hp (j:=3) (by kernel_rfl)) rfl rfl
   subst f3
   go_simp
   exact hK _ _ ⟨_,_,_,_,_,_,_,_,_,_,_,_,_,_,_,_,_,_,_,_,_,_,_,_,_,_,_,_,_,_,_,_,_,_,_,_,_,_,_,rfl,h.step (below_a1 _ _) (i:=11) (F:=.dl [5,9]) rfl (dl_new _ [5,9] _)⟩
  ·refine wpOp_step rfl ?_
   intro K9 hK
   have f3:=h.lit (i:=3) (u:=.bool true) (pred_spec ho hp (j:=3) (by kernel_rfl)) rfl rfl
   subst f3
   go_simp
   exact hK _ _ ⟨_,_,_,_,_,_,_,_,_,_,_,_,_,_,_,_,_,_,_,_,_,_,_,_,_,_,_,_,_,_,_,_,_,_,_,_,_,_,_,rfl,h.step (below_a1 _ _) (i:=12) (F:=.rl [⟨#[49]⟩,⟨#[50]⟩]) rfl (rl_new _ [⟨#[49]⟩,⟨#[50]⟩] _)⟩
  ·refine wpOp_step rfl ?_
   intro K9 hK
   have f3:=h.lit (i:=3) (u:=.bool true) (pred_spec ho hp (j:=3) (by kernel_rfl)) rfl rfl
   subst f3
   have f9:=h.at (i:=9) (F:=.held (bothN (atM 9 cTwo) cOne)) (pred_spec ho hp (j:=9) (by kernel_rfl)) rfl rfl
   have f10:=h.lit (i:=10) (u:=.agg #[.slice (some ⟨K,0,none⟩) 2 2,.slice (some ⟨S1+1,0,none⟩) 2 2]) (pred_spec ho hp (j:=10) (by kernel_rfl)) rfl rfl
   subst f10
   have f11:=h.at (i:=11) (F:=.dl [5,9]) (pred_spec ho hp (j:=11) (by kernel_rfl)) rfl rfl
   have f12:=h.at (i:=12) (F:=.rl [⟨#[49]⟩,⟨#[50]⟩]) (pred_spec ho hp (j:=12) (by kernel_rfl)) rfl rfl
   go_simp
   have hT2:=hT.frame h.b
   refine (q2 5 9 ⟨#[49]⟩ ⟨#[50]⟩ hT2 f9 (by decide) v_both f11 f12).mono ?_
   rintro e w4 ⟨rfl,hb4⟩
   clear hT2
   exact hK _ _ ⟨_,_,_,_,_,_,_,_,_,_,_,_,_,_,_,_,_,_,_,_,_,_,_,_,_,_,_,_,_,_,_,_,_,_,_,_,_,_,_,rfl,h.step (hb4) (i:=13) (F:=.lit (.bool true)) rfl (rfl)⟩
  ·refine wpOp_step rfl ?_
   intro K9 hK
   have f3:=h.lit (i:=3) (u:=.bool true) (pred_spec ho hp (j:=3) (by kernel_rfl)) rfl rfl
   subst f3
   have f13:=h.lit (i:=13) (u:=.bool true) (pred_spec ho hp (j:=13) (by kernel_rfl)) rfl rfl
   subst f13
   go_simp
   exact hK _ _ ⟨_,_,_,_,_,_,_,_,_,_,_,_,_,_,_,_,_,_,_,_,_,_,_,_,_,_,_,_,_,_,_,_,_,_,_,_,_,_,_,rfl,h.step (Below.refl _ _) (i:=14) (F:=.lit (.bool true)) rfl (rfl)⟩
  ·refine wpOp_step rfl ?_
   intro K9 hK
   have f14:=h.lit (i:=14) (u:=.bool true) (pred_spec ho hp (j:=14) (by kernel_rfl)) rfl rfl
   subst f14
   go_simp
   exact hK _ _ ⟨_,_,_,_,_,_,_,_,_,_,_,_,_,_,_,_,_,_,_,_,_,_,_,_,_,_,_,_,_,_,_,_,_,_,_,_,_,_,_,rfl,h.step (Below.refl _ _) (i:=15) (F:=.lit (.bool true)) rfl (rfl)⟩
  ·refine wpOp_step rfl ?_
   intro K9 hK
   have f15:=h.lit (i:=15) (u:=.bool true) (pred_spec ho hp (j:=15) (by kernel_rfl)) rfl rfl
   subst f15
   have hT2:=hT.frame h.b
   have y0:w'.cell? ⟨S11+1,0,none⟩=some (.int .u8 5):=hT2.bc.cell (j:=0) rfl
   have y1:w'.cell? ⟨S11+1,1,none⟩=some (.string ⟨#[]⟩):=hT2.bc.cell (j:=1) rfl
   have y2:w'.cell? ⟨S11+1,2,none⟩=some (.string ⟨#[]⟩):=hT2.bc.cell (j:=2) rfl
   have y3:w'.cell? ⟨S11+1,3,none⟩=some (.string ⟨#[]⟩):=hT2.bc.cell (j:=3) rfl
   have y4:w'.cell? ⟨S11+1,4,none⟩=some (.int .u8 11):=hT2.bc.cell (j:=4) rfl
   have y5:w'.cell? ⟨S11+1,5,none⟩=some (.string ⟨#[]⟩):=hT2.bc.cell (j:=5) rfl
   have y6:w'.cell? ⟨S11+1,6,none⟩=some (.string ⟨#[]⟩):=hT2.bc.cell (j:=6) rfl
   have y7:w'.cell? ⟨S11+1,7,none⟩=some (.int .i64 0):=hT2.bc.cell (j:=7) rfl
   have y8:w'.cell? ⟨S11+1,8,none⟩=some (.slice (some ⟨S4,0,none⟩) 2 2):=hT2.bc.cell (j:=8) rfl
   have y9:w'.cell? ⟨S11+1,9,none⟩=some (.int .i64 0):=hT2.bc.cell (j:=9) rfl
   have y10:w'.cell? ⟨S11+1,10,none⟩=some (.slice none 0 0):=hT2.bc.cell (j:=10) rfl
   have y11:w'.cell? ⟨S11+1,11,none⟩=some (.slice (some ⟨S11,0,none⟩) 2 2):=hT2.bc.cell (j:=11) rfl
   clear hT2
   go_simp
   exact hK _ _ ⟨_,_,_,_,_,_,_,_,_,_,_,_,_,_,_,_,_,_,_,_,_,_,_,_,_,_,_,_,_,_,_,_,_,_,_,_,_,_,_,rfl,h.step (Below.refl _ _) (i:=16) (F:=.lit (.agg #[.int .u8 5,.string ⟨#[]⟩,.string ⟨#[]⟩,.string ⟨#[]⟩,.int .u8 11,.string ⟨#[]⟩,.string ⟨#[]⟩,.int .i64 0,.slice (some ⟨S4,0,none⟩) 2 2,.int .i64 0,.slice none 0 0,.slice (some ⟨S11,0,none⟩) 2 2])) rfl (rfl)⟩
  ·refine wpOp_step rfl ?_
   intro K9 hK
   have f15:=h.lit (i:=15) (u:=.bool true) (pred_spec ho hp (j:=15) (by kernel_rfl)) rfl rfl
   subst f15
   have hT2:=hT.frame h.b
   have y0:w'.cell? ⟨S1,0,none⟩=some (.slice (some ⟨K,0,none⟩) 2 2):=hT2.s.e.cell (j:=0) rfl
   have y1:w'.cell? ⟨S1,1,none⟩=some (.slice (some ⟨S1+1,0,none⟩) 2 2):=hT2.s.e.cell (j:=1) rfl
   clear hT2
   go_simp
   exact hK _ _ ⟨_,_,_,_,_,_,_,_,_,_,_,_,_,_,_,_,_,_,_,_,_,_,_,_,_,_,_,_,_,_,_,_,_,_,_,_,_,_,_,rfl,h.step (Below.refl _ _) (i:=17) (F:=.lit (.agg #[.slice (some ⟨K,0,none⟩) 2 2,.slice (some ⟨S1+1,0,none⟩) 2 2])) rfl (rfl)⟩
  ·refine wpOp_step rfl ?_
   intro K9 hK
   have f15:=h.lit (i:=15) (u:=.bool true) (pred_spec ho hp (j:=15) (by kernel_rfl)) rfl rfl
   subst f15
   go_simp
   exact hK _ _ ⟨_,_,_,_,_,_,_,_,_,_,_,_,_,_,_,_,_,_,_,_,_,_,_,_,_,_,_,_,_,_,_,_,_,_,_,_,_,_,_,rfl,h.step (below_a1 _ _) (i:=18) (F:=.dl [5]) rfl (dl_new _ [5] _)⟩
  ·refine wpOp_step rfl ?_
   intro K9 hK
   have f15:=h.lit (i:=15) (u:=.bool true) (pred_spec ho hp (j:=15) (by kernel_rfl)) rfl rfl
   subst f15
   go_simp
   exact hK _ _ ⟨_,_,_,_,_,_,_,_,_,_,_,_,_,_,_,_,_,_,_,_,_,_,_,_,_,_,_,_,_,_,_,_,_,_,_,_,_,_,_,rfl,h.step (below_a1 _ _) (i:=19) (F:=.rl [⟨#[50]⟩]) rfl (rl_new _ [⟨#[50]⟩] _)⟩
  ·refine wpOp_step rfl ?_
   intro K9 hK
   have f15:=h.lit (i:=15) (u:=.bool true) (pred_spec ho hp (j:=15) (by kernel_rfl)) rfl rfl
   subst f15
   have f16:=h.lit (i:=16) (u:=.agg #[.int .u8 5,.string ⟨#[]⟩,.string ⟨#[]⟩,.string ⟨#[]⟩,.int .u8 11,.string ⟨#[]⟩,.string ⟨#[]⟩,.int .i64 0,.slice (some ⟨S4,0,none⟩) 2 2,.int .i64 0,.slice none 0 0,.slice (some ⟨S11,0,none⟩) 2 2]) (pred_spec ho hp (j:=16) (by kernel_rfl)) rfl rfl
   subst f16
   have f17:=h.lit (i:=17) (u:=.agg #[.slice (some ⟨K,0,none⟩) 2 2,.slice (some ⟨S1+1,0,none⟩) 2 2]) (pred_spec ho hp (j:=17) (by kernel_rfl)) rfl rfl
   subst f17
   have f18:=h.at (i:=18) (F:=.dl [5]) (pred_spec ho hp (j:=18) (by kernel_rfl)) rfl rfl
   have f19:=h.at (i:=19) (F:=.rl [⟨#[50]⟩]) (pred_spec ho hp (j:=19) (by kernel_rfl)) rfl rfl
   go_simp
   have hT2:=hT.frame h.b
   refine (q1 5 ⟨#[50]⟩ hT2 (heldC hT2) (by decide) v_cond f18 f19).mono ?_
   rintro e w4 ⟨rfl,hb4⟩
   clear hT2
   exact hK _ _ ⟨_,_,_,_,_,_,_,_,_,_,_,_,_,_,_,_,_,_,_,_,_,_,_,_,_,_,_,_,_,_,_,_,_,_,_,_,_,_,_,rfl,h.step (hb4) (i:=20) (F:=.lit (.bool true)) rfl (rfl)⟩
  ·refine wpOp_step rfl ?_
   intro K9 hK
   have f15:=h.lit (i:=15) (u:=.bool true) (pred_spec ho hp (j:=15) (by kernel_rfl)) rfl rfl
   subst f15
   have f20:=h.lit (i:=20) (u:=.bool true) (pred_spec ho hp (j:=20) (by kernel_rfl)) rfl rfl
   subst f20
   go_simp
   exact hK _ _ ⟨_,_,_,_,_,_,_,_,_,_,_,_,_,_,_,_,_,_,_,_,_,_,_,_,_,_,_,_,_,_,_,_,_,_,_,_,_,_,_,rfl,h.step (Below.refl _ _) (i:=21) (F:=.lit (.bool true)) rfl (rfl)⟩
  ·refine wpOp_step rfl ?_
   intro K9 hK
   have f21:=h.lit (i:=21) (u:=.bool true) (pred_spec ho hp (j:=21) (by kernel_rfl)) rfl rfl
   subst f21
   go_simp
   exact hK _ _ ⟨_,_,_,_,_,_,_,_,_,_,_,_,_,_,_,_,_,_,_,_,_,_,_,_,_,_,_,_,_,_,_,_,_,_,_,_,_,_,_,rfl,h.step (Below.refl _ _) (i:=22) (F:=.lit (.bool true)) rfl (rfl)⟩
  ·refine wpOp_step rfl ?_
   intro K9 hK
   have f22:=h.lit (i:=22) (u:=.bool true) (pred_spec ho hp (j:=22) (by kernel_rfl)) rfl rfl
   subst f22
   go_simp
   exact hK _ _ ⟨_,_,_,_,_,_,_,_,_,_,_,_,_,_,_,_,_,_,_,_,_,_,_,_,_,_,_,_,_,_,_,_,_,_,_,_,_,_,_,rfl,h.step (Below.refl _ _) (i:=23) (F:=.lit (.func (.func 30) #[] #[])) rfl (rfl)⟩
  ·refine wpOp_step rfl ?_
   intro K9 hK
   have f22:=h.lit (i:=22) (u:=.bool true) (pred_spec ho hp (j:=22) (by kernel_rfl)) rfl rfl
   subst f22
   have hT2:=hT.frame h.b
   have y0:w'.cell? ⟨S9,0,none⟩=some (.int .u8 2):=hT2.s.o1.cell (j:=0) rfl
   have y1:w'.cell? ⟨S9,1,none⟩=some (.string ⟨#[65,110,110]⟩):=hT2.s.o1.cell (j:=1) rfl
   have y2:w'.cell? ⟨S9,2,none⟩=some (.string ⟨#[66,111,98]⟩):=hT2.s.o1.cell (j:=2) rfl
   have y3:w'.cell? ⟨S9,3,none⟩=some (.string ⟨#[85,83,68]⟩):=hT2.s.o1.cell (j:=3) rfl
   have y4:w'.cell? ⟨S9,4,none⟩=some (.int .u8 1):=hT2.s.o1.cell (j:=4) rfl
   have y5:w'.cell? ⟨S9,5,none⟩=some (.string ⟨#[49]⟩):=hT2.s.o1.cell (j:=5) rfl
   have y6:w'.cell? ⟨S9,6,none⟩=some (.string ⟨#[]⟩):=hT2.s.o1.cell (j:=6) rfl
   have y7:w'.cell? ⟨S9,7,none⟩=some (.int .i64 0):=hT2.s.o1.cell (j:=7) rfl
   have y8:w'.cell? ⟨S9,8,none⟩=some (.slice none 0 0):=hT2.s.o1.cell (j:=8) rfl
   have y9:w'.cell? ⟨S9,9,none⟩=some (.int .i64 0):=hT2.s.o1.cell (j:=9) rfl
   have y10:w'.cell? ⟨S9,10,none⟩=some (.slice none 0 0):=hT2.s.o1.cell (j:=10) rfl
   have y11:w'.cell? ⟨S9,11,none⟩=some (.slice none 0 0):=hT2.s.o1.cell (j:=11) rfl
   clear hT2
   go_simp
   exact hK _ _ ⟨_,_,_,_,_,_,_,_,_,_,_,_,_,_,_,_,_,_,_,_,_,_,_,_,_,_,_,_,_,_,_,_,_,_,_,_,_,_,_,rfl,h.step (Below.refl _ _) (i:=24) (F:=.lit (.agg #[.int .u8 2,.string ⟨#[65,110,110]⟩,.string ⟨#[66,111,98]⟩,.string ⟨#[85,83,68]⟩,.int .u8 1,.string ⟨#[49]⟩,.string ⟨#[]⟩,.int .i64 0,.slice none 0 0,.int .i64 0,.slice none 0 0,.slice none 0 0])) rfl (rfl)⟩
  ·refine wpOp_step rfl ?_
   intro K9 hK
   have f22:=h.lit (i:=22) (u:=.bool true) (pred_spec ho hp (j:=22) (by kernel_rfl)) rfl rfl
   subst f22
   have f23:=h.lit (i:=23) (u:=.func (.func 30) #[] #[]) (pred_spec ho hp (j:=23) (by kernel_rfl)) rfl rfl
   subst f23
   have f24:=h.lit (i:=24) (u:=.agg #[.int .u8 2,.string ⟨#[65,110,110]⟩,.string ⟨#[66,111,98]⟩,.string ⟨#[85,83,68]⟩,.int .u8 1,.string ⟨#[49]⟩,.string ⟨#[]⟩,.int .i64 0,.slice none 0 0,.int .i64 0,.slice none 0 0,.slice none 0 0]) (pred_spec ho hp (j:=24) (by kernel_rfl)) rfl rfl
   subst f24
   go_simp
   have hT2:=hT.frame h.b
   refine (at_any 4 (flat1 none _)).mono ?_
   rintro e w4 ⟨u4,rfl,hu4,hb4⟩
   clear hT2
   exact hK _ _ ⟨_,_,_,_,_,_,_,_,_,_,_,_,_,_,_,_,_,_,_,_,_,_,_,_,_,_,_,_,_,_,_,_,_,_,_,_,_,_,_,rfl,h.step (hb4) (i:=25) (F:=.held (atM 4 cOne)) rfl (hu4)⟩
  ·refine wpOp_step rfl ?_
   intro K9 hK
   have f22:=h.lit (i:=22) (u:=.bool true) (pred_spec ho hp (j:=22) (by kernel_rfl)) rfl rfl
   subst f22
   have hT2:=hT.frame h.b
   have y0:w'.cell? ⟨S1,0,none⟩=some (.slice (some ⟨K,0,none⟩) 2 2):=hT2.s.e.cell (j:=0) rfl
   have y1:w'.cell? ⟨S1,1,none⟩=some (.slice (some ⟨S1+1,0,none⟩) 2 2):=hT2.s.e.cell (j:=1) rfl
   clear hT2
   go_simp
   exact hK _ _ ⟨_,_,_,_,_,_,_,_,_,_,_,_,_,_,_,_,_,_,_,_,_,_,_,_,_,_,_,_,_,_,_,_,_,_,_,_,_,_,_,rfl,h.step (Below.refl _ _) (i:=26) (F:=.lit (.agg #[.slice (some ⟨K,0,none⟩) 2 2,.slice (some ⟨S1+1,0,none⟩) 2 2])) rfl (rfl)⟩
  ·refine wpOp_step rfl ?_
   intro K9 hK
   have f22:=h.lit (i:=22) (u:=.bool true) (pred_spec ho hp (j:=22) (by kernel_rfl)) rfl rfl
   subst f22
   have f25:=h.at (i:=25) (F:=.held (atM 4 cOne)) (pred_spec ho hp (j:=25) (by kernel_rfl)) rfl rfl
   have f26:=h.lit (i:=26) (u:=.agg #[.slice (some ⟨K,0,none⟩) 2 2,.slice (some ⟨S1+1,0,none⟩) 2 2]) (pred_spec ho hp (j:=26) (by kernel_rfl)) rfl rfl
   subst f26
   go_simp
   have hT2:=hT.frame h.b
   refine (qn hT2 f25 (by decide) v_at4).mono ?_
   rintro e w4 ⟨rfl,hb4⟩
   clear hT2
   exact hK _ _ ⟨_,_,_,_,_,_,_,_,_,_,_,_,_,_,_,_,_,_,_,_,_,_,_,_,_,_,_,_,_,_,_,_,_,_,_,_,_,_,_,rfl,h.step (hb4) (i:=27) (F:=.lit (.bool true)) rfl (rfl)⟩
  ·refine wpOp_step rfl ?_
   intro K9 hK
   have f22:=h.lit (i:=22) (u:=.bool true) (pred_spec ho hp (j:=22) (by kernel_rfl)) rfl rfl
   subst f22
   have f27:=h.lit (i:=27) (u:=.bool true) (pred_spec ho hp (j:=27) (by kernel_rfl)) rfl rfl
   subst f27
   go_simp
   exact hK _ _ ⟨_,_,_,_,_,_,_,_,_,_,_,_,_,_,_,_,_,_,_,_,_,_,_,_,_,_,_,_,_,_,_,_,_,_,_,_,_,_,_,rfl,h.step (Below.refl _ _) (i:=28) (F:=.lit (.bool true)) rfl (rfl)⟩
  ·refine wpOp_step rfl ?_
   intro K9 hK
   have f28:=h.lit (i:=28) (u:=.bool true) (pred_spec ho hp (j:=28) (by kernel_rfl)) rfl rfl
   subst f28
   go_simp
   exact hK _ _ ⟨_,_,_,_,_,_,_,_,_,_,_,_,_,_,_,_,_,_,_,_,_,_,_,_,_,_,_,_,_,_,_,_,_,_,_,_,_,_,_,rfl,h.step (Below.refl _ _) (i:=29) (F:=.lit (.bool true)) rfl (rfl)⟩
  ·refine wpOp_step rfl ?_
   intro K9 hK
   have f29:=h.lit (i:=29) (u:=.bool true) (pred_spec ho hp (j:=29) (by kernel_rfl)) rfl rfl
   subst f29
   go_simp
   exact hK _ _ ⟨_,_,_,_,_,_,_,_,_,_,_,_,_,_,_,_,_,_,_,_,_,_,_,_,_,_,_,_,_,_,_,_,_,_,_,_,_,_,_,rfl,h.step (Below.refl _ _) (i:=30) (F:=.lit (.func (.func 30) #[] #[])) rfl (rfl)⟩
  ·refine wpOp_step rfl ?_
   intro K9 hK
   have f29:=h.lit (i:=29) (u:=.bool true) (pred_spec ho hp (j:=29) (by kernel_rfl)) rfl rfl
   subst f29
   have hT2:=hT.frame h.b
   have y0:w'.cell? ⟨S9,0,none⟩=some (.int .u8 2):=hT2.s.o1.cell (j:=0) rfl
   have y1:w'.cell? ⟨S9,1,none⟩=some (.string ⟨#[65,110,110]⟩):=hT2.s.o1.cell (j:=1) rfl
   have y2:w'.cell? ⟨S9,2,none⟩=some (.string ⟨#[66,111,98]⟩):=hT2.s.o1.cell (j:=2) rfl
   have y3:w'.cell? ⟨S9,3,none⟩=some (.string ⟨#[85,83,68]⟩):=hT2.s.o1.cell (j:=3) rfl
   have y4:w'.cell? ⟨S9,4,none⟩=some (.int .u8 1):=hT2.s.o1.cell (j:=4) rfl
   have y5:w'.cell? ⟨S9,5,none⟩=some (.string ⟨#[49]⟩):=hT2.s.o1.cell (j:=5) rfl
   have y6:w'.cell? ⟨S9,6,none⟩=some (.string ⟨#[]⟩):=hT2.s.o1.cell (j:=6) rfl
   have y7:w'.cell? ⟨S9,7,none⟩=some (.int .i64 0):=hT2.s.o1.cell (j:=7) rfl
   have y8:w'.cell? ⟨S9,8,none⟩=some (.slice none 0 0):=hT2.s.o1.cell (j:=8) rfl
   have y9:w'.cell? ⟨S9,9,none⟩=some (.int .i64 0):=hT2.s.o1.cell (j:=9) rfl
   have y10:w'.cell? ⟨S9,10,none⟩=some (.slice none 0 0):=hT2.s.o1.cell (j:=10) rfl
   have y11:w'.cell? ⟨S9,11,none⟩=some (.slice none 0 0):=hT2.s.o1.cell (j:=11) rfl
   clear hT2
   go_simp
   exact hK _ _ ⟨_,_,_,_,_,_,_,_,_,_,_,_,_,_,_,_,_,_,_,_,_,_,_,_,_,_,_,_,_,_,_,_,_,_,_,_,_,_,_,rfl,h.step (Below.refl _ _) (i:=31) (F:=.lit (.agg #[.int .u8 2,.string ⟨#[65,110,110]⟩,.string ⟨#[66,111,98]⟩,.string ⟨#[85,83,68]⟩,.int .u8 1,.string ⟨#[49]⟩,.string ⟨#[]⟩,.int .i64 0,.slice none 0 0,.int .i64 0,.slice none 0 0,.slice none 0 0])) rfl (rfl)⟩
  ·refine wpOp_step rfl ?_
   intro K9 hK
   have f29:=h.lit (i:=29) (u:=.bool true) (pred_spec ho hp (j:=29) (by kernel_rfl)) rfl rfl
   subst f29
   have f30:=h.lit (i:=30) (u:=.func (.func 30) #[] #[]) (pred_spec ho hp (j:=30) (by kernel_rfl)) rfl rfl
   subst f30
   have f31:=h.lit (i:=31) (u:=.agg #[.int .u8 2,.string ⟨#[65,110,110]⟩,.string ⟨#[66,111,98]⟩,.string ⟨#[85,83,68]⟩,.int .u8 1,.string ⟨#[49]⟩,.string ⟨#[]⟩,.int .i64 0,.slice none 0 0,.int .i64 0,.slice none 0 0,.slice none 0 0]) (pred_spec ho hp (j:=31) (by kernel_rfl)) rfl rfl
   subst f31
   go_simp
   have hT2:=hT.frame h.b
   refine (at_any 5 (flat1 none _)).mono ?_
   rintro e w4 ⟨u4,rfl,hu4,hb4⟩
   clear hT2
   exact hK _ _ ⟨_,_,_,_,_,_,_,_,_,_,_,_,_,_,_,_,_,_,_,_,_,_,_,_,_,_,_,_,_,_,_,_,_,_,_,_,_,_,_,rfl,h.step (hb4) (i:=32) (F:=.held (atM 5 cOne)) rfl (hu4)⟩
  ·refine wpOp_step rfl ?_
   intro K9 hK
   have f29:=h.lit (i:=29) (u:=.bool true) (pred_spec ho hp (j:=29) (by kernel_rfl)) rfl rfl
   subst f29
   have hT2:=hT.frame h.b
   have y0:w'.cell? ⟨S1,0,none⟩=some (.slice (some ⟨K,0,none⟩) 2 2):=hT2.s.e.cell (j:=0) rfl
   have y1:w'.cell? ⟨S1,1,none⟩=some (.slice (some ⟨S1+1,0,none⟩) 2 2):=hT2.s.e.cell (j:=1) rfl
   clear hT2
   go_simp
   exact hK _ _ ⟨_,_,_,_,_,_,_,_,_,_,_,_,_,_,_,_,_,_,_,_,_,_,_,_,_,_,_,_,_,_,_,_,_,_,_,_,_,_,_,rfl,h.step (Below.refl _ _) (i:=33) (F:=.lit (.agg #[.slice (some ⟨K,0,none⟩) 2 2,.slice (some ⟨S1+1,0,none⟩) 2 2])) rfl (rfl)⟩
  ·refine wpOp_step rfl ?_
   intro K9 hK
   have f29:=h.lit (i:=29) (u:=.bool true) (pred_spec ho hp (j:=29) (by kernel_rfl)) rfl rfl
   subst f29
   go_simp
   exact hK _ _ ⟨_,_,_,_,_,_,_,_,_,_,_,_,_,_,_,_,_,_,_,_,_,_,_,_,_,_,_,_,_,_,_,_,_,_,_,_,_,_,_,rfl,h.step (below_a1 _ _) (i:=34) (F:=.dl [5]) rfl (dl_new _ [5] _)⟩
  ·refine wpOp_step rfl ?_
   intro K9 hK
   have f29:=h.lit (i:=29) (u:=.bool true) (pred_spec ho hp (j:=29) (by kernel_rfl)) rfl rfl
   subst f29
   go_simp
   exact hK _ _ ⟨_,_,_,_,_,_,_,_,_,_,_,_,_,_,_,_,_,_,_,_,_,_,_,_,_,_,_,_,_,_,_,_,_,_,_,_,_,_,_,rfl,h.step (below_a1 _ _) (i:=35) (F:=.rl [⟨#[49]⟩]) rfl (rl_new _ [⟨#[49]⟩] _)⟩
  ·refine wpOp_step rfl ?_
   intro K9 hK
   have f29:=h.lit (i:=29) (u:=.bool true) (pred_spec ho hp (j:=29) (by kernel_rfl)) rfl rfl
   subst f29
   have f32:=h.at (i:=32) (F:=.held (atM 5 cOne)) (pred_spec ho hp (j:=32) (by kernel_rfl)) rfl rfl
   have f33:=h.lit (i:=33) (u:=.agg #[.slice (some ⟨K,0,none⟩) 2 2,.slice (some ⟨S1+1,0,none⟩) 2 2]) (pred_spec ho hp (j:=33) (by kernel_rfl)) rfl rfl
   subst f33
   have f34:=h.at (i:=34) (F:=.dl [5]) (pred_spec ho hp (j:=34) (by kernel_rfl)) rfl rfl
   have f35:=h.at (i:=35) (F:=.rl [⟨#[49]⟩]) (pred_spec ho hp (j:=35) (by kernel_rfl)) rfl rfl
   go_simp
   have hT2:=hT.frame h.b
   refine (q1 5 ⟨#[49]⟩ hT2 f32 (by decide) v_at5 f34 f35).mono ?_
   rintro e w4 ⟨rfl,hb4⟩
   clear hT2
   exact hK _ _ ⟨_,_,_,_,_,_,_,_,_,_,_,_,_,_,_,_,_,_,_,_,_,_,_,_,_,_,_,_,_,_,_,_,_,_,_,_,_,_,_,rfl,h.step (hb4) (i:=36) (F:=.lit (.bool true)) rfl (rfl)⟩
  ·refine wpOp_step rfl ?_
   intro K9 hK
   have f29:=h.lit (i:=29) (u:=.bool true) (pred_spec ho hp (j:=29) (by kernel_rfl)) rfl rfl
   subst f29
   have f36:=h.lit (i:=36) (u:=.bool true) (pred_spec ho hp (j:=36) (by kernel_rfl)) rfl rfl
   subst f36
   go_simp
   exact hK _ _ ⟨_,_,_,_,_,_,_,_,_,_,_,_,_,_,_,_,_,_,_,_,_,_,_,_,_,_,_,_,_,_,_,_,_,_,_,_,_,_,_,rfl,h.step (Below.refl _ _) (i:=37) (F:=.lit (.bool true)) rfl (rfl)⟩
  ·refine wpOp_step rfl ?_
   intro K9 hK
   have f37:=h.lit (i:=37) (u:=.bool true) (pred_spec ho hp (j:=37) (by kernel_rfl)) rfl rfl
   subst f37
   go_simp
   exact hK _ _ ⟨_,_,_,_,_,_,_,_,_,_,_,_,_,_,_,_,_,_,_,_,_,_,_,_,_,_,_,_,_,_,_,_,_,_,_,_,_,_,_,rfl,h.step (Below.refl _ _) (i:=38) (F:=.lit (.bool true)) rfl (rfl)⟩
 ·rintro L aa w' ⟨v0,v1,v2,v3,v4,v5,v6,v7,v8,v9,v10,v11,v12,v13,v14,v15,v16,v17,v18,v19,v20,v21,v22,v23,v24,v25,v26,v27,v28,v29,v30,v31,v32,v33,v34,v35,v36,v37,v38,rfl,h⟩ hall
  have e9:=h.lit (i:=38) (u:=.bool true) (hall 38 (by decide)) rfl rfl
  exact hQ v0 v1 v2 v3 v4 v5 v6 v7 v8 v9 v10 v11 v12 v13 v14 v15 v16 v17 v18 v19 v20 v21 v22 v23 v24 v25 v26 v27 v28 v29 v30 v31 v32 v33 v34 v35 v36 v37 v38 w' e9 (Lib.hid h.b)
end Go.Proofs.YtknpnhodpgajbaaGreatDoor
