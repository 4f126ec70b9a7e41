/- A part. -/
import Derived.Test.YthdeijdimfjceaaGreatDoorA12
import Derived.StillTailTactics
namespace Go.Proofs.YthdeijdimfjceaaGreatDoor
open Go.RowKit
structure EvH (x:Ex) (s:Value) (E:EvD) (w:World):Prop where
 bulk:x.bulk≤1100000
 rd:RdE w x.sub s
 k:x.k < 256
 look:LookS w
 e:E.Rd w
 fs:∀ f ∈ E.F,f.small
 cs:∀ c ∈ E.C,c.small
theorem EvH.frame {x:Ex} {s:Value} {E:EvD} {w w':World} (h:EvH x s E w) (hb:Below w.heap.size w w'):EvH x s E w':=⟨h.bulk,h.rd.frame hb,h.k,h.look.frame hb,h.e.frame hb,h.fs,h.cs⟩
theorem EvH.env {x:Ex} {s:Value} {E:EvD} {w:World} (h:EvH x s E w):Calls Tryz.prog 28 #[.agg #[.slice E.af E.F.length E.cf,.slice E.ac E.C.length E.cc]] w fun e w' => e = .returned (.int .i64 (envErr E.F E.C))∧Below w.heap.size w w' :=
 checkEnv_any E.F E.C E.af E.ac E.cf E.cc w h.e.nf h.e.nc h.e.f h.e.c h.fs h.cs
def EvW (w W:World) (x:Ex) (ad:Option Addr) (cap:Nat) (E:EvD):Prop :=
 W.cell? ⟨w.heap.size,0,none⟩=some (.int .u8 x.k)∧W.cell? ⟨w.heap.size,1,none⟩=some (.string x.ra)∧W.cell? ⟨w.heap.size,2,none⟩=some (.string x.nm)∧W.cell? ⟨w.heap.size,3,none⟩=some (.int .i64 x.d)∧W.cell? ⟨w.heap.size,4,none⟩=some (.slice ad x.sub.length cap) ∧
  W.cell? ⟨w.heap.size+1,0,none⟩=some (.slice E.af E.F.length E.cf)∧W.cell? ⟨w.heap.size+1,1,none⟩=some (.slice E.ac E.C.length E.cc)
theorem ev_world (w:World) (x:Ex) (ad:Option Addr) (cap:Nat) (E:EvD):∃ W,(w.alloc (.cells #[.int .u8 x.k,.string x.ra,.string x.nm,.int .i64 x.d,.slice ad x.sub.length cap] 47)).alloc (.cells #[.slice E.af E.F.length E.cf,.slice E.ac E.C.length E.cc] 32)=W∧Below w.heap.size w W∧w.heap.size+2≤W.heap.size∧EvW w W x ad cap E :=
 ⟨_,rfl,below_a2 _ _ _,by simp,by go_simp,by go_simp,by go_simp,by go_simp,by go_simp,by go_simp,by go_simp⟩
theorem EvW.keep {w W W2:World} {x:Ex} {ad:Option Addr} {cap:Nat} {E:EvD} (h:EvW w W x ad cap E) (hb:Below W.heap.size W W2):EvW w W2 x ad cap E:=by
 have k:∀ {p u},W.cell? p=some u→W2.cell? p=some u:=fun {p u} hu => by rw [hb.cell (p:=p) (World.block_lt_of_cell? W _ hu)];exact hu
 obtain ⟨a,b,c,d,e,f,g⟩:=h
 exact ⟨k a,k b,k c,k d,k e,k f,k g⟩
set_option maxHeartbeats 4000000 in
set_option maxRecDepth 100000 in
theorem begin_any (x:Ex) (s:Value) (want:Nat) (day:Int) (E:EvD) (w:World) (h:EvH x s E w) :
  Calls Tryz.prog 157 #[x.val s,.int .u8 (want:Int),.int .i64 day,E.val] w fun e w' => ∃ S,e = .returned (.pointer (some ⟨S,0,none⟩))∧Stt w w' S E day (begE x want day E.F E.C):=by
 obtain ⟨ad,cap,rfl⟩:=h.rd.len
 obtain ⟨W0,hW0,hb0,hz0,hv0⟩:=ev_world w x ad cap E
 have H:=Lib.hid (fun W (hb:Below w.heap.size w W) => h.frame hb)
 have H1:=Lib.hid fun W (hb:Below w.heap.size w W) => ochk_any x _ W (by have:=h.bulk;omega) (H.out W hb).rd h.k (H.out W hb).look
 have H2:=Lib.hid fun W (hb:Below w.heap.size w W) => sorted_any x.bulk x _ W (Nat.le_refl _) (by have:=h.bulk;omega) (H.out W hb).rd h.k (H.out W hb).look
 obtain ⟨p0,p1,p2,p3,p4,p5,p6⟩:=hv0
 have HV:=Lib.hid (fun W2 (hb:Below W0.heap.size W0 W2) => EvW.keep ⟨p0,p1,p2,p3,p4,p5,p6⟩ hb)
 clear h
 unfold Ex.val EvD.val
 go_enter Tryz.func157,Tryz.ntmps157
 go_upto_region 1 with (fail)
 clear hW0
 go_region_held3 (fun w' => w'.cell? ⟨w.heap.size,0,none⟩=some (.int .u8 x.k)∧w'.cell? ⟨w.heap.size,1,none⟩=some (.string x.ra)∧w'.cell? ⟨w.heap.size,2,none⟩=some (.string x.nm)∧w'.cell? ⟨w.heap.size,3,none⟩=some (.int .i64 x.d)∧w'.cell? ⟨w.heap.size,4,none⟩=some (.slice ad x.sub.length cap)∧w'.cell? ⟨w.heap.size+1,0,none⟩=some (.slice E.af E.F.length E.cf)∧w'.cell? ⟨w.heap.size+1,1,none⟩=some (.slice E.ac E.C.length E.cc))
  (first | assumption | exact ⟨by assumption,by assumption,by assumption,by assumption,by assumption,by assumption,by assumption⟩ | go_keep)
  (first | (go_at_call 111;refine (H1.out _ (below_drewN hb0 1)).mono ?_;rintro e w1 ⟨rfl,hb1⟩;obtain ⟨p0,p1,p2,p3,p4,p5,p6⟩:=HV.out w1 ((below_drewN (Below.refl _ _) 1).trans hb1)))
 have hz1:W0.heap.size≤w1.heap.size:=hb1.size
 have hs1:Stt w (w1.alloc (.cells #[.slice E.af E.F.length E.cf,.slice E.ac E.C.length E.cc,.int .i64 day,.int .i64 x.err] 225)) w1.heap.size E day x.err :=
  ⟨(hb0.trans (((below_drewN (Below.refl _ _) 1).trans hb1).mono hb0.size)).trans ((below_a1 w1 _).mono (by omega)),by omega,BoxN.new _ _ _⟩
 have HV1:=Lib.hid (fun W2 (hb:Below w1.heap.size w1 W2) => HV.out W2 (((below_drewN (Below.refl _ _) 1).trans hb1).trans (hb.mono hz1)))
 obtain ⟨W1,hW1⟩:∃ W,w1.alloc (.cells #[.slice E.af E.F.length E.cf,.slice E.ac E.C.length E.cc,.int .i64 day,.int .i64 x.err] 225)=W:=⟨_,rfl⟩
 have hb2:Below w1.heap.size w1 W1:=by rw [← hW1];exact below_a1 _ _
 rw [hW1] at hs1 ⊢
 clear p0 p1 p2 p3 p4 p5 p6
 obtain ⟨p0,p1,p2,p3,p4,p5,p6⟩:=HV1.out W1 hb2
 have HV2:=Lib.hid (fun W2 (hb:Below W1.heap.size W1 W2) => HV1.out W2 (hb2.trans (hb.mono hb2.size)))
 generalize w1.heap.size=S at *
 clear hW1 hb1 hb0 HV HV1 H1 hb2 hz0 hz1
 have q3:=hs1.cells.2.2.2
 have HF:Hid (∀ W er,Stt w W S E day er→er=begE x want day E.F E.C→∃ S',Ending.returned (.pointer (some ⟨S,0,none⟩)) = .returned (.pointer (some ⟨S',0,none⟩))∧Stt w W S' E day (begE x want day E.F E.C)) :=
  Lib.hid fun W er h1 h2 => ⟨S,rfl,by rw [← h2];exact h1⟩
 by_cases he:x.err=0
 ·have HS:=Lib.hid (H2.out W1 hs1.b)
  have te:(x.err == 0)=true:=by rw [he];rfl
  have hlt:=hs1.lt
  by_cases hso:x.sort=want
  ·have tso:(((x.sort:Nat):Int) != (want:Int))=false:=by rw [hso];simp
   have HB:Hid (begE x want day E.F E.C=if envErr E.F E.C ≠ 0 then envErr E.F E.C else if isDay day=true then 0 else 2):=by
    show _=_
    rw [begE,if_neg (fun h => h he),if_neg (fun h => h hso)]
   have Hs1:=Lib.hid hs1
   have He:=Lib.hid he
   clear hs1 H2 hso he
   go_wp2_with fail
   refine HS.out.mono ?_
   rintro e w2 ⟨rfl,hb2⟩
   have hs2:=Hs1.out.below hb2
   rw [He.out] at hs2
   clear p0 p1 p2 p3 p4 p5 p6 q3
   obtain ⟨p0,p1,p2,p3,p4,p5,p6⟩:=HV2.out w2 hb2
   have q3:=hs2.cells.2.2.2
   have HE:=Lib.hid ((H.out w2 hs2.b).env)
   have Hs2:=Lib.hid hs2
   have hlt2:=hs2.lt
   clear HV2 Hs1 hb2 HS H hs2 te He hlt
   go_wp2_with fail
   refine HE.out.mono ?_
   rintro e w3 ⟨rfl,hb3⟩
   have hs3:=Hs2.out.below hb3
   have hs4:=hs3.set (envErr E.F E.C)
   have f3:=hs3.x.frozen 3
   have q3:=hs3.cells.2.2.2
   have q4:=hs4.cells.2.2.2
   have f4:=hs4.x.frozen 3
   have HD:=Lib.hid (fun W => within_any day W)
   have Hs4:=Lib.hid hs4
   clear hb3 hs3 hs4 Hs2 HE p0 p1 p2 p3 p4 p5 p6
   by_cases hz:envErr E.F E.C=0
   ·have tz:(envErr E.F E.C == 0)=true:=by rw [hz];rfl
    have HB2:Hid (begE x want day E.F E.C=if isDay day=true then 0 else 2):=by show _=_;rw [HB.out,if_neg (fun h => h hz)]
    have Hz:=Lib.hid hz
    clear hz HB
    cases hd:isDay day with
    | true =>
     rw [hd] at HD HB2
     clear hd
     go_wp2_with fail
     refine (HD.out _).mono ?_
     rintro e w5 ⟨rfl,rfl⟩
     have HG:=Lib.hid (HF.out _ _ Hs4.out (by rw [HB2.out,Hz.out];rfl))
     clear HF HB2 Hs4 Hz
     go_wp2
     go_ret
     exact HG.out
    | false =>
     rw [hd] at HD HB2
     clear hd
     go_wp2_with fail
     refine (HD.out _).mono ?_
     rintro e w5 ⟨rfl,rfl⟩
     have HG:=Lib.hid (HF.out _ _ (Hs4.out.set 2) (by rw [HB2.out];rfl))
     clear HF HB2 Hs4 Hz
     go_wp2
     go_ret
     exact HG.out
   ·have tz:(envErr E.F E.C == 0)=false:=by rw [beq_eq_false_iff_ne];exact hz
    have HG:=Lib.hid (HF.out _ _ Hs4.out (by rw [HB.out,if_pos hz]))
    clear HF HB Hs4 hz
    go_wp2
    go_ret
    exact HG.out
  ·have tso:(((x.sort:Nat):Int) != (want:Int))=true:=by rw [bne_iff_ne];omega
   have HB:Hid (begE x want day E.F E.C=32):=by
    show _=_
    rw [begE,if_neg (fun h => h he),if_pos hso]
   have Hs1:=Lib.hid hs1
   clear hs1 H2 hso he
   go_wp2_with fail
   refine HS.out.mono ?_
   rintro e w2 ⟨rfl,hb2⟩
   have hs2:=Hs1.out.below hb2
   have q3:=hs2.cells.2.2.2
   have f3:=hs2.x.frozen 3
   have HG:=Lib.hid (HF.out _ _ (hs2.set 32) HB.out.symm)
   have hlt2:=hs2.lt
   clear HV2 Hs1 hb2 HS H hs2 HF HB te p0 p1 p2 p3 p4 p5 p6
   go_wp2
   go_ret
   exact HG.out
 ·have te:(x.err == 0)=false:=by rw [beq_eq_false_iff_ne];exact he
  have HG:=Lib.hid (HF.out _ _ hs1 (by rw [begE,if_pos he]))
  clear HF hs1 H H2 he HV2
  go_wp2
  go_ret
  exact HG.out
end Go.Proofs.YthdeijdimfjceaaGreatDoor

namespace Go.Proofs.YthdeijdimfjceaaGreatDoor
open Go.RowKit
theorem begE_zero {x:Ex} {want:Nat} {day:Int} {F:List Fx} {C:List Ch} (h:begE x want day F C=0):x.err=0∧x.sort=want∧envErr F C=0:=by
 unfold begE at h
 split at h
 ·next h1 => exact absurd h h1
 ·next h1 =>
  split at h
  ·cases h
  ·next h2 =>
   split at h
   ·next h3 => exact absurd h h3
   ·next h3 => exact ⟨Decidable.not_not.1 h1,Decidable.not_not.1 h2,Decidable.not_not.1 h3⟩
theorem env_ok {F:List Fx} {C:List Ch} (h:envErr F C=0):F.any fxBad=false∧C.any chBad=false:=by
 unfold envErr at h
 split at h
 ·cases h
 ·split at h
  ·cases h
  ·next h2 =>
   cases hF:F.any fxBad with
   | true => exact absurd (by rw [hF];rfl) h2
   | false =>
    cases hC:C.any chBad with
    | true => exact absurd (by rw [hC];simp) h2
    | false => exact ⟨rfl,rfl⟩
theorem env_rat {F:List Fx} {C:List Ch} (h:envErr F C=0):∀ f ∈ F,ratErr f.vl=0:=fun f hf => by
 have h1:=List.any_eq_false.1 (env_ok h).1 f hf
 simp [fxBad] at h1
 exact h1.2.2
theorem env_vl {F:List Fx} {C:List Ch} (h:envErr F C=0):∀ f ∈ F,f.vl.size≤1000000:=fun f hf => Nat.le_trans (rat_size (env_rat h f hf)).1 (by decide)
set_option maxHeartbeats 4000000 in
set_option maxRecDepth 100000 in
theorem ovalue_any (x:Ex) (s:Value) (day:Int) (E:EvD) (w:World) (h:EvH x s E w) (hO:LookO w) :
  Calls Tryz.prog 135 #[x.val s,.int .i64 day,E.val] w fun e w' => e = .returned (.tuple #[.string (valR x day E.F E.C).2,.int .i64 (valR x day E.F E.C).1])∧Below w.heap.size w w':=by
 obtain ⟨ad,cap,rfl⟩:=h.rd.len
 obtain ⟨W0,hW0,hb0,hz0,hv0⟩:=ev_world w x ad cap E
 have HB:Hid (Calls Tryz.prog 157 #[.agg #[.int .u8 x.k,.string x.ra,.string x.nm,.int .i64 x.d,.slice ad x.sub.length cap],.int .u8 1,.int .i64 day,.agg #[.slice E.af E.F.length E.cf,.slice E.ac E.C.length E.cc]] W0 fun e w' => ∃ S,e = .returned (.pointer (some ⟨S,0,none⟩))∧Stt W0 w' S E day (begE x 1 day E.F E.C)) :=
  begin_any x _ 1 day E W0 (h.frame hb0)
 have HV:Hid (∀ S W er,Stt W0 W S E day er→er=begE x 1 day E.F E.C→Calls Tryz.prog 159 #[.pointer (some ⟨S,0,none⟩),.agg #[.int .u8 x.k,.string x.ra,.string x.nm,.int .i64 x.d,.slice ad x.sub.length cap]] W (ValP W0 W S E day (if er=0 then x.value E.F day else (er,ByteArray.empty)))):=by
  intro S W er hs he
  by_cases h0:er=0
  ·have hb:=he.symm.trans h0
   have h1:=begE_zero hb
   exact (eval_any W0 S E day (h.frame hb0).e (env_vl h1.2.2) (hO.frame hb0) x.bulk x (Nat.le_refl _)).1 h1.2.1 W er _ hs (h.frame hb0).rd h.k
  ·rw [if_neg h0]
   exact value_err x.k x.ra x.nm x.d _ W0 W S E day er hs h0
 have HW:=Lib.hid (fun W2 (hb:Below W0.heap.size W0 W2) => And.intro (hv0.keep hb) (hb0.trans (hb.mono hb0.size)))
 obtain ⟨p0,p1,p2,p3,p4,p5,p6⟩:=hv0
 obtain ⟨RB,hRB⟩:∃ R,R=begE x 1 day E.F E.C:=⟨_,rfl⟩
 have HR:Hid (valR x day E.F E.C=if RB ≠ 0 then (RB,ByteArray.empty) else cleanR ByteArray.empty (x.value E.F day)):=by show _=_;rw [hRB];rfl
 rw [← hRB] at HB
 have HV1:Hid (∀ S W,Stt W0 W S E day RB→Calls _ _ _ _ (ValP W0 W S E day (if RB=0 then x.value E.F day else (RB,ByteArray.empty)))):=Lib.hid fun S W hs => HV.out S W RB hs hRB
 clear h hO hb0 HV hRB
 generalize x.value E.F day=R at HR HV1
 unfold Ex.val EvD.val
 go_enter Tryz.func135,Tryz.ntmps135
 go_upto_region 1 with (fail)
 clear hW0
 go_wp2_with fail
 refine HB.out.mono ?_
 rintro e w1 ⟨S,rfl,hs1⟩
 have hlt:=hs1.lt
 have hb1:=hs1.b
 have hC:=Lib.hid (HV1.out S w1 hs1)
 clear p0 p1 p2 p3 p4 p5 p6 HB HV1
 obtain ⟨⟨p0,p1,p2,p3,p4,p5,p6⟩,hbw⟩:=HW.out w1 hb1
 clear hs1 hb1
 go_wp2_with fail
 refine hC.out.mono ?_
 rintro e w2 ⟨t,rfl,_,v1,hs2,hg2⟩
 have q3:=hs2.cells.2.2.2
 have HBz:=Lib.hid (HW.out w2 hs2.b).2
 obtain ⟨Z,hZ⟩:∃ Z,Z=(if RB=0 then R else (RB,ByteArray.empty)):=⟨_,rfl⟩
 rw [← hZ] at v1 q3
 have HX:Hid (valR x day E.F E.C=cleanR ByteArray.empty Z):=by
  show _=_
  rw [HR.out,hZ]
  by_cases h:RB=0
  ·rw [if_neg (fun k => k h),if_pos h]
  ·rw [if_pos h,if_neg h,cleanR,if_pos h]
 clear HR hC hs2 HW p0 p1 p2 p3 p4 p5 p6 hbw hZ hg2
 by_cases h0:Z.1=0
 ·have tz:(Z.1 != 0)=false:=by rw [h0];rfl
  have HX2:Hid (valR x day E.F E.C=(0,t)):=by
   show _=_
   rw [HX.out,cleanR,if_neg (fun k => k h0),v1 h0]
   exact Prod.ext h0 rfl
  clear HX v1 h0
  go_wp2
  go_ret2
  exact ⟨by rw [HX2.out];rfl,HBz.out⟩
 ·have tz:(Z.1 != 0)=true:=by rw [bne_iff_ne];exact h0
  have HX2:Hid (valR x day E.F E.C=(Z.1,ByteArray.empty)):=by
   show _=_
   rw [HX.out,cleanR,if_pos h0]
  clear HX v1 h0
  go_wp2_with fail
  go_quiet (fail)
  go_wp2
  go_ret2
  exact ⟨by rw [HX2.out];rfl,below_drewN HBz.out _⟩
set_option maxHeartbeats 4000000 in
set_option maxRecDepth 100000 in
theorem oholds_any (x:Ex) (s:Value) (day:Int) (E:EvD) (w:World) (h:EvH x s E w) (hO:LookO w) :
  Calls Tryz.prog 132 #[x.val s,.int .i64 day,E.val] w fun e w' => e = .returned (.tuple #[.bool (holdR x day E.F E.C).2,.int .i64 (holdR x day E.F E.C).1])∧Below w.heap.size w w':=by
 obtain ⟨ad,cap,rfl⟩:=h.rd.len
 obtain ⟨W0,hW0,hb0,hz0,hv0⟩:=ev_world w x ad cap E
 have HB:Hid (Calls Tryz.prog 157 #[.agg #[.int .u8 x.k,.string x.ra,.string x.nm,.int .i64 x.d,.slice ad x.sub.length cap],.int .u8 2,.int .i64 day,.agg #[.slice E.af E.F.length E.cf,.slice E.ac E.C.length E.cc]] W0 fun e w' => ∃ S,e = .returned (.pointer (some ⟨S,0,none⟩))∧Stt W0 w' S E day (begE x 2 day E.F E.C)) :=
  begin_any x _ 2 day E W0 (h.frame hb0)
 have HV:Hid (∀ S W er,Stt W0 W S E day er→er=begE x 2 day E.F E.C→Calls Tryz.prog 158 #[.pointer (some ⟨S,0,none⟩),.agg #[.int .u8 x.k,.string x.ra,.string x.nm,.int .i64 x.d,.slice ad x.sub.length cap]] W (HolP W0 W S E day (if er=0 then x.hold E.F day else (er,false)))):=by
  intro S W er hs he
  by_cases h0:er=0
  ·have hb:=he.symm.trans h0
   have h1:=begE_zero hb
   exact (eval_any W0 S E day (h.frame hb0).e (env_vl h1.2.2) (hO.frame hb0) x.bulk x (Nat.le_refl _)).2 h1.2.1 W er _ hs (h.frame hb0).rd h.k
  ·rw [if_neg h0]
   exact holds_err x.k x.ra x.nm x.d _ W0 W S E day er hs h0
 have HW:=Lib.hid (fun W2 (hb:Below W0.heap.size W0 W2) => And.intro (hv0.keep hb) (hb0.trans (hb.mono hb0.size)))
 obtain ⟨p0,p1,p2,p3,p4,p5,p6⟩:=hv0
 obtain ⟨RB,hRB⟩:∃ R,R=begE x 2 day E.F E.C:=⟨_,rfl⟩
 have HR:Hid (holdR x day E.F E.C=if RB ≠ 0 then (RB,false) else cleanR false (x.hold E.F day)):=by show _=_;rw [hRB];rfl
 rw [← hRB] at HB
 have HV1:Hid (∀ S W,Stt W0 W S E day RB→Calls _ _ _ _ (HolP W0 W S E day (if RB=0 then x.hold E.F day else (RB,false)))):=Lib.hid fun S W hs => HV.out S W RB hs hRB
 clear h hO hb0 HV hRB
 generalize x.hold E.F day=R at HR HV1
 unfold Ex.val EvD.val
 go_enter Tryz.func132,Tryz.ntmps132
 go_upto_region 1 with (fail)
 clear hW0
 go_wp2_with fail
 refine HB.out.mono ?_
 rintro e w1 ⟨S,rfl,hs1⟩
 have hlt:=hs1.lt
 have hb1:=hs1.b
 have hC:=Lib.hid (HV1.out S w1 hs1)
 clear p0 p1 p2 p3 p4 p5 p6 HB HV1
 obtain ⟨⟨p0,p1,p2,p3,p4,p5,p6⟩,hbw⟩:=HW.out w1 hb1
 clear hs1 hb1
 go_wp2_with fail
 refine hC.out.mono ?_
 rintro e w2 ⟨t,rfl,v1,v2,hs2,hg2⟩
 have q3:=hs2.cells.2.2.2
 have HBz:=Lib.hid (HW.out w2 hs2.b).2
 obtain ⟨Z,hZ⟩:∃ Z,Z=(if RB=0 then R else (RB,false)):=⟨_,rfl⟩
 rw [← hZ] at v1 q3 v2
 have HX:Hid (holdR x day E.F E.C=cleanR false Z):=by
  show _=_
  rw [HR.out,hZ]
  by_cases h:RB=0
  ·rw [if_neg (fun k => k h),if_pos h]
  ·rw [if_pos h,if_neg h,cleanR,if_pos h]
 clear HR hC hs2 HW p0 p1 p2 p3 p4 p5 p6 hbw hZ hg2
 by_cases h0:Z.1=0
 ·have tz:(Z.1 != 0)=false:=by rw [h0];rfl
  have HX2:Hid (holdR x day E.F E.C=(0,t)):=by
   show _=_
   rw [HX.out,cleanR,if_neg (fun k => k h0),v1 h0]
   exact Prod.ext h0 rfl
  clear HX v1 h0 v2
  go_wp2
  go_ret2
  exact ⟨by rw [HX2.out];rfl,HBz.out⟩
 ·have tz:(Z.1 != 0)=true:=by rw [bne_iff_ne];exact h0
  have HX2:Hid (holdR x day E.F E.C=(Z.1,false)):=by
   show _=_
   rw [HX.out,cleanR,if_pos h0]
  clear HX v1 h0 v2
  go_wp2_with fail
  go_quiet (fail)
  go_wp2
  go_ret2
  exact ⟨by rw [HX2.out];rfl,below_drewN HBz.out _⟩
end Go.Proofs.YthdeijdimfjceaaGreatDoor

namespace Go.Proofs.YthdeijdimfjceaaGreatDoor
open Go.RowKit
structure Fl where
 d:Int
 fr:ByteArray
 rc:ByteArray
 cy:ByteArray
 am:ByteArray
def Fl.cells (f:Fl):List Value:=[.int .i64 f.d,.string f.fr,.string f.rc,.string f.cy,.string f.am]
def Fl.small (f:Fl):Prop:=f.fr.size≤1100000∧f.rc.size≤1100000∧f.cy.size≤1100000∧f.am.size≤1100000
theorem Rd.fl {w:World} {ad:Option Addr} {l:List Fl} (h:Rd Fl.cells 5 w ad l) {j:Nat} {f:Fl} (hj:l[j]? = some f) :
  ∃ b off,ad=some ⟨b,off,none⟩∧w.cell? ⟨b,off+j * 5,none⟩=some (.int .i64 f.d)∧w.cell? ⟨b,off+j * 5+1,none⟩=some (.string f.fr)∧w.cell? ⟨b,off+j * 5+2,none⟩=some (.string f.rc)∧w.cell? ⟨b,off+j * 5+3,none⟩=some (.string f.cy)∧w.cell? ⟨b,off+j * 5+4,none⟩=some (.string f.am):=by
 obtain ⟨b,off,rfl,h3⟩:=h j f hj
 exact ⟨b,off,rfl,h3 0 _ rfl,h3 1 _ rfl,h3 2 _ rfl,h3 3 _ rfl,h3 4 _ rfl⟩
end Go.Proofs.YthdeijdimfjceaaGreatDoor

namespace Go.Proofs.YthdeijdimfjceaaGreatDoor
open Go.RowKit
def paidS (d:Int) (fr rc cy am:ByteArray):List Fl :=
 if bl am=[48] then [] else if isNeg (bl am)=true then [⟨d,rc,fr,cy,mkB ((bl am).drop 1)⟩] else [⟨d,fr,rc,cy,am⟩]
def firstR (is:Int→Int × Bool) (day fin:Int):List Int→Int × Int
 | [] => (0,fin)
 | d :: l => if fin≤d then (0,fin) else if day≤d then andR (is d) 0 (fun b => if b=true then (0,d) else firstR is day fin l) else firstR is day fin l
def mulAll (k:ByteArray):List Fl→Int × List Fl
 | [] => (0,[])
 | f :: l => andR (mulE f.am k,mkB (mulS f.am k)) [] fun a => andR (mulAll k l) [] fun r => (0,paidS f.d f.fr f.rc f.cy a ++ r)
def Con.flows (F:List Fx) (C:List Ch):Con→Int→Int→Int × List Fl
 | .mk k fr rc nm ex d ds l,day,fin =>
  if fin≤day then (0,[]) else
  match l with
  | [] => if k=2 then andR (ex.value F day) [] fun a => (0,paidS day fr rc nm a) else (0,[])
  | [x] =>
   if k=4 then andR (ex.value F day) [] fun a => andR (Con.flows F C x day fin) [] fun l => mulAll a l
   else if k=6 then (if day≤d then Con.flows F C x d fin else (0,[]))
   else if k=8 then Con.flows F C x (firstR (fun e => (0,chosenB C fr nm e)) day fin ds).2 fin
   else if k=9 then andR (firstR (fun e => ex.hold F e) day fin ds) [] fun q => Con.flows F C x day q
   else andR (firstR (fun e => ex.hold F e) day fin ds) [] fun q => Con.flows F C x q fin
  | [x,y] =>
   if k=3 then andR (Con.flows F C x day fin) [] fun a => andR (Con.flows F C y day fin) [] fun b => (0,a ++ b)
   else if k=5 then andR (ex.hold F day) [] fun b => if b=true then Con.flows F C x day fin else Con.flows F C y day fin
   else if chosenB C fr nm day=true then Con.flows F C x day fin else Con.flows F C y day fin
  | _ => (0,[])
def insFl (x:Fl):List Fl→List Fl
 | [] => [x]
 | y :: l => if x.d≤y.d then x :: y :: l else y :: insFl x l
def srtFl:List Fl→List Fl
 | [] => []
 | x :: l => insFl x (srtFl l)
def mrgFl:List Fl→List Fl→List Fl
 | [],b => b
 | a,[] => a
 | x :: a,y :: b => if y.d < x.d then y :: mrgFl (x :: a) b else x :: mrgFl a (y :: b)
 termination_by a b => a.length+b.length
theorem mrgFl_nil (a:List Fl):mrgFl a []=a:=by cases a <;> simp [mrgFl]
theorem nil_mrgFl (b:List Fl):mrgFl [] b=b:=by cases b <;> simp [mrgFl]
theorem mrgFl_cons (x y:Fl) (a b:List Fl):mrgFl (x :: a) (y :: b)=if y.d < x.d then y :: mrgFl (x :: a) b else x :: mrgFl a (y :: b):=by rw [mrgFl]
def SrtFl (l:List Fl):Prop:=l.Pairwise fun a b => a.d≤b.d
theorem insFl_mem (x z:Fl):∀ l:List Fl,z ∈ insFl x l ↔ z=x∨z ∈ l
 | [] => by simp [insFl]
 | y :: l => by
  unfold insFl
  split
  ·simp
  ·rw [List.mem_cons,insFl_mem x z l,List.mem_cons]
   constructor
   ·rintro (h | h | h) <;> simp [h]
   ·rintro (h | h | h) <;> simp [h]
theorem srtFl_mem (z:Fl):∀ l:List Fl,z ∈ srtFl l ↔ z ∈ l
 | [] => by simp [srtFl]
 | x :: l => by rw [srtFl,insFl_mem,srtFl_mem z l,List.mem_cons]
theorem insFl_len (x:Fl):∀ l:List Fl,(insFl x l).length=l.length+1
 | [] => rfl
 | y :: l => by
  unfold insFl
  split
  ·rfl
  ·rw [List.length_cons,insFl_len x l,List.length_cons]
theorem srtFl_len:∀ l:List Fl,(srtFl l).length=l.length
 | [] => rfl
 | x :: l => by rw [srtFl,insFl_len,srtFl_len l,List.length_cons]
theorem insFl_srt {x:Fl}:∀ {l:List Fl},SrtFl l→SrtFl (insFl x l)
 | [],_ => by simp [insFl,SrtFl]
 | y :: l,h => by
  have h2:=List.pairwise_cons.1 h
  unfold insFl
  split
  ·next hxy =>
   exact List.pairwise_cons.2 ⟨fun z hz => by
    rcases List.mem_cons.1 hz with rfl | hz
    ·exact hxy
    ·exact Int.le_trans hxy (h2.1 z hz),h⟩
  ·next hxy =>
   refine List.pairwise_cons.2 ⟨fun z hz => ?_,insFl_srt h2.2⟩
   rcases (insFl_mem x z l).1 hz with rfl | hz
   ·omega
   ·exact h2.1 z hz
theorem srtFl_srt:∀ l:List Fl,SrtFl (srtFl l)
 | [] => List.Pairwise.nil
 | _ :: l => insFl_srt (srtFl_srt l)
theorem mrgFl_ins (x:Fl):∀ (a b:List Fl),mrgFl (insFl x a) b=insFl x (mrgFl a b)
 | [],[] => by simp [insFl,mrgFl]
 | [],y :: b => by
  rw [nil_mrgFl]
  have ih:=mrgFl_ins x [] b
  rw [nil_mrgFl] at ih
  show mrgFl (x :: []) (y :: b)=_
  rw [mrgFl_cons]
  unfold insFl
  by_cases h:y.d < x.d
  ·rw [if_pos h,if_neg (by omega)]
   exact congrArg (y :: ·) ih
  ·rw [if_neg h,if_pos (by omega),nil_mrgFl]
 | z :: a,[] => by rw [mrgFl_nil,mrgFl_nil]
 | z :: a,y :: b => by
  rw [mrgFl_cons z y]
  by_cases hxz:x.d≤z.d
  ·have e:insFl x (z :: a)=x :: z :: a:=by rw [insFl,if_pos hxz]
   rw [e,mrgFl_cons]
   by_cases hyx:y.d < x.d
   ·have hyz:y.d < z.d:=by omega
    rw [if_pos hyx,if_pos hyz]
    have ih:=mrgFl_ins x (z :: a) b
    rw [e] at ih
    rw [ih]
    show _=insFl x (y :: mrgFl (z :: a) b)
    rw [insFl.eq_2,if_neg (by omega)]
   ·rw [if_neg hyx]
    by_cases hyz:y.d < z.d
    ·rw [if_pos hyz,insFl.eq_2,if_pos (by omega),mrgFl_cons,if_pos hyz]
    ·rw [if_neg hyz,insFl.eq_2,if_pos hxz,mrgFl_cons,if_neg hyz]
  ·have e:insFl x (z :: a)=z :: insFl x a:=by rw [insFl,if_neg hxz]
   rw [e,mrgFl_cons]
   by_cases hyz:y.d < z.d
   ·rw [if_pos hyz,if_pos hyz,insFl.eq_2,if_neg (by omega),← e,mrgFl_ins x (z :: a) b]
   ·rw [if_neg hyz,if_neg hyz,insFl.eq_2,if_neg hxz,mrgFl_ins x a (y :: b)]
 termination_by a b => a.length+b.length
theorem srtFl_append:∀ a b:List Fl,srtFl (a ++ b)=mrgFl (srtFl a) (srtFl b)
 | [],b => by rw [List.nil_append,srtFl,nil_mrgFl]
 | x :: a,b => by rw [List.cons_append,srtFl,srtFl_append a b,srtFl,mrgFl_ins]
theorem srtFl_one {l:List Fl} (h:l.length < 2):srtFl l=l:=by
 match l,h with
 | [],_ => rfl
 | [x],_ => rfl
theorem srtFl_half (l:List Fl) (n:Nat):srtFl l=mrgFl (srtFl (l.take n)) (srtFl (l.drop n)):=by
 rw [← srtFl_append,List.take_append_drop]
theorem mrgFl_len (a b:List Fl):(mrgFl a b).length=a.length+b.length:=by
 induction a,b using mrgFl.induct with
 | case1 b => simp [nil_mrgFl]
 | case2 a => simp [mrgFl_nil]
 | case3 x a y b h ih => rw [mrgFl_cons,if_pos h,List.length_cons,ih];simp;omega
 | case4 x a y b h ih => rw [mrgFl_cons,if_neg h,List.length_cons,ih];simp;omega
noncomputable def befR (c:Con) (day fin:Int) (F:List Fx) (C:List Ch):Int × List Fl :=
 if c.err ≠ 0 then (c.err,[]) else if envErr F C ≠ 0 then (envErr F C,[])
 else if day < 0∨99999 < day∨fin < 0∨100000 < fin then (2,[])
 else andR (c.flows F C day fin) [] fun l => (0,srtFl l)
end Go.Proofs.YthdeijdimfjceaaGreatDoor

namespace Go.Proofs.YthdeijdimfjceaaGreatDoor
open Go.RowKit
def stopC (er:Int):List PanicEntry:=[{ v:=.iface 190 (.agg #[.int .i64 er]),recovered:=false }]
def endR (v:Value) (er:Int):Ending:=if er=0 then .returned v else .panicked (stopC er)
theorem endR_ok (v:Value):endR v 0 = .returned v:=rfl
theorem endR_no {v:Value} {er:Int} (h:er ≠ 0):endR v er = .panicked (stopC er):=if_neg h
set_option maxRecDepth 100000 in
theorem mustR_any (t:ByteArray) (er:Int) (w:World):Calls Tryz.prog 134 #[.string t,.int .i64 er] w fun e w' => e=endR (.string t) er∧w=w':=by
 by_cases h:er=0
 ·subst h
  go_enter Tryz.func134,Tryz.ntmps134
  go_wp2
  go_ret
  exact ⟨rfl,rfl⟩
 ·have t1:(er != 0)=true:=by rw [bne_iff_ne];exact h
  rw [endR_no h]
  clear h
  go_enter Tryz.func134,Tryz.ntmps134
  go_wp2
  exact ⟨rfl,rfl,rfl⟩
set_option maxRecDepth 100000 in
theorem mustB_any (t:Bool) (er:Int) (w:World):Calls Tryz.prog 131 #[.bool t,.int .i64 er] w fun e w' => e=endR (.bool t) er∧w=w':=by
 by_cases h:er=0
 ·subst h
  go_enter Tryz.func131,Tryz.ntmps131
  go_wp2
  go_ret
  exact ⟨rfl,rfl⟩
 ·have t1:(er != 0)=true:=by rw [bne_iff_ne];exact h
  rw [endR_no h]
  clear h
  go_enter Tryz.func131,Tryz.ntmps131
  go_wp2
  exact ⟨rfl,rfl,rfl⟩
def OwnFl (w w':World) (l:List Fl) (v:Value):Prop:=(∃ ad cap,v = .slice ad l.length cap)∧w'.ownsRow w.heap.size 134 5 v l.length (l.flatMap Fl.cells)
theorem own_new (w:World) (f:Fl):OwnFl w (w.alloc (.cells #[.int .i64 f.d,.string f.fr,.string f.rc,.string f.cy,.string f.am] 134)) [f] (.slice (some ⟨w.heap.size,0,none⟩) 1 1) :=
 ⟨⟨_,_,rfl⟩,rfl,.inr ⟨w.heap.size,1,_,rfl,Nat.le_refl _,BoxN.new w [.int .i64 f.d,.string f.fr,.string f.rc,.string f.cy,.string f.am] 134,Nat.le_refl _,by decide,rfl,rfl⟩⟩
theorem own_nil (w w':World):OwnFl w w' [] (.slice none 0 0):=⟨⟨_,_,rfl⟩,rfl,.inl ⟨rfl,rfl⟩⟩
set_option maxHeartbeats 1000000 in
set_option maxRecDepth 100000 in
theorem paid_any (d:Int) (fr rc cy am:ByteArray) (hn:0 < am.size) (hm:am.size≤1000000) (w:World) :
  Calls Tryz.prog 137 #[.int .i64 d,.string fr,.string rc,.string cy,.string am] w fun e w' => ∃ v,e = .returned v∧OwnFl w w' (paidS d fr rc cy am) v∧Below w.heap.size w w':=by
 have hm0:(0:Int) < (am.size:Int):=by omega
 by_cases h0:bl am=[48]
 ·have t0:am.toList=[48]:=by rw [toList_bl];exact h0
  have HF:Hid (paidS d fr rc cy am=[]):=by show _=_;rw [paidS,if_pos h0]
  clear h0
  go_enter Tryz.func137,Tryz.ntmps137
  go_wp2
  go_ret
  exact ⟨_,rfl,by rw [HF.out];exact own_nil _ _,Below.refl _ _⟩
 ·have t0:(am.toList == [48])=false:=by rw [toList_bl,beq_eq_false_iff_ne];exact h0
  have HF:Hid (paidS d fr rc cy am=if isNeg (bl am)=true then [⟨d,rc,fr,cy,mkB ((bl am).drop 1)⟩] else [⟨d,fr,rc,cy,am⟩]):=by show _=_;rw [paidS,if_neg h0]
  have HX:Hid (am.extract 1 am.size=mkB ((bl am).drop 1)):=by
   show _=_
   apply bl_inj
   rw [bl_mkB,bl_extract]
   rw [List.take_of_length_le (by simp [bl_length])]
  have HN:Hid (isNeg (bl am)=((am[0].toNat:Int) == 45)):=by
   show _=_
   have e:(bl am).head? = some am[0]:=by
    show am.data.toList.head? = _
    rw [List.head?_eq_getElem?,List.getElem?_eq_getElem (show 0 < am.data.toList.length from hn)]
    rfl
   rw [isNeg,e,Bool.eq_iff_iff]
   simp
   constructor
   ·intro h;rw [h];rfl
   ·intro h;exact UInt8.toNat_inj.1 (by show _=45;omega)
  clear h0
  go_enter Tryz.func137,Tryz.ntmps137
  go_wp2
  ·go_ret
   rename_i h9
   rw [HF.out,if_pos (HN.out.trans h9),← HX.out]
   exact ⟨_,rfl,own_new w ⟨d,rc,fr,cy,am.extract 1 am.size⟩,below_a1 _ _⟩
  ·go_ret
   rename_i h9
   rw [HF.out,if_neg (by rw [HN.out,h9];simp)]
   exact ⟨_,rfl,own_new w ⟨d,fr,rc,cy,am⟩,below_a1 _ _⟩
end Go.Proofs.YthdeijdimfjceaaGreatDoor

namespace Go.Proofs.YthdeijdimfjceaaGreatDoor
open Go.RowKit
structure FlB (W:World) (B:Nat) (c:Con) (es dd ss:Value) (day fin:Int) (E:EvD):Prop where
 c:BoxN W B 51 (c.cells es dd ss)
 d:BoxN W (B+1) 3 [.int .i64 day]
 f:BoxN W (B+2) 3 [.int .i64 fin]
 v:BoxN W (B+3) 32 [.slice E.af E.F.length E.cf,.slice E.ac E.C.length E.cc]
theorem FlB.below {W W':World} {B:Nat} {c:Con} {es dd ss:Value} {day fin:Int} {E:EvD} (h:FlB W B c es dd ss day fin E) (hb:Below W.heap.size W W'):FlB W' B c es dd ss day fin E :=
 ⟨h.c.below hb h.c.lt,h.d.below hb h.d.lt,h.f.below hb h.f.lt,h.v.below hb h.v.lt⟩
structure FlH (c:Con) (es dd ss:Value) (E:EvD) (w:World):Prop where
 bulk:c.bulk≤1100000
 rd:RdN w c es dd ss
 ls:LookS w
 lo:LookO w
 e:E.Rd w
 fs:∀ f ∈ E.F,f.small
 cs:∀ c ∈ E.C,c.small
 ok:envErr E.F E.C=0
 wf:c.formed=true
section
variable {c:Con} {es dd ss:Value} {E:EvD} {w w':World}
theorem FlH.frame (h:FlH c es dd ss E w) (hb:Below w.heap.size w w'):FlH c es dd ss E w' :=
 ⟨h.bulk,h.rd.frame hb,h.ls.frame hb,h.lo.frame hb,h.e.frame hb,h.fs,h.cs,h.ok,h.wf⟩
theorem FlH.ev (h:FlH c es dd ss E w):EvH c.ex es E w:=⟨by have:=c.bulk_eq;have:=h.bulk;omega,h.rd.1,h.rd.2.2.2.2,h.ls,h.e,h.fs,h.cs⟩
end
theorem isA_is {x:Ex} {t:Nat} (h:x.isA t=true):x.err=0∧x.sort=t:=by
 unfold Ex.isA at h
 simp only [Bool.and_eq_true,decide_eq_true_eq] at h
 exact h
theorem begE_ok {x:Ex} {t:Nat} {day:Int} {F:List Fx} {C:List Ch} (h:x.isA t=true) (he:envErr F C=0) (hd:isDay day=true):begE x t day F C=0:=by
 obtain ⟨h1,h2⟩:=isA_is h
 rw [begE,if_neg (fun k => k h1),if_neg (fun k => k h2),if_neg (fun k => k he),if_pos hd]
theorem endR_clean (R:Int × ByteArray):endR (.string (cleanR ByteArray.empty R).2) (cleanR ByteArray.empty R).1=endR (.string R.2) R.1:=by
 unfold cleanR
 by_cases h:R.1=0
 ·rw [if_neg (fun k => k h)]
 ·rw [if_pos h]
  show endR _ R.1=_
  rw [endR_no h,endR_no h]
theorem endR_cleanB (R:Int × Bool):endR (.bool (cleanR false R).2) (cleanR false R).1=endR (.bool R.2) R.1:=by
 unfold cleanR
 by_cases h:R.1=0
 ·rw [if_neg (fun k => k h)]
 ·rw [if_pos h]
  show endR _ R.1=_
  rw [endR_no h,endR_no h]
theorem valR_ok {x:Ex} {day:Int} {F:List Fx} {C:List Ch} (h:begE x 1 day F C=0):valR x day F C=cleanR ByteArray.empty (x.value F day):=by rw [valR,if_neg (fun k => k h)]
theorem holdR_ok {x:Ex} {day:Int} {F:List Fx} {C:List Ch} (h:begE x 2 day F C=0):holdR x day F C=cleanR false (x.hold F day):=by rw [holdR,if_neg (fun k => k h)]
set_option maxHeartbeats 1000000 in
set_option maxRecDepth 100000 in
theorem chosenCl_any (d:Int) (c:Con) (es dd ss:Value) (day fin:Int) (E:EvD) (B:Nat) (w:World) (hb:FlB w B c es dd ss day fin E) (hE:E.Rd w) :
  Calls Tryz.prog 128 #[.int .i64 d,.pointer (some ⟨B+3,0,none⟩),.pointer (some ⟨B,0,none⟩)] w fun e w' => e = .returned (.bool (chosenB E.C c.fr c.nm d))∧Below w.heap.size w w':=by
 have q1:=hb.c.cell (j:=1) (u:=.string c.fr) rfl
 have q3:=hb.c.cell (j:=3) (u:=.string c.nm) rfl
 have v0:=hb.v.cell (j:=0) (u:=.slice E.af E.F.length E.cf) rfl
 have v1:=hb.v.cell (j:=1) (u:=.slice E.ac E.C.length E.cc) rfl
 have HC:=Lib.hid (ochosen_any E.C c.fr c.nm d E.ac E.cc (.slice E.af E.F.length E.cf) w hE.nc hE.c)
 clear hb hE
 go_enter Tryz.func128,Tryz.ntmps128
 go_wp2_with fail
 refine HC.out.mono ?_
 rintro e w1 ⟨rfl,hb1⟩
 have Hb1:=Lib.hid hb1
 clear hb1 HC
 go_wp2
 go_ret
 exact ⟨rfl,Hb1.out⟩
set_option maxHeartbeats 1000000 in
set_option maxRecDepth 100000 in
theorem valueCl_any (c:Con) (es dd ss:Value) (day fin:Int) (E:EvD) (B:Nat) (w:World) (hb:FlB w B c es dd ss day fin E) (h:FlH c es dd ss E w) (hk:c.ex.isA 1=true) (hd:isDay day=true) :
  Calls Tryz.prog 133 #[.pointer (some ⟨B,0,none⟩),.pointer (some ⟨B+1,0,none⟩),.pointer (some ⟨B+3,0,none⟩)] w fun e w' => e=endR (.string (c.ex.value E.F day).2) (c.ex.value E.F day).1∧Below w.heap.size w w':=by
 obtain ⟨ad,cap,rfl⟩:=h.rd.1.len
 have q4:=hb.c.cell (j:=4) (u:=.int .u8 c.ex.k) rfl
 have q5:=hb.c.cell (j:=5) (u:=.string c.ex.ra) rfl
 have q6:=hb.c.cell (j:=6) (u:=.string c.ex.nm) rfl
 have q7:=hb.c.cell (j:=7) (u:=.int .i64 c.ex.d) rfl
 have q8:=hb.c.cell (j:=8) (u:=.slice ad c.ex.sub.length cap) rfl
 have d0:=hb.d.cell (j:=0) (u:=.int .i64 day) rfl
 have v0:=hb.v.cell (j:=0) (u:=.slice E.af E.F.length E.cf) rfl
 have v1:=hb.v.cell (j:=1) (u:=.slice E.ac E.C.length E.cc) rfl
 have HC:Hid (Calls Tryz.prog 135 #[.agg #[.int .u8 c.ex.k,.string c.ex.ra,.string c.ex.nm,.int .i64 c.ex.d,.slice ad c.ex.sub.length cap],.int .i64 day,.agg #[.slice E.af E.F.length E.cf,.slice E.ac E.C.length E.cc]] w fun e w' => e = .returned (.tuple #[.string (valR c.ex day E.F E.C).2,.int .i64 (valR c.ex day E.F E.C).1])∧Below w.heap.size w w') :=
  ovalue_any c.ex _ day E w h.ev h.lo
 have HM:=Lib.hid (fun W => mustR_any (valR c.ex day E.F E.C).2 (valR c.ex day E.F E.C).1 W)
 rw [valR_ok (begE_ok hk h.ok hd),endR_clean] at HM
 rw [valR_ok (begE_ok hk h.ok hd)] at HC
 generalize (cleanR ByteArray.empty (c.ex.value E.F day)).1=Z1 at HC HM
 generalize (cleanR ByteArray.empty (c.ex.value E.F day)).2=Z2 at HC HM
 obtain ⟨R,hR⟩:∃ R,R=c.ex.value E.F day:=⟨_,rfl⟩
 rw [← hR] at HM ⊢
 clear hb h hk hd hR
 by_cases h0:R.1=0
 ·rw [h0,endR_ok] at HM ⊢
  clear h0
  go_enter Tryz.func133,Tryz.ntmps133
  go_wp2_with fail
  refine HC.out.mono ?_
  rintro e w1 ⟨rfl,hb1⟩
  have Hb1:=Lib.hid hb1
  clear hb1 HC q4 q5 q6 q7 q8 d0 v0 v1
  go_wp2_with fail
  refine (HM.out _).mono ?_
  rintro e w2 ⟨rfl,rfl⟩
  go_wp2
  go_ret
  exact ⟨rfl,Hb1.out⟩
 ·rw [endR_no h0] at HM ⊢
  clear h0
  go_enter Tryz.func133,Tryz.ntmps133
  go_wp2_with fail
  refine HC.out.mono ?_
  rintro e w1 ⟨rfl,hb1⟩
  have Hb1:=Lib.hid hb1
  clear hb1 HC q4 q5 q6 q7 q8 d0 v0 v1
  go_wp2_with fail
  refine (HM.out _).mono ?_
  rintro e w2 ⟨rfl,rfl⟩
  exact ⟨rfl,rfl,Hb1.out⟩
set_option maxHeartbeats 1000000 in
set_option maxRecDepth 100000 in
theorem holdsCl_any (d:Int) (c:Con) (es dd ss:Value) (day fin:Int) (E:EvD) (B:Nat) (w:World) (hb:FlB w B c es dd ss day fin E) (h:FlH c es dd ss E w) (hk:c.ex.isA 2=true) (hd:isDay d=true) :
  Calls Tryz.prog 130 #[.int .i64 d,.pointer (some ⟨B,0,none⟩),.pointer (some ⟨B+3,0,none⟩)] w fun e w' => e=endR (.bool (c.ex.hold E.F d).2) (c.ex.hold E.F d).1∧Below w.heap.size w w':=by
 obtain ⟨ad,cap,rfl⟩:=h.rd.1.len
 have q4:=hb.c.cell (j:=4) (u:=.int .u8 c.ex.k) rfl
 have q5:=hb.c.cell (j:=5) (u:=.string c.ex.ra) rfl
 have q6:=hb.c.cell (j:=6) (u:=.string c.ex.nm) rfl
 have q7:=hb.c.cell (j:=7) (u:=.int .i64 c.ex.d) rfl
 have q8:=hb.c.cell (j:=8) (u:=.slice ad c.ex.sub.length cap) rfl
 have v0:=hb.v.cell (j:=0) (u:=.slice E.af E.F.length E.cf) rfl
 have v1:=hb.v.cell (j:=1) (u:=.slice E.ac E.C.length E.cc) rfl
 have HC:Hid (Calls Tryz.prog 132 #[.agg #[.int .u8 c.ex.k,.string c.ex.ra,.string c.ex.nm,.int .i64 c.ex.d,.slice ad c.ex.sub.length cap],.int .i64 d,.agg #[.slice E.af E.F.length E.cf,.slice E.ac E.C.length E.cc]] w fun e w' => e = .returned (.tuple #[.bool (holdR c.ex d E.F E.C).2,.int .i64 (holdR c.ex d E.F E.C).1])∧Below w.heap.size w w') :=
  oholds_any c.ex _ d E w h.ev h.lo
 have HM:=Lib.hid (fun W => mustB_any (holdR c.ex d E.F E.C).2 (holdR c.ex d E.F E.C).1 W)
 rw [holdR_ok (begE_ok hk h.ok hd),endR_cleanB] at HM
 rw [holdR_ok (begE_ok hk h.ok hd)] at HC
 generalize (cleanR false (c.ex.hold E.F d)).1=Z1 at HC HM
 generalize (cleanR false (c.ex.hold E.F d)).2=Z2 at HC HM
 obtain ⟨R,hR⟩:∃ R,R=c.ex.hold E.F d:=⟨_,rfl⟩
 rw [← hR] at HM ⊢
 clear hb h hk hd hR
 by_cases h0:R.1=0
 ·rw [h0,endR_ok] at HM ⊢
  clear h0
  go_enter Tryz.func130,Tryz.ntmps130
  go_wp2_with fail
  refine HC.out.mono ?_
  rintro e w1 ⟨rfl,hb1⟩
  have Hb1:=Lib.hid hb1
  clear hb1 HC q4 q5 q6 q7 q8 v0 v1
  go_wp2_with fail
  refine (HM.out _).mono ?_
  rintro e w2 ⟨rfl,rfl⟩
  go_wp2
  go_ret
  exact ⟨rfl,Hb1.out⟩
 ·rw [endR_no h0] at HM ⊢
  clear h0
  go_enter Tryz.func130,Tryz.ntmps130
  go_wp2_with fail
  refine HC.out.mono ?_
  rintro e w1 ⟨rfl,hb1⟩
  have Hb1:=Lib.hid hb1
  clear hb1 HC q4 q5 q6 q7 q8 v0 v1
  go_wp2_with fail
  refine (HM.out _).mono ?_
  rintro e w2 ⟨rfl,rfl⟩
  exact ⟨rfl,rfl,Hb1.out⟩
theorem firstR_cons (is:Int→Int × Bool) (day fin d:Int) (l:List Int):firstR is day fin (d :: l)=if fin≤d then (0,fin) else if day≤d then andR (is d) 0 (fun b => if b=true then (0,d) else firstR is day fin l) else firstR is day fin l:=rfl
end Go.Proofs.YthdeijdimfjceaaGreatDoor

namespace Go.Proofs.YthdeijdimfjceaaGreatDoor
open Go.RowKit
theorem drop_getF {α:Type} {l:List α} {k:Nat} {x:α} (h:l[k]? = some x):l.drop k=x :: l.drop (k+1):=by
 obtain ⟨hk,rfl⟩:=List.getElem?_eq_some_iff.1 h
 exact List.drop_eq_getElem_cons hk
set_option maxHeartbeats 2000000 in
set_option maxRecDepth 100000 in
theorem firstC_any (c:Con) (es dd ss:Value) (day fin:Int) (is:Int→Int × Bool) (B:Nat) (w:World) (hr:RdN w c es dd ss) (hn:c.ds.length≤1100000)
  (HI:∀ d ∈ c.ds,∀ W,Below w.heap.size w W→Calls Tryz.prog 128 #[.int .i64 d,.pointer (some ⟨B+3,0,none⟩),.pointer (some ⟨B,0,none⟩)] W fun e w' => e=endR (.bool (is d).2) (is d).1∧Below W.heap.size W w') :
  Calls Tryz.prog 138 #[c.val es dd ss,.int .i64 day,.int .i64 fin,.func (.func 128) #[] #[.pointer (some ⟨B+3,0,none⟩),.pointer (some ⟨B,0,none⟩)]] w fun e w' => e=endR (.int .i64 (firstR is day fin c.ds).2) (firstR is day fin c.ds).1∧Below w.heap.size w w':=by
 obtain ⟨ad,cap,rfl,_,hd⟩:=hr.2.1
 have HD:=Lib.hid hd
 have hb0:=below_a1 w (.cells #[.int .u8 c.k,.string c.fr,.string c.rc,.string c.nm,.int .u8 c.ex.k,.string c.ex.ra,.string c.ex.nm,.int .i64 c.ex.d,es,.int .i64 c.d,.slice ad c.ds.length cap,ss] 51)
 have HC:=Lib.hid HI
 have HB0:=Lib.hid hb0
 obtain ⟨a1,n1,rfl⟩:=hr.1.len
 obtain ⟨a2,n2,rfl⟩:=hr.2.2.1.len
 clear hd HI hb0 hr
 unfold Con.val
 generalize hds:c.ds=ds at *
 obtain ⟨Z,hZ⟩:∃ Z,Z=firstR is day fin ds:=⟨_,rfl⟩
 rw [← hZ]
 have HZ:=Lib.hid hZ
 clear hZ hds
 go_enter Tryz.func138,Tryz.ntmps138
 go_wp2_with fail
 go_loopw [14] (fun i wr => ∃ (k:Nat),k≤ds.length∧i = .int .i64 (k:Int)∧Hid (Z=firstR is day fin (ds.drop k))∧Below w.heap.size w wr) (fun i _ => ds.length - (intOf i).toNat)
 case atStart => exact ⟨0,Nat.zero_le _,rfl,Lib.hid (by rw [List.drop_zero];exact HZ.out),HB0.out⟩
 case round =>
  obtain ⟨k,hk,rfl,HT,hbel⟩:=hrel
  clear HZ HB0
  by_cases hlt:k < ds.length
  ·obtain ⟨d,hd⟩:∃ d,ds[k]? = some d:=⟨_,List.getElem?_eq_getElem hlt⟩
   have hc:∃ b off,ad=some ⟨b,off,none⟩∧wr.cell? ⟨b,off+k,none⟩=some (.int .i64 d):=by
    obtain ⟨b,off,e,h⟩:=HD.out k d hd
    exact ⟨b,off,e,by rw [hbel.cell (p:=⟨b,off+k,none⟩) (World.block_lt_of_cell? w _ h)];exact h⟩
   obtain ⟨b,off,rfl,c0⟩:=hc
   have HCd:=Lib.hid (HC.out d (List.mem_of_getElem? hd) wr hbel)
   have HT2:Hid (Z=if fin≤d then (0,fin) else if day≤d then andR (is d) 0 (fun b => if b=true then (0,d) else firstR is day fin (ds.drop (k+1))) else firstR is day fin (ds.drop (k+1))):=by
    show _=_;rw [HT.out,drop_getF hd,firstR_cons]
   have hk1:(0:Int)≤(k:Int):=by omega
   have hk2:(k:Int) < (ds.length:Int):=by omega
   have hsz:=hbel.size
   clear hd HT
   by_cases hf:fin≤d
   ·have HE:Hid (Z=(0,fin)):=by show _=_;rw [HT2.out,if_pos hf]
    have Hb:=Lib.hid hbel
    clear HT2 HCd hbel
    go_wp2
    go_ret
    exact ⟨by rw [HE.out];rfl,Hb.out⟩
   have hf2:decide (fin≤d)=false:=decide_eq_false hf
   by_cases hy:day≤d
   ·have hy2:decide (day≤d)=true:=decide_eq_true hy
    have HT3:Hid (Z=andR (is d) 0 (fun b => if b=true then (0,d) else firstR is day fin (ds.drop (k+1)))):=by show _=_;rw [HT2.out,if_neg hf,if_pos hy]
    clear HT2
    generalize is d=R at HT3 HCd
    have Hb:=Lib.hid hbel
    clear hf hbel
    by_cases h0:R.1=0
    ·rw [h0,endR_ok] at HCd
     have HT4:Hid (Z=if R.2=true then (0,d) else firstR is day fin (ds.drop (k+1))):=by show _=_;rw [HT3.out,andR,if_neg (fun h => h h0)]
     clear HT3 h0
     cases hb:R.2 with
     | true =>
      rw [hb] at HCd HT4
      have HE:Hid (Z=(0,d)):=HT4.out
      clear hb HT4
      go_wp2_with fail
      refine HCd.out.mono ?_
      rintro e w1 ⟨rfl,hb1⟩
      have Hb1:=Lib.hid (Hb.out.trans (hb1.mono hsz))
      clear hb1 HCd Hb
      go_wp2
      go_ret
      exact ⟨by rw [HE.out];rfl,Hb1.out⟩
     | false =>
      rw [hb] at HCd HT4
      have HE:Hid (Z=firstR is day fin (ds.drop (k+1))):=HT4.out
      clear hb HT4
      go_wp2_with fail
      refine HCd.out.mono ?_
      rintro e w1 ⟨rfl,hb1⟩
      have Hb1:=Lib.hid (Hb.out.trans (hb1.mono hsz))
      clear hb1 HCd Hb
      go_wp2
      go_roundw
      case rel => exact ⟨k+1,by omega,by go_num,HE,Hb1.out⟩
      case measure => simp [intOf];omega
    ·have HE:Hid (Z.1=R.1):=by show _=_;rw [HT3.out,andR,if_pos h0]
     rw [endR_no h0] at HCd
     have h1:Z.1 ≠ 0:=by rw [HE.out];exact h0
     have HP:Hid (endR (.int .i64 Z.2) Z.1 = .panicked (stopC R.1)):=by show _=_;rw [endR_no h1,HE.out]
     clear HT3 h0 h1 HE
     go_wp2_with fail
     refine HCd.out.mono ?_
     rintro e w1 ⟨rfl,hb1⟩
     exact ⟨rfl,HP.out.symm,Hb.out.trans (hb1.mono hsz)⟩
   ·have hy2:decide (day≤d)=false:=decide_eq_false hy
    have HE:Hid (Z=firstR is day fin (ds.drop (k+1))):=by show _=_;rw [HT2.out,if_neg hf,if_neg hy]
    have Hb:=Lib.hid hbel
    clear HT2 HCd hf hy hbel
    go_wp2
    go_roundw
    case rel => exact ⟨k+1,by omega,by go_num,HE,Hb.out⟩
    case measure => simp [intOf];omega
  ·obtain rfl:k=ds.length:=by omega
   have HE:Hid (Z=(0,fin)):=by show _=_;rw [HT.out,List.drop_length];rfl
   have Hb:=Lib.hid hbel
   clear HT hbel
   go_wp2
   go_ret
   exact ⟨by rw [HE.out];rfl,Hb.out⟩
set_option maxHeartbeats 2000000 in
set_option maxRecDepth 100000 in
theorem firstH_any (c:Con) (es dd ss:Value) (day fin:Int) (is:Int→Int × Bool) (B:Nat) (w:World) (hr:RdN w c es dd ss) (hn:c.ds.length≤1100000)
  (HI:∀ d ∈ c.ds,∀ W,Below w.heap.size w W→Calls Tryz.prog 130 #[.int .i64 d,.pointer (some ⟨B,0,none⟩),.pointer (some ⟨B+3,0,none⟩)] W fun e w' => e=endR (.bool (is d).2) (is d).1∧Below W.heap.size W w') :
  Calls Tryz.prog 138 #[c.val es dd ss,.int .i64 day,.int .i64 fin,.func (.func 130) #[] #[.pointer (some ⟨B,0,none⟩),.pointer (some ⟨B+3,0,none⟩)]] w fun e w' => e=endR (.int .i64 (firstR is day fin c.ds).2) (firstR is day fin c.ds).1∧Below w.heap.size w w':=by
 obtain ⟨ad,cap,rfl,_,hd⟩:=hr.2.1
 have HD:=Lib.hid hd
 have hb0:=below_a1 w (.cells #[.int .u8 c.k,.string c.fr,.string c.rc,.string c.nm,.int .u8 c.ex.k,.string c.ex.ra,.string c.ex.nm,.int .i64 c.ex.d,es,.int .i64 c.d,.slice ad c.ds.length cap,ss] 51)
 have HC:=Lib.hid HI
 have HB0:=Lib.hid hb0
 obtain ⟨a1,n1,rfl⟩:=hr.1.len
 obtain ⟨a2,n2,rfl⟩:=hr.2.2.1.len
 clear hd HI hb0 hr
 unfold Con.val
 generalize hds:c.ds=ds at *
 obtain ⟨Z,hZ⟩:∃ Z,Z=firstR is day fin ds:=⟨_,rfl⟩
 rw [← hZ]
 have HZ:=Lib.hid hZ
 clear hZ hds
 go_enter Tryz.func138,Tryz.ntmps138
 go_wp2_with fail
 go_loopw [14] (fun i wr => ∃ (k:Nat),k≤ds.length∧i = .int .i64 (k:Int)∧Hid (Z=firstR is day fin (ds.drop k))∧Below w.heap.size w wr) (fun i _ => ds.length - (intOf i).toNat)
 case atStart => exact ⟨0,Nat.zero_le _,rfl,Lib.hid (by rw [List.drop_zero];exact HZ.out),HB0.out⟩
 case round =>
  obtain ⟨k,hk,rfl,HT,hbel⟩:=hrel
  clear HZ HB0
  by_cases hlt:k < ds.length
  ·obtain ⟨d,hd⟩:∃ d,ds[k]? = some d:=⟨_,List.getElem?_eq_getElem hlt⟩
   have hc:∃ b off,ad=some ⟨b,off,none⟩∧wr.cell? ⟨b,off+k,none⟩=some (.int .i64 d):=by
    obtain ⟨b,off,e,h⟩:=HD.out k d hd
    exact ⟨b,off,e,by rw [hbel.cell (p:=⟨b,off+k,none⟩) (World.block_lt_of_cell? w _ h)];exact h⟩
   obtain ⟨b,off,rfl,c0⟩:=hc
   have HCd:=Lib.hid (HC.out d (List.mem_of_getElem? hd) wr hbel)
   have HT2:Hid (Z=if fin≤d then (0,fin) else if day≤d then andR (is d) 0 (fun b => if b=true then (0,d) else firstR is day fin (ds.drop (k+1))) else firstR is day fin (ds.drop (k+1))):=by
    show _=_;rw [HT.out,drop_getF hd,firstR_cons]
   have hk1:(0:Int)≤(k:Int):=by omega
   have hk2:(k:Int) < (ds.length:Int):=by omega
   have hsz:=hbel.size
   clear hd HT
   by_cases hf:fin≤d
   ·have HE:Hid (Z=(0,fin)):=by show _=_;rw [HT2.out,if_pos hf]
    have Hb:=Lib.hid hbel
    clear HT2 HCd hbel
    go_wp2
    go_ret
    exact ⟨by rw [HE.out];rfl,Hb.out⟩
   have hf2:decide (fin≤d)=false:=decide_eq_false hf
   by_cases hy:day≤d
   ·have hy2:decide (day≤d)=true:=decide_eq_true hy
    have HT3:Hid (Z=andR (is d) 0 (fun b => if b=true then (0,d) else firstR is day fin (ds.drop (k+1)))):=by show _=_;rw [HT2.out,if_neg hf,if_pos hy]
    clear HT2
    generalize is d=R at HT3 HCd
    have Hb:=Lib.hid hbel
    clear hf hbel
    by_cases h0:R.1=0
    ·rw [h0,endR_ok] at HCd
     have HT4:Hid (Z=if R.2=true then (0,d) else firstR is day fin (ds.drop (k+1))):=by show _=_;rw [HT3.out,andR,if_neg (fun h => h h0)]
     clear HT3 h0
     cases hb:R.2 with
     | true =>
      rw [hb] at HCd HT4
      have HE:Hid (Z=(0,d)):=HT4.out
      clear hb HT4
      go_wp2_with fail
      refine HCd.out.mono ?_
      rintro e w1 ⟨rfl,hb1⟩
      have Hb1:=Lib.hid (Hb.out.trans (hb1.mono hsz))
      clear hb1 HCd Hb
      go_wp2
      go_ret
      exact ⟨by rw [HE.out];rfl,Hb1.out⟩
     | false =>
      rw [hb] at HCd HT4
      have HE:Hid (Z=firstR is day fin (ds.drop (k+1))):=HT4.out
      clear hb HT4
      go_wp2_with fail
      refine HCd.out.mono ?_
      rintro e w1 ⟨rfl,hb1⟩
      have Hb1:=Lib.hid (Hb.out.trans (hb1.mono hsz))
      clear hb1 HCd Hb
      go_wp2
      go_roundw
      case rel => exact ⟨k+1,by omega,by go_num,HE,Hb1.out⟩
      case measure => simp [intOf];omega
    ·have HE:Hid (Z.1=R.1):=by show _=_;rw [HT3.out,andR,if_pos h0]
     rw [endR_no h0] at HCd
     have h1:Z.1 ≠ 0:=by rw [HE.out];exact h0
     have HP:Hid (endR (.int .i64 Z.2) Z.1 = .panicked (stopC R.1)):=by show _=_;rw [endR_no h1,HE.out]
     clear HT3 h0 h1 HE
     go_wp2_with fail
     refine HCd.out.mono ?_
     rintro e w1 ⟨rfl,hb1⟩
     exact ⟨rfl,HP.out.symm,Hb.out.trans (hb1.mono hsz)⟩
   ·have hy2:decide (day≤d)=false:=decide_eq_false hy
    have HE:Hid (Z=firstR is day fin (ds.drop (k+1))):=by show _=_;rw [HT2.out,if_neg hf,if_neg hy]
    have Hb:=Lib.hid hbel
    clear HT2 HCd hf hy hbel
    go_wp2
    go_roundw
    case rel => exact ⟨k+1,by omega,by go_num,HE,Hb.out⟩
    case measure => simp [intOf];omega
  ·obtain rfl:k=ds.length:=by omega
   have HE:Hid (Z=(0,fin)):=by show _=_;rw [HT.out,List.drop_length];rfl
   have Hb:=Lib.hid hbel
   clear HT hbel
   go_wp2
   go_ret
   exact ⟨by rw [HE.out];rfl,Hb.out⟩
end Go.Proofs.YthdeijdimfjceaaGreatDoor

namespace Go.Proofs.YthdeijdimfjceaaGreatDoor
open Go.RowKit
def FlP (w:World) (R:Int × List Fl) (e:Ending) (w':World):Prop :=
 Below w.heap.size w w'∧((R.1=0∧∃ v,e = .returned v∧OwnFl w w' R.2 v)∨(R.1 ≠ 0∧e = .panicked (stopC R.1)))
theorem OwnFl.at {w w0 w':World} {l:List Fl} {v:Value} (h:OwnFl w w' l v) (hs:w0.heap.size≤w.heap.size):OwnFl w0 w' l v:=⟨h.1,ownsRow_base' h.2 hs⟩
theorem FlP.at {w w0 w':World} {R:Int × List Fl} {e:Ending} (h:FlP w R e w') (hb:Below w0.heap.size w0 w):FlP w0 R e w':=by
 obtain ⟨h1,h2⟩:=h
 refine ⟨hb.trans (h1.mono hb.size),?_⟩
 rcases h2 with ⟨h3,v,h4,h5⟩ | h2
 ·exact .inl ⟨h3,v,h4,h5.at hb.size⟩
 ·exact .inr h2
def PF (E:EvD) (x:Con):Prop:=∀ es dd ss day fin W,FlH x es dd ss E W→0≤day→fin≤100000→Calls Tryz.prog 107 #[x.val es dd ss,.int .i64 day,.int .i64 fin,.agg #[.slice E.af E.F.length E.cf,.slice E.ac E.C.length E.cc]] W (FlP W (x.flows E.F E.C day fin))
theorem RdC.nth {w:World} {xs:List Con} {b off n cap:Nat} (h:RdC w xs (.slice (some ⟨b,off,none⟩) n cap)) {j:Nat} {x:Con} (hx:xs[j]? = some x) (o:Nat) (ho:off+j * 12=o):∃ a1 n1 a2 n2 a3 n3,RdN w x (.slice a1 x.ex.sub.length n1) (.slice a2 x.ds.length n2) (.slice a3 x.sub.length n3)∧b < w.heap.size ∧
  (∀ W,Below w.heap.size w W→W.cell? ⟨b,o,none⟩=some (.int .u8 x.k)∧W.cell? ⟨b,o+1,none⟩=some (.string x.fr)∧W.cell? ⟨b,o+2,none⟩=some (.string x.rc)∧W.cell? ⟨b,o+3,none⟩=some (.string x.nm)
   ∧ W.cell? ⟨b,o+4,none⟩=some (.int .u8 x.ex.k)∧W.cell? ⟨b,o+5,none⟩=some (.string x.ex.ra)∧W.cell? ⟨b,o+6,none⟩=some (.string x.ex.nm)∧W.cell? ⟨b,o+7,none⟩=some (.int .i64 x.ex.d)∧W.cell? ⟨b,o+8,none⟩=some (.slice a1 x.ex.sub.length n1)
   ∧ W.cell? ⟨b,o+9,none⟩=some (.int .i64 x.d)∧W.cell? ⟨b,o+10,none⟩=some (.slice a2 x.ds.length n2)∧W.cell? ⟨b,o+11,none⟩=some (.slice a3 x.sub.length n3)):=by
 obtain ⟨b',off',es,dd,ss,e,⟨c0,c1,c2,c3,c4,c5,c6,c7,c8,c9,c10,c11⟩,hr⟩:=h.cells hx
 obtain ⟨rfl,rfl⟩:b=b'∧off=off':=by simpa using e
 obtain ⟨a1,n1,rfl⟩:=hr.1.len
 obtain ⟨a2,n2,rfl⟩:=hr.2.1.len
 obtain ⟨a3,n3,rfl⟩:=hr.2.2.1.len
 have hk:∀ {W:World} {p:Addr} {u:Value},Below w.heap.size w W→w.cell? p=some u→W.cell? p=some u:=fun {W p u} hb hu => by rw [hb.cell (p:=p) (World.block_lt_of_cell? w _ hu)];exact hu
 subst ho
 exact ⟨a1,n1,a2,n2,a3,n3,hr,World.block_lt_of_cell? w _ c0,fun W hb => ⟨hk hb c0,hk hb c1,hk hb c2,hk hb c3,hk hb c4,hk hb c5,hk hb c6,hk hb c7,hk hb c8,hk hb c9,hk hb c10,hk hb c11⟩⟩
theorem RdC.addr {w:World} {xs:List Con} {ad:Option Addr} {n cap:Nat} (h:RdC w xs (.slice ad n cap)) (hx:0 < xs.length):∃ b off,ad=some ⟨b,off,none⟩:=by
 obtain ⟨b,off,_,_,_,e,_⟩:=h.at (List.getElem?_eq_getElem hx)
 exact ⟨b,off,e⟩
theorem FlH.sub {c x:Con} {es dd ss es' dd' ss':Value} {E:EvD} {w:World} (h:FlH c es dd ss E w) (hx:x ∈ c.sub) (hr:RdN w x es' dd' ss'):FlH x es' dd' ss' E w:=by
 have hw:=h.wf
 rw [Con.formed_eq,Bool.and_eq_true,Con.formeds_eq] at hw
 exact ⟨by have:=Con.mem_lt hx;have:=h.bulk;omega,hr,h.ls,h.lo,h.e,h.fs,h.cs,h.ok,List.all_eq_true.1 hw.2 x hx⟩
set_option maxHeartbeats 2000000 in
set_option maxRecDepth 100000 in
theorem partCl_first (c x:Con) (l:List Con) (es dd ss:Value) (day fin:Int) (E:EvD) (B:Nat) (w:World) (hb:FlB w B c es dd ss day fin E) (h:FlH c es dd ss E w) (hl:c.sub=x :: l) (h0:0≤day) (h1:fin≤100000) (HX:PF E x) :
  Calls Tryz.prog 136 #[.bool false,.pointer (some ⟨B,0,none⟩),.pointer (some ⟨B+1,0,none⟩),.pointer (some ⟨B+2,0,none⟩),.pointer (some ⟨B+3,0,none⟩)] w (FlP w (x.flows E.F E.C day fin)):=by
 obtain ⟨ad,cap,rfl⟩:=h.rd.2.2.1.len
 have hS:=h.rd.2.2.1
 rw [hl] at hS
 obtain ⟨b,off,rfl⟩:=hS.addr (by simp)
 obtain ⟨a1,n1,a2,n2,a3,n3,hr,hbl,hc⟩:=hS.nth (j:=0) rfl (off) (by omega)
 have hF:=h.sub (x:=x) (by rw [hl];simp) hr
 have HC:=Lib.hid fun W (hb:Below w.heap.size w W) => (HX _ _ _ day fin W (hF.frame hb) h0 h1).mono fun e w' h => h.at hb
 have q7:=hb.c.cell (j:=11) (u:=.slice (some ⟨b,off,none⟩) c.sub.length cap) rfl
 have d0:=hb.d.cell (j:=0) (u:=.int .i64 day) rfl
 have f0:=hb.f.cell (j:=0) (u:=.int .i64 fin) rfl
 have v0:=hb.v.cell (j:=0) (u:=.slice E.af E.F.length E.cf) rfl
 have v1:=hb.v.cell (j:=1) (u:=.slice E.ac E.C.length E.cc) rfl
 obtain ⟨c0,c1,c2,c3,c4,c5,c6,c7,c8,c9,c10,c11⟩:=hc w (Below.refl _ _)
 have hn2:0 < c.sub.length:=by rw [hl];simp
 have hn:(0:Int) < (c.sub.length:Int):=by omega
 clear hb h hl hS hr hc hF HX
 generalize x.flows E.F E.C day fin=R at *
 go_enter Tryz.func136,Tryz.ntmps136
 go_wp2_with fail
 go_still_tail 7,(by kernel_rfl)
 change wpList _ _ _ _ _ w.drew
 have hb1:Below w.heap.size w w.drew:=below_drewN (Below.refl _ _) 1
 generalize w.drew=w2 at *
 clear q7 d0 f0 v0 v1 c0 c1 c2 c3 c4 c5 c6 c7 c8 c9 c10 c11
 go_wp2_with fail
 refine (HC.out w2 hb1).mono ?_
 rintro e w3 ⟨hb3,⟨h0,v,rfl,⟨a,n,rfl⟩,ho⟩ | ⟨h0,rfl⟩⟩
 ·have HF:Hid (FlP w R (.returned (.slice a R.2.length n)) w3):=⟨hb3,.inl ⟨h0,_,rfl,⟨_,_,rfl⟩,ho⟩⟩
  clear hb3 ho h0 HC
  go_wp2
  go_ret
  exact HF.out
 ·exact ⟨rfl,hb3,.inr ⟨h0,rfl⟩⟩
set_option maxHeartbeats 2000000 in
set_option maxRecDepth 100000 in
theorem partCl_second (c x y:Con) (l:List Con) (es dd ss:Value) (day fin:Int) (E:EvD) (B:Nat) (w:World) (hb:FlB w B c es dd ss day fin E) (h:FlH c es dd ss E w) (hl:c.sub=x :: y :: l) (h0:0≤day) (h1:fin≤100000) (HX:PF E y) :
  Calls Tryz.prog 136 #[.bool true,.pointer (some ⟨B,0,none⟩),.pointer (some ⟨B+1,0,none⟩),.pointer (some ⟨B+2,0,none⟩),.pointer (some ⟨B+3,0,none⟩)] w (FlP w (y.flows E.F E.C day fin)):=by
 obtain ⟨ad,cap,rfl⟩:=h.rd.2.2.1.len
 have hS:=h.rd.2.2.1
 rw [hl] at hS
 obtain ⟨b,off,rfl⟩:=hS.addr (by simp)
 obtain ⟨a1,n1,a2,n2,a3,n3,hr,hbl,hc⟩:=hS.nth (j:=1) rfl (off+12) (by omega)
 have hF:=h.sub (x:=y) (by rw [hl];simp) hr
 have HC:=Lib.hid fun W (hb:Below w.heap.size w W) => (HX _ _ _ day fin W (hF.frame hb) h0 h1).mono fun e w' h => h.at hb
 have q7:=hb.c.cell (j:=11) (u:=.slice (some ⟨b,off,none⟩) c.sub.length cap) rfl
 have d0:=hb.d.cell (j:=0) (u:=.int .i64 day) rfl
 have f0:=hb.f.cell (j:=0) (u:=.int .i64 fin) rfl
 have v0:=hb.v.cell (j:=0) (u:=.slice E.af E.F.length E.cf) rfl
 have v1:=hb.v.cell (j:=1) (u:=.slice E.ac E.C.length E.cc) rfl
 obtain ⟨c0,c1,c2,c3,c4,c5,c6,c7,c8,c9,c10,c11⟩:=hc w (Below.refl _ _)
 have hn2:1 < c.sub.length:=by rw [hl];simp
 have hn:(1:Int) < (c.sub.length:Int):=by omega
 clear hb h hl hS hr hc hF HX
 generalize y.flows E.F E.C day fin=R at *
 go_enter Tryz.func136,Tryz.ntmps136
 go_wp2_with fail
 go_still_tail 7,(by kernel_rfl)
 change wpList _ _ _ _ _ w.drew
 have hb1:Below w.heap.size w w.drew:=below_drewN (Below.refl _ _) 1
 generalize w.drew=w2 at *
 clear q7 d0 f0 v0 v1 c0 c1 c2 c3 c4 c5 c6 c7 c8 c9 c10 c11
 go_wp2_with fail
 refine (HC.out w2 hb1).mono ?_
 rintro e w3 ⟨hb3,⟨h0,v,rfl,⟨a,n,rfl⟩,ho⟩ | ⟨h0,rfl⟩⟩
 ·have HF:Hid (FlP w R (.returned (.slice a R.2.length n)) w3):=⟨hb3,.inl ⟨h0,_,rfl,⟨_,_,rfl⟩,ho⟩⟩
  clear hb3 ho h0 HC
  go_wp2
  go_ret
  exact HF.out
 ·exact ⟨rfl,hb3,.inr ⟨h0,rfl⟩⟩
end Go.Proofs.YthdeijdimfjceaaGreatDoor
