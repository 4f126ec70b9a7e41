/- A part. -/
import Derived.Test.YtknpnhodpgajbaaGreatDoorG25
set_option maxHeartbeats 8000000
set_option maxRecDepth 100000
namespace Go.Proofs.YtknpnhodpgajbaaGreatDoor
open Go.RowKit
def PRV (E:EvD) (day:Int) (y:Ex):Prop:=∀ W s,E.Rd W→RdE W y.sub s→y.k < 256→Calls Tryz.prog 100 #[y.val s,.int .i64 day,.agg #[.slice E.af E.F.length E.cf,.slice E.ac E.C.length E.cc]] W fun e w'=>e = .returned (.tuple #[.string (Zaw ByteArray.empty (y.value E.F day)).2,.int .i64 (y.value E.F day).1])∧Below W.heap.size W w'
def PRH (E:EvD) (day:Int) (y:Ex):Prop:=∀ W s,E.Rd W→RdE W y.sub s→y.k < 256→Calls Tryz.prog 103 #[y.val s,.int .i64 day,.agg #[.slice E.af E.F.length E.cf,.slice E.ac E.C.length E.cc]] W fun e w'=>e = .returned (.tuple #[.bool (Zaw false (y.hold E.F day)).2,.int .i64 (y.hold E.F day).1])∧Below W.heap.size W w'
structure VBox (W:World) (B k:Nat) (ra nm:ByteArray) (d:Int) (s:Value) (E:EvD):Prop where
 x:BoxN W B 25 [.int .u8 (k:Int),.string ra,.string nm,.int .i64 d,s]
 v:BoxN W (B+1) 33 [.slice E.af E.F.length E.cf,.slice E.ac E.C.length E.cc]
section
variable {W W':World} {B k:Nat} {ra nm:ByteArray} {d:Int} {s:Value} {E:EvD}
theorem VBox.below (h:VBox W B k ra nm d s E) (hb:Below W.heap.size W W'):VBox W' B k ra nm d s E:=⟨h.x.below hb h.x.lt,h.v.below hb h.v.lt⟩
abbrev VBc (W:World) (B k:Nat) (ra nm:ByteArray) (d:Int) (s:Value) (E:EvD):Prop:=W.cell? ⟨B,0,none⟩=some (.int .u8 (k:Int))∧W.cell? ⟨B,1,none⟩=some (.string ra)∧W.cell? ⟨B,2,none⟩=some (.string nm)∧W.cell? ⟨B,3,none⟩=some (.int .i64 d)∧W.cell? ⟨B,4,none⟩=some s∧W.cell? ⟨B+1,0,none⟩=some (.slice E.af E.F.length E.cf)∧W.cell? ⟨B+1,1,none⟩=some (.slice E.ac E.C.length E.cc)
abbrev E5 (W:World) (b o:Nat) (y:Ex) (s:Value):Prop:=W.cell? ⟨b,o,none⟩=some (.int .u8 y.k)∧W.cell? ⟨b,o+1,none⟩=some (.string y.ra)∧W.cell? ⟨b,o+2,none⟩=some (.string y.nm)∧W.cell? ⟨b,o+3,none⟩=some (.int .i64 y.d)∧W.cell? ⟨b,o+4,none⟩=some s
theorem VBox.all (h:VBox W B k ra nm d s E):VBc W B k ra nm d s E:=⟨h.x.cell (j:=0) rfl,h.x.cell (j:=1) rfl,h.x.cell (j:=2) rfl,h.x.cell (j:=3) rfl,h.x.cell (j:=4) rfl,h.v.cell (j:=0) rfl,h.v.cell (j:=1) rfl⟩
theorem VBox.keep {w:World} (h:VBox W B k ra nm d s E) (h1:Below w.heap.size w W) {b o:Nat} {y:Ex} {u:Value} (hx:∀ W',Below w.heap.size w W'→E5 W' b o y u) (W':World) (hb:Below W.heap.size W W'):VBc W' B k ra nm d s E∧E5 W' b o y u:=⟨(h.below hb).all,hx W' (h1.trans (hb.mono h1.size))⟩
theorem Zbz {α:Type} (z:α) (R:Int × α):∃ v e,v=(Zaw z R).2∧e=R.1:=⟨_,_,rfl,rfl⟩
end
theorem Zgv (w:World) (k:Nat) (ra nm:ByteArray) (d:Int) (s:Value) (E:EvD):∃ W,(w.alloc (.cells #[.int .u8 (k:Int),.string ra,.string nm,.int .i64 d,s] 25)).alloc (.cells #[.slice E.af E.F.length E.cf,.slice E.ac E.C.length E.cc] 33)=W∧Below w.heap.size w W∧VBox W w.heap.size k ra nm d s E:=by
 refine ⟨_,rfl,Zaz _ _ _,(BoxN.new w [.int .u8 (k:Int),.string ra,.string nm,.int .i64 d,s] 25).alloc _,?_⟩;have:=BoxN.new (w.alloc (.cells #[.int .u8 (k:Int),.string ra,.string nm,.int .i64 d,s] 25)) [.slice E.af E.F.length E.cf,.slice E.ac E.C.length E.cc] 33
 rw [World.size_alloc] at this;exact this
theorem Zlz (F:List Fx) (nm:ByteArray) (d:Int):(Zaw ByteArray.empty (fixR F nm d)).2=(fixR F nm d).2:=by
 unfold Zaw fixR
 cases F.find? (fxIs ⟨nm,d,⟨#[]⟩⟩) with
 | none=>rfl
 | some f=>rfl
theorem Zbv {α:Type} {z:α} {R:Int × α} (h:R.1=0):(Zaw z R).2=R.2:=by rw [Zaw,if_neg fun q=>q h]
theorem Zdj {α:Type} {z:α} {R:Int × α} (h:R.1 ≠ 0):(Zaw z R).2=z:=by rw [Zaw,if_pos h]
theorem Zcw {α β:Type} {a:Int × α} {z:β} {f:α→Int × β} (h:a.1 ≠ 0):andR a z f=(a.1,z):=if_pos h
theorem Zbo {α β:Type} {a:Int × α} {z:β} {f:α→Int × β} (h:a.1=0):andR a z f=f a.2:=if_neg fun q=>q h
theorem Zyt {a b:ByteArray} (ha:Zah a=0) (hb:Zah b=0):cmpE b a=cmpE a b∧(cmpE a b=0→(cmpV b a < 0 ↔ 0 < cmpV a b)):=by
 have h1:=Zmr ha hb;have h2:=Zmr hb ha;have eL:cmpL b a=cmpR a b:=rfl;have eR:cmpR b a=cmpL a b:=rfl;have e:cmpE b a=cmpE a b:=by
  rw [cmpE,cmpE,if_neg (show ¬ bE b a ≠ 0 from fun q=>q h2),if_neg (show ¬ bE a b ≠ 0 from fun q=>q h1),eL,eR];by_cases h:zErr (cmpL a b) ≠ 0∨zErr (cmpR a b) ≠ 0
  ·rw [if_pos h,if_pos h.symm]
  ·rw [if_neg h,if_neg fun q=>h q.symm]
 refine ⟨e,fun h0=>?_⟩;rw [cmpV,cmpV,e,if_neg fun q=>q h0,if_neg fun q=>q h0,eL,eR];unfold sgnZ;rcases Int.lt_trichotomy (cmpL a b) (cmpR a b) with h | h | h
 ·rw [if_neg (by omega),if_neg (by omega),if_pos h];omega
 ·rw [if_neg (by omega),if_pos h.symm,if_neg (by omega),if_pos h]
 ·rw [if_pos h,if_neg (by omega),if_neg (by omega)];omega
theorem Z3b (k:Nat) (ra nm:ByteArray) (d:Int) (ad:Option Addr) (cap:Nat) (E:EvD) (day:Int) (w:World) (hk:k=1) :
  Calls Tryz.prog 100 #[.agg #[.int .u8 (k:Int),.string ra,.string nm,.int .i64 d,.slice ad 0 cap],.int .i64 day,.agg #[.slice E.af E.F.length E.cf,.slice E.ac E.C.length E.cc]] w fun e w'=>e = .returned (.tuple #[.string ra,.int .i64 0])∧Below w.heap.size w w':=by
 subst hk;have hbz:=Zaz w (.cells #[.int .u8 1,.string ra,.string nm,.int .i64 d,.slice ad 0 cap] 25) (.cells #[.slice E.af E.F.length E.cf,.slice E.ac E.C.length E.cc] 33);go_enter Tryz.func100,Tryz.ntmps100
 go_wp2;go_ret2;exact ⟨rfl,hbz⟩
theorem Z0s (k:Nat) (ra nm:ByteArray) (d:Int) (ad:Option Addr) (cap:Nat) (E:EvD) (day:Int) (w:World) (hE:E.Rd w) (D:Int) (hk:k=2∧D=d∨k=3∧D=day) :
  Calls Tryz.prog 100 #[.agg #[.int .u8 (k:Int),.string ra,.string nm,.int .i64 d,.slice ad 0 cap],.int .i64 day,.agg #[.slice E.af E.F.length E.cf,.slice E.ac E.C.length E.cc]] w fun e w'=>e = .returned (.tuple #[.string (fixR E.F nm D).2,.int .i64 (fixR E.F nm D).1])∧Below w.heap.size w w':=by
 obtain ⟨W1,hW1,hb1,hB⟩:=Zgv w k ra nm d (.slice ad 0 cap) E;obtain ⟨x0,-,x2,x3,-,v0,v1⟩:=hB.all;have HC:=Lh (Zqw (hE.frame hb1) nm D);generalize fixR E.F nm D=R at *;have Hb1:=Lh hb1;clear hE hB hb1;rcases hk with ⟨rfl,rfl⟩ | ⟨rfl,rfl⟩
 all_goals
  simp only [Int.cast_ofNat_Int] at x0 hW1;go_enter Tryz.func100,Tryz.ntmps100
  go_upto_region 1 with (fail);clear hW1;go_wp2_with fail;refine HC.out.mono ?_;rintro e w2 ⟨rfl,hb2⟩;have hbz:=Hb1.out.trans (hb2.mono Hb1.out.size);clear HC hb2;go_wp2;go_ret2;exact ⟨rfl,hbz⟩
theorem Z3c (k:Nat) (ra nm:ByteArray) (d:Int) (ad:Option Addr) (cap:Nat) (E:EvD) (day:Int) (w:World) (hE:E.Rd w) (h4:4≤k) (h8:k≤8) (y z:Ex) (hs:RdE w [y,z] (.slice ad 2 cap)) (HY:PRV E day y) (HZ:PRV E day z) (hvy:(y.value E.F day).1=0→Zah (y.value E.F day).2=0) (hvz:(z.value E.F day).1=0→Zah (z.value E.F day).2=0) :
  Calls Tryz.prog 100 #[.agg #[.int .u8 (k:Int),.string ra,.string nm,.int .i64 d,.slice ad 2 cap],.int .i64 day,.agg #[.slice E.af E.F.length E.cf,.slice E.ac E.C.length E.cc]] w fun e w'=>e = .returned (.tuple #[.string (Zaw ByteArray.empty (andR (y.value E.F day) ByteArray.empty fun a=>andR (z.value E.F day) ByteArray.empty fun b=>op2 k a b)).2,.int .i64 (andR (y.value E.F day) ByteArray.empty fun a=>andR (z.value E.F day) ByteArray.empty fun b=>op2 k a b).1])∧Below w.heap.size w w':=by
 obtain ⟨b,off,s1,s2,rfl,⟨r1,k1⟩,⟨r2,k2⟩,hbl,cY,cZ⟩:=hs.two;obtain ⟨a1,n1,rfl⟩:=r1.len;obtain ⟨a2,n2,rfl⟩:=r2.len;obtain ⟨W1,hW1,hb1,hB⟩:=Zgv w k ra nm d (.slice (some ⟨b,off,none⟩) 2 cap) E;have HC1:=Lh fun W (hb:Below W1.heap.size W1 W)=>HY W _ ((hE.frame hb1).frame hb) ((r1.frame hb1).frame hb) k1
 have HKy:=Lh (hB.keep hb1 cY);have HC2:=Lh fun W (hb:Below W1.heap.size W1 W)=>HZ W _ ((hE.frame hb1).frame hb) ((r2.frame hb1).frame hb) k2
 have HKz:=Lh (hB.keep hb1 cZ);have hz1:=hb1.size;have hbl1:b < W1.heap.size:=by omega
 have x0:=hB.all.1;have tk1:((k:Int) == 1)=false:=by rw [beq_eq_false_iff_ne];omega
 have tk2:((k:Int) == 2)=false:=by rw [beq_eq_false_iff_ne];omega
 have tk3:((k:Int) == 3)=false:=by rw [beq_eq_false_iff_ne];omega
 have tk9:((k:Int) == 9)=false:=by rw [beq_eq_false_iff_ne];omega
 have Hvy:=Lh hvy;have Hvz:=Lh hvz;clear hvy hvz;have HB:=Lh hB;have Hb1:=Lh hb1;clear HY HZ hs hE r1 cY r2 cZ hb1 hB;generalize y.value E.F day=Ry at *;obtain ⟨vy,ey,hvy,hey⟩:=Zbz ByteArray.empty Ry;rw [← hvy,← hey] at HC1;have Hy:=Lh hvy;have Hey:=Lh hey;clear hvy hey;generalize z.value E.F day=Rz at *;obtain ⟨vz,ez,hvz,hez⟩:=Zbz ByteArray.empty Rz;rw [← hvz,← hez] at HC2;have Hz:=Lh hvz;have Hez:=Lh hez
 clear hvz hez;have hd:Below W1.heap.size W1 W1.drew:=(Below.refl _ _).drew;go_enter Tryz.func100,Tryz.ntmps100
 go_upto_region 1 with (fail);clear hW1;go_upto_region 19 with (fail);go_region_held3 (fun w'=>VBc w' w.heap.size k ra nm d (.slice (some ⟨b,off,none⟩) 2 cap) E∧E5 w' b off y (.slice a1 y.sub.length n1)) (first | exact HKy.out _ hbd | exact HKy.out _ hd | go_keep)
  (first | (go_at_call 100;refine (HC1.out _ hd).mono ?_;rintro e w2 ⟨rfl,hb2⟩;have hbd:=hd.trans (hb2.mono hd.size)))
 have Hb13:=Lh hbd;have Hb3:=Lh (Hb1.out.trans (hbd.mono hz1));have hbw:b < w2.heap.size:=by have:=hbd.size;omega
 clear hb2 hd HC1 hbd;by_cases h1:ey=0
 ·subst h1;have hd:Below W1.heap.size W1 w2.drew:=Hb13.out.drew;go_upto_region 22 with (fail);go_region_held3 (fun w'=>VBc w' w.heap.size k ra nm d (.slice (some ⟨b,off,none⟩) 2 cap) E∧E5 w' b (off+5) z (.slice a2 z.sub.length n2)) (first | exact HKz.out _ hbd | exact HKz.out _ hd | go_keep)
   (first | (go_at_call 100;refine (HC2.out _ hd).mono ?_;rintro e w3 ⟨rfl,hb2⟩;have hbd:=hd.trans (hb2.mono hd.size)))
  have Hb14:=Lh hbd;have Hb4:=Lh (Hb1.out.trans (hbd.mono hz1));have hbw:b < w3.heap.size:=by have:=hbd.size;omega
  clear hb2 hd HC2 hbd;by_cases h2:ez=0
  ·subst h2;have HE1:Hid (vy=Ry.2):=by show _=_;rw [Hy.out,Zbv Hey.out.symm]
   have HE2:Hid (vz=Rz.2):=by show _=_;rw [Hz.out,Zbv Hez.out.symm]
   have HR:Hid ((andR (Ry) ByteArray.empty fun a=>andR (Rz) ByteArray.empty fun b=>op2 k a b)=op2 k vy vz):=by show _=_;rw [Zbo Hey.out.symm,Zbo Hez.out.symm,HE1.out,HE2.out]
   have q1:Zah vy=0:=by rw [HE1.out];exact Hvy.out Hey.out.symm
   have q2:Zah vz=0:=by rw [HE2.out];exact Hvz.out Hez.out.symm
   have s1:vy.size≤1000000:=Nat.le_trans (Zc5 q1).1 (by decide);have s2:vz.size≤1000000:=Nat.le_trans (Zc5 q2).1 (by decide);have HO7:=Lh (Znn vy vz w3 s1 s2);have HY0:=Lh fun W (hb:Below w3.heap.size w3 W)=>((HB.out.below Hb14.out).below hb).all.1
   have x0:=HY0.out w3 (Below.refl _ _);clear HE1 HE2 Hy Hz Hvy Hvz Hey Hez tk1 tk2 tk3 tk9 HKy HKz;have hk5:k=4∨k=5∨k=6∨k=7∨k=8:=by omega
   clear h4 h8;rcases hk5 with rfl | rfl | rfl | rfl | rfl
   obtain ⟨r,hr,HO⟩:∃ r,r=op2 4 vy vz∧Hid (Calls Tryz.prog 151 #[.string vy,.string vz] w3 fun e w'=>e = .returned (.tuple #[.string r.2,.int .i64 r.1])∧Below w3.heap.size w3 w'):=⟨_,rfl,Lh ((Zk6 vy vz w3 s1 s2).mono fun _ _ h=>h.val)⟩
   rotate_left
   obtain ⟨r,hr,HO⟩:∃ r,r=op2 5 vy vz∧Hid (Calls Tryz.prog 152 #[.string vy,.string vz] w3 fun e w'=>e = .returned (.tuple #[.string r.2,.int .i64 r.1])∧Below w3.heap.size w3 w'):=⟨_,rfl,Lh ((Zur vy vz w3 s1 s2 (Zmr q1 q2)).mono fun _ _ h=>h.val)⟩
   rotate_left
   obtain ⟨r,hr,HO⟩:∃ r,r=op2 6 vy vz∧Hid (Calls Tryz.prog 102 #[.string vy,.string vz] w3 fun e w'=>e = .returned (.tuple #[.string r.2,.int .i64 r.1])∧Below w3.heap.size w3 w'):=⟨_,rfl,Lh ((Zk8 vy vz w3 s1 s2).mono fun _ _ h=>h.val)⟩
   rotate_left
   obtain ⟨zz,t1,HV⟩:∃ zz,decide (cmpV vy vz < 0)=zz∧Hid (∃ u,op2 7 vy vz=(cmpE vy vz,u)∧(cmpE vy vz=0→u=if zz=true then vz else vy)):=⟨_,rfl,Lh ⟨_,rfl,fun _=>by simp⟩⟩
   rotate_left
   obtain ⟨zz,t1,HV⟩:∃ zz,decide (0 < cmpV vy vz)=zz∧Hid (∃ u,op2 8 vy vz=(cmpE vy vz,u)∧(cmpE vy vz=0→u=if zz=true then vz else vy)):=⟨_,rfl,Lh (by
    obtain ⟨e1,e2⟩:=Zyt q1 q2;refine ⟨if cmpV vz vy < 0 then vz else vy,by rw [← e1];rfl,fun h0=>?_⟩;by_cases hq:0 < cmpV vy vz
    ·rw [if_pos ((e2 h0).2 hq)];simp [hq]
    ·rw [if_neg fun q=>hq ((e2 h0).1 q)];simp [hq])⟩
   rotate_left
   iterate 3
    clear q1 q2 s1 s2 HO7;rw [← hr] at HR;clear hr;go_wp2_with fail;refine HO.out.mono ?_;rintro e w4 ⟨rfl,hb4⟩;have hbz:=Hb4.out.trans (hb4.mono Hb4.out.size);by_cases h0:r.1=0
    ·have HF:=Lh h0;rw [h0];clear HO h0;go_wp2;go_ret2;exact ⟨by rw [HR.out,Zbv HF.out,HF.out];rfl,hbz⟩
    ·have t1:(r.1 != 0)=true:=by rw [bne_iff_ne];exact h0
     have HF:=Lh h0;clear HO h0;go_wp2;go_ret2;exact ⟨by rw [HR.out,Zdj HF.out];rfl,hbz⟩
   all_goals
    clear q1 q2 s1 s2;have HR7:=Lh (HR.out.trans HV.out.choose_spec.1);have HU:=Lh HV.out.choose_spec.2;generalize HV.out.choose=u at HR7 HU;clear HV HR;generalize cmpE vy vz=er at *;generalize cmpV vy vz=o at *;go_wp2_with fail;refine HO7.out.mono ?_;rintro e w4 ⟨rfl,hb4⟩;have hbz:=Hb4.out.trans (hb4.mono Hb4.out.size);have y0:=HY0.out w4 hb4;clear HO7;by_cases hr:er=0
    ·subst hr;obtain rfl:=HU.out rfl;clear HU
     cases zz
     all_goals
      go_wp2;go_ret2;exact ⟨by rw [HR7.out];rfl,hbz⟩
    ·have t2:(er != 0)=true:=by rw [bne_iff_ne];exact hr
     have HF:=Lh hr;clear hr
     cases zz
     all_goals
      go_wp2;go_ret2;exact ⟨by rw [HR7.out,Zdj HF.out];rfl,hbz⟩
  ·have t1:(ez != 0)=true:=by rw [bne_iff_ne];exact h2
   have HR:Hid ((andR (Ry) ByteArray.empty fun a=>andR (Rz) ByteArray.empty fun b=>op2 k a b)=(ez,ByteArray.empty)):=by show _=_;rw [Zbo Hey.out.symm,Zcw (by rw [← Hez.out];exact h2),← Hez.out]
   have HF:=Lh h2;clear h2;go_wp2;go_ret2;exact ⟨by rw [HR.out,Zdj HF.out];rfl,Hb4.out⟩
 ·have t1:(ey != 0)=true:=by rw [bne_iff_ne];exact h1
  have HR:Hid ((andR (Ry) ByteArray.empty fun a=>andR (Rz) ByteArray.empty fun b=>op2 k a b)=(ey,ByteArray.empty)):=by show _=_;rw [Zcw (by rw [← Hey.out];exact h1),← Hey.out]
  have HF:=Lh h1;clear h1;go_wp2;go_ret2;exact ⟨by rw [HR.out,Zdj HF.out];rfl,Hb3.out⟩
theorem Z0r (k:Nat) (ra nm:ByteArray) (d:Int) (ad:Option Addr) (cap:Nat) (E:EvD) (day:Int) (w:World) (hE:E.Rd w) (b14:Bool) (hk:k=13∧b14=false∨k=14∧b14=true) (y z:Ex) (hs:RdE w [y,z] (.slice ad 2 cap)) (HY:PRH E day y) (HZ:PRH E day z) (R:Int × Bool) (hR:R=andR (y.hold E.F day) false fun b=>if b=b14 then (0,b) else z.hold E.F day) :
  Calls Tryz.prog 103 #[.agg #[.int .u8 (k:Int),.string ra,.string nm,.int .i64 d,.slice ad 2 cap],.int .i64 day,.agg #[.slice E.af E.F.length E.cf,.slice E.ac E.C.length E.cc]] w fun e w'=>e = .returned (.tuple #[.bool (Zaw false (R)).2,.int .i64 (R).1])∧Below w.heap.size w w':=by
 obtain ⟨b,off,s1,s2,rfl,⟨r1,k1⟩,⟨r2,k2⟩,hbl,cY,cZ⟩:=hs.two;obtain ⟨a1,n1,rfl⟩:=r1.len;obtain ⟨a2,n2,rfl⟩:=r2.len;obtain ⟨W1,hW1,hb1,hB⟩:=Zgv w k ra nm d (.slice (some ⟨b,off,none⟩) 2 cap) E;have HC1:=Lh fun W (hb:Below W1.heap.size W1 W)=>HY W _ ((hE.frame hb1).frame hb) ((r1.frame hb1).frame hb) k1
 have HKy:=Lh (hB.keep hb1 cY);have HC2:=Lh fun W (hb:Below W1.heap.size W1 W)=>HZ W _ ((hE.frame hb1).frame hb) ((r2.frame hb1).frame hb) k2
 have HKz:=Lh (hB.keep hb1 cZ);have hz1:=hb1.size;have hbl1:b < W1.heap.size:=by omega
 have x0:=hB.all.1;have tk13:decide ((13:Int)≤(k:Int))=true:=by simp;omega
 have tl13:(13:Int)≤(k:Int):=by omega
 have tk15:((k:Int) == 15)=false:=by simp;omega
 have tk14:((k:Int) == 14)=b14:=by rcases hk with ⟨rfl,rfl⟩ | ⟨rfl,rfl⟩ <;> rfl
 have HR:=Lh hR;clear hk hR;have HB:=Lh hB;have Hb1:=Lh hb1;clear HY HZ hs hE r1 cY r2 cZ hb1 hB;generalize y.hold E.F day=Ry at *;obtain ⟨vy,ey,hvy,hey⟩:=Zbz false Ry;rw [← hvy,← hey] at HC1;have Hy:=Lh hvy;have Hey:=Lh hey;clear hvy hey;generalize z.hold E.F day=Rz at *;obtain ⟨vz,ez,hvz,hez⟩:=Zbz false Rz;rw [← hvz,← hez] at HC2;have Hz:=Lh hvz;have Hez:=Lh hez;clear hvz hez;have hd:Below W1.heap.size W1 W1.drew:=(Below.refl _ _).drew
 go_enter Tryz.func103,Tryz.ntmps103
 go_upto_region 1 with (fail);clear hW1;go_upto_region 2 with (fail);go_region_held3 (fun w'=>VBc w' w.heap.size k ra nm d (.slice (some ⟨b,off,none⟩) 2 cap) E∧E5 w' b off y (.slice a1 y.sub.length n1)) (first | exact HKy.out _ hbd | exact HKy.out _ hd | go_keep)
  (first | (go_at_call 103;refine (HC1.out _ hd).mono ?_;rintro e w2 ⟨rfl,hb2⟩;have hbd:=hd.trans (hb2.mono hd.size)))
 have Hb13:=Lh hbd;have Hb3:=Lh (Hb1.out.trans (hbd.mono hz1));have hbw:b < w2.heap.size:=by have:=hbd.size;omega
 clear hb2 hd HC1 hbd;by_cases h1:ey=0
 ·subst h1;have hd:Below W1.heap.size W1 w2.drew:=Hb13.out.drew;have HE1:Hid (R=if vy=b14 then (0,vy) else Rz):=by show _=_;rw [HR.out,Zbo Hey.out.symm,Hy.out,Zbv Hey.out.symm]
  cases vy <;> cases b14
  all_goals first
   | (have HR2:Hid (R=Rz):=Lh (by rw [HE1.out];rfl)
      go_upto_region 9 with (fail);go_region_held3 (fun w'=>VBc w' w.heap.size k ra nm d (.slice (some ⟨b,off,none⟩) 2 cap) E∧E5 w' b (off+5) z (.slice a2 z.sub.length n2)) (first | exact HKz.out _ hbd | exact HKz.out _ hd | go_keep)
       (first | (go_at_call 103;refine (HC2.out _ hd).mono ?_;rintro e w3 ⟨rfl,hb2⟩;have hbd:=hd.trans (hb2.mono hd.size)))
      have Hb14:=Lh hbd;have Hb4:=Lh (Hb1.out.trans (hbd.mono hz1));have hbw:b < w3.heap.size:=by have:=hbd.size;omega
      clear hb2 hd HC2 hbd;go_wp2;go_ret2;exact ⟨by rw [HR2.out,← Hz.out,← Hez.out];rfl,Hb4.out⟩)
   | (go_wp2
      go_ret2;exact ⟨by rw [HE1.out];rfl,Hb3.out⟩)
 ·have t1:(ey != 0)=true:=by rw [bne_iff_ne];exact h1
  have HR2:Hid (R=(ey,false)):=by show _=_;rw [HR.out,Zcw (by rw [← Hey.out];exact h1),← Hey.out]
  have HF:=Lh h1;clear h1;go_wp2;go_ret2;exact ⟨by rw [HR2.out,Zdj HF.out];rfl,Hb3.out⟩
theorem Z28 (k:Nat) (ra nm:ByteArray) (d:Int) (ad:Option Addr) (cap:Nat) (E:EvD) (day:Int) (w:World) (hE:E.Rd w) (hk:k=15) (y:Ex) (hs:RdE w [y] (.slice ad 1 cap)) (HY:PRH E day y) :
  Calls Tryz.prog 103 #[.agg #[.int .u8 (k:Int),.string ra,.string nm,.int .i64 d,.slice ad 1 cap],.int .i64 day,.agg #[.slice E.af E.F.length E.cf,.slice E.ac E.C.length E.cc]] w fun e w'=>e = .returned (.tuple #[.bool (Zaw false (andR (y.hold E.F day) false fun b=>(0,!b))).2,.int .i64 (andR (y.hold E.F day) false fun b=>(0,!b)).1])∧Below w.heap.size w w':=by
 obtain ⟨b,off,rfl⟩:=hs.addr (by simp);obtain ⟨a1,n1,r1,k1,hbl,cY⟩:=hs.nth (j:=0) rfl off (by omega);obtain ⟨W1,hW1,hb1,hB⟩:=Zgv w k ra nm d (.slice (some ⟨b,off,none⟩) 1 cap) E;have HC1:=Lh fun W (hb:Below W1.heap.size W1 W)=>HY W _ ((hE.frame hb1).frame hb) ((r1.frame hb1).frame hb) k1
 have HKy:=Lh (hB.keep hb1 cY);have hz1:=hb1.size;have hbl1:b < W1.heap.size:=by omega
 have x0:=hB.all.1;have tk13:decide ((13:Int)≤(k:Int))=true:=by rw [hk];rfl
 have tl13:(13:Int)≤(k:Int):=by omega
 have tk15:((k:Int) == 15)=true:=by rw [hk];rfl
 clear hk;have HB:=Lh hB;have Hb1:=Lh hb1;clear HY hs hE r1 cY hb1 hB;generalize y.hold E.F day=Ry at *;obtain ⟨vy,ey,hvy,hey⟩:=Zbz false Ry;rw [← hvy,← hey] at HC1;have Hy:=Lh hvy;have Hey:=Lh hey;clear hvy hey;have hd:Below W1.heap.size W1 W1.drew:=(Below.refl _ _).drew;go_enter Tryz.func103,Tryz.ntmps103
 go_upto_region 1 with (fail);clear hW1;go_upto_region 2 with (fail);go_region_held3 (fun w'=>VBc w' w.heap.size k ra nm d (.slice (some ⟨b,off,none⟩) 1 cap) E∧E5 w' b off y (.slice a1 y.sub.length n1)) (first | exact HKy.out _ hbd | exact HKy.out _ hd | go_keep)
  (first | (go_at_call 103;refine (HC1.out _ hd).mono ?_;rintro e w2 ⟨rfl,hb2⟩;have hbd:=hd.trans (hb2.mono hd.size)))
 have Hb13:=Lh hbd;have Hb3:=Lh (Hb1.out.trans (hbd.mono hz1));have hbw:b < w2.heap.size:=by have:=hbd.size;omega
 clear hb2 hd HC1 hbd;by_cases h1:ey=0
 ·subst h1;have HR:Hid ((andR (Ry) false fun b=>(0,!b))=(0,!vy)):=by show _=_;rw [Zbo Hey.out.symm,Hy.out,Zbv Hey.out.symm]
  go_wp2;go_ret2;exact ⟨by rw [HR.out];rfl,Hb3.out⟩
 ·have t1:(ey != 0)=true:=by rw [bne_iff_ne];exact h1
  have HR:Hid ((andR (Ry) false fun b=>(0,!b))=(ey,false)):=by show _=_;rw [Zcw (by rw [← Hey.out];exact h1),← Hey.out]
  have HF:=Lh h1;clear h1;go_wp2;go_ret2;exact ⟨by rw [HR.out,Zdj HF.out];rfl,Hb3.out⟩
theorem Z27 (k:Nat) (ra nm:ByteArray) (d:Int) (ad:Option Addr) (cap:Nat) (E:EvD) (day:Int) (w:World) (hE:E.Rd w) (hk:k=11∨k=12) (y z:Ex) (hs:RdE w [y,z] (.slice ad 2 cap)) (HY:PRV E day y) (HZ:PRV E day z) (hvy:(y.value E.F day).1=0→Zah (y.value E.F day).2=0) (hvz:(z.value E.F day).1=0→Zah (z.value E.F day).2=0) :
  Calls Tryz.prog 103 #[.agg #[.int .u8 (k:Int),.string ra,.string nm,.int .i64 d,.slice ad 2 cap],.int .i64 day,.agg #[.slice E.af E.F.length E.cf,.slice E.ac E.C.length E.cc]] w fun e w'=>e = .returned (.tuple #[.bool (Zaw false (andR (y.value E.F day) false fun a=>andR (z.value E.F day) false fun b=>cmpK k a b)).2,.int .i64 (andR (y.value E.F day) false fun a=>andR (z.value E.F day) false fun b=>cmpK k a b).1])∧Below w.heap.size w w':=by
 obtain ⟨b,off,rfl⟩:=hs.addr (by simp);obtain ⟨a1,n1,r1,k1,hbl,cY⟩:=hs.nth (j:=0) rfl off (by omega);obtain ⟨a2,n2,r2,k2,_,cZ⟩:=hs.nth (j:=1) rfl (off+5) (by omega);obtain ⟨W1,hW1,hb1,hB⟩:=Zgv w k ra nm d (.slice (some ⟨b,off,none⟩) 2 cap) E;have HC1:=Lh fun W (hb:Below W1.heap.size W1 W)=>HY W _ ((hE.frame hb1).frame hb) ((r1.frame hb1).frame hb) k1
 have HKy:=Lh (hB.keep hb1 cY);have HC2:=Lh fun W (hb:Below W1.heap.size W1 W)=>HZ W _ ((hE.frame hb1).frame hb) ((r2.frame hb1).frame hb) k2
 have HKz:=Lh (hB.keep hb1 cZ);have hz1:=hb1.size;have hbl1:b < W1.heap.size:=by omega
 have x0:=hB.all.1;have tk13:decide ((13:Int)≤(k:Int))=false:=decide_eq_false (by omega);have tl13 : ¬ (13:Int)≤(k:Int):=by omega
 have HK:=Lh hk;have Hvy:=Lh hvy;have Hvz:=Lh hvz;clear hk hvy hvz;have HB:=Lh hB;have Hb1:=Lh hb1;clear HY HZ hs hE r1 cY r2 cZ hb1 hB;generalize y.value E.F day=Ry at *;obtain ⟨vy,ey,hvy,hey⟩:=Zbz ByteArray.empty Ry;rw [← hvy,← hey] at HC1;have Hy:=Lh hvy;have Hey:=Lh hey;clear hvy hey;generalize z.value E.F day=Rz at *;obtain ⟨vz,ez,hvz,hez⟩:=Zbz ByteArray.empty Rz;rw [← hvz,← hez] at HC2;have Hz:=Lh hvz
 have Hez:=Lh hez;clear hvz hez;have hd:Below W1.heap.size W1 W1.drew:=(Below.refl _ _).drew;go_enter Tryz.func103,Tryz.ntmps103
 go_upto_region 1 with (fail);clear hW1;go_upto_region 11 with (fail);go_region_held3 (fun w'=>VBc w' w.heap.size k ra nm d (.slice (some ⟨b,off,none⟩) 2 cap) E∧E5 w' b off y (.slice a1 y.sub.length n1)) (first | exact HKy.out _ hbd | exact HKy.out _ hd | go_keep)
  (first | (go_at_call 100;refine (HC1.out _ hd).mono ?_;rintro e w2 ⟨rfl,hb2⟩;have hbd:=hd.trans (hb2.mono hd.size)))
 have Hb13:=Lh hbd;have Hb3:=Lh (Hb1.out.trans (hbd.mono hz1));have hbw:b < w2.heap.size:=by have:=hbd.size;omega
 clear hb2 hd HC1 hbd;by_cases h1:ey=0
 ·subst h1;have hd:Below W1.heap.size W1 w2.drew:=Hb13.out.drew;go_upto_region 14 with (fail);go_region_held3 (fun w'=>VBc w' w.heap.size k ra nm d (.slice (some ⟨b,off,none⟩) 2 cap) E∧E5 w' b (off+5) z (.slice a2 z.sub.length n2)) (first | exact HKz.out _ hbd | exact HKz.out _ hd | go_keep)
   (first | (go_at_call 100;refine (HC2.out _ hd).mono ?_;rintro e w3 ⟨rfl,hb2⟩;have hbd:=hd.trans (hb2.mono hd.size)))
  have Hb14:=Lh hbd;have Hb4:=Lh (Hb1.out.trans (hbd.mono hz1));have hbw:b < w3.heap.size:=by have:=hbd.size;omega
  clear hb2 hd HC2 hbd;by_cases h2:ez=0
  ·subst h2;have HE1:Hid (vy=Ry.2):=by show _=_;rw [Hy.out,Zbv Hey.out.symm]
   have HE2:Hid (vz=Rz.2):=by show _=_;rw [Hz.out,Zbv Hez.out.symm]
   have q1:Zah vy=0:=by rw [HE1.out];exact Hvy.out Hey.out.symm
   have q2:Zah vz=0:=by rw [HE2.out];exact Hvz.out Hez.out.symm
   have HR:Hid ((andR (Ry) false fun a=>andR (Rz) false fun b=>cmpK k a b)=(cmpE vy vz,if k=11 then decide (cmpV vy vz < 0) else decide (cmpV vy vz=0))):=by show _=_;rw [Zbo Hey.out.symm,Zbo Hez.out.symm,HE1.out,HE2.out];rfl
   have HO:=Lh (Znn vy vz w3 (Nat.le_trans (Zc5 q1).1 (by decide)) (Nat.le_trans (Zc5 q2).1 (by decide)));clear q1 q2 HE1 HE2 Hvy Hvz Hy Hz Hey Hez HKy HKz;generalize cmpE vy vz=er at *;generalize cmpV vy vz=o at *;go_wp2_with fail;refine HO.out.mono ?_;rintro e w4 ⟨rfl,hb4⟩;have hbz:=Hb4.out.trans (hb4.mono Hb4.out.size);clear HO;have y0:=((HB.out.below Hb14.out).below hb4).all.1;by_cases hr:er=0
   ·subst hr;rcases HK.out with rfl | rfl
    ·cases ho:decide (o < 0)
     all_goals
      rw [if_pos rfl,ho] at HR;go_wp2;go_ret2;exact ⟨by rw [HR.out];rfl,hbz⟩
    ·cases ho:o == 0
     all_goals
      rw [if_neg (by decide),show decide (o=0)=(o == 0) from rfl,ho] at HR;go_wp2;go_ret2;exact ⟨by rw [HR.out];rfl,hbz⟩
   ·have t1:(er != 0)=true:=by rw [bne_iff_ne];exact hr
    have HF:=Lh hr;clear hr;go_wp2;go_ret2;exact ⟨by rw [HR.out,Zdj HF.out];rfl,hbz⟩
  ·have t1:(ez != 0)=true:=by rw [bne_iff_ne];exact h2
   have HR:Hid ((andR (Ry) false fun a=>andR (Rz) false fun b=>cmpK k a b)=(ez,false)):=by show _=_;rw [Zbo Hey.out.symm,Zcw (by rw [← Hez.out];exact h2),← Hez.out]
   have HF:=Lh h2;clear h2;go_wp2;go_ret2;exact ⟨by rw [HR.out,Zdj HF.out];rfl,Hb4.out⟩
 ·have t1:(ey != 0)=true:=by rw [bne_iff_ne];exact h1
  have HR:Hid ((andR (Ry) false fun a=>andR (Rz) false fun b=>cmpK k a b)=(ey,false)):=by show _=_;rw [Zcw (by rw [← Hey.out];exact h1),← Hey.out]
  have HF:=Lh h1;clear h1;go_wp2;go_ret2;exact ⟨by rw [HR.out,Zdj HF.out];rfl,Hb3.out⟩
theorem Z2b (k:Nat) (ra nm:ByteArray) (d:Int) (ad:Option Addr) (cap:Nat) (E:EvD) (day:Int) (w:World) (hE:E.Rd w) (hk:k=9) (p y z:Ex) (hs:RdE w [p,y,z] (.slice ad 3 cap)) (HP:PRH E day p) (HY:PRV E day y) (HZ:PRV E day z) :
  Calls Tryz.prog 100 #[.agg #[.int .u8 (k:Int),.string ra,.string nm,.int .i64 d,.slice ad 3 cap],.int .i64 day,.agg #[.slice E.af E.F.length E.cf,.slice E.ac E.C.length E.cc]] w fun e w'=>e = .returned (.tuple #[.string (Zaw ByteArray.empty (andR (p.hold E.F day) ByteArray.empty fun b=>if b=true then y.value E.F day else z.value E.F day)).2,.int .i64 (andR (p.hold E.F day) ByteArray.empty fun b=>if b=true then y.value E.F day else z.value E.F day).1])∧Below w.heap.size w w':=by
 obtain ⟨b,off,rfl⟩:=hs.addr (by simp);obtain ⟨a1,n1,r1,k1,hbl,cP⟩:=hs.nth (j:=0) rfl off (by omega);obtain ⟨a2,n2,r2,k2,_,cY⟩:=hs.nth (j:=1) rfl (off+5) (by omega);obtain ⟨a3,n3,r3,k3,_,cZ⟩:=hs.nth (j:=2) rfl (off+10) (by omega);obtain ⟨W1,hW1,hb1,hB⟩:=Zgv w k ra nm d (.slice (some ⟨b,off,none⟩) 3 cap) E;have HC1:=Lh fun W (hb:Below W1.heap.size W1 W)=>HP W _ ((hE.frame hb1).frame hb) ((r1.frame hb1).frame hb) k1
 have HKp:=Lh (hB.keep hb1 cP);have HC2:=Lh fun W (hb:Below W1.heap.size W1 W)=>HY W _ ((hE.frame hb1).frame hb) ((r2.frame hb1).frame hb) k2
 have HKy:=Lh (hB.keep hb1 cY);have HC3:=Lh fun W (hb:Below W1.heap.size W1 W)=>HZ W _ ((hE.frame hb1).frame hb) ((r3.frame hb1).frame hb) k3
 have HKz:=Lh (hB.keep hb1 cZ);have hz1:=hb1.size;have hbl1:b < W1.heap.size:=by omega
 have x0:=hB.all.1;have tk1:((k:Int) == 1)=false:=by rw [hk];rfl
 have tk2:((k:Int) == 2)=false:=by rw [hk];rfl
 have tk3:((k:Int) == 3)=false:=by rw [hk];rfl
 have tk9:((k:Int) == 9)=true:=by rw [hk];rfl
 clear hk;have HB:=Lh hB;have Hb1:=Lh hb1;clear HP HY HZ hs hE r1 cP r2 cY r3 cZ hb1 hB;generalize p.hold E.F day=Rp at *;obtain ⟨vp,ep,hvp,hep⟩:=Zbz false Rp;rw [← hvp,← hep] at HC1;have Hp:=Lh hvp;have Hep:=Lh hep;clear hvp hep;generalize y.value E.F day=Ry at *;obtain ⟨vy,ey,hvy,hey⟩:=Zbz ByteArray.empty Ry;rw [← hvy,← hey] at HC2;have Hy:=Lh hvy;have Hey:=Lh hey;clear hvy hey;generalize z.value E.F day=Rz at *
 obtain ⟨vz,ez,hvz,hez⟩:=Zbz ByteArray.empty Rz;rw [← hvz,← hez] at HC3;have Hz:=Lh hvz;have Hez:=Lh hez;clear hvz hez;have hd:Below W1.heap.size W1 W1.drew:=(Below.refl _ _).drew;go_enter Tryz.func100,Tryz.ntmps100
 go_upto_region 1 with (fail);clear hW1;go_upto_region 11 with (fail);go_region_held3 (fun w'=>VBc w' w.heap.size k ra nm d (.slice (some ⟨b,off,none⟩) 3 cap) E∧E5 w' b off p (.slice a1 p.sub.length n1)) (first | exact HKp.out _ hbd | exact HKp.out _ hd | go_keep)
  (first | (go_at_call 103;refine (HC1.out _ hd).mono ?_;rintro e w2 ⟨rfl,hb2⟩;have hbd:=hd.trans (hb2.mono hd.size)))
 have Hb13:=Lh hbd;have Hb3:=Lh (Hb1.out.trans (hbd.mono hz1));have hbw:b < w2.heap.size:=by have:=hbd.size;omega
 clear hb2 hd HC1 hbd;by_cases h1:ep=0
 ·subst h1;have HR:Hid ((andR (Rp) ByteArray.empty fun b=>if b=true then Ry else Rz)=if vp=true then Ry else Rz):=by show _=_;rw [Zbo Hep.out.symm,Hp.out,Zbv Hep.out.symm]
  have hlx:=(HB.out.below Hb13.out).x.lt;have hlv:=(HB.out.below Hb13.out).v.lt;obtain ⟨⟨x0,-,-,-,x4,x5,x6⟩,d0,d1,d2,d3,d4⟩:=HKy.out w2 Hb13.out;obtain ⟨-,c0,c1,c2,c3,c4⟩:=HKz.out w2 Hb13.out
  cases vp
  ·rw [if_neg Bool.false_ne_true] at HR;have hbx:=Zac w2 (.cells #[.int .u8 z.k,.string z.ra,.string z.nm,.int .i64 z.d,.slice a3 z.sub.length n3] 25);have HC:=Lh (HC3.out _ (Hb13.out.trans (hbx.mono Hb13.out.size)));have Hbx:=Lh (Hb3.out.trans (hbx.mono Hb3.out.size));clear hbx HC2 HC3;go_wp2_with fail;refine HC.out.mono ?_;rintro e w4 ⟨rfl,hb4⟩;have hbz:=Hbx.out.trans (hb4.mono Hbx.out.size);clear HC
   go_wp2;go_ret2;exact ⟨by rw [HR.out,← Hz.out,← Hez.out];rfl,hbz⟩
  ·rw [if_pos rfl] at HR;have hbx:=Zac w2 (.cells #[.int .u8 y.k,.string y.ra,.string y.nm,.int .i64 y.d,.slice a2 y.sub.length n2] 25);have HC:=Lh (HC2.out _ (Hb13.out.trans (hbx.mono Hb13.out.size)));have Hbx:=Lh (Hb3.out.trans (hbx.mono Hb3.out.size));clear hbx HC2 HC3;go_wp2_with fail;refine HC.out.mono ?_;rintro e w4 ⟨rfl,hb4⟩;have hbz:=Hbx.out.trans (hb4.mono Hbx.out.size);clear HC;go_wp2;go_ret2
   exact ⟨by rw [HR.out,← Hy.out,← Hey.out];rfl,hbz⟩
 ·have t1:(ep != 0)=true:=by rw [bne_iff_ne];exact h1
  have HR:Hid ((andR (Rp) ByteArray.empty fun b=>if b=true then Ry else Rz)=(ep,ByteArray.empty)):=by show _=_;rw [Zcw (by rw [← Hep.out];exact h1),← Hep.out]
  have HF:=Lh h1;clear h1;go_wp2;go_ret2;exact ⟨by rw [HR.out,Zdj HF.out];rfl,Hb3.out⟩
theorem Zge (E:EvD) (day:Int) (hF:∀ f ∈ E.F,Zah f.vl=0):∀ (N:Nat) (x:Ex),x.bulk≤N→(x.sort=1→PRV E day x)∧(x.sort=2→PRH E day x)
 | 0,x,hN=>by have:=x.sub_lt;omega
 | N+1,.mk k ra nm d l,hN=>by
  have IH:∀ y ∈ l,(y.sort=1→PRV E day y)∧(y.sort=2→PRH E day y):=fun y hy=>Zge E day hF N y (by have:=Ex.mem_lt (x:=.mk k ra nm d l) hy;omega)
  refine ⟨fun hs W s hE hr hk=>?_,fun hs W s hE hr hk=>?_⟩
  ·obtain ⟨ad,cap,rfl⟩:=hr.len;rcases Zh3 hs with ⟨rfl,rfl,h3⟩ | ⟨rfl,rfl⟩ | ⟨rfl,rfl⟩ | ⟨rfl,p,y,z,rfl,h1,h2,h3⟩ | ⟨h4,h8,y,z,rfl,h1,h2⟩
   ·have e:(Ex.mk 1 ra nm d []).value E.F day=(0,ra):=by simp [Ex.value]
    rw [e];exact Z3b 1 ra nm d ad cap E day W rfl
   ·have e:(Ex.mk 2 ra nm d []).value E.F day=fixR E.F nm d:=by simp [Ex.value]
    rw [e,Zlz];exact Z0s 2 ra nm d ad cap E day W hE d (.inl ⟨rfl,rfl⟩)
   ·have e:(Ex.mk 3 ra nm d []).value E.F day=fixR E.F nm day:=by simp [Ex.value]
    rw [e,Zlz];exact Z0s 3 ra nm d ad cap E day W hE day (.inr ⟨rfl,rfl⟩)
   ·have e:(Ex.mk 9 ra nm d [p,y,z]).value E.F day=andR (p.hold E.F day) ByteArray.empty fun b=>if b=true then y.value E.F day else z.value E.F day:=by
     rw [Ex.value,if_neg (by decide),if_neg (by decide),if_neg (by decide)]
    rw [e];exact Z2b 9 ra nm d ad cap E day W hE rfl p y z hr ((IH p (by simp)).2 h1) ((IH y (by simp)).1 h2) ((IH z (by simp)).1 h3)
   ·have e:(Ex.mk k ra nm d [y,z]).value E.F day=andR (y.value E.F day) ByteArray.empty fun a=>andR (z.value E.F day) ByteArray.empty fun b=>op2 k a b:=by
     rw [Ex.value,if_neg (by omega),if_neg (by omega),if_neg (by omega)]
    rw [e];exact Z3c k ra nm d ad cap E day W hE h4 h8 y z hr ((IH y (by simp)).1 h1) ((IH z (by simp)).1 h2) (Zet hF day _ y (Nat.le_refl _) h1) (Zet hF day _ z (Nat.le_refl _) h2)
  ·obtain ⟨ad,cap,rfl⟩:=hr.len;rcases Zlf hs with ⟨hk',y,z,rfl,h1,h2⟩ | ⟨hk',y,z,rfl,h1,h2⟩ | ⟨rfl,y,rfl,h1⟩
   ·have e:(Ex.mk k ra nm d [y,z]).hold E.F day=andR (y.value E.F day) false fun a=>andR (z.value E.F day) false fun b=>cmpK k a b:=by
     rw [Ex.hold,if_neg (by omega),if_neg (by omega)];rfl
    rw [e];exact Z27 k ra nm d ad cap E day W hE hk' y z hr ((IH y (by simp)).1 h1) ((IH z (by simp)).1 h2) (Zet hF day _ y (Nat.le_refl _) h1) (Zet hF day _ z (Nat.le_refl _) h2)
   ·rcases hk' with rfl | rfl
    ·exact Z0r 13 ra nm d ad cap E day W hE false (.inl ⟨rfl,rfl⟩) y z hr ((IH y (by simp)).2 h1) ((IH z (by simp)).2 h2) _ (by rw [Ex.hold,if_pos rfl];congr 1;funext b;cases b <;> rfl)
    ·exact Z0r 14 ra nm d ad cap E day W hE true (.inr ⟨rfl,rfl⟩) y z hr ((IH y (by simp)).2 h1) ((IH z (by simp)).2 h2) _ (by rw [Ex.hold,if_neg (by decide),if_pos rfl];congr 1;funext b;cases b <;> rfl)
   ·have e:(Ex.mk 15 ra nm d [y]).hold E.F day=andR (y.hold E.F day) false fun b=>(0,!b):=by rw [Ex.hold]
    rw [e];exact Z28 15 ra nm d ad cap E day W hE rfl y hr ((IH y (by simp)).2 h1)
abbrev CBc (W:World) (B:Nat) (c:Con) (es dd ss:Value) (E:EvD):Prop:=W.cell? ⟨B,0,none⟩=some (.int .u8 c.k)∧W.cell? ⟨B,1,none⟩=some (.string c.fr)∧W.cell? ⟨B,2,none⟩=some (.string c.rc)∧W.cell? ⟨B,3,none⟩=some (.string c.nm)∧W.cell? ⟨B,4,none⟩=some (.int .u8 c.ex.k)∧W.cell? ⟨B,5,none⟩=some (.string c.ex.ra)∧W.cell? ⟨B,6,none⟩=some (.string c.ex.nm)∧W.cell? ⟨B,7,none⟩=some (.int .i64 c.ex.d)∧W.cell? ⟨B,8,none⟩=some (es)∧W.cell? ⟨B,9,none⟩=some (.int .i64 c.d)∧W.cell? ⟨B,10,none⟩=some (dd)∧W.cell? ⟨B,11,none⟩=some (ss)∧W.cell? ⟨B+1,0,none⟩=some (.slice E.af E.F.length E.cf)∧W.cell? ⟨B+1,1,none⟩=some (.slice E.ac E.C.length E.cc)
abbrev E12 (W:World) (b o:Nat) (x:Con) (s1 s2 s3:Value):Prop:=W.cell? ⟨b,o,none⟩=some (.int .u8 x.k)∧W.cell? ⟨b,o+1,none⟩=some (.string x.fr)∧W.cell? ⟨b,o+2,none⟩=some (.string x.rc)∧W.cell? ⟨b,o+3,none⟩=some (.string x.nm)∧W.cell? ⟨b,o+4,none⟩=some (.int .u8 x.ex.k)∧W.cell? ⟨b,o+5,none⟩=some (.string x.ex.ra)∧W.cell? ⟨b,o+6,none⟩=some (.string x.ex.nm)∧W.cell? ⟨b,o+7,none⟩=some (.int .i64 x.ex.d)∧W.cell? ⟨b,o+8,none⟩=some (s1)∧W.cell? ⟨b,o+9,none⟩=some (.int .i64 x.d)∧W.cell? ⟨b,o+10,none⟩=some (s2)∧W.cell? ⟨b,o+11,none⟩=some (s3)
structure CB (W:World) (B:Nat) (c:Con) (es dd ss:Value) (E:EvD):Prop where
 c:BoxN W B 29 (c.cells es dd ss)
 v:BoxN W (B+1) 33 [.slice E.af E.F.length E.cf,.slice E.ac E.C.length E.cc]
theorem CB.below {W W':World} {B:Nat} {c:Con} {es dd ss:Value} {E:EvD} (h:CB W B c es dd ss E) (hb:Below W.heap.size W W'):CB W' B c es dd ss E:=⟨h.c.below hb h.c.lt,h.v.below hb h.v.lt⟩
theorem Zb2 (w:World) (c:Con) (es dd ss:Value) (E:EvD):∃ W,(w.alloc (.cells #[.int .u8 c.k,.string c.fr,.string c.rc,.string c.nm,.int .u8 c.ex.k,.string c.ex.ra,.string c.ex.nm,.int .i64 c.ex.d,es,.int .i64 c.d,dd,ss] 29)).alloc (.cells #[.slice E.af E.F.length E.cf,.slice E.ac E.C.length E.cc] 33)=W∧Below w.heap.size w W∧CB W w.heap.size c es dd ss E:=by
 refine ⟨_,rfl,Zaz _ _ _,(BoxN.new w (c.cells es dd ss) 29).alloc _,?_⟩;have:=BoxN.new (w.alloc (.cells (c.cells es dd ss).toArray 29)) [.slice E.af E.F.length E.cf,.slice E.ac E.C.length E.cc] 33
 rw [World.size_alloc] at this;exact this
theorem CB.all {W:World} {B:Nat} {c:Con} {es dd ss:Value} {E:EvD} (h:CB W B c es dd ss E):CBc W B c es dd ss E :=
 ⟨h.c.cell (j:=0) rfl,h.c.cell (j:=1) rfl,h.c.cell (j:=2) rfl,h.c.cell (j:=3) rfl,h.c.cell (j:=4) rfl,h.c.cell (j:=5) rfl,h.c.cell (j:=6) rfl,h.c.cell (j:=7) rfl,h.c.cell (j:=8) rfl,h.c.cell (j:=9) rfl,h.c.cell (j:=10) rfl,h.c.cell (j:=11) rfl,h.v.cell (j:=0) rfl,h.v.cell (j:=1) rfl⟩
theorem CB.keep {W:World} {B:Nat} {c x:Con} {es dd ss s1 s2 s3:Value} {E:EvD} {b o:Nat} (h:CB W B c es dd ss E) (hx:∀ W',Below W.heap.size W W'→E12 W' b o x s1 s2 s3) (W':World) (hb:Below W.heap.size W W'):CBc W' B c es dd ss E∧E12 W' b o x s1 s2 s3 :=
 ⟨(h.below hb).all,hx W' hb⟩
theorem Zvj {W:World} {B:Nat} {t:TypeId} {v0 v1 v2 v3 v4 v5 v6 v7 v8 v9 v10 v11:Value} (h:BoxN W B t [v0,v1,v2,v3,v4,v5,v6,v7,v8,v9,v10,v11]):W.cell? ⟨B,0,none⟩=some v0∧W.cell? ⟨B,1,none⟩=some v1∧W.cell? ⟨B,2,none⟩=some v2∧W.cell? ⟨B,3,none⟩=some v3∧W.cell? ⟨B,4,none⟩=some v4∧W.cell? ⟨B,5,none⟩=some v5∧W.cell? ⟨B,6,none⟩=some v6∧W.cell? ⟨B,7,none⟩=some v7∧W.cell? ⟨B,8,none⟩=some v8∧W.cell? ⟨B,9,none⟩=some v9∧W.cell? ⟨B,10,none⟩=some v10∧W.cell? ⟨B,11,none⟩=some v11 :=
 ⟨h.cell (j:=0) rfl,h.cell (j:=1) rfl,h.cell (j:=2) rfl,h.cell (j:=3) rfl,h.cell (j:=4) rfl,h.cell (j:=5) rfl,h.cell (j:=6) rfl,h.cell (j:=7) rfl,h.cell (j:=8) rfl,h.cell (j:=9) rfl,h.cell (j:=10) rfl,h.cell (j:=11) rfl⟩
theorem Z2z {W:World} {B:Nat} {t:TypeId} {l:List Value} (h:BoxN W B t l):W.frozen? ⟨B,0,none⟩=false∧W.frozen? ⟨B,1,none⟩=false∧W.frozen? ⟨B,2,none⟩=false∧W.frozen? ⟨B,3,none⟩=false∧W.frozen? ⟨B,4,none⟩=false∧W.frozen? ⟨B,5,none⟩=false∧W.frozen? ⟨B,6,none⟩=false∧W.frozen? ⟨B,7,none⟩=false∧W.frozen? ⟨B,8,none⟩=false∧W.frozen? ⟨B,9,none⟩=false∧W.frozen? ⟨B,10,none⟩=false∧W.frozen? ⟨B,11,none⟩=false :=
 ⟨h.frozen 0,h.frozen 1,h.frozen 2,h.frozen 3,h.frozen 4,h.frozen 5,h.frozen 6,h.frozen 7,h.frozen 8,h.frozen 9,h.frozen 10,h.frozen 11⟩
theorem Zq1 (c:Con) (a1 a2 a3:Option Addr) (n1 n2 n3:Nat) (day fin:Int) (E:EvD) (w:World) (h:FlH c (.slice a1 c.ex.sub.length n1) (.slice a2 c.ds.length n2) (.slice a3 c.sub.length n3) E w) :
  Calls Tryz.prog 105 #[.agg #[.int .u8 c.k,.string c.fr,.string c.rc,.string c.nm,.int .u8 c.ex.k,.string c.ex.ra,.string c.ex.nm,.int .i64 c.ex.d,.slice a1 c.ex.sub.length n1,.int .i64 c.d,.slice a2 c.ds.length n2,.slice a3 c.sub.length n3],.int .i64 day,.int .i64 fin,.agg #[.slice E.af E.F.length E.cf,.slice E.ac E.C.length E.cc]] w fun e w'=>e = .returned (.int .i64 (Zb7 (fun e=>(0,Za5 E.C c.fr c.nm e)) day fin c.ds).2)∧Below w.heap.size w w':=by
 obtain ⟨W1,hW1,hb1,hB⟩:=Zb2 w c (.slice a1 c.ex.sub.length n1) (.slice a2 c.ds.length n2) (.slice a3 c.sub.length n3) E;have hz1:=hb1.size;have HB:=Lh hB;have Hb1:=Lh hb1;have HD:Hid (∀ W,Below W1.heap.size W1 W→∀ j d,c.ds[j]? = some d→∃ b off,a2=some ⟨b,off,none⟩∧W.cell? ⟨b,off+j,none⟩=some (.int .i64 d)):=by
  intro W hb j d hj;obtain ⟨ad,cap,e,_,hd⟩:=(h.frame hb1).rd.2.1;obtain ⟨rfl,_,_⟩:=Value.slice.inj e;obtain ⟨b,off,e2,hc⟩:=hd j d hj;exact ⟨b,off,e2,by rw [hb.cell (p:=⟨b,off+j,none⟩) (World.block_lt_of_cell? _ _ hc)];exact hc⟩
 have HC:=Lh (fun W (hb:Below W1.heap.size W1 W) d=>Zi9 ((h.frame hb1).frame hb).e c.fr c.nm d);have HN:=Lh (show c.ds.length≤1100000 by have:=c.bulk_eq;have:=h.bulk;omega);clear h hb1 hB;obtain ⟨Z,hZ⟩:∃ Z,Z=Zb7 (fun e=>(0,Za5 E.C c.fr c.nm e)) day fin c.ds:=⟨_,rfl⟩
 rw [← hZ];have HZ:=Lh hZ;clear hZ;go_enter Tryz.func105,Tryz.ntmps105
 go_upto_region 1 with (fail);clear hW1;go_wp2;go_loopw [9,10] (fun i _ wr=>∃ k:Nat,k≤c.ds.length∧i = .int .i64 (k:Int)∧Hid (Z=Zb7 (fun e=>(0,Za5 E.C c.fr c.nm e)) day fin (c.ds.drop k))∧Below W1.heap.size W1 wr) (fun i _ _=>c.ds.length - (intOf i).toNat)
 case atStart=>exact ⟨0,Nat.zero_le _,rfl,Lh (by rw [List.drop_zero];exact HZ.out),Below.refl _ _⟩
 case round =>
  obtain ⟨k,hk,rfl,HT,hbel⟩:=hrel;clear HZ;have hbz:=Hb1.out.trans (hbel.mono hz1);have hB:=HB.out.below hbel;obtain ⟨-,x1,-,x3,-,-,-,-,-,-,x10,-,xv0,xv1⟩:=hB.all;have hsz:=hbel.size;clear hB;have hnl:=HN.out;by_cases hlt:k < c.ds.length
  ·obtain ⟨d,hd⟩:∃ d,c.ds[k]? = some d:=⟨_,List.getElem?_eq_getElem hlt⟩
   obtain ⟨b,off,rfl,c0⟩:=HD.out wr hbel k d hd;have HT2:Hid (Z=if d < day∨fin≤d then Zb7 (fun e=>(0,Za5 E.C c.fr c.nm e)) day fin (c.ds.drop (k+1)) else andR ((fun e=>(0,Za5 E.C c.fr c.nm e)) d) 0 (fun b=>if b=true then (0,d) else Zb7 (fun e=>(0,Za5 E.C c.fr c.nm e)) day fin (c.ds.drop (k+1)))):=by show _=_;rw [HT.out,Zd1 hd];rfl
   have hk1:(0:Int)≤(k:Int):=by omega
   have hk2:(k:Int) < (c.ds.length:Int):=by omega
   clear hd HT;have HCd:=Lh (HC.out wr hbel d);go_upto_region 5 with (fail);by_cases hy:d < day
   ·have t1:decide (day≤d)=false:=decide_eq_false (by omega);have t2 : ¬ day≤d:=by omega
    have HX:Hid (Z=Zb7 (fun e=>(0,Za5 E.C c.fr c.nm e)) day fin (c.ds.drop (k+1))):=by show _=_;rw [HT2.out,if_pos (.inl hy)]
    clear HT2 HCd hy;go_wp2_with fail;go_roundw
    case rel=>exact ⟨k+1,by omega,by go_num,HX,hbel⟩
    case measure=>simp [intOf];omega
   have t1:decide (day≤d)=true:=decide_eq_true (by omega);have t2:day≤d:=by omega
   by_cases hf:fin≤d
   ·have t3:decide (d < fin)=false:=decide_eq_false (by omega);have t4 : ¬ d < fin:=by omega
    have HX:Hid (Z=Zb7 (fun e=>(0,Za5 E.C c.fr c.nm e)) day fin (c.ds.drop (k+1))):=by show _=_;rw [HT2.out,if_pos (.inr hf)]
    clear HT2 HCd hy hf;go_wp2_with fail;go_roundw
    case rel=>exact ⟨k+1,by omega,by go_num,HX,hbel⟩
    case measure=>simp [intOf];omega
   have t3:decide (d < fin)=true:=decide_eq_true (by omega);have t4:d < fin:=by omega
   have HT3:Hid (Z=andR ((fun e=>(0,Za5 E.C c.fr c.nm e)) d) 0 (fun b=>if b=true then (0,d) else Zb7 (fun e=>(0,Za5 E.C c.fr c.nm e)) day fin (c.ds.drop (k+1)))):=by show _=_;rw [HT2.out,if_neg (by omega)]
   clear HT2 hy hf
   cases hq:Za5 E.C c.fr c.nm d with
   | true =>
    rw [hq] at HCd;have HX:Hid (Z=(0,d)):=by show _=_;rw [HT3.out,andR,if_neg (fun q=>q rfl)];show (if Za5 E.C c.fr c.nm d=true then _ else _)=_;rw [hq];rfl
    clear hq HT3;go_wp2_with (go_at_call 104;refine HCd.out.mono ?_;rintro e w2 ⟨rfl,hb2⟩);go_ret;exact ⟨by rw [HX.out];rfl,hbz.trans (hb2.mono hbz.size)⟩
   | false =>
    rw [hq] at HCd;have HX:Hid (Z=Zb7 (fun e=>(0,Za5 E.C c.fr c.nm e)) day fin (c.ds.drop (k+1))):=by show _=_;rw [HT3.out,andR,if_neg (fun q=>q rfl)];show (if Za5 E.C c.fr c.nm d=true then _ else _)=_;rw [hq];rfl
    clear hq HT3;go_wp2_with (go_at_call 104;refine HCd.out.mono ?_;rintro e w2 ⟨rfl,hb2⟩);go_roundw
    case rel=>exact ⟨k+1,by omega,by go_num,HX,hbel.trans (hb2.mono hbel.size)⟩
    case measure=>simp [intOf];omega
  ·obtain rfl:k=c.ds.length:=by omega
   have HX:Hid (Z=(0,fin)):=by show _=_;rw [HT.out,List.drop_length];rfl
   clear HT;go_wp2;go_ret;exact ⟨by rw [HX.out];rfl,hbz⟩
theorem Zja (c:Con) (a1 a2 a3:Option Addr) (n1 n2 n3:Nat) (day fin:Int) (E:EvD) (w:World) (h:FlH c (.slice a1 c.ex.sub.length n1) (.slice a2 c.ds.length n2) (.slice a3 c.sub.length n3) E w) (hA:c.ex.isA 2=true) :
  Calls Tryz.prog 106 #[.agg #[.int .u8 c.k,.string c.fr,.string c.rc,.string c.nm,.int .u8 c.ex.k,.string c.ex.ra,.string c.ex.nm,.int .i64 c.ex.d,.slice a1 c.ex.sub.length n1,.int .i64 c.d,.slice a2 c.ds.length n2,.slice a3 c.sub.length n3],.int .i64 day,.int .i64 fin,.agg #[.slice E.af E.F.length E.cf,.slice E.ac E.C.length E.cc]] w fun e w'=>e = .returned (.tuple #[.int .i64 (Zb7 (fun e=>c.ex.hold E.F e) day fin c.ds).2,.int .i64 (Zb7 (fun e=>c.ex.hold E.F e) day fin c.ds).1])∧Below w.heap.size w w':=by
 obtain ⟨W1,hW1,hb1,hB⟩:=Zb2 w c (.slice a1 c.ex.sub.length n1) (.slice a2 c.ds.length n2) (.slice a3 c.sub.length n3) E;have hz1:=hb1.size;have HB:=Lh hB;have Hb1:=Lh hb1;have HD:Hid (∀ W,Below W1.heap.size W1 W→∀ j d,c.ds[j]? = some d→∃ b off,a2=some ⟨b,off,none⟩∧W.cell? ⟨b,off+j,none⟩=some (.int .i64 d)):=by
  intro W hb j d hj;obtain ⟨ad,cap,e,_,hd⟩:=(h.frame hb1).rd.2.1;obtain ⟨rfl,_,_⟩:=Value.slice.inj e;obtain ⟨b,off,e2,hc⟩:=hd j d hj;exact ⟨b,off,e2,by rw [hb.cell (p:=⟨b,off+j,none⟩) (World.block_lt_of_cell? _ _ hc)];exact hc⟩
 have HC:=Lh (fun W (hb:Below W1.heap.size W1 W) d=>(show Calls Tryz.prog 103 #[.agg #[.int .u8 c.ex.k,.string c.ex.ra,.string c.ex.nm,.int .i64 c.ex.d,.slice a1 c.ex.sub.length n1],.int .i64 d,.agg #[.slice E.af E.F.length E.cf,.slice E.ac E.C.length E.cc]] W fun e w'=>e = .returned (.tuple #[.bool (Zaw false (c.ex.hold E.F d)).2,.int .i64 (c.ex.hold E.F d).1])∧Below W.heap.size W w' from ((Zge E d (Zel h.ok) c.ex.bulk c.ex (Nat.le_refl _)).2 (Zg1 hA).2) W _ ((h.frame hb1).frame hb).e ((h.frame hb1).frame hb).rd.1 h.rd.2.2.2.2))
 have HN:=Lh (show c.ds.length≤1100000 by have:=c.bulk_eq;have:=h.bulk;omega);clear h hb1 hB hA;obtain ⟨Z,hZ⟩:∃ Z,Z=Zb7 (fun e=>c.ex.hold E.F e) day fin c.ds:=⟨_,rfl⟩
 rw [← hZ];have HZ:=Lh hZ;clear hZ;go_enter Tryz.func106,Tryz.ntmps106
 go_upto_region 1 with (fail);clear hW1;go_wp2;go_loopw [10,11,12,13] (fun i _ _ _ wr=>∃ k:Nat,k≤c.ds.length∧i = .int .i64 (k:Int)∧Hid (Z=Zb7 (fun e=>c.ex.hold E.F e) day fin (c.ds.drop k))∧Below W1.heap.size W1 wr) (fun i _ _ _ _=>c.ds.length - (intOf i).toNat)
 case atStart=>exact ⟨0,Nat.zero_le _,rfl,Lh (by rw [List.drop_zero];exact HZ.out),Below.refl _ _⟩
 case round =>
  obtain ⟨k,hk,rfl,HT,hbel⟩:=hrel;clear HZ;have hbz:=Hb1.out.trans (hbel.mono hz1);have hB:=HB.out.below hbel;obtain ⟨-,-,-,-,x4,x5,x6,x7,x8,-,x10,-,xv0,xv1⟩:=hB.all;have hsz:=hbel.size;clear hB;have hnl:=HN.out;by_cases hlt:k < c.ds.length
  ·obtain ⟨d,hd⟩:∃ d,c.ds[k]? = some d:=⟨_,List.getElem?_eq_getElem hlt⟩
   obtain ⟨b,off,rfl,c0⟩:=HD.out wr hbel k d hd;have HT2:Hid (Z=if d < day∨fin≤d then Zb7 (fun e=>c.ex.hold E.F e) day fin (c.ds.drop (k+1)) else andR ((fun e=>c.ex.hold E.F e) d) 0 (fun b=>if b=true then (0,d) else Zb7 (fun e=>c.ex.hold E.F e) day fin (c.ds.drop (k+1)))):=by show _=_;rw [HT.out,Zd1 hd];rfl
   have hk1:(0:Int)≤(k:Int):=by omega
   have hk2:(k:Int) < (c.ds.length:Int):=by omega
   clear hd HT;have HCd:=Lh (HC.out wr hbel d);go_upto_region 5 with (fail);by_cases hy:d < day
   ·have t1:decide (d < day)=true:=decide_eq_true hy;have HX:Hid (Z=Zb7 (fun e=>c.ex.hold E.F e) day fin (c.ds.drop (k+1))):=by show _=_;rw [HT2.out,if_pos (.inl hy)]
    clear HT2 HCd hy;go_wp2_with fail;go_roundw
    case rel=>exact ⟨k+1,by omega,by go_num,HX,hbel⟩
    case measure=>simp [intOf];omega
   have t1:decide (d < day)=false:=decide_eq_false hy;by_cases hf:fin≤d
   ·have t3:decide (fin≤d)=true:=decide_eq_true hf;have HX:Hid (Z=Zb7 (fun e=>c.ex.hold E.F e) day fin (c.ds.drop (k+1))):=by show _=_;rw [HT2.out,if_pos (.inr hf)]
    clear HT2 HCd hy hf;go_wp2_with fail;go_roundw
    case rel=>exact ⟨k+1,by omega,by go_num,HX,hbel⟩
    case measure=>simp [intOf];omega
   have t3:decide (fin≤d)=false:=decide_eq_false hf;have HT3:Hid (Z=andR ((fun e=>c.ex.hold E.F e) d) 0 (fun b=>if b=true then (0,d) else Zb7 (fun e=>c.ex.hold E.F e) day fin (c.ds.drop (k+1)))):=by show _=_;rw [HT2.out,if_neg (by omega)]
   clear HT2 hy hf;dsimp only at HT3
   generalize c.ex.hold E.F d=R at HT3 HCd;by_cases h0:R.1=0
   ·rw [Zbv h0,h0] at HCd;have HT4:Hid (Z=if R.2=true then (0,d) else Zb7 (fun e=>c.ex.hold E.F e) day fin (c.ds.drop (k+1))):=by show _=_;rw [HT3.out,andR,if_neg (fun q=>q h0)]
    clear HT3 h0
    cases hq:R.2 with
    | true =>
     rw [hq] at HCd HT4;have HX:Hid (Z=(0,d)):=HT4.out;clear hq HT4;go_wp2_with fail;refine HCd.out.mono ?_;rintro e w2 ⟨rfl,hb2⟩;go_wp2;go_ret2;exact ⟨by rw [HX.out];rfl,hbz.trans (hb2.mono hbz.size)⟩
    | false =>
     rw [hq] at HCd HT4;have HX:Hid (Z=Zb7 (fun e=>c.ex.hold E.F e) day fin (c.ds.drop (k+1))):=HT4.out;clear hq HT4;go_wp2_with fail;refine HCd.out.mono ?_;rintro e w2 ⟨rfl,hb2⟩;go_wp2_with fail;go_roundw
     case rel=>exact ⟨k+1,by omega,by go_num,HX,hbel.trans (hb2.mono hbel.size)⟩
     case measure=>simp [intOf];omega
   ·have t5:(R.1 != 0)=true:=by rw [bne_iff_ne];exact h0
    have HX:Hid (Z=(R.1,0)):=by show _=_;rw [HT3.out,andR,if_pos h0]
    clear HT3 h0;go_wp2_with fail;refine HCd.out.mono ?_;rintro e w2 ⟨rfl,hb2⟩;go_wp2;go_ret2;exact ⟨by rw [HX.out];rfl,hbz.trans (hb2.mono hbz.size)⟩
  ·obtain rfl:k=c.ds.length:=by omega
   have HX:Hid (Z=(0,fin)):=by show _=_;rw [HT.out,List.drop_length];rfl
   clear HT;go_wp2;go_ret2;exact ⟨by rw [HX.out];rfl,hbz⟩
def RLP (w:World) (R:Int × List Fl) (e:Ending) (w':World):Prop:=∃ v,e = .returned (.tuple #[v,.int .i64 R.1])∧Zfw w w' (Zaw [] R).2 v∧Below w.heap.size w w'
theorem RLP.err {w w':World} {R:Int × List Fl} {er:Int} {l:List Fl} (h:R=(er,l)) (he:er ≠ 0) (hb:Below w.heap.size w w'):RLP w R (.returned (.tuple #[.slice none 0 0,.int .i64 er])) w':=by
 subst h;exact ⟨_,rfl,by rw [Zdj he];exact Zkt _ _,hb⟩
theorem RLP.nil {w w':World} {R:Int × List Fl} (h:R=(0,[])) (hb:Below w.heap.size w w'):RLP w R (.returned (.tuple #[.slice none 0 0,.int .i64 0])) w':=by
 subst h;exact ⟨_,rfl,Zkt _ _,hb⟩
theorem RLP.of {w w1 w':World} {R Rx:Int × List Fl} {l:List Fl} {er:Int} {ad:Option Addr} {cp:Nat} (h:R=Rx) (hl:l=(Zaw [] Rx).2) (he:er=Rx.1) (ho:w'.ownsRow w1.heap.size 52 5 (.slice ad l.length cp) l.length (l.flatMap Fl.cells)) (hs:w.heap.size≤w1.heap.size) (hb:Below w.heap.size w w'):RLP w R (.returned (.tuple #[.slice ad l.length cp,.int .i64 er])) w':=by
 subst h hl he;exact ⟨_,rfl,⟨⟨_,_,rfl⟩,Zat ho hs⟩,hb⟩
def PRL (E:EvD) (x:Con):Prop:=∀ es dd ss day fin W,FlH x es dd ss E W→0≤day→fin≤100000→Calls Tryz.prog 48 #[x.val es dd ss,.int .i64 day,.int .i64 fin,.agg #[.slice E.af E.F.length E.cf,.slice E.ac E.C.length E.cc]] W (RLP W (x.flows E.F E.C day fin))
theorem Z29 (c:Con) (a1 a2 a3:Option Addr) (n1 n2 n3:Nat) (day fin:Int) (E:EvD) (w:World) (hn:fin≤day) (R:Int × List Fl) (hRR:R=(0,[])) :
  Calls Tryz.prog 48 #[.agg #[.int .u8 c.k,.string c.fr,.string c.rc,.string c.nm,.int .u8 c.ex.k,.string c.ex.ra,.string c.ex.nm,.int .i64 c.ex.d,.slice a1 c.ex.sub.length n1,.int .i64 c.d,.slice a2 c.ds.length n2,.slice a3 c.sub.length n3],.int .i64 day,.int .i64 fin,.agg #[.slice E.af E.F.length E.cf,.slice E.ac E.C.length E.cc]] w (RLP w R):=by
 have HRR:=Lh hRR;clear hRR;have hbz:=(Zb2 w c (.slice a1 c.ex.sub.length n1) (.slice a2 c.ds.length n2) (.slice a3 c.sub.length n3) E)
 obtain ⟨W1,hW1,hb1,hB⟩:=hbz;have hn2:decide (fin≤day)=true:=decide_eq_true hn;have HF:Hid (RLP w R (.returned (.tuple #[.slice none 0 0,.int .i64 0])) W1):=RLP.nil HRR.out hb1;clear hn hb1 hB;go_enter Tryz.func48,Tryz.ntmps48
 go_upto_region 1 with (fail);clear hW1;go_wp2;go_ret2;exact HF.out
theorem Z2a (c:Con) (a1 a2 a3:Option Addr) (n1 n2 n3:Nat) (day fin:Int) (E:EvD) (w:World) (h:FlH c (.slice a1 c.ex.sub.length n1) (.slice a2 c.ds.length n2) (.slice a3 c.sub.length n3) E w) (hk:c.k=1) (hn : ¬ fin≤day) (R:Int × List Fl) (hRR:R=(0,[])) :
  Calls Tryz.prog 48 #[.agg #[.int .u8 c.k,.string c.fr,.string c.rc,.string c.nm,.int .u8 c.ex.k,.string c.ex.ra,.string c.ex.nm,.int .i64 c.ex.d,.slice a1 c.ex.sub.length n1,.int .i64 c.d,.slice a2 c.ds.length n2,.slice a3 c.sub.length n3],.int .i64 day,.int .i64 fin,.agg #[.slice E.af E.F.length E.cf,.slice E.ac E.C.length E.cc]] w (RLP w R):=by
 have HRR:=Lh hRR;clear hRR;obtain ⟨W1,hW1,hb1,hB⟩:=Zb2 w c (.slice a1 c.ex.sub.length n1) (.slice a2 c.ds.length n2) (.slice a3 c.sub.length n3) E;have hH:=h.frame hb1;have hz1:=hb1.size;have HB:=Lh hB;have Hb1:=Lh hb1;have HH:=Lh hH;have hn2:decide (fin≤day)=false:=decide_eq_false hn;have HF:Hid (RLP w R (.returned (.tuple #[.slice none 0 0,.int .i64 0])) W1):=RLP.nil HRR.out hb1;have x0:=hB.all.1
 rw [hk] at x0;simp only [Int.cast_ofNat_Int] at x0;clear h hn hb1 hB hH HH hk;go_enter Tryz.func48,Tryz.ntmps48
 go_upto_region 1 with (fail);clear hW1;go_wp2;go_ret2;exact HF.out
theorem Z3a (c:Con) (a1 a2 a3:Option Addr) (n1 n2 n3:Nat) (day fin:Int) (E:EvD) (w:World) (h:FlH c (.slice a1 c.ex.sub.length n1) (.slice a2 c.ds.length n2) (.slice a3 c.sub.length n3) E w) (hk:c.k=2) (hn : ¬ fin≤day) (hA:c.ex.isA 1=true) (R:Int × List Fl) (hRR:R=andR (c.ex.value E.F day) [] fun a=>(0,Zcd day c.fr c.rc c.nm a)) :
  Calls Tryz.prog 48 #[.agg #[.int .u8 c.k,.string c.fr,.string c.rc,.string c.nm,.int .u8 c.ex.k,.string c.ex.ra,.string c.ex.nm,.int .i64 c.ex.d,.slice a1 c.ex.sub.length n1,.int .i64 c.d,.slice a2 c.ds.length n2,.slice a3 c.sub.length n3],.int .i64 day,.int .i64 fin,.agg #[.slice E.af E.F.length E.cf,.slice E.ac E.C.length E.cc]] w (RLP w R):=by
 have HRR:=Lh hRR;clear hRR;obtain ⟨W1,hW1,hb1,hB⟩:=Zb2 w c (.slice a1 c.ex.sub.length n1) (.slice a2 c.ds.length n2) (.slice a3 c.sub.length n3) E;have hH:=h.frame hb1;have hz1:=hb1.size;have HB:=Lh hB;have Hb1:=Lh hb1;have HH:=Lh hH;have hn2:decide (fin≤day)=false:=decide_eq_false hn;have HC1:=Lh (show Calls Tryz.prog 100 #[.agg #[.int .u8 c.ex.k,.string c.ex.ra,.string c.ex.nm,.int .i64 c.ex.d,.slice a1 c.ex.sub.length n1],.int .i64 day,.agg #[.slice E.af E.F.length E.cf,.slice E.ac E.C.length E.cc]] W1 fun e w'=>e = .returned (.tuple #[.string (Zaw ByteArray.empty (c.ex.value E.F day)).2,.int .i64 (c.ex.value E.F day).1])∧Below W1.heap.size W1 w' from ((Zge E day (Zel hH.ok) c.ex.bulk c.ex (Nat.le_refl _)).1 (Zg1 hA).2) W1 _ hH.e hH.rd.1 hH.rd.2.2.2.2)
 have HO:Hid ((c.ex.value E.F day).1=0→Zah (c.ex.value E.F day).2=0):=Zet (Zel hH.ok) day _ c.ex (Nat.le_refl _) (Zg1 hA).2;obtain ⟨x0,x1,x2,x3,x4,x5,x6,x7,x8,-,-,-,xv0,xv1⟩:=hB.all;rw [hk] at x0;simp only [Int.cast_ofNat_Int] at x0;clear h hn hb1 hB hH HH hk hA;generalize c.ex.value E.F day=Rv at *;by_cases h0:Rv.1=0
 ·rw [Zbv h0,h0] at HC1;have HP:=Lh (fun W=>Zsq day c.fr c.rc c.nm Rv.2 (HO.out h0) W);have HR:Hid (R=(0,Zcd day c.fr c.rc c.nm Rv.2)):=by show _=_;rw [HRR.out];exact Zbo h0
  generalize Zcd day c.fr c.rc c.nm Rv.2=lp at HP HR;clear h0 HO;go_enter Tryz.func48,Tryz.ntmps48
  go_upto_region 1 with (fail);clear hW1;go_wp2_with fail;refine HC1.out.mono ?_;rintro e w2 ⟨rfl,hb2⟩;have Hbz:=Lh (Hb1.out.trans (hb2.mono hz1));obtain ⟨-,z1,z2,z3,-⟩:=(HB.out.below hb2).all;clear hb2 HC1 x0 x1 x2 x3 x4 x5 x6 x7 x8 xv0 xv1;go_wp2_with fail;refine (HP.out _).mono ?_;rintro e w3 ⟨v,rfl,⟨⟨ad,cp,rfl⟩,ho⟩,hb3⟩;have HF:Hid (RLP w R (.returned (.tuple #[.slice ad lp.length cp,.int .i64 0])) w3):=RLP.of HR.out rfl rfl ho Hbz.out.size (Hbz.out.trans (hb3.mono Hbz.out.size))
  clear HP ho;go_wp2;go_ret2;exact HF.out
 ·have t1:(Rv.1 != 0)=true:=by rw [bne_iff_ne];exact h0
  have HR:Hid (R=(Rv.1,[])):=by show _=_;rw [HRR.out];exact Zcw h0
  have H0:=Lh h0;clear h0 HO;go_enter Tryz.func48,Tryz.ntmps48
  go_upto_region 1 with (fail);clear hW1;go_wp2_with fail;refine HC1.out.mono ?_;rintro e w2 ⟨rfl,hb2⟩;have HF:=Lh (RLP.err HR.out H0.out (Hb1.out.trans (hb2.mono hz1)));clear HC1 hb2;go_wp2;go_ret2;exact HF.out
theorem Z3o (c:Con) (a1 a2 a3:Option Addr) (n1 n2 n3:Nat) (day fin:Int) (E:EvD) (w:World) (h:FlH c (.slice a1 c.ex.sub.length n1) (.slice a2 c.ds.length n2) (.slice a3 c.sub.length n3) E w) (hk:c.k=6) (hn : ¬ fin≤day) (hf1:fin≤100000) (x:Con) (hd:Zbh c.d=true) (hl:c.sub=[x]) (Hx:PRL E x) (R:Int × List Fl) (hRR:R=if day≤c.d then x.flows E.F E.C c.d fin else (0,[])) :
  Calls Tryz.prog 48 #[.agg #[.int .u8 c.k,.string c.fr,.string c.rc,.string c.nm,.int .u8 c.ex.k,.string c.ex.ra,.string c.ex.nm,.int .i64 c.ex.d,.slice a1 c.ex.sub.length n1,.int .i64 c.d,.slice a2 c.ds.length n2,.slice a3 c.sub.length n3],.int .i64 day,.int .i64 fin,.agg #[.slice E.af E.F.length E.cf,.slice E.ac E.C.length E.cc]] w (RLP w R):=by
 have HRR:=Lh hRR;clear hRR;obtain ⟨W1,hW1,hb1,hB⟩:=Zb2 w c (.slice a1 c.ex.sub.length n1) (.slice a2 c.ds.length n2) (.slice a3 c.sub.length n3) E;have hH:=h.frame hb1;have hz1:=hb1.size;have HB:=Lh hB;have Hb1:=Lh hb1;have HH:=Lh hH;have hn2:decide (fin≤day)=false:=decide_eq_false hn;have hd0:0≤c.d:=by simp [Zbh] at hd;omega
 have hs0:(0:Int) < (c.sub.length:Int):=by rw [hl];simp
 have hm0:0 < c.sub.length:=by rw [hl];simp
 obtain ⟨b,off,rfl⟩:=(hH.rd.2.2.1).addr (by rw [hl];simp);obtain ⟨e1,e4,e2,e5,e3,e6,hrx,hbl,cX⟩:=(hH.rd.2.2.1).nth (j:=0) (x:=x) (by rw [hl];rfl) off (by omega);have HX:=Lh cX;have HKx:=Lh (hB.keep cX);have HC1:=Lh fun W (hb:Below W1.heap.size W1 W)=>Hx _ _ _ c.d fin W ((hH.sub (by rw [hl];simp) hrx).frame hb) hd0 hf1
 obtain ⟨x0,-,-,-,-,-,-,-,-,x9,-,-,xv0,xv1⟩:=hB.all;rw [hk] at x0;simp only [Int.cast_ofNat_Int] at x0;clear h hn hB hH HH hk hd hd0 hf1 Hx hrx cX hl hb1;have hd:Below W1.heap.size W1 W1.drew:=(Below.refl _ _).drew;by_cases hx:day≤c.d
 ·have t1:decide (c.d < day)=false:=decide_eq_false (by omega);have HR:Hid (R=x.flows E.F E.C c.d fin):=by show _=_;rw [HRR.out,if_pos hx]
  clear hx;unfold RLP at HC1;generalize x.flows E.F E.C c.d fin=Rx at *;obtain ⟨lx,hlx⟩:∃ l,l=(Zaw [] Rx).2:=⟨_,rfl⟩
  obtain ⟨ex,hex⟩:∃ l,l=Rx.1:=⟨_,rfl⟩
  rw [← hlx,← hex] at HC1;have Hlx:=Lh hlx;have Hex:=Lh hex;clear hlx hex;go_enter Tryz.func48,Tryz.ntmps48
  go_upto_region 1 with (fail);clear hW1;go_upto_region 45 with (fail);go_region_held3 (fun w'=>CBc w' w.heap.size c (.slice a1 c.ex.sub.length n1) (.slice a2 c.ds.length n2) (.slice (some ⟨b,off,none⟩) c.sub.length n3) E∧E12 w' b off x (.slice e1 x.ex.sub.length e4) (.slice e2 x.ds.length e5) (.slice e3 x.sub.length e6)) (first | exact HKx.out _ hbd | exact HKx.out _ hd | go_keep)
   (first | (go_at_call 48;refine (HC1.out _ hd).mono ?_;rintro e w2 ⟨v,rfl,⟨⟨ad1,cp1,rfl⟩,ho1⟩,hb2⟩;have hbd:=hd.trans (hb2.mono hd.size)))
  have HF:=Lh (RLP.of HR.out Hlx.out Hex.out ho1 hz1 (Hb1.out.trans (hbd.mono hz1)));clear HC1 ho1 hb2 hbd;go_wp2;go_ret2;exact HF.out
 ·have t1:decide (c.d < day)=true:=decide_eq_true (by omega);have HF:Hid (RLP w R (.returned (.tuple #[.slice none 0 0,.int .i64 0])) W1):=RLP.nil (by rw [HRR.out,if_neg hx]) Hb1.out;clear hx HC1;go_enter Tryz.func48,Tryz.ntmps48
  go_upto_region 1 with (fail);clear hW1;go_wp2;go_ret2;exact HF.out
end Go.Proofs.YtknpnhodpgajbaaGreatDoor
