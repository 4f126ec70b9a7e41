/-
  integer.sum.  Printed by tools/gensum.py. integer.Check. (Printed by a program of this work.)
-/
import Derived.Test.YtknpnhodpgajbaaGreatDoorE03
import Derived.Test.YtknpnhodpgajbaaGreatDoorE04
import Derived.Test.YtknpnhodpgajbaaGreatDoorE01
namespace Go.Proofs.YtknpnhodpgajbaaGreatDoor
open Go.RowKit
def sgnv (neg:Bool) (n:Nat):Int:=if neg then -(n:Int) else (n:Int)
def SumPost (w:World) (z:Int) (e:Ending) (w':World):Prop :=
 ∃ neg v rs,e = .returned (.agg #[.bool neg,v])∧Sl w' v 1 rs.length (nums .u32 rs)∧Nrm 1000000000 rs∧sgnv neg (val 1000000000 rs)=z∧Below w.heap.size w w'
theorem sgnv_cut (neg:Bool) (n:Nat) (l:Nat) (h:n=0 ↔ l=0):sgnv (neg && decide (0 < l)) n=sgnv neg n:=by
 by_cases h0:n=0
 ·have:=h.1 h0;subst h0;subst this;cases neg <;> rfl
 ·have : 0 < l := by rcases Nat.eq_zero_or_pos l with e | e
                     ·exact absurd (h.2 e) h0
                     ·exact e
  simp [this]
set_option maxRecDepth 100000 in
theorem sumk_any (neg:Bool) (ad:Option Addr) (n c:Nat) (w:World) :
  Calls Tryz.prog 194 #[.bool neg,.slice ad n c] w fun e w' => e = .returned (.agg #[.bool (neg && decide (0 < n)),.slice ad n c])∧Below w.heap.size w w':=by
 have HB:=fun b => Lib.hid (Boxed2.new w (.bool b) (.slice ad n c) 159)
 obtain ⟨r,hr⟩:∃ r,r=decide (0 < n):=⟨_,rfl⟩
 rw [← hr]
 have t1:decide (0 < n)=r:=hr.symm
 clear hr
 cases neg
 ·go_enter Tryz.func194,Tryz.ntmps194
  go_wp2
  refine bodyPost_ret (v:=.agg #[.bool false,.slice ad n c]) (by simp [results,Tryz.results194,go_sem,(HB false).out.cell0,(HB false).out.cell1]) rfl ⟨by simp,below_a1 _ _⟩
 ·go_enter Tryz.func194,Tryz.ntmps194
  go_wp2
  refine bodyPost_ret (v:=.agg #[.bool r,.slice ad n c]) (by simp [results,Tryz.results194,go_sem,(HB r).out.cell0,(HB r).out.cell1]) rfl ⟨by simp,below_a1 _ _⟩
theorem sgnv_add (b:Bool) (x y:Nat):sgnv b (x+y)=sgnv b x+sgnv b y:=by
 cases b <;> simp [sgnv];omega
theorem sgnv_sub {a b:Bool} {x y:Nat} (h:a ≠ b) (hl:y≤x):sgnv a (x - y)=sgnv a x+sgnv b y:=by
 cases a <;> cases b <;> simp_all [sgnv] <;> omega
set_option maxHeartbeats 1000000 in
set_option maxRecDepth 100000 in
theorem sum_same (na nb:Bool) (va vb:Value) (xs ys:List Nat) (w:World) (ha:Sl w va 1 xs.length (nums .u32 xs)) (hb:Sl w vb 1 ys.length (nums .u32 ys))
  (hx:Nrm 1000000000 xs) (hy:Nrm 1000000000 ys) (lx:xs.length≤100000) (ly:ys.length≤100000) (he2:na=nb) :
  Calls Tryz.prog 170 #[.agg #[.bool na,va],.agg #[.bool nb,vb]] w (SumPost w (sgnv na (val 1000000000 xs)+sgnv nb (val 1000000000 ys))):=by
 have he:(na == nb)=true:=by rw [beq_iff_eq];exact he2
 have Ha:=Lib.hid ha
 have Hb:=Lib.hid hb
 have Hx:=Lib.hid hx
 have Hy:=Lib.hid hy
 clear ha hb hx hy
 have He2:=Lib.hid he2
 clear he2
 go_enter Tryz.func170,Tryz.ntmps170
 have b2:=fun (o3 o4:Obj) => ((Boxed2.new w (.bool na) va 159).alloc o3).alloc o4
 have b3:=fun (o2 o4:Obj) => (Boxed2.new (w.alloc o2) (.bool nb) vb 159).alloc o4
 have b4:=fun (o2 o3:Obj) => Boxed2.new ((w.alloc o2).alloc o3) (.bool false) (.slice none 0 0) 159
 have HBX:=Lib.hid (And.intro b2 (And.intro b3 b4))
 clear b2 b3 b4
 go_wp2
 obtain ⟨W0,hW0⟩:∃ W0,W0=((w.alloc (.cells #[.bool na,va] 159)).alloc (.cells #[.bool nb,vb] 159)).alloc (.cells #[.bool false,.slice none 0 0] 159):=⟨_,rfl⟩
 rw [← hW0]
 have b2:Boxed2 W0 w.heap.size 159 (.bool na) va:=by rw [hW0];exact HBX.out.1 _ _
 have b3:Boxed2 W0 (w.heap.size+1) 159 (.bool nb) vb:=by rw [hW0];have h:=HBX.out.2.1 (.cells #[.bool na,va] 159) (.cells #[.bool false,.slice none 0 0] 159);simp at h;exact h
 have b4:Boxed2 W0 (w.heap.size+1+1) 159 (.bool false) (.slice none 0 0):=by rw [hW0];have h:=HBX.out.2.2 (.cells #[.bool na,va] 159) (.cells #[.bool nb,vb] 159);simp at h;exact h
 have hbl:Below w.heap.size w W0:=by rw [hW0];exact below_a3 _ _ _ _
 have hz:=b4.lt
 clear hW0 HBX
 have HP:Hid (∀ W,Ext W0 W→Calls Tryz.prog 193 #[va,vb] W fun e w' => ∃ ad n c rs,e = .returned (.slice ad n c)∧Hid (w'.ownsRow W0.heap.size 197 1 (.slice ad n c) rs.length (nums .u32 rs)∧Nrm 1000000000 rs∧n=rs.length∧val 1000000000 rs=val 1000000000 xs+val 1000000000 ys)∧Ext W0 w'∧Below W.heap.size W w'):=by
  intro W hx
  have hS:=hbl.trans (Below.mono hx hbl.size)
  refine (plus_any va vb xs ys W (Ha.out.below hS) (Hb.out.below hS) Hx.out.1 Hy.out.1 lx ly).mono ?_
  rintro e w' ⟨v,rs,rfl,⟨own,hn,hb1⟩,hv⟩
  obtain ⟨ad,c,rfl,_⟩:=Sl.of_owns own
  exact ⟨ad,_,c,rs,rfl,⟨ownsRow_base' own (Below.size hx),hn,rfl,hv⟩,Below.trans hx (hb1.mono (Below.size hx)),hb1⟩
 have HK:Hid (∀ W neg ad n c,Ext W0 W→Calls Tryz.prog 194 #[.bool neg,.slice ad n c] W fun e w' => e = .returned (.agg #[.bool (neg && decide (0 < n)),.slice ad n c])∧Ext W0 w'∧Below W.heap.size W w'):=by
  intro W neg ad n c hx
  refine (sumk_any neg ad n c W).mono ?_
  rintro e w' ⟨rfl,hb1⟩
  exact ⟨rfl,Below.trans hx (hb1.mono (Below.size hx)),hb1⟩
 have h0:=b2.cell0
 have h1:=b2.cell1
 have h2:=b3.cell0
 have h3:=b3.cell1
 have r0:=b4.cell0
 have r1:=b4.cell1
 have z0:=b4.frozen 0
 have z1:=b4.frozen 1
 have B4:=Lib.hid b4
 clear b2 b3 b4
 have HZ:Hid (∀ W,Ext W0 W→(W.cell? ⟨w.heap.size,0,none⟩=some (.bool na)∧W.cell? ⟨w.heap.size,1,none⟩=some va∧W.cell? ⟨w.heap.size+1,0,none⟩=some (.bool nb)∧W.cell? ⟨w.heap.size+1,1,none⟩=some vb)∧W.cell? ⟨w.heap.size+1+1,0,none⟩=some (.bool false)∧W.cell? ⟨w.heap.size+1+1,1,none⟩=some (.slice none 0 0)∧W.frozen? ⟨w.heap.size+1+1,0,none⟩=false∧W.frozen? ⟨w.heap.size+1+1,1,none⟩=false):=fun W hx => ⟨⟨Ext.cell hx h0,Ext.cell hx h1,Ext.cell hx h2,Ext.cell hx h3⟩,Ext.cell hx r0,Ext.cell hx r1,(B4.out.below hx).frozen 0,(B4.out.below hx).frozen 1⟩
 have hx0:Ext W0 W0.drew:=Below.drew (Below.refl _ _)
 go_region_held3 (fun w' => w'.cell? ⟨w.heap.size,0,none⟩=some (.bool na)∧w'.cell? ⟨w.heap.size,1,none⟩=some va∧w'.cell? ⟨w.heap.size+1,0,none⟩=some (.bool nb)∧w'.cell? ⟨w.heap.size+1,1,none⟩=some vb)
  (first | assumption | exact ⟨by assumption,by assumption,by assumption,by assumption⟩ | (refine ⟨?_,?_,?_,?_⟩ <;> (rw [World.cell?_setCell_far _ _ _ _ (by first | (show w.heap.size+1+1 ≠ w.heap.size;omega) | (show w.heap.size+1+1 ≠ w.heap.size+1;omega)),World.cell?_setCell_far _ _ _ _ (by first | (show w.heap.size+1+1 ≠ w.heap.size;omega) | (show w.heap.size+1+1 ≠ w.heap.size+1;omega))];assumption)) | go_keep)
  (first | (go_at_call 193;refine (HP.out _ hx0).mono ?_;rintro e w2 ⟨ad2,n2,cap2,rs2,rfl,own2,hx2,hb2⟩;obtain ⟨⟨p1,p2,p3,p4⟩,p5⟩:=HZ.out _ hx2) | (go_at_call 194;refine (HK.out _ _ _ _ _ hx2).mono ?_;rintro e w3 ⟨rfl,hx3,hb3⟩;obtain ⟨⟨p1,p2,p3,p4⟩,p5,p6,p7,p8⟩:=HZ.out _ hx3))
 go_wp2
 obtain ⟨ow,hn,rfl,hv⟩:=own2.out
 have HS:=Lib.hid ((B4.out.below hx3).store (.bool (na && decide (0 < rs2.length))) (.slice ad2 rs2.length cap2))
 have HF:Hid (SumPost w (sgnv na (val 1000000000 xs)+sgnv nb (val 1000000000 ys)) (.returned (.agg #[.bool (na && decide (0 < rs2.length)),.slice ad2 rs2.length cap2])) ((w3.setCell ⟨w.heap.size+1+1,0,none⟩ (.bool (na && decide (0 < rs2.length)))).setCell ⟨w.heap.size+1+1,1,none⟩ (.slice ad2 rs2.length cap2))):=by
  refine ⟨_,_,rs2,rfl,Sl.of_owns (ownsRow_setCell_below (ownsRow_setCell_below (ownsRow_below' ow hb3) (a:=⟨w.heap.size+1+1,0,none⟩) hz _) (a:=⟨w.heap.size+1+1,1,none⟩) hz _),hn,?_,below_store (hbl.trans (Below.mono hx3 hbl.size)) (by omega) _ _⟩
  rw [sgnv_cut _ _ _ (by rw [hn.val_zero (by decide),List.length_eq_zero_iff]),hv]
  rw [← He2.out];exact sgnv_add _ _ _
 obtain ⟨W3,hW3⟩:∃ W3,W3=(w3.setCell ⟨w.heap.size+1+1,0,none⟩ (.bool (na && decide (0 < rs2.length)))).setCell ⟨w.heap.size+1+1,1,none⟩ (.slice ad2 rs2.length cap2):=⟨_,rfl⟩
 rw [← hW3]
 rw [← hW3] at HS HF
 refine bodyPost_ret (v:=.agg #[.bool (na && decide (0 < rs2.length)),.slice ad2 rs2.length cap2]) (by simp [results,Tryz.results170,go_sem,HS.out.cell0,HS.out.cell1]) rfl HF.out
set_option maxHeartbeats 1000000 in
set_option maxRecDepth 100000 in
theorem sum_ge (na nb:Bool) (va vb:Value) (xs ys:List Nat) (w:World) (ha:Sl w va 1 xs.length (nums .u32 xs)) (hb:Sl w vb 1 ys.length (nums .u32 ys))
  (hx:Nrm 1000000000 xs) (hy:Nrm 1000000000 ys) (lx:xs.length≤100000) (ly:ys.length≤100000) (he2:na ≠ nb) (hle:val 1000000000 ys≤val 1000000000 xs) :
  Calls Tryz.prog 170 #[.agg #[.bool na,va],.agg #[.bool nb,vb]] w (SumPost w (sgnv na (val 1000000000 xs)+sgnv nb (val 1000000000 ys))):=by
 have he:(na == nb)=false:=by rw [beq_eq_false_iff_ne];exact he2
 have HC:=Lib.hid (fun W (hS:Below w.heap.size w W) => compare_any va vb xs ys W (ha.below hS) (hb.below hS) hx hy (by omega) (by omega))
 have hs:decide (0≤sgn (val 1000000000 xs) (val 1000000000 ys))=true:=by
  unfold sgn;rw [decide_eq_true_eq];split <;> (try split) <;> omega
 generalize sgn (val 1000000000 xs) (val 1000000000 ys)=g at HC hs
 have Ha:=Lib.hid ha
 have Hb:=Lib.hid hb
 have Hx:=Lib.hid hx
 have Hy:=Lib.hid hy
 have Hle:=Lib.hid hle
 clear ha hb hx hy hle
 have He2:=Lib.hid he2
 clear he2
 go_enter Tryz.func170,Tryz.ntmps170
 have b2:=fun (o3 o4:Obj) => ((Boxed2.new w (.bool na) va 159).alloc o3).alloc o4
 have b3:=fun (o2 o4:Obj) => (Boxed2.new (w.alloc o2) (.bool nb) vb 159).alloc o4
 have b4:=fun (o2 o3:Obj) => Boxed2.new ((w.alloc o2).alloc o3) (.bool false) (.slice none 0 0) 159
 have HBX:=Lib.hid (And.intro b2 (And.intro b3 b4))
 clear b2 b3 b4
 go_wp2_with fail
 obtain ⟨W0,hW0⟩:∃ W0,W0=((w.alloc (.cells #[.bool na,va] 159)).alloc (.cells #[.bool nb,vb] 159)).alloc (.cells #[.bool false,.slice none 0 0] 159):=⟨_,rfl⟩
 rw [← hW0]
 have b2:Boxed2 W0 w.heap.size 159 (.bool na) va:=by rw [hW0];exact HBX.out.1 _ _
 have b3:Boxed2 W0 (w.heap.size+1) 159 (.bool nb) vb:=by rw [hW0];have h:=HBX.out.2.1 (.cells #[.bool na,va] 159) (.cells #[.bool false,.slice none 0 0] 159);simp at h;exact h
 have b4:Boxed2 W0 (w.heap.size+1+1) 159 (.bool false) (.slice none 0 0):=by rw [hW0];have h:=HBX.out.2.2 (.cells #[.bool na,va] 159) (.cells #[.bool nb,vb] 159);simp at h;exact h
 have hbl:Below w.heap.size w W0:=by rw [hW0];exact below_a3 _ _ _ _
 have hz:=b4.lt
 clear hW0 HBX
 have HP:Hid (∀ W,Ext W0 W→Calls Tryz.prog 165 #[va,vb] W fun e w' => ∃ ad n c rs,e = .returned (.slice ad n c)∧Hid (w'.ownsRow W0.heap.size 197 1 (.slice ad n c) rs.length (nums .u32 rs)∧Nrm 1000000000 rs∧n=rs.length∧val 1000000000 rs=val 1000000000 xs - val 1000000000 ys)∧Ext W0 w'∧Below W.heap.size W w'):=by
  intro W hx
  have hS:=hbl.trans (Below.mono hx hbl.size)
  refine (minus_any va vb xs ys W (Ha.out.below hS) (Hb.out.below hS) Hx.out.1 Hy.out Hle.out lx).mono ?_
  rintro e w' ⟨v,rs,rfl,⟨own,hn,hb1⟩,hv⟩
  obtain ⟨ad,c,rfl,_⟩:=Sl.of_owns own
  exact ⟨ad,_,c,rs,rfl,⟨ownsRow_base' own (Below.size hx),hn,rfl,hv⟩,Below.trans hx (hb1.mono (Below.size hx)),hb1⟩
 have HK:Hid (∀ W neg ad n c,Ext W0 W→Calls Tryz.prog 194 #[.bool neg,.slice ad n c] W fun e w' => e = .returned (.agg #[.bool (neg && decide (0 < n)),.slice ad n c])∧Ext W0 w'∧Below W.heap.size W w'):=by
  intro W neg ad n c hx
  refine (sumk_any neg ad n c W).mono ?_
  rintro e w' ⟨rfl,hb1⟩
  exact ⟨rfl,Below.trans hx (hb1.mono (Below.size hx)),hb1⟩
 have h0:=b2.cell0
 have h1:=b2.cell1
 have h2:=b3.cell0
 have h3:=b3.cell1
 have r0:=b4.cell0
 have r1:=b4.cell1
 have z0:=b4.frozen 0
 have z1:=b4.frozen 1
 have B4:=Lib.hid b4
 clear b2 b3 b4
 go_wp2_with (go_at_call 125;refine (HC.out _ hbl).mono ?_;rintro e wq ⟨rfl,nq,rfl⟩)
 have HZ:Hid (∀ W,Ext W0 W→(W.cell? ⟨w.heap.size,0,none⟩=some (.bool na)∧W.cell? ⟨w.heap.size,1,none⟩=some va∧W.cell? ⟨w.heap.size+1,0,none⟩=some (.bool nb)∧W.cell? ⟨w.heap.size+1,1,none⟩=some vb)∧W.cell? ⟨w.heap.size+1+1,0,none⟩=some (.bool false)∧W.cell? ⟨w.heap.size+1+1,1,none⟩=some (.slice none 0 0)∧W.frozen? ⟨w.heap.size+1+1,0,none⟩=false∧W.frozen? ⟨w.heap.size+1+1,1,none⟩=false):=fun W hx => ⟨⟨Ext.cell hx h0,Ext.cell hx h1,Ext.cell hx h2,Ext.cell hx h3⟩,Ext.cell hx r0,Ext.cell hx r1,(B4.out.below hx).frozen 0,(B4.out.below hx).frozen 1⟩
 have hx0:Ext W0 (W0.drewN nq).drew:=Below.drew (below_drewN (Below.refl _ _) _)
 go_region_held3 (fun w' => w'.cell? ⟨w.heap.size,0,none⟩=some (.bool na)∧w'.cell? ⟨w.heap.size,1,none⟩=some va∧w'.cell? ⟨w.heap.size+1,0,none⟩=some (.bool nb)∧w'.cell? ⟨w.heap.size+1,1,none⟩=some vb)
  (first | assumption | exact ⟨by assumption,by assumption,by assumption,by assumption⟩ | (refine ⟨?_,?_,?_,?_⟩ <;> (rw [World.cell?_setCell_far _ _ _ _ (by first | (show w.heap.size+1+1 ≠ w.heap.size;omega) | (show w.heap.size+1+1 ≠ w.heap.size+1;omega)),World.cell?_setCell_far _ _ _ _ (by first | (show w.heap.size+1+1 ≠ w.heap.size;omega) | (show w.heap.size+1+1 ≠ w.heap.size+1;omega))];assumption)) | go_keep)
  (first | (go_at_call 165;refine (HP.out _ hx0).mono ?_;rintro e w2 ⟨ad2,n2,cap2,rs2,rfl,own2,hx2,hb2⟩;obtain ⟨⟨p1,p2,p3,p4⟩,p5⟩:=HZ.out _ hx2) | (go_at_call 194;refine (HK.out _ _ _ _ _ hx2).mono ?_;rintro e w3 ⟨rfl,hx3,hb3⟩;obtain ⟨⟨p1,p2,p3,p4⟩,p5,p6,p7,p8⟩:=HZ.out _ hx3))
 go_wp2
 obtain ⟨ow,hn,rfl,hv⟩:=own2.out
 have HS:=Lib.hid ((B4.out.below hx3).store (.bool (na && decide (0 < rs2.length))) (.slice ad2 rs2.length cap2))
 have HF:Hid (SumPost w (sgnv na (val 1000000000 xs)+sgnv nb (val 1000000000 ys)) (.returned (.agg #[.bool (na && decide (0 < rs2.length)),.slice ad2 rs2.length cap2])) ((w3.setCell ⟨w.heap.size+1+1,0,none⟩ (.bool (na && decide (0 < rs2.length)))).setCell ⟨w.heap.size+1+1,1,none⟩ (.slice ad2 rs2.length cap2))):=by
  refine ⟨_,_,rs2,rfl,Sl.of_owns (ownsRow_setCell_below (ownsRow_setCell_below (ownsRow_below' ow hb3) (a:=⟨w.heap.size+1+1,0,none⟩) hz _) (a:=⟨w.heap.size+1+1,1,none⟩) hz _),hn,?_,below_store (hbl.trans (Below.mono hx3 hbl.size)) (by omega) _ _⟩
  rw [sgnv_cut _ _ _ (by rw [hn.val_zero (by decide),List.length_eq_zero_iff]),hv]
  exact sgnv_sub He2.out Hle.out
 obtain ⟨W3,hW3⟩:∃ W3,W3=(w3.setCell ⟨w.heap.size+1+1,0,none⟩ (.bool (na && decide (0 < rs2.length)))).setCell ⟨w.heap.size+1+1,1,none⟩ (.slice ad2 rs2.length cap2):=⟨_,rfl⟩
 rw [← hW3]
 rw [← hW3] at HS HF
 refine bodyPost_ret (v:=.agg #[.bool (na && decide (0 < rs2.length)),.slice ad2 rs2.length cap2]) (by simp [results,Tryz.results170,go_sem,HS.out.cell0,HS.out.cell1]) rfl HF.out
set_option maxHeartbeats 1000000 in
set_option maxRecDepth 100000 in
theorem sum_lt (na nb:Bool) (va vb:Value) (xs ys:List Nat) (w:World) (ha:Sl w va 1 xs.length (nums .u32 xs)) (hb:Sl w vb 1 ys.length (nums .u32 ys))
  (hx:Nrm 1000000000 xs) (hy:Nrm 1000000000 ys) (lx:xs.length≤100000) (ly:ys.length≤100000) (he2:na ≠ nb) (hle:val 1000000000 xs≤val 1000000000 ys) (hne:val 1000000000 xs ≠ val 1000000000 ys) :
  Calls Tryz.prog 170 #[.agg #[.bool na,va],.agg #[.bool nb,vb]] w (SumPost w (sgnv na (val 1000000000 xs)+sgnv nb (val 1000000000 ys))):=by
 have he:(na == nb)=false:=by rw [beq_eq_false_iff_ne];exact he2
 have HC:=Lib.hid (fun W (hS:Below w.heap.size w W) => compare_any va vb xs ys W (ha.below hS) (hb.below hS) hx hy (by omega) (by omega))
 have hs:decide (0≤sgn (val 1000000000 xs) (val 1000000000 ys))=false:=by
  unfold sgn;rw [decide_eq_false_iff_not];split <;> (try split) <;> omega
 generalize sgn (val 1000000000 xs) (val 1000000000 ys)=g at HC hs
 have Ha:=Lib.hid ha
 have Hb:=Lib.hid hb
 have Hx:=Lib.hid hx
 have Hy:=Lib.hid hy
 have Hle:=Lib.hid hle
 clear ha hb hx hy hle
 have He2:=Lib.hid he2
 clear he2
 go_enter Tryz.func170,Tryz.ntmps170
 have b2:=fun (o3 o4:Obj) => ((Boxed2.new w (.bool na) va 159).alloc o3).alloc o4
 have b3:=fun (o2 o4:Obj) => (Boxed2.new (w.alloc o2) (.bool nb) vb 159).alloc o4
 have b4:=fun (o2 o3:Obj) => Boxed2.new ((w.alloc o2).alloc o3) (.bool false) (.slice none 0 0) 159
 have HBX:=Lib.hid (And.intro b2 (And.intro b3 b4))
 clear b2 b3 b4
 go_wp2_with fail
 obtain ⟨W0,hW0⟩:∃ W0,W0=((w.alloc (.cells #[.bool na,va] 159)).alloc (.cells #[.bool nb,vb] 159)).alloc (.cells #[.bool false,.slice none 0 0] 159):=⟨_,rfl⟩
 rw [← hW0]
 have b2:Boxed2 W0 w.heap.size 159 (.bool na) va:=by rw [hW0];exact HBX.out.1 _ _
 have b3:Boxed2 W0 (w.heap.size+1) 159 (.bool nb) vb:=by rw [hW0];have h:=HBX.out.2.1 (.cells #[.bool na,va] 159) (.cells #[.bool false,.slice none 0 0] 159);simp at h;exact h
 have b4:Boxed2 W0 (w.heap.size+1+1) 159 (.bool false) (.slice none 0 0):=by rw [hW0];have h:=HBX.out.2.2 (.cells #[.bool na,va] 159) (.cells #[.bool nb,vb] 159);simp at h;exact h
 have hbl:Below w.heap.size w W0:=by rw [hW0];exact below_a3 _ _ _ _
 have hz:=b4.lt
 clear hW0 HBX
 have HP:Hid (∀ W,Ext W0 W→Calls Tryz.prog 165 #[vb,va] W fun e w' => ∃ ad n c rs,e = .returned (.slice ad n c)∧Hid (w'.ownsRow W0.heap.size 197 1 (.slice ad n c) rs.length (nums .u32 rs)∧Nrm 1000000000 rs∧n=rs.length∧val 1000000000 rs=val 1000000000 ys - val 1000000000 xs)∧Ext W0 w'∧Below W.heap.size W w'):=by
  intro W hx
  have hS:=hbl.trans (Below.mono hx hbl.size)
  refine (minus_any vb va ys xs W (Hb.out.below hS) (Ha.out.below hS) Hy.out.1 Hx.out Hle.out ly).mono ?_
  rintro e w' ⟨v,rs,rfl,⟨own,hn,hb1⟩,hv⟩
  obtain ⟨ad,c,rfl,_⟩:=Sl.of_owns own
  exact ⟨ad,_,c,rs,rfl,⟨ownsRow_base' own (Below.size hx),hn,rfl,hv⟩,Below.trans hx (hb1.mono (Below.size hx)),hb1⟩
 have HK:Hid (∀ W neg ad n c,Ext W0 W→Calls Tryz.prog 194 #[.bool neg,.slice ad n c] W fun e w' => e = .returned (.agg #[.bool (neg && decide (0 < n)),.slice ad n c])∧Ext W0 w'∧Below W.heap.size W w'):=by
  intro W neg ad n c hx
  refine (sumk_any neg ad n c W).mono ?_
  rintro e w' ⟨rfl,hb1⟩
  exact ⟨rfl,Below.trans hx (hb1.mono (Below.size hx)),hb1⟩
 have h0:=b2.cell0
 have h1:=b2.cell1
 have h2:=b3.cell0
 have h3:=b3.cell1
 have r0:=b4.cell0
 have r1:=b4.cell1
 have z0:=b4.frozen 0
 have z1:=b4.frozen 1
 have B4:=Lib.hid b4
 clear b2 b3 b4
 go_wp2_with (go_at_call 125;refine (HC.out _ hbl).mono ?_;rintro e wq ⟨rfl,nq,rfl⟩)
 have HZ:Hid (∀ W,Ext W0 W→(W.cell? ⟨w.heap.size,0,none⟩=some (.bool na)∧W.cell? ⟨w.heap.size,1,none⟩=some va∧W.cell? ⟨w.heap.size+1,0,none⟩=some (.bool nb)∧W.cell? ⟨w.heap.size+1,1,none⟩=some vb)∧W.cell? ⟨w.heap.size+1+1,0,none⟩=some (.bool false)∧W.cell? ⟨w.heap.size+1+1,1,none⟩=some (.slice none 0 0)∧W.frozen? ⟨w.heap.size+1+1,0,none⟩=false∧W.frozen? ⟨w.heap.size+1+1,1,none⟩=false):=fun W hx => ⟨⟨Ext.cell hx h0,Ext.cell hx h1,Ext.cell hx h2,Ext.cell hx h3⟩,Ext.cell hx r0,Ext.cell hx r1,(B4.out.below hx).frozen 0,(B4.out.below hx).frozen 1⟩
 have hx0:Ext W0 (W0.drewN nq).drew:=Below.drew (below_drewN (Below.refl _ _) _)
 go_region_held3 (fun w' => w'.cell? ⟨w.heap.size,0,none⟩=some (.bool na)∧w'.cell? ⟨w.heap.size,1,none⟩=some va∧w'.cell? ⟨w.heap.size+1,0,none⟩=some (.bool nb)∧w'.cell? ⟨w.heap.size+1,1,none⟩=some vb)
  (first | assumption | exact ⟨by assumption,by assumption,by assumption,by assumption⟩ | (refine ⟨?_,?_,?_,?_⟩ <;> (rw [World.cell?_setCell_far _ _ _ _ (by first | (show w.heap.size+1+1 ≠ w.heap.size;omega) | (show w.heap.size+1+1 ≠ w.heap.size+1;omega)),World.cell?_setCell_far _ _ _ _ (by first | (show w.heap.size+1+1 ≠ w.heap.size;omega) | (show w.heap.size+1+1 ≠ w.heap.size+1;omega))];assumption)) | go_keep)
  (first | (go_at_call 165;refine (HP.out _ hx0).mono ?_;rintro e w2 ⟨ad2,n2,cap2,rs2,rfl,own2,hx2,hb2⟩;obtain ⟨⟨p1,p2,p3,p4⟩,p5⟩:=HZ.out _ hx2) | (go_at_call 194;refine (HK.out _ _ _ _ _ hx2).mono ?_;rintro e w3 ⟨rfl,hx3,hb3⟩;obtain ⟨⟨p1,p2,p3,p4⟩,p5,p6,p7,p8⟩:=HZ.out _ hx3))
 go_wp2
 obtain ⟨ow,hn,rfl,hv⟩:=own2.out
 have HS:=Lib.hid ((B4.out.below hx3).store (.bool (nb && decide (0 < rs2.length))) (.slice ad2 rs2.length cap2))
 have HF:Hid (SumPost w (sgnv na (val 1000000000 xs)+sgnv nb (val 1000000000 ys)) (.returned (.agg #[.bool (nb && decide (0 < rs2.length)),.slice ad2 rs2.length cap2])) ((w3.setCell ⟨w.heap.size+1+1,0,none⟩ (.bool (nb && decide (0 < rs2.length)))).setCell ⟨w.heap.size+1+1,1,none⟩ (.slice ad2 rs2.length cap2))):=by
  refine ⟨_,_,rs2,rfl,Sl.of_owns (ownsRow_setCell_below (ownsRow_setCell_below (ownsRow_below' ow hb3) (a:=⟨w.heap.size+1+1,0,none⟩) hz _) (a:=⟨w.heap.size+1+1,1,none⟩) hz _),hn,?_,below_store (hbl.trans (Below.mono hx3 hbl.size)) (by omega) _ _⟩
  rw [sgnv_cut _ _ _ (by rw [hn.val_zero (by decide),List.length_eq_zero_iff]),hv]
  rw [Int.add_comm];exact sgnv_sub (fun e => He2.out e.symm) Hle.out
 obtain ⟨W3,hW3⟩:∃ W3,W3=(w3.setCell ⟨w.heap.size+1+1,0,none⟩ (.bool (nb && decide (0 < rs2.length)))).setCell ⟨w.heap.size+1+1,1,none⟩ (.slice ad2 rs2.length cap2):=⟨_,rfl⟩
 rw [← hW3]
 rw [← hW3] at HS HF
 refine bodyPost_ret (v:=.agg #[.bool (nb && decide (0 < rs2.length)),.slice ad2 rs2.length cap2]) (by simp [results,Tryz.results170,go_sem,HS.out.cell0,HS.out.cell1]) rfl HF.out
theorem sum_any (na nb:Bool) (va vb:Value) (xs ys:List Nat) (w:World) (ha:Sl w va 1 xs.length (nums .u32 xs)) (hb:Sl w vb 1 ys.length (nums .u32 ys))
  (hx:Nrm 1000000000 xs) (hy:Nrm 1000000000 ys) (lx:xs.length≤100000) (ly:ys.length≤100000) :
  Calls Tryz.prog 170 #[.agg #[.bool na,va],.agg #[.bool nb,vb]] w (SumPost w (sgnv na (val 1000000000 xs)+sgnv nb (val 1000000000 ys))):=by
 by_cases he:na=nb
 ·exact sum_same na nb va vb xs ys w ha hb hx hy lx ly he
 ·by_cases hle:val 1000000000 ys≤val 1000000000 xs
  ·exact sum_ge na nb va vb xs ys w ha hb hx hy lx ly he hle
  ·exact sum_lt na nb va vb xs ys w ha hb hx hy lx ly he (by omega) (by omega)
end Go.Proofs.YtknpnhodpgajbaaGreatDoor

namespace Go.Proofs.YtknpnhodpgajbaaGreatDoor
open Go.RowKit
set_option maxHeartbeats 1000000 in
set_option maxRecDepth 100000 in
theorem check_empty (s:ByteArray) (w:World) (_hl:s.size≤9223372036854775807) (h0:s.size=0) :
  Calls Tryz.prog 59 #[.string s] w fun e w' => e = .returned (.int .i64 (intErr (bl s)))∧w=w':=by
 have HF:Hid (intErr (bl s)=12):=by
  have:bl s=[]:=List.eq_nil_of_length_eq_zero (by rw [bl_length];exact h0)
  rw [this];rfl
 have h1:s.toList=[]:=by rw [Lib.toList_data];exact List.eq_nil_of_length_eq_zero (by rw [← bl_length] at h0;exact h0)
 have h2 : ¬ 0 < s.size:=by omega
 clear h0
 go_enter Tryz.func59,Tryz.ntmps59
 go_wp2
 go_ret
 exact ⟨ret_int' HF.out.symm,rfl⟩
set_option maxHeartbeats 1000000 in
set_option maxRecDepth 100000 in
theorem check_zero (s:ByteArray) (w:World) (hl:s.size≤9223372036854775807) (h1:1 < s.size) (h0:s[0]=48) :
  Calls Tryz.prog 59 #[.string s] w fun e w' => e = .returned (.int .i64 (intErr (bl s)))∧w=w':=by
 have HF:Hid (intErr (bl s)=12):=by
  have e:=bl_cons s (by omega)
  rw [h0] at e
  have hn:(bl s).tail ≠ []:=fun hh => by have:=congrArg List.length e;rw [hh,bl_length] at this;simp at this;omega
  rw [e]
  cases ht:(bl s).tail with
  | nil => exact absurd ht hn
  | cons a b => show _=_;simp [intErr,canonI,body,isNeg,canonD]
 have h2:s.toList.isEmpty=false:=toList_ne s (by omega)
 have h4:(0:Nat) < s.size:=by omega
 go_enter Tryz.func59,Tryz.ntmps59
 go_wp2
 go_ret
 exact ⟨ret_int' HF.out.symm,rfl⟩
set_option maxHeartbeats 1000000 in
set_option maxRecDepth 100000 in
theorem check_digits (s:ByteArray) (w:World) (hl:s.size≤9223372036854775807) (h1:0 < s.size) (hm:s[0] ≠ 45) (h0:s[0] ≠ 48∨s.size=1) :
  Calls Tryz.prog 59 #[.string s] w fun e w' => e = .returned (.int .i64 (intErr (bl s)))∧w=w':=by
 have HC:Hid (intErr (bl s)=if (bl s).all isDig=true then (if 1000 < s.size then 14 else 0) else 12):=by
  show _=_
  have e:=bl_cons s h1
  rw [intErr_pos (by rw [e];simpa using hm),canonD,← bl_length]
  have a1:(bl s).isEmpty=false:=by rw [e];rfl
  have a2:((bl s).head? == some 48 && (decide (1 < (bl s).length) || false))=false:=by
   rcases h0 with h0 | h0
   ·rw [e];simp;intro hh;exact absurd hh h0
   ·rw [bl_length,h0];simp
  rw [a1,a2];simp
 obtain ⟨c0,hc0⟩:∃ c,s[0]=c:=⟨_,rfl⟩
 have hm1:((c0.toNat:Int) == 45)=false:=by rw [hc0] at hm;simpa using fun hh:(c0.toNat:Int)=45 => hm (UInt8.toNat_inj.1 (by simpa using (by omega:c0.toNat=45)))
 have h2:s.toList.isEmpty=false:=toList_ne s h1
 rw [hc0] at h0 hm
 have H0:=Lib.hid h0;clear h0 hm
 have hpre:(((c0.toNat:Int) == 48)=false)∨(((c0.toNat:Int) == 48)=true∧¬ 1 < s.size):=by
  rcases H0.out with h | h
  ·exact .inl (by simpa using fun hh:(c0.toNat:Int)=48 => h (UInt8.toNat_inj.1 (by simpa using (by omega:c0.toNat=48))))
  ·cases hb:((c0.toNat:Int) == 48)
   ·exact .inl rfl
   ·exact .inr ⟨rfl,by omega⟩
 rcases hpre with hp | ⟨hp,hq⟩
 ·go_enter Tryz.func59,Tryz.ntmps59
  go_wp2_with fail
  go_loopw [32] (fun i wr => ∃ k:Nat,k≤s.size∧i = .int .i64 k∧Hid (((bl s).take k).all isDig=true)∧wr=w)
   (fun i _ => s.size - (intOf i).toNat)
  case atStart => exact ⟨0,Nat.zero_le _,rfl,rfl,rfl⟩
  case round =>
   obtain ⟨k,hk,rfl,Hk,rfl⟩:=hrel
   by_cases hlt:k < s.size
   ·obtain ⟨c,hc⟩:∃ c,s[k]=c:=⟨_,rfl⟩
    have hcb:c.toNat < 256:=c.toNat_lt
    have Hcl:=Lib.hid (take_succ_all isDig s k hlt)
    rw [hc] at Hcl
    by_cases h1:c.toNat < 48
    ·have HF:Hid (intErr (bl s)=12):=by
      show _=_
      rw [HC.out,if_neg]
      intro hall
      have:=all_take_of_all isDig (bl s) (k+1) hall
      rw [Hcl.out] at this
      simp [isDig] at this
      omega
     have d1:decide (((c.toNat:Nat):Int) < 48)=true:=by rw [decide_eq_true_eq];omega
     have d1' : ¬ ((48:Int)≤((c.toNat:Nat):Int)):=by omega
     go_wp2
     go_ret
     exact ⟨ret_int' HF.out.symm,rfl⟩
    ·have d1:decide (((c.toNat:Nat):Int) < 48)=false:=by rw [decide_eq_false_iff_not];omega
     by_cases h2:c.toNat≤57
     ·have d2:decide ((57:Int) < ((c.toNat:Nat):Int))=false:=by rw [decide_eq_false_iff_not];omega
      have Hk2:Hid (((bl s).take (k+1)).all isDig=true):=by
       show _=true
       rw [Hcl.out,Hk.out]
       simp [isDig];omega
      clear Hcl Hk
      go_wp2
      go_roundw
      case rel => exact ⟨k+1,by omega,by go_num,Hk2,by trivial⟩
      case measure => simp [intOf];omega
     ·have d2:decide ((57:Int) < ((c.toNat:Nat):Int))=true:=by rw [decide_eq_true_eq];omega
      have d2' : ¬ (((c.toNat:Nat):Int)≤57):=by omega
      have HF:Hid (intErr (bl s)=12):=by
       show _=_
       rw [HC.out,if_neg]
       intro hall
       have:=all_take_of_all isDig (bl s) (k+1) hall
       rw [Hcl.out] at this
       simp [isDig] at this
       omega
      clear Hcl Hk
      go_wp2
      go_ret
      exact ⟨ret_int' HF.out.symm,rfl⟩
   ·obtain rfl:k=s.size:=by omega
    have hall:(bl s).all isDig=true:=by
     have:=Hk.out
     rw [List.take_of_length_le (by rw [bl_length];exact Nat.le_refl _)] at this
     exact this
    have Hall:=Lib.hid hall;clear hall
    by_cases hbig:1000 < s.size
    ·have HF:Hid (intErr (bl s)=14):=by show _=_;rw [HC.out,if_pos Hall.out,if_pos hbig]
     have d3:decide ((1000:Int) < ((s.size:Nat):Int))=true:=by rw [decide_eq_true_eq];omega
     have d3' : ¬ (((s.size:Nat):Int)≤1000):=by omega
     go_wp2
     go_ret
     exact ⟨ret_int' HF.out.symm,rfl⟩
    ·have HF:Hid (intErr (bl s)=0):=by show _=_;rw [HC.out,if_pos Hall.out,if_neg hbig]
     have d3:decide ((1000:Int) < ((s.size:Nat):Int))=false:=by rw [decide_eq_false_iff_not];omega
     go_wp2
     go_ret
     exact ⟨ret_int' HF.out.symm,rfl⟩
 ·go_enter Tryz.func59,Tryz.ntmps59
  go_wp2_with fail
  go_loopw [32] (fun i wr => ∃ k:Nat,k≤s.size∧i = .int .i64 k∧Hid (((bl s).take k).all isDig=true)∧wr=w)
   (fun i _ => s.size - (intOf i).toNat)
  case atStart => exact ⟨0,Nat.zero_le _,rfl,rfl,rfl⟩
  case round =>
   obtain ⟨k,hk,rfl,Hk,rfl⟩:=hrel
   by_cases hlt:k < s.size
   ·obtain ⟨c,hc⟩:∃ c,s[k]=c:=⟨_,rfl⟩
    have hcb:c.toNat < 256:=c.toNat_lt
    have Hcl:=Lib.hid (take_succ_all isDig s k hlt)
    rw [hc] at Hcl
    by_cases h1:c.toNat < 48
    ·have HF:Hid (intErr (bl s)=12):=by
      show _=_
      rw [HC.out,if_neg]
      intro hall
      have:=all_take_of_all isDig (bl s) (k+1) hall
      rw [Hcl.out] at this
      simp [isDig] at this
      omega
     have d1:decide (((c.toNat:Nat):Int) < 48)=true:=by rw [decide_eq_true_eq];omega
     have d1' : ¬ ((48:Int)≤((c.toNat:Nat):Int)):=by omega
     go_wp2
     go_ret
     exact ⟨ret_int' HF.out.symm,rfl⟩
    ·have d1:decide (((c.toNat:Nat):Int) < 48)=false:=by rw [decide_eq_false_iff_not];omega
     by_cases h2:c.toNat≤57
     ·have d2:decide ((57:Int) < ((c.toNat:Nat):Int))=false:=by rw [decide_eq_false_iff_not];omega
      have Hk2:Hid (((bl s).take (k+1)).all isDig=true):=by
       show _=true
       rw [Hcl.out,Hk.out]
       simp [isDig];omega
      clear Hcl Hk
      go_wp2
      go_roundw
      case rel => exact ⟨k+1,by omega,by go_num,Hk2,by trivial⟩
      case measure => simp [intOf];omega
     ·have d2:decide ((57:Int) < ((c.toNat:Nat):Int))=true:=by rw [decide_eq_true_eq];omega
      have d2' : ¬ (((c.toNat:Nat):Int)≤57):=by omega
      have HF:Hid (intErr (bl s)=12):=by
       show _=_
       rw [HC.out,if_neg]
       intro hall
       have:=all_take_of_all isDig (bl s) (k+1) hall
       rw [Hcl.out] at this
       simp [isDig] at this
       omega
      clear Hcl Hk
      go_wp2
      go_ret
      exact ⟨ret_int' HF.out.symm,rfl⟩
   ·obtain rfl:k=s.size:=by omega
    have hall:(bl s).all isDig=true:=by
     have:=Hk.out
     rw [List.take_of_length_le (by rw [bl_length];exact Nat.le_refl _)] at this
     exact this
    have Hall:=Lib.hid hall;clear hall
    by_cases hbig:1000 < s.size
    ·have HF:Hid (intErr (bl s)=14):=by show _=_;rw [HC.out,if_pos Hall.out,if_pos hbig]
     have d3:decide ((1000:Int) < ((s.size:Nat):Int))=true:=by rw [decide_eq_true_eq];omega
     have d3' : ¬ (((s.size:Nat):Int)≤1000):=by omega
     go_wp2
     go_ret
     exact ⟨ret_int' HF.out.symm,rfl⟩
    ·have HF:Hid (intErr (bl s)=0):=by show _=_;rw [HC.out,if_pos Hall.out,if_neg hbig]
     have d3:decide ((1000:Int) < ((s.size:Nat):Int))=false:=by rw [decide_eq_false_iff_not];omega
     go_wp2
     go_ret
     exact ⟨ret_int' HF.out.symm,rfl⟩
set_option maxHeartbeats 1000000 in
set_option maxRecDepth 100000 in
theorem check_neg_bad (s:ByteArray) (w:World) (hl:s.size≤9223372036854775807) (h1:0 < s.size) (hm:s[0]=45) (t:ByteArray) (ht:s.extract 1 s.size=t) (hb:t.size=0∨∃ h:0 < t.size,t[0]=48) :
  Calls Tryz.prog 59 #[.string s] w fun e w' => e = .returned (.int .i64 (intErr (bl s)))∧w=w':=by
 have e:=bl_cons s h1
 have et:=bl_tail s h1
 rw [ht] at et
 have HF:Hid (intErr (bl s)=12):=by
  show _=_
  rw [e,hm,← et,intErr_cons_neg,if_neg]
  rcases hb with hb | ⟨hb,hc⟩
  ·have:bl t=[]:=List.eq_nil_of_length_eq_zero (by rw [bl_length];exact hb)
   rw [this];decide
  ·rw [bl_cons t hb,hc];simp [canonD]
 have hsz:s.size - 1=t.size:=by rw [← bl_length,← bl_length,et];simp
 have hme:t.size≤9223372036854775807:=by omega
 clear e et
 have Hsz:=Lib.hid hsz;clear hsz
 rcases hb with hb | ⟨hb,hc⟩
 ·have h2:t.toList=[]:=by rw [Lib.toList_data];exact List.eq_nil_of_length_eq_zero (by rw [← bl_length] at hb;exact hb)
  have h3:(t.toList == [48])=false:=by rw [h2];rfl
  have h4 : ¬ 0 < t.size:=by omega
  clear hb
  go_enter Tryz.func59,Tryz.ntmps59
  go_wp2
  go_ret
  exact ⟨ret_int' HF.out.symm,rfl⟩
 ·by_cases h5:t.size=1
  ·have h3:(t.toList == [48])=true:=by
    rw [Lib.toList_data]
    have:=bl_cons t hb
    have hn:(bl t).tail=[]:=List.eq_nil_of_length_eq_zero (by rw [List.length_tail,bl_length];omega)
    rw [hn,hc] at this
    show ((bl t) == [48])=true
    rw [this];rfl
   clear h5
   go_enter Tryz.func59,Tryz.ntmps59
   go_wp2
   go_ret
   exact ⟨ret_int' HF.out.symm,rfl⟩
  ·have h2:t.toList.isEmpty=false:=toList_ne t hb
   have h3:(t.toList == [48])=false:=by
    rw [Lib.toList_data,Bool.eq_false_iff]
    intro hh
    have:=congrArg List.length (eq_of_beq hh)
    have h6:(bl t).length=t.size:=bl_length t
    simp [bl] at h6
    simp at this
    omega
   have h6:1 < t.size:=by omega
   clear h5
   go_enter Tryz.func59,Tryz.ntmps59
   go_wp2
   go_ret
   exact ⟨ret_int' HF.out.symm,rfl⟩
set_option maxHeartbeats 1000000 in
set_option maxRecDepth 100000 in
theorem check_neg (s:ByteArray) (w:World) (hl:s.size≤9223372036854775807) (h1:0 < s.size) (hm:s[0]=45) (t:ByteArray) (ht:s.extract 1 s.size=t) (h2:0 < t.size) (h0:t[0] ≠ 48) :
  Calls Tryz.prog 59 #[.string s] w fun e w' => e = .returned (.int .i64 (intErr (bl s)))∧w=w':=by
 have e:=bl_cons s h1
 have et:=bl_tail s h1
 rw [ht] at et
 have HC:Hid (intErr (bl s)=if (bl t).all isDig=true then (if 1000 < t.size then 14 else 0) else 12):=by
  show _=_
  rw [e,hm,← et,intErr_cons_neg,canonD,← bl_length]
  have a1:(bl t).isEmpty=false:=by rw [bl_cons t h2];rfl
  have a2:((bl t).head? == some 48 && (decide (1 < (bl t).length) || true))=false:=by rw [bl_cons t h2];simpa using h0
  rw [a1,a2];simp
 have hsz:s.size - 1=t.size:=by rw [← bl_length,← bl_length,et];simp
 have hme:t.size≤9223372036854775807:=by omega
 clear e et
 have Hsz:=Lib.hid hsz;clear hsz
 obtain ⟨c0,hc0⟩:∃ c,t[0]=c:=⟨_,rfl⟩
 have h5:t.toList.isEmpty=false:=toList_ne t h2
 have h3:(t.toList == [48])=false:=by
  rw [Lib.toList_data,Bool.eq_false_iff]
  intro hh
  have h6:=bl_cons t h2
  have h7:bl t=[48]:=eq_of_beq hh
  rw [h7] at h6
  exact h0 (List.cons.inj h6).1.symm
 rw [hc0] at h0
 have hp:((c0.toNat:Int) == 48)=false:=by simpa using fun hh:(c0.toNat:Int)=48 => h0 (UInt8.toNat_inj.1 (by simpa using (by omega:c0.toNat=48)))
 clear h0
 go_enter Tryz.func59,Tryz.ntmps59
 go_wp2_with fail
 go_loopw [32] (fun i wr => ∃ k:Nat,k≤t.size∧i = .int .i64 k∧Hid (((bl t).take k).all isDig=true)∧wr=w)
  (fun i _ => t.size - (intOf i).toNat)
 case atStart => exact ⟨0,Nat.zero_le _,rfl,rfl,rfl⟩
 case round =>
  obtain ⟨k,hk,rfl,Hk,rfl⟩:=hrel
  by_cases hlt:k < t.size
  ·obtain ⟨c,hc⟩:∃ c,t[k]=c:=⟨_,rfl⟩
   have hcb:c.toNat < 256:=c.toNat_lt
   have Hcl:=Lib.hid (take_succ_all isDig t k hlt)
   rw [hc] at Hcl
   by_cases h1:c.toNat < 48
   ·have HF:Hid (intErr (bl s)=12):=by
     show _=_
     rw [HC.out,if_neg]
     intro hall
     have:=all_take_of_all isDig (bl t) (k+1) hall
     rw [Hcl.out] at this
     simp [isDig] at this
     omega
    have d1:decide (((c.toNat:Nat):Int) < 48)=true:=by rw [decide_eq_true_eq];omega
    have d1' : ¬ ((48:Int)≤((c.toNat:Nat):Int)):=by omega
    go_wp2
    go_ret
    exact ⟨ret_int' HF.out.symm,rfl⟩
   ·have d1:decide (((c.toNat:Nat):Int) < 48)=false:=by rw [decide_eq_false_iff_not];omega
    by_cases h2:c.toNat≤57
    ·have d2:decide ((57:Int) < ((c.toNat:Nat):Int))=false:=by rw [decide_eq_false_iff_not];omega
     have Hk2:Hid (((bl t).take (k+1)).all isDig=true):=by
      show _=true
      rw [Hcl.out,Hk.out]
      simp [isDig];omega
     clear Hcl Hk
     go_wp2
     go_roundw
     case rel => exact ⟨k+1,by omega,by go_num,Hk2,by trivial⟩
     case measure => simp [intOf];omega
    ·have d2:decide ((57:Int) < ((c.toNat:Nat):Int))=true:=by rw [decide_eq_true_eq];omega
     have d2' : ¬ (((c.toNat:Nat):Int)≤57):=by omega
     have HF:Hid (intErr (bl s)=12):=by
      show _=_
      rw [HC.out,if_neg]
      intro hall
      have:=all_take_of_all isDig (bl t) (k+1) hall
      rw [Hcl.out] at this
      simp [isDig] at this
      omega
     clear Hcl Hk
     go_wp2
     go_ret
     exact ⟨ret_int' HF.out.symm,rfl⟩
  ·obtain rfl:k=t.size:=by omega
   have hall:(bl t).all isDig=true:=by
    have:=Hk.out
    rw [List.take_of_length_le (by rw [bl_length];exact Nat.le_refl _)] at this
    exact this
   have Hall:=Lib.hid hall;clear hall
   by_cases hbig:1000 < t.size
   ·have HF:Hid (intErr (bl s)=14):=by show _=_;rw [HC.out,if_pos Hall.out,if_pos hbig]
    have d3:decide ((1000:Int) < ((t.size:Nat):Int))=true:=by rw [decide_eq_true_eq];omega
    have d3' : ¬ (((t.size:Nat):Int)≤1000):=by omega
    go_wp2
    go_ret
    exact ⟨ret_int' HF.out.symm,rfl⟩
   ·have HF:Hid (intErr (bl s)=0):=by show _=_;rw [HC.out,if_pos Hall.out,if_neg hbig]
    have d3:decide ((1000:Int) < ((t.size:Nat):Int))=false:=by rw [decide_eq_false_iff_not];omega
    go_wp2
    go_ret
    exact ⟨ret_int' HF.out.symm,rfl⟩
theorem check_any (s:ByteArray) (w:World) (hl:s.size≤9223372036854775807) :
  Calls Tryz.prog 59 #[.string s] w fun e w' => e = .returned (.int .i64 (intErr (bl s)))∧w=w':=by
 by_cases h1:0 < s.size
 ·by_cases hm:s[0]=45
  ·by_cases h2:0 < (s.extract 1 s.size).size
   ·by_cases h0:(s.extract 1 s.size)[0]=48
    ·exact check_neg_bad s w hl h1 hm _ rfl (.inr ⟨h2,h0⟩)
    ·exact check_neg s w hl h1 hm _ rfl h2 h0
   ·exact check_neg_bad s w hl h1 hm _ rfl (.inl (by omega))
  ·by_cases h0:s[0]=48
   ·by_cases h2:1 < s.size
    ·exact check_zero s w hl h2 h0
    ·exact check_digits s w hl h1 hm (.inr (by omega))
   ·exact check_digits s w hl h1 hm (.inl h0)
 ·exact check_empty s w hl (by omega)
end Go.Proofs.YtknpnhodpgajbaaGreatDoor
