/- A part. -/
import Derived.Test.YtcnpaciljmekcaaGreatDoorN06
import Derived.Test.YtcnpaciljmekcaaGreatDoorA23
namespace Go.Proofs.YtcnpaciljmekcaaGreatDoor
open Go.RowKit
def knownErr (fs:List Fx) (cs:List Ch) (day:Int):Int:=if envErr fs cs=0 then (if isDay day=true then 0 else 2) else envErr fs cs
def knownF (fs:List Fx) (cs:List Ch) (day:Int):List Fx:=if knownErr fs cs day=0 then fs.filter (fun f => decide (f.d≤day)) else []
def knownC (fs:List Fx) (cs:List Ch) (day:Int):List Ch:=if knownErr fs cs day=0 then cs.filter (fun f => decide (f.d≤day)) else []
set_option maxHeartbeats 1000000 in
set_option maxRecDepth 100000 in
theorem known_err (fs:List Fx) (cs:List Ch) (day:Int) (af ac:Option Addr) (cf cc:Nat) (w:World) (hn:fs.length≤1100000) (hm:cs.length≤1100000)
  (hf:Rd Fx.cells 3 w af fs) (hc:Rd Ch.cells 4 w ac cs) (hfs:∀ f ∈ fs,f.small) (hcs:∀ c ∈ cs,c.small) (he:envErr fs cs ≠ 0) :
  Calls Tryz.prog 22 #[.agg #[.slice af fs.length cf,.slice ac cs.length cc],.int .i64 day] w (EnvPost w (knownErr fs cs day) (knownF fs cs day) (knownC fs cs day)):=by
 have HE:=Lib.hid (fun W (h:Below w.heap.size w W) => checkEnv_any fs cs af ac cf cc W hn hm (hf.below h) (hc.below h) hfs hcs)
 have hb0:=fun o => below_a1 w o
 have R1:knownErr fs cs day=envErr fs cs:=by rw [knownErr,if_neg he]
 rw [knownF,knownC,R1,if_neg he,if_neg he]
 generalize envErr fs cs=E at HE he ⊢
 have t1:(E != 0)=true:=by rw [bne_iff_ne];exact he
 have t2:(E == 0)=false:=by rw [beq_eq_false_iff_ne];exact he
 clear hf hc hfs hcs he R1
 go_enter Tryz.func22,Tryz.ntmps22
 have bx:=fun (o1 o2:Obj) => Boxed2.new ((w.alloc o1).alloc o2) (.slice none 0 0) (.slice none 0 0) 33
 have HBX:=Lib.hid bx
 clear bx
 go_wp2_with fail
 refine (HE.out _ (below_a3 _ _ _ _)).mono ?_
 rintro e w1 ⟨rfl,hb1⟩
 have hs1:=hb1.size
 have b2:=(HBX.out _ _).below hb1
 simp at b2
 have r0:=b2.cell0
 have r1:=b2.cell1
 have z0:=b2.frozen 0
 have z1:=b2.frozen 1
 have hw1:Below w.heap.size w w1:=(below_a3 _ _ _ _).trans (hb1.mono (by simp;omega))
 have B2:=Lib.hid b2
 clear hb1 HBX b2
 go_wp2
 have HS:=Lib.hid (B2.out.store (.slice none 0 0) (.slice none 0 0))
 have HW:=Lib.hid (below_store hw1 (B:=w.heap.size+1+1) (by omega) (.slice none 0 0) (.slice none 0 0))
 obtain ⟨W3,hW3⟩:∃ W3,W3=(w1.setCell ⟨w.heap.size+1+1,0,none⟩ (.slice none 0 0)).setCell ⟨w.heap.size+1+1,1,none⟩ (.slice none 0 0):=⟨_,rfl⟩
 rw [← hW3]
 rw [← hW3] at HS HW
 refine bodyPost_ret (v:=.tuple #[.agg #[.slice none 0 0,.slice none 0 0],.int .i64 E]) (by simp [results,Tryz.results22,go_sem,HS.out.cell0,HS.out.cell1]) rfl (envPost_none HW.out)
set_option maxHeartbeats 1000000 in
set_option maxRecDepth 100000 in
theorem known_day (fs:List Fx) (cs:List Ch) (day:Int) (af ac:Option Addr) (cf cc:Nat) (w:World) (hn:fs.length≤1100000) (hm:cs.length≤1100000)
  (hf:Rd Fx.cells 3 w af fs) (hc:Rd Ch.cells 4 w ac cs) (hfs:∀ f ∈ fs,f.small) (hcs:∀ c ∈ cs,c.small) (he:envErr fs cs=0) (hd:isDay day=false) :
  Calls Tryz.prog 22 #[.agg #[.slice af fs.length cf,.slice ac cs.length cc],.int .i64 day] w (EnvPost w (knownErr fs cs day) (knownF fs cs day) (knownC fs cs day)):=by
 have HE:=Lib.hid (fun W (h:Below w.heap.size w W) => checkEnv_any fs cs af ac cf cc W hn hm (hf.below h) (hc.below h) hfs hcs)
 have hb0:=fun o => below_a1 w o
 have R1:knownErr fs cs day=2:=by rw [knownErr,if_pos he,hd];rfl
 rw [knownF,knownC,R1,if_neg (by decide),if_neg (by decide)]
 rw [he] at HE
 have hd':day < 0∨99999 < day:=by
  simp only [isDay,Bool.and_eq_false_iff,decide_eq_false_iff_not] at hd
  omega
 have HDd:=Lib.hid hd'
 clear hf hc hfs hcs he R1 hd hd'
 go_enter Tryz.func22,Tryz.ntmps22
 have bx:=fun (o1 o2:Obj) => Boxed2.new ((w.alloc o1).alloc o2) (.slice none 0 0) (.slice none 0 0) 33
 have HBX:=Lib.hid bx
 clear bx
 go_wp2_with fail
 refine (HE.out _ (below_a3 _ _ _ _)).mono ?_
 rintro e w1 ⟨rfl,hb1⟩
 have hs1:=hb1.size
 have b2:=(HBX.out _ _).below hb1
 simp at b2
 have hd0:w1.cell? ⟨w.heap.size+1,0,none⟩=some (.int .i64 day):=by rw [hb1.cell (by simp)];go_simp
 have r0:=b2.cell0
 have r1:=b2.cell1
 have z0:=b2.frozen 0
 have z1:=b2.frozen 1
 have hw1:Below w.heap.size w w1:=(below_a3 _ _ _ _).trans (hb1.mono (by simp;omega))
 have B2:=Lib.hid b2
 clear hb1 HBX b2
 have HS:=Lib.hid (B2.out.store (.slice none 0 0) (.slice none 0 0))
 have HW:=Lib.hid (below_store hw1 (B:=w.heap.size+1+1) (by omega) (.slice none 0 0) (.slice none 0 0))
 rcases HDd.out with hd | hd
 ·have t1:decide (day < 0)=true:=by rw [decide_eq_true_eq];omega
  clear hd
  go_wp2
  obtain ⟨W3,hW3⟩:∃ W3,W3=(w1.setCell ⟨w.heap.size+1+1,0,none⟩ (.slice none 0 0)).setCell ⟨w.heap.size+1+1,1,none⟩ (.slice none 0 0):=⟨_,rfl⟩
  rw [← hW3]
  rw [← hW3] at HS HW
  refine bodyPost_ret (v:=.tuple #[.agg #[.slice none 0 0,.slice none 0 0],.int .i64 2]) (by simp [results,Tryz.results22,go_sem,HS.out.cell0,HS.out.cell1]) rfl (envPost_none HW.out)
 ·have t1:decide (day < 0)=false:=by rw [decide_eq_false_iff_not];omega
  have t2:decide ((99999:Int) < day)=true:=by rw [decide_eq_true_eq];omega
  clear hd
  go_wp2
  obtain ⟨W3,hW3⟩:∃ W3,W3=(w1.setCell ⟨w.heap.size+1+1,0,none⟩ (.slice none 0 0)).setCell ⟨w.heap.size+1+1,1,none⟩ (.slice none 0 0):=⟨_,rfl⟩
  rw [← hW3]
  rw [← hW3] at HS HW
  refine bodyPost_ret (v:=.tuple #[.agg #[.slice none 0 0,.slice none 0 0],.int .i64 2]) (by simp [results,Tryz.results22,go_sem,HS.out.cell0,HS.out.cell1]) rfl (envPost_none HW.out)
theorem known_fin {w W:World} {N B2 B3:Nat} {gs:List Fx} {ds:List Ch} {ad2 ad3:Option Addr} {cap2 cap3:Nat} (hW:Below w.heap.size w W)
  (o2:W.ownsRow B2 89 3 (.slice ad2 gs.length cap2) gs.length (gs.flatMap Fx.cells)) (o3:W.ownsRow B3 85 4 (.slice ad3 ds.length cap3) ds.length (ds.flatMap Ch.cells))
  (h2:N < B2) (h3:N < B3) (hN:w.heap.size≤N) :
  EnvPost w 0 gs ds (.returned (.tuple #[.agg #[.slice ad2 gs.length cap2,.slice ad3 ds.length cap3],.int .i64 0])) ((W.setCell ⟨N,0,none⟩ (.slice ad2 gs.length cap2)).setCell ⟨N,1,none⟩ (.slice ad3 ds.length cap3)) :=
 ⟨ad2,cap2,ad3,cap3,rfl,ownsRow_base' (ownsRow_setCell_below (ownsRow_setCell_below o2 (a:=⟨N,0,none⟩) h2 _) (a:=⟨N,1,none⟩) h2 _) (by omega),
  ownsRow_base' (ownsRow_setCell_below (ownsRow_setCell_below o3 (a:=⟨N,0,none⟩) h3 _) (a:=⟨N,1,none⟩) h3 _) (by omega),below_store hW hN _ _⟩
set_option maxHeartbeats 2000000 in
set_option maxRecDepth 100000 in
theorem known_ok (fs:List Fx) (cs:List Ch) (day:Int) (af ac:Option Addr) (cf cc:Nat) (w:World) (hn:fs.length≤1100000) (hm:cs.length≤1100000)
  (hf:Rd Fx.cells 3 w af fs) (hc:Rd Ch.cells 4 w ac cs) (hfs:∀ f ∈ fs,f.small) (hcs:∀ c ∈ cs,c.small) (he:envErr fs cs=0) (hd:isDay day=true) :
  Calls Tryz.prog 22 #[.agg #[.slice af fs.length cf,.slice ac cs.length cc],.int .i64 day] w (EnvPost w (knownErr fs cs day) (knownF fs cs day) (knownC fs cs day)):=by
 have HE:=Lib.hid (fun W (h:Below w.heap.size w W) => checkEnv_any fs cs af ac cf cc W hn hm (hf.below h) (hc.below h) hfs hcs)
 have hb0:=fun o => below_a1 w o
 have R1:knownErr fs cs day=0:=by rw [knownErr,if_pos he,hd];rfl
 rw [knownF,knownC,R1,if_pos rfl,if_pos rfl]
 obtain ⟨gs,hgs⟩:∃ gs,gs=fs.filter (fun f => decide (f.d≤day)):=⟨_,rfl⟩
 obtain ⟨ds,hds⟩:∃ ds,ds=cs.filter (fun f => decide (f.d≤day)):=⟨_,rfl⟩
 rw [← hgs,← hds]
 have HG:=Lib.hid hgs
 have HDS:=Lib.hid hds
 clear hgs hds
 rw [he] at HE
 have hd':0≤day∧day≤99999:=by
  simp only [isDay,Bool.and_eq_true,decide_eq_true_eq] at hd
  exact hd
 have HFD:=Lib.hid hf
 have HCD:=Lib.hid hc
 have t1:decide (day < 0)=false:=by rw [decide_eq_false_iff_not];omega
 have t2:decide ((99999:Int) < day)=false:=by rw [decide_eq_false_iff_not];omega
 clear hf hc hfs hcs he R1 hd hd'
 go_enter Tryz.func22,Tryz.ntmps22
 have bx:=fun (o1 o2:Obj) => Boxed2.new ((w.alloc o1).alloc o2) (.slice none 0 0) (.slice none 0 0) 33
 have HBX:=Lib.hid bx
 clear bx
 go_wp2_with fail
 refine (HE.out _ (below_a3 _ _ _ _)).mono ?_
 rintro e w1 ⟨rfl,hb1⟩
 have hs1:=hb1.size
 simp at hs1
 have b2:=(HBX.out _ _).below hb1
 simp at b2
 have hd0:w1.cell? ⟨w.heap.size+1,0,none⟩=some (.int .i64 day):=by rw [hb1.cell (by simp)];go_simp
 have k0:w1.cell? ⟨w.heap.size,0,none⟩=some (.slice af fs.length cf):=by rw [hb1.cell (by simp;omega)];go_simp
 have k1:w1.cell? ⟨w.heap.size,1,none⟩=some (.slice ac cs.length cc):=by rw [hb1.cell (by simp;omega)];go_simp
 have hw1:Below w.heap.size w w1:=(below_a3 _ _ _ _).trans (hb1.mono (by simp;omega))
 have B2:=Lib.hid b2
 have HSt:∀ W w2,(Ext w1 W∧W.cell? ⟨w.heap.size,0,none⟩=some (.slice af fs.length cf)∧W.cell? ⟨w.heap.size,1,none⟩=some (.slice ac cs.length cc)∧W.cell? ⟨w.heap.size+1+1,0,none⟩=some (.slice none 0 0)∧W.cell? ⟨w.heap.size+1+1,1,none⟩=some (.slice none 0 0)∧W.frozen? ⟨w.heap.size+1+1,0,none⟩=false∧W.frozen? ⟨w.heap.size+1+1,1,none⟩=false)→Below W.heap.size W w2→(Ext w1 w2∧w2.cell? ⟨w.heap.size,0,none⟩=some (.slice af fs.length cf)∧w2.cell? ⟨w.heap.size,1,none⟩=some (.slice ac cs.length cc)∧w2.cell? ⟨w.heap.size+1+1,0,none⟩=some (.slice none 0 0)∧w2.cell? ⟨w.heap.size+1+1,1,none⟩=some (.slice none 0 0)∧w2.frozen? ⟨w.heap.size+1+1,0,none⟩=false∧w2.frozen? ⟨w.heap.size+1+1,1,none⟩=false):=by
  intro W w2 ⟨h1,h2,h3,h4,h5,h6,h7⟩ hb
  have hz:w.heap.size+1+1 < W.heap.size:=World.block_lt_of_cell? W _ h4
  exact ⟨h1.below.trans (hb.mono (Below.size h1)),Ext.cell hb h2,Ext.cell hb h3,Ext.cell hb h4,Ext.cell hb h5,by rw [hb.frozen hz];exact h6,by rw [hb.frozen hz];exact h7⟩
 have HK1:Hid (∀ W,(Ext w1 W∧W.cell? ⟨w.heap.size,0,none⟩=some (.slice af fs.length cf)∧W.cell? ⟨w.heap.size,1,none⟩=some (.slice ac cs.length cc)∧W.cell? ⟨w.heap.size+1+1,0,none⟩=some (.slice none 0 0)∧W.cell? ⟨w.heap.size+1+1,1,none⟩=some (.slice none 0 0)∧W.frozen? ⟨w.heap.size+1+1,0,none⟩=false∧W.frozen? ⟨w.heap.size+1+1,1,none⟩=false)→Calls Tryz.prog 54 #[.slice af fs.length cf,.func (.func 55) #[] #[.pointer (some ⟨w.heap.size+1,0,none⟩)]] W fun e w' => ∃ ad cap,e = .returned (.slice ad gs.length cap)∧w'.ownsRow W.heap.size 89 3 (.slice ad gs.length cap) gs.length (gs.flatMap Fx.cells)∧Below W.heap.size W w'∧(Ext w1 w'∧w'.cell? ⟨w.heap.size,0,none⟩=some (.slice af fs.length cf)∧w'.cell? ⟨w.heap.size,1,none⟩=some (.slice ac cs.length cc)∧w'.cell? ⟨w.heap.size+1+1,0,none⟩=some (.slice none 0 0)∧w'.cell? ⟨w.heap.size+1+1,1,none⟩=some (.slice none 0 0)∧w'.frozen? ⟨w.heap.size+1+1,0,none⟩=false∧w'.frozen? ⟨w.heap.size+1+1,1,none⟩=false)):=by
  intro W hS
  rw [HG.out]
  refine (keepF1_any (fun f => decide (f.d≤day)) fs af cf (w.heap.size+1) W hn ((HFD.out.below hw1).below hS.1) fun f _ W' hW' => known1_any f day _ W' (Ext.cell hW' (hS.1.cell hd0))).mono ?_
  rintro e w2 ⟨ad,cap,rfl,own,hb⟩
  have q:=HSt W w2 hS hb
  exact ⟨ad,cap,rfl,own,hb,q⟩
 have HK2:Hid (∀ W,(Ext w1 W∧W.cell? ⟨w.heap.size,0,none⟩=some (.slice af fs.length cf)∧W.cell? ⟨w.heap.size,1,none⟩=some (.slice ac cs.length cc)∧W.cell? ⟨w.heap.size+1+1,0,none⟩=some (.slice none 0 0)∧W.cell? ⟨w.heap.size+1+1,1,none⟩=some (.slice none 0 0)∧W.frozen? ⟨w.heap.size+1+1,0,none⟩=false∧W.frozen? ⟨w.heap.size+1+1,1,none⟩=false)→Calls Tryz.prog 56 #[.slice ac cs.length cc,.func (.func 57) #[] #[.pointer (some ⟨w.heap.size+1,0,none⟩)]] W fun e w' => ∃ ad cap,e = .returned (.slice ad ds.length cap)∧w'.ownsRow W.heap.size 85 4 (.slice ad ds.length cap) ds.length (ds.flatMap Ch.cells)∧Below W.heap.size W w'∧(Ext w1 w'∧w'.cell? ⟨w.heap.size,0,none⟩=some (.slice af fs.length cf)∧w'.cell? ⟨w.heap.size,1,none⟩=some (.slice ac cs.length cc)∧w'.cell? ⟨w.heap.size+1+1,0,none⟩=some (.slice none 0 0)∧w'.cell? ⟨w.heap.size+1+1,1,none⟩=some (.slice none 0 0)∧w'.frozen? ⟨w.heap.size+1+1,0,none⟩=false∧w'.frozen? ⟨w.heap.size+1+1,1,none⟩=false)):=by
  intro W hS
  rw [HDS.out]
  refine (keepC1_any (fun f => decide (f.d≤day)) cs ac cc (w.heap.size+1) W hm ((HCD.out.below hw1).below hS.1) fun f _ W' hW' => known2_any f day _ W' (Ext.cell hW' (hS.1.cell hd0))).mono ?_
  rintro e w2 ⟨ad,cap,rfl,own,hb⟩
  have q:=HSt W w2 hS hb
  exact ⟨ad,cap,rfl,own,hb,q⟩
 have HSt0:Hid (Ext w1 w1.drew∧w1.drew.cell? ⟨w.heap.size,0,none⟩=some (.slice af fs.length cf)∧w1.drew.cell? ⟨w.heap.size,1,none⟩=some (.slice ac cs.length cc)∧w1.drew.cell? ⟨w.heap.size+1+1,0,none⟩=some (.slice none 0 0)∧w1.drew.cell? ⟨w.heap.size+1+1,1,none⟩=some (.slice none 0 0)∧w1.drew.frozen? ⟨w.heap.size+1+1,0,none⟩=false∧w1.drew.frozen? ⟨w.heap.size+1+1,1,none⟩=false):=⟨Below.drew (Below.refl _ _),k0,k1,B2.out.cell0,B2.out.cell1,B2.out.frozen 0,B2.out.frozen 1⟩
 clear HSt
 clear hb1 HBX b2
 have r0:=B2.out.cell0
 have r1:=B2.out.cell1
 have z0:=B2.out.frozen 0
 have z1:=B2.out.frozen 1
 go_wp2
 have HS0:=HSt0.out
 have hN0:w.heap.size+1+1 < w1.drew.heap.size:=by show _ < w1.heap.size;omega
 go_region_held3 (fun w' => w'.cell? ⟨w.heap.size,0,none⟩=some (.slice af fs.length cf)∧w'.cell? ⟨w.heap.size,1,none⟩=some (.slice ac cs.length cc)) (first | assumption | exact ⟨by assumption,by assumption⟩ | (refine ⟨?_,?_⟩ <;> (rw [World.cell?_setCell_far _ _ _ _ (by show w.heap.size+1+1 ≠ w.heap.size;omega),World.cell?_setCell_far _ _ _ _ (by show w.heap.size+1+1 ≠ w.heap.size;omega)];assumption)) | go_keep)
  (first | (go_at_call 54;refine (HK1.out _ ?_).mono ?_;(first | exact hS3 | exact HS0);rintro e w2 ⟨ad2,cap2,rfl,own2,hb2,hS2⟩;obtain ⟨p1,p2,p3,p4,p5,p6,p7⟩:=id hS2) | (go_at_call 56;refine (HK2.out _ ?_).mono ?_;(first | exact hS2 | exact HS0);rintro e w3 ⟨ad3,cap3,rfl,own3,hb3,hS3⟩;obtain ⟨p1,p2,p3,p4,p5,p6,p7⟩:=id hS3))
 all_goals go_wp2
 all_goals first
  | (have HS:=Lib.hid ((B2.out.below hS3.1).store (.slice ad2 gs.length cap2) (.slice ad3 ds.length cap3))
     have HW:=Lib.hid (known_fin (gs:=gs) (ds:=ds) (N:=w.heap.size+1+1) (hw1.trans (hS3.1.below.mono (by omega))) (ownsRow_below' own2 hb3) own3 hN0 (Nat.lt_of_lt_of_le hN0 hb2.size) (by omega))
     obtain ⟨W3,hW3⟩:∃ W3,W3=(w3.setCell ⟨w.heap.size+1+1,0,none⟩ (.slice ad2 gs.length cap2)).setCell ⟨w.heap.size+1+1,1,none⟩ (.slice ad3 ds.length cap3):=⟨_,rfl⟩
     rw [← hW3]
     rw [← hW3] at HS HW
     refine bodyPost_ret (v:=.tuple #[.agg #[.slice ad2 gs.length cap2,.slice ad3 ds.length cap3],.int .i64 0]) (by simp [results,Tryz.results22,go_sem,HS.out.cell0,HS.out.cell1]) rfl HW.out)
  | (have HS:=Lib.hid ((B2.out.below hS2.1).store (.slice ad2 gs.length cap2) (.slice ad3 ds.length cap3))
     have HW:=Lib.hid (known_fin (gs:=gs) (ds:=ds) (N:=w.heap.size+1+1) (hw1.trans (hS2.1.below.mono (by omega))) own2 (ownsRow_below' own3 hb2) (Nat.lt_of_lt_of_le hN0 hb3.size) hN0 (by omega))
     obtain ⟨W3,hW3⟩:∃ W3,W3=(w2.setCell ⟨w.heap.size+1+1,0,none⟩ (.slice ad2 gs.length cap2)).setCell ⟨w.heap.size+1+1,1,none⟩ (.slice ad3 ds.length cap3):=⟨_,rfl⟩
     rw [← hW3]
     rw [← hW3] at HS HW
     refine bodyPost_ret (v:=.tuple #[.agg #[.slice ad2 gs.length cap2,.slice ad3 ds.length cap3],.int .i64 0]) (by simp [results,Tryz.results22,go_sem,HS.out.cell0,HS.out.cell1]) rfl HW.out)
theorem known_any (fs:List Fx) (cs:List Ch) (day:Int) (af ac:Option Addr) (cf cc:Nat) (w:World) (hn:fs.length≤1100000) (hm:cs.length≤1100000)
  (hf:Rd Fx.cells 3 w af fs) (hc:Rd Ch.cells 4 w ac cs) (hfs:∀ f ∈ fs,f.small) (hcs:∀ c ∈ cs,c.small) :
  Calls Tryz.prog 22 #[.agg #[.slice af fs.length cf,.slice ac cs.length cc],.int .i64 day] w (EnvPost w (knownErr fs cs day) (knownF fs cs day) (knownC fs cs day)):=by
 by_cases he:envErr fs cs=0
 ·cases hd:isDay day with
  | true => exact known_ok fs cs day af ac cf cc w hn hm hf hc hfs hcs he hd
  | false => exact known_day fs cs day af ac cf cc w hn hm hf hc hfs hcs he hd
 ·exact known_err fs cs day af ac cf cc w hn hm hf hc hfs hcs he
end Go.Proofs.YtcnpaciljmekcaaGreatDoor

namespace Go.Proofs.YtcnpaciljmekcaaGreatDoor
open Go.RowKit
theorem Rd.nd {w:World} {ad:Option Addr} {l:List Nd} (h:Rd Nd.cells 2 w ad l) {j:Nat} {f:Nd} (hj:l[j]? = some f) :
  ∃ b off,ad=some ⟨b,off,none⟩∧w.cell? ⟨b,off+j * 2,none⟩=some (.string f.nm)∧w.cell? ⟨b,off+j * 2+1,none⟩=some (.int .i64 f.d):=by
 obtain ⟨b,off,rfl,h3⟩:=h j f hj
 exact ⟨b,off,rfl,h3 0 _ rfl,h3 1 _ rfl⟩
noncomputable def litN (n:ByteArray) (d:Int):Lit:=(keyOf Tryz.prog 81 (.agg #[.string n,.int .i64 d])).getD (.bool false)
noncomputable def litC (p n:ByteArray) (d:Int):Lit:=(keyOf Tryz.prog 85 (.agg #[.string p,.string n,.int .i64 d,.bool false])).getD (.bool false)
theorem litN_key {n:ByteArray} {d:Int} (hn:n.size≤maxLen) (hd:(Lit.int .i64 d).wf=true):keyOf Tryz.prog 81 (.agg #[.string n,.int .i64 d])=some (litN n d):=by
 obtain ⟨kl,h⟩:=key_need n d hn hd
 rw [litN,h];rfl
theorem litC_key {p n:ByteArray} {d:Int} (hp:p.size≤maxLen) (hn:n.size≤maxLen) (hd:(Lit.int .i64 d).wf=true):keyOf Tryz.prog 85 (.agg #[.string p,.string n,.int .i64 d,.bool false])=some (litC p n d):=by
 obtain ⟨kl,h⟩:=key_choice p n d false hp hn hd
 rw [litC,h];rfl
set_option maxRecDepth 100000 in
theorem isKeyN {n:ByteArray} {d:Int} (hn:n.size≤1100000) (hd:(Lit.int .i64 d).wf=true):WideAt.IsKeyLit (litN n d) :=
 have h:=litN_key (Nat.le_trans hn (by unfold maxLen;omega)) hd
 law_need.key h
set_option maxRecDepth 100000 in
theorem isKeyC {p n:ByteArray} {d:Int} (hp:p.size≤1100000) (hn:n.size≤1100000) (hd:(Lit.int .i64 d).wf=true):WideAt.IsKeyLit (litC p n d) :=
 have h:=litC_key (Nat.le_trans hp (by unfold maxLen;omega)) (Nat.le_trans hn (by unfold maxLen;omega)) hd
 law_choice.key h
theorem small_max {n:Nat} (h:n≤1100000):n≤maxLen:=by unfold maxLen;omega
noncomputable def setN (l:List Nd):DataW Unit:=Maps.setOf (.agg []) (l.map fun f => litN f.nm f.d)
noncomputable def setC (l:List Ch):DataW Unit:=Maps.setOf (.agg []) (l.map fun f => litC f.pt f.nm f.d)
set_option maxRecDepth 100000 in
theorem has_setN {l:List Nd} (hl:∀ f ∈ l,f.small) {n:ByteArray} {d:Int} (hn:n.size≤1100000) (hd:(Lit.int .i64 d).wf=true):Maps.has (setN l) (litN n d)=eqB (∃ f ∈ l,f.nm=n∧f.d=d):=by
 rw [setN,Maps.has_setOf]
 ·by_cases h:∃ f ∈ l,f.nm=n∧f.d=d
  ·rw [eqB_true h]
   obtain ⟨f,hf,rfl,rfl⟩:=h
   rw [List.any_eq_true]
   exact ⟨_,List.mem_map_of_mem hf,WideAt.sameKey_self (isKeyN hn hd)⟩
  ·rw [eqB_false h,Bool.eq_false_iff]
   intro ha
   rw [List.any_eq_true] at ha
   obtain ⟨x,hx,hs⟩:=ha
   obtain ⟨f,hf,rfl⟩:=List.mem_map.1 hx
   have e:=WideAt.sameKey_eq hs
   have h1:=litN_key (small_max (hl f hf).1) (hl f hf).2
   have h2:=litN_key (small_max hn) hd
   rw [e] at h1
   have:=law_need.inj h1 h2
   simp at this
   exact h ⟨f,hf,this.1,this.2⟩
 ·intro x hx
  obtain ⟨f,hf,rfl⟩:=List.mem_map.1 hx
  exact isKeyN (hl f hf).1 (hl f hf).2
set_option maxRecDepth 100000 in
theorem has_setC {l:List Ch} (hl:∀ f ∈ l,f.small∧f.fits) {p n:ByteArray} {d:Int} (hp:p.size≤1100000) (hn:n.size≤1100000) (hd:(Lit.int .i64 d).wf=true):Maps.has (setC l) (litC p n d)=eqB (∃ f ∈ l,f.pt=p∧f.nm=n∧f.d=d):=by
 rw [setC,Maps.has_setOf]
 ·by_cases h:∃ f ∈ l,f.pt=p∧f.nm=n∧f.d=d
  ·rw [eqB_true h]
   obtain ⟨f,hf,rfl,rfl,rfl⟩:=h
   rw [List.any_eq_true]
   exact ⟨_,List.mem_map_of_mem hf,WideAt.sameKey_self (isKeyC hp hn hd)⟩
  ·rw [eqB_false h,Bool.eq_false_iff]
   intro ha
   rw [List.any_eq_true] at ha
   obtain ⟨x,hx,hs⟩:=ha
   obtain ⟨f,hf,rfl⟩:=List.mem_map.1 hx
   have e:=WideAt.sameKey_eq hs
   have h1:=litC_key (small_max (hl f hf).1.1) (small_max (hl f hf).1.2) (hl f hf).2
   have h2:=litC_key (small_max hp) (small_max hn) hd
   rw [e] at h1
   have:=law_choice.inj h1 h2
   simp at this
   exact h ⟨f,hf,this.1,this.2.1,this.2.2⟩
 ·intro x hx
  obtain ⟨f,hf,rfl⟩:=List.mem_map.1 hx
  exact isKeyC (hl f hf).1.1 (hl f hf).1.2 (hl f hf).2
theorem grown_step {w0 w w2:World} {b:Nat} {o:Obj} (h:w0.grownBy w (some b)) (hg:(w.alloc o).grownBy w2 (some b)):w0.grownBy w2 (some b) :=
 ⟨hg.os.trans h.os,hg.tape.trans h.tape,hg.output.trans h.output,Nat.le_trans h.size (Nat.le_trans (by simp) hg.size),fun k hk hne => ((hg.block k (by have:=h.size;simp;omega) hne).trans (Below.heap_alloc _ _ _ (Nat.lt_of_lt_of_le hk h.size))).trans (h.block k hk hne)⟩
noncomputable def needed (ns:List Nd) (f:Fx):Bool:=eqB (∃ x ∈ ns,x.nm=f.nm∧x.d=f.d)
noncomputable def isOpen (ks:List Ch) (f:Ch):Bool:=eqB (∃ x ∈ ks,x.pt=f.pt∧x.nm=f.nm∧x.d=f.d)
noncomputable def onlyF (fs:List Fx) (cs:List Ch) (ns:List Nd):List Fx:=if envErr fs cs=0 then fs.filter (needed ns) else []
noncomputable def onlyC (fs:List Fx) (cs:List Ch) (ks:List Ch):List Ch:=if envErr fs cs=0 then cs.filter (isOpen ks) else []
set_option maxHeartbeats 2000000 in
set_option maxRecDepth 100000 in
theorem only_ok (fs:List Fx) (cs:List Ch) (ns:List Nd) (ks:List Ch) (af ac an ak:Option Addr) (cf cc cn ck:Nat) (w:World) (hn:fs.length≤1100000) (hm:cs.length≤1100000) (hnn:ns.length≤1100000) (hkk:ks.length≤1100000)
  (hf:Rd Fx.cells 3 w af fs) (hc:Rd Ch.cells 4 w ac cs) (hrn:Rd Nd.cells 2 w an ns) (hrk:Rd Ch.cells 4 w ak ks) (hfs:∀ f ∈ fs,f.small) (hcs:∀ c ∈ cs,c.small) (hns:∀ f ∈ ns,f.small) (hks:∀ f ∈ ks,f.small∧f.fits) (hff:∀ f ∈ fs,f.fits) (hcf:∀ f ∈ cs,f.fits) (he:envErr fs cs=0) :
  Calls Tryz.prog 28 #[.agg #[.slice af fs.length cf,.slice ac cs.length cc],.slice an ns.length cn,.slice ak ks.length ck] w (EnvPost w (envErr fs cs) (onlyF fs cs ns) (onlyC fs cs ks)):=by
 have HE:=Lib.hid (fun W (h:Below w.heap.size w W) => checkEnv_any fs cs af ac cf cc W hn hm (hf.below h) (hc.below h) hfs hcs)
 rw [onlyF,onlyC,he,if_pos rfl,if_pos rfl]
 rw [he] at HE
 obtain ⟨gs,hgs⟩:∃ gs,gs=fs.filter (needed ns):=⟨_,rfl⟩
 obtain ⟨ds,hds⟩:∃ ds,ds=cs.filter (isOpen ks):=⟨_,rfl⟩
 rw [← hgs,← hds]
 have HG:=Lib.hid hgs
 have HD:=Lib.hid hds
 have HSF:Hid (∀ f ∈ fs,f.small∧f.fits):=fun f h => ⟨hfs f h,hff f h⟩
 have HSC:Hid (∀ f ∈ cs,f.small∧f.fits):=fun f h => ⟨hcs f h,hcf f h⟩
 have Rfs:=Lib.hid hf
 have Rcs:=Lib.hid hc
 have Rns:=Lib.hid hrn
 have Rks:=Lib.hid hrk
 have Hns:=Lib.hid hns
 have Hks:=Lib.hid hks
 clear hf hc hrn hrk hfs hcs hns hks he hgs hds hff hcf
 have hmm:=@run_makeMap Tryz.prog
 go_enter Tryz.func28,Tryz.ntmps28
 go_wp2_with fail
 refine (HE.out _ (below_a2 _ _ _)).mono ?_
 rintro e w1 ⟨rfl,hb1⟩
 have hs1:=hb1.size
 simp at hs1
 have hbel:Below w.heap.size w w1:=(below_a2 _ _ _).trans (hb1.mono (by simp;omega))
 have k0:w1.cell? ⟨w.heap.size,0,none⟩=some (.slice af fs.length cf):=by rw [hb1.cell (by simp;omega)];go_simp
 have k1:w1.cell? ⟨w.heap.size,1,none⟩=some (.slice ac cs.length cc):=by rw [hb1.cell (by simp;omega)];go_simp
 have BX:=(Boxed2.new (w.alloc (.cells #[.slice af fs.length cf,.slice ac cs.length cc] 33)) (.slice none 0 0) (.slice none 0 0) 33).below hb1
 simp at BX
 have HBX:=Lib.hid BX
 clear BX
 go_upto_block 0 with fail
 obtain ⟨W0,hW0⟩:∃ W0,W0=((((w1.alloc (.map #[] 0)).alloc (.map #[] 0)).alloc (.cells #[.map (some w1.heap.size)] 128)).alloc (.cells #[.map (some (w1.heap.size+1))] 129)):=⟨_,rfl⟩
 rw [← hW0]
 have own1:W0.ownsMap Tryz.prog 81 (unitElem (H:=Unit)) w1.heap.size 0 (setN []):=by
  rw [hW0]
  exact (((World.ownsMap_made _ _ _ _).alloc _).alloc _).alloc _
 have own2:W0.ownsMap Tryz.prog 85 (unitElem (H:=Unit)) (w1.heap.size+1) 0 (setC []):=by
  rw [hW0]
  have h:=World.ownsMap_made (P:=Tryz.prog) (k:=85) (R:=unitElem (H:=Unit)) (w1.alloc (.map #[] 0))
  simp at h
  exact (h.alloc _).alloc _
 have hbel1:Below w1.heap.size w1 W0:=by rw [hW0];exact ((((Below.refl _ _).alloc (Nat.le_refl _) _).alloc (by simp) _).alloc (by simp;omega) _).alloc (by simp;omega) _
 have hb0:Below w.heap.size w W0:=hbel.trans (hbel1.mono (by omega))
 have m1:W0.cell? ⟨w1.heap.size+1+1,0,none⟩=some (.map (some w1.heap.size)):=by rw [hW0];go_simp
 have m2:W0.cell? ⟨w1.heap.size+1+1+1,0,none⟩=some (.map (some (w1.heap.size+1))):=by rw [hW0];go_simp
 have hz0:W0.heap.size=w1.heap.size+1+1+1+1:=by rw [hW0];simp
 clear hW0
 have K0:=Lib.hid k0
 have K1:=Lib.hid k1
 clear k0 k1
 have M1:=Lib.hid m1
 have Hz0:=Lib.hid hz0
 clear m1 hz0
 go_cut [12,25] from 26 to 32 (fun _ _ wc => wc.ownsMap Tryz.prog 81 (unitElem (H:=Unit)) w1.heap.size ns.length (setN ns)∧W0.grownBy wc (some w1.heap.size))
 case first =>
  go_wp2_with fail
  go_loopw [25] (fun i wr => ∃ k:Nat,k≤ns.length∧i = .int .i64 k∧wr.ownsMap Tryz.prog 81 (unitElem (H:=Unit)) w1.heap.size k (setN (ns.take k))∧W0.grownBy wr (some w1.heap.size)) (fun i _ => ns.length - (intOf i).toNat)
  case atStart => exact ⟨0,Nat.zero_le _,rfl,own1,World.grownBy.refl _ _⟩
  case round =>
   obtain ⟨k,hk,rfl,hown,hg⟩:=hrel
   have hq:=M1.out
   have c9:wr.cell? ⟨w1.heap.size+1+1,0,none⟩=some (.map (some w1.heap.size)):=by
    rw [World.cell?_of_block (w:=W0) (hg.block _ (by have:=Hz0.out;show w1.heap.size+1+1 < _;omega) (by simp;omega))];exact hq
   have hlt9:w1.heap.size+1+1 < wr.heap.size:=World.block_lt_of_cell? wr _ c9
   clear hq
   by_cases hlt:k < ns.length
   ·obtain ⟨f,hf⟩:∃ f,ns[k]? = some f:=⟨_,List.getElem?_eq_getElem hlt⟩
    have hbr:Below w.heap.size w wr:=hb0.grown hg (by have:=hb0.size;omega) (fun k hk => by simp at hk;omega)
    have HRf:=((Rns.out.below hbr).nd hf)
    have hsm:=Hns.out f (List.mem_of_getElem? hf)
    have hkey:=Lib.hid (litN_key (small_max hsm.1) hsm.2)
    have HX:Hid (setN (ns.take (k+1))=(setN (ns.take k)).put (litN f.nm f.d) (.agg [])):=by
     show _=_
     rw [setN,List.take_add_one,hf,List.map_append]
     exact Maps.setOf_snoc _ _ _
    clear hf hsm
    obtain ⟨b,off,rfl,hc1,hc2⟩:=HRf
    go_wp2_with (at_mapUpdate;refine wpList_mapUpdate_own _ rfl _ _ _ 128 rfl 81 130 law_need ul_needmap _ w1.heap.size k _ rfl (hown.alloc _) (by unfold maxLen;omega) _ _ _ rfl rfl hkey.out _ [] unitElem_mk ?_;intro w2 hown2 hgrow2)
    have hown3:w2.ownsMap Tryz.prog 81 (unitElem (H:=Unit)) w1.heap.size (k+1) (setN (ns.take (k+1))):=by rw [HX.out];exact hown2
    have hg2:=grown_step hg hgrow2
    clear hown2 hgrow2 hown hg
    go_roundw
    case rel => exact ⟨k+1,by omega,by go_num,hown3,hg2⟩
    case measure => simp [intOf];omega
   ·obtain rfl:k=ns.length:=by omega
    rw [List.take_length] at hown
    go_wp2
    go_meet
    exact ⟨hown,hg⟩
 case rest =>
  obtain ⟨own1c,hgA⟩:=hcut
  have own2c:wc.ownsMap Tryz.prog 85 (unitElem (H:=Unit)) (w1.heap.size+1) 0 (setC []):=ownsMap_kept own2 (hgA.block _ (by have:=Hz0.out;omega) (by simp))
  have hbc:Below w.heap.size w wc:=hb0.grown hgA (by have:=hb0.size;omega) (fun k hk => by simp at hk;omega)
  have c10:wc.cell? ⟨w1.heap.size+1+1+1,0,none⟩=some (.map (some (w1.heap.size+1))):=by
   rw [World.cell?_of_block (w:=W0) (hgA.block _ (by have:=Hz0.out;show w1.heap.size+1+1+1 < _;omega) (by simp;omega))];exact m2
  have M2:=Lib.hid c10
  clear m2 own1 own2 c10
  go_wp2
  go_loopw [35] (fun i wr => ∃ k:Nat,k≤ks.length∧i = .int .i64 k∧wr.ownsMap Tryz.prog 85 (unitElem (H:=Unit)) (w1.heap.size+1) k (setC (ks.take k))∧wc.grownBy wr (some (w1.heap.size+1))) (fun i _ => ks.length - (intOf i).toNat)
  case atStart => exact ⟨0,Nat.zero_le _,rfl,own2c,World.grownBy.refl _ _⟩
  case round =>
   obtain ⟨k,hk,rfl,hown,hg⟩:=hrel
   have hlt8:w1.heap.size+1+1+1 < wc.heap.size:=World.block_lt_of_cell? wc _ M2.out
   have c9:wr.cell? ⟨w1.heap.size+1+1+1,0,none⟩=some (.map (some (w1.heap.size+1))):=by
    rw [World.cell?_of_block (w:=wc) (hg.block _ hlt8 (by simp;omega))];exact M2.out
   have hlt9:w1.heap.size+1+1+1 < wr.heap.size:=World.block_lt_of_cell? wr _ c9
   by_cases hlt:k < ks.length
   ·obtain ⟨f,hf⟩:∃ f,ks[k]? = some f:=⟨_,List.getElem?_eq_getElem hlt⟩
    have hbr:Below w.heap.size w wr:=hbc.grown hg (by have:=hbc.size;omega) (fun k hk => by simp at hk;omega)
    have HRf:=((Rks.out.below hbr).ch hf)
    have hsm:=Hks.out f (List.mem_of_getElem? hf)
    have hkey:=Lib.hid (litC_key (small_max hsm.1.1) (small_max hsm.1.2) hsm.2)
    have HX:Hid (setC (ks.take (k+1))=(setC (ks.take k)).put (litC f.pt f.nm f.d) (.agg [])):=by
     show _=_
     rw [setC,List.take_add_one,hf,List.map_append]
     exact Maps.setOf_snoc _ _ _
    clear hf hsm
    obtain ⟨b,off,rfl,hc1,hc2,hc3,hc4⟩:=HRf
    go_wp2_with (at_mapUpdate;refine wpList_mapUpdate_own _ rfl _ _ _ 129 rfl 85 130 law_choice ul_choicemap _ (w1.heap.size+1) k _ rfl (hown.alloc _) (by unfold maxLen;omega) _ _ _ rfl rfl hkey.out _ [] unitElem_mk ?_;intro w2 hown2 hgrow2)
    have hown3:w2.ownsMap Tryz.prog 85 (unitElem (H:=Unit)) (w1.heap.size+1) (k+1) (setC (ks.take (k+1))):=by rw [HX.out];exact hown2
    have hg2:=grown_step hg hgrow2
    clear hown2 hgrow2 hown hg
    go_roundw
    case rel => exact ⟨k+1,by omega,by go_num,hown3,hg2⟩
    case measure => simp [intOf];omega
   ·obtain rfl:k=ks.length:=by omega
    rw [List.take_length] at hown
    have hb1r:Below w1.heap.size w1 wr:=(hbel1.grown hgA (by have:=Hz0.out;omega) (fun k hk => by simp at hk;omega)).grown hg (by have:=hgA.size;have:=Hz0.out;omega) (fun k hk => by simp at hk;omega)
    have hwr:Below w.heap.size w wr:=hbel.trans (hb1r.mono (by omega))
    have own1r:=ownsMap_kept own1c (hg.block _ (by have:=hgA.size;have:=Hz0.out;omega) (by simp))
    have c8:wr.cell? ⟨w1.heap.size+1+1,0,none⟩=some (.map (some w1.heap.size)):=by
     rw [World.cell?_of_block (w:=wc) (hg.block _ (by have:=hgA.size;have:=Hz0.out;show w1.heap.size+1+1 < _;omega) (by simp)),World.cell?_of_block (w:=W0) (hgA.block _ (by have:=Hz0.out;show w1.heap.size+1+1 < _;omega) (by simp;omega))];exact M1.out
    have hl1:w1.heap.size < wr.heap.size:=ownsMap_lt own1r
    have hl2:w1.heap.size+1 < wr.heap.size:=ownsMap_lt hown
    have B2:=Lib.hid (HBX.out.of_block (hb1r.block _ (by omega)))
    have k0:wr.cell? ⟨w.heap.size,0,none⟩=some (.slice af fs.length cf):=by rw [hb1r.cell (by show w.heap.size < _;omega)];exact K0.out
    have k1:wr.cell? ⟨w.heap.size,1,none⟩=some (.slice ac cs.length cc):=by rw [hb1r.cell (by show w.heap.size < _;omega)];exact K1.out
    have HSt:∀ W w2,(Ext wr W∧W.cell? ⟨w.heap.size,0,none⟩=some (.slice af fs.length cf)∧W.cell? ⟨w.heap.size,1,none⟩=some (.slice ac cs.length cc)∧W.cell? ⟨w.heap.size+1,0,none⟩=some (.slice none 0 0)∧W.cell? ⟨w.heap.size+1,1,none⟩=some (.slice none 0 0)∧W.frozen? ⟨w.heap.size+1,0,none⟩=false∧W.frozen? ⟨w.heap.size+1,1,none⟩=false)→Below W.heap.size W w2→(Ext wr w2∧w2.cell? ⟨w.heap.size,0,none⟩=some (.slice af fs.length cf)∧w2.cell? ⟨w.heap.size,1,none⟩=some (.slice ac cs.length cc)∧w2.cell? ⟨w.heap.size+1,0,none⟩=some (.slice none 0 0)∧w2.cell? ⟨w.heap.size+1,1,none⟩=some (.slice none 0 0)∧w2.frozen? ⟨w.heap.size+1,0,none⟩=false∧w2.frozen? ⟨w.heap.size+1,1,none⟩=false):=by
     intro W w2 ⟨h1,h2,h3,h4,h5,h6,h7⟩ hb
     have hz:w.heap.size+1 < W.heap.size:=World.block_lt_of_cell? W _ h4
     exact ⟨h1.below.trans (hb.mono (Below.size h1)),Ext.cell hb h2,Ext.cell hb h3,Ext.cell hb h4,Ext.cell hb h5,by rw [hb.frozen hz];exact h6,by rw [hb.frozen hz];exact h7⟩
    have HK1:Hid (∀ W,(Ext wr W∧W.cell? ⟨w.heap.size,0,none⟩=some (.slice af fs.length cf)∧W.cell? ⟨w.heap.size,1,none⟩=some (.slice ac cs.length cc)∧W.cell? ⟨w.heap.size+1,0,none⟩=some (.slice none 0 0)∧W.cell? ⟨w.heap.size+1,1,none⟩=some (.slice none 0 0)∧W.frozen? ⟨w.heap.size+1,0,none⟩=false∧W.frozen? ⟨w.heap.size+1,1,none⟩=false)→Calls Tryz.prog 54 #[.slice af fs.length cf,.func (.func 75) #[] #[.pointer (some ⟨w1.heap.size+1+1,0,none⟩)]] W fun e w' => ∃ ad cap,e = .returned (.slice ad gs.length cap)∧w'.ownsRow W.heap.size 89 3 (.slice ad gs.length cap) gs.length (gs.flatMap Fx.cells)∧Below W.heap.size W w'∧(Ext wr w'∧w'.cell? ⟨w.heap.size,0,none⟩=some (.slice af fs.length cf)∧w'.cell? ⟨w.heap.size,1,none⟩=some (.slice ac cs.length cc)∧w'.cell? ⟨w.heap.size+1,0,none⟩=some (.slice none 0 0)∧w'.cell? ⟨w.heap.size+1,1,none⟩=some (.slice none 0 0)∧w'.frozen? ⟨w.heap.size+1,0,none⟩=false∧w'.frozen? ⟨w.heap.size+1,1,none⟩=false)):=by
     intro W hS
     rw [HG.out]
     refine (keepF2_any (needed ns) fs af cf (w1.heap.size+1+1) W hn ((Rfs.out.below hwr).below hS.1) fun f hf W' hW' => ?_).mono ?_
     ·rw [show needed ns f=Maps.has (setN ns) (litN f.nm f.d) from (has_setN Hns.out (HSF.out f hf).1.1 (HSF.out f hf).2).symm]
      exact only1_any f _ w1.heap.size ns.length (setN ns) _ W' (Ext.cell hW' (hS.1.cell c8)) (ownsMap_kept own1r (((Below.block hW' _ (Nat.lt_of_lt_of_le hl1 (Below.size hS.1))).trans (Below.block hS.1 _ hl1)))) (litN_key (small_max (HSF.out f hf).1.1) (HSF.out f hf).2)
     ·rintro e w2 ⟨ad,cap,rfl,own,hb⟩
      have q:=HSt W w2 hS hb
      exact ⟨ad,cap,rfl,own,hb,q⟩
    have HK2:Hid (∀ W,(Ext wr W∧W.cell? ⟨w.heap.size,0,none⟩=some (.slice af fs.length cf)∧W.cell? ⟨w.heap.size,1,none⟩=some (.slice ac cs.length cc)∧W.cell? ⟨w.heap.size+1,0,none⟩=some (.slice none 0 0)∧W.cell? ⟨w.heap.size+1,1,none⟩=some (.slice none 0 0)∧W.frozen? ⟨w.heap.size+1,0,none⟩=false∧W.frozen? ⟨w.heap.size+1,1,none⟩=false)→Calls Tryz.prog 56 #[.slice ac cs.length cc,.func (.func 76) #[] #[.pointer (some ⟨w1.heap.size+1+1+1,0,none⟩)]] W fun e w' => ∃ ad cap,e = .returned (.slice ad ds.length cap)∧w'.ownsRow W.heap.size 85 4 (.slice ad ds.length cap) ds.length (ds.flatMap Ch.cells)∧Below W.heap.size W w'∧(Ext wr w'∧w'.cell? ⟨w.heap.size,0,none⟩=some (.slice af fs.length cf)∧w'.cell? ⟨w.heap.size,1,none⟩=some (.slice ac cs.length cc)∧w'.cell? ⟨w.heap.size+1,0,none⟩=some (.slice none 0 0)∧w'.cell? ⟨w.heap.size+1,1,none⟩=some (.slice none 0 0)∧w'.frozen? ⟨w.heap.size+1,0,none⟩=false∧w'.frozen? ⟨w.heap.size+1,1,none⟩=false)):=by
     intro W hS
     rw [HD.out]
     refine (keepC2_any (isOpen ks) cs ac cc (w1.heap.size+1+1+1) W hm ((Rcs.out.below hwr).below hS.1) fun f hf W' hW' => ?_).mono ?_
     ·rw [show isOpen ks f=Maps.has (setC ks) (litC f.pt f.nm f.d) from (has_setC Hks.out (HSC.out f hf).1.1 (HSC.out f hf).1.2 (HSC.out f hf).2).symm]
      exact only2_any f _ (w1.heap.size+1) ks.length (setC ks) _ W' (Ext.cell hW' (hS.1.cell c9)) (ownsMap_kept hown (((Below.block hW' _ (Nat.lt_of_lt_of_le hl2 (Below.size hS.1))).trans (Below.block hS.1 _ hl2)))) (litC_key (small_max (HSC.out f hf).1.1) (small_max (HSC.out f hf).1.2) (HSC.out f hf).2)
     ·rintro e w2 ⟨ad,cap,rfl,own,hb⟩
      have q:=HSt W w2 hS hb
      exact ⟨ad,cap,rfl,own,hb,q⟩
    have HS0:(Ext wr wr.drew∧wr.drew.cell? ⟨w.heap.size,0,none⟩=some (.slice af fs.length cf)∧wr.drew.cell? ⟨w.heap.size,1,none⟩=some (.slice ac cs.length cc)∧wr.drew.cell? ⟨w.heap.size+1,0,none⟩=some (.slice none 0 0)∧wr.drew.cell? ⟨w.heap.size+1,1,none⟩=some (.slice none 0 0)∧wr.drew.frozen? ⟨w.heap.size+1,0,none⟩=false∧wr.drew.frozen? ⟨w.heap.size+1,1,none⟩=false):=⟨Below.drew (Below.refl _ _),k0,k1,B2.out.cell0,B2.out.cell1,B2.out.frozen 0,B2.out.frozen 1⟩
    have hN0:w.heap.size+1 < wr.drew.heap.size:=by show _ < wr.heap.size;omega
    clear HSt own1c own1r hown hg hgA c8 c9
    go_wp2
    go_region_held3 (fun w' => w'.cell? ⟨w.heap.size,0,none⟩=some (.slice af fs.length cf)∧w'.cell? ⟨w.heap.size,1,none⟩=some (.slice ac cs.length cc)) (first | assumption | exact ⟨by assumption,by assumption⟩ | (refine ⟨?_,?_⟩ <;> (rw [World.cell?_setCell_far _ _ _ _ (by show w.heap.size+1 ≠ w.heap.size;omega),World.cell?_setCell_far _ _ _ _ (by show w.heap.size+1 ≠ w.heap.size;omega)];assumption)) | go_keep)
     (first | (go_at_call 54;refine (HK1.out _ ?_).mono ?_;(first | exact hS3 | exact HS0);rintro e w2 ⟨ad2,cap2,rfl,own2,hb2,hS2⟩;obtain ⟨p1,p2,p3,p4,p5,p6,p7⟩:=id hS2) | (go_at_call 56;refine (HK2.out _ ?_).mono ?_;(first | exact hS2 | exact HS0);rintro e w3 ⟨ad3,cap3,rfl,own3,hb3,hS3⟩;obtain ⟨p1,p2,p3,p4,p5,p6,p7⟩:=id hS3))
    all_goals go_wp2
    all_goals first
     | (have HS:=Lib.hid ((B2.out.below hS3.1).store (.slice ad2 gs.length cap2) (.slice ad3 ds.length cap3))
        have HW:=Lib.hid (known_fin (gs:=gs) (ds:=ds) (N:=w.heap.size+1) (hwr.trans (hS3.1.below.mono (by omega))) (ownsRow_below' own2 hb3) own3 hN0 (Nat.lt_of_lt_of_le hN0 hb2.size) (by omega))
        obtain ⟨W3,hW3⟩:∃ W3,W3=(w3.setCell ⟨w.heap.size+1,0,none⟩ (.slice ad2 gs.length cap2)).setCell ⟨w.heap.size+1,1,none⟩ (.slice ad3 ds.length cap3):=⟨_,rfl⟩
        rw [← hW3]
        rw [← hW3] at HS HW
        refine bodyPost_ret (v:=.tuple #[.agg #[.slice ad2 gs.length cap2,.slice ad3 ds.length cap3],.int .i64 0]) (by simp [results,Tryz.results28,go_sem,HS.out.cell0,HS.out.cell1]) rfl HW.out)
     | (have HS:=Lib.hid ((B2.out.below hS2.1).store (.slice ad2 gs.length cap2) (.slice ad3 ds.length cap3))
        have HW:=Lib.hid (known_fin (gs:=gs) (ds:=ds) (N:=w.heap.size+1) (hwr.trans (hS2.1.below.mono (by omega))) own2 (ownsRow_below' own3 hb2) (Nat.lt_of_lt_of_le hN0 hb3.size) hN0 (by omega))
        obtain ⟨W3,hW3⟩:∃ W3,W3=(w2.setCell ⟨w.heap.size+1,0,none⟩ (.slice ad2 gs.length cap2)).setCell ⟨w.heap.size+1,1,none⟩ (.slice ad3 ds.length cap3):=⟨_,rfl⟩
        rw [← hW3]
        rw [← hW3] at HS HW
        refine bodyPost_ret (v:=.tuple #[.agg #[.slice ad2 gs.length cap2,.slice ad3 ds.length cap3],.int .i64 0]) (by simp [results,Tryz.results28,go_sem,HS.out.cell0,HS.out.cell1]) rfl HW.out)
set_option maxHeartbeats 1000000 in
set_option maxRecDepth 100000 in
theorem only_err (fs:List Fx) (cs:List Ch) (ns:List Nd) (ks:List Ch) (af ac an ak:Option Addr) (cf cc cn ck:Nat) (w:World) (hn:fs.length≤1100000) (hm:cs.length≤1100000) (_hnn:ns.length≤1100000) (_hkk:ks.length≤1100000)
  (hf:Rd Fx.cells 3 w af fs) (hc:Rd Ch.cells 4 w ac cs) (_hrn:Rd Nd.cells 2 w an ns) (_hrk:Rd Ch.cells 4 w ak ks) (hfs:∀ f ∈ fs,f.small) (hcs:∀ c ∈ cs,c.small) (_hns:∀ f ∈ ns,f.small) (_hks:∀ f ∈ ks,f.small∧f.fits) (_hff:∀ f ∈ fs,f.fits) (_hcf:∀ f ∈ cs,f.fits) (he:envErr fs cs ≠ 0) :
  Calls Tryz.prog 28 #[.agg #[.slice af fs.length cf,.slice ac cs.length cc],.slice an ns.length cn,.slice ak ks.length ck] w (EnvPost w (envErr fs cs) (onlyF fs cs ns) (onlyC fs cs ks)):=by
 have HE:=Lib.hid (fun W (h:Below w.heap.size w W) => checkEnv_any fs cs af ac cf cc W hn hm (hf.below h) (hc.below h) hfs hcs)
 rw [onlyF,onlyC,if_neg he,if_neg he]
 generalize envErr fs cs=E at HE he ⊢
 have t1:(E != 0)=true:=by rw [bne_iff_ne];exact he
 have t2:(E == 0)=false:=by rw [beq_eq_false_iff_ne];exact he
 clear hf hc hfs hcs he _hrn _hrk _hns _hks _hff _hcf
 go_enter Tryz.func28,Tryz.ntmps28
 go_wp2_with fail
 refine (HE.out _ (below_a2 _ _ _)).mono ?_
 rintro e w1 ⟨rfl,hb1⟩
 have b2:=(Boxed2.new (w.alloc (.cells #[.slice af fs.length cf,.slice ac cs.length cc] 33)) (.slice none 0 0) (.slice none 0 0) 33).below hb1
 simp at b2
 have r0:=b2.cell0
 have r1:=b2.cell1
 have z0:=b2.frozen 0
 have z1:=b2.frozen 1
 have hw1:Below w.heap.size w w1:=(below_a2 _ _ _).trans (hb1.mono (by simp;omega))
 have HS:=Lib.hid (b2.store (.slice none 0 0) (.slice none 0 0))
 have HW:=Lib.hid (below_store hw1 (B:=w.heap.size+1) (by omega) (.slice none 0 0) (.slice none 0 0))
 clear hb1 b2
 go_wp2
 obtain ⟨W3,hW3⟩:∃ W3,W3=(w1.setCell ⟨w.heap.size+1,0,none⟩ (.slice none 0 0)).setCell ⟨w.heap.size+1,1,none⟩ (.slice none 0 0):=⟨_,rfl⟩
 rw [← hW3]
 rw [← hW3] at HS HW
 refine bodyPost_ret (v:=.tuple #[.agg #[.slice none 0 0,.slice none 0 0],.int .i64 E]) (by simp [results,Tryz.results28,go_sem,HS.out.cell0,HS.out.cell1]) rfl (envPost_none HW.out)
theorem only_any (fs:List Fx) (cs:List Ch) (ns:List Nd) (ks:List Ch) (af ac an ak:Option Addr) (cf cc cn ck:Nat) (w:World) (hn:fs.length≤1100000) (hm:cs.length≤1100000) (hnn:ns.length≤1100000) (hkk:ks.length≤1100000)
  (hf:Rd Fx.cells 3 w af fs) (hc:Rd Ch.cells 4 w ac cs) (hrn:Rd Nd.cells 2 w an ns) (hrk:Rd Ch.cells 4 w ak ks) (hfs:∀ f ∈ fs,f.small) (hcs:∀ c ∈ cs,c.small) (hns:∀ f ∈ ns,f.small) (hks:∀ f ∈ ks,f.small∧f.fits) (hff:∀ f ∈ fs,f.fits) (hcf:∀ f ∈ cs,f.fits) :
  Calls Tryz.prog 28 #[.agg #[.slice af fs.length cf,.slice ac cs.length cc],.slice an ns.length cn,.slice ak ks.length ck] w (EnvPost w (envErr fs cs) (onlyF fs cs ns) (onlyC fs cs ks)):=by
 by_cases he:envErr fs cs=0
 ·exact only_ok fs cs ns ks af ac an ak cf cc cn ck w hn hm hnn hkk hf hc hrn hrk hfs hcs hns hks hff hcf he
 ·exact only_err fs cs ns ks af ac an ak cf cc cn ck w hn hm hnn hkk hf hc hrn hrk hfs hcs hns hks hff hcf he
end Go.Proofs.YtcnpaciljmekcaaGreatDoor

namespace Go.Proofs.YtcnpaciljmekcaaGreatDoor
open Go.RowKit
theorem andR_ne {α β:Type} {n:Int} {a:Int × α} {z:β} {f:α→Int × β} (h:a.1 ≠ n) (hf:a.1=0→(f a.2).1 ≠ n):(andR a z f).1 ≠ n:=by
 unfold andR
 split
 ·exact h
 ·next h0 => exact hf (Decidable.not_not.1 h0)
theorem intErr_ne (l:List UInt8):intErr l ≠ 30:=by
 unfold intErr
 repeat' split
 all_goals decide
theorem ratErr_ne (s:ByteArray):ratErr s ≠ 30:=by
 unfold ratErr
 split
 ·exact intErr_ne _
 ·unfold fracErr
  repeat' split
  all_goals decide
theorem bothE_ne (a b:ByteArray):bE a b ≠ 30:=by
 unfold bE
 split <;> exact ratErr_ne _
theorem sumE_ne (a b:ByteArray) (z:Int):sumE a b z ≠ 30:=by
 unfold sumE
 repeat' split
 ·exact bothE_ne _ _
 all_goals decide
theorem mulE_ne (a b:ByteArray):mulE a b ≠ 30:=by
 unfold mulE frE
 repeat' split
 ·exact bothE_ne _ _
 all_goals decide
theorem cmpE_ne (a b:ByteArray):cmpE a b ≠ 30:=by
 unfold cmpE
 repeat' split
 ·exact bothE_ne _ _
 all_goals decide
theorem op2_ne (k:Nat) (a b:ByteArray):(op2 k a b).1 ≠ 30:=by
 unfold op2
 repeat' split
 ·exact sumE_ne _ _ _
 ·exact sumE_ne _ _ _
 ·exact mulE_ne _ _
 all_goals exact cmpE_ne _ _
theorem mulAll_ne (k:ByteArray):∀ l:List Fl,(mulAll k l).1 ≠ 30
 | [] => by show (0:Int) ≠ 30;decide
 | f :: l => by
  rw [mulAll]
  exact andR_ne (mulE_ne _ _) fun _ => andR_ne (mulAll_ne k l) fun _ => by show (0:Int) ≠ 30;decide
theorem first_ne (is:Int→Int × Bool) (day fin:Int):∀ l:List Int,(∀ e ∈ l,day≤e→e < fin→(is e).1 ≠ 30)→(firstR is day fin l).1 ≠ 30
 | [],_ => by show (0:Int) ≠ 30;decide
 | d :: l,h => by
  have ih:=first_ne is day fin l fun e he => h e (List.mem_cons_of_mem _ he)
  rw [firstR_cons]
  split
  ·show (0:Int) ≠ 30;decide
  ·split
   ·refine andR_ne (h d (List.mem_cons_self ..) (by assumption) (by omega)) fun _ => ?_
    split
    ·show (0:Int) ≠ 30;decide
    ·exact ih
   ·exact ih
def HasE (F:List Fx) (e:Int) (y:Ex):Prop:=(y.k=2→(fixR F y.nm y.d).1 ≠ 30)∧(y.k=3→(fixR F y.nm e).1 ≠ 30)
theorem value_has (F:List Fx) (e:Int):∀ (N:Nat) (x:Ex),x.bulk≤N→(∀ y ∈ x.nodes,HasE F e y)→(x.value F e).1 ≠ 30∧(x.hold F e).1 ≠ 30
 | 0,x,hN,_ => by have:=x.sub_lt;omega
 | N+1,.mk k ra nm d l,hN,hA => by
  have IH:∀ y ∈ l,(y.value F e).1 ≠ 30∧(y.hold F e).1 ≠ 30:=fun y hy => value_has F e N y (by have:=Ex.mem_lt (x:=.mk k ra nm d l) hy;omega) fun z hz => hA z (nodes_sub (x:=.mk k ra nm d l) hy hz)
  have h0:HasE F e (.mk k ra nm d l):=hA _ (by rw [Ex.nodes_eq];exact List.mem_cons_self ..)
  have h2:k=2→(fixR F nm d).1 ≠ 30:=h0.1
  have h3:k=3→(fixR F nm e).1 ≠ 30:=h0.2
  have z0:((0:Int),ByteArray.empty).1 ≠ 30:=by show (0:Int) ≠ 30;decide
  have z1:((0:Int),false).1 ≠ 30:=by show (0:Int) ≠ 30;decide
  clear hA h0
  have go:∀ A:Int × ByteArray,A.1 ≠ 30→(if k=1 then (0,ra) else if k=2 then fixR F nm d else if k=3 then fixR F nm e else A).1 ≠ 30:=fun A hA => by
   split
   ·show (0:Int) ≠ 30;decide
   ·split
    ·exact h2 (by assumption)
    ·split
     ·exact h3 (by assumption)
     ·exact hA
  match l with
  | [] => exact ⟨by rw [Ex.value] <;> first | exact go _ z0 | simp,z1⟩
  | [x] =>
   refine ⟨by rw [Ex.value] <;> first | exact go _ z0 | simp,?_⟩
   rw [Ex.hold]
   exact andR_ne (IH x (by simp)).2 fun _ => by show (0:Int) ≠ 30;decide
  | [x,y] =>
   refine ⟨?_,?_⟩
   ·rw [Ex.value]
    exact go _ (andR_ne (IH x (by simp)).1 fun _ => andR_ne (IH y (by simp)).1 fun _ => op2_ne _ _ _)
   ·rw [Ex.hold]
    split
    ·refine andR_ne (IH x (by simp)).2 fun _ => ?_
     split
     ·exact (IH y (by simp)).2
     ·exact z1
    ·split
     ·refine andR_ne (IH x (by simp)).2 fun _ => ?_
      split
      ·show (0:Int) ≠ 30;decide
      ·exact (IH y (by simp)).2
     ·exact andR_ne (IH x (by simp)).1 fun _ => andR_ne (IH y (by simp)).1 fun _ => cmpE_ne _ _
  | [p,x,y] =>
   refine ⟨?_,z1⟩
   rw [Ex.value]
   refine go _ (andR_ne (IH p (by simp)).2 fun _ => ?_)
   split
   ·exact (IH x (by simp)).1
   ·exact (IH y (by simp)).1
  | a :: b :: c :: d' :: r => exact ⟨by rw [Ex.value] <;> first | exact go _ z0 | simp,z1⟩
def FineE (F:List Fx):Ev→Prop
 | .expr x es => ∀ e ∈ es,(x.value F e).1 ≠ 30∧(x.hold F e).1 ≠ 30
 | _ => True
theorem flows_fine (F:List Fx) (C:List Ch):∀ (N:Nat) (c:Con),c.bulk≤N→c.formed=true→∀ (ds:List Int) (day fin:Int),ds.Pairwise (·≤·)→(day < fin→day ∈ ds)→(∀ e ∈ c.evs ds,FineE F e)→(c.flows F C day fin).1 ≠ 30
 | 0,c,hN,_ => by have:=c.sub_lt;omega
 | N+1,c,hN,hw => fun ds day fin hp hm hE => by
  have hsub:∀ y ∈ c.sub,y.formed=true:=fun y hy => by
   rw [Con.formed_eq,Bool.and_eq_true,Con.formeds_eq] at hw;exact List.all_eq_true.1 hw.2 y hy
  have IH:∀ y ∈ c.sub,∀ (ds:List Int) (day fin:Int),ds.Pairwise (·≤·)→(day < fin→day ∈ ds)→(∀ e ∈ y.evs ds,FineE F e)→(y.flows F C day fin).1 ≠ 30:=fun y hy => flows_fine F C N y (by have:=Con.mem_lt hy;omega) (hsub y hy)
  have z0:((0:Int),([]:List Fl)).1 ≠ 30:=by show (0:Int) ≠ 30;decide
  by_cases hn:fin≤day
  ·rw [flows_late c F C day fin hn];exact z0
  have hd:=hm (by omega)
  obtain ⟨d0,r,rfl⟩:∃ d0 r,ds=d0 :: r:=by
   cases ds with
   | nil => cases hd
   | cons a b => exact ⟨a,b,rfl⟩
  have h0:d0≤day:=by
   rcases List.mem_cons.1 hd with rfl | hd
   ·exact Int.le_refl _
   ·exact (List.pairwise_cons.1 hp).1 _ hd
  have UP:∀ x ∈ c.sub,∀ e ∈ x.evs (innerD c (d0 :: r) d0),FineE F e:=fun x hx e he => hE e (ev_sub hx he)
  have hcs:=con_cases c hw
  obtain ⟨k,fr,rc,nm,ex,d,dd,l⟩:=c
  simp only [Con.k,Con.sub,Con.ex,Con.d,Con.ds] at hcs IH UP
  have hh:∀ e ∈ headEv (.mk k fr rc nm ex d dd l) (d0 :: r) d0,FineE F e:=fun e he => hE e (ev_head he)
  have same:k ≠ 6→¬ (k=8∨k=10)→innerD (.mk k fr rc nm ex d dd l) (d0 :: r) d0=d0 :: r:=fun h1 h2 => inner_same h1 h2
  have lat:k=8∨k=10→innerD (.mk k fr rc nm ex d dd l) (d0 :: r) d0=laterD dd d0:=fun h => inner_lat h
  have lm:∀ is:Int→Int × Bool,(firstR is day fin dd).1=0→(firstR is day fin dd).2 < fin→(firstR is day fin dd).2 ∈ laterD dd d0:=fun is h1 h2 => by
   rcases first_mem is day fin dd h1 with h | h
   ·omega
   ·exact later_mem h.1 (by omega)
  unfold Con.flows
  rw [if_neg hn]
  rcases hcs with ⟨rfl,rfl⟩ | ⟨rfl,rfl,hA⟩ | ⟨rfl,x,y,rfl⟩ | ⟨rfl,hA,x,rfl⟩ | ⟨rfl,hA,x,y,rfl⟩ | ⟨rfl,_,x,rfl⟩ | ⟨rfl,x,y,rfl⟩ | ⟨rfl,hD,x,rfl⟩ | ⟨hk,hD,hA,x,rfl⟩
  ·exact z0
  ·have h1:FineE F (.expr ex (d0 :: r)):=hh _ (by simp [headEv,Con.k,Con.ex])
   dsimp only
   rw [if_pos rfl]
   exact andR_ne (h1 day hd).1 fun _ => by show (0:Int) ≠ 30;decide
  ·rw [same (by decide) (by decide)] at UP
   dsimp only
   rw [if_pos rfl]
   exact andR_ne (IH x (by simp) _ _ _ hp hm (UP x (by simp))) fun _ => andR_ne (IH y (by simp) _ _ _ hp hm (UP y (by simp))) fun _ => by show (0:Int) ≠ 30;decide
  ·have h1:FineE F (.expr ex (d0 :: r)):=hh _ (by simp [headEv,Con.k,Con.ex])
   rw [same (by decide) (by decide)] at UP
   dsimp only
   rw [if_pos rfl]
   exact andR_ne (h1 day hd).1 fun _ => andR_ne (IH x (by simp) _ _ _ hp hm (UP x (by simp))) fun _ => mulAll_ne _ _
  ·have h1:FineE F (.expr ex (d0 :: r)):=hh _ (by simp [headEv,Con.k,Con.ex])
   rw [same (by decide) (by decide)] at UP
   dsimp only
   rw [if_neg (by decide),if_pos rfl]
   refine andR_ne (h1 day hd).2 fun _ => ?_
   split
   ·exact IH x (by simp) _ _ _ hp hm (UP x (by simp))
   ·exact IH y (by simp) _ _ _ hp hm (UP y (by simp))
  ·show (if day≤d then Con.flows F C x d fin else (0,[])).1 ≠ 30
   split
   ·have e6:innerD (.mk 6 fr rc nm ex d dd [x]) (d0 :: r) d0=[d]:=inner_at rfl (show d0≤d by omega)
    rw [e6] at UP
    exact IH x (by simp) _ _ _ (List.pairwise_singleton ..) (fun _ => List.mem_singleton.2 rfl) (UP x (by simp))
   ·exact z0
  ·rw [same (by decide) (by decide)] at UP
   show (if chosenB C fr nm day=true then Con.flows F C x day fin else Con.flows F C y day fin).1 ≠ 30
   split
   ·exact IH x (by simp) _ _ _ hp hm (UP x (by simp))
   ·exact IH y (by simp) _ _ _ hp hm (UP y (by simp))
  ·rw [lat (.inl rfl)] at UP
   dsimp only
   rw [if_neg (by decide),if_neg (by decide),if_pos rfl]
   exact IH x (by simp) _ _ _ (later_pw hD d0) (lm _ (first_pure (fun e => chosenB C fr nm e) day fin dd)) (UP x (by simp))
  ·have h1:FineE F (.expr ex (laterD dd d0)):=hh _ (by rcases hk with rfl | rfl <;> simp [headEv,Con.k,Con.ex,Con.ds])
   have e1:=first_ne (fun e => ex.hold F e) day fin dd fun e he h2 _ => (h1 e (later_mem he (by omega))).2
   dsimp only
   rcases hk with rfl | rfl
   ·rw [same (by decide) (by decide)] at UP
    rw [if_neg (by decide),if_neg (by decide),if_neg (by decide),if_pos rfl]
    exact andR_ne e1 fun _ => IH x (by simp) _ _ _ hp (fun _ => hd) (UP x (by simp))
   ·rw [lat (.inr rfl)] at UP
    rw [if_neg (by decide),if_neg (by decide),if_neg (by decide),if_neg (by decide)]
    exact andR_ne e1 fun h2 => IH x (by simp) _ _ _ (later_pw hD d0) (lm _ h2) (UP x (by simp))
theorem mem_evNs {x:Ex} {es:List Int} {l:List Ev} (he:Ev.expr x es ∈ l) {y:Ex} (hy:y ∈ x.nodes) {e:Int} (hm:e ∈ es):(y.k=2→(y.nm,y.d) ∈ evNs l)∧(y.k=3→(y.nm,e) ∈ evNs l):=by
 have up:∀ n,n ∈ xNeed es y→n ∈ evNs l:=fun n hn => evNs_mem.2 ⟨_,he,List.mem_flatMap.2 ⟨y,hy,hn⟩⟩
 have hne:es ≠ []:=fun h => by rw [h] at hm;cases hm
 refine ⟨fun hk => up _ ?_,fun hk => up _ ?_⟩
 ·unfold xNeed;rw [if_neg hne,if_pos hk];exact List.mem_singleton.2 rfl
 ·unfold xNeed;rw [if_neg hne,if_neg (by omega),if_pos hk];exact List.mem_map.2 ⟨e,hm,rfl⟩
theorem only_law (c:Con) (day:Int) (F:List Fx) (C:List Ch) (hc:c.err=0) (hv:envErr F C=0) (p:Fx→Bool) (q:Ch→Bool)
  (hp:∀ f ∈ F,(f.nm,f.d) ∈ evNs (c.evs [day])→p f=true) (hq:∀ f ∈ C,(f.pt,f.nm,f.d) ∈ evCs (c.evs [day])→q f=true) :
  befR c day 100000 (F.filter p) (C.filter q)=befR c day 100000 F C:=by
 have hg:=envErr_filter p q hv
 have hE:∀ e ∈ c.evs [day],AlikeE (F.filter p) F (C.filter q) C 100000 e:=fun e he => by
  cases e with
  | pay ds => trivial
  | choice a n ds => exact fun e hm _ => chosen_filter _ _ _ _ _ fun f hf h1 h2 h3 => hq f hf (evCs_mem.2 ⟨_,he,by subst h1;subst h2;subst h3;exact List.mem_map.2 ⟨_,hm,rfl⟩⟩)
  | expr x es =>
   intro _ e hm _
   refine value_alike _ _ e x.bulk x (Nat.le_refl _) fun y hy => ⟨fun hk => ?_,fun hk => ?_⟩
   ·exact fixR_filter _ _ _ _ fun f hf h1 h2 => hp f hf (by rw [h1,h2];exact (mem_evNs he hy hm).1 hk)
   ·exact fixR_filter _ _ _ _ fun f hf h1 h2 => hp f hf (by rw [h1,h2];exact (mem_evNs he hy hm).2 hk)
 rw [befR_ok hc,befR_ok hc,hg,hv,flows_alike _ _ _ _ 100000 c.bulk c (Nat.le_refl _) (err_formed hc).2 [day] day 100000 (List.pairwise_singleton ..) (fun _ => List.mem_singleton.2 rfl) (Int.le_refl _) hE]
theorem fixR_has {F:List Fx} {nm:ByteArray} {d:Int} (h:∃ f ∈ F,f.nm=nm∧f.d=d):(fixR F nm d).1 ≠ 30:=by
 obtain ⟨f,hf,rfl,rfl⟩:=h
 unfold fixR
 cases h:F.find? (fxIs ⟨f.nm,f.d,⟨#[]⟩⟩) with
 | some g => show (0:Int) ≠ 30;decide
 | none =>
  have:=List.find?_eq_none.1 h f hf
  exact absurd (show fxIs ⟨f.nm,f.d,⟨#[]⟩⟩ f=true by simp [fxIs]) this
theorem full_law (c:Con) (day:Int) (F:List Fx) (C:List Ch) (hc:c.err=0) (hv:envErr F C=0) (h:∀ n ∈ evNs (c.evs [day]),∃ f ∈ F,f.nm=n.1∧f.d=n.2):(befR c day 100000 F C).1 ≠ 30:=by
 have hE:∀ e ∈ c.evs [day],FineE F e:=fun e he => by
  cases e with
  | pay ds => trivial
  | choice a n ds => trivial
  | expr x es =>
   intro e hm
   exact value_has F e x.bulk x (Nat.le_refl _) fun y hy => ⟨fun hk => fixR_has (h _ ((mem_evNs he hy hm).1 hk)),fun hk => fixR_has (h _ ((mem_evNs he hy hm).2 hk))⟩
 rw [befR_ok hc,hv,if_neg (fun k => k rfl)]
 split
 ·show (2:Int) ≠ 30;decide
 ·exact andR_ne (flows_fine F C c.bulk c (Nat.le_refl _) (err_formed hc).2 [day] day 100000 (List.pairwise_singleton ..) (fun _ => List.mem_singleton.2 rfl) hE) fun _ => by show (0:Int) ≠ 30;decide
theorem all_of_len {F:List Fx} {S:List NdP} (hF:incB Fx.lt F=true) (hS:Srt ndLt S) (hm:∀ f ∈ F,(f.nm,f.d) ∈ S) (hl:F.length=S.length):∀ n ∈ S,∃ f ∈ F,f.nm=n.1∧f.d=n.2:=by
 intro n hn
 by_cases h:∃ f ∈ F,f.nm=n.1∧f.d=n.2
 ·exact h
 exfalso
 have h1:Srt ndLt (F.map fun f => (f.nm,f.d)):=List.pairwise_map.2 (inc_pw fxl_trans hF)
 have h2:Srt ndLt (S.filter fun m => decide (m ≠ n)):=List.Pairwise.filter _ hS
 have h3:=srt_sub_len nd_sto h1 h2 fun x hx => by
  obtain ⟨f,hf,rfl⟩:=List.mem_map.1 hx
  refine List.mem_filter.2 ⟨hm f hf,?_⟩
  rw [decide_eq_true_eq]
  intro e
  exact h ⟨f,hf,by rw [← e],by rw [← e]⟩
 have h4:(S.filter fun m => decide (m ≠ n)).length < S.length:=by
  refine Nat.lt_of_le_of_ne (List.length_filter_le _ _) fun e => ?_
  have:=List.length_filter_eq_length_iff.1 e n hn
  simp at this
 rw [List.length_map] at h3
 omega
end Go.Proofs.YtcnpaciljmekcaaGreatDoor
