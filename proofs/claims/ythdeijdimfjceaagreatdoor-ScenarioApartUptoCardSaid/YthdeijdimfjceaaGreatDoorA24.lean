/- A part. -/
import Derived.Test.YthdeijdimfjceaaGreatDoorA23
import Derived.Shelf.Lays
import Derived.Ground.NamesProg
import Derived.Test.YthdeijdimfjceaaGreatDoorProg
import Derived.Shelf.Sort.Plain
import Derived.Shelf.Slices.CompactS
import Derived.Shelf.Slices.In.SortNone
import Derived.Sort.OwnSorted
import Derived.Lib.OwnBridge
import Derived.Maps.OwnIn
namespace Go.Proofs.YthdeijdimfjceaaGreatDoor
open Go.RowKit
set_option maxHeartbeats 2000000 in
set_option maxRecDepth 100000 in
theorem apply_no (l:List Sh) (fs:List Fx) (cs:List Ch) (ad af ac:Option Addr) (cap cf cc:Nat) (w:World)
  (HV:Hid (∀ W,Below w.heap.size w W→Calls Tryz.prog 10 #[.agg #[.slice ad l.length cap]] W fun e w' => e = .returned (.int .i64 (scnE (scnB l)))∧Below W.heap.size W w'))
  (hv:scnB l=false) :
  Calls Tryz.prog 8 #[.agg #[.slice ad l.length cap],.agg #[.slice af fs.length cf,.slice ac cs.length cc]] w (EnvPost w (applyE l fs cs) (applyF l fs cs) (applyC l fs cs)):=by
 obtain ⟨e1,e2,e3⟩:=apply_bad (fs:=fs) (cs:=cs) hv
 rw [hv] at HV
 change Hid (∀ W,Below w.heap.size w W→Calls Tryz.prog 10 #[.agg #[.slice ad l.length cap]] W fun e w' => e = .returned (.int .i64 8)∧Below W.heap.size W w') at HV
 rw [e1,e2,e3]
 clear e1 e2 e3 hv
 have bx:=Lib.hid (fun (o1 o2:Obj) => Boxed2.new ((w.alloc o1).alloc o2) (.slice none 0 0) (.slice none 0 0) 32)
 go_enter Tryz.func8,Tryz.ntmps8
 go_wp2_with fail
 refine (HV.out _ (below_a3 _ _ _ _)).mono ?_
 rintro e w1 ⟨rfl,hb1⟩
 have hs1:=hb1.size
 simp at hs1
 have bR:=(bx.out _ _).below hb1
 simp at bR
 have hbel:Below w.heap.size w w1:=(below_a3 _ _ _ _).trans (hb1.mono (by simp;omega))
 clear hb1 bx HV
 have q0:=bR.cell0
 have q1:=bR.cell1
 have z0:=bR.frozen 0
 have z1:=bR.frozen 1
 have HS:=Lib.hid (bR.store (.slice none 0 0) (.slice none 0 0))
 have HW:=Lib.hid (below_store hbel (B:=w.heap.size+1+1) (by omega) (.slice none 0 0) (.slice none 0 0))
 clear bR hbel
 go_wp2
 obtain ⟨W3,hW3⟩:∃ W3,W3=(w1.setCell ⟨w.heap.size+1+1,0,none⟩ (.slice none 0 0)).setCell ⟨w.heap.size+1+1,1,none⟩ (.slice none 0 0):=⟨_,rfl⟩
 rw [← hW3]
 rw [← hW3] at HS HW
 refine bodyPost_ret (v:=.tuple #[.agg #[.slice none 0 0,.slice none 0 0],.int .i64 8]) (by simp [results,Tryz.results8,go_sem,HS.out.cell0,HS.out.cell1]) rfl (envPost_none HW.out)
set_option maxHeartbeats 2000000 in
set_option maxRecDepth 100000 in
theorem apply_envErr (l:List Sh) (fs:List Fx) (cs:List Ch) (ad af ac:Option Addr) (cap cf cc:Nat) (w:World)
  (HV:Hid (∀ W,Below w.heap.size w W→Calls Tryz.prog 10 #[.agg #[.slice ad l.length cap]] W fun e w' => e = .returned (.int .i64 (scnE (scnB l)))∧Below W.heap.size W w'))
  (HC:Hid (∀ W,Below w.heap.size w W→Calls Tryz.prog 28 #[.agg #[.slice af fs.length cf,.slice ac cs.length cc]] W fun e w' => e = .returned (.int .i64 (envErr fs cs))∧Below W.heap.size W w'))
  (hv:scnB l=true) (he:envErr fs cs ≠ 0) :
  Calls Tryz.prog 8 #[.agg #[.slice ad l.length cap],.agg #[.slice af fs.length cf,.slice ac cs.length cc]] w (EnvPost w (applyE l fs cs) (applyF l fs cs) (applyC l fs cs)):=by
 obtain ⟨e1,e2,e3⟩:=apply_env (fs:=fs) (cs:=cs) hv he
 rw [hv] at HV
 change Hid (∀ W,Below w.heap.size w W→Calls Tryz.prog 10 #[.agg #[.slice ad l.length cap]] W fun e w' => e = .returned (.int .i64 0)∧Below W.heap.size W w') at HV
 rw [e1,e2,e3]
 clear e1 e2 e3 hv
 generalize envErr fs cs=E at HC he ⊢
 have t1:(E != 0)=true:=by rw [bne_iff_ne];exact he
 have bx:=Lib.hid (fun (o1 o2:Obj) => Boxed2.new ((w.alloc o1).alloc o2) (.slice none 0 0) (.slice none 0 0) 32)
 have bx1:=Lib.hid (fun (o1 o2:Obj) => (Boxed2.new (w.alloc o1) (.slice af fs.length cf) (.slice ac cs.length cc) 32).alloc o2)
 clear he
 go_enter Tryz.func8,Tryz.ntmps8
 go_wp2_with fail
 refine (HV.out _ (below_a3 _ _ _ _)).mono ?_
 rintro e w1 ⟨rfl,hb1⟩
 have hs1:=hb1.size
 simp at hs1
 have bR:=(bx.out _ _).below hb1
 have bE:=(bx1.out _ _).below hb1
 simp at bR bE
 have hbel:Below w.heap.size w w1:=(below_a3 _ _ _ _).trans (hb1.mono (by simp;omega))
 clear hb1 bx bx1 HV
 have k0:=bE.cell0
 have k1:=bE.cell1
 go_wp2_with fail
 refine (HC.out _ hbel).mono ?_
 rintro e w2 ⟨rfl,hb2⟩
 have bR2:=bR.below hb2
 have hbel2:=hbel.trans (hb2.mono hbel.size)
 clear k0 k1 bR bE hbel hb2 HC
 have q0:=bR2.cell0
 have q1:=bR2.cell1
 have z0:=bR2.frozen 0
 have z1:=bR2.frozen 1
 have HS:=Lib.hid (bR2.store (.slice none 0 0) (.slice none 0 0))
 have HW:=Lib.hid (below_store hbel2 (B:=w.heap.size+1+1) (by omega) (.slice none 0 0) (.slice none 0 0))
 clear bR2 hbel2
 go_wp2
 obtain ⟨W3,hW3⟩:∃ W3,W3=(w2.setCell ⟨w.heap.size+1+1,0,none⟩ (.slice none 0 0)).setCell ⟨w.heap.size+1+1,1,none⟩ (.slice none 0 0):=⟨_,rfl⟩
 rw [← hW3]
 rw [← hW3] at HS HW
 refine bodyPost_ret (v:=.tuple #[.agg #[.slice none 0 0,.slice none 0 0],.int .i64 E]) (by simp [results,Tryz.results8,go_sem,HS.out.cell0,HS.out.cell1]) rfl (envPost_none HW.out)
theorem ownsMap_kept' {P:Program} {k:TypeId} {H:Type} {R:Value→Option (DataW H × List MemPlace)} {w w':World} {b n:Nat} {D:DataW H} (h:w.ownsMap P k R b n D) (e:w'.heap[b]? = w.heap[b]?):w'.ownsMap P k R b n D:=by
 obtain ⟨es,clock,hb,r⟩:=h
 exact ⟨es,clock,by rw [e];exact hb,r⟩
theorem own_apart {w:World} {e1 e2:TypeId} {b1 b2 s1 s2 n1 n2:Nat} {v1 v2:Value} {x1 x2:List Value} (h1:w.ownsRow b1 e1 s1 v1 n1 x1) (h2:w.ownsRow b2 e2 s2 v2 n2 x2) (hne:e2 ≠ e1):∀ k,v2.ownBlock=some k→some k ≠ v1.ownBlock:=by
 intro k hk e
 rcases h2.2 with ⟨rfl,_⟩ | ⟨g,cap,cur,rfl,_,hg,_⟩
 ·simp [Value.ownBlock] at hk
 ·obtain rfl:g=k:=by simpa [Value.ownBlock] using hk
  exact own_not_block h1 hg hne e.symm
def ClonedAt (W1:World) (B1:Nat) (fs:List Fx) (cs:List Ch) (v:Value) (wc:World):Prop :=
 ∃ B adF capF adC capC,v = .pointer (some ⟨B,0,none⟩)∧Boxed2 wc B 32 (.slice adF fs.length capF) (.slice adC cs.length capC)∧B1≤B∧wc.ownsRow B1 37 3 (.slice adF fs.length capF) fs.length (fs.flatMap Fx.cells)∧wc.ownsRow B1 80 4 (.slice adC cs.length capC) cs.length (cs.flatMap Ch.cells)∧Below B1 W1 wc
theorem own_set_other {w:World} {e t:TypeId} {base size n B:Nat} {v:Value} {xs cs:List Value} (h:w.ownsRow base e size v n xs) (hb:BoxN w B t cs) (hte:t ≠ e) (j:Nat) (u:Value):(w.setCell ⟨B,j,none⟩ u).ownsRow base e size v n xs :=
 ownsRow_kept h fun k hk _ => Below.heap_setCell _ _ _ _ (fun e' => own_not_block h (c:=cs.toArray) hb hte (by rw [hk];exact congrArg some e'))
theorem cloned_fin {W1 Wb:World} {B1 B:Nat} {fs:List Fx} {cs:List Ch} {adF adC:Option Addr} {capF capC:Nat} {u v:Value} (b:Boxed2 Wb B 32 u v) (hB:B1≤B) (o2:Wb.ownsRow B1 37 3 (.slice adF fs.length capF) fs.length (fs.flatMap Fx.cells)) (o3:Wb.ownsRow B1 80 4 (.slice adC cs.length capC) cs.length (cs.flatMap Ch.cells)) (hb:Below B1 W1 Wb) :
  ClonedAt W1 B1 fs cs (.pointer (some ⟨B,0,none⟩)) ((Wb.setCell ⟨B,0,none⟩ (.slice adF fs.length capF)).setCell ⟨B,1,none⟩ (.slice adC cs.length capC)) :=
 ⟨B,adF,capF,adC,capC,rfl,b.store _ _,hB,own_set_other (own_set_other o2 b.n (by decide) 0 _) (b.set0 _).n (by decide) 1 _,own_set_other (own_set_other o3 b.n (by decide) 0 _) (b.set0 _).n (by decide) 1 _,below_store hb hB _ _⟩
theorem cloned_new {W1 Wb:World} {B1:Nat} {fs:List Fx} {cs:List Ch} {adF adC:Option Addr} {capF capC:Nat} (hB:B1≤Wb.heap.size) (o2:Wb.ownsRow B1 37 3 (.slice adF fs.length capF) fs.length (fs.flatMap Fx.cells)) (o3:Wb.ownsRow B1 80 4 (.slice adC cs.length capC) cs.length (cs.flatMap Ch.cells)) (hb:Below B1 W1 Wb) :
  ClonedAt W1 B1 fs cs (.pointer (some ⟨Wb.heap.size,0,none⟩)) (Wb.alloc (.cells #[.slice adF fs.length capF,.slice adC cs.length capC] 32)) :=
 ⟨_,adF,capF,adC,capC,rfl,Boxed2.new _ _ _ _,hB,o2.alloc _,o3.alloc _,hb.alloc hB _⟩
structure JSt (wr W:World) (g X B1 n cap:Nat) (u:List Value) (os:List Value):Prop where
 r:RSt wr W 37 3 g B1 n cap os
 bx:BoxN W X 24 u
section
variable {wr W W':World} {g X B1 n cap:Nat} {u:List Value} {os:List Value}
theorem JSt.ext (h:JSt wr W g X B1 n cap u os) (hb:Below W.heap.size W W'):JSt wr W' g X B1 n cap u os:=⟨h.r.ext hb,h.bx.below hb h.bx.lt⟩
end
set_option maxHeartbeats 8000000 in
set_option maxRecDepth 100000 in
theorem apply_yes (l:List Sh) (fs:List Fx) (cs:List Ch) (ad af ac:Option Addr) (cap cf cc:Nat) (w:World) (hll:l.length≤1100000) (hn:fs.length≤1100000) (_hm:cs.length≤1100000)
  (HV:Hid (∀ W,Below w.heap.size w W→Calls Tryz.prog 10 #[.agg #[.slice ad l.length cap]] W fun e w' => e = .returned (.int .i64 (scnE (scnB l)))∧Below W.heap.size W w'))
  (HC:Hid (∀ W,Below w.heap.size w W→Calls Tryz.prog 28 #[.agg #[.slice af fs.length cf,.slice ac cs.length cc]] W fun e w' => e = .returned (.int .i64 (envErr fs cs))∧Below W.heap.size W w'))
  (HCF:Hid (∀ W,Below w.heap.size w W→Calls Tryz.prog 29 #[.slice af fs.length cf] W (ClonePost Fx.cells 37 3 W fs)))
  (HCC:Hid (∀ W,Below w.heap.size w W→Calls Tryz.prog 30 #[.slice ac cs.length cc] W (ClonePost Ch.cells 80 4 W cs)))
  (hv:scnB l=true) (he:envErr fs cs=0) (hr:Rd Sh.cells 4 w ad l) (hs:∀ x ∈ l,x.nm.size≤1100000∧x.ra.size≤1000000∧x.ex.size≤1000000) (hf:∀ f ∈ fs,f.nm.size≤1100000∧f.vl.size≤1000000) :
  Calls Tryz.prog 8 #[.agg #[.slice ad l.length cap],.agg #[.slice af fs.length cf,.slice ac cs.length cc]] w (EnvPost w (applyE l fs cs) (applyF l fs cs) (applyC l fs cs)):=by
 have HNum:Hid (∀ (k:Nat) (f:Fx),fs[k]? = some f→errs ((fs.take k).map (newE l))=0→newE l f ≠ 0→applyE l fs cs=newE l f∧applyF l fs cs=[]∧applyC l fs cs=[]):=fun k f h h0 hx => apply_num hv he h h0 hx
 have HOk:Hid (errs (fs.map (newE l))=0→applyE l fs cs=0∧applyF l fs cs=fs.map (newF l)∧applyC l fs cs=cs):=fun h => apply_ok hv he h
 have HNa:=Lib.hid (scn_names hv)
 rw [hv] at HV
 change Hid (∀ W,Below w.heap.size w W→Calls Tryz.prog 10 #[.agg #[.slice ad l.length cap]] W fun e w' => e = .returned (.int .i64 0)∧Below W.heap.size W w') at HV
 rw [he] at HC
 have HR:=Lib.hid hr
 have HSm:=Lib.hid hs
 have HFm:=Lib.hid hf
 clear hv he hr hs hf
 have hmm:=@run_makeMap Tryz.prog
 have bx:=Lib.hid (fun (o1 o2:Obj) => Boxed2.new ((w.alloc o1).alloc o2) (.slice none 0 0) (.slice none 0 0) 32)
 have bx1:=Lib.hid (fun (o1 o2:Obj) => (Boxed2.new (w.alloc o1) (.slice af fs.length cf) (.slice ac cs.length cc) 32).alloc o2)
 have bx0:=Lib.hid (fun (o1 o2:Obj) => ((BoxN.new w [.slice ad l.length cap] 28).alloc o1).alloc o2)
 go_enter Tryz.func8,Tryz.ntmps8
 go_wp2_with fail
 refine (HV.out _ (below_a3 _ _ _ _)).mono ?_
 rintro e w1 ⟨rfl,hb1⟩
 have hs1:=hb1.size
 simp at hs1
 have bR:=(bx.out _ _).below hb1
 have bE:=(bx1.out _ _).below hb1
 have bS:=(bx0.out _ _).below hb1 (by simp;omega)
 simp at bR bE
 have hbel:Below w.heap.size w w1:=(below_a3 _ _ _ _).trans (hb1.mono (by simp;omega))
 clear hb1 bx bx1 bx0 HV
 have k0:=bE.cell0
 have k1:=bE.cell1
 go_wp2_with fail
 refine (HC.out _ hbel).mono ?_
 rintro e w2 ⟨rfl,hb2⟩
 have hs2:=hb2.size
 have bR2:=bR.below hb2
 have bE2:=bE.below hb2
 have bS2:=bS.below hb2 (by omega)
 have hbel2:=hbel.trans (hb2.mono hbel.size)
 clear k0 k1 bR bE bS hbel hb2 HC
 have hq0:w.heap.size < w2.heap.size:=by omega
 have hq1:w.heap.size+1 < w2.heap.size:=by omega
 have k0:w2.cell? ⟨w.heap.size,0,none⟩=some (.slice ad l.length cap):=bS2.cell rfl
 go_upto_block 0 with fail
 clear k0
 obtain ⟨W0,hW0⟩:∃ W0,W0=w2.alloc (.map #[] 0):=⟨_,rfl⟩
 have own0:W0.ownsMap Tryz.prog 9 heldElem w2.heap.size 0 (mapSh []):=by rw [hW0];exact World.ownsMap_made _ _ _ _
 have bR0:=bR2.alloc (.map #[] 0)
 have bE0:=bE2.alloc (.map #[] 0)
 have hbel0:=hbel2.alloc hbel2.size (.map #[] 0)
 rw [← hW0] at bR0 bE0 hbel0 ⊢
 have hz0:W0.heap.size=w2.heap.size+1:=by rw [hW0];simp
 clear hW0 bR2 bE2 bS2 hbel2
 go_cut [10,34] from 35 to 42 (fun _ _ wc => wc.ownsMap Tryz.prog 9 heldElem w2.heap.size l.length (mapSh l)∧W0.grownBy wc (some w2.heap.size))
 case first =>
  go_wp2_with fail
  go_loopw [34] (fun i wr => ∃ k:Nat,k≤l.length∧i = .int .i64 k∧wr.ownsMap Tryz.prog 9 heldElem w2.heap.size k (mapSh (l.take k))∧W0.grownBy wr (some w2.heap.size)) (fun i _ => l.length - (intOf i).toNat)
  case atStart => exact ⟨0,Nat.zero_le _,rfl,own0,World.grownBy.refl _ _⟩
  case round =>
   obtain ⟨k,hk,rfl,hown,hg⟩:=hrel
   by_cases hlt:k < l.length
   ·obtain ⟨x,hx⟩:∃ x,l[k]? = some x:=⟨_,List.getElem?_eq_getElem hlt⟩
    have hbr:Below w.heap.size w wr:=hbel0.grown hg hbel0.size (fun k hk => by simp at hk;omega)
    have HRx:=((HR.out.below hbr).sh hx)
    have hkey:=Lib.hid (key_str (HSm.out x (List.mem_of_getElem? hx)).1)
    have HX:Hid (mapSh (l.take (k+1))=(mapSh (l.take k)).put (litS x.nm) (.held (.agg #[.string x.nm,.int .i64 x.fr,.string x.ra,.string x.ex]))):=by
     show _=_
     rw [take_snoc_get hx];exact mapSh_snoc _ _
    have hwz:w2.heap.size < wr.heap.size:=hown.lt
    clear hx
    obtain ⟨b,off,rfl,hc1,hc2,hc3,hc4⟩:=HRx
    have hk1:(0:Int)≤(k:Int):=by omega
    have hk2:(k:Int) < (l.length:Int):=by omega
    have hblk:b < wr.heap.size:=World.block_lt_of_cell? wr _ hc1
    go_wp2_with (at_mapUpdate;refine wpList_mapUpdate_own _ rfl _ _ _ 76 rfl 9 24 law_str ul_shmap heldElem w2.heap.size k _ rfl (hown.alloc _) (by unfold maxLen;omega) _ _ _ rfl rfl hkey.out _ [] rfl ?_;intro w3 hown2 hgrow2)
    have hown3:w3.ownsMap Tryz.prog 9 heldElem w2.heap.size (k+1) (mapSh (l.take (k+1))):=by rw [HX.out];exact hown2
    have hg2:W0.grownBy w3 (some w2.heap.size):=(hg.trans (World.grownBy_alloc _ _ _)).trans hgrow2
    clear hown2 hgrow2 hown hg
    go_roundw
    case rel => exact ⟨k+1,by omega,by go_num,hown3,hg2⟩
    case measure => simp [intOf];omega
   ·obtain rfl:k=l.length:=by omega
    rw [List.take_length] at hown
    go_wp2
    go_meet
    exact ⟨hown,hg⟩
 case rest =>
  obtain ⟨own1,hgA⟩:=hcut
  have bE1:Boxed2 wc (w.heap.size+1) 32 (.slice af fs.length cf) (.slice ac cs.length cc):=bE0.of_block (hgA.block _ (by omega) (by simp;omega))
  have bR1:Boxed2 wc (w.heap.size+1+1) 32 (.slice none 0 0) (.slice none 0 0):=bR0.of_block (hgA.block _ (by omega) (by simp;omega))
  have hbel1:Below w.heap.size w wc:=hbel0.grown hgA hbel0.size (fun k hk => by simp at hk;omega)
  have hz1:=hgA.size
  obtain ⟨W1,hW1⟩:∃ W1,W1=wc:=⟨_,rfl⟩
  rw [← hW1] at own1 bE1 bR1 hbel1 hz1 ⊢
  clear hW1 own0 bR0 bE0 hbel0 hgA
  obtain ⟨B1,hB1⟩:∃ B1,B1=W1.heap.size:=⟨_,rfl⟩
  have hBz:w2.heap.size < B1:=by omega
  have H1:Hid (∀ W,Below B1 W1 W→Calls Tryz.prog 29 #[.slice af fs.length cf] W fun e w' => ∃ ad cap,e = .returned (.slice ad fs.length cap)∧w'.ownsRow B1 37 3 (.slice ad fs.length cap) fs.length (fs.flatMap Fx.cells)∧Below W.heap.size W w'∧Below B1 W1 w'∧w'.cell? ⟨w.heap.size+1,0,none⟩=some (.slice af fs.length cf)∧w'.cell? ⟨w.heap.size+1,1,none⟩=some (.slice ac cs.length cc)):=by
   intro W hW
   refine (HCF.out W (hbel1.trans (hW.mono (by omega)))).mono ?_
   rintro e w' ⟨ad,cap,rfl,h1,h2⟩
   have h3:=hW.trans (h2.mono (by have:=hW.size;omega))
   have h4:=bE1.low h3 (by omega)
   exact ⟨ad,cap,rfl,ownsRow_base' h1 (by have:=hW.size;omega),h2,h3,h4.cell0,h4.cell1⟩
  have H2:Hid (∀ W,Below B1 W1 W→Calls Tryz.prog 30 #[.slice ac cs.length cc] W fun e w' => ∃ ad cap,e = .returned (.slice ad cs.length cap)∧w'.ownsRow B1 80 4 (.slice ad cs.length cap) cs.length (cs.flatMap Ch.cells)∧Below W.heap.size W w'∧Below B1 W1 w'∧w'.cell? ⟨w.heap.size+1,0,none⟩=some (.slice af fs.length cf)∧w'.cell? ⟨w.heap.size+1,1,none⟩=some (.slice ac cs.length cc)):=by
   intro W hW
   refine (HCC.out W (hbel1.trans (hW.mono (by omega)))).mono ?_
   rintro e w' ⟨ad,cap,rfl,h1,h2⟩
   have h3:=hW.trans (h2.mono (by have:=hW.size;omega))
   have h4:=bE1.low h3 (by omega)
   exact ⟨ad,cap,rfl,ownsRow_base' h1 (by have:=hW.size;omega),h2,h3,h4.cell0,h4.cell1⟩
  have k0:=bE1.cell0
  have k1:=bE1.cell1
  have hb0:Below B1 W1 W1.drew:=(Below.refl _ _).drew
  have hbA:Below B1 W1 (W1.alloc (.cells #[.slice none 0 0,.slice none 0 0] 32)).drew:=((Below.refl _ _).alloc (by omega) _).drew
  have bA:Boxed2 (W1.alloc (.cells #[.slice none 0 0,.slice none 0 0] 32)).drew W1.heap.size 32 (.slice none 0 0) (.slice none 0 0):=Boxed2.of_block (Boxed2.new W1 (.slice none 0 0) (.slice none 0 0) 32) rfl
  have hB3:B1≤W1.heap.size:=by omega
  have hB2:B1≤W1.drew.heap.size:=by show B1≤W1.heap.size;omega
  have hq2:w.heap.size+1 < W1.heap.size:=by omega
  go_upto_region 13 with fail
  go_cut [11] from 43 to 49 (fun v wc => ClonedAt W1 B1 fs cs v wc)
  case first =>
   go_wp2_with fail
   go_region_held3 (fun w' => w'.cell? ⟨w.heap.size+1,0,none⟩=some (.slice af fs.length cf)∧w'.cell? ⟨w.heap.size+1,1,none⟩=some (.slice ac cs.length cc))
    (first | assumption | exact ⟨by assumption,by assumption⟩ | (refine ⟨?_,?_⟩ <;> (rw [World.cell?_setCell_far _ _ _ _ (by dsimp only;omega),World.cell?_setCell_far _ _ _ _ (by dsimp only;omega)];first | assumption | go_keep)) | go_keep)
    (first | (go_at_call 30;refine (H2.out _ ?_).mono ?_;(with_reducible first | exact hb0 | exact hE5 | exact hbA | exact hE5.alloc (by have:=hE5.size;omega) _);rintro e w6 ⟨ad6,cap6,rfl,own6,hb6,hE3,p0,p1⟩;have hs6:B1≤w6.heap.size:=(by have:=hE3.size;omega);(first | (have bx6:=Boxed2.below bA hb6;have x0:=bx6.cell0;have x1:=bx6.cell1;have z0:=bx6.frozen 0;have z1:=bx6.frozen 1) | (have bx6:=Boxed2.below (Boxed2.new _ _ _ _) hb6;have x0:=bx6.cell0;have x1:=bx6.cell1;have z0:=bx6.frozen 0;have z1:=bx6.frozen 1) | (have bx6:=Boxed2.below bx5 hb6;have x0:=bx6.cell0;have x1:=bx6.cell1;have z0:=bx6.frozen 0;have z1:=bx6.frozen 1) | skip)) | (go_at_call 29;refine (H1.out _ ?_).mono ?_;(with_reducible first | exact hb0 | exact hE3 | exact hbA | exact hE3.alloc (by have:=hE3.size;omega) _);rintro e w5 ⟨ad5,cap5,rfl,own5,hb5,hE5,p0,p1⟩;have hs5:B1≤w5.heap.size:=(by have:=hE5.size;omega);(first | (have bx5:=Boxed2.below bA hb5;have x0:=bx5.cell0;have x1:=bx5.cell1;have z0:=bx5.frozen 0;have z1:=bx5.frozen 1) | (have bx5:=Boxed2.below (Boxed2.new _ _ _ _) hb5;have x0:=bx5.cell0;have x1:=bx5.cell1;have z0:=bx5.frozen 0;have z1:=bx5.frozen 1) | (have bx5:=Boxed2.below bx6 hb5;have x0:=bx5.cell0;have x1:=bx5.cell1;have z0:=bx5.frozen 0;have z1:=bx5.frozen 1) | skip)))
   all_goals
    go_wp2
    go_meet
    first
     | exact cloned_fin bx6 (by first | exact hB3 | (have:=hE5.size;have:=hE3.size;omega)) (ownsRow_below' own5 hb6) own6 hE3
     | exact cloned_fin bx6 (by first | exact hB3 | (have:=hE5.size;have:=hE3.size;omega)) (ownsRow_below' (own5.alloc _) hb6) own6 hE3
     | exact cloned_new hs6 (ownsRow_below' own5 hb6) own6 hE3
     | exact cloned_fin bx5 (by first | exact hB3 | (have:=hE5.size;have:=hE3.size;omega)) own5 (ownsRow_below' own6 hb5) hE5
     | exact cloned_fin bx5 (by first | exact hB3 | (have:=hE5.size;have:=hE3.size;omega)) own5 (ownsRow_below' (own6.alloc _) hb5) hE5
     | exact cloned_new hs5 own5 (ownsRow_below' own6 hb5) hE5
  case rest =>
   clear H1 H2 hb0 hbA bA hB3 k0 k1 hB2
   obtain ⟨B,adF,capF,adC,capC,rfl,bO0,hBB,ownF,ownC,hbC⟩:=hcut
   have ownM0:wc.ownsMap Tryz.prog 9 heldElem w2.heap.size l.length (mapSh l):=ownsMap_kept' own1 (hbC.block _ hBz)
   have bR2:=bR1.low hbC (by omega)
   have hbel2:=hbel1.trans (hbC.mono (by omega))
   have hzc:=hbC.size
   have HL:Hid (∀ g,adF=some ⟨g,0,none⟩→g < wc.heap.size∧B1≤g∧g ≠ B):=fun g hg => ⟨(ownF.lt g (by rw [hg];rfl)).2,(ownF.lt g (by rw [hg];rfl)).1,fun e => own_not_block ownF (c:=#[.slice adF fs.length capF,.slice adC cs.length capC]) bO0 (by decide) (by rw [hg];exact congrArg some e)⟩
   have HNe:=Lib.hid (own_apart ownF ownC (by decide))
   have HNB:Hid ((Value.slice adF fs.length capF).ownBlock ≠ some B):=own_not_block ownF (c:=#[.slice adF fs.length capF,.slice adC cs.length capC]) bO0 (by decide)
   have HLo:Hid (∀ k,(Value.slice adF fs.length capF).ownBlock=some k→B1≤k):=fun k hk => (ownF.lt k hk).1
   have HM0:=Lib.hid ownM0
   have HR2:=Lib.hid bR2
   have HO0:=Lib.hid bO0
   have Hbel:=Lib.hid hbel2
   have HC0:=Lib.hid ownC
   have r0:=bO0.cell0
   have r1:=bO0.cell1
   clear own1 bE1 bR1 hbel1 hbC ownM0 bR2 bO0 hbel2 ownC
   go_wp2_with fail
   clear r0 r1
   go_loopw [53] (fun i wr => ∃ k:Nat,k≤fs.length∧i = .int .i64 k∧Hid (errs ((fs.take k).map (newE l))=0)∧wr.ownsRow B1 37 3 (.slice adF fs.length capF) fs.length ((upTo (newF l) fs k).flatMap Fx.cells)∧wc.grownBy wr (Value.slice adF fs.length capF).ownBlock) (fun i _ => fs.length - (intOf i).toNat)
   case atStart => exact ⟨0,Nat.zero_le _,rfl,Lib.hid rfl,by rw [upTo_zero];exact ownF,World.grownBy.refl _ _⟩
   case round =>
    clear ownF
    obtain ⟨k,hk,rfl,HI,hown,hg⟩:=hrel
    have hzr:=hg.size
    by_cases hlt:k < fs.length
    ·obtain ⟨f,hf⟩:∃ f,fs[k]? = some f:=⟨_,List.getElem?_eq_getElem hlt⟩
     obtain ⟨g,rfl⟩:=owns_some hown (by omega)
     change wc.grownBy wr (some g) at hg
     obtain ⟨hg1,hg2,hg3⟩:=HL.out g rfl
     obtain ⟨s1,s2⟩:=HFm.out f (List.mem_of_getElem? hf)
     have HF:=Lib.hid hf
     have hk1:(0:Int)≤(k:Int):=by omega
     have hk2:(k:Int) < (fs.length:Int):=by omega
     have bO:Boxed2 wr B 32 (.slice (some ⟨g,0,none⟩) fs.length capF) (.slice adC cs.length capC):=HO0.out.of_block (hg.block B HO0.out.lt (by simpa using fun e => hg3 e.symm))
     have bR:Boxed2 wr (w.heap.size+1+1) 32 (.slice none 0 0) (.slice none 0 0):=HR2.out.of_block (hg.block _ HR2.out.lt (by simp;omega))
     have hbel:Below w.heap.size w wr:=Hbel.out.grown hg (by omega) (fun k hk => by simp at hk;omega)
     have ownM:wr.ownsMap Tryz.prog 9 heldElem w2.heap.size l.length (mapSh l):=HM0.out.kept hg (by simp;omega)
     have hkey:=Lib.hid (key_str s1)
     have e0:((upTo (newF l) fs k).flatMap Fx.cells)[k * 3+0]? = some (.string f.nm):=by rw [upTo_split _ hf];exact get_flat (enc:=Fx.cells) (m:=3) (fun _ => rfl) _ _ f k 0 _ (by simp;omega) rfl
     have e1:((upTo (newF l) fs k).flatMap Fx.cells)[k * 3+1]? = some (.int .i64 f.d):=by rw [upTo_split _ hf];exact get_flat (enc:=Fx.cells) (m:=3) (fun _ => rfl) _ _ f k 1 _ (by simp;omega) rfl
     have e2:((upTo (newF l) fs k).flatMap Fx.cells)[k * 3+2]? = some (.string f.vl):=by rw [upTo_split _ hf];exact get_flat (enc:=Fx.cells) (m:=3) (fun _ => rfl) _ _ f k 2 _ (by simp;omega) rfl
     have HOs:Hid (∀ v,newV l f=v→((upTo (newF l) fs k).flatMap Fx.cells).set (k * 3+2) (.string v)=(upTo (newF l) fs (k+1)).flatMap Fx.cells):=by
      rintro v rfl
      rw [upTo_split _ HF.out,upTo_succ _ HF.out]
      exact set_flat (enc:=Fx.cells) (m:=3) (fun _ => rfl) _ _ f (newF l f) k 2 _ (by simp;omega) (by decide) rfl
     have HSa:Hid (newV l f=f.vl→(upTo (newF l) fs (k+1)).flatMap Fx.cells=(upTo (newF l) fs k).flatMap Fx.cells):=by
      intro h
      rw [upTo_same _ HF.out (by rw [newF,h])]
     have hst:RSt wr wr 37 3 g B1 fs.length capF ((upTo (newF l) fs k).flatMap Fx.cells):=RSt.start hown
     obtain ⟨os0,hos0⟩:∃ os,os=(upTo (newF l) fs k).flatMap Fx.cells:=⟨_,rfl⟩
     rw [← hos0] at hst HOs HSa e0 e1 e2
     clear hos0 hown hf
     have HB:Hid (∀ W os,RSt wr W 37 3 g B1 fs.length capF os→wc.grownBy W (some g)∧Boxed2 W (w.heap.size+1+1) 32 (.slice none 0 0) (.slice none 0 0)∧Below w.heap.size w W):=fun W os h => ⟨hg.trans h.gr,h.box2 bR (by omega),h.below hbel (by omega) (by omega)⟩
     have f0:wr.cell? ⟨g,k * 3,none⟩=some (.string f.nm):=hst.at e0
     have r0:wr.cell? ⟨B,0,none⟩=some (.slice (some ⟨g,0,none⟩) fs.length capF):=bO.cell0
     have hgr:g < wr.heap.size:=by omega
     have hwz:w2.heap.size < wr.heap.size:=by omega
     have hBr:B < wr.heap.size:=bO.lt
     clear bO bR hbel
     rcases find_name (l:=l) f.nm with hmiss | ⟨x,hx,hxn⟩
     ·obtain ⟨m1,m2⟩:=mapSh_miss hmiss (.held shZero)
      obtain ⟨n1,n2⟩:=new_none (f:=f) (find_none hmiss)
      have s0:JSt wr (wr.alloc (.cells #[.string ⟨#[]⟩,.int .i64 0,.string ⟨#[]⟩,.string ⟨#[]⟩] 24)) g wr.heap.size B1 fs.length capF [.string ⟨#[]⟩,.int .i64 0,.string ⟨#[]⟩,.string ⟨#[]⟩] os0:=⟨hst.alloc _,BoxN.new wr [.string ⟨#[]⟩,.int .i64 0,.string ⟨#[]⟩,.string ⟨#[]⟩] 24⟩
      go_upto_region 19 with (at_lookup;refine wpList_lookup_held _ rfl _ _ 76 rfl 9 24 law_str ul_shmap shZero (zero_shift _) w2.heap.size l.length (mapSh l) rfl ownM _ _ rfl hkey.out (.agg #[.string ⟨#[]⟩,.int .i64 0,.string ⟨#[]⟩,.string ⟨#[]⟩]) false m1 m2 ?_)
      obtain ⟨Wt,hWt⟩:∃ Wt,Wt=wr.alloc (.cells #[.string ⟨#[]⟩,.int .i64 0,.string ⟨#[]⟩,.string ⟨#[]⟩] 24):=⟨_,rfl⟩
      rw [← hWt] at s0 ⊢
      clear hWt
      have d1:Wt.drew.cell? ⟨g,k * 3+1,none⟩=some (.int .i64 f.d):=(s0.ext (W':=Wt.drew) ((Below.refl _ _).drew)).r.at e1
      have s1:=s0.ext (W':=Wt.drew) ((Below.refl _ _).drew)
      have HI2:Hid (errs ((fs.take (k+1)).map (newE l))=0):=errs_take_map_snoc HF.out HI.out n1
      have HT:=Lib.hid s1
      have hos2:=HSa.out n2
      clear s0 s1 n1 n2 m1 m2 hmiss
      go_quiet (fail)
      have b3:=HB.out _ _ HT.out.r
      go_wp2
      go_roundw
      case rel => exact ⟨k+1,by omega,by go_num,HI2,by rw [hos2];exact HT.out.r.own,⟨b3.1.os,b3.1.tape,b3.1.output,b3.1.size,b3.1.block⟩⟩
      case measure => simp [intOf];omega
     ·obtain ⟨m1,m2⟩:=mapSh_hit HNa.out hx (.held shZero)
      rw [hxn] at m1 m2
      obtain ⟨s3,s4,s5⟩:=HSm.out x hx
      have s0:JSt wr (wr.alloc (.cells #[.string x.nm,.int .i64 x.fr,.string x.ra,.string x.ex] 24)) g wr.heap.size B1 fs.length capF [.string x.nm,.int .i64 x.fr,.string x.ra,.string x.ex] os0:=⟨hst.alloc _,BoxN.new wr [.string x.nm,.int .i64 x.fr,.string x.ra,.string x.ex] 24⟩
      by_cases hd:f.d < x.fr
      ·obtain ⟨n1,n2⟩:=new_none (f:=f) (find_early HNa.out hx hxn hd)
       have u1:decide (f.d < x.fr)=true:=by simpa using hd
       clear hd hx hxn
       go_upto_region 19 with (at_lookup;refine wpList_lookup_held _ rfl _ _ 76 rfl 9 24 law_str ul_shmap shZero (zero_shift _) w2.heap.size l.length (mapSh l) rfl ownM _ _ rfl hkey.out (.agg #[.string x.nm,.int .i64 x.fr,.string x.ra,.string x.ex]) true m1 m2 ?_)
       obtain ⟨Wt,hWt⟩:∃ Wt,Wt=wr.alloc (.cells #[.string x.nm,.int .i64 x.fr,.string x.ra,.string x.ex] 24):=⟨_,rfl⟩
       rw [← hWt] at s0 ⊢
       clear hWt
       have s1:=s0.ext (W':=Wt.drew) ((Below.refl _ _).drew)
       have d1:Wt.cell? ⟨g,k * 3+1,none⟩=some (.int .i64 f.d):=s0.r.at e1
       have d2:Wt.cell? ⟨wr.heap.size,1,none⟩=some (.int .i64 x.fr):=s0.bx.cell rfl
       have HI2:Hid (errs ((fs.take (k+1)).map (newE l))=0):=errs_take_map_snoc HF.out HI.out n1
       have HT:=Lib.hid s1
       have hos2:=HSa.out n2
       clear s0 s1 n1 n2 m1 m2
       go_quiet (fail)
       have b3:=HB.out _ _ HT.out.r
       go_wp2
       go_roundw
       case rel => exact ⟨k+1,by omega,by go_num,HI2,by rw [hos2];exact HT.out.r.own,⟨b3.1.os,b3.1.tape,b3.1.output,b3.1.size,b3.1.block⟩⟩
       case measure => simp [intOf];omega
      ·have hN:=new_some (find_there HNa.out hx hxn hd)
       have u1:decide (f.d < x.fr)=false:=by simpa using hd
       have HN1:Hid (mulE x.ra f.vl ≠ 0→newE l f=mulE x.ra f.vl):=fun h => hN.1.trans (shE_mul h)
       have HN2:Hid (mulE x.ra f.vl=0→newE l f=addE (shM x f.vl) x.ex):=fun h => hN.1.trans (shE_add h)
       have HN3:Hid (newV l f=mkB (addS (shM x f.vl) x.ex)):=hN.2
       have C1:Hid (∀ W,Calls Tryz.prog 31 #[.string x.ra,.string f.vl] W fun e w' => e = .returned (.tuple #[.string (shM x f.vl),.int .i64 (mulE x.ra f.vl)])∧Below W.heap.size W w'):=fun W => (ratmul_any x.ra f.vl W s4 s2).mono fun _ _ h => h.val
       have C2:Hid (∀ W,Calls Tryz.prog 23 #[.string (shM x f.vl),.string x.ex] W fun e w' => e = .returned (.tuple #[.string (mkB (addS (shM x f.vl) x.ex)),.int .i64 (addE (shM x f.vl) x.ex)])∧Below W.heap.size W w'):=fun W => (ratadd_any (shM x f.vl) x.ex W (Nat.le_trans (mulS_size _ _) (by decide)) s5).mono fun _ _ h => h.val
       clear hd hN hx hxn
       go_upto_region 19 with (at_lookup;refine wpList_lookup_held _ rfl _ _ 76 rfl 9 24 law_str ul_shmap shZero (zero_shift _) w2.heap.size l.length (mapSh l) rfl ownM _ _ rfl hkey.out (.agg #[.string x.nm,.int .i64 x.fr,.string x.ra,.string x.ex]) true m1 m2 ?_)
       obtain ⟨Wt,hWt⟩:∃ Wt,Wt=wr.alloc (.cells #[.string x.nm,.int .i64 x.fr,.string x.ra,.string x.ex] 24):=⟨_,rfl⟩
       rw [← hWt] at s0 ⊢
       clear hWt m1 m2
       generalize mkB (addS (shM x f.vl) x.ex)=r2 at C2 HN3
       generalize addE (shM x f.vl) x.ex=n2 at C2 HN2
       generalize shM x f.vl=r1 at C1 C2
       generalize mulE x.ra f.vl=n1 at C1 HN1 HN2
       have HM:Hid (∀ W,JSt wr W g wr.heap.size B1 fs.length capF [.string x.nm,.int .i64 x.fr,.string x.ra,.string x.ex] os0→Calls Tryz.prog 31 #[.string x.ra,.string f.vl] W fun y w' => y = .returned (.tuple #[.string r1,.int .i64 n1])∧JSt wr w' g wr.heap.size B1 fs.length capF [.string x.nm,.int .i64 x.fr,.string x.ra,.string x.ex] os0∧w'.cell? ⟨wr.heap.size,2,none⟩=some (.string x.ra)∧w'.cell? ⟨g,k * 3+2,none⟩=some (.string f.vl)):=by
        intro W hs
        refine (C1.out W).mono ?_
        rintro y w' ⟨rfl,hb⟩
        have h:=hs.ext hb
        exact ⟨rfl,h,h.bx.cell rfl,h.r.at e2⟩
       have s1:=s0.ext (W':=Wt.drew) ((Below.refl _ _).drew)
       have d1:Wt.cell? ⟨g,k * 3+1,none⟩=some (.int .i64 f.d):=s0.r.at e1
       have d2:Wt.cell? ⟨wr.heap.size,1,none⟩=some (.int .i64 x.fr):=s0.bx.cell rfl
       have d3:Wt.cell? ⟨wr.heap.size,2,none⟩=some (.string x.ra):=s0.bx.cell rfl
       have d4:Wt.cell? ⟨g,k * 3+2,none⟩=some (.string f.vl):=s0.r.at e2
       have HT:=Lib.hid s0
       clear s0 s1
       go_quiet (fail)
       go_wp2
       go_region_held3 (fun w' => w'.cell? ⟨wr.heap.size,2,none⟩=some (.string x.ra)∧w'.cell? ⟨g,k * 3+2,none⟩=some (.string f.vl))
        (first | assumption | exact ⟨by assumption,by assumption⟩ | go_keep)
        (first | (go_at_call 31;refine (HM.out _ (HT.out.ext ((below_drewN (Below.refl _ _) _).drew))).mono ?_;rintro y w5 ⟨rfl,s5,a2,a3⟩))
       clear d1 d2 d3 d4 a2 a3 HT
       by_cases hn1:n1=0
       ·have hne:=HN2.out hn1
        rw [hn1]
        have c3:w5.cell? ⟨wr.heap.size,3,none⟩=some (.string x.ex):=s5.bx.cell rfl
        go_wp2_with fail
        refine (C2.out _).mono ?_
        rintro y w6 ⟨rfl,hb6⟩
        have s6:=s5.ext hb6
        clear s5 hb6 c3
        by_cases hn2:n2=0
        ·have hze:newE l f=0:=hne.trans hn2
         have HI2:Hid (errs ((fs.take (k+1)).map (newE l))=0):=errs_take_map_snoc HF.out HI.out hze
         have t1:(n2 != 0)=false:=by rw [hn2];rfl
         have c2:w6.cell? ⟨g,k * 3+2,none⟩=some (.string f.vl):=s6.r.at e2
         have c4:=s6.r.ice (k * 3+2)
         have s7:=s6.r.set (k * 3+2) (.string r2)
         rw [HOs.out r2 HN3.out] at s7
         have HT:=Lib.hid (And.intro s7.own (HB.out _ _ s7).1)
         clear hze hne hn1 hn2 s6 s7
         go_wp2
         go_roundw
         case rel => exact ⟨k+1,by omega,by go_num,HI2,HT.out.1,HT.out.2⟩
         case measure => simp [intOf];omega
        ·obtain ⟨e1,e2,e3⟩:=HNum.out k f HF.out HI.out (by rw [hne];exact hn2)
         have t1:(n2 != 0)=true:=by rw [bne_iff_ne];exact hn2
         have hxe:=hne
         obtain ⟨_,bRz,hbz⟩:=HB.out _ _ s6.r
         have q0:=bRz.cell0
         have q1:=bRz.cell1
         have z0:=bRz.frozen 0
         have z1:=bRz.frozen 1
         have HS:=Lib.hid (bRz.store (.slice none 0 0) (.slice none 0 0))
         have HW:Hid (EnvPost w (applyE l fs cs) (applyF l fs cs) (applyC l fs cs) (.returned (.tuple #[.agg #[.slice none 0 0,.slice none 0 0],.int .i64 n2])) ((w6.setCell ⟨w.heap.size+1+1,0,none⟩ (.slice none 0 0)).setCell ⟨w.heap.size+1+1,1,none⟩ (.slice none 0 0))):=by
          show EnvPost _ _ _ _ _ _
          rw [e1,e2,e3,hxe]
          exact envPost_none (below_store hbz (B:=w.heap.size+1+1) (by omega) (.slice none 0 0) (.slice none 0 0))
         clear bRz hbz s6 hn2 hn1 hne hxe e1 e2 e3
         go_wp2
         obtain ⟨W3,hW3⟩:∃ W3,W3=(w6.setCell ⟨w.heap.size+1+1,0,none⟩ (.slice none 0 0)).setCell ⟨w.heap.size+1+1,1,none⟩ (.slice none 0 0):=⟨_,rfl⟩
         rw [← hW3]
         rw [← hW3] at HS HW
         refine bodyPost_ret (v:=.tuple #[.agg #[.slice none 0 0,.slice none 0 0],.int .i64 n2]) (by simp [results,Tryz.results8,go_sem,HS.out.cell0,HS.out.cell1]) rfl HW.out
       ·have hxe:=HN1.out hn1
        obtain ⟨e1,e2,e3⟩:=HNum.out k f HF.out HI.out (by rw [hxe];exact hn1)
        have t1:(n1 != 0)=true:=by rw [bne_iff_ne];exact hn1
        have t2:(n1 == 0)=false:=by rw [beq_eq_false_iff_ne];exact hn1
        obtain ⟨_,bRz,hbz⟩:=HB.out _ _ s5.r
        have q0:=bRz.cell0
        have q1:=bRz.cell1
        have z0:=bRz.frozen 0
        have z1:=bRz.frozen 1
        have HS:=Lib.hid (bRz.store (.slice none 0 0) (.slice none 0 0))
        have HW:Hid (EnvPost w (applyE l fs cs) (applyF l fs cs) (applyC l fs cs) (.returned (.tuple #[.agg #[.slice none 0 0,.slice none 0 0],.int .i64 n1])) ((w5.setCell ⟨w.heap.size+1+1,0,none⟩ (.slice none 0 0)).setCell ⟨w.heap.size+1+1,1,none⟩ (.slice none 0 0))):=by
         show EnvPost _ _ _ _ _ _
         rw [e1,e2,e3,hxe]
         exact envPost_none (below_store hbz (B:=w.heap.size+1+1) (by omega) (.slice none 0 0) (.slice none 0 0))
        clear bRz hbz s5 hn1 hxe e1 e2 e3
        go_wp2
        obtain ⟨W3,hW3⟩:∃ W3,W3=(w5.setCell ⟨w.heap.size+1+1,0,none⟩ (.slice none 0 0)).setCell ⟨w.heap.size+1+1,1,none⟩ (.slice none 0 0):=⟨_,rfl⟩
        rw [← hW3]
        rw [← hW3] at HS HW
        refine bodyPost_ret (v:=.tuple #[.agg #[.slice none 0 0,.slice none 0 0],.int .i64 n1]) (by simp [results,Tryz.results8,go_sem,HS.out.cell0,HS.out.cell1]) rfl HW.out
    ·obtain rfl:k=fs.length:=by omega
     have hI:=HI.out
     rw [List.take_length] at hI
     rw [upTo_end] at hown
     obtain ⟨e1,e2,e3⟩:=HOk.out hI
     have bO:Boxed2 wr B 32 (.slice adF fs.length capF) (.slice adC cs.length capC):=HO0.out.of_block (hg.block B HO0.out.lt (fun e => HNB.out e.symm))
     have bR:Boxed2 wr (w.heap.size+1+1) 32 (.slice none 0 0) (.slice none 0 0):=HR2.out.of_block (hg.block _ HR2.out.lt (fun e => by have:=HLo.out _ e.symm;omega))
     have hbel:Below w.heap.size w wr:=Hbel.out.grown hg (by omega) (fun k hk => by have:=HLo.out k hk;omega)
     have ownC:=ownsRow_kept (w':=wr) HC0.out fun k hk hlt => hg.block k hlt (HNe.out k hk)
     have r0:=bO.cell0
     have r1:=bO.cell1
     have q0:=bR.cell0
     have q1:=bR.cell1
     have z0:=bR.frozen 0
     have z1:=bR.frozen 1
     have HS:=Lib.hid (bR.store (.slice adF fs.length capF) (.slice adC cs.length capC))
     have HW:Hid (EnvPost w (applyE l fs cs) (applyF l fs cs) (applyC l fs cs) (.returned (.tuple #[.agg #[.slice adF fs.length capF,.slice adC cs.length capC],.int .i64 0])) ((wr.setCell ⟨w.heap.size+1+1,0,none⟩ (.slice adF fs.length capF)).setCell ⟨w.heap.size+1+1,1,none⟩ (.slice adC cs.length capC))):=by
      show EnvPost _ _ _ _ _ _
      rw [e1,e2,e3]
      refine ⟨adF,capF,adC,capC,by rw [List.length_map],?_,?_,below_store hbel (by omega) _ _⟩
      ·rw [List.length_map]
       exact ownsRow_base' (ownsRow_setCell_below (ownsRow_setCell_below hown (a:=⟨w.heap.size+1+1,0,none⟩) (by show w.heap.size+1+1 < B1;omega) _) (a:=⟨w.heap.size+1+1,1,none⟩) (by show w.heap.size+1+1 < B1;omega) _) (by omega)
      ·exact ownsRow_base' (ownsRow_setCell_below (ownsRow_setCell_below ownC (a:=⟨w.heap.size+1+1,0,none⟩) (by show w.heap.size+1+1 < B1;omega) _) (a:=⟨w.heap.size+1+1,1,none⟩) (by show w.heap.size+1+1 < B1;omega) _) (by omega)
     clear e1 e2 e3 hI hown hbel bO bR ownC
     go_wp2
     obtain ⟨W3,hW3⟩:∃ W3,W3=(wr.setCell ⟨w.heap.size+1+1,0,none⟩ (.slice adF fs.length capF)).setCell ⟨w.heap.size+1+1,1,none⟩ (.slice adC cs.length capC):=⟨_,rfl⟩
     rw [← hW3]
     rw [← hW3] at HS HW
     refine bodyPost_ret (v:=.tuple #[.agg #[.slice adF fs.length capF,.slice adC cs.length capC],.int .i64 0]) (by simp [results,Tryz.results8,go_sem,HS.out.cell0,HS.out.cell1]) rfl HW.out
theorem apply_any (l:List Sh) (fs:List Fx) (cs:List Ch) (ad af ac:Option Addr) (cap cf cc:Nat) (w:World) (hl:l.length≤1100000) (hn:fs.length≤1100000) (hm:cs.length≤1100000)
  (hr:Rd Sh.cells 4 w ad l) (hs:∀ x ∈ l,x.small∧x.ra.size≤1000000∧x.ex.size≤1000000)
  (hf:Rd Fx.cells 3 w af fs) (hc:Rd Ch.cells 4 w ac cs) (hfs:∀ f ∈ fs,f.small∧f.vl.size≤1000000) (hcs:∀ c ∈ cs,c.small)
  (sf:Sl w (.slice af fs.length cf) 3 fs.length (fs.flatMap Fx.cells)) (haf:af=none→cf=0) (sc:Sl w (.slice ac cs.length cc) 4 cs.length (cs.flatMap Ch.cells)) (hac:ac=none→cc=0) :
  Calls Tryz.prog 8 #[.agg #[.slice ad l.length cap],.agg #[.slice af fs.length cf,.slice ac cs.length cc]] w (EnvPost w (applyE l fs cs) (applyF l fs cs) (applyC l fs cs)):=by
 have HV:=Lib.hid (fun W (h:Below w.heap.size w W) => scnChk_any l ad cap W hl (hr.below h) (fun x hx => (hs x hx).1))
 have HC:=Lib.hid (fun W (h:Below w.heap.size w W) => checkEnv_any fs cs af ac cf cc W hn hm (hf.below h) (hc.below h) (fun x hx => (hfs x hx).1) hcs)
 cases hv:scnB l with
 | false => exact apply_no l fs cs ad af ac cap cf cc w HV hv
 | true =>
  by_cases he:envErr fs cs=0
  ·exact apply_yes l fs cs ad af ac cap cf cc w hl hn hm HV HC (Lib.hid fun W h => cloneFx_any fs af cf W hn (sf.below h) haf) (Lib.hid fun W h => cloneCh_any cs ac cc W hm (sc.below h) hac) hv he hr
    (fun x hx => ⟨(hs x hx).1.1,(hs x hx).2⟩) (fun f hf => ⟨(hfs f hf).1.1,(hfs f hf).2⟩)
  ·exact apply_envErr l fs cs ad af ac cap cf cc w HV HC hv he
end Go.Proofs.YthdeijdimfjceaaGreatDoor

namespace Go.Proofs.YthdeijdimfjceaaGreatDoor
open Go.RowKit
def sC (s:ByteArray):List Value:=[.string s]
theorem Rd.st {w:World} {ad:Option Addr} {l:List ByteArray} (h:Rd sC 1 w ad l) {j:Nat} {s:ByteArray} (hj:l[j]? = some s) :
  ∃ b off,ad=some ⟨b,off,none⟩∧w.cell? ⟨b,off+j,none⟩=some (.string s):=by
 obtain ⟨b,off,rfl,h2⟩:=h j s hj
 have h0:=h2 0 _ rfl
 rw [Nat.mul_one] at h0
 exact ⟨b,off,rfl,h0⟩
theorem rd_st {w:World} {base c n:Nat} {e:TypeId} {a:Option Addr} {l:List ByteArray} (h:w.ownsRow base e 1 (.slice a n c) n (l.flatMap sC)) (hn:n=l.length):Rd sC 1 w a l:=by
 subst hn
 exact Rd.of_sl (enc:=sC) (m:=1) (fun _ => rfl) (by decide) (Sl.of_owns h)
end Go.Proofs.YthdeijdimfjceaaGreatDoor

namespace Go.Proofs.YthdeijdimfjceaaGreatDoor
open Go.RowKit Go.Shelf
attribute [local go_sem] Oper.semAt_some
structure KeptC (base D:Nat) (w w':World):Prop where
 below:Below base w w'
 cells:∀ b cs fr,D≤b→w.heap[b]? = some (.cells cs 51 fr)→w'.heap[b]? = some (.cells cs 51 fr)
theorem KeptC.refl (base D:Nat) (w:World):KeptC base D w w:=⟨Below.refl _ _,fun _ _ _ _ h => h⟩
theorem KeptC.trans {base D:Nat} {a b c:World} (h:KeptC base D a b) (k:KeptC base D b c):KeptC base D a c:=⟨h.below.trans k.below,fun i o fr hi ho => k.cells i o fr hi (h.cells i o fr hi ho)⟩
theorem KeptC.of_below {base D:Nat} {w w':World} (hb:base≤w.heap.size) (h:Below w.heap.size w w'):KeptC base D w w' :=
 ⟨h.mono hb,fun b o fr _ ho => by rw [h.block b (Array.getElem?_eq_some_iff.1 ho).1];exact ho⟩
theorem KeptC.alloc {base D:Nat} (w:World) (hb:base≤w.heap.size) (o:Obj):KeptC base D w (w.alloc o):=.of_below hb (below_a1 w o)
theorem KeptC.cell {base D:Nat} {w w':World} (h:KeptC base D w w') {b o:Nat} {v:Value} {cs:Array Value} {fr:Nat × Nat} (hD:D≤b) (hb:w.heap[b]? = some (.cells cs 51 fr)) (hc:w.cell? ⟨b,o,none⟩=some v):w'.cell? ⟨b,o,none⟩=some v:=by
 rw [World.cell?_of_block (w:=w) (by rw [hb];exact h.cells b cs fr hD hb)]
 exact hc
theorem KeptC.putObj {base D:Nat} (W:World) (l:Nat) (o o':Obj) (hl:base≤l) (h:W.heap[l]? = some o) (hc:o.isCells=false):KeptC base D W (W.putObj l o'):=by
 refine ⟨(Below.refl base W).grown (grownBy_putObj' W l o') (by have:=(Array.getElem?_eq_some_iff.1 h).1;omega) (fun k e => by cases e;omega),fun b cs fr _ hb => ?_⟩
 rw [World.putObj_heap_other (by rintro rfl;rw [h] at hb;cases hb;cases hc)]
 exact hb
end Go.Proofs.YthdeijdimfjceaaGreatDoor

namespace Go.Proofs.YthdeijdimfjceaaGreatDoor
open Go.RowKit
open Go.Sort (Holds grow SWO putRow)
def blLt (x y:List UInt8):Bool:=decide (x < y)
theorem sort_eq (L:List (List UInt8)):(L.mergeSort fun x y => decide (x≤y))=L.mergeSort fun x y => !blLt y x:=by
 congr 1
 funext x y
 unfold blLt
 by_cases h:y < x
 ·rw [decide_eq_true h,decide_eq_false (List.not_le.2 h)];rfl
 ·rw [decide_eq_false h,decide_eq_true (List.not_lt.1 h)];rfl
end Go.Proofs.YthdeijdimfjceaaGreatDoor

namespace Go.Proofs.YthdeijdimfjceaaGreatDoor
open Go.RowKit Go.Shelf
attribute [local go_sem] Oper.semAt_some
def WBox (base B:Nat) (P:Nat→Prop) (L:List ByteArray) (W:World):Prop:=∃ v,Boxed W B 70 v∧W.ownsRow base 9 1 v L.length (L.flatMap sC)∧∀ b,v.ownBlock=some b→P b
theorem WBox.low {base B:Nat} {P:Nat→Prop} {L:List ByteArray} {W W':World} (h:WBox base B P L W) (hb:Below W.heap.size W W'):WBox base B P L W':=by
 obtain ⟨v,h1,h2,h3⟩:=h
 exact ⟨v,(hb.block _ h1.lt).trans h1,ownsRow_below' h2 hb,h3⟩
def FG (lo hi:Nat) (ga:Option Addr) (G:List ByteArray) (W:World):Prop:=∀ (j:Nat) (s:ByteArray),G[j]? = some s→∃ b,ga=some ⟨b,0,none⟩∧lo≤b∧b < hi∧W.cell? ⟨b,j,none⟩=some (.string s)
theorem FG.new {lo cap:Nat} {ga:Option Addr} {G:List ByteArray} {W:World} (h:W.ownsRow lo 9 1 (.slice ga G.length cap) G.length (G.flatMap sC)):FG lo W.heap.size ga G W:=by
 intro j s hj
 rcases h.2 with ⟨e,h0⟩ | ⟨g,cap',cur,e,hg,hgb,_⟩
 ·rw [List.eq_nil_of_length_eq_zero h0] at hj;simp at hj
 ·cases e
  refine ⟨g,rfl,hg,(Array.getElem?_eq_some_iff.1 hgb).1,?_⟩
  have hc:=h.cells (g:=g) rfl (j:=j) (u:=.string s) (by
   have:=flat_get sC 1 (fun _ => rfl) G j s 0 (.string s) hj rfl
   simpa using this)
  by_cases h0:j=0
  ·subst h0;simpa [Addr.add] using hc
  ·simpa [Addr.add,h0] using hc
theorem WBox.step {base D B lo hi:Nat} {L G:List ByteArray} {ga:Option Addr} {W w1:World} {v v':Value} {s:ByteArray} {tmp:Obj} (h1:Boxed W B 70 v) (h2:W.ownsRow base 9 1 v L.length (L.flatMap sC)) (hb:base≤W.heap.size) (hB:base≤B)
  (hown:w1.ownsRow base 9 1 v' (L.length+1) (L.flatMap sC ++ [.string s])) (hgrow:(W.alloc tmp).grownBy w1 v.ownBlock)
  (h3:∀ b,v.ownBlock=some b→b < lo∨hi≤b) (hat:v'.ownBlock=v.ownBlock∨v'.ownBlock=some (W.alloc tmp).heap.size) (hhi:hi≤W.heap.size) (hlo:B < lo) (hG:FG lo hi ga G W) :
  Boxed w1 B 70 v∧WBox base B (fun b => b < lo∨hi≤b) (L ++ [s]) (w1.setCell ⟨B,0,none⟩ v')∧FG lo hi ga G (w1.setCell ⟨B,0,none⟩ v')∧KeepsOthers W (w1.setCell ⟨B,0,none⟩ v')∧KeptC base D W (w1.setCell ⟨B,0,none⟩ v')∧∀ B' t' u',Boxed W B' t' u'→B' ≠ B→t' ≠ 9→Boxed (w1.setCell ⟨B,0,none⟩ v') B' t' u':=by
 obtain ⟨k1,k2,k3,k4,k5⟩:=Boxed.appended h1 (by decide) h2 hb hB hown hgrow
 refine ⟨k1,⟨v',k2,by rw [List.length_append,List.flatMap_append];exact k3,fun b hb => ?_⟩,fun j x hj => ?_,k4,⟨k5,fun b cs fr _ hc => ?_⟩,fun B' t' u' hb' hne hte => ((hb'.alloc tmp).kept hgrow (hb'.not_row hte h2)).kept (grownBy_setCell' w1 B v') (fun e => hne (by cases e;rfl))⟩
 ·rcases hat with e | e
  ·exact h3 b (by rw [← e];exact hb)
  ·rw [e] at hb
   cases hb
   right;simp;omega
 ·obtain ⟨b,e,q1,q2,q3⟩:=hG j x hj
  have hlt:b < W.heap.size:=by omega
  refine ⟨b,e,q1,q2,?_⟩
  rw [World.cell?_of_block (w:=W) (by rw [Below.heap_setCell _ _ _ _ (show b ≠ B by omega),hgrow.block b (by simp;omega) (fun e => by have:=h3 b e.symm;omega),Below.heap_alloc _ _ _ hlt])]
  exact q3
 have hlt:b < W.heap.size:=(Array.getElem?_eq_some_iff.1 hc).1
 have n1:b ≠ B:=by
  rintro rfl
  rw [show W.heap[b]? = _ from h1] at hc
  injection hc with hc
  injection hc with _ hc
  exact absurd hc (by decide)
 have n2:some b ≠ v.ownBlock:=by
  rcases h2.2 with ⟨rfl,_⟩ | ⟨g,cap,cur,rfl,_,hgb,_⟩
  ·intro e;cases e
  ·intro e
   obtain rfl:g=b:=by simpa [Value.ownBlock] using e.symm
   rw [hgb] at hc
   injection hc with hc
   injection hc with _ hc
   exact absurd hc (by decide)
 rw [Below.heap_setCell _ _ _ _ n1,hgrow.block b (by simp;omega) n2,Below.heap_alloc _ _ _ hlt]
 exact hc
theorem cell_one_at (w:World) (u:Value) (t:TypeId):∀ j x,[u][j]? = some x→(w.alloc (.cells #[u] t)).cell? ((⟨w.heap.size,0,none⟩:Addr).add j)=some x:=by
 intro j x hj
 match j,hj with
 | 0,h => cases h;simp [Addr.add]
end Go.Proofs.YthdeijdimfjceaaGreatDoor
