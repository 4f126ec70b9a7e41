/- A part. -/
import Derived.Test.YthdeijdimfjceaaGreatDoorA25
namespace Go.Proofs.YthdeijdimfjceaaGreatDoor
open Go.RowKit
structure ISt (wr W:World) (g X K B0 n cap:Nat) (x:Sh) (e:Int) (os:List Value):Prop where
 r:RSt wr W 24 4 g B0 n cap os
 bx:BoxN W X 24 x.cells
 bk:BoxN W K 86 [.int .i64 e]
section
variable {wr W W':World} {g X K B0 n cap:Nat} {x:Sh} {e:Int} {os:List Value}
theorem ISt.ext (h:ISt wr W g X K B0 n cap x e os) (hb:Below W.heap.size W W'):ISt wr W' g X K B0 n cap x e os :=
 ⟨h.r.ext hb,h.bx.below hb h.bx.lt,h.bk.below hb h.bk.lt⟩
theorem ISt.set (h:ISt wr W g X K B0 n cap x e os) (hX:X ≠ g) (hK:K ≠ g) (j:Nat) (u:Value):ISt wr (W.setCell ⟨g,j,none⟩ u) g X K B0 n cap x e (os.set j u) :=
 ⟨h.r.set j u,h.bx.far hX u,h.bk.far hK u⟩
theorem ISt.got (h:ISt wr W g X K B0 n cap x e os) (hK:wr.heap.size≤K) (hg:g < wr.heap.size) (hX:X ≠ K) {e':Int} (b:BoxN W' K 86 [.int .i64 e']) (ho:∀ b,b ≠ K→W'.heap[b]? = W.heap[b]?) (hb:Below K W W') (hs:W.heap.size≤W'.heap.size) :
  ISt wr W' g X K B0 n cap x e' os:=⟨h.r.but hK hg hb hs ho,h.bx.of_block (ho X hX),b⟩
end
theorem kept_zero (n:Int):kept 0 n=n:=by rw [kept,if_pos rfl]
theorem inv_kept {x:Sh} (h:kept (divE oneB x.ra) (mulE x.ex negB) ≠ 0):invE x=kept (divE oneB x.ra) (mulE x.ex negB):=by
 unfold kept at h ⊢
 by_cases h1:divE oneB x.ra=0
 ·rw [if_pos h1] at h ⊢
  exact inv_mul h1 h
 ·rw [if_neg h1]
  exact inv_div h1
theorem inv_kept_zero {x:Sh} (h:kept (divE oneB x.ra) (mulE x.ex negB)=0):invE x=divE (invM x) x.ra:=by
 unfold kept at h
 by_cases h1:divE oneB x.ra=0
 ·rw [if_pos h1] at h
  exact inv_last h1 h
 ·rw [if_neg h1] at h
  exact absurd h h1
set_option maxHeartbeats 2000000 in
set_option maxRecDepth 100000 in
theorem inverse_no (l:List Sh) (ad:Option Addr) (cap:Nat) (w:World)
  (HV:Hid (∀ W,Below w.heap.size w W→Calls Tryz.prog 10 #[.agg #[.slice ad l.length cap]] W fun e w' => e = .returned (.int .i64 (scnE (scnB l)))∧Below W.heap.size W w'))
  (hv:scnB l=false) :
  Calls Tryz.prog 9 #[.agg #[.slice ad l.length cap]] w (ScnPost w (inverseE l) (inverseL l)):=by
 obtain ⟨e1,e2⟩:=inverse_bad hv
 rw [hv] at HV
 change Hid (∀ W,Below w.heap.size w W→Calls Tryz.prog 10 #[.agg #[.slice ad l.length cap]] W fun e w' => e = .returned (.int .i64 8)∧Below W.heap.size W w') at HV
 rw [e1,e2]
 clear e1 e2 hv
 have bx:=Lib.hid (fun (o1:Obj) => BoxN.new (w.alloc o1) [.slice none 0 0] 28)
 go_enter Tryz.func9,Tryz.ntmps9
 go_wp2_with fail
 refine (HV.out _ (below_a2 _ _ _)).mono ?_
 rintro e w1 ⟨rfl,hb1⟩
 have hs1:=hb1.size
 simp at hs1
 have bR:=(bx.out _).below hb1 (by simp)
 simp at bR
 have hbel:Below w.heap.size w w1:=(below_a2 _ _ _).trans (hb1.mono (by simp;omega))
 clear hb1 bx HV
 have q0:w1.cell? ⟨w.heap.size+1,0,none⟩=some (.slice none 0 0):=bR.cell rfl
 have z0:=bR.frozen 0
 have HS:=Lib.hid (bR.set 0 (.slice none 0 0))
 have HW:=Lib.hid (hbel.setCell (p:=⟨w.heap.size+1,0,none⟩) (by show _≤_+1;omega) (.slice none 0 0))
 clear bR hbel
 go_wp2
 obtain ⟨W3,hW3⟩:∃ W3,W3=(w1.setCell ⟨w.heap.size+1,0,none⟩ (.slice none 0 0)):=⟨_,rfl⟩
 rw [← hW3]
 rw [← hW3] at HS HW
 have c0:W3.cell? ⟨w.heap.size+1,0,none⟩=some (.slice none 0 0):=HS.out.cell rfl
 refine bodyPost_ret (v:=.tuple #[.agg #[.slice none 0 0],.int .i64 8]) (by simp [results,Tryz.results9,go_sem,c0]) rfl (scnPost_none HW.out)
set_option maxHeartbeats 8000000 in
set_option maxRecDepth 100000 in
theorem inverse_yes (l:List Sh) (ad:Option Addr) (cap:Nat) (w:World) (hn:l.length≤1100000)
  (HV:Hid (∀ W,Below w.heap.size w W→Calls Tryz.prog 10 #[.agg #[.slice ad l.length cap]] W fun e w' => e = .returned (.int .i64 (scnE (scnB l)))∧Below W.heap.size W w'))
  (HCl:Hid (∀ W,Below w.heap.size w W→Calls Tryz.prog 32 #[.slice ad l.length cap] W (ClonePost Sh.cells 24 4 W l)))
  (hv:scnB l=true) (hr:Rd Sh.cells 4 w ad l) (hs:∀ x ∈ l,x.ra.size≤1000000∧x.ex.size≤1000000) :
  Calls Tryz.prog 9 #[.agg #[.slice ad l.length cap]] w (ScnPost w (inverseE l) (inverseL l)):=by
 have HNum:Hid (∀ (k:Nat) (x:Sh),l[k]? = some x→errs ((l.take k).map invE)=0→invE x ≠ 0→inverseE l=invE x∧inverseL l=[]):=fun k x h h0 hx => inverse_num hv h h0 hx
 have HOk:Hid (errs (l.map invE)=0→inverseE l=0∧inverseL l=l.map inv):=fun h => inverse_ok hv h
 rw [hv] at HV
 change Hid (∀ W,Below w.heap.size w W→Calls Tryz.prog 10 #[.agg #[.slice ad l.length cap]] W fun e w' => e = .returned (.int .i64 0)∧Below W.heap.size W w') at HV
 have HR:=Lib.hid hr
 have HSm:=Lib.hid hs
 clear hv hr hs
 have bx:=Lib.hid (fun (o1:Obj) => BoxN.new (w.alloc o1) [.slice none 0 0] 28)
 have bx0:=Lib.hid (fun (o1:Obj) => (BoxN.new w [.slice ad l.length cap] 28).alloc o1)
 go_enter Tryz.func9,Tryz.ntmps9
 go_wp2_with fail
 refine (HV.out _ (below_a2 _ _ _)).mono ?_
 rintro e w1 ⟨rfl,hb1⟩
 have hs1:=hb1.size
 simp at hs1
 have bR:=(bx.out _).below hb1 (by simp)
 have bS:=(bx0.out _).below hb1 (by simp;omega)
 simp at bR
 have hbel:Below w.heap.size w w1:=(below_a2 _ _ _).trans (hb1.mono (by simp;omega))
 clear hb1 bx bx0 HV
 have k0:w1.cell? ⟨w.heap.size,0,none⟩=some (.slice ad l.length cap):=bS.cell rfl
 go_wp2_with fail
 refine (HCl.out _ hbel).mono ?_
 rintro e w2 ⟨adC,capC,rfl,own2,hb2⟩
 have hs2:=hb2.size
 have bR2:=bR.below hb2 (by omega)
 have bS2:=bS.below hb2 (by omega)
 clear k0 bR bS HCl
 have HL:Hid (∀ g,adC=some ⟨g,0,none⟩→g < w2.heap.size):=fun g hg => (own2.lt g (by rw [hg];rfl)).2
 obtain ⟨B0,hB0⟩:∃ n,n=w1.heap.size:=⟨_,rfl⟩
 rw [← hB0] at own2 hb2 hs2
 have hB1:w.heap.size+2≤B0:=by omega
 have own3:=own2.alloc (.cells #[.slice adC l.length capC] 28)
 have bO:=BoxN.new w2 [.slice adC l.length capC] 28
 have hb3:=hb2.alloc hs2 (.cells #[.slice adC l.length capC] 28)
 have bS3:=bS2.alloc (.cells #[.slice adC l.length capC] 28)
 have bR3:=bR2.alloc (.cells #[.slice adC l.length capC] 28)
 have k0:(w2.alloc (.cells #[.slice adC l.length capC] 28)).cell? ⟨w.heap.size,0,none⟩=some (.slice ad l.length cap):=bS3.cell rfl
 have HbR:=Lib.hid bR3
 have Hbel:=Lib.hid hbel
 clear own2 hb2 bS2 bR2 bR3 bS3 hbel
 go_wp2_with fail
 clear k0
 go_loopw [24] (fun i wr => ∃ k:Nat,k≤l.length∧i = .int .i64 k∧Hid (errs ((l.take k).map invE)=0)∧wr.ownsRow B0 24 4 (.slice adC l.length capC) l.length ((upTo inv l k).flatMap Sh.cells)∧Below B0 w1 wr∧BoxN wr w2.heap.size 28 [.slice adC l.length capC]∧BoxN wr (w.heap.size+1) 28 [.slice none 0 0]) (fun i _ => l.length - (intOf i).toNat)
 case atStart => exact ⟨0,Nat.zero_le _,rfl,Lib.hid rfl,by rw [upTo_zero];exact own3,hb3,bO,HbR.out⟩
 case round =>
  clear own3 bO hb3
  obtain ⟨k,hk,rfl,HI,hown,hbr,bO,bR⟩:=hrel
  have hzr:=bO.lt
  have hbel:=Hbel.out.trans (hbr.mono (by omega))
  by_cases hlt:k < l.length
  ·obtain ⟨x,hx⟩:∃ x,l[k]? = some x:=⟨_,List.getElem?_eq_getElem hlt⟩
   have HRf:=((HR.out.below hbel).sh hx)
   obtain ⟨s1,s2⟩:=HSm.out x (List.mem_of_getElem? hx)
   have HX:=Lib.hid hx
   obtain ⟨b,off,rfl,hc1,hc2,hc3,hc4⟩:=HRf
   obtain ⟨g,rfl⟩:=owns_some hown (by omega)
   have hgl:=HL.out g rfl
   have hg0:=(hown.lt g rfl).1
   have hblk:b < wr.heap.size:=World.block_lt_of_cell? wr _ hc1
   have hk1:(0:Int)≤(k:Int):=by omega
   have hk2:(k:Int) < (l.length:Int):=by omega
   have HOs:Hid ((((upTo inv l k).flatMap Sh.cells).set (k * 4+2) (.string (mkB (divS oneB x.ra)))).set (k * 4+3) (.string (mkB (divS (invM x) x.ra)))=(upTo inv l (k+1)).flatMap Sh.cells):=by
    show _=_
    rw [upTo_split inv HX.out,upTo_succ inv HX.out]
    rw [set_flat (enc:=Sh.cells) (m:=4) (fun _ => rfl) _ _ x ⟨x.nm,x.fr,mkB (divS oneB x.ra),x.ex⟩ k 2 _ (by simp;omega) (by decide) rfl]
    exact set_flat (enc:=Sh.cells) (m:=4) (fun _ => rfl) _ _ ⟨x.nm,x.fr,mkB (divS oneB x.ra),x.ex⟩ (inv x) k 3 (.string (mkB (divS (invM x) x.ra))) (by simp;omega) (by decide) rfl
   have hst:RSt wr wr 24 4 g B0 l.length capC ((upTo inv l k).flatMap Sh.cells):=RSt.start hown
   obtain ⟨os0,hos0⟩:∃ os,os=(upTo inv l k).flatMap Sh.cells:=⟨_,rfl⟩
   have hol:os0.length=l.length * 4:=by rw [hos0,flat_length Sh.cells 4 (fun _ => rfl),upTo_len]
   rw [← hos0] at hst HOs
   clear hos0 hown
   have HEk:Hid (kept (divE oneB x.ra) (mulE x.ex negB) ≠ 0→invE x=kept (divE oneB x.ra) (mulE x.ex negB)):=inv_kept
   have HEz:Hid (kept (divE oneB x.ra) (mulE x.ex negB)=0→invE x=divE (invM x) x.ra):=inv_kept_zero
   have hm3:=Nat.le_trans (mulS_size x.ex negB) (show 2010≤1000000 by decide)
   have C1:Hid (∀ W,Calls Tryz.prog 34 #[.string ⟨#[49]⟩,.string x.ra] W fun e w' => e = .returned (.tuple #[.string (mkB (divS oneB x.ra)),.int .i64 (divE oneB x.ra)])∧Below W.heap.size W w'):=fun W => (ratdiv_any oneB x.ra W (by decide) s1).mono fun _ _ h => h.val
   have C2:Hid (∀ W,Calls Tryz.prog 31 #[.string x.ex,.string ⟨#[45,49]⟩] W fun e w' => e = .returned (.tuple #[.string (invM x),.int .i64 (mulE x.ex negB)])∧Below W.heap.size W w'):=fun W => (ratmul_any x.ex negB W s2 (by decide)).mono fun _ _ h => h.val
   have C3:Hid (∀ W,Calls Tryz.prog 34 #[.string (invM x),.string x.ra] W fun e w' => e = .returned (.tuple #[.string (mkB (divS (invM x) x.ra)),.int .i64 (divE (invM x) x.ra)])∧Below W.heap.size W w'):=fun W => (ratdiv_any (invM x) x.ra W hm3 s1).mono fun _ _ h => h.val
   clear hx s1 s2 hm3
   generalize mkB (divS oneB x.ra)=r1 at C1 HOs
   generalize mkB (divS (invM x) x.ra)=r3 at C3 HOs
   generalize invM x=r2 at C2 C3 HEz
   generalize divE oneB x.ra=n1 at C1 HEk HEz
   generalize mulE x.ex negB=n2 at C2 HEk HEz
   generalize divE r2 x.ra=n3 at C3 HEz
   have HO1:Hid (∀ W e os,ISt wr W g (wr.heap.size) (wr.heap.size+1) B0 l.length capC x e os→Calls Tryz.prog 27 #[.int .i64 1] W fun y w' => y = .returned (.string ⟨#[49]⟩)∧ISt wr w' g (wr.heap.size) (wr.heap.size+1) B0 l.length capC x e os∧w'.cell? ⟨wr.heap.size,2,none⟩=some (.string x.ra)∧w'.cell? ⟨wr.heap.size,3,none⟩=some (.string x.ex)):=by
    intro W e os hst
    refine (rof_one W).mono ?_
    rintro y w' ⟨rfl,hb⟩
    have h:=hst.ext hb
    exact ⟨rfl,h,h.bx.cell rfl,h.bx.cell rfl⟩
   have HO2:Hid (∀ W e os,ISt wr W g (wr.heap.size) (wr.heap.size+1) B0 l.length capC x e os→Calls Tryz.prog 27 #[.int .i64 (-1)] W fun y w' => y = .returned (.string ⟨#[45,49]⟩)∧ISt wr w' g (wr.heap.size) (wr.heap.size+1) B0 l.length capC x e os∧w'.cell? ⟨wr.heap.size,2,none⟩=some (.string x.ra)∧w'.cell? ⟨wr.heap.size,3,none⟩=some (.string x.ex)):=by
    intro W e os hst
    refine (rof_neg W).mono ?_
    rintro y w' ⟨rfl,hb⟩
    have h:=hst.ext hb
    exact ⟨rfl,h,h.bx.cell rfl,h.bx.cell rfl⟩
   have HD1:Hid (∀ W e os,ISt wr W g (wr.heap.size) (wr.heap.size+1) B0 l.length capC x e os→Calls Tryz.prog 34 #[.string ⟨#[49]⟩,.string x.ra] W fun y w' => y = .returned (.tuple #[.string r1,.int .i64 n1])∧ISt wr w' g (wr.heap.size) (wr.heap.size+1) B0 l.length capC x e os∧w'.cell? ⟨wr.heap.size,2,none⟩=some (.string x.ra)∧w'.cell? ⟨wr.heap.size,3,none⟩=some (.string x.ex)):=by
    intro W e os hst
    refine (C1.out W).mono ?_
    rintro y w' ⟨rfl,hb⟩
    have h:=hst.ext hb
    exact ⟨rfl,h,h.bx.cell rfl,h.bx.cell rfl⟩
   have HM2:Hid (∀ W e os,ISt wr W g (wr.heap.size) (wr.heap.size+1) B0 l.length capC x e os→Calls Tryz.prog 31 #[.string x.ex,.string ⟨#[45,49]⟩] W fun y w' => y = .returned (.tuple #[.string r2,.int .i64 n2])∧ISt wr w' g (wr.heap.size) (wr.heap.size+1) B0 l.length capC x e os∧w'.cell? ⟨wr.heap.size,2,none⟩=some (.string x.ra)∧w'.cell? ⟨wr.heap.size,3,none⟩=some (.string x.ex)):=by
    intro W e os hst
    refine (C2.out W).mono ?_
    rintro y w' ⟨rfl,hb⟩
    have h:=hst.ext hb
    exact ⟨rfl,h,h.bx.cell rfl,h.bx.cell rfl⟩
   have HD3:Hid (∀ W e os,ISt wr W g (wr.heap.size) (wr.heap.size+1) B0 l.length capC x e os→Calls Tryz.prog 34 #[.string r2,.string x.ra] W fun y w' => y = .returned (.tuple #[.string r3,.int .i64 n3])∧ISt wr w' g (wr.heap.size) (wr.heap.size+1) B0 l.length capC x e os∧w'.cell? ⟨wr.heap.size,2,none⟩=some (.string x.ra)∧w'.cell? ⟨wr.heap.size,3,none⟩=some (.string x.ex)):=by
    intro W e os hst
    refine (C3.out W).mono ?_
    rintro y w' ⟨rfl,hb⟩
    have h:=hst.ext hb
    exact ⟨rfl,h,h.bx.cell rfl,h.bx.cell rfl⟩
   have HG:Hid (∀ W e os r n,os.length=l.length * 4→ISt wr W g (wr.heap.size) (wr.heap.size+1) B0 l.length capC x e os→Calls Tryz.prog 33 #[.pointer (some ⟨wr.heap.size+1,0,none⟩),.string r,.int .i64 n] W fun y w' => y = .returned (.string r)∧ISt wr w' g (wr.heap.size) (wr.heap.size+1) B0 l.length capC x (kept e n) os∧w'.cell? ⟨wr.heap.size,2,none⟩=some (.string x.ra)∧w'.cell? ⟨wr.heap.size,3,none⟩=some (.string x.ex)∧(∃ u2,w'.cell? ⟨g,k * 4+2,none⟩=some u2)∧(∃ u3,w'.cell? ⟨g,k * 4+3,none⟩=some u3)∧w'.frozen? ⟨g,k * 4+2,none⟩=false∧w'.frozen? ⟨g,k * 4+3,none⟩=false):=by
    intro W e os r n hl hst
    refine (got_any (wr.heap.size+1) r e n W hst.bk).mono ?_
    rintro y w' ⟨rfl,hb,ho,hbe,hsz⟩
    have h:=hst.got (by omega) (by omega) (by omega) hb ho hbe hsz
    exact ⟨rfl,h,h.bx.cell rfl,h.bx.cell rfl,⟨_,h.r.at (List.getElem?_eq_getElem (by omega))⟩,⟨_,h.r.at (List.getElem?_eq_getElem (by omega))⟩,h.r.ice _,h.r.ice _⟩
   have s0:ISt wr ((wr.alloc (.cells #[.string x.nm,.int .i64 x.fr,.string x.ra,.string x.ex] 24)).alloc (.cells #[.int .i64 0] 86)) g wr.heap.size (wr.heap.size+1) B0 l.length capC x 0 os0:=by
    refine ⟨(hst.alloc _).alloc _,(BoxN.new wr x.cells 24).alloc _,?_⟩
    have h:=BoxN.new (wr.alloc (.cells #[.string x.nm,.int .i64 x.fr,.string x.ra,.string x.ex] 24)) [.int .i64 0] 86
    simp at h
    exact h
   have k1:wr.cell? ⟨w2.heap.size,0,none⟩=some (.slice (some ⟨g,0,none⟩) l.length capC):=bO.cell rfl
   have hgr:g < wr.heap.size:=by omega
   clear hst C1 C2 C3
   go_upto_region 9 with fail
   obtain ⟨Wt,hWt⟩:∃ Wt,Wt=((wr.alloc (.cells #[.string x.nm,.int .i64 x.fr,.string x.ra,.string x.ex] 24)).alloc (.cells #[.int .i64 0] 86)):=⟨_,rfl⟩
   rw [← hWt] at s0 ⊢
   clear hWt hc1 hc2 hc3 hc4 k1
   have s1:=s0.ext (W':=Wt.drew) ((Below.refl _ _).drew)
   have p2:Wt.drew.cell? ⟨wr.heap.size,2,none⟩=some (.string x.ra):=s1.bx.cell rfl
   clear s0
   go_region_held3 (fun w' => w'.cell? ⟨wr.heap.size,2,none⟩=some (.string x.ra))
    (first | assumption | go_keep | (rw [World.cell?_setCell_far _ _ _ _ (by show g ≠ wr.heap.size;omega)];assumption))
    (first | (go_at_call 27;refine (HO1.out _ _ _ s1).mono ?_;rintro y w4 ⟨rfl,s4,a2,a3⟩) | (go_at_call 34;refine (HD1.out _ _ _ s4).mono ?_;rintro y w5 ⟨rfl,s5,b2,b3⟩) | (go_at_call 33;refine (HG.out _ _ _ _ _ hol s5).mono ?_;rintro y w6 ⟨rfl,s6,d2,d3,⟨u2,d4⟩,⟨u3,d5⟩,d6,d7⟩))
   have t1:=s6.set (by omega) (by omega) (k * 4+2) (.string r1)
   obtain ⟨W9,hW9⟩:∃ W9,W9=w6.setCell ⟨g,k * 4+2,none⟩ (.string r1):=⟨_,rfl⟩
   rw [← hW9] at t1 ⊢
   clear hW9 s1 s4 s5 s6 d2 d3 d4 d5 d6 d7 a2 a3 b2 b3 p2
   have hol1:(os0.set (k * 4+2) (.string r1)).length=l.length * 4:=by rw [List.length_set];exact hol
   obtain ⟨os1,hos1⟩:∃ os1,os1=os0.set (k * 4+2) (.string r1):=⟨_,rfl⟩
   rw [← hos1] at t1 hol1 HOs
   clear hos1 hol
   rw [kept_zero] at t1
   go_wp2
   have s1:=t1.ext (W':=W9.drew) ((Below.refl _ _).drew)
   have p3:W9.drew.cell? ⟨wr.heap.size,3,none⟩=some (.string x.ex):=s1.bx.cell rfl
   clear t1
   go_region_held3 (fun w' => w'.cell? ⟨wr.heap.size,3,none⟩=some (.string x.ex))
    (first | assumption | go_keep)
    (first | (go_at_call 27;refine (HO2.out _ _ _ s1).mono ?_;rintro y w4 ⟨rfl,s4,a2,a3⟩) | (go_at_call 31;refine (HM2.out _ _ _ s4).mono ?_;rintro y w5 ⟨rfl,s5,b2,b3⟩) | (go_at_call 33;refine (HG.out _ _ _ _ _ hol1 s5).mono ?_;rintro y w6 ⟨rfl,s6,d2,d3,⟨u2,d4⟩,⟨u3,d5⟩,d6,d7⟩))
   clear s1 s4 s5 a2 a3 b2 b3 p3 d4 d5 d6 d7 HO1 HO2 HD1 HM2
   have d8:w6.cell? ⟨wr.heap.size+1,0,none⟩=some (.int .i64 (kept n1 n2)):=s6.bk.cell rfl
   by_cases hE:kept n1 n2=0
   ·rw [hE] at s6 d8
    go_wp2_with fail
    refine (HD3.out _ _ _ s6).mono ?_
    rintro y w7 ⟨rfl,s7,b2,b3⟩
    clear d8 d2 d3
    go_wp2_with fail
    refine (HG.out _ _ _ _ _ hol1 s7).mono ?_
    rintro y w8 ⟨rfl,s8,d2,d3,⟨u2,d4⟩,⟨u3,d5⟩,d6,d7⟩
    rw [kept_zero] at s8
    have t8:=s8.set (by omega) (by omega) (k * 4+3) (.string r3)
    have d8:(w8.setCell ⟨g,k * 4+3,none⟩ (.string r3)).cell? ⟨wr.heap.size+1,0,none⟩=some (.int .i64 n3):=t8.bk.cell rfl
    have HT:=Lib.hid t8
    clear s6 s7 s8 t8 b2 b3 HD3 HG
    by_cases h3:n3=0
    ·have hxe:invE x=0:=(HEz.out hE).trans h3
     have HI2:Hid (errs ((l.take (k+1)).map invE)=0):=errs_take_map_snoc HX.out HI.out hxe
     have t1:(n3 != 0)=false:=by rw [h3];rfl
     have HTt:=HT.out
     rw [HOs.out] at HTt
     have bO2:=HTt.r.box bO (by omega)
     have bR2:=HTt.r.box bR (by omega)
     have hbr2:=HTt.r.below hbr (by omega) hg0
     have own2:=HTt.r.own
     clear hxe h3 hE bO bR hbr hbel HTt HT
     go_wp2
     go_roundw
     case rel => exact ⟨k+1,by omega,by go_num,HI2,own2,hbr2,bO2,bR2⟩
     case measure => simp [intOf];omega
    ·have hxe:=HEz.out hE
     obtain ⟨e1,e2⟩:=HNum.out k x HX.out HI.out (by rw [hxe];exact h3)
     have t1:(n3 != 0)=true:=by rw [bne_iff_ne];exact h3
     obtain ⟨W8,hW8⟩:∃ W8,W8=w8.setCell ⟨g,k * 4+3,none⟩ (.string r3):=⟨_,rfl⟩
     have HT8:=HT
     have d9:=d8
     rw [← hW8] at HT8 d9
     have bRz:=HT8.out.r.box bR (by omega)
     have hbz:=HT8.out.r.below hbel (by omega) (by omega)
     have q0:W8.cell? ⟨w.heap.size+1,0,none⟩=some (.slice none 0 0):=bRz.cell rfl
     have z0:=bRz.frozen 0
     have HS:Hid (BoxN ((W8.setCell ⟨w.heap.size+1,0,none⟩ (.slice none 0 0)).drew) (w.heap.size+1) 28 [.slice none 0 0]):=BoxN.of_block (bRz.set 0 (.slice none 0 0)) rfl
     have HW:Hid (ScnPost w (inverseE l) (inverseL l) (.returned (.tuple #[.agg #[.slice none 0 0],.int .i64 n3])) ((W8.setCell ⟨w.heap.size+1,0,none⟩ (.slice none 0 0)).drew)):=by
      show ScnPost _ _ _ _ _
      rw [e1,e2,hxe]
      exact scnPost_none (hbz.setCell (p:=⟨w.heap.size+1,0,none⟩) (by show _≤_+1;omega) (.slice none 0 0)).drew
     clear bR bRz hbz bO hbr hbel HT8 HT h3 hE hxe e1 e2
     go_wp2
     rw [← hW8]
     clear hW8
     go_region
     go_wp2
     obtain ⟨W3,hW3⟩:∃ W3,W3=((W8.setCell ⟨w.heap.size+1,0,none⟩ (.slice none 0 0)).drew):=⟨_,rfl⟩
     rw [← hW3]
     rw [← hW3] at HS HW
     have cz0:W3.cell? ⟨w.heap.size+1,0,none⟩=some (.slice none 0 0):=HS.out.cell rfl
     refine bodyPost_ret (v:=.tuple #[.agg #[.slice none 0 0],.int .i64 n3]) (by simp [results,Tryz.results9,go_sem,cz0]) rfl HW.out
   ·have hxe:=HEk.out hE
    obtain ⟨e1,e2⟩:=HNum.out k x HX.out HI.out (by rw [hxe];exact hE)
    generalize kept n1 n2=nE at *
    have t1:(nE == 0)=false:=by rw [beq_eq_false_iff_ne];exact hE
    have t2:(nE != 0)=true:=by rw [bne_iff_ne];exact hE
    have bRz:=s6.r.box bR (by omega)
    have hbz:=s6.r.below hbel (by omega) (by omega)
    have q0:w6.cell? ⟨w.heap.size+1,0,none⟩=some (.slice none 0 0):=bRz.cell rfl
    have z0:=bRz.frozen 0
    have HS:Hid (BoxN ((w6.setCell ⟨w.heap.size+1,0,none⟩ (.slice none 0 0)).drew) (w.heap.size+1) 28 [.slice none 0 0]):=BoxN.of_block (bRz.set 0 (.slice none 0 0)) rfl
    have HW:Hid (ScnPost w (inverseE l) (inverseL l) (.returned (.tuple #[.agg #[.slice none 0 0],.int .i64 nE])) ((w6.setCell ⟨w.heap.size+1,0,none⟩ (.slice none 0 0)).drew)):=by
     show ScnPost _ _ _ _ _
     rw [e1,e2,hxe]
     exact scnPost_none (hbz.setCell (p:=⟨w.heap.size+1,0,none⟩) (by show _≤_+1;omega) (.slice none 0 0)).drew
    clear bR bRz hbz bO hbr hbel s6 hE hxe e1 e2
    go_wp2
    go_region
    go_wp2
    obtain ⟨W3,hW3⟩:∃ W3,W3=((w6.setCell ⟨w.heap.size+1,0,none⟩ (.slice none 0 0)).drew):=⟨_,rfl⟩
    rw [← hW3]
    rw [← hW3] at HS HW
    have cz0:W3.cell? ⟨w.heap.size+1,0,none⟩=some (.slice none 0 0):=HS.out.cell rfl
    refine bodyPost_ret (v:=.tuple #[.agg #[.slice none 0 0],.int .i64 nE]) (by simp [results,Tryz.results9,go_sem,cz0]) rfl HW.out
  ·obtain rfl:k=l.length:=by omega
   have hI:=HI.out
   rw [List.take_length] at hI
   rw [upTo_end] at hown
   obtain ⟨e1,e2⟩:=HOk.out hI
   have q0:wr.cell? ⟨w.heap.size+1,0,none⟩=some (.slice none 0 0):=bR.cell rfl
   have z0:=bR.frozen 0
   have r0:wr.cell? ⟨w2.heap.size,0,none⟩=some (.slice adC l.length capC):=bO.cell rfl
   have HS:=Lib.hid (bR.set 0 (.slice adC l.length capC))
   have HW:Hid (ScnPost w (inverseE l) (inverseL l) (.returned (.tuple #[.agg #[.slice adC l.length capC],.int .i64 0])) (wr.setCell ⟨w.heap.size+1,0,none⟩ (.slice adC l.length capC))):=by
    show ScnPost _ _ _ _ _
    rw [e1,e2]
    refine ⟨adC,capC,by rw [List.length_map],?_,hbel.setCell (p:=⟨w.heap.size+1,0,none⟩) (by show _≤_+1;omega) _⟩
    rw [List.length_map]
    exact ownsRow_base' (ownsRow_setCell_below hown (a:=⟨w.heap.size+1,0,none⟩) (by show w.heap.size+1 < B0;omega) _) (by omega)
   clear e1 e2 hI hown hbel bO bR
   go_wp2
   obtain ⟨W3,hW3⟩:∃ W3,W3=(wr.setCell ⟨w.heap.size+1,0,none⟩ (.slice adC l.length capC)):=⟨_,rfl⟩
   rw [← hW3]
   rw [← hW3] at HS HW
   have cz0:W3.cell? ⟨w.heap.size+1,0,none⟩=some (.slice adC l.length capC):=HS.out.cell rfl
   refine bodyPost_ret (v:=.tuple #[.agg #[.slice adC l.length capC],.int .i64 0]) (by simp [results,Tryz.results9,go_sem,cz0]) rfl HW.out
theorem inverse_any (l:List Sh) (ad:Option Addr) (cap:Nat) (w:World) (hl:l.length≤1100000)
  (hr:Rd Sh.cells 4 w ad l) (sr:Sl w (.slice ad l.length cap) 4 l.length (l.flatMap Sh.cells)) (had:ad=none→cap=0) (hs:∀ x ∈ l,x.small∧x.ra.size≤1000000∧x.ex.size≤1000000) :
  Calls Tryz.prog 9 #[.agg #[.slice ad l.length cap]] w (ScnPost w (inverseE l) (inverseL l)):=by
 have HV:=Lib.hid (fun W (h:Below w.heap.size w W) => scnChk_any l ad cap W hl (hr.below h) (fun x hx => (hs x hx).1))
 have HC:=Lib.hid (fun W (h:Below w.heap.size w W) => cloneSh_any l ad cap W hl (sr.below h) had)
 cases hv:scnB l with
 | false => exact inverse_no l ad cap w HV hv
 | true => exact inverse_yes l ad cap w hl HV HC hv hr (fun x hx => (hs x hx).2)
end Go.Proofs.YthdeijdimfjceaaGreatDoor

namespace Go.Proofs.YthdeijdimfjceaaGreatDoor
open Go.RowKit
theorem eqv_fx (f g:Fx) (w:World):(Op.equalIn 10000 37 (.agg #[.string f.nm,.int .i64 f.d,.string f.vl]) (.agg #[.string g.nm,.int .i64 g.d,.string g.vl])).run Tryz.prog w = .ok (eqB (f=g)) w:=by
 have hS:Tryz.prog.underlying 37=some (.struct (Tryz.prog.fieldsOf 37)):=by kernel_rfl
 have hp:Tryz.prog.stoodInHeld 37=false:=by kernel_rfl
 rw [show (10000:Nat)=9999+1 from rfl,run_equalIn_agg w 9999 _ _ _ hS hp]
 simp only [Program.fieldsOf,Tryz.underlying37]
 have hE:eqB (f=g)=(if f.nm.toList=g.nm.toList then if f.d=g.d then if f.vl.toList=g.vl.toList then true else false else false else false):=by
  obtain ⟨a,b,c⟩:=f
  obtain ⟨a',b',c'⟩:=g
  simp only [toList_eq_iff]
  by_cases h1:a=a'
  ·by_cases h2:b=b'
   ·by_cases h3:c=c'
    ·subst h1 h2 h3;simp [eqB_true]
    ·rw [eqB_false (by simp [h3])];simp [h3]
   ·rw [eqB_false (by simp [h2])];simp [h2]
  ·rw [eqB_false (by simp [h1])];simp [h1]
 rw [hE]
 clear hE
 go_simp
 split <;> (try split) <;> (try split) <;> simp [*]
theorem eqv_ch (f g:Ch) (w:World):(Op.equalIn 10000 80 (.agg #[.string f.pt,.string f.nm,.int .i64 f.d,.bool f.first]) (.agg #[.string g.pt,.string g.nm,.int .i64 g.d,.bool g.first])).run Tryz.prog w = .ok (eqB (f=g)) w:=by
 have hS:Tryz.prog.underlying 80=some (.struct (Tryz.prog.fieldsOf 80)):=by kernel_rfl
 have hp:Tryz.prog.stoodInHeld 80=false:=by kernel_rfl
 rw [show (10000:Nat)=9999+1 from rfl,run_equalIn_agg w 9999 _ _ _ hS hp]
 simp only [Program.fieldsOf,Tryz.underlying80]
 have hE:eqB (f=g)=(if f.pt.toList=g.pt.toList then if f.nm.toList=g.nm.toList then if f.d=g.d then if f.first=g.first then true else false else false else false else false):=by
  obtain ⟨a,b,c,d⟩:=f
  obtain ⟨a',b',c',d'⟩:=g
  simp only [toList_eq_iff]
  by_cases h1:a=a'
  ·by_cases h2:b=b'
   ·by_cases h3:c=c'
    ·by_cases h4:d=d'
     ·subst h1 h2 h3 h4;simp [eqB_true]
     ·rw [eqB_false (by simp [h4])];simp [h4]
    ·rw [eqB_false (by simp [h3])];simp [h3]
   ·rw [eqB_false (by simp [h2])];simp [h2]
  ·rw [eqB_false (by simp [h1])];simp [h1]
 rw [hE]
 clear hE
 go_simp
 split <;> (try split) <;> (try split) <;> (try split) <;> simp [*]
set_option maxHeartbeats 4000000 in
set_option maxRecDepth 100000 in
theorem same_loop (fa fb:List Fx) (ca cb:List Ch) (a1 a2 a3 a4:Option Addr) (c1 c2 c3 c4:Nat) (w:World) (hn:fa.length≤1100000) (hm:ca.length≤1100000) (_hn2:fb.length≤1100000) (_hm2:cb.length≤1100000)
  (hfa:Rd Fx.cells 3 w a1 fa) (hca:Rd Ch.cells 4 w a2 ca) (hfb:Rd Fx.cells 3 w a3 fb) (hcb:Rd Ch.cells 4 w a4 cb) (hl1:fa.length=fb.length) (hl2:ca.length=cb.length) :
  Calls Tryz.prog 17 #[.agg #[.slice a1 fa.length c1,.slice a2 ca.length c2],.agg #[.slice a3 fb.length c3,.slice a4 cb.length c4]] w fun e w' => e = .returned (.bool (eqB (fa=fb∧ca=cb)))∧Below w.heap.size w w':=by
 have hbw:=fun a b => below_a2 w a b
 have t1:((fa.length:Int) != (fb.length:Int))=false:=by rw [bne_eq_false_iff_eq];omega
 have t2:((ca.length:Int) != (cb.length:Int))=false:=by rw [bne_eq_false_iff_eq];omega
 have t3:(fa.length != fb.length)=false:=by rw [bne_eq_false_iff_eq];omega
 have t4:(ca.length != cb.length)=false:=by rw [bne_eq_false_iff_eq];omega
 have t5:(fa.length == fb.length)=true:=by rw [beq_iff_eq];omega
 have t6:(ca.length == cb.length)=true:=by rw [beq_iff_eq];omega
 have HL1:=Lib.hid hl1
 have HL2:=Lib.hid hl2
 have Rfa:=Lib.hid hfa
 have Rca:=Lib.hid hca
 have Rfb:=Lib.hid hfb
 have Rcb:=Lib.hid hcb
 clear hfa hca hfb hcb hl1 hl2
 go_enter Tryz.func17,Tryz.ntmps17
 go_upto_block 0 with fail
 clear t1 t2 t3 t4 t5 t6
 go_cut [5] from 23 to 40 (fun _ wc => Hid (fa=fb)∧Below w.heap.size w wc∧(wc.cell? ⟨w.heap.size,0,none⟩=some (.slice a1 fa.length c1)∧wc.cell? ⟨w.heap.size,1,none⟩=some (.slice a2 ca.length c2)∧wc.cell? ⟨w.heap.size+1,0,none⟩=some (.slice a3 fb.length c3)∧wc.cell? ⟨w.heap.size+1,1,none⟩=some (.slice a4 cb.length c4)))
 case first =>
  go_wp2_with fail
  go_loopw [5] (fun i wr => ∃ k:Nat,k≤fa.length∧i = .int .i64 k∧Hid (fa.take k=fb.take k)∧Below w.heap.size w wr∧(wr.cell? ⟨w.heap.size,0,none⟩=some (.slice a1 fa.length c1)∧wr.cell? ⟨w.heap.size,1,none⟩=some (.slice a2 ca.length c2)∧wr.cell? ⟨w.heap.size+1,0,none⟩=some (.slice a3 fb.length c3)∧wr.cell? ⟨w.heap.size+1,1,none⟩=some (.slice a4 cb.length c4))) (fun i _ => fa.length - (intOf i).toNat)
  case atStart => exact ⟨0,Nat.zero_le _,rfl,Lib.hid rfl,hbw _ _,by go_simp,by go_simp,by go_simp,by go_simp⟩
  case round =>
   obtain ⟨k,hk,rfl,Hall,hbel,b0,b1,b2,b3⟩:=hrel
   by_cases hlt:k < fa.length
   ·obtain ⟨f,hf⟩:∃ f,fa[k]? = some f:=⟨_,List.getElem?_eq_getElem hlt⟩
    have hlt2:k < fb.length:=by have:=HL1.out;omega
    obtain ⟨g,hg⟩:∃ g,fb[k]? = some g:=⟨_,List.getElem?_eq_getElem hlt2⟩
    have HRf:=((Rfa.out.below hbel).fx hf)
    have HRg:=((Rfb.out.below hbel).fx hg)
    have HF:=Lib.hid hf
    have HG:=Lib.hid hg
    clear hf hg
    obtain ⟨b,off,rfl,hc1,hc2,hc3⟩:=HRf
    obtain ⟨b',off',rfl,hd1,hd2,hd3⟩:=HRg
    have hk1:(0:Int)≤(k:Int):=by omega
    have hk2:(k:Int) < (fa.length:Int):=by omega
    have hk3:(k:Int) < (fb.length:Int):=by omega
    have hq:∀ W,(Op.equalIn 10000 37 (.agg #[.string f.nm,.int .i64 f.d,.string f.vl]) (.agg #[.string g.nm,.int .i64 g.d,.string g.vl])).run Tryz.prog W = .ok (eqB (f=g)) W:=fun W => eqv_fx f g W
    by_cases hfg:f=g
    ·have Hall2:Hid (fa.take (k+1)=fb.take (k+1)):=take_eq_succ HF.out (hfg ▸ HG.out) Hall.out
     rw [eqB_true hfg] at hq
     clear hfg
     go_wp2
     go_quiet (fail)
     go_wp2
     go_roundw
     case rel => exact ⟨k+1,by omega,by go_num,Hall2,below_drewN hbel _,by first | assumption | go_simp,by first | assumption | go_simp,by first | assumption | go_simp,by first | assumption | go_simp⟩
     case measure => simp [intOf];omega
    ·have HR:Hid (eqB (fa=fb∧ca=cb)=false):=eqB_false (fun h => ne_of_get HF.out HG.out hfg h.1)
     rw [eqB_false hfg] at hq
     clear hfg
     go_wp2
     go_quiet (fail)
     go_wp2
     go_ret
     exact ⟨ret_bool' HR.out.symm,below_drewN hbel _⟩
   ·obtain rfl:k=fa.length:=by omega
    have HAFx:Hid (fa=fb):=by have h:=Hall.out;rw [List.take_length,List.take_of_length_le (by have:=HL1.out;omega)] at h;exact h
    clear Hall hlt hk
    go_wp2
    go_meet
    exact ⟨HAFx,hbel,b0,b1,b2,b3⟩
 case rest =>
  obtain ⟨HAFx,hbel,b0,b1,b2,b3⟩:=hcut
  go_wp2
  go_loopw [6] (fun i wr => ∃ k:Nat,k≤ca.length∧i = .int .i64 k∧Hid (ca.take k=cb.take k)∧Below w.heap.size w wr∧(wr.cell? ⟨w.heap.size,0,none⟩=some (.slice a1 fa.length c1)∧wr.cell? ⟨w.heap.size,1,none⟩=some (.slice a2 ca.length c2)∧wr.cell? ⟨w.heap.size+1,0,none⟩=some (.slice a3 fb.length c3)∧wr.cell? ⟨w.heap.size+1,1,none⟩=some (.slice a4 cb.length c4))) (fun i _ => ca.length - (intOf i).toNat)
  case atStart => exact ⟨0,Nat.zero_le _,rfl,Lib.hid rfl,hbel,b0,b1,b2,b3⟩
  case round =>
   clear hbel b0 b1 b2 b3
   obtain ⟨k,hk,rfl,Hall,hbel,b0,b1,b2,b3⟩:=hrel
   by_cases hlt:k < ca.length
   ·obtain ⟨f,hf⟩:∃ f,ca[k]? = some f:=⟨_,List.getElem?_eq_getElem hlt⟩
    have hlt2:k < cb.length:=by have:=HL2.out;omega
    obtain ⟨g,hg⟩:∃ g,cb[k]? = some g:=⟨_,List.getElem?_eq_getElem hlt2⟩
    have HRf:=((Rca.out.below hbel).ch hf)
    have HRg:=((Rcb.out.below hbel).ch hg)
    have HF:=Lib.hid hf
    have HG:=Lib.hid hg
    clear hf hg
    obtain ⟨b,off,rfl,hc1,hc2,hc3,hc4⟩:=HRf
    obtain ⟨b',off',rfl,hd1,hd2,hd3,hd4⟩:=HRg
    have hk1:(0:Int)≤(k:Int):=by omega
    have hk2:(k:Int) < (ca.length:Int):=by omega
    have hk3:(k:Int) < (cb.length:Int):=by omega
    have hq:∀ W,(Op.equalIn 10000 80 (.agg #[.string f.pt,.string f.nm,.int .i64 f.d,.bool f.first]) (.agg #[.string g.pt,.string g.nm,.int .i64 g.d,.bool g.first])).run Tryz.prog W = .ok (eqB (f=g)) W:=fun W => eqv_ch f g W
    by_cases hfg:f=g
    ·have Hall2:Hid (ca.take (k+1)=cb.take (k+1)):=take_eq_succ HF.out (hfg ▸ HG.out) Hall.out
     rw [eqB_true hfg] at hq
     clear hfg
     go_wp2
     go_quiet (fail)
     go_wp2
     go_roundw
     case rel => exact ⟨k+1,by omega,by go_num,Hall2,below_drewN hbel _,by first | assumption | go_simp,by first | assumption | go_simp,by first | assumption | go_simp,by first | assumption | go_simp⟩
     case measure => simp [intOf];omega
    ·have HR:Hid (eqB (fa=fb∧ca=cb)=false):=eqB_false (fun h => ne_of_get HF.out HG.out hfg h.2)
     rw [eqB_false hfg] at hq
     clear hfg
     go_wp2
     go_quiet (fail)
     go_wp2
     go_ret
     exact ⟨ret_bool' HR.out.symm,below_drewN hbel _⟩
   ·obtain rfl:k=ca.length:=by omega
    have HACh:Hid (ca=cb):=by have h:=Hall.out;rw [List.take_length,List.take_of_length_le (by have:=HL2.out;omega)] at h;exact h
    clear Hall hlt hk
    go_wp2
    go_ret
    exact ⟨ret_bool' (eqB_true ⟨HAFx.out,HACh.out⟩).symm,hbel⟩
set_option maxHeartbeats 1000000 in
set_option maxRecDepth 100000 in
theorem same_any (fa fb:List Fx) (ca cb:List Ch) (a1 a2 a3 a4:Option Addr) (c1 c2 c3 c4:Nat) (w:World) (hn:fa.length≤1100000) (hm:ca.length≤1100000) (hn2:fb.length≤1100000) (hm2:cb.length≤1100000)
  (hfa:Rd Fx.cells 3 w a1 fa) (hca:Rd Ch.cells 4 w a2 ca) (hfb:Rd Fx.cells 3 w a3 fb) (hcb:Rd Ch.cells 4 w a4 cb) :
  Calls Tryz.prog 17 #[.agg #[.slice a1 fa.length c1,.slice a2 ca.length c2],.agg #[.slice a3 fb.length c3,.slice a4 cb.length c4]] w fun e w' => e = .returned (.bool (eqB (fa=fb∧ca=cb)))∧Below w.heap.size w w':=by
 by_cases hl1:fa.length=fb.length
 ·by_cases hl2:ca.length=cb.length
  ·exact same_loop fa fb ca cb a1 a2 a3 a4 c1 c2 c3 c4 w hn hm hn2 hm2 hfa hca hfb hcb hl1 hl2
  ·have HR:Hid (eqB (fa=fb∧ca=cb)=false):=eqB_false (fun h => hl2 (by rw [h.2]))
   have t1:((fa.length:Int) != (fb.length:Int))=false:=by rw [bne_eq_false_iff_eq];omega
   have t2:((ca.length:Int) != (cb.length:Int))=true:=by rw [bne_iff_ne];omega
   have t3:(fa.length == fb.length)=true:=by rw [beq_iff_eq];omega
   have t4:(ca.length == cb.length)=false:=by rw [beq_eq_false_iff_ne];omega
   clear hl1 hl2 hfa hca hfb hcb
   go_enter Tryz.func17,Tryz.ntmps17
   go_wp2
   go_ret
   exact ⟨ret_bool' HR.out.symm,below_a2 _ _ _⟩
 ·have HR:Hid (eqB (fa=fb∧ca=cb)=false):=eqB_false (fun h => hl1 (by rw [h.1]))
  have t1:((fa.length:Int) != (fb.length:Int))=true:=by rw [bne_iff_ne];omega
  have t3:(fa.length == fb.length)=false:=by rw [beq_eq_false_iff_ne];omega
  clear hl1 hfa hca hfb hcb
  go_enter Tryz.func17,Tryz.ntmps17
  go_wp2
  go_ret
  exact ⟨ret_bool' HR.out.symm,below_a2 _ _ _⟩
end Go.Proofs.YthdeijdimfjceaaGreatDoor

namespace Go.Proofs.YthdeijdimfjceaaGreatDoor
open Go.RowKit
structure Fc where
 p:World→Value→Prop
 low:∀ {w w2 v},p w v→Below w.heap.size w w2→p w2 v
def Fc.lit (u:Value):Fc:=⟨fun _ v => v=u,fun h _ => h⟩
def Fc.row (t:TypeId) (n:Nat) (l:List Value):Fc:=⟨fun w v => ∃ B,v = .slice (some ⟨B,0,none⟩) n n∧BoxN w B t l,fun h hb => by
 obtain ⟨B,e,h⟩:=h
 exact ⟨B,e,h.below hb h.lt⟩⟩
def Fc.row1 (t:TypeId) (n:Nat) (l:List Value):Fc:=⟨fun w v => ∃ B,v = .agg #[.slice (some ⟨B,0,none⟩) n n]∧BoxN w B t l,fun h hb => by
 obtain ⟨B,e,h⟩:=h
 exact ⟨B,e,h.below hb h.lt⟩⟩
def Fc.row2 (t:TypeId) (n:Nat) (l:List Value):Fc:=⟨fun w v => ∃ B,v = .agg #[.slice (some ⟨B,0,none⟩) n n,.slice none 0 0]∧BoxN w B t l,fun h hb => by
 obtain ⟨B,e,h⟩:=h
 exact ⟨B,e,h.below hb h.lt⟩⟩
structure FInv (V w:World) (Fs:List Fc) (cur:List Value) (L:Nat→Bool):Prop where
 b:Below V.heap.size V w
 h:∀ i F v,L i=true→Fs[i]? = some F→cur[i]? = some v→F.p w v
section
variable {V w w2:World} {Fs:List Fc} {cur:List Value} {L:Nat→Bool}
theorem FInv.start (hb:Below V.heap.size V w):FInv V w Fs cur (fun _ => false):=⟨hb,fun _ _ _ h => by cases h⟩
theorem FInv.step (h:FInv V w Fs cur L) (hb:Below w.heap.size w w2) {i:Nat} {F:Fc} {u:Value} (hF:Fs[i]? = some F) (hu:F.p w2 u):FInv V w2 Fs (cur.set i u) (upd L i) :=
 ⟨h.b.trans (hb.mono h.b.size),fun j G v hL hG hv => by
  by_cases hj:j=i
  ·subst hj
   rw [hF] at hG;cases hG
   have hlt:j < cur.length:=by
    rw [List.getElem?_set] at hv
    by_cases hl:j < cur.length
    ·exact hl
    ·simp [hl] at hv
   rw [List.getElem?_set_self hlt] at hv
   cases hv
   exact hu
  ·rw [List.getElem?_set_ne (fun e => hj e.symm)] at hv
   exact G.low (h.h j G v (by unfold upd at hL;rwa [if_neg hj] at hL) hG hv) hb⟩
theorem FInv.at (h:FInv V w Fs cur L) {i:Nat} {F:Fc} {v:Value} (hL:L i=true) (hF:Fs[i]? = some F) (hv:cur[i]? = some v):F.p w v:=h.h i F v hL hF hv
theorem FInv.lit (h:FInv V w Fs cur L) {i:Nat} {u v:Value} (hL:L i=true) (hF:Fs[i]? = some (.lit u)) (hv:cur[i]? = some v):v=u:=h.h i _ v hL hF hv
end
end Go.Proofs.YthdeijdimfjceaaGreatDoor
