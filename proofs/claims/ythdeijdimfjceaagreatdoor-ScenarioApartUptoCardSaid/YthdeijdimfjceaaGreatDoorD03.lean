/- A part. -/
import Derived.Test.YthdeijdimfjceaaGreatDoorD02
import Derived.Test.YthdeijdimfjceaaGreatDoorCards
import Derived.Test.YthdeijdimfjceaaGreatDoorTie
namespace Go.Proofs.YthdeijdimfjceaaGreatDoor
open Go.RowKit
theorem upd_far {L:Nat→Bool} {i j:Nat} (h:j ≠ i):upd L i j=L j:=by unfold upd;rw [if_neg h]
theorem rd_box2 {w:World} {B:Nat} {t:TypeId} {s u:ByteArray} (h:BoxN w B t [.string s,.string u]):Rd sC 1 w (some ⟨B,0,none⟩) [s,u]:=fun j x hj => by
 match j,hj with
 | 0,hj => cases hj;exact ⟨B,0,rfl,fun i v hv => by
   match i,hv with
   | 0,hv => cases hv;exact h.cell (j:=0) rfl⟩
 | 1,hj => cases hj;exact ⟨B,0,rfl,fun i v hv => by
   match i,hv with
   | 0,hv => cases hv;exact h.cell (j:=1) rfl⟩
theorem stil_small {l:List Sh} (h:ScnSz l):ScnSz (l.map stil) :=
 ⟨by rw [List.length_map];exact h.n,fun x hx => by
  obtain ⟨y,hy,rfl⟩:=List.mem_map.1 hx
  exact ⟨⟨(h.s y hy).1.1,by show 1≤1100000;decide,by show 1≤1100000;decide⟩,by show 1≤1000000;decide,by show 1≤1000000;decide⟩⟩
set_option maxHeartbeats 8000000 in
set_option maxRecDepth 100000 in
theorem apart32_any (l:List Sh) (c:Con) (es dd ss:Value) (p m:ByteArray) (day:Int) (E:EvD) (al:Option Addr) (cl:Nat) (w:World) (hl:l.length≤1100000) (hr:Rd Sh.cells 4 w al l) (sl:Sl w (.slice al l.length cl) 4 l.length (l.flatMap Sh.cells)) (hal:al=none→cl=0) (hsm:∀ x ∈ l,x.small)
  (hA:BfH c es dd ss E w) (hS:EnvS E w) (hp:p.size≤1100000) (hm:m.size≤1100000) :
  Calls Tryz.prog 6 #[.agg #[.slice al l.length cl],c.val es dd ss,.string p,.string m,.int .i64 day,E.val] w fun e w' => e = .returned (.bool true)∧Below w.heap.size w w':=by
 obtain ⟨p1,pn1,rfl⟩:=hA.rd.1.len
 obtain ⟨p2,pn2,rfl⟩:=hA.rd.2.1.len
 obtain ⟨p3,pn3,rfl⟩:=hA.rd.2.2.1.len
 obtain ⟨W0,hW0,hb0,hz0,bx⟩:=by3_world w (.slice al l.length cl) c (.slice p1 c.ex.sub.length pn1) (.slice p2 c.ds.length pn2) (.slice p3 c.sub.length pn3) E
 obtain ⟨i0,ji0,jz0,js0,jb0⟩:=info_parts info_shift
 have HX:=Lib.hid bx
 have Hb0:=Lib.hid hb0
 have HAl:=Lib.hid fun W (hb:Below w.heap.size w W) => alive32_any W (hA.frame hb).ls (hA.frame hb).lp (hA.frame hb).lo
 have HG:Hid (∀ W,Below w.heap.size w W→∀ B,BoxN W B 28 [.slice al l.length cl]→Calls Tryz.prog 21 #[.slice (some ⟨B,0,none⟩) 1 1,.agg #[.int .u8 c.k,.string c.fr,.string c.rc,.string c.nm,.int .u8 c.ex.k,.string c.ex.ra,.string c.ex.nm,.int .i64 c.ex.d,.slice p1 c.ex.sub.length pn1,.int .i64 c.d,.slice p2 c.ds.length pn2,.slice p3 c.sub.length pn3],.string p,.string m,.agg #[.slice E.af E.F.length E.cf,.slice E.ac E.C.length E.cc]] W (GrP W (GrOk [l] p m E))):=Lib.hid fun W hb B hB => great32_any [l] c _ _ _ p m E (some ⟨B,0,none⟩) 1 W (by show 1≤1100000;decide) (rdS_one hB (hr.below hb)) (fun s hs => by obtain rfl:=List.mem_singleton.1 hs;exact ⟨hl,hsm⟩) (by have:=hA.bulk;omega) (hA.frame hb).rd (hA.frame hb).e hA.fs hA.cs
 have HVa:Hid (∀ W,Below w.heap.size w W→Calls Tryz.prog 13 #[.agg #[.int .u8 c.k,.string c.fr,.string c.rc,.string c.nm,.int .u8 c.ex.k,.string c.ex.ra,.string c.ex.nm,.int .i64 c.ex.d,.slice p1 c.ex.sub.length pn1,.int .i64 c.d,.slice p2 c.ds.length pn2,.slice p3 c.sub.length pn3],.string p,.string m,.int .i64 day,.agg #[.slice E.af E.F.length E.cf,.slice E.ac E.C.length E.cc]] W (ConP W (conR c p m day E.F E.C))):=Lib.hid fun W hb => value32_any c _ _ _ p m day E W (hA.frame hb) hp hm
 have HLg:Hid (GrOk [l] p m E→∀ W,Below w.heap.size w W→∀ L ad n,L.length≤1100000→(∀ s ∈ L,ScnSz s)→RdS W ad L→Calls Tryz.prog 15 #[.slice ad L.length n,.agg #[.int .u8 c.k,.string c.fr,.string c.rc,.string c.nm,.int .u8 c.ex.k,.string c.ex.ra,.string c.ex.nm,.int .i64 c.ex.d,.slice p1 c.ex.sub.length pn1,.int .i64 c.d,.slice p2 c.ds.length pn2,.slice p3 c.sub.length pn3],.string p,.string m,.int .i64 day,.agg #[.slice E.af E.F.length E.cf,.slice E.ac E.C.length E.cc]] W (LosQ W (losE L c p m day E.F E.C) (losL L c p m day E.F E.C))):=Lib.hid fun h W hb L ad n hn hz hrs => (losses_any L c _ _ _ p m day E ad n W hn hrs hz (hA.frame hb) (hS.frame hb) h.v hp hm).mono fun _ _ h => h.q
 have HDp:Hid (∀ W,Below w.heap.size w W→Calls Tryz.prog 25 #[.agg #[.int .u8 c.k,.string c.fr,.string c.rc,.string c.nm,.int .u8 c.ex.k,.string c.ex.ra,.string c.ex.nm,.int .i64 c.ex.d,.slice p1 c.ex.sub.length pn1,.int .i64 c.d,.slice p2 c.ds.length pn2,.slice p3 c.sub.length pn3],.agg #[.slice al l.length cl]] W fun e w' => e = .returned (.bool (depB l c))∧Below W.heap.size W w'):=Lib.hid fun W hb => depends_any l al cl hl c.bulk c _ _ _ W (Nat.le_refl _) (by have:=hA.bulk;omega) (hA.frame hb).rd (hr.below hb)
 have HR:=Lib.hid (And.intro hr (And.intro sl hal))
 obtain ⟨n,hn⟩:∃ n,l.length=n:=⟨_,rfl⟩
 have HNn:=Lib.hid hn
 rw [hn] at HX HG HDp hl hW0
 show Calls _ _ #[.agg #[.slice al l.length cl],.agg #[.int .u8 c.k,.string c.fr,.string c.rc,.string c.nm,.int .u8 c.ex.k,.string c.ex.ra,.string c.ex.nm,.int .i64 c.ex.d,.slice p1 c.ex.sub.length pn1,.int .i64 c.d,.slice p2 c.ds.length pn2,.slice p3 c.sub.length pn3],.string p,.string m,.int .i64 day,.agg #[.slice E.af E.F.length E.cf,.slice E.ac E.C.length E.cc]] _ _
 rw [hn]
 clear hA bx hb0 hr sl hal hsm hS hp hm hn
 change ((w.alloc (.cells #[.slice al n cl] 28)).alloc (.cells #[.int .u8 c.k,.string c.fr,.string c.rc,.string c.nm,.int .u8 c.ex.k,.string c.ex.ra,.string c.ex.nm,.int .i64 c.ex.d,.slice p1 c.ex.sub.length pn1,.int .i64 c.d,.slice p2 c.ds.length pn2,.slice p3 c.sub.length pn3] 51)).alloc (.cells #[.slice E.af E.F.length E.cf,.slice E.ac E.C.length E.cc] 32)=W0 at hW0
 go_enter Tryz.func6,Tryz.ntmps6
 go_upto_region 1 with (fail)
 clear hW0
 go_wp2_with fail
 refine (HAl.out _ Hb0.out).mono ?_
 rintro e w1 ⟨rfl,hb1⟩
 have hx1:=HX.out.below hb1
 have Hb1:=Lib.hid (Hb0.out.trans (hb1.mono Hb0.out.size))
 obtain ⟨W2,hW2,hb2,bx2⟩:∃ W,w1.alloc (.cells #[.slice al n cl] 28)=W∧Below w1.heap.size w1 W∧BoxN W w1.heap.size 28 [.slice al n cl]:=⟨_,rfl,below_a1 _ _,BoxN.new w1 _ _⟩
 have Hb2:=Lib.hid (Hb1.out.trans (hb2.mono Hb1.out.size))
 have hx2:=hx1.below hb2
 have j14:w1.cell? ⟨w.heap.size,0,none⟩=some (.slice al n cl):=hx1.s.cell (j:=0) rfl
 obtain ⟨k0,k1,k2,k3,k4,k5,k6,k7,k8,k9,k10,k11,k12,k13,k14⟩:=hx2.all
 have HGc:=Lib.hid (HG.out W2 Hb2.out w1.heap.size bx2)
 clear HAl HG hb1 hb2 bx2 hx1
 go_wp2_with fail
 clear hW2
 refine HGc.out.mono ?_
 rintro e w3 ⟨g1,rfl,hg1,hb3⟩
 have Hb3:=Lib.hid (Hb2.out.trans (hb3.mono Hb2.out.size))
 have hx3:=hx2.below hb3
 have Hok:=Lib.hid hg1
 clear k0 k1 k2 k3 k4 k5 k6 k7 k8 k9 k10 k11 k12 k13 k14 j14 hx2 hb3 HGc hg1
 cases g1
 case true =>
  clear hx3
  go_wp2
  go_ret
  exact ⟨rfl,Hb3.out⟩
 have HOK:=Lib.hid (Hok.out rfl)
 have HL:=Lib.hid (HLg.out HOK.out)
 clear Hok HLg
 obtain ⟨W4,hW4,hb4,bx4⟩:∃ W,w3.alloc (.cells #[] 24)=W∧Below w3.heap.size w3 W∧BoxN W w3.heap.size 24 []:=⟨_,rfl,below_a1 _ _,BoxN.new w3 _ _⟩
 have hx4:=hx3.below hb4
 have j14:W4.cell? ⟨w.heap.size,0,none⟩=some (.slice al n cl):=hx4.s.cell (j:=0) rfl
 have HSl:Hid (Sl W4 (.slice al n cl) 4 n (l.flatMap Sh.cells)):=Lib.hid (by rw [← HNn.out];exact HR.out.2.1.below (Hb3.out.trans (hb4.mono Hb3.out.size)))
 have h1c:∀ u ∈ l.flatMap Sh.cells,u.oneCell'=true:=fun u hu => by
  obtain ⟨x,_,h⟩:=List.mem_flatMap.1 hu
  exact sh_oneCell x u h
 have H1c:=Lib.hid h1c
 have hbz:=hb4.size
 have HX3:=Lib.hid hx3
 clear h1c hx3
 go_wp2_with (at_builtin;refine wpList_append_new rfl _ _ 25 rfl w3.heap.size 24 i0 _ 4 56 ul_shifts ji0 jz0 js0 jb0 rfl (by decide) w3.heap.size (Nat.le_refl _) bx4 al n cl (l.flatMap Sh.cells) rfl rfl HSl.out HR.out.2.2 H1c.out (by simp only [maxLen];omega) (by omega) (by omega) ?_;intro g cap w5 hown5 hb5)
 obtain ⟨V,hV⟩:∃ V,V=w5.alloc (.cells #[.slice (some ⟨g,0,none⟩) n cap] 28):=⟨_,rfl⟩
 have hbV:Below W4.heap.size W4 W4:=Below.refl _ _
 have hSg:w5.heap.size ≠ g:=by
  have:=(hown5.lt g rfl).2
  omega
 have hbx:BoxN V w5.heap.size 28 [.slice (some ⟨g,0,none⟩) n cap]:=by rw [hV];exact BoxN.new _ _ _
 have hownV:V.ownsRow w3.heap.size 24 4 (.slice (some ⟨g,0,none⟩) n cap) n (l.flatMap Sh.cells):=by rw [hV];exact hown5.alloc _
 have hb3V:Below w3.heap.size w3 V:=by rw [hV];exact (hb4.trans hb5).alloc (by have:=(hb4.trans hb5).size;omega) _
 have hgB:=(hownV.lt g rfl).1
 have hgV:=(hownV.lt g rfl).2
 have Hrs:=Lib.hid (RSt.start hownV)
 have HbV:=Lib.hid (Hb3.out.trans (hb3V.mono Hb3.out.size))
 have HB3:=Lib.hid hb3V
 rw [← hV]
 generalize w5.heap.size=S at hSg hbx ⊢
 clear hV hown5 hb5 hb4 bx4 hW4 j14 hx4 HSl H1c hbz hbV hownV hb3V
 go_loopw [15] (fun i wr => ∃ k:Nat,k≤n∧i = .int .i64 (k:Int)∧RSt V wr 24 4 g w3.heap.size n cap ((upTo stil l k).flatMap Sh.cells)) (fun i _ => n - (intOf i).toNat)
 case atStart => exact ⟨0,Nat.zero_le _,rfl,by rw [upTo_zero];exact Hrs.out⟩
 case round =>
  obtain ⟨k,hk,rfl,hst⟩:=hrel
  by_cases hlt:k < n
  ·have q0:wr.cell? ⟨S,0,none⟩=some (.slice (some ⟨g,0,none⟩) n cap):=(hst.box hbx hSg).cell (j:=0) rfl
   have hk1:(k:Int) < (n:Int):=by omega
   go_wp2_with fail
   obtain ⟨x,hx⟩:∃ x,l[k]? = some x:=⟨_,List.getElem?_eq_getElem (by rw [HNn.out];exact hlt)⟩
   obtain ⟨X0,hX0e⟩:∃ X,X=(upTo stil l k).flatMap Sh.cells:=⟨_,rfl⟩
   obtain ⟨X1,hX1e⟩:∃ X,X=((l.take k).map stil ++ ({ x with ra:=⟨#[49]⟩ } :: l.drop (k+1))).flatMap Sh.cells:=⟨_,rfl⟩
   obtain ⟨X2,hX2e⟩:∃ X,X=(upTo stil l (k+1)).flatMap Sh.cells:=⟨_,rfl⟩
   have hA:((l.take k).map stil).length=k:=by rw [List.length_map,List.length_take];have:=HNn.out;omega
   have hX0:X0[k * 4+2]? = some (.string x.ra):=by rw [hX0e,upTo_split stil hx];exact get_flat (enc:=Sh.cells) (m:=4) (fun _ => rfl) _ _ x k 2 _ hA rfl
   have hX1:X1[k * 4+3]? = some (.string x.ex):=by rw [hX1e];exact get_flat (enc:=Sh.cells) (m:=4) (fun _ => rfl) _ _ { x with ra:=⟨#[49]⟩ } k 3 _ hA rfl
   have HX1:Hid (X0.set (k * 4+2) (.string ⟨#[49]⟩)=X1):=Lib.hid (by rw [hX0e,hX1e,upTo_split stil hx];exact set_flat (enc:=Sh.cells) (m:=4) (fun _ => rfl) _ _ x { x with ra:=⟨#[49]⟩ } k 2 _ hA (by decide) rfl)
   have HX2:Hid (X1.set (k * 4+3) (.string ⟨#[48]⟩)=X2):=Lib.hid (by rw [hX1e,hX2e,upTo_succ stil hx];exact set_flat (enc:=Sh.cells) (m:=4) (fun _ => rfl) _ _ { x with ra:=⟨#[49]⟩ } (stil x) k 3 _ hA (by decide) rfl)
   have HX2e:=Lib.hid hX2e
   rw [← hX0e] at hst
   have hk0:(0:Int)≤(k:Int):=by omega
   clear hX0e hX1e hX2e hA hx q0
   refine wp_region_invc (fun L aa w' => ∃ v0 v1 v2 v3 v4 v5 v6 v7 v8 v9 v10 v11,aa=⟨#[.agg #[.slice al n cl],.agg #[.int .u8 c.k,.string c.fr,.string c.rc,.string c.nm,.int .u8 c.ex.k,.string c.ex.ra,.string c.ex.nm,.int .i64 c.ex.d,.slice p1 c.ex.sub.length pn1,.int .i64 c.d,.slice p2 c.ds.length pn2,.slice p3 c.sub.length pn3],.string p,.string m,.int .i64 day,.agg #[.slice E.af E.F.length E.cf,.slice E.ac E.C.length E.cc],.pointer (some ⟨w.heap.size,0,none⟩),.pointer (some ⟨w.heap.size+1,0,none⟩),undef,undef,undef,.pointer (some ⟨w.heap.size+1+1,0,none⟩),.bool false,.bool true,.pointer (some ⟨S,0,none⟩),.int .i64 k,undef,undef,undef,undef,undef,undef,.bool true,.agg #[.slice al n cl],.slice (some ⟨w1.heap.size,0,none⟩) 1 1,.agg #[.int .u8 c.k,.string c.fr,.string c.rc,.string c.nm,.int .u8 c.ex.k,.string c.ex.ra,.string c.ex.nm,.int .i64 c.ex.d,.slice p1 c.ex.sub.length pn1,.int .i64 c.d,.slice p2 c.ds.length pn2,.slice p3 c.sub.length pn3],.string p,.string m,.agg #[.slice E.af E.F.length E.cf,.slice E.ac E.C.length E.cc],.bool false,.bool false,.bool true,.bool false,.bool false,undef,.slice (some ⟨w3.heap.size,0,none⟩) 0 0,.pointer (some ⟨w.heap.size,0,none⟩),.slice al n cl,.slice (some ⟨g,0,none⟩) n cap,.agg #[.slice (some ⟨g,0,none⟩) n cap],.int .i64 k,.pointer (some ⟨S,0,none⟩),.slice (some ⟨g,0,none⟩) n cap,.int .i64 n,.bool true,u45,u46,v0,v1,v2,v3,v4,v5,v6,v7,v9,v10,undef,undef,undef,undef,undef,undef,undef,undef,undef,undef,undef,undef,undef,undef,undef,undef,undef,undef,undef,undef,undef,undef,undef,undef,undef,undef,undef,undef,undef,undef,undef,undef,undef,undef,undef,undef,undef,undef,undef,undef,undef,undef,undef,undef,undef,undef,undef,undef,undef,undef,undef,undef,undef,undef,undef,undef,undef,undef,undef,undef,undef,undef,undef,undef,undef,undef,undef,undef,undef,undef,undef,undef],[]⟩∧LitI [.pointer (some ⟨S,0,none⟩),.slice (some ⟨g,0,none⟩) n cap,.int .i64 k,.pointer (some ⟨S,0,none⟩),.slice (some ⟨g,0,none⟩) n cap,.int .i64 k,.pointer (some ⟨g,k * 4,none⟩),.pointer (some ⟨g,k * 4+2,none⟩),.bool false,.pointer (some ⟨g,k * 4,none⟩),.pointer (some ⟨g,k * 4+3,none⟩),.bool false] [v0,v1,v2,v3,v4,v5,v6,v7,v8,v9,v10,v11] L∧∃ os,RSt V w' 24 4 g w3.heap.size n cap os∧(L 8=false→os=X0)∧(L 8=true→L 11=false→os=X1)∧(L 11=true→os=X2)) (by kernel_rfl) (by kernel_rfl) ?_ ?_ ?_
   ·exact ⟨_,_,_,_,_,_,_,_,.bool false,_,_,.bool false,rfl,LitI.start,X0,hst.ext (below_drewN (Below.refl _ _) 1),fun _ => rfl,(fun q => by cases q),fun q => by cases q⟩
   ·rintro L aa w' ⟨v0,v1,v2,v3,v4,v5,v6,v7,v8,v9,v10,v11,rfl,h,os,hs,h0,h1,h2⟩ hc i0 op9 ho hL hp
    have hi9:i0 < 12:=by simpa using (Array.getElem?_eq_some_iff.1 ho).1
    have hi2:i0=0∨i0=1∨i0=2∨i0=3∨i0=4∨i0=5∨i0=6∨i0=7∨i0=8∨i0=9∨i0=10∨i0=11:=by omega
    clear hi9
    rcases hi2 with rfl | rfl | rfl | rfl | rfl | rfl | rfl | rfl | rfl | rfl | rfl | rfl
    ·refine wpOp_step rfl ?_
     intro K9 hK
     go_simp
     exact hK _ _ ⟨_,_,_,_,_,_,_,_,_,_,_,_,rfl,h.step (i:=0) (u:=.pointer (some ⟨S,0,none⟩)) rfl,os,hs,(fun q => h0 (by rwa [upd_far (by decide)] at q)),(fun q r => h1 (by rwa [upd_far (by decide)] at q) (by rwa [upd_far (by decide)] at r)),fun q => h2 (by rwa [upd_far (by decide)] at q)⟩
    ·refine wpOp_step rfl ?_
     intro K9 hK
     have f0:=h.at (i:=0) (u:=.pointer (some ⟨S,0,none⟩)) (pred_spec ho hp (j:=0) (by kernel_rfl)) rfl rfl
     subst f0
     have y0:w'.cell? ⟨S,0,none⟩=some (.slice (some ⟨g,0,none⟩) n cap):=(hs.box hbx hSg).cell (j:=0) rfl
     go_simp
     exact hK _ _ ⟨_,_,_,_,_,_,_,_,_,_,_,_,rfl,h.step (i:=1) (u:=.slice (some ⟨g,0,none⟩) n cap) rfl,os,hs,(fun q => h0 (by rwa [upd_far (by decide)] at q)),(fun q r => h1 (by rwa [upd_far (by decide)] at q) (by rwa [upd_far (by decide)] at r)),fun q => h2 (by rwa [upd_far (by decide)] at q)⟩
    ·refine wpOp_step rfl ?_
     intro K9 hK
     go_simp
     exact hK _ _ ⟨_,_,_,_,_,_,_,_,_,_,_,_,rfl,h.step (i:=2) (u:=.int .i64 k) rfl,os,hs,(fun q => h0 (by rwa [upd_far (by decide)] at q)),(fun q r => h1 (by rwa [upd_far (by decide)] at q) (by rwa [upd_far (by decide)] at r)),fun q => h2 (by rwa [upd_far (by decide)] at q)⟩
    ·refine wpOp_step rfl ?_
     intro K9 hK
     go_simp
     exact hK _ _ ⟨_,_,_,_,_,_,_,_,_,_,_,_,rfl,h.step (i:=3) (u:=.pointer (some ⟨S,0,none⟩)) rfl,os,hs,(fun q => h0 (by rwa [upd_far (by decide)] at q)),(fun q r => h1 (by rwa [upd_far (by decide)] at q) (by rwa [upd_far (by decide)] at r)),fun q => h2 (by rwa [upd_far (by decide)] at q)⟩
    ·refine wpOp_step rfl ?_
     intro K9 hK
     have f3:=h.at (i:=3) (u:=.pointer (some ⟨S,0,none⟩)) (pred_spec ho hp (j:=3) (by kernel_rfl)) rfl rfl
     subst f3
     have y0:w'.cell? ⟨S,0,none⟩=some (.slice (some ⟨g,0,none⟩) n cap):=(hs.box hbx hSg).cell (j:=0) rfl
     go_simp
     exact hK _ _ ⟨_,_,_,_,_,_,_,_,_,_,_,_,rfl,h.step (i:=4) (u:=.slice (some ⟨g,0,none⟩) n cap) rfl,os,hs,(fun q => h0 (by rwa [upd_far (by decide)] at q)),(fun q r => h1 (by rwa [upd_far (by decide)] at q) (by rwa [upd_far (by decide)] at r)),fun q => h2 (by rwa [upd_far (by decide)] at q)⟩
    ·refine wpOp_step rfl ?_
     intro K9 hK
     go_simp
     exact hK _ _ ⟨_,_,_,_,_,_,_,_,_,_,_,_,rfl,h.step (i:=5) (u:=.int .i64 k) rfl,os,hs,(fun q => h0 (by rwa [upd_far (by decide)] at q)),(fun q r => h1 (by rwa [upd_far (by decide)] at q) (by rwa [upd_far (by decide)] at r)),fun q => h2 (by rwa [upd_far (by decide)] at q)⟩
    ·refine wpOp_step rfl ?_
     intro K9 hK
     have f1:=h.at (i:=1) (u:=.slice (some ⟨g,0,none⟩) n cap) (pred_spec ho hp (j:=1) (by kernel_rfl)) rfl rfl
     subst f1
     have f2:=h.at (i:=2) (u:=.int .i64 k) (pred_spec ho hp (j:=2) (by kernel_rfl)) rfl rfl
     subst f2
     go_simp
     exact hK _ _ ⟨_,_,_,_,_,_,_,_,_,_,_,_,rfl,h.step (i:=6) (u:=.pointer (some ⟨g,k * 4,none⟩)) rfl,os,hs,(fun q => h0 (by rwa [upd_far (by decide)] at q)),(fun q r => h1 (by rwa [upd_far (by decide)] at q) (by rwa [upd_far (by decide)] at r)),fun q => h2 (by rwa [upd_far (by decide)] at q)⟩
    ·refine wpOp_step rfl ?_
     intro K9 hK
     have f6:=h.at (i:=6) (u:=.pointer (some ⟨g,k * 4,none⟩)) (pred_spec ho hp (j:=6) (by kernel_rfl)) rfl rfl
     subst f6
     go_simp
     exact hK _ _ ⟨_,_,_,_,_,_,_,_,_,_,_,_,rfl,h.step (i:=7) (u:=.pointer (some ⟨g,k * 4+2,none⟩)) rfl,os,hs,(fun q => h0 (by rwa [upd_far (by decide)] at q)),(fun q r => h1 (by rwa [upd_far (by decide)] at q) (by rwa [upd_far (by decide)] at r)),fun q => h2 (by rwa [upd_far (by decide)] at q)⟩
    ·refine wpOp_step rfl ?_
     intro K9 hK
     have f7:=h.at (i:=7) (u:=.pointer (some ⟨g,k * 4+2,none⟩)) (pred_spec ho hp (j:=7) (by kernel_rfl)) rfl rfl
     subst f7
     have e0:=h0 hL
     subst e0
     have y0:=hs.at hX0
     have z0:=hs.ice (k * 4+2)
     have hs2:=hs.set (k * 4+2) (.string ⟨#[49]⟩)
     rw [HX1.out] at hs2
     have h11:=cl_no hc hL 11 (by kernel_rfl)
     go_simp
     exact hK _ _ ⟨_,_,_,_,_,_,_,_,_,_,_,_,rfl,h.step (i:=8) (u:=.bool false) rfl,X1,hs2,(fun q => by simp [upd] at q),(fun _ _ => rfl),fun q => by rw [upd_far (by decide),h11] at q;cases q⟩
    ·refine wpOp_step rfl ?_
     intro K9 hK
     have f4:=h.at (i:=4) (u:=.slice (some ⟨g,0,none⟩) n cap) (pred_spec ho hp (j:=4) (by kernel_rfl)) rfl rfl
     subst f4
     have f5:=h.at (i:=5) (u:=.int .i64 k) (pred_spec ho hp (j:=5) (by kernel_rfl)) rfl rfl
     subst f5
     go_simp
     exact hK _ _ ⟨_,_,_,_,_,_,_,_,_,_,_,_,rfl,h.step (i:=9) (u:=.pointer (some ⟨g,k * 4,none⟩)) rfl,os,hs,(fun q => h0 (by rwa [upd_far (by decide)] at q)),(fun q r => h1 (by rwa [upd_far (by decide)] at q) (by rwa [upd_far (by decide)] at r)),fun q => h2 (by rwa [upd_far (by decide)] at q)⟩
    ·refine wpOp_step rfl ?_
     intro K9 hK
     have f9:=h.at (i:=9) (u:=.pointer (some ⟨g,k * 4,none⟩)) (pred_spec ho hp (j:=9) (by kernel_rfl)) rfl rfl
     subst f9
     go_simp
     exact hK _ _ ⟨_,_,_,_,_,_,_,_,_,_,_,_,rfl,h.step (i:=10) (u:=.pointer (some ⟨g,k * 4+3,none⟩)) rfl,os,hs,(fun q => h0 (by rwa [upd_far (by decide)] at q)),(fun q r => h1 (by rwa [upd_far (by decide)] at q) (by rwa [upd_far (by decide)] at r)),fun q => h2 (by rwa [upd_far (by decide)] at q)⟩
    ·refine wpOp_step rfl ?_
     intro K9 hK
     have f10:=h.at (i:=10) (u:=.pointer (some ⟨g,k * 4+3,none⟩)) (pred_spec ho hp (j:=10) (by kernel_rfl)) rfl rfl
     subst f10
     have h8:L 8=true:=pred_spec ho hp (j:=8) (by kernel_rfl)
     have e0:=h1 h8 hL
     subst e0
     have y0:=hs.at hX1
     have z0:=hs.ice (k * 4+3)
     have hs2:=hs.set (k * 4+3) (.string ⟨#[48]⟩)
     rw [HX2.out] at hs2
     go_simp
     exact hK _ _ ⟨_,_,_,_,_,_,_,_,_,_,_,_,rfl,h.step (i:=11) (u:=.bool false) rfl,X2,hs2,(fun q => by rw [upd_far (by decide),h8] at q;cases q),(fun _ q => by simp [upd] at q),fun _ => rfl⟩
   ·rintro L aa w' ⟨v0,v1,v2,v3,v4,v5,v6,v7,v8,v9,v10,v11,rfl,h,os,hs,h0,h1,h2⟩ hall
    have e0:=h2 (hall 11 (by decide))
    subst e0
    have HS:=Lib.hid hs
    clear h hs h0 h1 h2 hall
    go_wp2
    go_roundw
    case rel => exact ⟨k+1,by omega,by go_num,by rw [← HX2e.out];exact HS.out⟩
    case measure => simp [intOf];omega
  ·obtain rfl:n=k:=by omega
   have HbR:=hst.below HB3.out HB3.out.size hgB
   have Hb6:=Lib.hid (Hb3.out.trans (HbR.mono Hb3.out.size))
   have hx6:=HX3.out.below HbR
   have hbs:=hst.box hbx hSg
   have hrd:Rd Sh.cells 4 wr (some ⟨g,0,none⟩) (l.map stil):=by
    have h:=hst.own
    rw [← HNn.out,upTo_end] at h
    exact Rd.of_sl (enc:=Sh.cells) (m:=4) (fun _ => rfl) (by decide) (Sl.of_owns h)
   have HRd:=Lib.hid hrd
   have HSz:Hid (ScnSz l):=Lib.hid (HOK.out.z l (List.mem_singleton.2 rfl))
   have HSt:Hid ((conR c p m day E.F E.C).2=0→scnB (l.map stil)=true→losE [[],l.map stil] c p m day E.F E.C=14∨(losE [[],l.map stil] c p m day E.F E.C=0∧losL [[],l.map stil] c p m day E.F E.C=[⟨#[48]⟩,⟨#[48]⟩])):=Lib.hid still_law
   have HDl0:Hid ((conR c p m day E.F E.C).2=0→depB l c=false→losE [l] c p m day E.F E.C=8∨losE [l] c p m day E.F E.C=14∨(losE [l] c p m day E.F E.C=0∧losL [l] c p m day E.F E.C=[⟨#[48]⟩])):=Lib.hid apart_law
   have HLo:Hid (∀ W,Below w.heap.size w W→∀ B,BoxN W B 28 [.slice al n cl]→Calls Tryz.prog 15 #[.slice (some ⟨B,0,none⟩) 1 1,.agg #[.int .u8 c.k,.string c.fr,.string c.rc,.string c.nm,.int .u8 c.ex.k,.string c.ex.ra,.string c.ex.nm,.int .i64 c.ex.d,.slice p1 c.ex.sub.length pn1,.int .i64 c.d,.slice p2 c.ds.length pn2,.slice p3 c.sub.length pn3],.string p,.string m,.int .i64 day,.agg #[.slice E.af E.F.length E.cf,.slice E.ac E.C.length E.cc]] W (LosQ W (losE [l] c p m day E.F E.C) (losL [l] c p m day E.F E.C))):=Lib.hid fun W hb B hB => HL.out W hb [l] (some ⟨B,0,none⟩) 1 (by show 1≤1100000;decide) (fun s hs => by obtain rfl:=List.mem_singleton.1 hs;exact HSz.out) (rdS_one (by rw [HNn.out];exact hB) (HR.out.1.below hb))
   have HLt:Hid (∀ W,Below w.heap.size w W→Below wr.heap.size wr W→∀ B,BoxN W B 28 [.slice none 0 0,.slice (some ⟨g,0,none⟩) n cap]→Calls Tryz.prog 15 #[.slice (some ⟨B,0,none⟩) 2 2,.agg #[.int .u8 c.k,.string c.fr,.string c.rc,.string c.nm,.int .u8 c.ex.k,.string c.ex.ra,.string c.ex.nm,.int .i64 c.ex.d,.slice p1 c.ex.sub.length pn1,.int .i64 c.d,.slice p2 c.ds.length pn2,.slice p3 c.sub.length pn3],.string p,.string m,.int .i64 day,.agg #[.slice E.af E.F.length E.cf,.slice E.ac E.C.length E.cc]] W (LosQ W (losE [[],l.map stil] c p m day E.F E.C) (losL [[],l.map stil] c p m day E.F E.C))):=Lib.hid fun W hb hb2 B hB => HL.out W hb [[],l.map stil] (some ⟨B,0,none⟩) 2 (by show 2≤1100000;decide) (fun s hs => by
    rcases List.mem_cons.1 hs with rfl | hs
    ·exact ⟨by show 0≤1100000;decide,fun x hx => by cases hx⟩
    ·obtain rfl:=List.mem_singleton.1 hs;exact stil_small HSz.out) (rdS_two (s:=[]) (by rw [List.length_map,HNn.out];exact hB) (fun j x hj => by cases hj) (HRd.out.below hb2))
   have HCk:Hid (∀ W,Below wr.heap.size wr W→Calls Tryz.prog 10 #[.agg #[.slice (some ⟨g,0,none⟩) n cap]] W fun e w' => e = .returned (.int .i64 (scnE (scnB (l.map stil))))∧Below W.heap.size W w'):=Lib.hid fun W hb => by
    have h:=scnChk_any (l.map stil) (some ⟨g,0,none⟩) cap W (stil_small HSz.out).n (HRd.out.below hb) (fun f hf => ((stil_small HSz.out).s f hf).1)
    rw [List.length_map,HNn.out] at h
    exact h
   have HV1:=Lib.hid (HVa.out wr Hb6.out)
   unfold ConP at HV1
   generalize losE [[],l.map stil] c p m day E.F E.C=e2 at HSt HLt
   generalize losL [[],l.map stil] c p m day E.F E.C=L2 at HSt HLt
   generalize losE [l] c p m day E.F E.C=e1 at HDl0 HLo
   generalize losL [l] c p m day E.F E.C=L1 at HDl0 HLo
   generalize conR c p m day E.F E.C=RV at HV1 HSt HDl0
   generalize scnB (l.map stil)=sb at HSt HCk
   unfold LosQ at HLo HLt
   obtain ⟨rv1,re1⟩:=RV
   clear HVa HL HOK HSz hst HbR hrd Hrs HB3 HX3 HbV hgB hgV hbx
   obtain ⟨k0,k1,k2,k3,k4,k5,k6,k7,k8,k9,k10,k11,k12,k13,k14⟩:=hx6.all
   have q0:wr.cell? ⟨S,0,none⟩=some (.slice (some ⟨g,0,none⟩) n cap):=hbs.cell (j:=0) rfl
   go_wp2_with fail
   refine HV1.out.mono ?_
   rintro e w7 ⟨rfl,hb7⟩
   have Hb7:=Lib.hid (Hb6.out.trans (hb7.mono Hb6.out.size))
   have hx7:=hx6.below hb7
   have hbs7:=hbs.below hb7 hbs.lt
   have HbQ:=Lib.hid hb7
   clear k0 k1 k2 k3 k4 k5 k6 k7 k8 k9 k10 k11 k12 k13 k14 q0 hx6 hbs HV1 hb7
   by_cases hre:re1=0
   case neg =>
    have t1:(re1 != 0)=true:=by rw [bne_iff_ne];exact hre
    clear hre hx7 hbs7
    go_wp2
    go_ret
    exact ⟨rfl,Hb7.out⟩
   subst hre
   have HDl:Hid (depB l c=false→_):=Lib.hid (HDl0.out (by first | rfl | trivial))
   have HCc:=Lib.hid (HCk.out w7 HbQ.out)
   have q7:w7.cell? ⟨S,0,none⟩=some (.slice (some ⟨g,0,none⟩) n cap):=hbs7.cell (j:=0) rfl
   clear HDl0 HCk
   cases sb with
   | false =>
    change Hid (Calls Tryz.prog 10 #[.agg #[.slice (some ⟨g,0,none⟩) n cap]] w7 fun e w' => e = .returned (.int .i64 8)∧Below w7.heap.size w7 w') at HCc
    clear HSt HLt
    go_wp2_with fail
    refine HCc.out.mono ?_
    rintro e w8 ⟨rfl,hb8⟩
    have Hb8:=Lib.hid (Hb7.out.trans (hb8.mono Hb7.out.size))
    have hx8:=hx7.below hb8
    clear hb8 hx7 hbs7 q7 HCc
    obtain ⟨k0,k1,k2,k3,k4,k5,k6,k7,k8,k9,k10,k11,k12,k13,k14⟩:=hx8.all
    go_wp2_with fail
    refine (HDp.out _ Hb8.out).mono ?_
    rintro e w20 ⟨rfl,hb20⟩
    have Hb20:=Lib.hid (Hb8.out.trans (hb20.mono Hb8.out.size))
    have hx20:=hx8.below hb20
    clear k0 k1 k2 k3 k4 k5 k6 k7 k8 k9 k10 k11 k12 k13 k14 hb20 hx8 HDp
    cases hdp:depB l c with
    | true =>
     clear HLo HDl hx20 hdp
     go_wp2
     go_ret
     exact ⟨rfl,Hb20.out⟩
    | false =>
     have HDl2:=Lib.hid (HDl.out hdp)
     clear HDl hdp
     obtain ⟨W21,hW21,hb21,bx21⟩:∃ W,w20.alloc (.cells #[.slice al n cl] 28)=W∧Below w20.heap.size w20 W∧BoxN W w20.heap.size 28 [.slice al n cl]:=⟨_,rfl,below_a1 _ _,BoxN.new w20 _ _⟩
     have Hb21:=Lib.hid (Hb20.out.trans (hb21.mono Hb20.out.size))
     have hx21:=hx20.below hb21
     have j14:w20.cell? ⟨w.heap.size,0,none⟩=some (.slice al n cl):=hx20.s.cell (j:=0) rfl
     obtain ⟨k0,k1,k2,k3,k4,k5,k6,k7,k8,k9,k10,k11,k12,k13,k14⟩:=hx21.all
     have HLc:=Lib.hid (HLo.out W21 Hb21.out w20.heap.size bx21)
     clear HLo hb21 bx21
     go_wp2_with fail
     clear hW21
     refine HLc.out.mono ?_
     rintro e w22 ⟨ax,nx,rfl,rx,hb22⟩
     have Hb22:=Lib.hid (Hb21.out.trans (hb22.mono Hb21.out.size))
     have HRx:=Lib.hid rx
     clear HLc k0 k1 k2 k3 k4 k5 k6 k7 k8 k9 k10 k11 k12 k13 k14 j14 hx20 hx21 rx hb22
     rcases HDl2.out with h8 | h14 | ⟨h0,hl0⟩
     ·subst h8
      clear HDl2
      go_wp2
      go_ret
      exact ⟨rfl,Hb22.out⟩
     ·subst h14
      clear HDl2
      go_wp2
      go_ret
      exact ⟨rfl,Hb22.out⟩
     ·subst h0
      subst hl0
      obtain ⟨W23,hW23,hb23,bx23⟩:∃ W,w22.alloc (.cells #[.string ⟨#[48]⟩] 22)=W∧Below w22.heap.size w22 W∧BoxN W w22.heap.size 22 [.string ⟨#[48]⟩]:=⟨_,rfl,below_a1 _ _,BoxN.new w22 _ _⟩
      have Hb23:=Lib.hid (Hb22.out.trans (hb23.mono Hb22.out.size))
      have HSR:=Lib.hid (sameRats_any [⟨#[48]⟩] ax _ nx 1 W23 (by decide) (HRx.out.below hb23) (rd_box bx23))
      clear HDl2 hb23 bx23 HRx
      go_wp2_with fail
      clear hW23
      refine HSR.out.mono ?_
      rintro e w24 ⟨rfl,hb24⟩
      have Hb24:=Lib.hid (Hb23.out.trans (hb24.mono Hb23.out.size))
      clear HSR hb24
      go_wp2
      go_ret
      exact ⟨rfl,Hb24.out⟩
   | true =>
    change Hid (Calls Tryz.prog 10 #[.agg #[.slice (some ⟨g,0,none⟩) n cap]] w7 fun e w' => e = .returned (.int .i64 0)∧Below w7.heap.size w7 w') at HCc
    have HSt2:=Lib.hid (HSt.out (by first | rfl | trivial) (by first | rfl | trivial))
    clear HSt
    go_wp2_with fail
    refine HCc.out.mono ?_
    rintro e w8 ⟨rfl,hb8⟩
    have Hb8:=Lib.hid (Hb7.out.trans (hb8.mono Hb7.out.size))
    have hx8:=hx7.below hb8
    have hbs8:=hbs7.below hb8 hbs7.lt
    obtain ⟨W9,hW9,hb9,bx9⟩:∃ W,w8.alloc (.cells #[.slice none 0 0,.slice (some ⟨g,0,none⟩) n cap] 28)=W∧Below w8.heap.size w8 W∧BoxN W w8.heap.size 28 [.slice none 0 0,.slice (some ⟨g,0,none⟩) n cap]:=⟨_,rfl,below_a1 _ _,BoxN.new w8 _ _⟩
    have Hb9:=Lib.hid (Hb8.out.trans (hb9.mono Hb8.out.size))
    have hb69:=HbQ.out.trans ((hb8.trans (hb9.mono hb8.size)).mono HbQ.out.size)
    have hx9:=hx8.below hb9
    have q8:w8.cell? ⟨S,0,none⟩=some (.slice (some ⟨g,0,none⟩) n cap):=hbs8.cell (j:=0) rfl
    obtain ⟨k0,k1,k2,k3,k4,k5,k6,k7,k8,k9,k10,k11,k12,k13,k14⟩:=hx9.all
    have HLc:=Lib.hid (HLt.out W9 Hb9.out hb69 w8.heap.size bx9)
    clear HLt hb8 hb9 bx9 hb69 hx7 hbs7 q7 HCc hx8 hbs8
    go_wp2_with fail
    clear hW9
    refine HLc.out.mono ?_
    rintro e w10 ⟨ay,ny,rfl,ry,hb10⟩
    have Hb10:=Lib.hid (Hb9.out.trans (hb10.mono Hb9.out.size))
    have hx10:=hx9.below hb10
    have HRy:=Lib.hid ry
    clear k0 k1 k2 k3 k4 k5 k6 k7 k8 k9 k10 k11 k12 k13 k14 q8 hx9 ry hb10 HLc
    rcases HSt2.out with h14 | ⟨h0,hl0⟩
    ·subst h14
     clear HSt2 HRy
     obtain ⟨k0,k1,k2,k3,k4,k5,k6,k7,k8,k9,k10,k11,k12,k13,k14⟩:=hx10.all
     go_wp2_with fail
     refine (HDp.out _ Hb10.out).mono ?_
     rintro e w20 ⟨rfl,hb20⟩
     have Hb20:=Lib.hid (Hb10.out.trans (hb20.mono Hb10.out.size))
     have hx20:=hx10.below hb20
     clear k0 k1 k2 k3 k4 k5 k6 k7 k8 k9 k10 k11 k12 k13 k14 hb20 hx10 HDp
     cases hdp:depB l c with
     | true =>
      clear HLo HDl hx20 hdp
      go_wp2
      go_ret
      exact ⟨rfl,Hb20.out⟩
     | false =>
      have HDl2:=Lib.hid (HDl.out hdp)
      clear HDl hdp
      obtain ⟨W21,hW21,hb21,bx21⟩:∃ W,w20.alloc (.cells #[.slice al n cl] 28)=W∧Below w20.heap.size w20 W∧BoxN W w20.heap.size 28 [.slice al n cl]:=⟨_,rfl,below_a1 _ _,BoxN.new w20 _ _⟩
      have Hb21:=Lib.hid (Hb20.out.trans (hb21.mono Hb20.out.size))
      have hx21:=hx20.below hb21
      have j14:w20.cell? ⟨w.heap.size,0,none⟩=some (.slice al n cl):=hx20.s.cell (j:=0) rfl
      obtain ⟨k0,k1,k2,k3,k4,k5,k6,k7,k8,k9,k10,k11,k12,k13,k14⟩:=hx21.all
      have HLc:=Lib.hid (HLo.out W21 Hb21.out w20.heap.size bx21)
      clear HLo hb21 bx21
      go_wp2_with fail
      clear hW21
      refine HLc.out.mono ?_
      rintro e w22 ⟨ax,nx,rfl,rx,hb22⟩
      have Hb22:=Lib.hid (Hb21.out.trans (hb22.mono Hb21.out.size))
      have HRx:=Lib.hid rx
      clear HLc k0 k1 k2 k3 k4 k5 k6 k7 k8 k9 k10 k11 k12 k13 k14 j14 hx20 hx21 rx hb22
      rcases HDl2.out with h8 | h14 | ⟨h0,hl0⟩
      ·subst h8
       clear HDl2
       go_wp2
       go_ret
       exact ⟨rfl,Hb22.out⟩
      ·subst h14
       clear HDl2
       go_wp2
       go_ret
       exact ⟨rfl,Hb22.out⟩
      ·subst h0
       subst hl0
       obtain ⟨W23,hW23,hb23,bx23⟩:∃ W,w22.alloc (.cells #[.string ⟨#[48]⟩] 22)=W∧Below w22.heap.size w22 W∧BoxN W w22.heap.size 22 [.string ⟨#[48]⟩]:=⟨_,rfl,below_a1 _ _,BoxN.new w22 _ _⟩
       have Hb23:=Lib.hid (Hb22.out.trans (hb23.mono Hb22.out.size))
       have HSR:=Lib.hid (sameRats_any [⟨#[48]⟩] ax _ nx 1 W23 (by decide) (HRx.out.below hb23) (rd_box bx23))
       clear HDl2 hb23 bx23 HRx
       go_wp2_with fail
       clear hW23
       refine HSR.out.mono ?_
       rintro e w24 ⟨rfl,hb24⟩
       have Hb24:=Lib.hid (Hb23.out.trans (hb24.mono Hb23.out.size))
       clear HSR hb24
       go_wp2
       go_ret
       exact ⟨rfl,Hb24.out⟩
    ·subst h0
     subst hl0
     obtain ⟨W11,hW11,hb11,bx11⟩:∃ W,w10.alloc (.cells #[.string ⟨#[48]⟩,.string ⟨#[48]⟩] 22)=W∧Below w10.heap.size w10 W∧BoxN W w10.heap.size 22 [.string ⟨#[48]⟩,.string ⟨#[48]⟩]:=⟨_,rfl,below_a1 _ _,BoxN.new w10 _ _⟩
     have Hb11:=Lib.hid (Hb10.out.trans (hb11.mono Hb10.out.size))
     have hx11:=hx10.below hb11
     have HSR:=Lib.hid (sameRats_any [⟨#[48]⟩,⟨#[48]⟩] ay _ ny 2 W11 (by decide) (HRy.out.below hb11) (rd_box2 bx11))
     clear HSt2 hb11 bx11 HRy hx10
     go_wp2_with fail
     clear hW11
     refine HSR.out.mono ?_
     rintro e w12 ⟨rfl,hb12⟩
     have Hb12:=Lib.hid (Hb11.out.trans (hb12.mono Hb11.out.size))
     have hx12:=hx11.below hb12
     clear HSR hb12 hx11
     obtain ⟨k0,k1,k2,k3,k4,k5,k6,k7,k8,k9,k10,k11,k12,k13,k14⟩:=hx12.all
     go_wp2_with fail
     refine (HDp.out _ Hb12.out).mono ?_
     rintro e w20 ⟨rfl,hb20⟩
     have Hb20:=Lib.hid (Hb12.out.trans (hb20.mono Hb12.out.size))
     have hx20:=hx12.below hb20
     clear k0 k1 k2 k3 k4 k5 k6 k7 k8 k9 k10 k11 k12 k13 k14 hb20 hx12 HDp
     cases hdp:depB l c with
     | true =>
      clear HLo HDl hx20 hdp
      go_wp2
      go_ret
      exact ⟨rfl,Hb20.out⟩
     | false =>
      have HDl2:=Lib.hid (HDl.out hdp)
      clear HDl hdp
      obtain ⟨W21,hW21,hb21,bx21⟩:∃ W,w20.alloc (.cells #[.slice al n cl] 28)=W∧Below w20.heap.size w20 W∧BoxN W w20.heap.size 28 [.slice al n cl]:=⟨_,rfl,below_a1 _ _,BoxN.new w20 _ _⟩
      have Hb21:=Lib.hid (Hb20.out.trans (hb21.mono Hb20.out.size))
      have hx21:=hx20.below hb21
      have j14:w20.cell? ⟨w.heap.size,0,none⟩=some (.slice al n cl):=hx20.s.cell (j:=0) rfl
      obtain ⟨k0,k1,k2,k3,k4,k5,k6,k7,k8,k9,k10,k11,k12,k13,k14⟩:=hx21.all
      have HLc:=Lib.hid (HLo.out W21 Hb21.out w20.heap.size bx21)
      clear HLo hb21 bx21
      go_wp2_with fail
      clear hW21
      refine HLc.out.mono ?_
      rintro e w22 ⟨ax,nx,rfl,rx,hb22⟩
      have Hb22:=Lib.hid (Hb21.out.trans (hb22.mono Hb21.out.size))
      have HRx:=Lib.hid rx
      clear HLc k0 k1 k2 k3 k4 k5 k6 k7 k8 k9 k10 k11 k12 k13 k14 j14 hx20 hx21 rx hb22
      rcases HDl2.out with h8 | h14 | ⟨h0,hl0⟩
      ·subst h8
       clear HDl2
       go_wp2
       go_ret
       exact ⟨rfl,Hb22.out⟩
      ·subst h14
       clear HDl2
       go_wp2
       go_ret
       exact ⟨rfl,Hb22.out⟩
      ·subst h0
       subst hl0
       obtain ⟨W23,hW23,hb23,bx23⟩:∃ W,w22.alloc (.cells #[.string ⟨#[48]⟩] 22)=W∧Below w22.heap.size w22 W∧BoxN W w22.heap.size 22 [.string ⟨#[48]⟩]:=⟨_,rfl,below_a1 _ _,BoxN.new w22 _ _⟩
       have Hb23:=Lib.hid (Hb22.out.trans (hb23.mono Hb22.out.size))
       have HSR:=Lib.hid (sameRats_any [⟨#[48]⟩] ax _ nx 1 W23 (by decide) (HRx.out.below hb23) (rd_box bx23))
       clear HDl2 hb23 bx23 HRx
       go_wp2_with fail
       clear hW23
       refine HSR.out.mono ?_
       rintro e w24 ⟨rfl,hb24⟩
       have Hb24:=Lib.hid (Hb23.out.trans (hb24.mono Hb23.out.size))
       clear HSR hb24
       go_wp2
       go_ret
       exact ⟨rfl,Hb24.out⟩
end Go.Proofs.YthdeijdimfjceaaGreatDoor

namespace Go.Proofs.YthdeijdimfjceaaGreatDoor
open Go.ChangeShapes Go.WideShapes Go.ChangeAt Go.RowKit Go.Joins Go.Deep
set_option maxRecDepth 100000 in
theorem contractAp32 (H:Type) (enc:TypeId × Value→H) (W:World) (base:Nat) (args:Array Value) (ds gs:List (DataW H)) (before:List MemPlace)
  (hval:∀ (j:Nat) t v,Tryz.f6.params[j]? = some t→args[j]? = some v→Value.okWide Tryz.prog W .any base t v)
  (hW:DataW.Whole enc Tryz.prog Tryz.f6.params.toList Rows.scenarioApartSpec.vars false W args.toList ds gs before) (hk:Rows.uptoSmall H (ds ++ gs)=true)
  (hL:laidMetH Tryz.prog Rows.scenarioApartUptoRow.laid W) :
  Calls Tryz.prog 6 args W fun e W' => ∃ v,e = .returned v∧Rows.scenarioApartSpec.post enc Tryz.prog Tryz.f6 false true false false W args v W':=by
 have hW':=hW
 obtain ⟨p,q,hA0,hV,rfl,hfz,hnd⟩:=hW
 have hA:DataW.TrodAll enc Tryz.prog W 0 (fun _ => true) true Tryz.f6.params.toList args.toList ds p:=hA0
 rw [Tryz.params6] at hA hval
 obtain ⟨v0,vs0,d0,ds0,p0,q0,hargs,rfl,rfl,h0,r0⟩:=trodAll_cons hA
 obtain ⟨v1,vs1,d1,ds1,p1,q1,rfl,rfl,rfl,h1,r1⟩:=trodAll_cons r0
 obtain ⟨v2,vs2,d2,ds2,p2,q2,rfl,rfl,rfl,h2,r2⟩:=trodAll_cons r1
 obtain ⟨v3,vs3,d3,ds3,p3,q3,rfl,rfl,rfl,h3,r3⟩:=trodAll_cons r2
 obtain ⟨v4,vs4,d4,ds4,p4,q4,rfl,rfl,rfl,h4,r4⟩:=trodAll_cons r3
 obtain ⟨v5,vs5,d5,ds5,p5,q5,rfl,rfl,rfl,h5,r5⟩:=trodAll_cons r4
 obtain ⟨rfl,rfl,rfl⟩:=trodAll_nil r5
 obtain rfl:args=#[v0,v1,v2,v3,v4,v5]:=by cases args;simp_all
 obtain ⟨rfl,rfl⟩:=trodVars_none hV
 have k0:=h0
 have l0:∀ x ∈ p0,x.block < W.heap.size:=by obtain ⟨m,hm⟩:=k0;exact DataW.trod_lt m _ _ _ hm
 have k1:=h1
 have l1:∀ x ∈ p1,x.block < W.heap.size:=by obtain ⟨m,hm⟩:=k1;exact DataW.trod_lt m _ _ _ hm
 have k2:=h2
 have l2:∀ x ∈ p2,x.block < W.heap.size:=by obtain ⟨m,hm⟩:=k2;exact DataW.trod_lt m _ _ _ hm
 have k3:=h3
 have l3:∀ x ∈ p3,x.block < W.heap.size:=by obtain ⟨m,hm⟩:=k3;exact DataW.trod_lt m _ _ _ hm
 have k4:=h4
 have l4:∀ x ∈ p4,x.block < W.heap.size:=by obtain ⟨m,hm⟩:=k4;exact DataW.trod_lt m _ _ _ hm
 have k5:=h5
 have l5:∀ x ∈ p5,x.block < W.heap.size:=by obtain ⟨m,hm⟩:=k5;exact DataW.trod_lt m _ _ _ hm
 have hb:Rows.uptoBulkAll [d0,d1,d2,d3,d4,d5]≤1048576:=by
  have h:Rows.uptoBulkAll ([d0,d1,d2,d3,d4,d5] ++ [])≤1048576:=of_decide_eq_true hk
  rw [List.append_nil] at h
  exact h
 have hsum:Rows.uptoBulk d0+Rows.uptoBulk d1+Rows.uptoBulk d2+Rows.uptoBulk d3+Rows.uptoBulk d4+Rows.uptoBulk d5≤1048576:=by
  simp only [Rows.uptoBulkAll] at hb
  omega
 obtain ⟨xs0,al0,cl0,rfl,hl0,hr0,sl0,an0,hs0⟩:=open_scn (hval 0 _ v0 rfl rfl) h0 (by omega)
 obtain ⟨c1,es1,dd1,ss1,rfl,hr1,hc1⟩:=open_con (hval 1 _ v1 rfl rfl) h1
 obtain ⟨s2,rfl,rfl,rfl,_⟩:=Go.ChangeMaps.open_string Tryz.underlying9 (hval 2 9 v2 rfl rfl) h2
 have z2:=bulk_text (H:=H) s2
 obtain ⟨s3,rfl,rfl,rfl,_⟩:=Go.ChangeMaps.open_string Tryz.underlying9 (hval 3 9 v3 rfl rfl) h3
 have z3:=bulk_text (H:=H) s3
 obtain ⟨n4,rfl,rfl,rfl,w4⟩:=open_int Tryz.underlying3 (hval 4 3 v4 rfl rfl) h4
 obtain ⟨E,rfl,hE,hEf,hEc,hES⟩:=open_envS (hval 5 _ v5 rfl rfl) h5 (by omega)
 obtain ⟨hS,hP,hO⟩:=laid_look3 hL
 clear hA0
 refine (apart32_any xs0 c1 _ _ _ s2 s3 n4 E al0 cl0 W hl0 hr0 sl0 an0 hs0 ⟨by omega,hr1,hS,hP,hO,hE,hEf,hEc⟩ hES (by omega) (by omega)).mono fun e W' ⟨he,bel⟩ => ?_
 subst he
 exact ⟨_,rfl,_,_,_,[],_,[],hW',trodAll_mk1 (shut_bool Tryz.underlying4 _),
  trodAll_cons_mk (Below.trod laidOut10 (by kernel_rfl) (of_decide_eq_true (by kernel_rfl)) k0 bel l0) (trodAll_cons_mk (Below.trod laidOut10 (by kernel_rfl) (of_decide_eq_true (by kernel_rfl)) k1 bel l1) (trodAll_cons_mk (Below.trod laidOut10 (by kernel_rfl) (of_decide_eq_true (by kernel_rfl)) k2 bel l2) (trodAll_cons_mk (Below.trod laidOut10 (by kernel_rfl) (of_decide_eq_true (by kernel_rfl)) k3 bel l3) (trodAll_cons_mk (Below.trod laidOut10 (by kernel_rfl) (of_decide_eq_true (by kernel_rfl)) k4 bel l4) (trodAll_cons_mk (Below.trod laidOut10 (by kernel_rfl) (of_decide_eq_true (by kernel_rfl)) k5 bel l5) (trodAll_mk0)))))),
  rfl,bel.frame _,fun h => by cases h⟩
def argAp32:Array Value:=#[.agg #[.slice none 0 0],.agg #[.int .u8 0,.string ⟨#[]⟩,.string ⟨#[]⟩,.string ⟨#[]⟩,.int .u8 0,.string ⟨#[]⟩,.string ⟨#[]⟩,.int .i64 0,.slice none 0 0,.int .i64 0,.slice none 0 0,.slice none 0 0],.string ⟨#[]⟩,.string ⟨#[]⟩,.int .i64 0,.agg #[.slice none 0 0,.slice none 0 0]]
theorem metAp32 (os:Os):laidMetH Tryz.prog Rows.scenarioApartUptoRow.laid ((World.doorLaid Tryz.prog 176 os).forCall (fun _ _ => 0) ⟨#[],argAp32,[]⟩).memory :=
 laidMetH_of_parts3 (fuel:=8) (laidMet_of_run' 8 (by kernel_rfl) (by kernel_rfl)) (by kernel_rfl) (by kernel_rfl)
theorem readsAp32 (os:Os) {H:Type} (enc:TypeId × Value→H):∃ places,DataW.whole enc Tryz.prog ((World.doorLaid Tryz.prog 176 os).forCall (fun _ _ => 0) ⟨#[],argAp32,[]⟩).memory Tryz.f6.params.toList Rows.scenarioApartSpec.vars false argAp32.toList 8 =
  some ([.agg [.nil],.agg [.lit (.int .u8 0),.lit (.string []),.lit (.string []),.lit (.string []),.agg [.lit (.int .u8 0),.lit (.string []),.lit (.string []),.lit (.int .i64 0),.nil],.lit (.int .i64 0),.nil,.nil],.lit (.string []),.lit (.string []),.lit (.int .i64 0),.agg [.nil,.nil]],[],places) :=
 ⟨[],by kernel_rfl⟩
set_option maxRecDepth 100000 in
theorem liftedAp32 (os:Os) (started:os.Started) (H:Type) (enc:TypeId × Value→H) (F:Stop.Interp) :
  ReturnsInHanded {} Tryz.checked os 6 .any ((Rows.OpenSpec.upto Rows.scenarioApartSpec).preRow enc Tryz.prog Tryz.f6 Rows.scenarioApartUptoRow.domain false Rows.scenarioApartUptoRow.laid) (((Rows.OpenSpec.upto Rows.scenarioApartSpec).at F).post enc Tryz.prog Tryz.f6 false true false false):=by
 obtain ⟨places,hx⟩:=readsAp32 os enc
 refine returnsInHanded_of_row (C:=Tryz.checked) (s:=Rows.OpenSpec.upto Rows.scenarioApartSpec) own10 started (by kernel_rfl) Tryz.func6
  (witness_row_atRef (enc:=enc) (C:=Tryz.checked) false (World.doorLaid Tryz.prog 176 os) argAp32 rfl (by kernel_rfl) (by kernel_rfl) (by kernel_rfl)
   (OpenSpec.preRow_of_cond 8 hx (by kernel_rfl) (fun k hk => by cases hk;kernel_rfl) (by kernel_rfl) (metAp32 os))) ?_
 intro W base args ds gs before hval hW _ hcond _ hL _ _
 exact contractAp32 H enc W base args ds gs before hval hW (hcond _ rfl) hL
theorem scenarioApart_upto:Rows.ScenarioApartUptoSaid :=
 OpenClaim.holds_of_cond 6 Tryz.f6 rfl rfl rfl rfl rfl rfl rfl ⟨rfl,rfl,rfl,rfl,rfl⟩ rfl rfl rfl rfl rfl (by kernel_rfl) Tryz.func6 (by kernel_rfl)
  (of_decide_eq_true (by kernel_rfl)) (by unfold Func.isWrapper;first | (rw [if_pos (by decide +kernel)];kernel_rfl) | (rw [if_neg (by decide +kernel)];exact ⟨rfl,rfl⟩))
  (fun os started H enc _ F => by rw [OpenClaim.pre_eq_preRow];exact liftedAp32 os started H enc F)
theorem plainAp32 (f : FuncId) (fn : Func) (hf : Tryz.pinned.checked.prog.funcNamed "novation/novationlaw32.ScenarioApart" = some f) (hfn : Tryz.pinned.checked.prog.funcs[f]? = some fn) :
  true=Tryz.pinned.checked.prog.looks []∧∀ (j:Nat) t,fn.params[j]? = some t→Tryz.pinned.checked.prog.wantsStandIn t=false:=by
 obtain rfl : f = 6 := Option.some.inj ((show Tryz.prog.funcNamed "novation/novationlaw32.ScenarioApart" = some 6 by kernel_rfl).symm.trans hf) |>.symm
 obtain rfl:fn=Tryz.f6:=(Option.some.inj (Tryz.func6.symm.trans hfn)).symm
 refine ⟨by kernel_rfl,fun j t ht => ?_⟩
 rw [Tryz.params6] at ht
 have hm:t ∈ [28,51,9,3,32]:=by simpa using Array.mem_of_getElem? ht
 have hall:([28,51,9,3,32].all fun u => !Tryz.prog.wantsStandIn u)=true:=by kernel_rfl
 exact (show Tryz.prog.wantsStandIn t=false by simpa using List.all_eq_true.1 hall t hm)
theorem scenarioApart_card:Rows.ScenarioApartUptoCardSaid :=
 Claim7.holds_tied_plain_at .later [] _ _ _ _ scenarioApart_upto (fun _ h => by cases h) (by kernel_rfl) (fun _ h => by cases h) scenarioApartUpto_row_tie rfl ⟨rfl,rfl⟩ (by kernel_rfl) rfl plainAp32 (by kernel_rfl)
#print axioms scenarioApart_card
end Go.Proofs.YthdeijdimfjceaaGreatDoor
