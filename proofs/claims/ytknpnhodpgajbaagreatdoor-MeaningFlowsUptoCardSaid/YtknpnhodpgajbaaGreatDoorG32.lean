/- A part. -/
import Derived.Test.YtknpnhodpgajbaaGreatDoorG31
import Derived.Test.YtknpnhodpgajbaaGreatDoorG30
import Derived.Test.YtknpnhodpgajbaaGreatDoorCards
import Derived.Test.YtknpnhodpgajbaaGreatDoorTie
set_option maxHeartbeats 8000000
set_option maxRecDepth 100000
namespace Go.Proofs.YtknpnhodpgajbaaGreatDoor
open Go.RowKit
theorem Z0e:∀ (N:Nat) (x:Con) (es dd ss:Value) (w:World),x.bulk≤N→x.bulk≤2000000→RdN w x es dd ss →
  Calls Tryz.prog 81 #[x.val es dd ss] w fun e w'=>(∃ m:Int,e = .returned (.int .i64 m))∧Below w.heap.size w w':=by
 intro N;induction N with
 | zero =>
  intro x es dd ss w h0;rw [Con.bulk_eq] at h0;omega
 | succ N ih =>
  intro x es dd ss w hN hB hs;obtain ⟨ad,cap,rfl⟩:=hs.2.2.1.len;obtain ⟨ad1,cap1,rfl⟩:=hs.1.len;obtain ⟨ad2,cap2,rfl⟩:=hs.2.1.len;have HS:=Lh hs.2.2.1;have HE:=Lh hs.1;have HI:=Lh ih;have hsq1:=x.bulk_eq;have hlen:=Con.bulks_len x.sub;have hn:x.sub.length≤2000000:=by omega
  have hexb:x.ex.bulk≤2000000:=by omega
  obtain ⟨W1,hW1,hb2,hz1,bx⟩:∃ W,w.alloc (.cells #[.int .u8 x.k,.string x.fr,.string x.rc,.string x.nm,.int .u8 x.ex.k,.string x.ex.ra,.string x.ex.nm,.int .i64 x.ex.d,.slice ad1 x.ex.sub.length cap1,.int .i64 x.d,.slice ad2 x.ds.length cap2,.slice ad x.sub.length cap] 29)=W∧Below w.heap.size w W∧w.heap.size < W.heap.size∧BoxN W w.heap.size 29 (x.cells (.slice ad1 x.ex.sub.length cap1) (.slice ad2 x.ds.length cap2) (.slice ad x.sub.length cap)) :=
   ⟨_,rfl,Zac _ _,by simp,BoxN.new w _ _⟩
  have HZ:=Lh fun W (hW:Below W1.heap.size W1 W)=>Zh9 x.ex.bulk x.ex _ W (Nat.le_refl _) hexb (HE.out.frame (hb2.trans (hW.mono (by omega))))
  have HBx:Hid (∀ W,Below W1.heap.size W1 W→W.cell? ⟨w.heap.size,4,none⟩=some (.int .u8 x.ex.k)∧W.cell? ⟨w.heap.size,5,none⟩=some (.string x.ex.ra)∧W.cell? ⟨w.heap.size,6,none⟩=some (.string x.ex.nm)∧W.cell? ⟨w.heap.size,7,none⟩=some (.int .i64 x.ex.d)∧W.cell? ⟨w.heap.size,8,none⟩=some (.slice ad1 x.ex.sub.length cap1)∧W.cell? ⟨w.heap.size,10,none⟩=some (.slice ad2 x.ds.length cap2)∧W.cell? ⟨w.heap.size,11,none⟩=some (.slice ad x.sub.length cap)):=Lh fun W hW=>by
   have h:=bx.below hW bx.lt;exact ⟨h.cell (j:=4) rfl,h.cell (j:=5) rfl,h.cell (j:=6) rfl,h.cell (j:=7) rfl,h.cell (j:=8) rfl,h.cell (j:=10) rfl,h.cell (j:=11) rfl⟩
  obtain ⟨c4,c5,c6,c7,c8,c10,c11⟩:=HBx.out W1 (Below.refl _ _);have hd:Below W1.heap.size W1 W1.drew:=(Below.refl _ _).drew;clear hs ih hsq1 bx;unfold Con.val;go_enter Tryz.func81,Tryz.ntmps81
  go_upto_region 1 with (fail);clear hW1;go_upto_region 2 with (fail);go_cut [3] from 5 to 13 (fun v wc=>(∃ m:Int,v = .int .i64 m)∧Below W1.heap.size W1 wc)
  case first =>
   by_cases hm1:(1:Int) < (x.ds.length:Int)
   all_goals (try have hm2:(x.ds.length:Int)≤1:=Int.not_lt.1 hm1)
   all_goals
    go_wp2_with fail;go_region_held3 (fun W=>W.cell? ⟨w.heap.size,4,none⟩=some (.int .u8 x.ex.k)∧W.cell? ⟨w.heap.size,5,none⟩=some (.string x.ex.ra)∧W.cell? ⟨w.heap.size,6,none⟩=some (.string x.ex.nm)∧W.cell? ⟨w.heap.size,7,none⟩=some (.int .i64 x.ex.d)∧W.cell? ⟨w.heap.size,8,none⟩=some (.slice ad1 x.ex.sub.length cap1)∧W.cell? ⟨w.heap.size,10,none⟩=some (.slice ad2 x.ds.length cap2))
     (first | assumption | exact ⟨by assumption,by assumption,by assumption,by assumption,by assumption,by assumption⟩ | go_keep)
     (first | (go_at_call 137;refine (HZ.out _ hd).mono ?_;rintro e w5 ⟨rfl,hb5⟩;have hb6:=hd.trans hb5;obtain ⟨x4,x5,x6,x7,x8,x10,_⟩:=HBx.out _ hb6))
    all_goals
     go_wp2;go_meet
     exact ⟨⟨_,rfl⟩,hb6⟩
  case rest =>
   obtain ⟨⟨m0,rfl⟩,hbc⟩:=hcut;have q11:wc.cell? ⟨w.heap.size,11,none⟩=some (.slice ad x.sub.length cap):=(HBx.out wc hbc).2.2.2.2.2.2;have hb3:=hb2.trans (hbc.mono hb2.size);clear hbc HBx HZ hd c4 c5 c6 c7 c8 c10 c11 hb2 HE;go_wp2_with fail;go_loopw [3,4] (fun n i wr=>∃ (k:Nat) (S:Int),k≤x.sub.length∧i = .int .i64 (k:Int)∧n = .int .i64 S∧Below w.heap.size w wr∧wr.cell? ⟨w.heap.size,11,none⟩=some (.slice ad x.sub.length cap)) (fun _ i _=>x.sub.length - (intOf i).toNat)
   case atStart=>exact ⟨0,m0,Nat.zero_le _,rfl,rfl,hb3,q11⟩
   case round =>
    clear hb3;obtain ⟨k,S,hk,rfl,rfl,hbel,q0⟩:=hrel;by_cases hlt:k < x.sub.length
    ·by_cases hli:S < 100000
     ·obtain ⟨y,hy⟩:∃ y,x.sub[k]? = some y:=⟨_,List.getElem?_eq_getElem hlt⟩
      obtain ⟨b,off,es',dd',ss',rfl,⟨c0,c1,c2,c3,c4,c5,c6,c7,c8,c9,c10,c11⟩,hs'⟩:=(HS.out.frame hbel).cells hy;have hym:=Con.mem_lt (List.mem_of_getElem? hy);have hblk:b < wr.heap.size:=World.block_lt_of_cell? wr _ c0;have hbx:w.heap.size < wr.heap.size:=World.block_lt_of_cell? wr _ q0;have hzw:=hbel.size;have hk1:(0:Int)≤(k:Int):=by omega
      have hk2:(k:Int) < (x.sub.length:Int):=by omega
      have HC:=Lh (HI.out y es' dd' ss' wr (by omega) (by omega) hs');unfold Con.val at HC;clear hy hym hs';go_wp2_with fail;refine HC.out.mono ?_;rintro e w1 ⟨⟨m,rfl⟩,hb1⟩;have q1:w1.cell? ⟨w.heap.size,11,none⟩=some (.slice (some ⟨b,off,none⟩) x.sub.length cap):=by rw [hb1.cell (p:=⟨w.heap.size,11,none⟩) hbx];exact q0
      have hb2:=hbel.trans (hb1.mono hzw);clear hb1 hbel q0 HC c0 c1 c2 c3 c4 c5 c6 c7 c8 c9 c10 c11;go_wp2;go_roundw
      case rel=>exact ⟨k+1,_,by omega,by go_num,rfl,hb2,q1⟩
      case measure=>simp [intOf];omega
     ·go_wp2;go_ret;exact ⟨⟨_,rfl⟩,hbel⟩
    ·go_wp2;go_ret;exact ⟨⟨_,rfl⟩,hbel⟩
structure Bx2 (W:World) (B:Nat) (c:Con) (es dd ss:Value) (E:EvD):Prop where
 c:BoxN W B 29 (c.cells es dd ss)
 v:BoxN W (B+1) 33 [.slice E.af E.F.length E.cf,.slice E.ac E.C.length E.cc]
theorem Zn1 (w:World) (c:Con) (es dd ss:Value) (E:EvD):∃ W,(w.alloc (.cells #[.int .u8 c.k,.string c.fr,.string c.rc,.string c.nm,.int .u8 c.ex.k,.string c.ex.ra,.string c.ex.nm,.int .i64 c.ex.d,es,.int .i64 c.d,dd,ss] 29)).alloc (.cells #[.slice E.af E.F.length E.cf,.slice E.ac E.C.length E.cc] 33)=W∧Below w.heap.size w W∧w.heap.size+2≤W.heap.size∧Bx2 W w.heap.size c es dd ss E:=by
 refine ⟨_,rfl,Zaz _ _ _,by simp,?_⟩;have hc:=BoxN.new w (c.cells es dd ss) 29;have hv:=BoxN.new (w.alloc (.cells (c.cells es dd ss).toArray 29)) [.slice E.af E.F.length E.cf,.slice E.ac E.C.length E.cc] 33;simp only [World.size_alloc] at hv;exact ⟨hc.alloc _,hv⟩
theorem Bx2.below {W W':World} {B:Nat} {c:Con} {es dd ss:Value} {E:EvD} (h:Bx2 W B c es dd ss E) (hb:Below W.heap.size W W'):Bx2 W' B c es dd ss E:=⟨h.c.below hb h.c.lt,h.v.below hb h.v.lt⟩
theorem Zv9 (x:Con) (es dd ss:Value) (E:EvD) (w:World) (hB:x.bulk≤2000000) (hs:RdN w x es dd ss) (hE:E.Rd w) :
  Calls Tryz.prog 39 #[x.val es dd ss,E.val] w (Zdz w):=by
 obtain ⟨ad,cap,rfl⟩:=hs.2.2.1.len;obtain ⟨ad1,cap1,rfl⟩:=hs.1.len;obtain ⟨ad2,cap2,rfl⟩:=hs.2.1.len;obtain ⟨W0,hW0,hb0,hz0,bx⟩:=Zn1 w x (.slice ad1 x.ex.sub.length cap1) (.slice ad2 x.ds.length cap2) (.slice ad x.sub.length cap) E;have HC:=Lh (Z0e x.bulk x _ _ _ W0 (Nat.le_refl _) hB (hs.frame hb0));unfold Con.val at HC;have c0:W0.cell? ⟨w.heap.size,0,none⟩=some (.int .u8 x.k):=bx.c.cell (j:=0) rfl
 have c1:W0.cell? ⟨w.heap.size,1,none⟩=some (.string x.fr):=bx.c.cell (j:=1) rfl;have c2:W0.cell? ⟨w.heap.size,2,none⟩=some (.string x.rc):=bx.c.cell (j:=2) rfl;have c3:W0.cell? ⟨w.heap.size,3,none⟩=some (.string x.nm):=bx.c.cell (j:=3) rfl;have c4:W0.cell? ⟨w.heap.size,4,none⟩=some (.int .u8 x.ex.k):=bx.c.cell (j:=4) rfl;have c5:W0.cell? ⟨w.heap.size,5,none⟩=some (.string x.ex.ra):=bx.c.cell (j:=5) rfl
 have c6:W0.cell? ⟨w.heap.size,6,none⟩=some (.string x.ex.nm):=bx.c.cell (j:=6) rfl;have c7:W0.cell? ⟨w.heap.size,7,none⟩=some (.int .i64 x.ex.d):=bx.c.cell (j:=7) rfl;have c8:W0.cell? ⟨w.heap.size,8,none⟩=some (.slice ad1 x.ex.sub.length cap1):=bx.c.cell (j:=8) rfl;have c9:W0.cell? ⟨w.heap.size,9,none⟩=some (.int .i64 x.d):=bx.c.cell (j:=9) rfl;have c10:W0.cell? ⟨w.heap.size,10,none⟩=some (.slice ad2 x.ds.length cap2):=bx.c.cell (j:=10) rfl
 have c11:W0.cell? ⟨w.heap.size,11,none⟩=some (.slice ad x.sub.length cap):=bx.c.cell (j:=11) rfl;have HB:=Lh bx;have h1:=hE.nf;have h2:=hE.nc;have h3:IntKind.i64.wrap (10+(E.F.length:Int))=10+(E.F.length:Int):=IntWalk.i64_in _ (by omega);have h4:IntKind.i64.wrap (10+(E.F.length:Int)+(E.C.length:Int))=10+(E.F.length:Int)+(E.C.length:Int):=IntWalk.i64_in _ (by omega);have Hb0:=Lh hb0;clear hs bx hE hb0
 show Calls _ _ #[.agg #[.int .u8 x.k,.string x.fr,.string x.rc,.string x.nm,.int .u8 x.ex.k,.string x.ex.ra,.string x.ex.nm,.int .i64 x.ex.d,.slice ad1 x.ex.sub.length cap1,.int .i64 x.d,.slice ad2 x.ds.length cap2,.slice ad x.sub.length cap],.agg #[.slice E.af E.F.length E.cf,.slice E.ac E.C.length E.cc]] _ _;go_enter Tryz.func39,Tryz.ntmps39
 go_upto_region 2 with (fail);go_wp2_with (go_at_call 81;refine HC.out.mono ?_;rintro e w1 ⟨⟨m,rfl⟩,hb1⟩;have hB1:=HB.out.below hb1;have v0:w1.cell? ⟨w.heap.size+1,0,none⟩=some (.slice E.af E.F.length E.cf):=hB1.v.cell (j:=0) rfl;have v1:w1.cell? ⟨w.heap.size+1,1,none⟩=some (.slice E.ac E.C.length E.cc):=hB1.v.cell (j:=1) rfl)
 all_goals
  go_ret;exact .mk _ rfl (Hb0.out.trans (hb1.mono Hb0.out.size))
theorem Zqf (x:Con) (es dd ss:Value) (E:EvD) (w:World) (hB:x.bulk≤2000000) (hs:RdN w x es dd ss) (hE:E.Rd w) (hf:∀ f ∈ E.F,f.small) (hc:∀ c ∈ E.C,c.small) :
  Calls Tryz.prog 9 #[x.val es dd ss,E.val] w (Zdz w):=by
 obtain ⟨ad,cap,rfl⟩:=hs.2.2.1.len;obtain ⟨ad1,cap1,rfl⟩:=hs.1.len;obtain ⟨ad2,cap2,rfl⟩:=hs.2.1.len;obtain ⟨W0,hW0,hb0,hz0,bx⟩:=Zn1 w x (.slice ad1 x.ex.sub.length cap1) (.slice ad2 x.ds.length cap2) (.slice ad x.sub.length cap) E;have HG:Hid (∀ W,Below W0.heap.size W0 W→Calls Tryz.prog 37 #[.agg #[.int .u8 x.k,.string x.fr,.string x.rc,.string x.nm,.int .u8 x.ex.k,.string x.ex.ra,.string x.ex.nm,.int .i64 x.ex.d,.slice ad1 x.ex.sub.length cap1,.int .i64 x.d,.slice ad2 x.ds.length cap2,.slice ad x.sub.length cap]] W (Zdz W)):=Lh fun W hb=>Ztb x _ _ _ W hB ((hs.frame hb0).frame hb)
 have HE:Hid (∀ W,Below W0.heap.size W0 W→Calls Tryz.prog 38 #[.agg #[.slice E.af E.F.length E.cf,.slice E.ac E.C.length E.cc]] W (Zdz W)):=Lh fun W hb=>(Zv4 E.F E.C E.af E.ac E.cf E.cc W hE.nf hE.nc ((hE.frame hb0).frame hb).f ((hE.frame hb0).frame hb).c hf hc).mono fun e w' h=>.mk _ h.1 h.2
 have HH:Hid (∀ W,Below W0.heap.size W0 W→Calls Tryz.prog 39 #[.agg #[.int .u8 x.k,.string x.fr,.string x.rc,.string x.nm,.int .u8 x.ex.k,.string x.ex.ra,.string x.ex.nm,.int .i64 x.ex.d,.slice ad1 x.ex.sub.length cap1,.int .i64 x.d,.slice ad2 x.ds.length cap2,.slice ad x.sub.length cap],.agg #[.slice E.af E.F.length E.cf,.slice E.ac E.C.length E.cc]] W (Zdz W)):=Lh fun W hb=>Zv9 x _ _ _ E W hB ((hs.frame hb0).frame hb) ((hE.frame hb0).frame hb)
 have c0:W0.cell? ⟨w.heap.size,0,none⟩=some (.int .u8 x.k):=bx.c.cell (j:=0) rfl;have c1:W0.cell? ⟨w.heap.size,1,none⟩=some (.string x.fr):=bx.c.cell (j:=1) rfl;have c2:W0.cell? ⟨w.heap.size,2,none⟩=some (.string x.rc):=bx.c.cell (j:=2) rfl;have c3:W0.cell? ⟨w.heap.size,3,none⟩=some (.string x.nm):=bx.c.cell (j:=3) rfl;have c4:W0.cell? ⟨w.heap.size,4,none⟩=some (.int .u8 x.ex.k):=bx.c.cell (j:=4) rfl
 have c5:W0.cell? ⟨w.heap.size,5,none⟩=some (.string x.ex.ra):=bx.c.cell (j:=5) rfl;have c6:W0.cell? ⟨w.heap.size,6,none⟩=some (.string x.ex.nm):=bx.c.cell (j:=6) rfl;have c7:W0.cell? ⟨w.heap.size,7,none⟩=some (.int .i64 x.ex.d):=bx.c.cell (j:=7) rfl;have c8:W0.cell? ⟨w.heap.size,8,none⟩=some (.slice ad1 x.ex.sub.length cap1):=bx.c.cell (j:=8) rfl;have c9:W0.cell? ⟨w.heap.size,9,none⟩=some (.int .i64 x.d):=bx.c.cell (j:=9) rfl
 have c10:W0.cell? ⟨w.heap.size,10,none⟩=some (.slice ad2 x.ds.length cap2):=bx.c.cell (j:=10) rfl;have c11:W0.cell? ⟨w.heap.size,11,none⟩=some (.slice ad x.sub.length cap):=bx.c.cell (j:=11) rfl;have HB:=Lh bx;have Hb0:=Lh hb0;clear hs bx hE hb0 hf hc;show Calls _ _ #[.agg #[.int .u8 x.k,.string x.fr,.string x.rc,.string x.nm,.int .u8 x.ex.k,.string x.ex.ra,.string x.ex.nm,.int .i64 x.ex.d,.slice ad1 x.ex.sub.length cap1,.int .i64 x.d,.slice ad2 x.ds.length cap2,.slice ad x.sub.length cap],.agg #[.slice E.af E.F.length E.cf,.slice E.ac E.C.length E.cc]] _ _
 go_enter Tryz.func9,Tryz.ntmps9
 go_upto_region 1 with (fail);clear hW0;go_wp2_with (first | (go_at_call 37;refine (HG.out _ (Below.refl _ _)).mono ?_;rintro e w1 ⟨⟨b1,rfl⟩,hb1⟩;have hB1:=HB.out.below hb1;have pv0:w1.cell? ⟨w.heap.size+1,0,none⟩=some (.slice E.af E.F.length E.cf):=hB1.v.cell (j:=0) rfl;have pv1:w1.cell? ⟨w.heap.size+1,1,none⟩=some (.slice E.ac E.C.length E.cc):=hB1.v.cell (j:=1) rfl;have hbA:=Hb0.out.trans (hb1.mono Hb0.out.size);cases b1) | (go_at_call 38;refine (HE.out _ hb1).mono ?_;rintro e w2 ⟨⟨b2,rfl⟩,hb2⟩;have hB2:=hB1.below hb2;have qv0:w2.cell? ⟨w.heap.size+1,0,none⟩=some (.slice E.af E.F.length E.cf):=hB2.v.cell (j:=0) rfl;have qv1:w2.cell? ⟨w.heap.size+1,1,none⟩=some (.slice E.ac E.C.length E.cc):=hB2.v.cell (j:=1) rfl;have k0:w2.cell? ⟨w.heap.size,0,none⟩=some (.int .u8 x.k):=hB2.c.cell (j:=0) rfl;have k1:w2.cell? ⟨w.heap.size,1,none⟩=some (.string x.fr):=hB2.c.cell (j:=1) rfl;have k2:w2.cell? ⟨w.heap.size,2,none⟩=some (.string x.rc):=hB2.c.cell (j:=2) rfl;have k3:w2.cell? ⟨w.heap.size,3,none⟩=some (.string x.nm):=hB2.c.cell (j:=3) rfl;have k4:w2.cell? ⟨w.heap.size,4,none⟩=some (.int .u8 x.ex.k):=hB2.c.cell (j:=4) rfl;have k5:w2.cell? ⟨w.heap.size,5,none⟩=some (.string x.ex.ra):=hB2.c.cell (j:=5) rfl;have k6:w2.cell? ⟨w.heap.size,6,none⟩=some (.string x.ex.nm):=hB2.c.cell (j:=6) rfl;have k7:w2.cell? ⟨w.heap.size,7,none⟩=some (.int .i64 x.ex.d):=hB2.c.cell (j:=7) rfl;have k8:w2.cell? ⟨w.heap.size,8,none⟩=some (.slice ad1 x.ex.sub.length cap1):=hB2.c.cell (j:=8) rfl;have k9:w2.cell? ⟨w.heap.size,9,none⟩=some (.int .i64 x.d):=hB2.c.cell (j:=9) rfl;have k10:w2.cell? ⟨w.heap.size,10,none⟩=some (.slice ad2 x.ds.length cap2):=hB2.c.cell (j:=10) rfl;have k11:w2.cell? ⟨w.heap.size,11,none⟩=some (.slice ad x.sub.length cap):=hB2.c.cell (j:=11) rfl;have hb12:=hb1.trans (hb2.mono hb1.size);have hbB:=hbA.trans (hb2.mono hbA.size);cases b2) | (go_at_call 39;refine (HH.out _ hb12).mono ?_;rintro e w3 ⟨⟨b3,rfl⟩,hb3⟩;have hbC:=hbB.trans (hb3.mono hbB.size)))
 all_goals
  go_ret;first | exact .mk _ rfl hbC | exact .mk _ rfl hbB | exact .mk _ rfl hbA
structure EvD.Sls (E:EvD) (W:World):Prop where
 f:Sl W (.slice E.af E.F.length E.cf) 3 E.F.length (E.F.flatMap Fx.cells)
 c:Sl W (.slice E.ac E.C.length E.cc) 4 E.C.length (E.C.flatMap Ch.cells)
 nf:E.af=none→E.cf=0
 nc:E.ac=none→E.cc=0
theorem EvD.Sls.frame {E:EvD} {W W':World} (h:E.Sls W) (hb:Below W.heap.size W W'):E.Sls W':=⟨h.f.below hb,h.c.below hb,h.nf,h.nc⟩
theorem Zp9 (c:Con) (a1 a2 a3:Option Addr) (n1 n2 n3:Nat) (day fin:Int) (E:EvD) (w:World) (h:BfH c (.slice a1 c.ex.sub.length n1) (.slice a2 c.ds.length n2) (.slice a3 c.sub.length n3) E w) (hs:E.Sls w) :
  Calls Tryz.prog 3 #[.agg #[.int .u8 c.k,.string c.fr,.string c.rc,.string c.nm,.int .u8 c.ex.k,.string c.ex.ra,.string c.ex.nm,.int .i64 c.ex.d,.slice a1 c.ex.sub.length n1,.int .i64 c.d,.slice a2 c.ds.length n2,.slice a3 c.sub.length n3],.int .i64 day,.int .i64 fin,.agg #[.slice E.af E.F.length E.cf,.slice E.ac E.C.length E.cc]] w fun e w'=>e = .returned (.bool true)∧Below w.heap.size w w':=by
 obtain ⟨W1,hW1,hb1,hB⟩:=Zb2 w c (.slice a1 c.ex.sub.length n1) (.slice a2 c.ds.length n2) (.slice a3 c.sub.length n3) E;have hz1:=hb1.size;have HB:=Lh hB;have Hb1:=Lh hb1;have HH:=Lh (h.frame hb1);have HS:=Lh (hs.frame hb1);have HG:=Lh (show Calls Tryz.prog 9 #[.agg #[.int .u8 c.k,.string c.fr,.string c.rc,.string c.nm,.int .u8 c.ex.k,.string c.ex.ra,.string c.ex.nm,.int .i64 c.ex.d,.slice a1 c.ex.sub.length n1,.int .i64 c.d,.slice a2 c.ds.length n2,.slice a3 c.sub.length n3],.agg #[.slice E.af E.F.length E.cf,.slice E.ac E.C.length E.cc]] W1 (Zdz W1) from Zqf c _ _ _ E W1 (by have:=h.bulk;omega) (h.rd.frame hb1) (h.e.frame hb1) h.fs h.cs)
 obtain ⟨x0,x1,x2,x3,x4,x5,x6,x7,x8,x9,x10,x11,xv0,xv1⟩:=hB.all;clear h hs hB hb1;go_enter Tryz.func3,Tryz.ntmps3
 go_upto_region 1 with (fail);clear hW1;go_wp2_with fail;refine HG.out.mono ?_;rintro e w2 ⟨⟨g,rfl⟩,hb2⟩;have Hb2:=Lh hb2;clear HG hb2 x0 x1 x2 x3 x4 x5 x6 x7 x8 x9 x10 x11 xv0 xv1
 cases g
 ·have hB2:=HB.out.below Hb2.out;obtain ⟨x0,x1,x2,x3,x4,x5,x6,x7,x8,x9,x10,x11,xv0,xv1⟩:=hB2.all;clear hB2;go_upto_region 3 with (fail);refine Zbb (fun L aa w'=>∃ (v0 v1 v2 v3 v4 v5:Value),aa=⟨#[.agg #[.int .u8 c.k,.string c.fr,.string c.rc,.string c.nm,.int .u8 c.ex.k,.string c.ex.ra,.string c.ex.nm,.int .i64 c.ex.d,.slice a1 c.ex.sub.length n1,.int .i64 c.d,.slice a2 c.ds.length n2,.slice a3 c.sub.length n3],.int .i64 day,.int .i64 fin,.agg #[.slice E.af E.F.length E.cf,.slice E.ac E.C.length E.cc],.pointer (some ⟨w.heap.size,0,none⟩),undef,undef,.pointer (some ⟨w.heap.size+1,0,none⟩),.bool false,v4,v5,undef,undef,undef,undef,undef,undef,undef,undef,.agg #[.int .u8 c.k,.string c.fr,.string c.rc,.string c.nm,.int .u8 c.ex.k,.string c.ex.ra,.string c.ex.nm,.int .i64 c.ex.d,.slice a1 c.ex.sub.length n1,.int .i64 c.d,.slice a2 c.ds.length n2,.slice a3 c.sub.length n3],.agg #[.slice E.af E.F.length E.cf,.slice E.ac E.C.length E.cc],.bool false,v0,v1,v2,v3,undef,undef,undef,undef,undef,undef,undef,undef,undef,undef,undef,undef,undef,undef,undef,undef,undef,undef,undef,undef,undef,undef,undef,undef,undef,undef,undef,undef,undef,undef,undef,undef,undef,undef,undef,undef,undef,undef,undef,undef,undef,undef,undef,undef,undef,undef,undef,undef,undef,undef,undef,undef,undef,undef,undef,undef,undef,undef],[]⟩∧MI w2 c E (.agg #[.int .u8 c.k,.string c.fr,.string c.rc,.string c.nm,.int .u8 c.ex.k,.string c.ex.ra,.string c.ex.nm,.int .i64 c.ex.d,.slice a1 c.ex.sub.length n1,.int .i64 c.d,.slice a2 c.ds.length n2,.slice a3 c.sub.length n3]) (.agg #[.slice E.af E.F.length E.cf,.slice E.ac E.C.length E.cc]) L v0 v1 v2 v3 v4 v5 w') (by kernel_rfl) (by kernel_rfl) ?_ ?_ ?_
  ·exact ⟨_,_,_,_,_,_,rfl,MI.start (below_drewN (Below.refl _ _) 1)⟩
  ·rintro L aa w' ⟨v0,v1,v2,v3,v4,v5,rfl,h⟩ hc i0 op9 ho hL hp;have hi9:i0 < 8:=by simpa using (Array.getElem?_eq_some_iff.1 ho).1
   have hi2:i0=0∨i0=1∨i0=2∨i0=3∨i0=4∨i0=5∨i0=6∨i0=7:=by omega
   clear hi9;have hbB:=Hb2.out.trans (h.b.mono Hb2.out.size);rcases hi2 with rfl | rfl | rfl | rfl | rfl | rfl | rfl | rfl
   ·refine wpOp_step rfl ?_;intro K hK;have hB9:=HB.out.below hbB;obtain ⟨x0,x1,x2,x3,x4,x5,x6,x7,x8,x9,x10,x11,xv0,xv1⟩:=hB9.all;clear hB9;go_simp;exact hK _ _ ⟨_,_,_,_,_,_,rfl,h.u0⟩
   ·refine wpOp_step rfl ?_;intro K hK;have h6:=Zba hc hL 6 (by kernel_rfl);have f0:=h.l0 (Zaa ho hp (j:=0) (by kernel_rfl));subst f0;go_simp;refine (show Calls Tryz.prog 10 #[.agg #[.int .u8 c.k,.string c.fr,.string c.rc,.string c.nm,.int .u8 c.ex.k,.string c.ex.ra,.string c.ex.nm,.int .i64 c.ex.d,.slice a1 c.ex.sub.length n1,.int .i64 c.d,.slice a2 c.ds.length n2,.slice a3 c.sub.length n3]] w' _ from Zuw c.bulk c _ _ _ w' (Nat.le_refl _) (by have:=HH.out.bulk;omega) (HH.out.rd.frame hbB)).mono ?_
    rintro e w4 ⟨s,rfl,hk,hcs,hb4⟩;exact hK _ _ ⟨_,_,_,_,_,_,rfl,h.u1 h6 hb4 hcs hk⟩
   ·refine wpOp_step rfl ?_;intro K hK;have hB9:=HB.out.below hbB;obtain ⟨x0,x1,x2,x3,x4,x5,x6,x7,x8,x9,x10,x11,xv0,xv1⟩:=hB9.all;clear hB9;go_simp;exact hK _ _ ⟨_,_,_,_,_,_,rfl,h.u2⟩
   ·refine wpOp_step rfl ?_;intro K hK;have h7:=Zba hc hL 7 (by kernel_rfl);have f2:=h.l2 (Zaa ho hp (j:=2) (by kernel_rfl));subst f2;go_simp;refine (Zx3 E.F E.C E.af E.ac E.cf E.cc w' HH.out.e.nf HH.out.e.nc (HS.out.frame hbB).f (HS.out.frame hbB).c HS.out.nf HS.out.nc).mono ?_;rintro e w4 hq;obtain ⟨a4,c4,a5,c5,rfl,hk,hb4⟩:=Zx4 HH.out.e.nf HH.out.e.nc hq;exact hK _ _ ⟨_,_,_,_,_,_,rfl,h.u3 h7 hb4 hk⟩
   ·refine wpOp_step rfl ?_;intro K hK;have h6:=Zba hc hL 6 (by kernel_rfl);go_simp;exact hK _ _ ⟨_,_,_,_,_,_,rfl,h.u4 h6⟩
   ·refine wpOp_step rfl ?_;intro K hK;have h7:=Zba hc hL 7 (by kernel_rfl);go_simp;exact hK _ _ ⟨_,_,_,_,_,_,rfl,h.u5 h7⟩
   ·refine wpOp_step rfl ?_;intro K hK;have h1:=Zaa ho hp (j:=1) (by kernel_rfl);have h4:=Zaa ho hp (j:=4) (by kernel_rfl);obtain ⟨s,N,M,e1,hcs,_⟩:=h.k1 h1;obtain ⟨B,e4,hB,hl,hx,_⟩:=h.b4 h4;have hx:=hx hL;subst e1 e4;obtain ⟨s1,s2,s3⟩:=s;obtain ⟨⟨q1,r1,t1,rfl⟩,⟨q2,r2,t2,rfl⟩,q3,r3,t3,rfl⟩:=hcs;obtain ⟨W9,hW9,hp9,hx9⟩:=Zvk (v0:=.int .u8 c.k) (v1:=.string c.fr) (v2:=.string c.rc) (v3:=.string c.nm) (v4:=.int .u8 c.ex.k) (v5:=.string c.ex.ra) (v6:=.string c.ex.nm) (v7:=.int .i64 c.ex.d) (v8:=.slice q1 r1 t1) (v9:=.int .i64 c.d) (v10:=.slice q2 r2 t2) (v11:=.slice q3 r3 t3) hx rfl
    have hf9:∀ k,k ≠ B→W9.heap[k]? = w'.heap[k]?:=by rw [← hW9];exact Z3k
    obtain ⟨z0,z1,z2,z3,z4,z5,z6,z7,z8,z9,z10,z11⟩:=Zvj hx;obtain ⟨y0,y1,y2,y3,y4,y5,y6,y7,y8,y9,y10,y11⟩:=Z2z hx;unfold Con.val;go_simp;exact hK _ _ ⟨_,_,_,_,_,_,rfl,h.u6 h4 rfl rfl hB hp9 hf9 hx9⟩
   ·refine wpOp_step rfl ?_;intro K hK;have h3:=Zaa ho hp (j:=3) (by kernel_rfl);have h5:=Zaa ho hp (j:=5) (by kernel_rfl);obtain ⟨a4,a5,c4,c5,N,M,e3,_⟩:=h.k3 h3;obtain ⟨B,e5,hB,hl,hx,_⟩:=h.b5 h5;have hx:=hx hL;subst e3 e5;obtain ⟨W9,hW9,hp9,hx9⟩:=Zyk hx (.slice a4 E.F.length c4) (.slice a5 E.C.length c5);have hf9:∀ k,k ≠ B→W9.heap[k]? = w'.heap[k]?:=by rw [← hW9];exact far2
    have z0:=hx.cell (j:=0) rfl;have z1:=hx.cell (j:=1) rfl;have y0:=hx.frozen 0;have y1:=hx.frozen 1;go_simp;exact hK _ _ ⟨_,_,_,_,_,_,rfl,h.u7 h5 rfl rfl hB hp9 hf9 hx9⟩
  ·rintro L aa w3 ⟨v0,v1,v2,v3,v4,v5,rfl,h⟩ hall;obtain ⟨s,a4,a5,c4,c5,B4,B5,rfl,rfl,hcs,hrd,hev,x4,x5,hb3⟩:=h.fin hall;obtain ⟨s1,s2,s3⟩:=s;obtain ⟨q1,r1,rfl⟩:∃ ad cap,s1 = .slice ad c.ex.sub.length cap:=hrd.1.len
   obtain ⟨q2,r2,rfl⟩:∃ ad cap,s2 = .slice ad c.ds.length cap:=hrd.2.1.len
   obtain ⟨q3,r3,rfl⟩:∃ ad cap,s3 = .slice ad c.sub.length cap:=hrd.2.2.1.len
   have hb13:=Hb2.out.trans (hb3.mono Hb2.out.size);have Hb3:=Lh hb13;have Hbw:=Lh (Hb1.out.trans (hb13.mono hz1));have H0:=Lh (HH.out.frame hb13);have H2:Hid (BfH c (.slice q1 c.ex.sub.length r1) (.slice q2 c.ds.length r2) (.slice q3 c.sub.length r3) ⟨E.F,E.C,a4,a5,c4,c5⟩ w3):=⟨HH.out.bulk,hrd,H0.out.ls,H0.out.lp,H0.out.lo,hev,HH.out.fs,HH.out.cs⟩
   have X0:=Lh (HB.out.below hb13);have X4:=Lh x4;have X5:=Lh x5;clear h hall hcs hrd hev x4 x5 hb3 hb13 HS HB HH Hb2;have Hb30:=Lh (Below.refl w3.heap.size w3);have HP:=Lh fun W (hb:Below w3.heap.size w3 W)=>And.intro (X0.out.below hb).all (And.intro (Zvj (X4.out.below hb X4.out.lt)) (And.intro ((X5.out.below hb X5.out.lt).cell (j:=0) rfl) ((X5.out.below hb X5.out.lt).cell (j:=1) rfl)))
   obtain ⟨⟨p0,p1,p2,p3,p4,p5,p6,p7,p8,p9,p10,p11,pv0,pv1⟩,⟨m0,m1,m2,m3,m4,m5,m6,m7,m8,m9,m10,m11⟩,mv0,mv1⟩:=HP.out _ Hb30.out;have l1:=Nat.le_trans (Zrj c day 100000 E.F E.C) H0.out.bulk;have l2:=Nat.le_trans (Zrj c day fin E.F E.C) H0.out.bulk;have C1:=Lh (Zt4 c _ _ _ day ⟨E.F,E.C,a4,a5,c4,c5⟩ w3 H2.out);have C2:=Lh fun W (hb:Below w3.heap.size w3 W)=>Zul (H0.out.frame hb) day
   have C3:=Lh fun W (hb:Below w3.heap.size w3 W)=>Zls c _ _ _ day fin ⟨E.F,E.C,a4,a5,c4,c5⟩ W (H2.out.frame hb)
   have C4:=Lh fun W (hb:Below w3.heap.size w3 W)=>Zq0 (H0.out.frame hb) day fin
   dsimp only at C1 C3
   generalize befR c day 100000 E.F E.C=R1 at *;generalize befR c day fin E.F E.C=R2 at *;have C5:=Lh (fun W (hb:Below w3.heap.size w3 W)=>(show Calls Tryz.prog 17 #[.agg #[.int .u8 c.k,.string c.fr,.string c.rc,.string c.nm,.int .u8 c.ex.k,.string c.ex.ra,.string c.ex.nm,.int .i64 c.ex.d,.slice a1 c.ex.sub.length n1,.int .i64 c.d,.slice a2 c.ds.length n2,.slice a3 c.sub.length n3],.agg #[.int .u8 c.k,.string c.fr,.string c.rc,.string c.nm,.int .u8 c.ex.k,.string c.ex.ra,.string c.ex.nm,.int .i64 c.ex.d,.slice q1 c.ex.sub.length r1,.int .i64 c.d,.slice q2 c.ds.length r2,.slice q3 c.sub.length r3]] W (fun e w'=>e = .returned (.bool true)∧Below W.heap.size W w') from Zus c.bulk c _ _ _ _ _ _ W (Nat.le_refl _) (by have:=H0.out.bulk;omega) (H0.out.rd.frame hb) (H2.out.rd.frame hb)))
   have C6:=Lh (fun W (hb:Below w3.heap.size w3 W)=>(show Calls Tryz.prog 18 #[.agg #[.slice a4 E.F.length c4,.slice a5 E.C.length c5],.agg #[.slice E.af E.F.length E.cf,.slice E.ac E.C.length E.cc]] W (fun e w'=>e = .returned (.bool true)∧Below W.heap.size W w') from by
    have q:=Zz1 E.F E.F E.C E.C a4 a5 E.af E.ac c4 c5 E.cf E.cc W H0.out.e.nf H0.out.e.nc H0.out.e.nf H0.out.e.nc (H2.out.e.frame hb).f (H2.out.e.frame hb).c (H0.out.e.frame hb).f (H0.out.e.frame hb).c;rwa [Zgm ⟨rfl,rfl⟩] at q))
   clear H0 H2;go_wp2_with fail;refine C1.out.mono ?_;rintro e w4 ⟨ad1,cp1,rfl,hb4,_,_,rd1⟩;have Hb4:=Lh hb4;clear p0 m0 p1 m1 p2 m2 p3 m3 p4 m4 p5 m5 p6 m6 p7 m7 p8 m8 p9 m9 p10 m10 p11 m11 pv0 pv1 mv0 mv1;obtain ⟨⟨p0,p1,p2,p3,p4,p5,p6,p7,p8,p9,p10,p11,pv0,pv1⟩,⟨m0,m1,m2,m3,m4,m5,m6,m7,m8,m9,m10,m11⟩,mv0,mv1⟩:=HP.out _ Hb4.out;clear hb4 C1;go_wp2_with fail;refine (C2.out _ Hb4.out).mono ?_;rintro e w5 ⟨ad2,cp2,rfl,hb5,rd2⟩
   have Hb5:=Lh (Hb4.out.trans (hb5.mono Hb4.out.size));have rd1:=rd1.below hb5;clear p0 m0 p1 m1 p2 m2 p3 m3 p4 m4 p5 m5 p6 m6 p7 m7 p8 m8 p9 m9 p10 m10 p11 m11 pv0 pv1 mv0 mv1;obtain ⟨⟨p0,p1,p2,p3,p4,p5,p6,p7,p8,p9,p10,p11,pv0,pv1⟩,⟨m0,m1,m2,m3,m4,m5,m6,m7,m8,m9,m10,m11⟩,mv0,mv1⟩:=HP.out _ Hb5.out;clear hb5 C2 Hb4;go_wp2_with fail;refine (C3.out _ Hb5.out).mono ?_;rintro e w6 ⟨ad3,cp3,rfl,hb6,_,_,rd3⟩
   have Hb6:=Lh (Hb5.out.trans (hb6.mono Hb5.out.size));have rd1:=rd1.below hb6;have rd2:=rd2.below hb6;clear p0 m0 p1 m1 p2 m2 p3 m3 p4 m4 p5 m5 p6 m6 p7 m7 p8 m8 p9 m9 p10 m10 p11 m11 pv0 pv1 mv0 mv1;obtain ⟨⟨p0,p1,p2,p3,p4,p5,p6,p7,p8,p9,p10,p11,pv0,pv1⟩,⟨m0,m1,m2,m3,m4,m5,m6,m7,m8,m9,m10,m11⟩,mv0,mv1⟩:=HP.out _ Hb6.out;clear hb6 C3 Hb5;go_wp2_with fail;refine (C4.out _ Hb6.out).mono ?_;rintro e w7 ⟨ad4,cp4,rfl,hb7,rd4⟩
   have Hb7:=Lh (Hb6.out.trans (hb7.mono Hb6.out.size));have rd1:=rd1.below hb7;have rd2:=rd2.below hb7;have rd3:=rd3.below hb7;clear p0 m0 p1 m1 p2 m2 p3 m3 p4 m4 p5 m5 p6 m6 p7 m7 p8 m8 p9 m9 p10 m10 p11 m11 pv0 pv1 mv0 mv1;clear hb7 C4 Hb6;have S1:=Lh (Zmh R1.2 ad1 ad2 cp1 cp2 w7 l1 rd1 rd2);have S2:=Lh (fun W (hb:Below w7.heap.size w7 W)=>Zmh R2.2 ad3 ad4 cp3 cp4 W l2 (rd3.below hb) (rd4.below hb))
   clear rd1 rd2 rd3 rd4;go_wp2_with fail;refine S1.out.mono ?_;rintro e w8 ⟨rfl,hb8⟩;have Hb8:=Lh hb8;clear hb8 S1;go_wp2_with fail;refine (S2.out _ Hb8.out).mono ?_;rintro e w9 ⟨rfl,hb9⟩;have Hb9:=Lh (Hb7.out.trans ((Hb8.out.trans (hb9.mono Hb8.out.size)).mono Hb7.out.size));obtain ⟨⟨p0,p1,p2,p3,p4,p5,p6,p7,p8,p9,p10,p11,pv0,pv1⟩,⟨m0,m1,m2,m3,m4,m5,m6,m7,m8,m9,m10,m11⟩,mv0,mv1⟩:=HP.out _ Hb9.out
   clear hb9 S2 Hb8;go_wp2_with fail;refine (C5.out _ Hb9.out).mono ?_;rintro e w10 ⟨rfl,hb10⟩;have Hb10:=Lh (Hb9.out.trans (hb10.mono Hb9.out.size));clear p0 m0 p1 m1 p2 m2 p3 m3 p4 m4 p5 m5 p6 m6 p7 m7 p8 m8 p9 m9 p10 m10 p11 m11 pv0 pv1 mv0 mv1;obtain ⟨⟨p0,p1,p2,p3,p4,p5,p6,p7,p8,p9,p10,p11,pv0,pv1⟩,⟨m0,m1,m2,m3,m4,m5,m6,m7,m8,m9,m10,m11⟩,mv0,mv1⟩:=HP.out _ Hb10.out;clear hb10 C5;go_wp2_with fail
   refine (C6.out _ Hb10.out).mono ?_;rintro e w11 ⟨rfl,hb11⟩;have hbz:=Hbw.out.trans ((Hb10.out.trans (hb11.mono Hb10.out.size)).mono Hbw.out.size);clear p0 m0 p1 m1 p2 m2 p3 m3 p4 m4 p5 m5 p6 m6 p7 m7 p8 m8 p9 m9 p10 m10 p11 m11 pv0 pv1 mv0 mv1;clear hb11 C6;go_wp2;go_ret;exact ⟨rfl,hbz⟩
 ·go_wp2;go_ret;exact ⟨rfl,Hb1.out.trans (Hb2.out.mono hz1)⟩
theorem Zp8 {c:Con} {es dd ss:Value} {E:EvD} {w:World} (h:BfH c es dd ss E w) (hs:E.Sls w) (day fin:Int) :
  Calls Tryz.prog 3 #[c.val es dd ss,.int .i64 day,.int .i64 fin,E.val] w fun e w'=>e = .returned (.bool true)∧Below w.heap.size w w':=by
 obtain ⟨a1,n1,rfl⟩:=h.rd.1.len;obtain ⟨a2,n2,rfl⟩:=h.rd.2.1.len;obtain ⟨a3,n3,rfl⟩:=h.rd.2.2.1.len;exact Zp9 c a1 a2 a3 n1 n2 n3 day fin E w h hs
end Go.Proofs.YtknpnhodpgajbaaGreatDoor
namespace Go.Proofs.YtknpnhodpgajbaaGreatDoor
open Go.ChangeShapes Go.WideShapes Go.ChangeAt Go.RowKit Go.Joins Go.Deep
theorem Zw9 {H:Type} {enc:TypeId × Value→H} {W:World} {base:Nat} {v:Value} {d:DataW H} {p:List MemPlace}
  (hv:Value.okWide Tryz.prog W .any base 33 v) (h:DataW.Trod enc Tryz.prog W 0 (fun _=>true) true 33 v d p) (hb:Rows.uptoBulk d≤1048576) :
  ∃ E:EvD,v=E.val∧E.Rd W∧(∀ f ∈ E.F,f.small)∧(∀ c ∈ E.C,c.small)∧E.Sls W:=by
 obtain ⟨f0,f1,e0,e1,e2,e3⟩:=Zyz;obtain ⟨va,vb,ya,yb,n,rfl,rfl,rfl,ta,tb⟩:=open_agg2 e0 e1 Zvv hv h;rw [e2] at ta;rw [e3] at tb;have ba:Rows.uptoBulk ya.1≤1048576:=Nat.le_trans (Zgk (by simp)) hb;have bb:Rows.uptoBulk yb.1≤1048576:=Nat.le_trans (Zgk (by simp)) hb;obtain ⟨af,cf,fs,rfl,haf,sf,lf,gf⟩:=Zo5 Fx.cells 3 (fun _=>rfl) (by decide) (fun f d=>f.fits∧(Rows.uptoBulk d≤1048576→f.small)) Tryz.underlying30 Zy3 (fun _ _ _ hl h=>Z2s hl h) ta
 obtain ⟨ac,cc,cs,rfl,hac,sc,lc,gc⟩:=Zo5 Ch.cells 4 (fun _=>rfl) (by decide) (fun f d=>f.fits∧(Rows.uptoBulk d≤1048576→f.small)) Tryz.underlying31 Zyp (fun _ _ _ hl h=>Z2q hl h) tb;have Rf:=Rd.of_sl (enc:=Fx.cells) (m:=3) (fun _=>rfl) (by decide) sf;have Rc:=Rd.of_sl (enc:=Ch.cells) (m:=4) (fun _=>rfl) (by decide) sc;exact ⟨⟨fs,cs,af,ac,cf,cc⟩,rfl,⟨Rf,Rc,by show fs.length≤_;omega,by show cs.length≤_;omega⟩,
  fun f hf=>by obtain ⟨d,⟨_,h⟩,hd⟩:=gf f hf;exact h (by omega),fun f hf=>by obtain ⟨d,⟨_,h⟩,hd⟩:=gc f hf;exact h (by omega),⟨sf,sc,haf,hac⟩⟩
theorem contractW10 (H:Type) (enc:TypeId × Value→H) (W:World) (base:Nat) (args:Array Value) (ds gs:List (DataW H)) (before:List MemPlace)
  (hval:∀ (j:Nat) t v,Tryz.f3.params[j]? = some t→args[j]? = some v→Value.okWide Tryz.prog W .any base t v)
  (hW:DataW.Whole enc Tryz.prog Tryz.f3.params.toList Rows.meaningFlowsSpec.vars false W args.toList ds gs before) (hk:Rows.uptoSmall H (ds ++ gs)=true)
  (hL:laidMetH Tryz.prog Rows.meaningFlowsUptoRow.laid W) :
  Calls Tryz.prog 3 args W fun e W'=>∃ v,e = .returned v∧Rows.meaningFlowsSpec.post enc Tryz.prog Tryz.f3 false true false false W args v W':=by
 have hW':=hW;obtain ⟨p,q,hA0,hV,rfl,hfz,hnd⟩:=hW;have hA:DataW.TrodAll enc Tryz.prog W 0 (fun _=>true) true Tryz.f3.params.toList args.toList ds p:=hA0;rw [Tryz.params3] at hA hval;obtain ⟨v0,vs0,d0,ds0,p0,q0,hargs,rfl,rfl,h0,r0⟩:=trodAll_cons hA;obtain ⟨v1,vs1,d1,ds1,p1,q1,rfl,rfl,rfl,h1,r1⟩:=trodAll_cons r0;obtain ⟨v2,vs2,d2,ds2,p2,q2,rfl,rfl,rfl,h2,r2⟩:=trodAll_cons r1;obtain ⟨v3,vs3,d3,ds3,p3,q3,rfl,rfl,rfl,h3,r3⟩:=trodAll_cons r2
 obtain ⟨rfl,rfl,rfl⟩:=trodAll_nil r3;obtain rfl:args=#[v0,v1,v2,v3]:=by cases args;simp_all
 obtain ⟨rfl,rfl⟩:=trodVars_none hV;have k0:=h0;have l0:∀ x ∈ p0,x.block < W.heap.size:=by obtain ⟨m,hm⟩:=k0;exact DataW.trod_lt m _ _ _ hm
 have k1:=h1;have l1:∀ x ∈ p1,x.block < W.heap.size:=by obtain ⟨m,hm⟩:=k1;exact DataW.trod_lt m _ _ _ hm
 have k2:=h2;have l2:∀ x ∈ p2,x.block < W.heap.size:=by obtain ⟨m,hm⟩:=k2;exact DataW.trod_lt m _ _ _ hm
 have k3:=h3;have l3:∀ x ∈ p3,x.block < W.heap.size:=by obtain ⟨m,hm⟩:=k3;exact DataW.trod_lt m _ _ _ hm
 have hb:Rows.uptoBulkAll [d0,d1,d2,d3]≤1048576:=by
  have h:Rows.uptoBulkAll ([d0,d1,d2,d3] ++ [])≤1048576:=of_decide_eq_true hk;rw [List.append_nil] at h;exact h
 have hsum:Rows.uptoBulk d0+Rows.uptoBulk d1+Rows.uptoBulk d2+Rows.uptoBulk d3≤1048576:=by
  simp only [Rows.uptoBulkAll] at hb;omega
 obtain ⟨c0,es0,dd0,ss0,rfl,hr0,hc0⟩:=Zzj (hval 0 _ v0 rfl rfl) h0;obtain ⟨n1,rfl,rfl,rfl,w1⟩:=open_int Tryz.underlying3 (hval 1 3 v1 rfl rfl) h1;obtain ⟨n2,rfl,rfl,rfl,w2⟩:=open_int Tryz.underlying3 (hval 2 3 v2 rfl rfl) h2;obtain ⟨E,rfl,hE,hEf,hEc,hEs⟩:=Zw9 (hval 3 _ v3 rfl rfl) h3 (by omega);obtain ⟨hS,hP,hO⟩:=Zt2 hL;clear hA0;refine (Zp8 ⟨by omega,hr0,hS,hP,hO,hE,hEf,hEc⟩ hEs n1 n2).mono fun e W' ⟨he,bel⟩=>?_
 subst he;exact ⟨_,rfl,_,_,_,[],_,[],hW',trodAll_mk1 (shut_bool Tryz.underlying4 _),
  trodAll_cons_mk (Below.trod Zh1 (by kernel_rfl) (of_decide_eq_true (by kernel_rfl)) k0 bel l0) (trodAll_cons_mk (Below.trod Zh1 (by kernel_rfl) (of_decide_eq_true (by kernel_rfl)) k1 bel l1) (trodAll_cons_mk (Below.trod Zh1 (by kernel_rfl) (of_decide_eq_true (by kernel_rfl)) k2 bel l2) (trodAll_cons_mk (Below.trod Zh1 (by kernel_rfl) (of_decide_eq_true (by kernel_rfl)) k3 bel l3) (trodAll_mk0)))),
  rfl,bel.frame _,fun h=>by cases h⟩
def argW10:Array Value:=#[.agg #[.int .u8 0,.string ⟨#[]⟩,.string ⟨#[]⟩,.string ⟨#[]⟩,.int .u8 0,.string ⟨#[]⟩,.string ⟨#[]⟩,.int .i64 0,.slice none 0 0,.int .i64 0,.slice none 0 0,.slice none 0 0],.int .i64 0,.int .i64 0,.agg #[.slice none 0 0,.slice none 0 0]]
theorem metW10 (os:Os):laidMetH Tryz.prog Rows.meaningFlowsUptoRow.laid ((World.doorLaid Tryz.prog 176 os).forCall (fun _ _=>0) ⟨#[],argW10,[]⟩).memory :=
 laidMetH_of_parts3 (fuel:=8) (laidMet_of_run' 8 (by kernel_rfl) (by kernel_rfl)) (by kernel_rfl) (by kernel_rfl)
theorem readsW10 (os:Os) {H:Type} (enc:TypeId × Value→H):∃ places,DataW.whole enc Tryz.prog ((World.doorLaid Tryz.prog 176 os).forCall (fun _ _=>0) ⟨#[],argW10,[]⟩).memory Tryz.f3.params.toList Rows.meaningFlowsSpec.vars false argW10.toList 8 =
  some ([.agg [.lit (.int .u8 0),.lit (.string []),.lit (.string []),.lit (.string []),.agg [.lit (.int .u8 0),.lit (.string []),.lit (.string []),.lit (.int .i64 0),.nil],.lit (.int .i64 0),.nil,.nil],.lit (.int .i64 0),.lit (.int .i64 0),.agg [.nil,.nil]],[],places) :=
 ⟨[],by kernel_rfl⟩
theorem liftedW10 (os:Os) (started:os.Started) (H:Type) (enc:TypeId × Value→H) (F:Stop.Interp) :
  ReturnsInHanded {} Tryz.checked os 3 .any ((Rows.OpenSpec.upto Rows.meaningFlowsSpec).preRow enc Tryz.prog Tryz.f3 Rows.meaningFlowsUptoRow.domain false Rows.meaningFlowsUptoRow.laid) (((Rows.OpenSpec.upto Rows.meaningFlowsSpec).at F).post enc Tryz.prog Tryz.f3 false true false false):=by
 obtain ⟨places,hx⟩:=readsW10 os enc;refine returnsInHanded_of_row (C:=Tryz.checked) (s:=Rows.OpenSpec.upto Rows.meaningFlowsSpec) Z3n started (by kernel_rfl) Tryz.func3
  (witness_row_atRef (enc:=enc) (C:=Tryz.checked) false (World.doorLaid Tryz.prog 176 os) argW10 rfl (by kernel_rfl) (by kernel_rfl) (by kernel_rfl)
   (OpenSpec.preRow_of_cond 8 hx (by kernel_rfl) (fun k hk=>by cases hk;kernel_rfl) (by kernel_rfl) (metW10 os))) ?_
 intro W base args ds gs before hval hW _ hcond _ hL _ _;exact contractW10 H enc W base args ds gs before hval hW (hcond _ rfl) hL
theorem meaningFlows_upto:Rows.MeaningFlowsUptoSaid :=
 OpenClaim.holds_of_cond 3 Tryz.f3 rfl rfl rfl rfl rfl rfl rfl ⟨rfl,rfl,rfl,rfl,rfl⟩ rfl rfl rfl rfl rfl (by kernel_rfl) Tryz.func3 (by kernel_rfl)
  (of_decide_eq_true (by kernel_rfl)) (by unfold Func.isWrapper;first | (rw [if_pos (by decide +kernel)];kernel_rfl) | (rw [if_neg (by decide +kernel)];exact ⟨rfl,rfl⟩))
  (fun os started H enc _ F=>by rw [OpenClaim.pre_eq_preRow];exact liftedW10 os started H enc F)
theorem plainW10 (f : FuncId) (fn : Func) (hf : Tryz.pinned.checked.prog.funcNamed "novation/novationlaw10.MeaningFlows" = some f) (hfn : Tryz.pinned.checked.prog.funcs[f]? = some fn) :
  true=Tryz.pinned.checked.prog.looks []∧∀ (j:Nat) t,fn.params[j]? = some t→Tryz.pinned.checked.prog.wantsStandIn t=false:=by
 obtain rfl : f = 3 := Option.some.inj ((show Tryz.prog.funcNamed "novation/novationlaw10.MeaningFlows" = some 3 by kernel_rfl).symm.trans hf) |>.symm
 obtain rfl:fn=Tryz.f3:=(Option.some.inj (Tryz.func3.symm.trans hfn)).symm;refine ⟨by kernel_rfl,fun j t ht=>?_⟩;rw [Tryz.params3] at ht;have hm:t ∈ [29,3,33]:=by simpa using Array.mem_of_getElem? ht
 have hall:([29,3,33].all fun u=>!Tryz.prog.wantsStandIn u)=true:=by kernel_rfl
 exact (show Tryz.prog.wantsStandIn t=false by simpa using List.all_eq_true.1 hall t hm)
theorem meaningFlows_card:Rows.MeaningFlowsUptoCardSaid :=
 Claim7.holds_tied_plain_at .later [] _ _ _ _ meaningFlows_upto (fun _ h=>by cases h) (by kernel_rfl) (fun _ h=>by cases h) meaningFlowsUpto_row_tie rfl ⟨rfl,rfl⟩ (by kernel_rfl) rfl plainW10 (by kernel_rfl)
#print axioms meaningFlows_card
end Go.Proofs.YtknpnhodpgajbaaGreatDoor
