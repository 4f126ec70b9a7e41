/- A part. -/
import Derived.Test.YtknpnhodpgajbaaGreatDoorG24
import Derived.Test.YtknpnhodpgajbaaGreatDoorG22
set_option maxHeartbeats 8000000
set_option maxRecDepth 100000
namespace Go.Proofs.YtknpnhodpgajbaaGreatDoor
open Go.RowKit
theorem Zq5 {sx:Bool} {N D:Nat} (hN:N < ten 1000) (hD:D < ten 1000) (hd:D ≠ 0) {x y:ByteArray} (hx:bl x=istr sx N) (hy:bl y=istr false D) :
  (∀ W,Calls Tryz.prog 149 #[.string x,.string y] W (Z0y W (Nat.gcd N D))) ∧
  (∀ W (g:ByteArray),bl g=istr false (Nat.gcd N D)→Calls Tryz.prog 202 #[.string x,.string g] W (Zs2 W (sgnv sx (N / Nat.gcd N D)))) ∧
  ∀ W (g:ByteArray),bl g=istr false (Nat.gcd N D)→Calls Tryz.prog 202 #[.string y,.string g] W (Zs2 W (sgnv false (D / Nat.gcd N D))):=by
 have s1:=Zcc hx hN;have s2:=Zcc hy hD;have hg0:Nat.gcd N D ≠ 0:=fun e=>hd (Nat.eq_zero_of_gcd_eq_zero_right e)
 have hgl:Nat.gcd N D < ten 1000:=Nat.lt_of_le_of_lt (Nat.gcd_le_right N (Nat.pos_of_ne_zero hd)) hD;have ix:Zab (bl x)=0:=by rw [hx];exact Zbw hN
 have iy:Zab (bl y)=0:=by rw [hy];exact Zbw hD
 refine ⟨fun W=>?_,fun W g hg=>?_,fun W g hg=>?_⟩
 ·have k:=Zxl x y W (by omega) (by omega) ix iy;rwa [hx,hy,Zaq,Zaq] at k
 ·have hs:=Zcc hg hgl;have k:=Zmg x g W (by omega) (by omega) ix (by rw [hg];exact Zbw hgl) (by rw [hg,Zaq];exact hg0) (by rw [hg,Zaq,hx,Zaq];exact Nat.gcd_dvd_left _ _);rw [hg,hx,Zaq,Zaq,Za8,Za8,Bool.false_and] at k;by_cases hz:N=0
  ·have e2:∀ sg,sgnv sg (N / Nat.gcd N D)=0:=fun sg=>by rw [hz,Nat.zero_div];cases sg <;> rfl
   rw [e2] at k ⊢;exact k
  ·rw [decide_eq_true hz,Bool.and_true] at k
   cases sx <;> exact k
 ·have hs:=Zcc hg hgl;have k:=Zmg y g W (by omega) (by omega) iy (by rw [hg];exact Zbw hgl) (by rw [hg,Zaq];exact hg0) (by rw [hg,Zaq,hy,Zaq];exact Nat.gcd_dvd_right _ _);rwa [hg,hy,Zaq,Zaq,Za8,Za8] at k
theorem Zpd (a b:ByteArray) (w:World) (ha:a.size≤1100000) (hb:b.size≤1100000) (h0:Zab (bl a)=0) (h:Zab (bl b)=0) (hd0:dval (body (bl b)) ≠ 0) :
  Calls Tryz.prog 188 #[.string a,.string b] w (Zgz w (Zbd (!(Zaj (bl a) == Zaj (bl b))) (dval (body (bl a))) (dval (body (bl b))))):=by
 have HBo:=Zeb a b w ha hb;rw [Zcm h0 h] at HBo;have HBo:=Lh HBo;have HNa:=Lh (fun W=>Zsp a W ha h0);have HNb:=Lh (fun W=>Zsp b W hb h);have HA:=Lh (Zap h0);have HB:=Lh (Zap h);have Ca:=Lh (Zdt (Zao h0).1);have Cb:=Lh (Zdt (Zao h).1);have hp:=Zih (Zao h).1;have tz:=Zgb (fun e=>hd0 ((Zfd (Zao h).1).1 e):bl b ≠ [48]);have t4:=Zr9 hp;obtain ⟨c,hc⟩:∃ c,b[0]=c:=⟨_,rfl⟩
 rw [hc] at t4;have HD:=Lh hd0;clear ha hb h0 h hd0;rw [Zbd];generalize dval (body (bl a))=N at *;generalize dval (body (bl b))=D at *;generalize Zaj (bl a)=na at *;generalize Zaj (bl b)=nb at *;have HF:=Lh (fun (sx:Bool) (x y:ByteArray) (hx:bl x=istr sx N) (hy:bl y=istr false D)=>Zq5 HA.out HB.out HD.out hx hy);have Hgl:Hid (Nat.gcd N D < ten 1000):=Lh (Nat.lt_of_le_of_lt (Nat.gcd_le_right N (Nat.pos_of_ne_zero HD.out)) HB.out)
 generalize Nat.gcd N D=G at *;have hqlt:N / G < ten 1000:=Nat.lt_of_le_of_lt (Nat.div_le_self _ _) HA.out;have hrlt:D / G < ten 1000:=Nat.lt_of_le_of_lt (Nat.div_le_self _ _) HB.out;generalize N / G=q at *;generalize D / G=r at *;have Hq:Hid (∀ sg,zStr (sgnv sg q)=istr sg q):=fun sg=>by rw [← Zce];exact (Zc3 hqlt sg).2
 have Hr:Hid (∀ sg,zStr (sgnv sg r)=istr sg r):=fun sg=>by rw [← Zce];exact (Zc3 hrlt sg).2
 have Hql:=Lh hqlt;have Hrl:=Lh hrlt;obtain ⟨P,hP⟩:∃ P,P=Zgz w (if r=1 then istr (!(na == nb)) q else istr (!(na == nb)) q ++ [47] ++ istr false r):=⟨_,rfl⟩
 rw [← hP];have HP:=Lh hP;clear hqlt hrlt HA HB HD hP;go_enter Tryz.func188,Tryz.ntmps188
 go_wp2_with fail;refine HBo.out.mono ?_;rintro e w0 ⟨rfl,hb0⟩;clear HBo
 cases nb
 have H3:=Lh (HF.out na a b Ca.out.symm Cb.out.symm);have Hb:=Lh hb0;rw [show (!(na == false))=na by cases na <;> rfl] at HP;generalize na=sg at *;rotate_left
 rw [show (!(na == true)) = !na by cases na <;> rfl] at HP;go_wp2_with fail;refine (HNa.out _).mono ?_;rintro e wa ⟨x0,rfl,hx0,hba⟩;go_wp2_with fail;refine (HNb.out _).mono ?_;rintro e wb ⟨y0,rfl,hy0,hbb⟩;have Hb:=Lh (hb0.trans ((hba.trans (hbb.mono hba.size)).mono hb0.size));have H3:=Lh (HF.out (!na) x0 y0 hx0 hy0);clear hba hbb hx0 hy0 Ca Cb;generalize (!na)=sg at *;rotate_left
 all_goals
  clear hb0 HNa HNb HF;go_wp2_with fail;refine (H3.out.1 _).mono ?_;rintro e w1 ⟨g,rfl,hg,hb1⟩;have hgs:g.size≤1002:=Zcc hg Hgl.out;have hg2:=Lh hg;clear hg;go_wp2_with fail;refine (H3.out.2.1 _ _ hg2.out).mono ?_;rintro e w2 ⟨x,x2,rfl,hx,hx2,hb2⟩;have Hx:=Lh (hx.trans (Hq.out sg));have hbb:=Hb.out.trans ((hb1.trans (hb2.mono hb1.size)).mono Hb.out.size);clear hx hx2 hb1 hb2;go_wp2_with fail;refine (H3.out.2.2 _ _ hg2.out).mono ?_
  rintro e w3 ⟨y,y2,rfl,hy,hy2,hb3⟩;have hyy:=hy.trans (Hr.out false);have hbz:=hbb.trans (hb3.mono hbb.size);clear hy hbb hb3 H3;by_cases h1:r=1
  ·have ey:y=⟨#[49]⟩:=Z0m (by rw [hyy,h1];decide);have HF:Hid (P (.returned (.tuple #[.string x,.int .i64 0])) w3):=Lh (by rw [HP.out,if_pos h1];exact ⟨x,rfl,Hx.out,hbz⟩);subst ey;clear hyy h1 hy2;go_wp2;exact HF.out
  ·have ey:(y.toList == [49])=false:=Zgb (fun e=>h1 ((Zfr r).1 (by rw [← hyy];exact e)));have HF:Hid (∀ t,bl t=bl x ++ [47] ++ bl y→P (.returned (.tuple #[.string t,.int .i64 0])) w3):=Lh fun t ht=>by rw [HP.out,if_neg h1];exact ⟨_,rfl,by rw [ht,Hx.out,hyy],hbz⟩
   have hxs:x.size≤1002:=Zcc Hx.out Hql.out;have hys:y.size≤1002:=Zcc hyy Hrl.out;clear hyy h1 hy2;go_wp2;exact HF.out _ (by rw [Zfc,Zfc];rfl)
theorem Zzx (a b:ByteArray) (w:World) (ha:a.size≤1100000) (hb:b.size≤1100000) (h0:Zab (bl a)=0) (h:Zab (bl b)=0) (hd0:dval (body (bl b)) ≠ 0) (_hn:Zaj (bl b)=false) :
  Calls Tryz.prog 188 #[.string a,.string b] w (Zgz w (Zbd (!(Zaj (bl a) == Zaj (bl b))) (dval (body (bl a))) (dval (body (bl b))))):=Zpd a b w ha hb h0 h hd0
theorem Zz5 {s:ByteArray} {k:Nat} (hk:k < s.size) (h:∀ j:Nat,j < k→(bl s)[j]? ≠ some 47) (hc:s[k]=47):Za2 s=k:=by
 rcases Zbr s with e | ⟨o,e,ho⟩
 ·exact absurd (by rw [Ziy s k hk,hc]) (Zmi e k)
 ·obtain ⟨h1,h2⟩:=Zeh e;rcases Nat.lt_trichotomy o k with h3 | h3 | h3
  ·exact absurd h1 (h o h3)
  ·rw [e,h3]
  ·exact absurd (by rw [Ziy s k hk,hc]) (h2 k h3)
theorem Zz7 {s:ByteArray} (h:∀ j:Nat,j < s.size→(bl s)[j]? ≠ some 47):Za2 s = -1:=by
 rcases Zbr s with e | ⟨o,e,ho⟩
 ·exact e
 ·exact absurd (Zeh e).1 (h o ho)
theorem Zis (s:ByteArray) (w:World) (hs:s.size≤4611686018427387904) :
  Calls Tryz.prog 148 #[.string s] w fun e w'=>e = .returned (.int .i64 (Za2 s))∧w=w':=by
 go_enter Tryz.func148,Tryz.ntmps148
 go_wp2;go_loopw [3] (fun i wr=>∃ k:Nat,k≤s.size∧i = .int .i64 k∧Hid (∀ j:Nat,j < k→(bl s)[j]? ≠ some 47)∧Hid (wr=w))
  (fun i _=>s.size - (intOf i).toNat)
 case atStart=>exact ⟨0,Nat.zero_le _,rfl,fun j hj=>by omega,rfl⟩
 case round =>
  obtain ⟨k,hk,rfl,Hrel,hw⟩:=hrel;obtain rfl:=hw.out;by_cases hlt:k < s.size
  ·obtain ⟨c,hc⟩:∃ c,s[k]=c:=⟨_,rfl⟩
   have hcb:c.toNat < 256:=c.toNat_lt;by_cases h47:c=47
   ·have HE:=Lh (Zz5 hlt Hrel.out (by rw [hc,h47]));have d:((c.toNat:Int) == 47)=true:=by rw [h47];rfl
    go_wp2;go_ret;exact ⟨Zal HE.out.symm,rfl⟩
   ·have d:((c.toNat:Int) == 47)=false:=by
     simpa using fun hh:(c.toNat:Int)=47=>h47 (UInt8.toNat_inj.1 (by simpa using (by omega:c.toNat=47)))
    have HE:Hid (∀ j:Nat,j < k+1→(bl s)[j]? ≠ some 47):=by
     intro j hj;by_cases he:j=k
     ·subst he;rw [Ziy s j hlt,hc];simpa using h47
     ·exact Hrel.out j (by omega)
    go_wp2;go_roundw
    case rel=>exact ⟨k+1,by omega,by go_num,HE,by first | exact rfl | exact trivial⟩
    case measure=>simp [intOf];omega
  ·obtain rfl:k=s.size:=by omega
   have HE:=Lh (Zz7 Hrel.out);go_wp2;go_ret;exact ⟨Zal HE.out.symm,rfl⟩
def Zmo (w:World) (a b:ByteArray) (e:Ending) (w':World):Prop:=e = .returned (.tuple #[.string a,.string b])∧∃ n,w'=w.drewN n
theorem Zjd (s:ByteArray) (w:World) (hs:s.size≤4611686018427387904) (h:Za2 s = -1) :
  Calls Tryz.prog 146 #[.string s] w (Zmo w s ⟨#[49]⟩):=by
 have C:=Zis s w hs;rw [h] at C;have HC:=Lh C;clear C h;go_enter Tryz.func146,Tryz.ntmps146
 go_wp2_with fail;refine HC.out.mono ?_;rintro e w' ⟨rfl,rfl⟩;go_wp2;go_ret2;exact ⟨rfl,0,rfl⟩
theorem Zje (s:ByteArray) (w:World) (o:Nat) (h:Za2 s=o) (ho:o < s.size) (hs:s.size≤4611686018427387904) :
  Calls Tryz.prog 146 #[.string s] w (Zmo w (s.extract 0 o) (s.extract (o+1) s.size)):=by
 have C:=Zis s w hs;rw [h] at C;have HC:=Lh C;clear C h;have x1:IntKind.i64.wrap ((o:Int)+1)=(o:Int)+1:=IntWalk.i64_in _ (by omega);have t1:((o:Int)+1).toNat=o+1:=by omega
 have k0 : ¬ ((o:Int) < 0):=by omega
 have d0:decide ((o:Int) < 0)=false:=by rw [decide_eq_false_iff_not];omega
 have k1:(0:Int)≤(o:Int)+1:=by omega
 have k2:(o:Int)+1≤(s.size:Int):=by omega
 have k3:(o:Int)≤(s.size:Int):=by omega
 go_enter Tryz.func146,Tryz.ntmps146
 go_wp2_with fail;refine HC.out.mono ?_;rintro e w' ⟨rfl,rfl⟩;go_wp2_with fail;go_quiet (fail)
 go_wp2;go_ret2;exact ⟨rfl,_,rfl⟩
theorem Zr1 {l:List UInt8}:Zaj l=true ↔ l.head? = some 45:=by simp [Zaj]
theorem Z0i {l:List UInt8} (h:Zar l=true) (h0:Zab l ≠ 0):1000 < (body l).length:=by
 rw [Zab,if_pos h] at h0;by_cases hb:1000 < (body l).length
 ·exact hb
 ·rw [if_neg hb] at h0;exact absurd rfl h0
def Zk3 (a b:List UInt8):Int:=if Zab a ≠ 0 then 14 else if Zab b ≠ 0 then 14 else if Nat.gcd (dval (body a)) (dval (body b))=1 then 0 else 12
theorem Z15 {a b:List UInt8} (hca:Zar a=true) (hb:b=[49]):Zab a=Zk3 a b:=by
 subst hb;unfold Zk3;by_cases hi:Zab a=0
 ·rw [if_neg (by rw [hi];simp),if_neg (by decide),if_pos (by rw [show dval (body [49])=1 from rfl,Nat.gcd_one_right]),hi]
 ·rw [if_pos hi,Zf7 hca hi]
theorem rchk (s a b:ByteArray) (w:World) (o R:Int) (ho:o = -1∧bl b=[49]∧R=Zab (bl a)∨0≤o∧R=Zbq (bl a) (bl b)) (HS:Hid (∀ W,Calls Tryz.prog 146 #[.string s] W (Zmo W a b)))
  (HL:Hid (∀ W,Calls Tryz.prog 148 #[.string s] W fun e w'=>e = .returned (.int .i64 o)∧W=w')) (ha:a.size≤1100000) (hb:b.size≤1100000) :
  Calls Tryz.prog 97 #[.string s] w (Zf0 w R):=by
 have HO:=Lh ho;have GC:=Lh (fun hi hj W=>Zxl a b W ha hb hi hj);have DA:=Lh (fun h W=>Zbf a W ha h);have EA:=Lh (fun h W=>Zij a W ha h);have DB:=Lh (fun h W=>Zbf b W hb h);have EB:=Lh (fun h W=>Zij b W hb h);clear ha hb ho;go_enter Tryz.func97,Tryz.ntmps97
 go_wp2_with fail;refine (HS.out _).mono ?_;rintro e w' ⟨rfl,n,rfl⟩;have HB0:=Lh (below_drewN (Below.refl w.heap.size w) n);clear HS;go_wp2_with fail;by_cases hca:Zar (bl a)=false
 ·have HF:Hid (R=12):=Lh (by
   rcases HO.out with ⟨_,_,h⟩ | ⟨_,h⟩
   ·rw [h,Zfq hca]
   ·rw [h,Zbq,if_pos hca])
  refine (EA.out hca _).mono ?_;rintro e w1 ⟨rfl,hb1⟩;go_wp2_with fail;by_cases hcb:Zar (bl b)=false
  ·refine (EB.out hcb _).mono ?_;rintro e w2 ⟨rfl,hb2⟩;have HB:=Lh (HB0.out.trans ((hb1.trans (hb2.mono hb1.size)).mono HB0.out.size));clear hca hcb hb1 hb2;go_wp2;go_ret;exact ⟨by rw [HF.out];rfl,HB.out⟩
  ·refine (DB.out (by simpa using hcb) _).mono ?_;rintro e w2 ⟨v2,rfl,s2,hb2⟩;obtain ⟨ad2,cap2,rfl,_⟩:=s2;generalize Zaj (bl b)=nb;have HB:=Lh (HB0.out.trans ((hb1.trans (hb2.mono hb1.size)).mono HB0.out.size));clear hca hcb hb1 hb2;go_wp2;go_ret;exact ⟨by rw [HF.out];rfl,HB.out⟩
 have HcA:Hid (Zar (bl a)=true):=Lh (by simpa using hca);clear hca EA;refine (DA.out HcA.out _).mono ?_;rintro e w1 ⟨v1,rfl,s1,hb1⟩;obtain ⟨ad1,cap1,rfl,_⟩:=s1;obtain ⟨La,hLa⟩:∃ L,(rdig (body (bl a))).length=L:=⟨_,rfl⟩
 rw [hLa];have HLa:=Lh hLa;clear hLa DA;go_wp2_with fail;by_cases hcb:Zar (bl b)=false
 ·have HF:Hid (R=12):=Lh (by
   rcases HO.out with ⟨_,h1,h⟩ | ⟨_,h⟩
   ·rw [h1] at hcb;exact absurd hcb (by decide)
   ·rw [h,Zbq,if_neg (by rw [HcA.out];simp),if_pos hcb])
  refine (EB.out hcb _).mono ?_;rintro e w2 ⟨rfl,hb2⟩;have HB:=Lh (HB0.out.trans ((hb1.trans (hb2.mono hb1.size)).mono HB0.out.size));clear hcb hb1 hb2;go_wp2;go_ret;exact ⟨by rw [HF.out];rfl,HB.out⟩
 have HcB:Hid (Zar (bl b)=true):=Lh (by simpa using hcb);clear hcb EB;refine (DB.out HcB.out _).mono ?_;rintro e w2 ⟨v2,rfl,s2,hb2⟩;obtain ⟨ad2,cap2,rfl,_⟩:=s2;obtain ⟨Lb,hLb⟩:∃ L,(rdig (body (bl b))).length=L:=⟨_,rfl⟩
 rw [hLb];have HLb:=Lh hLb;have HB:=Lh (HB0.out.trans ((hb1.trans (hb2.mono hb1.size)).mono HB0.out.size));clear hLb DB hb1 hb2 HB0;by_cases h45:(bl b).head? = some 45
 ·have HF:Hid (R=12):=Lh (by
   rcases HO.out with ⟨_,h1,h⟩ | ⟨_,h⟩
   ·rw [h1] at h45;exact absurd h45 (by decide)
   ·rw [h,Zbq,if_neg (by rw [HcA.out];simp),if_neg (by rw [HcB.out];simp),if_pos h45])
  rw [Zr1.2 h45];clear h45;go_wp2;go_ret;exact ⟨by rw [HF.out];rfl,HB.out⟩
 rw [show Zaj (bl b)=false by rw [Bool.eq_false_iff];exact fun e=>h45 (Zr1.1 e)];by_cases h0:bl b=[48]
 ·have HF:Hid (R=12):=Lh (by
   rcases HO.out with ⟨_,h1,h⟩ | ⟨_,h⟩
   ·rw [h1] at h0;exact absurd h0 (by decide)
   ·rw [h,Zbq,if_neg (by rw [HcA.out];simp),if_neg (by rw [HcB.out];simp),if_neg h45,if_pos h0])
  have n0:=Zim h0;clear h45 h0;go_wp2;go_ret;exact ⟨by rw [HF.out];rfl,HB.out⟩
 have n0:=Zgb h0;by_cases h1:0≤o∧bl b=[49]
 ·have HF:Hid (R=12):=Lh (by
   rcases HO.out with ⟨h2,_,_⟩ | ⟨_,h⟩
   ·exact absurd h1.1 (by rw [h2];decide)
   ·rw [h,Zbq,if_neg (by rw [HcA.out];simp),if_neg (by rw [HcB.out];simp),if_neg h45,if_neg h0,if_pos h1.2])
  have n1:=Zim h1.2;have do0:decide (0≤o)=true:=decide_eq_true h1.1;clear h45 h0 h1;go_wp2_with fail;refine (HL.out _).mono ?_;rintro e w9 ⟨rfl,rfl⟩;go_wp2;go_ret;exact ⟨by rw [HF.out];rfl,HB.out⟩
 have HR:Hid (R=Zk3 (bl a) (bl b)):=Lh (by
  rcases HO.out with ⟨_,h2,h⟩ | ⟨h2,h⟩
  ·rw [h];exact Z15 HcA.out h2
  ·rw [h,Zbq,if_neg (by rw [HcA.out];simp),if_neg (by rw [HcB.out];simp),if_neg h45,if_neg h0,if_neg (fun q=>h1 ⟨h2,q⟩)];rfl)
 have ho:(o = -1∧Hid (Nat.gcd (dval (body (bl a))) (dval (body (bl b)))=1))∨decide (0≤o)=true∧(b.toList == [49])=false:=by
  rcases HO.out with ⟨h2,h3,_⟩ | ⟨h2,_⟩
  ·exact .inl ⟨h2,Lh (by rw [h3,show dval (body [49])=1 from rfl,Nat.gcd_one_right])⟩
  ·exact .inr ⟨decide_eq_true h2,Zgb fun q=>h1 ⟨h2,q⟩⟩
 clear h45 h0 h1 HO;have gA:Zab (bl a)=0 ↔ La≤1000:=by
  have h:=HLa.out;rw [Zda] at h;exact ⟨fun q=>by rw [← h];exact (Zao q).2,fun q=>Classical.byContradiction fun r=>by have:=Z0i HcA.out r;omega⟩
 have gB:Zab (bl b)=0 ↔ Lb≤1000:=by
  have h:=HLb.out;rw [Zda] at h;exact ⟨fun q=>by rw [← h];exact (Zao q).2,fun q=>Classical.byContradiction fun r=>by have:=Z0i HcB.out r;omega⟩
 have GA:=Lh gA;have GB:=Lh gB;clear gA gB;rcases ho with ⟨rfl,hG⟩ | ⟨do0,n1⟩
 all_goals
  go_wp2_with fail;refine (HL.out _).mono ?_;rintro e w9 ⟨rfl,rfl⟩;by_cases hi:1000 < La
  ·have dLa:decide ((1000:Int) < (La:Int))=true:=decide_eq_true (by omega);have HF:Hid (R=14):=Lh (by rw [HR.out,Zk3,if_pos (fun q=>by have:=GA.out.1 q;omega)]);clear hi;go_wp2;go_ret;exact ⟨by rw [HF.out];rfl,HB.out⟩
  have dLa:decide ((1000:Int) < (La:Int))=false:=decide_eq_false (by omega);have Hi:=Lh (GA.out.2 (by omega));clear hi;by_cases hj:1000 < Lb
  ·have dLb:decide ((1000:Int) < (Lb:Int))=true:=decide_eq_true (by omega);have HF:Hid (R=14):=Lh (by rw [HR.out,Zk3,if_neg (by rw [Hi.out];simp),if_pos (fun q=>by have:=GB.out.1 q;omega)]);clear hj;go_wp2;go_ret;exact ⟨by rw [HF.out];rfl,HB.out⟩
  have dLb:decide ((1000:Int) < (Lb:Int))=false:=decide_eq_false (by omega);have Hj:=Lh (GB.out.2 (by omega));clear hj;have HC:=Lh (GC.out Hi.out Hj.out);clear GC;go_wp2_with fail;refine (HC.out _).mono ?_;rintro e w3 ⟨t,rfl,ht,hb3⟩;have HBz:=Lh (HB.out.trans (hb3.mono HB.out.size));by_cases hg:Nat.gcd (dval (body (bl a))) (dval (body (bl b)))=1
  ·have nt:=Zim (b:=t) (x:=49) (by rw [ht];exact (Zfr _).2 hg);have nt2:(t.toList != [49])=false:=by rw [bne,nt];rfl
   have HF:Hid (R=0):=Lh (by rw [HR.out,Zk3,if_neg (by rw [Hi.out];simp),if_neg (by rw [Hj.out];simp),if_pos hg]);clear ht hg hb3;go_wp2_with fail;refine (HL.out _).mono ?_;rintro e w9 ⟨rfl,rfl⟩;go_wp2;go_ret;exact ⟨by rw [HF.out];rfl,HBz.out⟩
  ·first
    | exact absurd hG.out hg
    | (have nt:=Zgb (b:=t) (x:=49) (by rw [ht];exact fun e=>hg ((Zfr _).1 e))
       have nt2:(t.toList != [49])=true:=by rw [bne,nt];rfl
       have HF:Hid (R=12):=Lh (by rw [HR.out,Zk3,if_neg (by rw [Hi.out];simp),if_neg (by rw [Hj.out];simp),if_neg hg]);clear ht hg hb3;go_wp2_with fail;refine (HL.out _).mono ?_;rintro e w9 ⟨rfl,rfl⟩;go_wp2;go_ret;exact ⟨by rw [HF.out];rfl,HBz.out⟩)
theorem Zdx (s:ByteArray) (w:World) (hs:s.size≤1100000) :
  Calls Tryz.prog 97 #[.string s] w (Zf0 w (Zah s)):=by
 have hL:=fun W=>Zis s W (by omega)
 rcases Zbr s with h | ⟨o,h,ho⟩
 ·rw [h] at hL;exact rchk s s ⟨#[49]⟩ w (-1) _ (.inl ⟨rfl,rfl,by rw [Zah,if_pos h]⟩) (Lh fun W=>Zjd s W (by omega) h) (Lh hL) hs (by decide)
 ·rw [h] at hL;refine rchk s _ _ w o _ (.inr ⟨by omega,?_⟩) (Lh fun W=>Zje s W o h ho (by omega)) (Lh hL) ?_ ?_
  ·rw [Zah,if_neg (by rw [h];omega),h,Zfl,Zbe];rfl
  ·rw [← Zae,Zbe,List.length_take];omega
  ·rw [← Zae,Zfl,List.length_drop,Zae];omega
theorem Zli (s:ByteArray) (w:World) (hs:s.size≤1100000):Calls Tryz.prog 146 #[.string s] w (Zmo w (numS s) (denS s)):=by
 rcases Zbr s with h1 | ⟨o,h1,ho⟩
 ·have:=Zjd s w (by omega) h1
  unfold numS denS;rw [if_pos h1,if_pos h1];exact this
 ·have:=Zje s w o h1 ho (by omega)
  unfold numS denS;have hne : ¬ Za2 s = -1:=by rw [h1];omega
  rw [if_neg hne,if_neg hne,h1];exact this
theorem Zi3 (a b:ByteArray) (e f:Int) (w:World) (h:e ≠ 0∨f ≠ 0) :
  Calls Tryz.prog 157 #[.string a,.string b,.int .i64 e,.int .i64 f] w (Zhl w 14):=by
 by_cases he:e=0
 ·have hf:f ≠ 0:=h.resolve_left (fun k=>k he);have t1:(e != 0)=false:=by rw [he];rfl
  have t2:(f != 0)=true:=by rw [bne_iff_ne];exact hf
  clear h he hf;go_enter Tryz.func157,Tryz.ntmps157
  go_wp2;go_ret2;exact ⟨rfl,Below.refl _ _⟩
 ·have t1:(e != 0)=true:=by rw [bne_iff_ne];exact he
  clear h he;go_enter Tryz.func157,Tryz.ntmps157
  go_wp2;go_ret2;exact ⟨rfl,Below.refl _ _⟩
theorem Zkb (a b:ByteArray) (l:List UInt8) (w:World) (HM:Hid (∀ W,Calls Tryz.prog 188 #[.string a,.string b] W (Zgz W l))) :
  Calls Tryz.prog 157 #[.string a,.string b,.int .i64 0,.int .i64 0] w (Zgz w l):=by
 go_enter Tryz.func157,Tryz.ntmps157
 go_wp2_with fail;refine (HM.out _).mono ?_;rintro e w1 ⟨t,rfl,ht,hb⟩;have Ht:=Lh ht;clear ht;go_wp2;go_ret2;exact ⟨t,rfl,Ht.out,hb⟩
def Zgj (w:World) (n d m c:ByteArray) (er:Int) (e:Ending) (w':World):Prop:=e = .returned (.tuple #[.string n,.string d,.string m,.string c,.int .i64 er])∧Below w.heap.size w w'
theorem Zv1 (a b:ByteArray) (w:World) (ha:a.size≤1100000) (h:Zah a ≠ 0) :
  Calls Tryz.prog 155 #[.string a,.string b] w (Zgj w ⟨#[]⟩ ⟨#[]⟩ ⟨#[]⟩ ⟨#[]⟩ (Zah a)):=by
 have HA:=Lh (fun W=>Zdx a W ha);generalize Zah a=er at HA h ⊢;have t1:(er != 0)=true:=by rw [bne_iff_ne];exact h
 clear h ha;go_enter Tryz.func155,Tryz.ntmps155
 go_wp2_with fail;refine (HA.out _).mono ?_;rintro e w1 ⟨rfl,hb1⟩;go_wp2_with fail;refine (HA.out _).mono ?_;rintro e w2 ⟨rfl,hb2⟩;have hb:=hb1.trans (hb2.mono hb1.size);clear hb1 hb2;go_wp2;refine bodyPost_ret (v:=.tuple #[.string ⟨#[]⟩,.string ⟨#[]⟩,.string ⟨#[]⟩,.string ⟨#[]⟩,.int .i64 er]) (by simp [results,Tryz.results155,go_sem]) rfl ⟨rfl,hb⟩
theorem Zv2 (a b:ByteArray) (w:World) (ha:a.size≤1100000) (hb:b.size≤1100000) (h0:Zah a=0) (h:Zah b ≠ 0) :
  Calls Tryz.prog 155 #[.string a,.string b] w (Zgj w ⟨#[]⟩ ⟨#[]⟩ ⟨#[]⟩ ⟨#[]⟩ (Zah b)):=by
 have HA:=Lh (fun W=>Zdx a W ha);have HB:=Lh (fun W=>Zdx b W hb);rw [h0] at HA;generalize Zah b=er at HB h ⊢;have t1:(er != 0)=true:=by rw [bne_iff_ne];exact h
 clear h ha hb h0;go_enter Tryz.func155,Tryz.ntmps155
 go_wp2_with fail;refine (HA.out _).mono ?_;rintro e w1 ⟨rfl,hb1⟩;go_wp2_with fail;refine (HB.out _).mono ?_;rintro e w2 ⟨rfl,hb2⟩;go_wp2_with fail;refine (HB.out _).mono ?_;rintro e w3 ⟨rfl,hb3⟩;have hb:=hb1.trans ((hb2.trans (hb3.mono hb2.size)).mono hb1.size);clear hb1 hb2 hb3;go_wp2;refine bodyPost_ret (v:=.tuple #[.string ⟨#[]⟩,.string ⟨#[]⟩,.string ⟨#[]⟩,.string ⟨#[]⟩,.int .i64 er]) (by simp [results,Tryz.results155,go_sem]) rfl ⟨rfl,hb⟩
theorem Z1b (a b:ByteArray) (w:World) (ha:a.size≤1100000) (hb:b.size≤1100000) (h0:Zah a=0) (h:Zah b=0) :
  Calls Tryz.prog 155 #[.string a,.string b] w (Zgj w (numS a) (denS a) (numS b) (denS b) 0):=by
 have HA:=Lh (fun W=>Zdx a W ha);have HB:=Lh (fun W=>Zdx b W hb);have WA:=Lh (fun W=>Zli a W ha);have WB:=Lh (fun W=>Zli b W hb);rw [h0] at HA;rw [h] at HB;generalize numS a=n at *;generalize numS b=m at *;generalize denS a=d at *;generalize denS b=c at *;clear ha hb h0 h;go_enter Tryz.func155,Tryz.ntmps155
 go_wp2_with fail;refine (HA.out _).mono ?_;rintro e w1 ⟨rfl,hb1⟩;go_wp2_with fail;refine (HB.out _).mono ?_;rintro e w2 ⟨rfl,hb2⟩;go_wp2_with fail;refine (WA.out _).mono ?_;rintro e w3 ⟨rfl,n3,rfl⟩;go_wp2_with fail;refine (WB.out _).mono ?_;rintro e w4 ⟨rfl,n4,rfl⟩;have hb:=below_drewN (below_drewN (hb1.trans (hb2.mono hb1.size)) n3) n4;rw [World.drewN_drewN] at hb;clear hb1 hb2;go_wp2;refine bodyPost_ret (v:=.tuple #[.string n,.string d,.string m,.string c,.int .i64 0]) (by simp [results,Tryz.results155,go_sem]) rfl ⟨rfl,hb⟩
theorem Zfp (a b:ByteArray) (w:World) (ha:a.size≤1100000) (hb:b.size≤1100000) :
  Calls Tryz.prog 155 #[.string a,.string b] w (if bE a b=0 then Zgj w (pN a) (pD a) (pN b) (pD b) 0 else Zgj w ⟨#[]⟩ ⟨#[]⟩ ⟨#[]⟩ ⟨#[]⟩ (bE a b)):=by
 by_cases he:bE a b=0
 ·obtain ⟨ra,rb,_,_,e1,e2,e3,e4⟩:=Zc8 he;rw [if_pos he,e1,e2,e3,e4];exact Z1b a b w ha hb ra rb
 ·rw [if_neg he];by_cases h0:Zah a=0
  ·have e:bE a b=Zah b:=by rw [bE,if_pos h0]
   rw [e] at he ⊢;exact Zv2 a b w ha hb h0 he
  ·have e:bE a b=Zah a:=by rw [bE,if_neg h0]
   rw [e];exact Zv1 a b w ha h0
def Zrh (w:World) (er:Int) (e:Ending) (w':World):Prop:=e = .returned (.tuple #[.string ⟨#[]⟩,.string ⟨#[]⟩,.int .i64 er])∧Below w.heap.size w w'
def Z2p (w:World) (x y:List UInt8) (e:Ending) (w':World):Prop:=∃ t u,e = .returned (.tuple #[.string t,.string u,.int .i64 0])∧bl t=x∧bl u=y∧Below w.heap.size w w'
theorem Zn7 (a b:ByteArray) (w:World) (ha:a.size≤1000000) (hb:b.size≤1000000) (h:bE a b ≠ 0) :
  Calls Tryz.prog 183 #[.string a,.string b] w (Zrh w (bE a b)):=by
 have HF:=Zfp a b w (by omega) (by omega);rw [if_neg h] at HF;generalize bE a b=er at HF h ⊢;have t1:(er != 0)=true:=by rw [bne_iff_ne];exact h
 have HF:=Lh HF;clear h ha hb;go_enter Tryz.func183,Tryz.ntmps183
 go_wp2_with fail;refine HF.out.mono ?_;rintro e w1 ⟨rfl,hb1⟩;go_wp2;go_ret3;exact ⟨rfl,hb1⟩
theorem Zn6 (a b:ByteArray) (w:World) (ha:a.size≤1000000) (hb:b.size≤1000000) (h:bE a b=0) (hz:zErr (ival (bl (pN a)) * ival (bl (pD b))) ≠ 0∨zErr (ival (bl (pN b)) * ival (bl (pD a))) ≠ 0) :
  Calls Tryz.prog 183 #[.string a,.string b] w (Zrh w 14):=by
 have HF:=Zfp a b w (by omega) (by omega);rw [if_pos h] at HF;obtain ⟨ra,rb,_,_,e1,e2,e3,e4⟩:=Zc8 h;obtain ⟨q1,q2,q3,q4⟩:=Zde a b ha hb;obtain ⟨_,_,eN,eD,_⟩:=Zc8 h;rw [eN] at q2;rw [eD] at q4;obtain ⟨na,da,_,_⟩:=Zbg ra;obtain ⟨nb,db,_,_⟩:=Zbg rb;rw [← e1] at na;rw [← e2] at da;rw [← e3] at nb;rw [← e4] at db;have HX:=Lh (fun W=>Zhi (pN a) (pD b) W q1 q4 na db);have HY:=Lh (fun W=>Zhi (pN b) (pD a) W q2 q3 nb da)
 generalize ival (bl (pN a)) * ival (bl (pD b))=z1 at *;generalize ival (bl (pN b)) * ival (bl (pD a))=z2 at *;have HF:=Lh HF;clear ra rb e1 e2 e3 e4 q1 q2 q3 q4 eN eD na da nb db ha hb h;generalize pN a=n at HF HX;generalize pN b=m at HF HY;generalize pD a=d at HF HY;generalize pD b=c at HF HX;unfold Zcv at HX HY;generalize zErr z1=f1 at *;generalize zErr z2=f2 at *;by_cases hf:f1=0
 ·have hf2:f2 ≠ 0:=hz.resolve_left (fun k=>k hf);have t1:(f1 != 0)=false:=by rw [hf];rfl
  have t2:(f2 != 0)=true:=by rw [bne_iff_ne];exact hf2
  clear hf hf2 hz;go_enter Tryz.func183,Tryz.ntmps183
  go_wp2_with fail;refine HF.out.mono ?_;rintro e w1 ⟨rfl,hb1⟩;go_wp2_with fail;refine (HX.out _).mono ?_;rintro e w2 ⟨x,rfl,hx,hb2⟩;go_wp2_with fail;refine (HY.out _).mono ?_;rintro e w3 ⟨y,rfl,hy,hb3⟩;have hbz:=hb1.trans ((hb2.trans (hb3.mono hb2.size)).mono hb1.size);have Hx:=Lh hx;have Hy:=Lh hy;clear hx hy hb1 hb2 hb3 HF HX HY;go_wp2;go_ret3;exact ⟨rfl,hbz⟩
 ·have t1:(f1 != 0)=true:=by rw [bne_iff_ne];exact hf
  clear hf hz;go_enter Tryz.func183,Tryz.ntmps183
  go_wp2_with fail;refine HF.out.mono ?_;rintro e w1 ⟨rfl,hb1⟩;go_wp2_with fail;refine (HX.out _).mono ?_;rintro e w2 ⟨x,rfl,hx,hb2⟩;go_wp2_with fail;refine (HY.out _).mono ?_;rintro e w3 ⟨y,rfl,hy,hb3⟩;have hbz:=hb1.trans ((hb2.trans (hb3.mono hb2.size)).mono hb1.size);have Hx:=Lh hx;have Hy:=Lh hy;clear hx hy hb1 hb2 hb3 HF HX HY;go_wp2;go_ret3;exact ⟨rfl,hbz⟩
theorem Zrs (a b:ByteArray) (w:World) (ha:a.size≤1000000) (hb:b.size≤1000000) (h:bE a b=0) (h1:zErr (ival (bl (pN a)) * ival (bl (pD b)))=0) (h2:zErr (ival (bl (pN b)) * ival (bl (pD a)))=0) :
  Calls Tryz.prog 183 #[.string a,.string b] w (Z2p w (zStr (ival (bl (pN a)) * ival (bl (pD b)))) (zStr (ival (bl (pN b)) * ival (bl (pD a))))):=by
 have HF:=Zfp a b w (by omega) (by omega);rw [if_pos h] at HF;obtain ⟨ra,rb,_,_,e1,e2,e3,e4⟩:=Zc8 h;obtain ⟨q1,q2,q3,q4⟩:=Zde a b ha hb;obtain ⟨_,_,eN,eD,_⟩:=Zc8 h;rw [eN] at q2;rw [eD] at q4;obtain ⟨na,da,_,_⟩:=Zbg ra;obtain ⟨nb,db,_,_⟩:=Zbg rb;rw [← e1] at na;rw [← e2] at da;rw [← e3] at nb;rw [← e4] at db;have HX:=Lh (fun W=>Zhi (pN a) (pD b) W q1 q4 na db);have HY:=Lh (fun W=>Zhi (pN b) (pD a) W q2 q3 nb da)
 generalize ival (bl (pN a)) * ival (bl (pD b))=z1 at *;generalize ival (bl (pN b)) * ival (bl (pD a))=z2 at *;have HF:=Lh HF;clear ra rb e1 e2 e3 e4 q1 q2 q3 q4 eN eD na da nb db ha hb h;generalize pN a=n at HF HX;generalize pN b=m at HF HY;generalize pD a=d at HF HY;generalize pD b=c at HF HX;unfold Zcv at HX HY;rw [h1] at HX;rw [h2] at HY;clear h1 h2;go_enter Tryz.func183,Tryz.ntmps183
 go_wp2_with fail;refine HF.out.mono ?_;rintro e w1 ⟨rfl,hb1⟩;go_wp2_with fail;refine (HX.out _).mono ?_;rintro e w2 ⟨x,rfl,hx,hb2⟩;go_wp2_with fail;refine (HY.out _).mono ?_;rintro e w3 ⟨y,rfl,hy,hb3⟩;have hbz:=hb1.trans ((hb2.trans (hb3.mono hb2.size)).mono hb1.size);have Hx:=Lh hx;have Hy:=Lh hy;clear hx hy hb1 hb2 hb3 HF HX HY;go_wp2;go_ret3;exact ⟨x,y,rfl,Hx.out,Hy.out,hbz⟩
theorem Zzt (a b:ByteArray) (w:World) (ha:a.size≤1100000) (hb:b.size≤1100000) (h0:Zab (bl a)=0) (h:Zab (bl b)=0) :
  Calls Tryz.prog 185 #[.string a,.string b] w fun e w'=>e = .returned (.tuple #[.int .i64 (sgnZ (ival (bl a)) (ival (bl b))),.int .i64 0])∧Below w.heap.size w w':=by
 have HB:=Zeb a b w ha hb;rw [Zcm h0 h] at HB;have HB:=Lh HB;obtain ⟨dx,lx,vx,cx⟩:=Zbp h0;obtain ⟨dy,ly,vy,cy⟩:=Zbp h;have HDa:=Lh (fun W=>Zbf a W ha cx);have HDb:=Lh (fun W=>Zbf b W hb cy);have HNa:=Lh (fun k=>Zo0 (Zao h0).1 k);have HNb:=Lh (fun k=>Zo0 (Zao h).1 k);rw [← vx] at HNa;rw [← vy] at HNb;have HVa:Hid (ival (bl a)=sgnv (Zaj (bl a)) (val 10 (rdig (body (bl a))))):=by show _=_;rw [ival,vx]
 have HVb:Hid (ival (bl b)=sgnv (Zaj (bl b)) (val 10 (rdig (body (bl b))))):=by show _=_;rw [ival,vy]
 clear vx vy cx cy h0 h ha hb;generalize Zaj (bl a)=na at *;generalize Zaj (bl b)=nb at *;generalize rdig (body (bl a))=xs at *;generalize rdig (body (bl b))=ys at *;go_enter Tryz.func185,Tryz.ntmps185
 go_wp2_with fail;refine HB.out.mono ?_;rintro e w1 ⟨rfl,hb1⟩;go_wp2_with fail;refine (HDa.out _).mono ?_;rintro e w2 ⟨va,rfl,sa,hb2⟩;go_wp2_with fail;refine (HDb.out _).mono ?_;rintro e w3 ⟨vb,rfl,sb,hb3⟩;have sa3:=sa.below hb3;have hbz:=hb1.trans ((hb2.trans (hb3.mono hb2.size)).mono hb1.size);obtain ⟨aa,ca,rfl,_⟩:=id sa3;obtain ⟨ab,cb,rfl,_⟩:=id sb;have HG1:=Lh (Zdw _ _ xs ys w3 sa3 sb dx dy (by omega) (by omega))
 have HG2:=Lh (Zdw _ _ ys xs w3 sb sa3 dy dx (by omega) (by omega));clear sa sa3 sb hb1 hb2 hb3 HB HDa HDb dx dy lx ly
 cases na <;> cases nb
 ·have HF:Hid (sgnZ (ival (bl a)) (ival (bl b))=sgn (val 10 xs) (val 10 ys)):=by show _=_;rw [HVa.out,HVb.out];exact Zxs _ _
  clear HVa HVb HNa HNb HG2;go_wp2_with fail;refine HG1.out.mono ?_;rintro e w4 ⟨rfl,rfl⟩;go_wp2;go_ret2;exact ⟨by rw [HF.out];rfl,hbz⟩
 ·have HF:Hid (sgnZ (ival (bl a)) (ival (bl b))=1):=by show _=_;rw [HVa.out,HVb.out];exact Zxt _ _ (HNb.out rfl)
  clear HVa HVb HNa HNb HG1 HG2;go_wp2;go_ret2;exact ⟨by rw [HF.out];rfl,hbz⟩
 ·have HF:Hid (sgnZ (ival (bl a)) (ival (bl b)) = -1):=by show _=_;rw [HVa.out,HVb.out];exact Zxu _ _ (HNa.out rfl)
  clear HVa HVb HNa HNb HG1 HG2;go_wp2;go_ret2;exact ⟨by rw [HF.out];rfl,hbz⟩
 ·have HF:Hid (sgnZ (ival (bl a)) (ival (bl b))=sgn (val 10 ys) (val 10 xs)):=by show _=_;rw [HVa.out,HVb.out];exact Zxv _ _
  clear HVa HVb HNa HNb HG1;go_wp2_with fail;refine HG2.out.mono ?_;rintro e w4 ⟨rfl,rfl⟩;go_wp2;go_ret2;exact ⟨by rw [HF.out];rfl,hbz⟩
theorem Zsk (a b:ByteArray) (er:Int) (w:World) (h:er ≠ 0) (HC:Hid (∀ W,Calls Tryz.prog 183 #[.string a,.string b] W (Zrh W er))) :
  Calls Tryz.prog 153 #[.string a,.string b] w fun e w'=>e = .returned (.tuple #[.int .i64 0,.int .i64 er])∧Below w.heap.size w w':=by
 have t1:(er != 0)=true:=by rw [bne_iff_ne];exact h
 clear h;go_enter Tryz.func153,Tryz.ntmps153
 go_wp2_with fail;refine (HC.out _).mono ?_;rintro e w1 ⟨rfl,hb1⟩;go_wp2;go_ret2;exact ⟨rfl,hb1⟩
theorem Z14 (a b:ByteArray) (z1 z2:Int) (w:World) (h1:zErr z1=0) (h2:zErr z2=0) (HC:Hid (∀ W,Calls Tryz.prog 183 #[.string a,.string b] W (Z2p W (zStr z1) (zStr z2)))) :
  Calls Tryz.prog 153 #[.string a,.string b] w fun e w'=>e = .returned (.tuple #[.int .i64 (sgnZ z1 z2),.int .i64 0])∧Below w.heap.size w w':=by
 have HI:Hid (∀ t u W,bl t=zStr z1→bl u=zStr z2→Calls Tryz.prog 185 #[.string t,.string u] W fun e w'=>e = .returned (.tuple #[.int .i64 (sgnZ z1 z2),.int .i64 0])∧Below W.heap.size W w'):=by
  intro t u W ht hu;obtain ⟨_,i1,v1⟩:=Zcz h1;obtain ⟨_,i2,v2⟩:=Zcz h2;have s1:t.size≤1002:=by rw [← Zae,ht];exact Zie z1
  have s2:u.size≤1002:=by rw [← Zae,hu];exact Zie z2
  have q:=Zzt t u W (by omega) (by omega) (by rw [ht];exact i1) (by rw [hu];exact i2);rw [ht,hu,v1,v2] at q;exact q
 clear h1 h2;go_enter Tryz.func153,Tryz.ntmps153
 go_wp2_with fail;refine (HC.out _).mono ?_;rintro e w1 ⟨t,u,rfl,ht,hu,hb1⟩;have HJ:=Lh (HI.out t u w1 ht hu);clear ht hu HI HC;go_wp2_with fail;refine HJ.out.mono ?_;rintro e w2 ⟨rfl,hb2⟩;have hbz:=hb1.trans (hb2.mono hb1.size);go_wp2;go_ret2;exact ⟨rfl,hbz⟩
theorem Znn (a b:ByteArray) (w:World) (ha:a.size≤1000000) (hb:b.size≤1000000) :
  Calls Tryz.prog 153 #[.string a,.string b] w fun e w'=>e = .returned (.tuple #[.int .i64 (cmpV a b),.int .i64 (cmpE a b)])∧Below w.heap.size w w':=by
 by_cases h:bE a b=0
 ·by_cases hz:zErr (cmpL a b) ≠ 0∨zErr (cmpR a b) ≠ 0
  ·have hE:cmpE a b=14:=by rw [cmpE,if_neg (fun k=>k h),if_pos hz]
   have hV:cmpV a b=0:=by rw [cmpV,hE,if_pos (by decide)]
   rw [hE,hV];exact Zsk a b 14 w (by decide) (Lh fun W=>Zn6 a b W ha hb h hz)
  ·have hE:cmpE a b=0:=by rw [cmpE,if_neg (fun k=>k h),if_neg hz]
   have hV:cmpV a b=sgnZ (cmpL a b) (cmpR a b):=by rw [cmpV,hE,if_neg (by simp)]
   have h1:zErr (cmpL a b)=0:=by
    rcases Int.decEq (zErr (cmpL a b)) 0 with k | k
    ·exact absurd (.inl k) hz
    ·exact k
   have h2:zErr (cmpR a b)=0:=by
    rcases Int.decEq (zErr (cmpR a b)) 0 with k | k
    ·exact absurd (.inr k) hz
    ·exact k
   rw [hE,hV];exact Z14 a b _ _ w h1 h2 (Lh fun W=>Zrs a b W ha hb h h1 h2)
 ·have hE:cmpE a b=bE a b:=by rw [cmpE,if_pos h]
  have hV:cmpV a b=0:=by rw [cmpV,hE,if_pos h]
  rw [hE,hV];exact Zsk a b _ w h (Lh fun W=>Zn7 a b W ha hb h)
theorem Zif {t:ByteArray} {z:Int} (h:bl t=zStr z):t.size≤1002:=by rw [← Zae,h];exact Zie z
theorem Zk7 (a b:ByteArray) (er:Int) (w:World) (h:er ≠ 0) (HC:Hid (∀ W,Calls Tryz.prog 183 #[.string a,.string b] W (Zrh W er))) :
  Calls Tryz.prog 151 #[.string a,.string b] w (Zbu w [] er):=by
 have t1:(er != 0)=true:=by rw [bne_iff_ne];exact h
 clear h;go_enter Tryz.func151,Tryz.ntmps151
 go_wp2_with fail;refine (HC.out _).mono ?_;rintro e w1 ⟨rfl,hb1⟩;go_wp2;go_ret2;exact ⟨_,rfl,rfl,hb1⟩
theorem Zoh (a b n m:ByteArray) (z3:Int) (w:World) (h:bE a b=0) (h1:zErr (ival (bl (pN a)) * ival (bl (pD b)))=0) (h2:zErr (ival (bl (pN b)) * ival (bl (pD a)))=0)
  (hn:bl n=zStr z3) (hm:bl m=zStr (ival (bl (pD a)) * ival (bl (pD b)))) :
  Calls Tryz.prog 157 #[.string n,.string m,.int .i64 (zErr z3),.int .i64 (zErr (ival (bl (pD a)) * ival (bl (pD b))))] w (Zbu w (sumS a b z3) (sumE a b z3)):=by
 by_cases hz:zErr z3 ≠ 0∨zErr (ival (bl (pD a)) * ival (bl (pD b))) ≠ 0
 ·have hE:sumE a b z3=14:=by
   rw [sumE,if_neg (fun k=>k h),if_pos];rcases hz with k | k
   ·exact .inr (.inr (.inl k))
   ·exact .inr (.inr (.inr k))
  rw [sumS,hE,if_neg (by decide)];refine (Zi3 n m _ _ w hz).mono ?_;rintro e w' ⟨rfl,hb⟩;exact ⟨_,rfl,rfl,hb⟩
 ·have k3:zErr z3=0:=by
   rcases Int.decEq (zErr z3) 0 with k | k
   ·exact absurd (.inl k) hz
   ·exact k
  have k4:zErr (ival (bl (pD a)) * ival (bl (pD b)))=0:=by
   rcases Int.decEq (zErr (ival (bl (pD a)) * ival (bl (pD b)))) 0 with k | k
   ·exact absurd (.inr k) hz
   ·exact k
  have hE:sumE a b z3=0:=by
   rw [sumE,if_neg (fun k=>k h),if_neg];rintro (k | k | k | k) <;> exact k (by assumption)
  obtain ⟨ra,rb,_,_,e1,e2,e3,e4⟩:=Zc8 h;obtain ⟨_,_,sa,za⟩:=Zbg ra;obtain ⟨_,_,sb,zb⟩:=Zbg rb;rw [← e2] at sa za;rw [← e4] at sb zb;obtain ⟨j3,i3,v3⟩:=Zcz k3;obtain ⟨j4,i4,v4⟩:=Zcz k4;have hpos:0 < ival (bl (pD a)) * ival (bl (pD b)):=by
   rw [ival,ival,sa,sb];simp only [sgnv];have:=Nat.mul_pos (Nat.pos_of_ne_zero za) (Nat.pos_of_ne_zero zb)
   simp only [Bool.false_eq_true,if_false];exact_mod_cast this
  have hdv:dval (body (bl m))=(ival (bl (pD a)) * ival (bl (pD b))).natAbs:=by rw [hm,j4,Zaq]
  have hng:Zaj (bl m)=false:=by rw [hm,j4,Za8,decide_eq_false (by omega)];rfl
  have HM:=Lh (fun W=>Zzx n m W (by have:=Zif hn;omega) (by have:=Zif hm;omega) (by rw [hn];exact i3) (by rw [hm];exact i4) (by rw [hdv];omega) hng);rw [k3,k4];refine (Zkb n m _ w HM).mono ?_;rintro e w' ⟨t,rfl,ht,hb⟩;refine ⟨t,by rw [hE],?_,hb⟩;rw [ht,sumS,hE,if_pos rfl,hng,hdv,hn,j3,Zaq,Za8];by_cases h0:z3.natAbs=0
  ·have:z3=0:=by omega
   subst this;simp
  ·simp [h0]
theorem Zup (a b:ByteArray) (w:World) (ha:a.size≤1000000) (hb:b.size≤1000000) (h:bE a b=0) (h1:zErr (ival (bl (pN a)) * ival (bl (pD b)))=0) (h2:zErr (ival (bl (pN b)) * ival (bl (pD a)))=0) :
  Calls Tryz.prog 151 #[.string a,.string b] w (Zbu w (sumS a b (ival (bl (pN a)) * ival (bl (pD b))+ival (bl (pN b)) * ival (bl (pD a)))) (sumE a b (ival (bl (pN a)) * ival (bl (pD b))+ival (bl (pN b)) * ival (bl (pD a))))):=by
 have HC:=Lh (fun W=>Zrs a b W ha hb h h1 h2);have HF4:Hid (∀ W,Calls Tryz.prog 155 #[.string a,.string b] W (Zgj W (pN a) (pD a) (pN b) (pD b) 0)):=by
  intro W;have k:=Zfp a b W (by omega) (by omega);rw [if_pos h] at k;exact k
 have HFr:=Lh (fun W n m hn hm=>Zoh a b n m (ival (bl (pN a)) * ival (bl (pD b))+ival (bl (pN b)) * ival (bl (pD a))) W h h1 h2 hn hm);obtain ⟨_,i1,v1⟩:=Zcz h1;obtain ⟨_,i2,v2⟩:=Zcz h2;have HA:Hid (∀ W x y,bl x=zStr (ival (bl (pN a)) * ival (bl (pD b)))→bl y=zStr (ival (bl (pN b)) * ival (bl (pD a)))→Calls Tryz.prog 184 #[.string x,.string y] W (Zcv W (ival (bl (pN a)) * ival (bl (pD b))+ival (bl (pN b)) * ival (bl (pD a))))):=by
  intro W x y hx hy;have k:=Zzn x y W (by have:=Zif hx;omega) (by have:=Zif hy;omega);have hp:Zb6 (bl x) (bl y)=0:=Zcs (by rw [hx];exact i1) (by rw [hy];exact i2);rw [hx,hy,v1,v2] at k;rw [hx,hy] at hp;exact k.mono fun e w' q=>by rw [Zev,if_pos hp] at q;exact q
 obtain ⟨ra,rb,eN,eD,e1,e2,e3,e4⟩:=Zc8 h;obtain ⟨_,_,q3,q4⟩:=Zde a b ha hb;rw [eD] at q4;obtain ⟨_,da,_,_⟩:=Zbg ra;obtain ⟨_,db,_,_⟩:=Zbg rb;rw [← e2] at da;rw [← e4] at db;have HMu:=Lh (fun W=>Zhi (pD a) (pD b) W q3 q4 da db);unfold Zcv at HA HMu;clear i1 v1 i2 v2 ra rb eN eD e1 e2 e3 e4 q3 q4 da db ha hb h h1 h2;generalize sumS a b (ival (bl (pN a)) * ival (bl (pD b))+ival (bl (pN b)) * ival (bl (pD a)))=S at *
 generalize sumE a b (ival (bl (pN a)) * ival (bl (pD b))+ival (bl (pN b)) * ival (bl (pD a)))=E at *;generalize ival (bl (pN a)) * ival (bl (pD b))+ival (bl (pN b)) * ival (bl (pD a))=z3 at *;generalize ival (bl (pD a)) * ival (bl (pD b))=z4 at *;generalize ival (bl (pN a)) * ival (bl (pD b))=z1 at *;generalize ival (bl (pN b)) * ival (bl (pD a))=z2 at *;generalize pN a=n at *;generalize pN b=m at *
 generalize pD a=d at *;generalize pD b=c at *;generalize zErr z3=f3 at *;generalize zErr z4=f4 at *;generalize zStr z3=s3 at *;generalize zStr z4=s4 at *;generalize zStr z1=s1 at *;generalize zStr z2=s2 at *;go_enter Tryz.func151,Tryz.ntmps151
 go_wp2_with fail;refine (HC.out _).mono ?_;rintro e w1 ⟨x,y,rfl,hx,hy,hb1⟩;have HA2:=Lh (fun W=>HA.out W x y hx hy);clear hx hy HA;go_wp2_with fail;refine (HF4.out _).mono ?_;rintro e w2 ⟨rfl,hb2⟩;go_wp2_with fail;refine (HA2.out _).mono ?_;rintro e w3 ⟨p,rfl,hp,hb3⟩;go_wp2_with fail;refine (HMu.out _).mono ?_;rintro e w4 ⟨q,rfl,hq,hb4⟩;have HFr2:=Lh (fun W=>HFr.out W p q hp hq);have hbz:=hb1.trans ((hb2.trans ((hb3.trans (hb4.mono hb3.size)).mono hb2.size)).mono hb1.size)
 clear hp hq HFr HA2 HMu HF4 HC hb1 hb2 hb3 hb4;go_wp2_with fail;refine (HFr2.out _).mono ?_;rintro e w5 ⟨t,rfl,ht,hb5⟩;have hbf:=hbz.trans (hb5.mono hbz.size);have Ht:=Lh ht;clear ht hbz hb5;go_wp2;go_ret2;exact ⟨t,rfl,Ht.out,hbf⟩
theorem Zk6 (a b:ByteArray) (w:World) (ha:a.size≤1000000) (hb:b.size≤1000000) :
  Calls Tryz.prog 151 #[.string a,.string b] w (Zbu w (sumS a b (ival (bl (pN a)) * ival (bl (pD b))+ival (bl (pN b)) * ival (bl (pD a)))) (sumE a b (ival (bl (pN a)) * ival (bl (pD b))+ival (bl (pN b)) * ival (bl (pD a))))):=by
 by_cases h:bE a b=0
 ·by_cases hz:zErr (ival (bl (pN a)) * ival (bl (pD b))) ≠ 0∨zErr (ival (bl (pN b)) * ival (bl (pD a))) ≠ 0
  ·have hE:sumE a b (ival (bl (pN a)) * ival (bl (pD b))+ival (bl (pN b)) * ival (bl (pD a)))=14:=by
    rw [sumE,if_neg (fun k=>k h),if_pos];rcases hz with k | k
    ·exact .inl k
    ·exact .inr (.inl k)
   rw [sumS,hE,if_neg (by decide)];exact Zk7 a b 14 w (by decide) (Lh fun W=>Zn6 a b W ha hb h hz)
  ·have h1:zErr (ival (bl (pN a)) * ival (bl (pD b)))=0:=by
    rcases Int.decEq (zErr (ival (bl (pN a)) * ival (bl (pD b)))) 0 with k | k
    ·exact absurd (.inl k) hz
    ·exact k
   have h2:zErr (ival (bl (pN b)) * ival (bl (pD a)))=0:=by
    rcases Int.decEq (zErr (ival (bl (pN b)) * ival (bl (pD a)))) 0 with k | k
    ·exact absurd (.inr k) hz
    ·exact k
   exact Zup a b w ha hb h h1 h2
 ·have hE:sumE a b (ival (bl (pN a)) * ival (bl (pD b))+ival (bl (pN b)) * ival (bl (pD a)))=bE a b:=by rw [sumE,if_pos h]
  rw [sumS,hE,if_neg h];exact Zk7 a b _ w h (Lh fun W=>Zn7 a b W ha hb h)
def negT (b:ByteArray):ByteArray:=if bl b=[48] then b else if Zaj (bl b)=true then mkB ((bl b).drop 1) else ⟨#[45]⟩ ++ b
theorem Z1g {b:ByteArray} (hn:0 < b.size):Zaj (bl b)=((b[0].toNat:Int) == 45):=by
 have e:(bl b).head? = some b[0]:=by
  show b.data.toList.head? = _;rw [List.head?_eq_getElem?,List.getElem?_eq_getElem (show 0 < b.data.toList.length from hn)];rfl
 rw [Zaj,e,Bool.eq_iff_iff];simp
 constructor
 ·intro h;rw [h];rfl
 ·intro h;exact UInt8.toNat_inj.1 (by show _=45;omega)
theorem Zso (b:ByteArray) (w:World) (hs:b.size≤1100000) (h0:0 < b.size) :
  Calls Tryz.prog 154 #[.string b] w fun e w'=>e = .returned (.string (negT b))∧w=w':=by
 by_cases hz:bl b=[48]
 ·have t0:b.toList=[48]:=by rw [Za9];exact hz
  have HF:Hid (negT b=b):=by show _=_;rw [negT,if_pos hz]
  clear hz;go_enter Tryz.func154,Tryz.ntmps154
  go_wp2;go_ret;exact ⟨by rw [HF.out];rfl,rfl⟩
 ·cases hn:Zaj (bl b) with
  | false=>rw [negT,if_neg hz,hn,if_neg Bool.false_ne_true];exact Zxm b w hs h0 hz hn
  | true =>
   have t0:(b.toList == [48])=false:=by rw [Za9,beq_eq_false_iff_ne];exact hz
   have hm0:(0:Int) < (b.size:Int):=by omega
   have HX:Hid (b.extract 1 b.size=negT b):=by
    show _=_;rw [negT,if_neg hz,if_pos hn];apply Zjz
    rw [Zd8,Zbe];rw [List.take_of_length_le (by simp [Zae])]
   have em:=Z1g h0;rw [hn] at em;have em2:((b[0].toNat:Int) == 45)=true:=em.symm;clear hz hn em;go_enter Tryz.func154,Tryz.ntmps154
   go_wp2;go_ret;exact ⟨by rw [← HX.out];rfl,rfl⟩
theorem Zw3 {b:ByteArray} (h:Zah b=0):Zah (negT b)=0∧ival (bl (numS (negT b))) = -(ival (bl (numS b)))∧ival (bl (denS (negT b)))=ival (bl (denS b)):=by
 by_cases hz:bl b=[48]
 ·have e:negT b=b:=by rw [negT,if_pos hz]
  have eb:b=m0T:=Zjz hz;rw [e];refine ⟨h,?_,rfl⟩;rw [eb];decide +kernel
 ·cases hn:Zaj (bl b) with
  | false =>
   have e:negT b=⟨#[45]⟩ ++ b:=by rw [negT,if_neg hz,hn,if_neg Bool.false_ne_true]
   obtain ⟨h1,h2,h3⟩:=Zw5 h hz hn;rw [e];exact ⟨h1,h2,by rw [h3]⟩
  | true =>
   have e:negT b=mkB ((bl b).drop 1):=by rw [negT,if_neg hz,if_pos hn]
   obtain ⟨sg,N,D,rfl,hN,hD,h0,hg,hs⟩:=Zsh h;rw [Zd8,Zio _ h0,Bool.and_eq_true,decide_eq_true_eq] at hn;obtain ⟨rfl,hN0⟩:=hn;rw [e,Zd8,Zqy h0 hN0];obtain ⟨a1,a2,a3⟩:=Zip false hN hD h0 hg;obtain ⟨b1,b2,b3⟩:=Zip true hN hD h0 hg;refine ⟨a1,?_,by rw [a3,b3]⟩;rw [a2,b2];simp [sgnv]
theorem Zx1 (a:ByteArray) {b:ByteArray} (h:Zah b=0):sumE a (negT b) (addZ a (negT b))=sumE a b (subZ a b)∧sumS a (negT b) (addZ a (negT b))=sumS a b (subZ a b):=by
 obtain ⟨h1,h2,h3⟩:=Zw3 h;have eN:ival (bl (pN (negT b))) = -(ival (bl (pN b))):=by rw [pN,if_pos h1,pN,if_pos h,h2]
 have eD:ival (bl (pD (negT b)))=ival (bl (pD b)):=by rw [pD,if_pos h1,pD,if_pos h,h3]
 have eE:bE a (negT b)=bE a b:=by rw [bE,bE,h1,h]
 have eZ:addZ a (negT b)=subZ a b:=by rw [addZ,subZ,eN,eD,Int.neg_mul,← Int.sub_eq_add_neg]
 rw [eZ];have e1:∀ z,sumE a (negT b) z=sumE a b z:=fun z=>by rw [sumE,sumE,eE,eD,eN,Int.neg_mul,Z0f]
 refine ⟨e1 _,?_⟩;rw [sumS,sumS,e1,eD]
theorem Zw4 {b:ByteArray} (hr:Zah b=0):(negT b).size≤1000000:=Nat.le_trans (Zc5 (Zw3 hr).1).1 (by decide)
theorem Zur (a b:ByteArray) (w:World) (ha:a.size≤1000000) (hb:b.size≤1000000) (h:bE a b=0) :
  Calls Tryz.prog 152 #[.string a,.string b] w (Zbu w (sumS a b (subZ a b)) (sumE a b (subZ a b))):=by
 obtain ⟨ra,rb,_,_,_⟩:=Zc8 h;have HF:=Zfp a b w (by omega) (by omega);rw [if_pos h] at HF;have HF:=Lh HF;have HN:=Lh (fun W=>Zso b W (by omega) (Zc5 rb).2);have HA:=Lh (fun W=>Zk6 a (negT b) W ha (Zw4 rb));have e1:=(Zx1 a rb).1;have e2:=(Zx1 a rb).2;unfold addZ at e1 e2;rw [e1,e2] at HA;clear e1 e2 ra rb h ha hb;generalize sumS a b (subZ a b)=S at *;generalize sumE a b (subZ a b)=R at *;generalize negT b=nb at *
 generalize pN a=x1 at *;generalize pD a=x2 at *;generalize pN b=x3 at *;generalize pD b=x4 at *;go_enter Tryz.func152,Tryz.ntmps152
 go_wp2_with fail;refine HF.out.mono ?_;rintro e w1 ⟨rfl,hb1⟩;go_wp2_with fail;refine (HN.out _).mono ?_;rintro e w2 ⟨rfl,rfl⟩;go_wp2_with fail;refine (HA.out _).mono ?_;rintro e w3 ⟨t,rfl,ht,hb3⟩;have hbz:=hb1.trans (hb3.mono hb1.size);have HT:=Lh ht;clear HF HN HA ht;go_wp2;go_ret2;exact ⟨t,rfl,HT.out,hbz⟩
theorem Zsq (d:Int) (fr rc cy am:ByteArray) (h:Zah am=0) (w:World) :
  Calls Tryz.prog 101 #[.int .i64 d,.string fr,.string rc,.string cy,.string am] w fun e w'=>∃ v,e = .returned v∧Zfw w w' (Zcd d fr rc cy am) v∧Below w.heap.size w w':=by
 obtain ⟨z1,z2⟩:=Zc5 h;have HC:=Znn am m0T w (by omega) (by decide);rw [(Zmy h).1] at HC;have HP:=Lh (Zse h d fr rc cy);have HN:=Lh (fun W=>Zso am W (by omega) z2);have HX:Hid (cmpV am m0T < 0→negT am=mkB ((bl am).drop 1)):=by
  intro hv;have h2:=Zse h d fr rc cy;rw [if_neg (by omega),if_pos hv] at h2;unfold Zcd at h2;split at h2
  ·cases h2
  ·next hz =>
   split at h2
   ·next hn=>rw [negT,if_neg hz,if_pos hn]
   ·next hn =>
    exfalso
    have hv2:=(Zmy h).2;obtain ⟨sg,N,D,rfl,hN,hD,h0,hg,hs⟩:=Zsh h;rw [kS,(Zip sg hN hD h0 hg).2.1] at hv2;rw [Zd8,Zio _ h0] at hn;rw [hv2] at hv
    cases sg
    ·simp only [sgnZ,sgnv,Bool.false_eq_true,if_false] at hv;split at hv
     ·omega
     ·split at hv <;> omega
    ·have:=hs rfl
     rw [Bool.true_and,decide_eq_true this] at hn;exact hn rfl
 have HC:=Lh HC;clear z1 z2 h;generalize cmpV am m0T=o at *;rcases Int.lt_trichotomy o 0 with ho | ho | ho
 ·have t1:(o == 0)=false:=by rw [beq_eq_false_iff_ne];omega
  have HP2:Hid (Zcd d fr rc cy am=[⟨d,rc,fr,cy,negT am⟩]):=by show _=_;rw [HP.out,if_neg (by omega),if_pos ho,HX.out ho]
  clear HP HX;generalize negT am=nb at *;go_enter Tryz.func101,Tryz.ntmps101
  go_wp2_with fail;refine HC.out.mono ?_;rintro e w1 ⟨rfl,hb1⟩;go_wp2_with fail;refine (HN.out _).mono ?_;rintro e w2 ⟨rfl,rfl⟩;clear HC HN;go_wp2;go_ret;rw [HP2.out];exact ⟨_,rfl,(Zks w1 ⟨d,rc,fr,cy,nb⟩).at hb1.size,hb1.trans ((Zac _ _).mono hb1.size)⟩
 ·subst ho;have HP2:Hid (Zcd d fr rc cy am=[]):=by show _=_;rw [HP.out,if_pos rfl]
  clear HP HX HN;go_enter Tryz.func101,Tryz.ntmps101
  go_wp2_with fail;refine HC.out.mono ?_;rintro e w1 ⟨rfl,hb1⟩;clear HC;go_wp2;go_ret;rw [HP2.out];exact ⟨_,rfl,Zkt _ _,hb1⟩
 ·have t1:(o == 0)=false:=by rw [beq_eq_false_iff_ne];omega
  have t2 : ¬ o < 0:=by omega
  have HP2:Hid (Zcd d fr rc cy am=[⟨d,fr,rc,cy,am⟩]):=by show _=_;rw [HP.out,if_neg (by omega),if_neg (by omega)]
  clear HP HX HN;go_enter Tryz.func101,Tryz.ntmps101
  go_wp2_with fail;refine HC.out.mono ?_;rintro e w1 ⟨rfl,hb1⟩;clear HC;go_wp2;go_ret;rw [HP2.out];exact ⟨_,rfl,(Zks w1 ⟨d,fr,rc,cy,am⟩).at hb1.size,hb1.trans ((Zac _ _).mono hb1.size)⟩
theorem Zml {t:ByteArray} {z:Int} (h:bl t=zStr z):t.size≤1002:=by rw [← Zae,h];exact Zie z
theorem Zqe (a b n m:ByteArray) (z y:Int) (w:World) (h:bE a b=0) (hy:y ≠ 0) (hn:bl n=zStr z) (hm:bl m=zStr y) :
  Calls Tryz.prog 157 #[.string n,.string m,.int .i64 (zErr z),.int .i64 (zErr y)] w (Zbu w (frS a b z y) (frE a b z y)):=by
 by_cases hz:zErr z ≠ 0∨zErr y ≠ 0
 ·have hE:=Zqc h hz;rw [frS,hE,if_neg (by decide)];refine (Zi3 n m _ _ w hz).mono ?_;rintro e w' ⟨rfl,hb⟩;exact ⟨_,rfl,rfl,hb⟩
 ·have k3:zErr z=0:=by
   rcases Int.decEq (zErr z) 0 with k | k
   ·exact absurd (.inl k) hz
   ·exact k
  have k4:zErr y=0:=by
   rcases Int.decEq (zErr y) 0 with k | k
   ·exact absurd (.inr k) hz
   ·exact k
  have hE:=Z0n h k3 k4;obtain ⟨j3,i3,v3⟩:=Zcz k3;obtain ⟨j4,i4,v4⟩:=Zcz k4;have hyn:y.natAbs ≠ 0:=by omega
  have HM:=Lh (fun W=>Zpd n m W (by have:=Zml hn;omega) (by have:=Zml hm;omega) (by rw [hn];exact i3) (by rw [hm];exact i4) (by rw [hm,j4,Zaq];exact hyn));rw [k3,k4];refine (Zkb n m _ w HM).mono ?_;rintro e w' ⟨t,rfl,ht,hb⟩;refine ⟨t,by rw [hE],?_,hb⟩;rw [ht,frS,if_pos hE,hm,hn,j3,j4,Zaq,Zaq,Za8,Za8,decide_eq_true hyn,Bool.and_true];by_cases h0:z.natAbs=0
  ·rw [h0];exact Zky _ _ _
  ·rw [decide_eq_true h0,Bool.and_true]
theorem Zq7 (a b:ByteArray) (w:World) (ha:a.size≤1000000) (hb:b.size≤1000000) (h:bE a b ≠ 0) :
  Calls Tryz.prog 102 #[.string a,.string b] w (Zbu w (mulS a b) (mulE a b)):=by
 have hE:mulE a b=bE a b:=by rw [mulE,Zka h]
 have hS:mulS a b=[]:=by rw [mulS,Znb (by rw [Zka h];exact h)]
 rw [hE,hS];have HF:=Zfp a b w (by omega) (by omega);rw [if_neg h] at HF;clear hE hS;generalize bE a b=er at HF h ⊢;have t1:(er != 0)=true:=by rw [bne_iff_ne];exact h
 have HF:=Lh HF;clear h ha hb;go_enter Tryz.func102,Tryz.ntmps102
 go_wp2_with fail;refine HF.out.mono ?_;rintro e w1 ⟨rfl,hb1⟩;go_wp2;go_ret2;exact ⟨_,rfl,rfl,hb1⟩
theorem Zuq (a b:ByteArray) (w:World) (ha:a.size≤1000000) (hb:b.size≤1000000) (h:bE a b=0) :
  Calls Tryz.prog 102 #[.string a,.string b] w (Zbu w (mulS a b) (mulE a b)):=by
 have HF:=Zfp a b w (by omega) (by omega);rw [if_pos h] at HF;obtain ⟨ra,rb,eN,eD,e1,e2,e3,e4⟩:=Zc8 h;obtain ⟨q1,q2,q3,q4⟩:=Zde a b ha hb;rw [eN] at q2;rw [eD] at q4;obtain ⟨na,da,_,_⟩:=Zbg ra;obtain ⟨nb,db,_,_⟩:=Zbg rb;have pa:=Ze1 ra;have pb:=Ze1 rb;rw [← e1] at na;rw [← e2] at da pa;rw [← e3] at nb;rw [← e4] at db pb;have HX:=Lh (fun W=>Zhi (pN a) (pN b) W q1 q2 na nb);have HY:=Lh (fun W=>Zhi (pD a) (pD b) W q3 q4 da db)
 have hy:ival (bl (pD a)) * ival (bl (pD b)) ≠ 0:=Int.mul_ne_zero (by omega) (by omega);have HFr:=Lh (fun W n m hn hm=>Zqe a b n m (ival (bl (pN a)) * ival (bl (pN b))) (ival (bl (pD a)) * ival (bl (pD b))) W h hy hn hm);have hE:mulE a b=frE a b (ival (bl (pN a)) * ival (bl (pN b))) (ival (bl (pD a)) * ival (bl (pD b))):=by rfl
 have hS:mulS a b=frS a b (ival (bl (pN a)) * ival (bl (pN b))) (ival (bl (pD a)) * ival (bl (pD b))):=by rfl
 rw [hE,hS];skip
 unfold Zcv at HX HY;have HF:=Lh HF;clear ra rb eN eD e1 e2 e3 e4 q1 q2 q3 q4 na da nb db pa pb hy hE hS h ha hb;generalize frS a b (ival (bl (pN a)) * ival (bl (pN b))) (ival (bl (pD a)) * ival (bl (pD b)))=S at *;generalize frE a b (ival (bl (pN a)) * ival (bl (pN b))) (ival (bl (pD a)) * ival (bl (pD b)))=E at *;generalize ival (bl (pN a)) * ival (bl (pN b))=z1 at *;generalize ival (bl (pD a)) * ival (bl (pD b))=z2 at *
 generalize pN a=n at *;generalize pN b=m at *;generalize pD a=d at *;generalize pD b=c at *;generalize zErr z1=f1 at *;generalize zErr z2=f2 at *;generalize zStr z1=s1 at *;generalize zStr z2=s2 at *;go_enter Tryz.func102,Tryz.ntmps102
 go_wp2_with fail;refine HF.out.mono ?_;rintro e w1 ⟨rfl,hb1⟩;go_wp2_with fail;refine (HX.out _).mono ?_;rintro e w2 ⟨x,rfl,hx,hb2⟩;go_wp2_with fail;refine (HY.out _).mono ?_;rintro e w3 ⟨y,rfl,hy,hb3⟩;have HFr2:=Lh (fun W=>HFr.out W x y hx hy);have hbz:=hb1.trans ((hb2.trans (hb3.mono hb2.size)).mono hb1.size);clear hx hy HFr HX HY HF hb1 hb2 hb3;go_wp2_with fail;refine (HFr2.out _).mono ?_;rintro e w5 ⟨t,rfl,ht,hb5⟩
 have hbf:=hbz.trans (hb5.mono hbz.size);have Ht:=Lh ht;clear ht hbz hb5;go_wp2;go_ret2;exact ⟨t,rfl,Ht.out,hbf⟩
theorem Zk8 (a b:ByteArray) (w:World) (ha:a.size≤1000000) (hb:b.size≤1000000) :
  Calls Tryz.prog 102 #[.string a,.string b] w (Zbu w (mulS a b) (mulE a b)):=by
 by_cases h:bE a b=0
 ·exact Zuq a b w ha hb h
 ·exact Zq7 a b w ha hb h
end Go.Proofs.YtknpnhodpgajbaaGreatDoor
