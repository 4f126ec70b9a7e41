/- A part. -/
import Derived.Test.YtknpnhodpgajbaaGreatDoorG09
set_option maxHeartbeats 8000000
set_option maxRecDepth 100000
namespace Go.Proofs.YtknpnhodpgajbaaGreatDoor
open Go.RowKit
theorem Zh4 {d:Nat} (h:d < 10):(UInt8.ofNat (48+d)).toNat=48+d:=by
 rw [UInt8.toNat_ofNat'];exact Nat.mod_eq_of_lt (by omega)
theorem Zvh {D:List Nat} (h:Dig 10 D):(asc D).all Zav=true:=by
 rw [List.all_eq_true];intro c hc;obtain ⟨d,hd,rfl⟩:=List.mem_map.1 hc;have:=h d hd
 rw [Zav,Zh4 this];simp;omega
theorem Zzq {D:List Nat} (h:Dig 10 D):rdig (asc D.reverse)=D:=by
 have e:(asc D.reverse).map (fun c=>c.toNat - 48)=D.reverse:=by
  rw [asc,List.map_map];conv=>rhs;rw [← List.map_id D.reverse]
  apply List.map_congr_left
  intro d hd;have:=h d (List.mem_reverse.1 hd)
  simp only [Function.comp,Zh4 this,id];omega
 rw [rdig,e,List.reverse_reverse]
theorem Zyx {D:List Nat} (h:Dig 10 D):dval (asc D.reverse)=val 10 D:=by rw [← Ze4,Zzq h]
theorem Dig.rev {D:List Nat} (h:Dig 10 D):Dig 10 D.reverse:=fun x hx=>h x (List.mem_reverse.1 hx)
theorem Zri {D:List Nat} (h:Nrm 10 D) (hne:D ≠ []):∃ c l,asc D.reverse=c :: l∧c ≠ 48∧c ≠ 45:=by
 obtain ⟨d,hd⟩:∃ d,D.getLast? = some d:=by
  cases hD:D.getLast? with
  | none=>exact absurd (List.getLast?_eq_none_iff.1 hD) hne
  | some d=>exact ⟨d,rfl⟩
 have hd0:d ≠ 0:=fun e=>h.2 (by rw [hd,e])
 have hdm:=List.mem_of_getLast? hd;have hd10:=h.1 d hdm;have hr:D.reverse.head? = some d:=by rw [List.head?_reverse];exact hd
 cases hR:D.reverse with
 | nil=>rw [hR] at hr;cases hr
 | cons x t =>
  rw [hR] at hr
  cases hr
  refine ⟨UInt8.ofNat (48+d),asc t,rfl,?_,?_⟩
  ·intro e;have:=congrArg UInt8.toNat e
   rw [Zh4 hd10] at this;have h48:(48:UInt8).toNat=48:=rfl;omega
  ·intro e;have:=congrArg UInt8.toNat e
   rw [Zh4 hd10] at this;have h45:(45:UInt8).toNat=45:=rfl;omega
theorem Zen {n:Nat} (neg:Bool) (h:n ≠ 0):istr neg n=(if neg then [45] else []) ++ asc (Zfy n).reverse:=by rw [istr,if_neg h]
theorem Zf2 {n:Nat} (neg:Bool) (h:n ≠ 0):body (istr neg n)=asc (Zfy n).reverse∧Zaj (istr neg n)=neg:=by
 obtain ⟨c,l,e,h1,h2⟩:=Zri (Zdk n) (Zm1 h);rw [Zen neg h,e]
 cases neg <;> simp [body,Zaj,h2]
theorem Zaq (neg:Bool) (n:Nat):dval (body (istr neg n))=n:=by
 by_cases h:n=0
 ·subst h;cases neg <;> decide
 ·rw [(Zf2 neg h).1,Zyx (Zdk n).1,Zfe]
theorem Za8 (neg:Bool) (n:Nat):Zaj (istr neg n)=(neg && decide (n ≠ 0)):=by
 by_cases h:n=0
 ·subst h;cases neg <;> decide
 ·rw [(Zf2 neg h).2];simp [h]
theorem Zef (neg:Bool) (n:Nat):Zar (istr neg n)=true:=by
 by_cases h:n=0
 ·subst h;cases neg <;> decide
 ·obtain ⟨c,l,e,h1,h2⟩:=Zri (Zdk n) (Zm1 h);have ha:=Zvh (Zdk n).1.rev;rw [Zar,(Zf2 neg h).1,(Zf2 neg h).2,Zcg,ha,e];simp [h1]
theorem Zzd (neg:Bool) (n:Nat):(body (istr neg n)).length=if n=0 then 1 else (Zfy n).length:=by
 by_cases h:n=0
 ·subst h;cases neg <;> decide
 ·rw [(Zf2 neg h).1,if_neg h];simp [asc]
theorem Zhd (neg:Bool) (n:Nat):Zab (istr neg n)=wErr n:=by
 rw [Zab,if_pos (Zef neg n),Zzd,wErr];by_cases h:n=0
 ·subst h;rfl
 ·rw [if_neg h]
theorem Zh0 (neg:Bool) (n:Nat):ival (istr neg n)=sgnv neg n:=by
 rw [ival,Zaq,Za8];by_cases h:n=0
 ·subst h;cases neg <;> rfl
 ·simp [h]
theorem Zqn {l:List UInt8} (h:Zab l=0):dval (body l) < ten 1000:=Zap h
theorem Zyg {d:List UInt8} (h:d.all Zav=true):asc (rdig d).reverse=d:=by
 rw [rdig,List.reverse_reverse,asc,List.map_map];conv=>rhs;rw [← List.map_id d]
 apply List.map_congr_left
 intro c hc;have h1:=(List.all_eq_true.1 h) c hc;simp [Zav] at h1
 simp only [Function.comp,id];apply UInt8.toNat_inj.1
 rw [UInt8.toNat_ofNat'];have:=c.toNat_lt
 rw [Nat.mod_eq_of_lt (by omega)];omega
theorem Zpu {d:List UInt8} {neg:Bool} (h:Zcg d neg=true):istr neg (dval d)=(if neg then [45] else []) ++ d:=by
 rw [Zcg] at h;simp only [Bool.and_eq_true,Bool.not_eq_true'] at h;obtain ⟨⟨h1,h2⟩,h3⟩:=h
 cases d with
 | nil=>simp at h1
 | cons c t =>
  by_cases hc:c=48
  ·subst hc;simp at h3
   obtain ⟨h3,rfl⟩:=h3;obtain rfl:t=[]:=h3;rfl
  ·have hN:Nrm 10 (rdig (c :: t)):=by
    refine ⟨Zjn h2,?_⟩;rw [Zk1,List.getLast?_append];simp
    have h4:=(List.all_eq_true.1 h2) c (by simp);simp [Zav] at h4
    intro e;apply hc
    apply UInt8.toNat_inj.1
    show c.toNat=48;omega
   have hne:rdig (c :: t) ≠ []:=by rw [Zk1];simp
   have hv:dval (c :: t) ≠ 0:=by
    rw [← Ze4];exact fun e=>hne ((hN.val_zero (by decide)).1 e)
   rw [Zen neg hv,← Ze4,Zm2 hN,Zyg h2]
theorem Zdt {l:List UInt8} (h:Zar l=true):istr (Zaj l) (dval (body l))=l:=by
 rw [Zar] at h;rw [Zpu h]
 cases l with
 | nil=>rfl
 | cons c t =>
  by_cases hc:c=45
  ·subst hc;rfl
  ·simp [Zaj,body,hc]
def sgnZ (a b:Int):Int:=if a < b then -1 else if a=b then 0 else 1
theorem Zo0 {l:List UInt8} (h:Zar l=true) (hn:Zaj l=true):dval (body l) ≠ 0:=by
 intro h0;have e:=Zdt h;rw [hn,h0] at e;have:l=[48]:=by rw [← e];rfl
 rw [this] at hn;exact absurd hn (by decide)
theorem Zxs (a b:Nat):sgnZ (sgnv false a) (sgnv false b)=sgn a b:=by
 simp only [sgnZ,sgnv,sgn,Bool.false_eq_true,if_false];rcases Nat.lt_trichotomy a b with h | h | h
 ·rw [if_pos (by omega),if_pos h]
 ·rw [if_neg (by omega),if_pos (by omega),if_neg (by omega),if_pos h]
 ·rw [if_neg (by omega),if_neg (by omega),if_neg (by omega),if_neg (by omega)]
theorem Zxv (a b:Nat):sgnZ (sgnv true a) (sgnv true b)=sgn b a:=by
 simp only [sgnZ,sgnv,sgn,if_true];rcases Nat.lt_trichotomy a b with h | h | h
 ·rw [if_neg (by omega),if_neg (by omega),if_neg (by omega),if_neg (by omega)]
 ·rw [if_neg (by omega),if_pos (by omega),if_neg (by omega),if_pos (by omega)]
 ·rw [if_pos (by omega),if_pos h]
theorem Zxu (a b:Nat) (h:a ≠ 0):sgnZ (sgnv true a) (sgnv false b) = -1:=by
 simp only [sgnZ,sgnv,if_true,Bool.false_eq_true,if_false];rw [if_pos (by omega)]
theorem Zxt (a b:Nat) (h:b ≠ 0):sgnZ (sgnv false a) (sgnv true b)=1:=by
 simp only [sgnZ,sgnv,if_true,Bool.false_eq_true,if_false];rw [if_neg (by omega),if_neg (by omega)]
theorem Z1i (a b:ByteArray) (w:World) (ha:a.size≤9223372036854775807) (hb:b.size≤9223372036854775807) (h0:Zab (bl a)=0) (h:Zab (bl b)=0) :
  Calls Tryz.prog 64 #[.string a,.string b] w fun e w'=>e = .returned (.tuple #[.int .i64 (sgnZ (ival (bl a)) (ival (bl b))),.int .i64 0])∧Below w.heap.size w w':=by
 have HC:=Lh (fun W=>Zin a b W ha hb h0 h);have HA:=Lh (Zap h0);have HB:=Lh (Zap h);have HNa:=Lh (fun k=>Zo0 (Zao h0).1 k);have HNb:=Lh (fun k=>Zo0 (Zao h).1 k);clear ha hb h0 h;go_enter Tryz.func64,Tryz.ntmps64
 go_wp2_with fail;refine (HC.out _).mono ?_;rintro e w1 ⟨va,vb,xs,ys,rfl,sa,sb,nx,ny,vx,vy,hb1⟩;rw [← vx] at HA HNa;rw [← vy] at HB HNb;have HVa:Hid (ival (bl a)=sgnv (Zaj (bl a)) (val 1000000000 xs)):=by show _=_;rw [ival,vx]
 have HVb:Hid (ival (bl b)=sgnv (Zaj (bl b)) (val 1000000000 ys)):=by show _=_;rw [ival,vy]
 clear vx vy HC;generalize Zaj (bl a)=na at *;generalize Zaj (bl b)=nb at *;obtain ⟨aa,ca,rfl,_⟩:=id sa;obtain ⟨ab,cb,rfl,_⟩:=id sb;have hb0:Below w1.heap.size w1 ((w1.alloc (.cells #[.bool na,.slice aa xs.length ca] 159)).alloc (.cells #[.bool nb,.slice ab ys.length cb] 159)):=Zaz _ _ _;have hbW:=hb1.trans (hb0.mono hb1.size);have lx:=Zdm nx HA.out;have ly:=Zdm ny HB.out;have HS1:=Lh (Zck _ _ xs ys _ (sa.below hb0) (sb.below hb0) nx ny (by omega) (by omega))
 have HS2:=Lh (Zck _ _ ys xs _ (sb.below hb0) (sa.below hb0) ny nx (by omega) (by omega));clear sa sb hb1 hb0 nx ny lx ly
 cases na <;> cases nb
 ·have HF:Hid (sgnZ (ival (bl a)) (ival (bl b))=sgn (val 1000000000 xs) (val 1000000000 ys)):=by show _=_;rw [HVa.out,HVb.out];exact Zxs _ _
  clear HVa HVb HNa HNb HA HB HS2;go_wp2_with fail;refine HS1.out.mono ?_;rintro e w2 ⟨rfl,n,rfl⟩;go_wp2;go_ret2;exact ⟨by rw [HF.out];rfl,below_drewN hbW _⟩
 ·have HF:Hid (sgnZ (ival (bl a)) (ival (bl b))=1):=by show _=_;rw [HVa.out,HVb.out];exact Zxt _ _ (HNb.out rfl)
  clear HVa HVb HNa HNb HA HB HS2 HS1;go_wp2;go_ret2;exact ⟨by rw [HF.out];rfl,hbW⟩
 ·have HF:Hid (sgnZ (ival (bl a)) (ival (bl b)) = -1):=by show _=_;rw [HVa.out,HVb.out];exact Zxu _ _ (HNa.out rfl)
  clear HVa HVb HNa HNb HA HB HS2 HS1;go_wp2;go_ret2;exact ⟨by rw [HF.out];rfl,hbW⟩
 ·have HF:Hid (sgnZ (ival (bl a)) (ival (bl b))=sgn (val 1000000000 ys) (val 1000000000 xs)):=by show _=_;rw [HVa.out,HVb.out];exact Zxv _ _
  clear HVa HVb HNa HNb HA HB HS1;go_wp2_with fail;refine HS2.out.mono ?_;rintro e w2 ⟨rfl,n,rfl⟩;go_wp2;go_ret2;exact ⟨by rw [HF.out];rfl,below_drewN hbW _⟩
def numS (s:ByteArray):ByteArray:=if Za2 s = -1 then s else s.extract 0 (Za2 s).toNat
def denS (s:ByteArray):ByteArray:=if Za2 s = -1 then ⟨#[49]⟩ else s.extract ((Za2 s).toNat+1) s.size
def pN (s:ByteArray):ByteArray:=if Zah s=0 then numS s else ⟨#[]⟩
def pD (s:ByteArray):ByteArray:=if Zah s=0 then denS s else ⟨#[]⟩
def Zju (w:World) (n d:ByteArray) (er:Int) (e:Ending) (w':World):Prop:=e = .returned (.tuple #[.string n,.string d,.int .i64 er])∧Below w.heap.size w w'
theorem Zo3 (s:ByteArray):(numS s).size≤s.size:=by
 unfold numS;split
 ·exact Nat.le_refl _
 ·rw [← Zae,Zbe,List.length_take,List.length_drop,Zae];omega
theorem Zn8 (s:ByteArray):(denS s).size≤s.size+1:=by
 unfold denS;split
 ·show 1≤_;omega
 ·rw [← Zae,Zfl,List.length_drop,Zae];omega
theorem Zbg {s:ByteArray} (h:Zah s=0):Zab (bl (numS s))=0∧Zab (bl (denS s))=0∧Zaj (bl (denS s))=false∧dval (body (bl (denS s))) ≠ 0:=by
 rcases Zbr s with h1 | ⟨o,h1,ho⟩
 ·rw [Zah,if_pos h1] at h;unfold numS denS;rw [if_pos h1,if_pos h1];exact ⟨h,by decide,by decide,by decide⟩
 ·have hne : ¬ Za2 s = -1:=by rw [h1];omega
  rw [Zah,if_neg hne,h1] at h;unfold numS denS;rw [if_neg hne,if_neg hne,h1,Zbe,Zfl];rw [Int.toNat_natCast] at h ⊢;rw [List.drop_zero,Nat.sub_zero];generalize (bl s).take o=n at h ⊢;generalize (bl s).drop (o+1)=d at h ⊢;unfold Zbq at h;split at h
  ·cases h
  ·split at h
   ·cases h
   ·split at h
    ·cases h
    ·split at h
     ·cases h
     ·rename_i c1 c2 c3 c4
      have c5:d ≠ [49]:=fun e=>by rw [if_pos e] at h;cases h
      rw [if_neg c5] at h;have hn:Zab n=0:=by
       rcases Int.decEq (Zab n) 0 with k | k
       ·rw [if_pos k] at h;cases h
       ·exact k
      rw [if_neg (fun k=>k hn)] at h;have hd:Zab d=0:=by
       rcases Int.decEq (Zab d) 0 with k | k
       ·rw [if_pos k] at h;cases h
       ·exact k
      have hneg:Zaj d=false:=by
       simp only [Zaj,beq_eq_false_iff_ne];exact c3
      refine ⟨hn,hd,hneg,fun e=>c4 ?_⟩;have hc:=(Zao hd).1;have:=Zdt hc
      rw [hneg,e] at this;exact this.symm
theorem Zxe (s:ByteArray) (w:World) (er:Int) (h:er ≠ 0) (C:Hid (∀ W,Calls Tryz.prog 21 #[.string s] W (Zf0 W er))) :
  Calls Tryz.prog 122 #[.string s] w (Zju w ⟨#[]⟩ ⟨#[]⟩ er):=by
 have h2:(er != 0)=true:=by rw [bne_iff_ne];exact h
 clear h;go_enter Tryz.func122,Tryz.ntmps122
 go_wp2_with fail;refine (C.out _).mono ?_;rintro e w1 ⟨rfl,hb1⟩;go_wp2;go_ret3;exact ⟨rfl,hb1⟩
theorem Zsg (s a b:ByteArray) (f:Bool) (w:World) (C:Hid (∀ W,Calls Tryz.prog 21 #[.string s] W (Zf0 W 0)))
  (HS:Hid (∀ W,Calls Tryz.prog 57 #[.string s] W (Ze5 W a b f))) :
  Calls Tryz.prog 122 #[.string s] w (Zju w a (if f then b else ⟨#[49]⟩) 0):=by
 cases f
 all_goals
  go_enter Tryz.func122,Tryz.ntmps122
  go_wp2_with fail;refine (C.out _).mono ?_;rintro e w1 ⟨rfl,hb1⟩;go_wp2_with fail;refine (HS.out _).mono ?_;rintro e w2 ⟨rfl,n,rfl⟩;have hb2:=below_drewN hb1 n;go_wp2;go_ret3;exact ⟨rfl,hb2⟩
theorem Zo9 (s:ByteArray) (w:World) (hs:s.size≤4611686018427387904) :
  Calls Tryz.prog 122 #[.string s] w (Zju w (pN s) (pD s) (Zah s)):=by
 have C:=Lh (fun W=>Zqz s W hs);unfold pN pD;by_cases h:Zah s=0
 ·rw [if_pos h,if_pos h];rw [h] at C ⊢;rcases Zbr s with h1 | ⟨o,h1,ho⟩
  ·have:=Zsg s s ⟨#[]⟩ false w C (Lh fun W=>Zmj s W h1)
   unfold numS denS;rw [if_pos h1,if_pos h1];exact this
  ·have:=Zsg s _ _ true w C (Lh fun W=>Zmk s W o h1 ho hs)
   unfold numS denS;have hne : ¬ Za2 s = -1:=by rw [h1];omega
   rw [if_neg hne,if_neg hne,h1];exact this
 ·rw [if_neg h,if_neg h];exact Zxe s w _ h C
def Zs2 (w:World) (z:Int) (e:Ending) (w':World):Prop:=∃ t u,e = .returned (.tuple #[.string t,.string u,.int .i64 0])∧bl t=zStr z∧bl u=[48]∧Below w.heap.size w w'
theorem Zoe (a b:ByteArray) (w:World) (ha:a.size≤9223372036854775807) (hb:b.size≤9223372036854775807) (h0:Zab (bl a)=0) (h:Zab (bl b)=0) (hy0:dval (body (bl b)) ≠ 0) (hd:dval (body (bl b)) ∣ dval (body (bl a))) :
  Calls Tryz.prog 167 #[.string a,.string b] w (Zs2 w (sgnv (!(Zaj (bl a) == Zaj (bl b))) (dval (body (bl a)) / dval (body (bl b))))):=by
 have HC:=Lh (fun W=>Zin a b W ha hb h0 h);have HA:=Lh (Zap h0);have HB:=Lh (Zap h);clear ha hb h0 h;go_enter Tryz.func167,Tryz.ntmps167
 go_wp2_with fail;refine (HC.out _).mono ?_;rintro e w1 ⟨va,vb,xs,ys,rfl,sa,sb,nx,ny,vx,vy,hb1⟩;have HZ:Hid (sgnv (!(Zaj (bl a) == Zaj (bl b))) (dval (body (bl a)) / dval (body (bl b)))=sgnv (!(Zaj (bl a) == Zaj (bl b))) (val 1000000000 xs / val 1000000000 ys)):=by show _=_;rw [vx,vy]
 rw [← vx] at hd;rw [← vy] at hd hy0;rw [← vx] at HA;rw [← vy] at HB;clear vx vy HC;generalize Zaj (bl a)=na at *;generalize Zaj (bl b)=nb at *;obtain ⟨aa,ca,rfl,_⟩:=id sa;obtain ⟨ab,cb,rfl,_⟩:=id sb;have hb0:Below w1.heap.size w1 ((w1.alloc (.cells #[.bool na,.slice aa xs.length ca] 159)).alloc (.cells #[.bool nb,.slice ab ys.length cb] 159)):=Zaz _ _ _;have bx:Zai ((w1.alloc (.cells #[.bool na,.slice aa xs.length ca] 159)).alloc (.cells #[.bool nb,.slice ab ys.length cb] 159)) w1.heap.size 159 (.bool na) (.slice aa xs.length ca):=(Zai.new _ _ _ _).alloc _
 have by1:Zai ((w1.alloc (.cells #[.bool na,.slice aa xs.length ca] 159)).alloc (.cells #[.bool nb,.slice ab ys.length cb] 159)) (w1.heap.size+1) 159 (.bool nb) (.slice ab ys.length cb):=by
  have h:=Zai.new (w1.alloc (.cells #[.bool na,.slice aa xs.length ca] 159)) (.bool nb) (.slice ab ys.length cb) 159;simp at h
  exact h
 have hbW:=hb1.trans (hb0.mono hb1.size);have sa0:=Lh (sa.below hb0);have sb0:=Lh (sb.below hb0);have lx:=Zdm nx HA.out;have ly:=Zdm ny HB.out;have x0:=bx.cell0;have x1:=bx.cell1;have y0:=by1.cell0;have y1:=by1.cell1;have BY:=Lh by1;clear bx by1 hb0 hb1 sa sb;have hyne:ys ≠ []:=fun e=>hy0 ((ny.val_zero (by decide)).2 e)
 have hylen:0 < ys.length:=List.length_pos_iff.2 hyne;have HD:=Lh (Zlw _ _ xs ys _ sa0.out sb0.out nx ny (by omega) (by omega) hyne);have Hdv:=Lh hd;have tq:((ys.length:Int) == 0)=false:=by rw [beq_eq_false_iff_ne];omega
 clear nx ny hyne hy0 hd;go_wp2_with fail;refine HD.out.mono ?_;rintro e w2 ⟨vq,vr,qs,rs,rfl,sq,sr,nq,nr,eq,er,hb2⟩;obtain rfl:rs=[]:=(nr.val_zero (by decide)).1 (by rw [er];exact Nat.mod_eq_zero_of_dvd Hdv.out);obtain ⟨ar,cr,rfl,_⟩:=id sr;obtain ⟨aq,cq,rfl,_⟩:=id sq;have hqlt:val 1000000000 qs < ten 1000:=by rw [eq];exact Nat.lt_of_le_of_lt (Nat.div_le_self _ _) HA.out
 have hz1:w1.heap.size+1 < ((w1.alloc (.cells #[.bool na,.slice aa xs.length ca] 159)).alloc (.cells #[.bool nb,.slice ab ys.length cb] 159)).heap.size:=BY.out.lt;have x0':w2.cell? ⟨w1.heap.size,0,none⟩=some (.bool na):=by rw [hb2.cell (Nat.lt_of_succ_lt hz1)];exact x0
 have y0':w2.cell? ⟨w1.heap.size+1,0,none⟩=some (.bool nb):=by rw [hb2.cell hz1];exact y0
 have E0:=Zc3 hqlt;have hE:Hid (wErr (val 1000000000 qs)=0):=(E0 false).1;have HR:=Lh (fun W (h:Below w2.heap.size w2 W)=>Zeu false _ [] W (sr.below h) nr (by decide));have hbz2:=hbW.trans (hb2.mono hbW.size);have hE0:Hid (wErr (val 1000000000 [])=0):=by show _=_;decide
 have hS0:Hid (wStr false (val 1000000000 [])=[48]):=by show _=_;decide
 have HW:=Lh (fun neg=>Zeu neg _ qs w2 sq nq (by have:=Zdm nq hqlt;omega));have hS:Hid (∀ neg,wStr neg (val 1000000000 qs)=zStr (sgnv neg (val 1000000000 xs / val 1000000000 ys))):=fun neg=>by rw [← eq];exact Zce _ _
 clear eq er sq sr nq nr HD x0 x1 y0 y1 hb2 hqlt E0 HA HB
 cases na
 case false =>
  go_wp2_with fail;refine (HW.out nb).mono ?_;rintro e w3 ⟨t,rfl,ht,hb3⟩;rw [hE.out];have Ht:Hid (bl t=zStr (sgnv nb (val 1000000000 xs / val 1000000000 ys))):=ht.trans (hS.out nb);have HR3:=Lh (HR.out w3 hb3);have hbz3:=hbz2.trans (hb3.mono hbz2.size);clear ht HW HR hb3 hbz2;go_wp2_with fail;refine HR3.out.mono ?_;rintro e w4 ⟨u,rfl,hu,hb4⟩;rw [hE0.out];have Hu:=Lh (hu.trans hS0.out);have hbz4:=hbz3.trans (hb4.mono hbz3.size)
  clear hu hb4 hbz3;go_wp2;go_ret3;rw [HZ.out];exact ⟨t,u,rfl,by rw [Ht.out];simp,Hu.out,hbz4⟩
 case true =>
  go_wp2_with fail;refine (HW.out (!nb)).mono ?_;rintro e w3 ⟨t,rfl,ht,hb3⟩;rw [hE.out];have Ht:Hid (bl t=zStr (sgnv (!nb) (val 1000000000 xs / val 1000000000 ys))):=ht.trans (hS.out (!nb));have HR3:=Lh (HR.out w3 hb3);have hbz3:=hbz2.trans (hb3.mono hbz2.size);clear ht HW HR hb3 hbz2;go_wp2_with fail;refine HR3.out.mono ?_;rintro e w4 ⟨u,rfl,hu,hb4⟩;rw [hE0.out];have Hu:=Lh (hu.trans hS0.out);have hbz4:=hbz3.trans (hb4.mono hbz3.size)
  clear hu hb4 hbz3;go_wp2;go_ret3;rw [HZ.out];exact ⟨t,u,rfl,by rw [Ht.out];simp,Hu.out,hbz4⟩
def Zbd (sg:Bool) (N D:Nat):List UInt8 :=
 if D / Nat.gcd N D=1 then istr sg (N / Nat.gcd N D) else istr sg (N / Nat.gcd N D) ++ [47] ++ istr false (D / Nat.gcd N D)
def Zgz (w:World) (l:List UInt8) (e:Ending) (w':World):Prop:=∃ t,e = .returned (.tuple #[.string t,.int .i64 0])∧bl t=l∧Below w.heap.size w w'
theorem Zfd {l:List UInt8} (h:Zar l=true):l=[48] ↔ dval (body l)=0:=by
 constructor
 ·rintro rfl;decide
 ·intro e;rw [← Zdt h,e,Zaj];rfl
theorem Zfc (a b:ByteArray):bl (a ++ b)=bl a ++ bl b:=by simp [bl]
theorem Zcc {t:ByteArray} {sg:Bool} {n k:Nat} (h:bl t=istr sg n) (hn:n < ten k):t.size≤k+2:=by
 rw [← Zae,h];by_cases h0:n=0
 ·subst h0;simp [istr]
 ·rw [Zen sg h0];have:=Zj6 hn
  cases sg <;> simp [asc] <;> omega
theorem Zbw {sg:Bool} {n:Nat} (h:n < ten 1000):Zab (istr sg n)=0:=by rw [Zhd];exact (Zc3 h sg).1
theorem Zr9 {b:ByteArray} (hp:0 < b.size):((b[0].toNat:Int) == 45)=Zaj (bl b):=by
 rw [Bool.eq_iff_iff,beq_iff_eq,Zby b hp];simp [Zaj]
 exact ⟨fun e=>UInt8.toNat_inj.1 (by simpa using (by omega:b[0].toNat=45)),fun e=>by rw [e];rfl⟩
theorem Z1p (a b:ByteArray) (w:World) (nb:Bool) (ha:a.size≤1100000) (hb:b.size≤1100000) (h0:Zab (bl a)=0) (h:Zab (bl b)=0) (hd0:dval (body (bl b)) ≠ 0) (hn:Zaj (bl b)=nb) :
  Calls Tryz.prog 126 #[.string a,.string b] w (Zgz w (Zbd (!(Zaj (bl a) == nb)) (dval (body (bl a))) (dval (body (bl b))))):=by
 have HG:=Lh (fun W=>Z0o a b W (by omega) (by omega) h0 h);have HA:=Lh (Zap h0);have HB:=Lh (Zap h);have hp:=Zih (Zao h).1;have tz:=Zgb (fun e=>hd0 ((Zfd (Zao h).1).1 e):bl b ≠ [48]);have t4:=Zr9 hp;rw [hn] at t4;obtain ⟨c,hc⟩:∃ c,b[0]=c:=⟨_,rfl⟩
 rw [hc] at t4;have hg0:Nat.gcd (dval (body (bl a))) (dval (body (bl b))) ≠ 0:=fun e=>hd0 (Nat.eq_zero_of_gcd_eq_zero_right e)
 have hglt:=Zv3 (Zap h0) (Zap h);have HN:Hid (∀ W (g:ByteArray),bl g=istr nb (Nat.gcd (dval (body (bl a))) (dval (body (bl b))))→Calls Tryz.prog 167 #[.string a,.string g] W (Zs2 W (sgnv (!(Zaj (bl a) == nb)) (dval (body (bl a)) / Nat.gcd (dval (body (bl a))) (dval (body (bl b))))))):=Lh fun W g hg=>by
  have hs:=Zcc hg hglt;have:=Zoe a g W (by omega) (by omega) h0 (by rw [hg];exact Zbw hglt) (by rw [hg,Zaq];exact hg0) (by rw [hg,Zaq];exact Nat.gcd_dvd_left _ _)
  rwa [hg,Zaq,Za8,decide_eq_true hg0,Bool.and_true] at this
 have HDn:Hid (∀ W (g:ByteArray),bl g=istr nb (Nat.gcd (dval (body (bl a))) (dval (body (bl b))))→Calls Tryz.prog 167 #[.string b,.string g] W (Zs2 W (sgnv false (dval (body (bl b)) / Nat.gcd (dval (body (bl a))) (dval (body (bl b))))))):=Lh fun W g hg=>by
  have hs:=Zcc hg hglt;have:=Zoe b g W (by omega) (by omega) h (by rw [hg];exact Zbw hglt) (by rw [hg,Zaq];exact hg0) (by rw [hg,Zaq];exact Nat.gcd_dvd_right _ _)
  rwa [hg,Zaq,Za8,decide_eq_true hg0,Bool.and_true,hn,beq_self_eq_true] at this
 have Hlt:=Lh hglt;have HG0:=Lh hg0;clear ha hb h0 h hd0 hn hg0 hglt;rw [Zbd];generalize dval (body (bl a))=N at *;generalize dval (body (bl b))=D at *;generalize Zaj (bl a)=na at *;generalize Nat.gcd N D=G at *;have hqlt:N / G < ten 1000:=Nat.lt_of_le_of_lt (Nat.div_le_self _ _) HA.out;have hrlt:D / G < ten 1000:=Nat.lt_of_le_of_lt (Nat.div_le_self _ _) HB.out;generalize N / G=q at *;generalize D / G=r at *
 have Hq:Hid (∀ sg,zStr (sgnv sg q)=istr sg q):=fun sg=>by rw [← Zce];exact (Zc3 hqlt sg).2
 have Hr:Hid (∀ sg,zStr (sgnv sg r)=istr sg r):=fun sg=>by rw [← Zce];exact (Zc3 hrlt sg).2
 generalize (!(na == nb))=sg at HN ⊢;have Hql:=Lh hqlt;have Hrl:=Lh hrlt;obtain ⟨P,hP⟩:∃ P,P=Zgz w (if r=1 then istr sg q else istr sg q ++ [47] ++ istr false r):=⟨_,rfl⟩
 rw [← hP];have HP:=Lh hP;clear hqlt hrlt HA HB hP;go_enter Tryz.func126,Tryz.ntmps126
 go_wp2_with fail;refine (HG.out _).mono ?_;rintro e w1 ⟨g,rfl,hg,hb1⟩;have hgs:g.size≤1002:=Zcc hg Hlt.out
 cases nb
 have hg2:Hid (bl g=istr false G):=Lh hg;rotate_left
 have hg2:Hid (bl (⟨#[45]⟩ ++ g)=istr true G):=Lh (by rw [Zfc,hg,Zen true HG0.out,Zen false HG0.out];rfl);rotate_left
 all_goals
  clear hg HG;go_wp2_with fail;refine (HN.out _ _ hg2.out).mono ?_;rintro e w2 ⟨x,x2,rfl,hx,hx2,hb2⟩;have Hx:=Lh (hx.trans (Hq.out sg));have hbb:=hb1.trans (hb2.mono hb1.size);clear hx hx2 hb1 hb2;go_wp2_with fail;refine (HDn.out _ _ hg2.out).mono ?_;rintro e w3 ⟨y,y2,rfl,hy,hy2,hb3⟩;have hyy:=hy.trans (Hr.out false);have hbz:=hbb.trans (hb3.mono hbb.size);clear hy hbb hb3 HN HDn;by_cases h1:r=1
  ·have ey:y=⟨#[49]⟩:=Z0m (by rw [hyy,h1];decide);have HF:Hid (P (.returned (.tuple #[.string x,.int .i64 0])) w3):=Lh (by rw [HP.out,if_pos h1];exact ⟨x,rfl,Hx.out,hbz⟩);subst ey;clear hyy h1 hy2;go_wp2;exact HF.out
  ·have ey:(y.toList == [49])=false:=Zgb (fun e=>h1 ((Zfr r).1 (by rw [← hyy];exact e)));have HF:Hid (∀ t,bl t=bl x ++ [47] ++ bl y→P (.returned (.tuple #[.string t,.int .i64 0])) w3):=Lh fun t ht=>by rw [HP.out,if_neg h1];exact ⟨_,rfl,by rw [ht,Hx.out,hyy],hbz⟩
   have hxs:x.size≤1002:=Zcc Hx.out Hql.out;have hys:y.size≤1002:=Zcc hyy Hrl.out;clear hyy h1 hy2;go_wp2;exact HF.out _ (by rw [Zfc,Zfc];rfl)
theorem Zqs (a b:ByteArray) (w:World) (ha:a.size≤1100000) (hb:b.size≤1100000) (h0:Zab (bl a)=0) (h:Zab (bl b)=0) (hd0:dval (body (bl b)) ≠ 0) :
  Calls Tryz.prog 126 #[.string a,.string b] w (Zgz w (Zbd (!(Zaj (bl a) == Zaj (bl b))) (dval (body (bl a))) (dval (body (bl b))))):=Z1p a b w _ ha hb h0 h hd0 rfl
def Zc0 (W:World) (P:Nat) (n0 n1 d0 d1:ByteArray) (e:Int):Prop:=W.heap[P]? = some (.cells #[.string n0,.string n1,.string d0,.string d1,.int .i64 e] 111 (0,0))
theorem Zc0.lt {W:World} {P:Nat} {n0 n1 d0 d1:ByteArray} {e:Int} (h:Zc0 W P n0 n1 d0 d1 e):P < W.heap.size:=(Array.getElem?_eq_some_iff.1 h).1
theorem Zc0.cells {W:World} {P:Nat} {n0 n1 d0 d1:ByteArray} {e:Int} (h:Zc0 W P n0 n1 d0 d1 e) :
  W.cell? ⟨P,0,none⟩=some (.string n0)∧W.cell? ⟨P,1,none⟩=some (.string n1)∧W.cell? ⟨P,2,none⟩=some (.string d0)∧W.cell? ⟨P,3,none⟩=some (.string d1)∧W.cell? ⟨P,4,none⟩=some (.int .i64 e):=by
 simp [World.cell?,show W.heap[P]? = _ from h]
theorem Zc0.frozen {W:World} {P:Nat} {n0 n1 d0 d1:ByteArray} {e:Int} (h:Zc0 W P n0 n1 d0 d1 e) (o:Nat):W.frozen? ⟨P,o,none⟩=false:=by simp [World.frozen?,show W.heap[P]? = _ from h]
theorem Zc0.of_block {W W':World} {P:Nat} {n0 n1 d0 d1:ByteArray} {e:Int} (h:Zc0 W P n0 n1 d0 d1 e) (k:W'.heap[P]? = W.heap[P]?):Zc0 W' P n0 n1 d0 d1 e:=k.trans h
theorem Zc0.below {W W':World} {P:Nat} {n0 n1 d0 d1:ByteArray} {e:Int} (h:Zc0 W P n0 n1 d0 d1 e) (hb:Below W.heap.size W W'):Zc0 W' P n0 n1 d0 d1 e:=h.of_block (hb.block _ h.lt)
theorem Zc0.setE {W:World} {P:Nat} {n0 n1 d0 d1:ByteArray} {e:Int} (h:Zc0 W P n0 n1 d0 d1 e) (x:Int):Zc0 (W.setCell ⟨P,4,none⟩ (.int .i64 x)) P n0 n1 d0 d1 x:=Zbj h 4 (.int .i64 x)
theorem Zc0.set0 {W:World} {P:Nat} {n0 n1 d0 d1:ByteArray} {e:Int} (h:Zc0 W P n0 n1 d0 d1 e) (x y:ByteArray) (z:Int) :
  Zc0 (((W.setCell ⟨P,0,none⟩ (.string x)).setCell ⟨P,2,none⟩ (.string y)).setCell ⟨P,4,none⟩ (.int .i64 z)) P x n1 y d1 z :=
 Zbj (Zbj (Zbj h 0 (.string x)) 2 (.string y)) 4 (.int .i64 z)
theorem Zc0.set1 {W:World} {P:Nat} {n0 n1 d0 d1:ByteArray} {e:Int} (h:Zc0 W P n0 n1 d0 d1 e) (x y:ByteArray) (z:Int) :
  Zc0 (((W.setCell ⟨P,1,none⟩ (.string x)).setCell ⟨P,3,none⟩ (.string y)).setCell ⟨P,4,none⟩ (.int .i64 z)) P n0 x d0 y z :=
 Zbj (Zbj (Zbj h 1 (.string x)) 3 (.string y)) 4 (.int .i64 z)
def bN1 (a b:ByteArray):ByteArray:=if Zah a=0 then pN b else ⟨#[]⟩
def bD1 (a b:ByteArray):ByteArray:=if Zah a=0 then pD b else ⟨#[]⟩
def bE (a b:ByteArray):Int:=if Zah a=0 then Zah b else Zah a
def Zre (w:World) (a b:ByteArray) (e:Ending) (w':World):Prop :=
 ∃ P,e = .returned (.pointer (some ⟨P,0,none⟩))∧w.heap.size≤P∧Zc0 w' P (pN a) (bN1 a b) (pD a) (bD1 a b) (bE a b)∧Below w.heap.size w w'
def Zva (a b:ByteArray) (k:Nat) (n0 n1 d0 d1:ByteArray) (e:Int):Prop :=
 match k with
 | 0=>n0=⟨#[]⟩∧n1=⟨#[]⟩∧d0=⟨#[]⟩∧d1=⟨#[]⟩∧e=0
 | 1=>n0=pN a∧n1=⟨#[]⟩∧d0=pD a∧d1=⟨#[]⟩∧e=Zah a
 | _=>n0=pN a∧n1=bN1 a b∧d0=pD a∧d1=bD1 a b∧e=bE a b
theorem Zoq (a b:ByteArray) (W:World):(Instr.index 165 (.agg #[.string a,.string b]) (.int .i64 0)).run Tryz.prog W = .ok (.string a) W∧(Instr.index 165 (.agg #[.string a,.string b]) (.int .i64 1)).run Tryz.prog W = .ok (.string b) W:=by
 constructor <;> simp [Instr.index,run_underlying Tryz.underlying165,asIntOf,go_sem]
theorem Zmv (a b:ByteArray) (w:World) (ha:a.size≤4611686018427387904) (hb:b.size≤4611686018427387904) :
  Calls Tryz.prog 61 #[.string a,.string b] w (Zre w a b):=by
 have HPa:=Lh (fun W=>Zo9 a W ha);have HPb:=Lh (fun W=>Zo9 b W hb);clear ha hb;have HP0:Hid (Zc0 (w.alloc (.cells #[.string ⟨#[]⟩,.string ⟨#[]⟩,.string ⟨#[]⟩,.string ⟨#[]⟩,.int .i64 0] 111)) w.heap.size ⟨#[]⟩ ⟨#[]⟩ ⟨#[]⟩ ⟨#[]⟩ 0):=by
  show (w.heap.push _)[w.heap.size]? = _;simp
 have hb0:=Zac w (.cells #[.string ⟨#[]⟩,.string ⟨#[]⟩,.string ⟨#[]⟩,.string ⟨#[]⟩,.int .i64 0] 111);have HB0:=Lh hb0;clear hb0;have hx0:=fun W=>(Zoq a b W).1
 have hx1:=fun W=>(Zoq a b W).2
 go_enter Tryz.func61,Tryz.ntmps61
 go_wp2_with fail;go_loopw [13] (fun i wr=>∃ (k:Nat) (ki:Int) (n0 n1 d0 d1:ByteArray) (er:Int),k≤2∧ki=(k:Int)∧i = .int .i64 ki∧Hid (Zva a b k n0 n1 d0 d1 er)∧Zc0 wr w.heap.size n0 n1 d0 d1 er∧Below w.heap.size w wr) (fun i _=>2 - (intOf i).toNat)
 case atStart=>exact ⟨0,0,_,_,_,_,_,by omega,rfl,rfl,Lh ⟨rfl,rfl,rfl,rfl,rfl⟩,HP0.out,HB0.out⟩
 case round =>
  obtain ⟨k,ki,n0,n1,d0,d1,er,hk,hki,rfl,HS,hp,hbel⟩:=hrel;have hk3:k=0∨k=1∨k=2:=by omega
  clear hk;rcases hk3 with rfl | rfl | rfl
  ·obtain rfl:ki=0:=by omega
   clear hki;obtain ⟨rfl,rfl,rfl,rfl,rfl⟩:=HS.out;have c:=hp.cells;have cc:=fun W (hb:Below wr.heap.size wr W)=>(hp.below hb).cells
   have ff:=fun W (hb:Below wr.heap.size wr W) o=>(hp.below hb).frozen o
   have HC:=Lh (And.intro cc ff);have q4:=c.2.2.2.2;have Hp:=Lh hp;clear c cc ff hp;go_wp2_with fail;go_region_held3 (fun _=>True) (exact trivial)
    (first | (go_at_call 122;refine (HPa.out _).mono ?_;rintro e w2 ⟨rfl,hb2⟩;have hb3:Below wr.heap.size wr w2:=(Below.drew (Below.refl _ _)).trans hb2;obtain ⟨p0,p1,p2,p3,p4⟩:=HC.out.1 _ hb3;have f0:=HC.out.2 _ hb3 0;have f2:=HC.out.2 _ hb3 2;have f4:=HC.out.2 _ hb3 4))
   have hp3:=Lh ((Hp.out.below hb3).set0 (pN a) (pD a) (Zah a));have hbl3:=Lh ((((hbel.trans (hb3.mono hbel.size)).setCell (p:=⟨w.heap.size,0,none⟩) (Nat.le_refl _) (.string (pN a))).setCell (p:=⟨w.heap.size,2,none⟩) (Nat.le_refl _) (.string (pD a))).setCell (p:=⟨w.heap.size,4,none⟩) (Nat.le_refl _) (.int .i64 (Zah a)));clear p0 p1 p2 p3 p4 f0 f2 f4 hbel hb2 hb3;go_wp2;go_roundw
   case rel=>exact ⟨1,1,_,_,_,_,_,by omega,rfl,by go_num,Lh ⟨rfl,rfl,rfl,rfl,rfl⟩,hp3.out,hbl3.out⟩
   case measure=>simp [intOf]
  ·obtain rfl:ki=1:=by omega
   clear hki;obtain ⟨rfl,rfl,rfl,rfl,rfl⟩:=HS.out;by_cases he:Zah a=0
   ·have t0:(Zah a == 0)=true:=by rw [beq_iff_eq];exact he
    have HE:Hid (Zva a b 2 (pN a) (pN b) (pD a) (pD b) (Zah b)):=⟨rfl,by rw [bN1,if_pos he],rfl,by rw [bD1,if_pos he],by rw [bE,if_pos he]⟩
    clear he;have c:=hp.cells;have cc:=fun W (hb:Below wr.heap.size wr W)=>(hp.below hb).cells
    have ff:=fun W (hb:Below wr.heap.size wr W) o=>(hp.below hb).frozen o
    have HC:=Lh (And.intro cc ff);have q4:=c.2.2.2.2;have Hp:=Lh hp;clear c cc ff hp;go_wp2_with fail;go_region_held3 (fun _=>True) (exact trivial)
     (first | (go_at_call 122;refine (HPb.out _).mono ?_;rintro e w2 ⟨rfl,hb2⟩;have hb3:Below wr.heap.size wr w2:=(Below.drew (Below.refl _ _)).trans hb2;obtain ⟨p0,p1,p2,p3,p4⟩:=HC.out.1 _ hb3;have f1:=HC.out.2 _ hb3 1;have f3:=HC.out.2 _ hb3 3;have f4:=HC.out.2 _ hb3 4))
    have hp3:=Lh ((Hp.out.below hb3).set1 (pN b) (pD b) (Zah b));have hbl3:=Lh ((((hbel.trans (hb3.mono hbel.size)).setCell (p:=⟨w.heap.size,1,none⟩) (Nat.le_refl _) (.string (pN b))).setCell (p:=⟨w.heap.size,3,none⟩) (Nat.le_refl _) (.string (pD b))).setCell (p:=⟨w.heap.size,4,none⟩) (Nat.le_refl _) (.int .i64 (Zah b)));clear p0 p1 p2 p3 p4 f1 f3 f4 hbel hb2 hb3;go_wp2;go_roundw
    case rel=>exact ⟨2,2,_,_,_,_,_,by omega,rfl,by go_num,HE,hp3.out,hbl3.out⟩
    case measure=>simp [intOf]
   ·have t0:(Zah a == 0)=false:=by rw [beq_eq_false_iff_ne];exact he
    have HE:Hid (Zva a b 2 (pN a) ⟨#[]⟩ (pD a) ⟨#[]⟩ (Zah a)):=⟨rfl,by rw [bN1,if_neg he],rfl,by rw [bD1,if_neg he],by rw [bE,if_neg he]⟩
    clear he;have q4:=hp.cells.2.2.2.2;have hp3:=Lh hp;have hbl3:=Lh hbel;clear hp hbel;go_wp2;go_roundw
    case rel=>exact ⟨2,2,_,_,_,_,_,by omega,rfl,by go_num,HE,hp3.out,hbl3.out⟩
    case measure=>simp [intOf]
  ·obtain rfl:ki=2:=by omega
   clear hki;obtain ⟨rfl,rfl,rfl,rfl,rfl⟩:=HS.out;have HF:Hid (Zre w a b (.returned (.pointer (some ⟨w.heap.size,0,none⟩))) wr):=⟨_,rfl,Nat.le_refl _,hp,hbel⟩
   clear hp hbel;go_wp2;go_ret;exact HF.out
def Cap (W:World) (P B f:Nat):Prop :=
 W.heap[B]? = some (.cells #[.pointer (some ⟨P,0,none⟩)] 105 (0,0))∧W.heap[B+1]? = some (.cells #[.func (.func f) #[] #[]] 104 (0,0))
def Zs4 (w:World) (P:Nat) (Q:ByteArray→Int→Prop) (e:Ending) (w':World):Prop:=∃ t er w2,e = .returned (.string t)∧Hid (Q t er)∧Below w.heap.size w w2∧w'=w2.setCell ⟨P,4,none⟩ (.int .i64 er)
theorem Cap.below {W W':World} {P B f:Nat} (h:Cap W P B f) (hb:Below W.heap.size W W'):Cap W' P B f :=
 ⟨(hb.block _ (Array.getElem?_eq_some_iff.1 h.1).1).trans h.1,(hb.block _ (Array.getElem?_eq_some_iff.1 h.2).1).trans h.2⟩
theorem Cap.setCell {W:World} {P B f:Nat} (h:Cap W P B f) {a:Addr} (h1:a.block ≠ B) (h2:a.block ≠ B+1) (u:Value):Cap (W.setCell a u) P B f :=
 ⟨(Below.heap_setCell _ _ _ _ h1.symm).trans h.1,(Below.heap_setCell _ _ _ _ h2.symm).trans h.2⟩
theorem Cap.ne {W:World} {P B f:Nat} (h:Cap W P B f) {n0 n1 d0 d1:ByteArray} {e:Int} (hp:Zc0 W P n0 n1 d0 d1 e):P ≠ B∧P ≠ B+1:=by
 constructor
 ·rintro rfl;have:=h.1.symm.trans hp
  simp at this
 ·rintro rfl;have:=h.2.symm.trans hp
  simp at this
theorem Cap.cells {W:World} {P B f:Nat} (h:Cap W P B f):W.cell? ⟨B,0,none⟩=some (.pointer (some ⟨P,0,none⟩))∧W.cell? ⟨B+1,0,none⟩=some (.func (.func f) #[] #[]):=by
 simp [World.cell?,h.1,h.2]
theorem Zfg (P f:Nat) (w:World) :
  Calls Tryz.prog 62 #[.pointer (some ⟨P,0,none⟩),.func (.func f) #[] #[]] w fun e w'=>e = .returned (.func (.func 123) #[] #[.pointer (some ⟨w.heap.size,0,none⟩),.pointer (some ⟨w.heap.size+1,0,none⟩)])∧Cap w' P w.heap.size f∧Below w.heap.size w w':=by
 have hc:Hid (Cap ((w.alloc (.cells #[.pointer (some ⟨P,0,none⟩)] 105)).alloc (.cells #[.func (.func f) #[] #[]] 104)) P w.heap.size f):=by
  constructor
  ·show ((w.heap.push _).push _)[w.heap.size]? = _;rw [Array.getElem?_push,if_neg (by simp),Array.getElem?_push,if_pos rfl]
  ·show ((w.heap.push _).push _)[w.heap.size+1]? = _;rw [Array.getElem?_push,if_pos (by simp)]
 have hb:=Lh (Zaz w (.cells #[.pointer (some ⟨P,0,none⟩)] 105) (.cells #[.func (.func f) #[] #[]] 104));go_enter Tryz.func62,Tryz.ntmps62
 go_wp2;go_ret;exact ⟨rfl,hc.out,hb.out⟩
theorem Zki (a b:ByteArray) (P B f:Nat) (n0 n1 d0 d1:ByteArray) (er:Int) (w:World) (hc:Cap w P B f) (hp:Zc0 w P n0 n1 d0 d1 er) (he:er ≠ 0) :
  Calls Tryz.prog 123 #[.string a,.string b,.pointer (some ⟨B,0,none⟩),.pointer (some ⟨B+1,0,none⟩)] w fun e w'=>e = .returned (.string ⟨#[]⟩)∧w=w':=by
 have c1:=hc.cells.1;have q4:=hp.cells.2.2.2.2;have t1:(er != 0)=true:=by rw [bne_iff_ne];exact he
 clear hc hp he;go_enter Tryz.func123,Tryz.ntmps123
 go_wp2;go_ret;exact ⟨rfl,rfl⟩
theorem Zwj (a b:ByteArray) (P B:Nat) (n0 n1 d0 d1:ByteArray) (w:World) (hc:Cap w P B 63) (hp:Zc0 w P n0 n1 d0 d1 0) (Q:ByteArray→Int→Prop)
  (HO:Hid (∀ W,Calls Tryz.prog 63 #[.string a,.string b] W fun e w'=>∃ t er,e = .returned (.tuple #[.string t,.int .i64 er])∧Hid (Q t er)∧Below W.heap.size W w')) :
  Calls Tryz.prog 123 #[.string a,.string b,.pointer (some ⟨B,0,none⟩),.pointer (some ⟨B+1,0,none⟩)] w (Zs4 w P Q):=by
 obtain ⟨c1,c2⟩:=hc.cells;have q4:=hp.cells.2.2.2.2;have HZ:Hid (∀ W,Below w.heap.size w W→W.cell? ⟨B,0,none⟩=some (.pointer (some ⟨P,0,none⟩))∧W.cell? ⟨B+1,0,none⟩=some (.func (.func 63) #[] #[])∧W.cell? ⟨P,4,none⟩=some (.int .i64 0)∧W.frozen? ⟨P,4,none⟩=false) :=
  fun W hb=>⟨(hc.below hb).cells.1,(hc.below hb).cells.2,(hp.below hb).cells.2.2.2.2,(hp.below hb).frozen 4⟩
 have hne:=hc.ne hp;have Hne:=Lh hne;clear hne;clear hc hp;go_enter Tryz.func123,Tryz.ntmps123
 go_wp2_with fail;have hne:=Hne.out;have hb0:Below w.heap.size w w.drew:=Below.drew (Below.refl _ _);go_region_held3 (fun w'=>w'.cell? ⟨B,0,none⟩=some (.pointer (some ⟨P,0,none⟩))∧w'.cell? ⟨B+1,0,none⟩=some (.func (.func 63) #[] #[]))
  (first | assumption | exact ⟨by assumption,by assumption⟩ | (refine ⟨?_,?_⟩ <;> (rw [World.cell?_setCell_far _ _ _ _ (by first | exact hne.1 | exact hne.2)];assumption)) | go_keep)
  (first | (go_at_call 63;refine (HO.out _).mono ?_;rintro e w2 ⟨t,er,rfl,hq,hb2⟩;have hb3:=hb0.trans hb2;obtain ⟨p1,p2,p3,p4⟩:=HZ.out _ hb3))
 have HF:Hid (Zs4 w P Q (.returned (.string t)) (w2.setCell ⟨P,4,none⟩ (.int .i64 er))):=⟨t,er,w2,rfl,hq,hb3,rfl⟩
 clear hq hb3 hb2 p1 p2 p3 p4;go_wp2;go_ret;exact HF.out
theorem Zwi (a b:ByteArray) (P B:Nat) (n0 n1 d0 d1:ByteArray) (w:World) (hc:Cap w P B 134) (hp:Zc0 w P n0 n1 d0 d1 0) (Q:ByteArray→Int→Prop)
  (HO:Hid (∀ W,Calls Tryz.prog 134 #[.string a,.string b] W fun e w'=>∃ t er,e = .returned (.tuple #[.string t,.int .i64 er])∧Hid (Q t er)∧Below W.heap.size W w')) :
  Calls Tryz.prog 123 #[.string a,.string b,.pointer (some ⟨B,0,none⟩),.pointer (some ⟨B+1,0,none⟩)] w (Zs4 w P Q):=by
 obtain ⟨c1,c2⟩:=hc.cells;have q4:=hp.cells.2.2.2.2;have HZ:Hid (∀ W,Below w.heap.size w W→W.cell? ⟨B,0,none⟩=some (.pointer (some ⟨P,0,none⟩))∧W.cell? ⟨B+1,0,none⟩=some (.func (.func 134) #[] #[])∧W.cell? ⟨P,4,none⟩=some (.int .i64 0)∧W.frozen? ⟨P,4,none⟩=false) :=
  fun W hb=>⟨(hc.below hb).cells.1,(hc.below hb).cells.2,(hp.below hb).cells.2.2.2.2,(hp.below hb).frozen 4⟩
 have hne:=hc.ne hp;have Hne:=Lh hne;clear hne;clear hc hp;go_enter Tryz.func123,Tryz.ntmps123
 go_wp2_with fail;have hne:=Hne.out;have hb0:Below w.heap.size w w.drew:=Below.drew (Below.refl _ _);go_region_held3 (fun w'=>w'.cell? ⟨B,0,none⟩=some (.pointer (some ⟨P,0,none⟩))∧w'.cell? ⟨B+1,0,none⟩=some (.func (.func 134) #[] #[]))
  (first | assumption | exact ⟨by assumption,by assumption⟩ | (refine ⟨?_,?_⟩ <;> (rw [World.cell?_setCell_far _ _ _ _ (by first | exact hne.1 | exact hne.2)];assumption)) | go_keep)
  (first | (go_at_call 134;refine (HO.out _).mono ?_;rintro e w2 ⟨t,er,rfl,hq,hb2⟩;have hb3:=hb0.trans hb2;obtain ⟨p1,p2,p3,p4⟩:=HZ.out _ hb3))
 have HF:Hid (Zs4 w P Q (.returned (.string t)) (w2.setCell ⟨P,4,none⟩ (.int .i64 er))):=⟨t,er,w2,rfl,hq,hb3,rfl⟩
 clear hq hb3 hb2 p1 p2 p3 p4;go_wp2;go_ret;exact HF.out
theorem Znf (x y:ByteArray) (P:Nat) (n0 n1 d0 d1:ByteArray) (er:Int) (w:World) (hp:Zc0 w P n0 n1 d0 d1 er) (he:er ≠ 0) :
  Calls Tryz.prog 65 #[.pointer (some ⟨P,0,none⟩),.string x,.string y] w (Zhl w er):=by
 have q4:=hp.cells.2.2.2.2;have t1:(er != 0)=true:=by rw [bne_iff_ne];exact he
 clear hp he;go_enter Tryz.func65,Tryz.ntmps65
 go_wp2_with fail;go_quiet (fail)
 go_wp2;go_ret2;exact ⟨rfl,below_drewN (Below.refl _ _) _⟩
theorem Zqr (x y:ByteArray) (P:Nat) (n0 n1 d0 d1:ByteArray) (w:World) (hp:Zc0 w P n0 n1 d0 d1 0) (l:List UInt8) (HM:Hid (∀ W,Calls Tryz.prog 126 #[.string x,.string y] W (Zgz W l))) :
  Calls Tryz.prog 65 #[.pointer (some ⟨P,0,none⟩),.string x,.string y] w (Zgz w l):=by
 have q4:=hp.cells.2.2.2.2;clear hp;go_enter Tryz.func65,Tryz.ntmps65
 go_wp2_with fail;refine (HM.out _).mono ?_;rintro e w1 ⟨t,rfl,ht,hb⟩;have Ht:=Lh ht;clear ht;go_wp2;go_ret2;exact ⟨t,rfl,Ht.out,hb⟩
theorem Ziw (n:Nat):(wErr n=0∧∀ neg,wStr neg n=istr neg n)∨(wErr n=14∧∀ neg,wStr neg n=[]):=by
 by_cases h:1000 < (Zfy n).length
 ·right;simp [wErr,wStr,h]
 ·left;simp [wErr,wStr,h]
theorem Zqq {neg:Bool} {n k:Nat} (h:n < 10 ^ k):(istr neg n).length≤k+2:=by
 by_cases h0:n=0
 ·subst h0;simp [istr]
 ·rw [Zen neg h0];have:=Zru h
  cases neg <;> simp [asc] <;> omega
theorem Zcm {a b:List UInt8} (h0:Zab a=0) (h:Zab b=0):(if Zab a ≠ 0 then Zab a else Zab b)=0:=by
 rw [if_neg (fun h=>h h0),h]
theorem Znl {a b:List UInt8} (h:Zb6 a b=0):Zab a=0∧Zab b=0:=by
 by_cases h0:Zab a=0
 ·exact ⟨h0,by rw [Zh7 h0] at h;exact h⟩
 ·rw [Zo8 h0] at h;exact absurd h h0
def Zcb (a b:List UInt8) (z er:Int) (t:List UInt8) (er':Int):Prop :=
 (er ≠ 0∧t=[]∧er'=er)∨(er=0∧Zb6 a b ≠ 0∧t=[]∧er'=Zb6 a b)∨(er=0∧Zb6 a b=0∧er'=zErr z∧t=zStr z)
theorem Zie (z:Int):(zStr z).length≤1002:=by
 rw [zStr,wStr];split
 ·simp
 ·rename_i h
  by_cases h0:z.natAbs=0
  ·rw [h0];simp [istr]
  ·rw [Zen _ h0];split <;> simp [asc] <;> omega
theorem Zcb.len {a b t:List UInt8} {z er er':Int} (h:Zcb a b z er t er'):t.length≤1002:=by
 rcases h with ⟨_,rfl,_⟩ | ⟨_,_,rfl,_⟩ | ⟨_,_,_,rfl⟩
 ·simp
 ·simp
 ·exact Zie z
theorem Zhh {w w':World} {a b:List UInt8} {z:Int} {e:Ending} (h:Zev w a b z e w'):∃ t er,e = .returned (.tuple #[.string t,.int .i64 er])∧Zcb a b z 0 (bl t) er∧Below w.heap.size w w':=by
 unfold Zev at h;split at h
 ·rename_i h0
  obtain ⟨t,rfl,ht,hb⟩:=h;exact ⟨t,_,rfl,.inr (.inr ⟨rfl,h0,rfl,ht⟩),hb⟩
 ·rename_i h0
  obtain ⟨rfl,hb⟩:=h;exact ⟨_,_,rfl,.inr (.inl ⟨rfl,h0,rfl,rfl⟩),hb⟩
structure PSt (w W:World) (P Bm Ba fm fa:Nat) (n0 n1 d0 d1:ByteArray) (er:Int):Prop where
 p:Zc0 W P n0 n1 d0 d1 er
 m:Cap W P Bm fm
 k:Cap W P Ba fa
 b:Below w.heap.size w W
 hP:w.heap.size≤P
theorem PSt.step {w W W2:World} {P Bm Ba fm fa:Nat} {n0 n1 d0 d1:ByteArray} {er:Int} (h:PSt w W P Bm Ba fm fa n0 n1 d0 d1 er) (hb:Below W.heap.size W W2) (x:Int):PSt w (W2.setCell ⟨P,4,none⟩ (.int .i64 x)) P Bm Ba fm fa n0 n1 d0 d1 x :=
 ⟨(h.p.below hb).setE x,(h.m.below hb).setCell (h.m.ne h.p).1 (h.m.ne h.p).2 _,(h.k.below hb).setCell (h.k.ne h.p).1 (h.k.ne h.p).2 _,(h.b.trans (hb.mono h.b.size)).setCell h.hP _,h.hP⟩
theorem PSt.drew {w W:World} {P Bm Ba fm fa:Nat} {n0 n1 d0 d1:ByteArray} {er:Int} (h:PSt w W P Bm Ba fm fa n0 n1 d0 d1 er):PSt w W.drew P Bm Ba fm fa n0 n1 d0 d1 er :=
 ⟨h.p.of_block rfl,h.m,h.k,h.b.drew,h.hP⟩
theorem Znm {w W:World} {P Bm Ba fa:Nat} {n0 n1 d0 d1:ByteArray} {er:Int} (h:PSt w W P Bm Ba 63 fa n0 n1 d0 d1 er) (a b:ByteArray) (ha:a.size≤1100000) (hb:b.size≤1100000) :
  Calls Tryz.prog 123 #[.string a,.string b,.pointer (some ⟨Bm,0,none⟩),.pointer (some ⟨Bm+1,0,none⟩)] W fun e w'=>∃ t er',e = .returned (.string t)∧Hid (Zcb (bl a) (bl b) (ival (bl a) * ival (bl b)) er (bl t) er')∧PSt w w' P Bm Ba 63 fa n0 n1 d0 d1 er':=by
 by_cases he:er=0
 ·subst he;refine (Zwj a b P Bm n0 n1 d0 d1 W h.m h.p (fun t er=>Zcb (bl a) (bl b) (ival (bl a) * ival (bl b)) 0 (bl t) er) (Lh fun W'=>?_)).mono ?_
  ·refine (Zza a b W' (by omega) (by omega)).mono fun e w' k=>?_
   obtain ⟨t,er,h1,h2,h3⟩:=Zhh k;exact ⟨t,er,h1,h2,h3⟩
  ·rintro e w' ⟨t,er',w2,rfl,hq,hb2,rfl⟩;exact ⟨t,er',rfl,hq,h.step hb2 er'⟩
 ·refine (Zki a b P Bm 63 n0 n1 d0 d1 er W h.m h.p he).mono ?_;rintro e w' ⟨rfl,rfl⟩;exact ⟨_,er,rfl,.inl ⟨he,rfl,rfl⟩,h⟩
theorem Z10 {w W:World} {P Bm Ba fm:Nat} {n0 n1 d0 d1:ByteArray} {er:Int} (h:PSt w W P Bm Ba fm 134 n0 n1 d0 d1 er) (a b:ByteArray) (ha:a.size≤1100000) (hb:b.size≤1100000) :
  Calls Tryz.prog 123 #[.string a,.string b,.pointer (some ⟨Ba,0,none⟩),.pointer (some ⟨Ba+1,0,none⟩)] W fun e w'=>∃ t er',e = .returned (.string t)∧Hid (Zcb (bl a) (bl b) (ival (bl a)+ival (bl b)) er (bl t) er')∧PSt w w' P Bm Ba fm 134 n0 n1 d0 d1 er':=by
 by_cases he:er=0
 ·subst he;refine (Zwi a b P Ba n0 n1 d0 d1 W h.k h.p (fun t er=>Zcb (bl a) (bl b) (ival (bl a)+ival (bl b)) 0 (bl t) er) (Lh fun W'=>?_)).mono ?_
  ·refine (Zy9 a b W' (by omega) (by omega)).mono fun e w' k=>?_
   obtain ⟨t,er,h1,h2,h3⟩:=Zhh k;exact ⟨t,er,h1,h2,h3⟩
  ·rintro e w' ⟨t,er',w2,rfl,hq,hb2,rfl⟩;exact ⟨t,er',rfl,hq,h.step hb2 er'⟩
 ·refine (Zki a b P Ba 134 n0 n1 d0 d1 er W h.k h.p he).mono ?_;rintro e w' ⟨rfl,rfl⟩;exact ⟨_,er,rfl,.inl ⟨he,rfl,rfl⟩,h⟩
def Z0z (x y:List UInt8) (er:Int) (s:List UInt8) (er2:Int):Prop:=(er ≠ 0∧s=[]∧er2=er)∨(er=0∧er2=0∧s=Zbd (!(Zaj x == Zaj y)) (dval (body x)) (dval (body y)))
def sumE (a b:ByteArray) (z:Int):Int :=
 if bE a b ≠ 0 then bE a b
 else if zErr (ival (bl (pN a)) * ival (bl (pD b))) ≠ 0∨zErr (ival (bl (pN b)) * ival (bl (pD a))) ≠ 0∨zErr z ≠ 0∨zErr (ival (bl (pD a)) * ival (bl (pD b))) ≠ 0 then 14 else 0
def sumS (a b:ByteArray) (z:Int):List UInt8:=if sumE a b z=0 then Zbd (decide (z < 0)) z.natAbs (ival (bl (pD a)) * ival (bl (pD b))).natAbs else []
def Zbu (w:World) (l:List UInt8) (er:Int) (e:Ending) (w':World):Prop:=∃ t,e = .returned (.tuple #[.string t,.int .i64 er])∧bl t=l∧Below w.heap.size w w'
theorem Zdg (z:Int):zErr z=0∨zErr z=14:=by
 rcases Ziw z.natAbs with ⟨h,_⟩ | ⟨h,_⟩
 ·exact .inl h
 ·exact .inr h
theorem Zc8 {a b:ByteArray} (h:bE a b=0):Zah a=0∧Zah b=0∧bN1 a b=pN b∧bD1 a b=pD b∧pN a=numS a∧pD a=denS a∧pN b=numS b∧pD b=denS b:=by
 unfold bE at h;by_cases h0:Zah a=0
 ·rw [if_pos h0] at h;exact ⟨h0,h,by rw [bN1,if_pos h0],by rw [bD1,if_pos h0],by rw [pN,if_pos h0],by rw [pD,if_pos h0],by rw [pN,if_pos h],by rw [pD,if_pos h]⟩
 ·rw [if_neg h0] at h;exact absurd h h0
theorem Zcs {a b:List UInt8} (h0:Zab a=0) (h:Zab b=0):Zb6 a b=0:=by rw [Zh7 h0];exact h
theorem Zcb.of_ok {a b t:List UInt8} {z er':Int} (h:Zcb a b z 0 t er') (hp:Zb6 a b=0):er'=zErr z∧t=zStr z:=by
 rcases h with ⟨h1,_,_⟩ | ⟨_,h1,_,_⟩ | ⟨_,_,h2,h3⟩
 ·exact absurd rfl h1
 ·exact absurd hp h1
 ·exact ⟨h2,h3⟩
theorem Zcb.of_err {a b t:List UInt8} {z er er':Int} (h:Zcb a b z er t er') (he:er ≠ 0):er'=er∧t=[]:=by
 rcases h with ⟨_,h1,h2⟩ | ⟨h1,_⟩ | ⟨h1,_⟩
 ·exact ⟨h2,h1⟩
 ·exact absurd h1 he
 ·exact absurd h1 he
theorem Zcz {z:Int} (h:zErr z=0):zStr z=istr (decide (z < 0)) z.natAbs∧Zab (zStr z)=0∧ival (zStr z)=z:=by
 have e:zStr z=istr (decide (z < 0)) z.natAbs:=by
  rcases Ziw z.natAbs with ⟨_,k⟩ | ⟨k,_⟩
  ·exact k _
  ·rw [zErr,k] at h;cases h
 refine ⟨e,by rw [e,Zhd];exact h,?_⟩;rw [e,Zh0];by_cases hz:z < 0
 ·rw [decide_eq_true hz];simp [sgnv];omega
 ·rw [decide_eq_false hz];simp [sgnv];omega
structure Zyd (a b:ByteArray) (op:Int→Int→Int) (t1 t2 t3 t4:List UInt8) (e1 e2 e3 e4:Int):Prop where
 r1:Zcb (bl (pN a)) (bl (bD1 a b)) (ival (bl (pN a)) * ival (bl (bD1 a b))) (bE a b) t1 e1
 r2:Zcb (bl (bN1 a b)) (bl (pD a)) (ival (bl (bN1 a b)) * ival (bl (pD a))) e1 t2 e2
 r3:Zcb t1 t2 (op (ival t1) (ival t2)) e2 t3 e3
 r4:Zcb (bl (pD a)) (bl (bD1 a b)) (ival (bl (pD a)) * ival (bl (bD1 a b))) e3 t4 e4
theorem Zyd.done {a b:ByteArray} {op:Int→Int→Int} {t1 t2 t3 t4:List UInt8} {e1 e2 e3 e4:Int} (h:Zyd a b op t1 t2 t3 t4 e1 e2 e3 e4) :
  e4=sumE a b (op (ival (bl (pN a)) * ival (bl (pD b))) (ival (bl (pN b)) * ival (bl (pD a)))) ∧
  (e4=0→Zab t3=0∧Zab t4=0∧dval (body t4) ≠ 0∧Zaj t4=false∧Zbd (!(Zaj t3 == Zaj t4)) (dval (body t3)) (dval (body t4))=sumS a b (op (ival (bl (pN a)) * ival (bl (pD b))) (ival (bl (pN b)) * ival (bl (pD a))))):=by
 obtain ⟨r1,r2,r3,r4⟩:=h;by_cases h0:bE a b=0
 ·obtain ⟨ra,rb,eN,eD,ea,ea',eb,eb'⟩:=Zc8 h0;rw [eN] at r2;rw [eD] at r1 r4;rw [h0] at r1;obtain ⟨na,da,sa,za⟩:=Zbg ra;obtain ⟨nb,db,sb,zb⟩:=Zbg rb;rw [← ea] at na;rw [← ea'] at da sa za;rw [← eb] at nb;rw [← eb'] at db sb zb;obtain ⟨f1,g1⟩:=r1.of_ok (Zcs na db);generalize hz1:ival (bl (pN a)) * ival (bl (pD b))=z1 at f1 g1 ⊢;rcases Zdg z1 with k1 | k1
  ·obtain ⟨_,i1,v1⟩:=Zcz k1;rw [← g1] at i1 v1;rw [f1,k1] at r2;obtain ⟨f2,g2⟩:=r2.of_ok (Zcs nb da);generalize hz2:ival (bl (pN b)) * ival (bl (pD a))=z2 at f2 g2 ⊢;rcases Zdg z2 with k2 | k2
   ·obtain ⟨_,i2,v2⟩:=Zcz k2;rw [← g2] at i2 v2;rw [f2,k2,v1,v2] at r3;obtain ⟨f3,g3⟩:=r3.of_ok (Zcs i1 i2);generalize op z1 z2=z3 at f3 g3 ⊢;rcases Zdg z3 with k3 | k3
    ·obtain ⟨j3,i3,v3⟩:=Zcz k3;rw [f3,k3] at r4;obtain ⟨f4,g4⟩:=r4.of_ok (Zcs da db);have hE:sumE a b z3=zErr (ival (bl (pD a)) * ival (bl (pD b))):=by
      rw [sumE,if_neg (fun h=>h h0),hz1,hz2];rcases Zdg (ival (bl (pD a)) * ival (bl (pD b))) with k4 | k4
      ·rw [if_neg (by rintro (h | h | h | h) <;> exact h (by assumption)),k4]
      ·rw [if_pos (.inr (.inr (.inr (by rw [k4];decide)))),k4]
     refine ⟨f4.trans hE.symm,fun h4=>?_⟩;have k4:zErr (ival (bl (pD a)) * ival (bl (pD b)))=0:=f4.symm.trans h4;obtain ⟨j4,i4,v4⟩:=Zcz k4;have hpos:0 < ival (bl (pD a)) * ival (bl (pD b)):=by
      rw [ival,ival,sa,sb];simp only [sgnv];have:=Nat.mul_pos (Nat.pos_of_ne_zero za) (Nat.pos_of_ne_zero zb)
      simp only [Bool.false_eq_true,if_false];exact_mod_cast this
     have hne:(ival (bl (pD a)) * ival (bl (pD b))).natAbs ≠ 0:=by omega
     rw [g3,g4,sumS,hE,if_pos k4];rw [j3] at i3 ⊢;rw [j4] at i4 ⊢;rw [decide_eq_false (show ¬ ival (bl (pD a)) * ival (bl (pD b)) < 0 by omega)] at i4 ⊢;rw [Zaq,Zaq,Za8,Za8];refine ⟨i3,i4,hne,by simp,?_⟩;by_cases hz3:z3.natAbs=0
     ·have:z3=0:=by omega
      subst this;simp
     ·simp [hz3]
    ·rw [f3,k3] at r4;obtain ⟨f4,g4⟩:=r4.of_err (by decide);have hE:sumE a b z3=14:=by
      rw [sumE,if_neg (fun h=>h h0),hz1,hz2,if_pos (.inr (.inr (.inl (by rw [k3];decide))))]
     exact ⟨f4.trans hE.symm,fun h4=>by rw [f4] at h4;cases h4⟩
   ·rw [f2,k2] at r3;obtain ⟨f3,g3⟩:=r3.of_err (by decide);rw [f3] at r4;obtain ⟨f4,g4⟩:=r4.of_err (by decide);have hE:sumE a b (op z1 z2)=14:=by
     rw [sumE,if_neg (fun h=>h h0),hz1,hz2,if_pos (.inr (.inl (by rw [k2];decide)))]
    exact ⟨f4.trans hE.symm,fun h4=>by rw [f4] at h4;cases h4⟩
  ·rw [f1,k1] at r2;obtain ⟨f2,g2⟩:=r2.of_err (by decide);rw [f2] at r3;obtain ⟨f3,g3⟩:=r3.of_err (by decide);rw [f3] at r4;obtain ⟨f4,g4⟩:=r4.of_err (by decide);have hE:sumE a b (op z1 (ival (bl (pN b)) * ival (bl (pD a))))=14:=by
    rw [sumE,if_neg (fun h=>h h0),hz1,if_pos (.inl (by rw [k1];decide))]
   exact ⟨f4.trans hE.symm,fun h4=>by rw [f4] at h4;cases h4⟩
 ·obtain ⟨f1,g1⟩:=r1.of_err h0;rw [f1] at r2;obtain ⟨f2,g2⟩:=r2.of_err h0;rw [f2] at r3;obtain ⟨f3,g3⟩:=r3.of_err h0;rw [f3] at r4;obtain ⟨f4,g4⟩:=r4.of_err h0;exact ⟨by rw [f4,sumE,if_pos h0],fun h4=>absurd (f4.symm.trans h4) h0⟩
theorem Zde (a b:ByteArray) (ha:a.size≤1000000) (hb:b.size≤1000000):(pN a).size≤1100000∧(bN1 a b).size≤1100000∧(pD a).size≤1100000∧(bD1 a b).size≤1100000:=by
 have e:(⟨#[]⟩:ByteArray).size=0:=rfl;have s1:=Zo3 a;have s2:=Zo3 b;have s3:=Zn8 a;have s4:=Zn8 b;have q1:(pN a).size≤1100000:=by unfold pN;split <;> omega
 have q2:(pN b).size≤1100000:=by unfold pN;split <;> omega
 have q3:(pD a).size≤1100000:=by unfold pD;split <;> omega
 have q4:(pD b).size≤1100000:=by unfold pD;split <;> omega
 refine ⟨q1,?_,q3,?_⟩
 ·unfold bN1;split <;> omega
 ·unfold bD1;split <;> omega
def frE (a b:ByteArray) (z y:Int):Int:=if bE a b ≠ 0 then bE a b else if zErr z ≠ 0∨zErr y ≠ 0 then 14 else 0
def frS (a b:ByteArray) (z y:Int):List UInt8:=if frE a b z y=0 then Zbd (!(decide (z < 0) == decide (y < 0))) z.natAbs y.natAbs else []
theorem Zka {a b:ByteArray} {z y:Int} (h:bE a b ≠ 0):frE a b z y=bE a b:=by rw [frE,if_pos h]
theorem Zqc {a b:ByteArray} {z y:Int} (h:bE a b=0) (k:zErr z ≠ 0∨zErr y ≠ 0):frE a b z y=14:=by rw [frE,if_neg (fun k=>k h),if_pos k]
theorem Z0n {a b:ByteArray} {z y:Int} (h:bE a b=0) (h1:zErr z=0) (h2:zErr y=0):frE a b z y=0:=by
 rw [frE,if_neg (fun k=>k h),if_neg (by rintro (k | k);exact k h1;exact k h2)]
theorem Znb {a b:ByteArray} {z y:Int} (h:frE a b z y ≠ 0):frS a b z y=[]:=by rw [frS,if_neg h]
theorem Zwh (b c:Bool):istr b 0=istr c 0:=rfl
theorem Zky (b c:Bool) (D:Nat):Zbd b 0 D=Zbd c 0 D:=by
 unfold Zbd;rw [Nat.zero_div,Zwh b c]
structure Zvb (a b:ByteArray) (u1 u2 v1 v2 t1 t2:List UInt8) (e1 e2:Int):Prop where
 r1:Zcb u1 u2 (ival u1 * ival u2) (bE a b) t1 e1
 r2:Zcb v1 v2 (ival v1 * ival v2) e1 t2 e2
theorem Zvb.done {a b:ByteArray} {u1 u2 v1 v2 t1 t2:List UInt8} {e1 e2:Int} (h:Zvb a b u1 u2 v1 v2 t1 t2 e1 e2) (hu:bE a b=0→Zb6 u1 u2=0) (hv:bE a b=0→Zb6 v1 v2=0) (hy:bE a b=0→ival v1 * ival v2 ≠ 0) :
  e2=frE a b (ival u1 * ival u2) (ival v1 * ival v2) ∧
  (e2=0→Zab t1=0∧Zab t2=0∧dval (body t2) ≠ 0∧Zbd (!(Zaj t1 == Zaj t2)) (dval (body t1)) (dval (body t2))=frS a b (ival u1 * ival u2) (ival v1 * ival v2)):=by
 obtain ⟨r1,r2⟩:=h;by_cases h0:bE a b=0
 ·rw [h0] at r1;obtain ⟨f1,g1⟩:=r1.of_ok (hu h0);replace hy:=hy h0;generalize ival u1 * ival u2=z at *;rcases Zdg z with k1 | k1
  ·obtain ⟨j1,i1,v1'⟩:=Zcz k1;rw [f1,k1] at r2;obtain ⟨f2,g2⟩:=r2.of_ok (hv h0);generalize ival v1 * ival v2=y at *;rcases Zdg y with k2 | k2
   ·obtain ⟨j2,i2,v2'⟩:=Zcz k2;have hE:=Z0n h0 k1 k2;refine ⟨by rw [f2,k2,hE],fun _=>?_⟩;rw [g1,g2,frS,if_pos hE];rw [j1] at i1 ⊢;rw [j2] at i2 ⊢;rw [Zaq,Zaq,Za8,Za8];have hyn:y.natAbs ≠ 0:=by omega
    refine ⟨i1,i2,hyn,?_⟩;rw [decide_eq_true hyn,Bool.and_true];by_cases hz:z.natAbs=0
    ·rw [hz];exact Zky _ _ _
    ·rw [decide_eq_true hz,Bool.and_true]
   ·have hE:=Zqc (z:=z) h0 (.inr (show zErr y ≠ 0 by rw [k2];decide));exact ⟨by rw [f2,k2,hE],fun h4=>by rw [f2,k2] at h4;cases h4⟩
  ·rw [f1,k1] at r2;obtain ⟨f2,g2⟩:=r2.of_err (by decide);have hE:=Zqc (y:=ival v1 * ival v2) h0 (.inl (show zErr z ≠ 0 by rw [k1];decide));exact ⟨f2.trans hE.symm,fun h4=>by rw [f2] at h4;cases h4⟩
 ·obtain ⟨f1,g1⟩:=r1.of_err h0;rw [f1] at r2;obtain ⟨f2,g2⟩:=r2.of_err h0;exact ⟨by rw [f2,Zka h0],fun h4=>absurd (f2.symm.trans h4) h0⟩
def mulE (a b:ByteArray):Int:=frE a b (ival (bl (pN a)) * ival (bl (pN b))) (ival (bl (pD a)) * ival (bl (pD b)))
def mulS (a b:ByteArray):List UInt8:=frS a b (ival (bl (pN a)) * ival (bl (pN b))) (ival (bl (pD a)) * ival (bl (pD b)))
theorem Z02 {a b:ByteArray} (h:bE a b ≠ 0) (z y z' y':Int):frE a b z y=frE a b z' y'∧frS a b z y=frS a b z' y':=by
 have e1:=Zka (z:=z) (y:=y) h;have e2:=Zka (z:=z') (y:=y') h;refine ⟨e1.trans e2.symm,?_⟩;rw [Znb (by rw [e1];exact h),Znb (by rw [e2];exact h)]
theorem Ze1 {s:ByteArray} (h:Zah s=0):0 < ival (bl (denS s)):=by
 obtain ⟨_,_,sg,z⟩:=Zbg h;rw [ival,sg];show (0:Int) < (dval (body (bl (denS s))):Int);omega
theorem Zzg {a b:ByteArray} {t1 t2:List UInt8} {e1 e2:Int} (h:Zvb a b (bl (pN a)) (bl (bN1 a b)) (bl (pD a)) (bl (bD1 a b)) t1 t2 e1 e2) :
  e2=mulE a b∧(e2=0→Zab t1=0∧Zab t2=0∧dval (body t2) ≠ 0∧Zbd (!(Zaj t1 == Zaj t2)) (dval (body t1)) (dval (body t2))=mulS a b):=by
 by_cases h0:bE a b=0
 ·obtain ⟨ra,rb,eN,eD,ea,ea',eb,eb'⟩:=Zc8 h0;obtain ⟨na,da,_,_⟩:=Zbg ra;obtain ⟨nb,db,_,_⟩:=Zbg rb;have pa:=Ze1 ra;have pb:=Ze1 rb;have k:=h.done (fun _=>by rw [eN,ea,eb];exact Zcs na nb) (fun _=>by rw [eD,ea',eb'];exact Zcs da db)
   (fun _=>by rw [eD,ea',eb'];exact Int.mul_ne_zero (by omega) (by omega))
  rw [eN,eD] at k;exact k
 ·have k:=h.done (fun k=>absurd k h0) (fun k=>absurd k h0) (fun k=>absurd k h0);obtain ⟨q1,q2⟩:=Z02 h0 (ival (bl (pN a)) * ival (bl (bN1 a b))) (ival (bl (pD a)) * ival (bl (bD1 a b))) (ival (bl (pN a)) * ival (bl (pN b))) (ival (bl (pD a)) * ival (bl (pD b)));rw [q1,q2] at k;exact k
end Go.Proofs.YtknpnhodpgajbaaGreatDoor
