/- A part. -/
import Derived.Test.YthdeijdimfjceaaGreatDoorA03
namespace Go.Proofs.YthdeijdimfjceaaGreatDoor
open Go.RowKit
def ShortInv (xs os:List Nat) (d k r:Nat):Prop :=
 os.length=xs.length∧Dig 1000000000 os∧r < d∧val 1000000000 (xs.drop k)=d * val 1000000000 (os.drop k)+r
theorem ShortInv.start (xs:List Nat) (d:Nat) (hd:0 < d):ShortInv xs (List.replicate xs.length 0) d xs.length 0 :=
 ⟨by simp,fun x hx => by rw [(List.mem_replicate.1 hx).2];decide,hd,by simp [val]⟩
theorem ShortInv.step {xs os:List Nat} {d k r v:Nat} (h:ShortInv xs os d (k+1) r) (hk:k < xs.length) (hd:0 < d) (dx:Dig 1000000000 xs) (hv:v=r * 1000000000+xs.getD k 0) :
  ShortInv xs (os.set k (v / d)) d k (v % d)∧v / d < 1000000000:=by
 obtain ⟨h1,h2,h3,h4⟩:=h
 have hx9:=dx.at (by decide) k
 have hvd:v < d * 1000000000:=by
  have:(r+1) * 1000000000≤d * 1000000000:=Nat.mul_le_mul_right _ h3
  omega
 have hq:v / d < 1000000000:=Nat.div_lt_of_lt_mul hvd
 refine ⟨⟨by simpa using h1,h2.set _ hq,Nat.mod_lt _ hd,?_⟩,hq⟩
 rw [val_drop _ xs _ hk,val_drop _ (os.set k (v / d)) _ (by simp;omega)]
 have e6:(os.set k (v / d)).getD k 0=v / d:=by simp [List.getD,show k < os.length by omega]
 rw [e6,List.drop_set_of_lt (by omega),h4]
 have e7:=Nat.div_add_mod v d
 have e8:d * (v / d+1000000000 * val 1000000000 (os.drop (k+1)))=d * (v / d)+1000000000 * (d * val 1000000000 (os.drop (k+1))):=by grind
 rw [e8]
 omega
set_option maxHeartbeats 2000000 in
set_option maxRecDepth 100000 in
theorem short_any (a:Value) (xs:List Nat) (d:Nat) (w:World) (ha:Sl w a 1 xs.length (nums .u32 xs)) (dx:Dig 1000000000 xs) (lx:xs.length≤200000) (hd0:0 < d) (hd:d≤1000000000) :
  Calls Tryz.prog 125 #[a,.int .u32 d] w fun e w' => ∃ v rs r,e = .returned (.tuple #[v,.int .u32 ((r:Nat):Int)])∧OwnMag w w' v rs ∧
   val 1000000000 rs=val 1000000000 xs / d∧r=val 1000000000 xs % d:=by
 obtain ⟨ad,ca,rfl,h1,h3⟩:=ha.nums
 obtain ⟨i0,hi,hz0,hz1,hz2⟩:=info_parts Tryz.info_u32
 clear ha
 have hdz:((d:Int) == 0)=false:=by simp;omega
 go_enter Tryz.func125,Tryz.ntmps125
 go_wp2_with (at_make;refine wpList_make_full _ rfl _ _ 146 rfl w.heap.size 177 i0 (.int .u32 0) 1 Tryz.ul_u32s hi hz0 hz1 _ _ _ _ xs.length rfl rfl rfl rfl ?b2 ?b3 ?b4 ?_)
 case b2 => rw [hz2];omega
 case b3 => unfold maxLen;omega
 case b4 => exact Nat.le_refl _
 intro w1 hown hgrow
 have hbel:Below w.heap.size w w1:=(Below.refl _ _).grown hgrow (Nat.le_refl _) (by simp)
 have hown1:w1.ownsRow w.heap.size 177 1 (.slice (some ⟨w.heap.size,0,none⟩) xs.length xs.length) xs.length (nums .u32 (List.replicate xs.length 0)):=by
  rw [toList_madeCells_one] at hown
  simpa [nums] using hown
 clear hgrow hown
 go_wp2_with fail
 go_loopw [6,7] (fun c i wr => ∃ (k r:Nat) (os:List Nat),k≤xs.length∧r < d∧i = .int .i64 (k - 1)∧c = .int .u64 r ∧
   wr.ownsRow w.heap.size 177 1 (.slice (some ⟨w.heap.size,0,none⟩) xs.length xs.length) xs.length (nums .u32 os)∧Hid (ShortInv xs os d k r)∧Below w.heap.size w wr)
  (fun _ i _ => (intOf i+1).toNat)
 case atStart => exact ⟨xs.length,0,_,Nat.le_refl _,hd0,by go_num,rfl,hown1,ShortInv.start _ _ hd0,hbel⟩
 case round =>
  clear hown1 hbel
  obtain ⟨k,r,os,hk,hr,rfl,rfl,hown,Hinv,hbel⟩:=hrel
  by_cases h0:0 < k
  ·obtain ⟨k,rfl⟩:∃ k',k=k'+1:=⟨k - 1,by omega⟩
   obtain ⟨b,off,rfl,hc⟩:=h3.resolve_left (by omega)
   have hck:=cell_later hbel (hc k (by omega))
   have hx9:=dx.at (by decide) k
   have HR0:=Lib.hid (Hinv.out.step (v:=r * 1000000000+xs.getD k 0) (by omega) hd0 dx rfl)
   obtain ⟨x,hx⟩:∃ x,x=xs.getD k 0:=⟨_,rfl⟩
   rw [← hx] at hck hx9 HR0
   clear hx hc h3
   have hol:k < os.length:=by rw [Hinv.out.1];omega
   have hok:=(hown.cellAt k (by omega)).trans (nums_at .u32 os k hol)
   have hfr:=hown.frozenAt k
   obtain ⟨q,hq⟩:∃ q,q=(r * 1000000000+x) / d:=⟨_,rfl⟩
   obtain ⟨m,hm⟩:∃ m,m=(r * 1000000000+x) % d:=⟨_,rfl⟩
   have hqi:((r:Int) * 1000000000+(x:Int)) / (d:Int)=(q:Int):=by rw [hq];simp
   have hmi:((r:Int) * 1000000000+(x:Int)) % (d:Int)=(m:Int):=by rw [hm];simp
   have hq9:q < 1000000000:=by rw [hq];exact HR0.out.2
   have hmd:m < d:=by rw [hm];exact Nat.mod_lt _ hd0
   have HR1:Hid (ShortInv xs (os.set k q) d k m):=by rw [hq,hm];exact HR0.out.1
   clear hq hm HR0
   have est:=hown.stored k (.int .u32 (q:Int))
   have hbel2:=hbel.grown est.2 hbel.size (by intro k hk;simp at hk;omega)
   rw [nums_set] at est
   have Est:=Lib.hid est;clear est
   have Hbel2:=Lib.hid hbel2;clear hbel2
   go_wp2_with fail
   go_region
   all_goals (try go_wp2)
   all_goals go_roundw
   case rel =>
    simp only [hmi]
    exact ⟨k,m,_,by omega,hmd,rfl,rfl,Est.out.1.drew,HR1,Hbel2.out.drew⟩
   case measure => simp [intOf]
  ·obtain rfl:k=0:=by omega
   have hos:os.length=xs.length:=Hinv.out.1
   have hdg:=Hinv.out.2.1
   have HF:val 1000000000 xs=d * val 1000000000 (trimL os)+r:=by
    have e:=Hinv.out.2.2.2
    rw [List.drop_zero,List.drop_zero] at e
    rw [trimL_val];exact e
   have HF':Hid (val 1000000000 (trimL os)=val 1000000000 xs / d∧r=val 1000000000 xs % d):=by
    rw [HF]
    exact ⟨by rw [Nat.mul_add_div hd0,Nat.div_eq_of_lt hr];simp,by rw [Nat.mul_add_mod,Nat.mod_eq_of_lt hr]⟩
   clear HF
   have hsl:=Sl.of_owns hown
   rw [← hos] at hsl hown
   have Hos:=Lib.hid hos;clear hos
   have hr32:r < 4294967296:=by omega
   rw [show xs.length=os.length from Hos.out.symm]
   go_wp2_with fail
   refine (trim_any _ os _ hsl (by have:=Hos.out;omega)).mono ?_
   rintro e w' ⟨v',rfl,Hv,rfl⟩
   go_wp2
   go_ret2
   exact ⟨_,_,r,rfl,⟨own_trim hown Hv.out,trimL_nrm hdg,hbel⟩,HF'.out.1,HF'.out.2⟩
end Go.Proofs.YthdeijdimfjceaaGreatDoor

namespace Go.Proofs.YthdeijdimfjceaaGreatDoor
open Go.RowKit
def GuessOk (top v y z q:Nat):Prop :=
 q < 1000000000∧q * (y * 1000000000+z)≤top * 1000000000+v ∧
  (1000000000≤q+1∨top * 1000000000+v < (q+1) * (y * 1000000000+z))
def GuessInv (top v y z q r:Nat):Prop :=
 q * y+r=top∧(1000000000≤q+1∨top * 1000000000+v < (q+1) * (y * 1000000000+z))
theorem guess_mul (q y z:Nat):q * (y * 1000000000+z)=q * y * 1000000000+q * z:=by rw [Nat.mul_add,Nat.mul_assoc]
theorem GuessInv.start (top v y z:Nat) (hv:v < 1000000000) (hy:0 < y):GuessInv top v y z (top / y) (top % y):=by
 refine ⟨by rw [Nat.mul_comm];exact Nat.div_add_mod top y,.inr ?_⟩
 have h1:top < (top / y+1) * y:=by
  have:=Nat.div_add_mod top y
  have:=Nat.mod_lt top hy
  rw [Nat.add_mul,Nat.mul_comm (top / y)]
  omega
 rw [guess_mul]
 generalize (top / y+1) * y=A at *
 generalize (top / y+1) * z=C at *
 omega
theorem guess_top {top t u y:Nat} (h:top=t * 1000000000+u) (ht:t≤y) (hu:u < 1000000000) (hy:500000000≤y):top / y≤1000000001:=by
 have h2:top < 1000000002 * y:=by omega
 have h3:top / y < 1000000002:=Nat.div_lt_of_lt_mul (by rw [Nat.mul_comm];exact h2)
 omega
theorem GuessInv.down {top v y z q r:Nat} (h:GuessInv top v y z q r) (hq:0 < q) (hc:1000000000≤q∨r * 1000000000+v < q * z):GuessInv top v y z (q - 1) (r+y):=by
 obtain ⟨h1,_⟩:=h
 have e:q - 1+1=q:=by omega
 have e2:(q - 1) * y+y=q * y:=by rw [← Nat.succ_mul,Nat.succ_eq_add_one,e]
 refine ⟨by rw [← h1,← e2];omega,?_⟩
 rw [e]
 rcases hc with hc | hc
 ·exact .inl hc
 ·refine .inr ?_
  rw [guess_mul]
  clear e2 e
  subst h1
  rw [Nat.add_mul,Nat.add_assoc]
  exact Nat.add_lt_add_left hc _
theorem GuessInv.fin {top v y z q r:Nat} (h:GuessInv top v y z q r) (hq:q < 1000000000) (hc:q * z≤r * 1000000000+v):GuessOk top v y z q:=by
 obtain ⟨h1,h2⟩:=h
 refine ⟨hq,?_,h2⟩
 rw [guess_mul]
 generalize q * y=A at *
 generalize q * z=C at *
 omega
theorem GuessInv.fin_big {top v y z q r:Nat} (h:GuessInv top v y z q r) (hq:q < 1000000000) (hz:z < 1000000000) (hr:1000000000≤r):GuessOk top v y z q:=by
 refine h.fin hq ?_
 have h1:q * z≤999999999 * 999999999:=Nat.mul_le_mul (by omega) (by omega)
 generalize q * z=C at *
 omega
theorem GuessInv.small {top t u v y z q r:Nat} (h:GuessInv top v y z q r) (ht0:top=t * 1000000000+u) (ht:t≤y) (hu:u < 1000000000) (hr:1000000000≤r):q < 1000000000:=by
 obtain ⟨h1,_⟩:=h
 by_cases hq:q < 1000000000
 ·exact hq
 ·have h5:1000000000 * y≤q * y:=Nat.mul_le_mul_right _ (by omega)
  generalize q * y=A at *
  omega
def GuessPost (top v y z:Nat) (w:World) (e:Ending) (w':World):Prop:=∃ q n,e = .returned (.int .u64 ((q:Nat):Int))∧Hid (GuessOk top v y z q)∧w'=w.drewN n
set_option maxHeartbeats 2000000 in
set_option maxRecDepth 100000 in
theorem guess_any (t u v y z:Nat) (w:World) (ht:t≤y) (hu:u < 1000000000) (hv:v < 1000000000) (hy:500000000≤y) (hy9:y < 1000000000) (hz:z < 1000000000) :
  Calls Tryz.prog 126 #[.int .u64 t,.int .u64 u,.int .u64 v,.int .u64 y,.int .u64 z] w (GuessPost (t * 1000000000+u) v y z w):=by
 have hyz:((y:Int) == 0)=false:=by simp;omega
 obtain ⟨top,htop⟩:∃ top,top=t * 1000000000+u:=⟨_,rfl⟩
 rw [← htop]
 obtain ⟨q0,hq0⟩:∃ q0,q0=top / y:=⟨_,rfl⟩
 obtain ⟨r0,hr0⟩:∃ r0,r0=top % y:=⟨_,rfl⟩
 have hqi:((t:Int) * 1000000000+(u:Int)) / (y:Int)=(q0:Int):=by rw [hq0,htop];simp
 have hri:((t:Int) * 1000000000+(u:Int)) % (y:Int)=(r0:Int):=by rw [hr0,htop];simp
 have hI:Hid (GuessInv top v y z q0 r0):=by rw [hq0,hr0];exact GuessInv.start top v y z hv (by omega)
 have hq9:q0≤1000000001:=by rw [hq0];exact guess_top htop ht hu hy
 have hr9:r0 < y:=by rw [hr0];exact Nat.mod_lt _ (by omega)
 have Htop:=Lib.hid htop
 clear hq0 hr0 htop
 go_enter Tryz.func126,Tryz.ntmps126
 go_wp2_with fail
 go_quiet (fail)
 go_wp2_with fail
 simp only [hqi,hri]
 go_loopw [12,13] (fun a b wr => ∃ q r n:Nat,q≤1000000001∧r < 1000000000∧a = .int .u64 q∧b = .int .u64 r∧Hid (GuessInv top v y z q r)∧wr=w.drewN n)
  (fun a _ _ => (intOf a).toNat)
 case atStart => exact ⟨q0,r0,nq,hq9,by omega,rfl,rfl,hI,rfl⟩
 case round =>
  clear hI hqi hri hq9 hr9
  obtain ⟨q,r,n,hq,hr,rfl,rfl,HI,rfl⟩:=hrel
  obtain ⟨p,hp⟩:∃ p,p=q * z:=⟨_,rfl⟩
  have hpi:(q:Int) * (z:Int)=(p:Int):=by rw [hp];simp
  have Hp:=Lib.hid hp;clear hp
  by_cases hqb : ¬ q < 1000000000
  ·have hd1:decide ((1000000000:Int)≤(q:Int))=true:=by rw [decide_eq_true_eq];omega
   have hd1' : ¬ ((q:Int) < 1000000000):=by omega
   have HD:Hid (GuessInv top v y z (q - 1) (r+y)):=HI.out.down (by omega) (.inl (by omega))
   by_cases hbig : ¬ r+y < 1000000000
   ·have hd3:decide ((1000000000:Int)≤(r:Int)+(y:Int))=true:=by rw [decide_eq_true_eq];omega
    have hd3' : ¬ ((r:Int)+(y:Int) < 1000000000):=by omega
    have HF:Hid (GuessOk top v y z (q - 1)):=HD.out.fin_big (HD.out.small Htop.out ht hu (by omega)) hz (by omega)
    go_wp2
    go_ret
    exact ⟨q - 1,n,ret_int' (by omega),HF,rfl⟩
   ·have hd3:decide ((1000000000:Int)≤(r:Int)+(y:Int))=false:=by rw [decide_eq_false_iff_not];omega
    go_wp2
    go_roundw
    case rel => exact ⟨q - 1,r+y,n,by omega,by omega,by go_num,by go_num,HD,rfl⟩
    case measure => simp [intOf];omega
  ·have hqb:=Decidable.not_not.1 hqb
   have hd1:decide ((1000000000:Int)≤(q:Int))=false:=by rw [decide_eq_false_iff_not];omega
   have hpb:=Nat.mul_le_mul (show q≤999999999 by omega) (show z≤999999999 by omega)
   rw [← Hp.out] at hpb
   by_cases hc:r * 1000000000+v < p
   ·have hd2:decide ((r:Int) * 1000000000+(v:Int) < (p:Int))=true:=by rw [decide_eq_true_eq];omega
    have hd2' : ¬ ((p:Int)≤(r:Int) * 1000000000+(v:Int)):=by omega
    have hq1:q ≠ 0:=by rintro rfl;have:=Hp.out;omega
    have Hc:Hid (r * 1000000000+v < q * z):=by rw [← Hp.out];exact hc
    have HD:Hid (GuessInv top v y z (q - 1) (r+y)):=HI.out.down (by omega) (.inr Hc.out)
    by_cases hbig : ¬ r+y < 1000000000
    ·have hd3:decide ((1000000000:Int)≤(r:Int)+(y:Int))=true:=by rw [decide_eq_true_eq];omega
     have hd3' : ¬ ((r:Int)+(y:Int) < 1000000000):=by omega
     have HF:Hid (GuessOk top v y z (q - 1)):=HD.out.fin_big (by omega) hz (by omega)
     go_wp2
     go_ret
     exact ⟨q - 1,n,ret_int' (by omega),HF,rfl⟩
    ·have hd3:decide ((1000000000:Int)≤(r:Int)+(y:Int))=false:=by rw [decide_eq_false_iff_not];omega
     go_wp2
     go_roundw
     case rel => exact ⟨q - 1,r+y,n,by omega,by omega,by go_num,by go_num,HD,rfl⟩
     case measure => simp [intOf];omega
   ·have hd2:decide ((r:Int) * 1000000000+(v:Int) < (p:Int))=false:=by rw [decide_eq_false_iff_not];omega
    have HF:Hid (GuessOk top v y z q):=HI.out.fin (by omega) (by rw [← Hp.out];omega)
    go_wp2
    go_ret
    exact ⟨q,n,rfl,HF,rfl⟩
def gq (top v y z:Nat):Nat:=min 999999999 ((top * 1000000000+v) / (y * 1000000000+z))
theorem min_quot {F V q:Nat} (hVp:0 < V) (h1:q < 1000000000) (h2:q * V≤F) (h3:1000000000≤q+1∨F < (q+1) * V):q=min 999999999 (F / V):=by
 have a:q≤F / V:=(Nat.le_div_iff_mul_le hVp).2 h2
 rcases h3 with h3 | h3
 ·have:q=999999999:=by omega
  rw [Nat.min_eq_left (by omega)];exact this
 ·have b:F / V < q+1:=(Nat.div_lt_iff_lt_mul hVp).2 h3
  have:F / V=q:=by omega
  rw [this,Nat.min_eq_right (by omega)]
theorem quot_min {F V:Nat} (hVp:0 < V):min 999999999 (F / V) < 1000000000∧min 999999999 (F / V) * V≤F∧(1000000000≤min 999999999 (F / V)+1∨F < (min 999999999 (F / V)+1) * V):=by
 have a:=Nat.div_mul_le_self F V
 have b:=Nat.lt_mul_div_succ F hVp
 by_cases h:F / V≤999999999
 ·rw [Nat.min_eq_right h]
  exact ⟨by omega,a,.inr (by rw [Nat.mul_comm];exact b)⟩
 ·rw [Nat.min_eq_left (by omega)]
  exact ⟨by omega,Nat.le_trans (Nat.mul_le_mul_right V (by omega)) a,.inl (by omega)⟩
theorem GuessOk.eq {top v y z q:Nat} (h:GuessOk top v y z q) (hy:0 < y):q=gq top v y z:=min_quot (by omega) h.1 h.2.1 h.2.2
theorem gq_ok (top v y z:Nat) (hy:0 < y):GuessOk top v y z (gq top v y z):=quot_min (by omega)
theorem guess_val (t u v y z:Nat) (w:World) (ht:t≤y) (hu:u < 1000000000) (hv:v < 1000000000) (hy:500000000≤y) (hy9:y < 1000000000) (hz:z < 1000000000) :
  Calls Tryz.prog 126 #[.int .u64 t,.int .u64 u,.int .u64 v,.int .u64 y,.int .u64 z] w fun e w' => e = .returned (.int .u64 (gq (t * 1000000000+u) v y z:Nat))∧∃ n,w'=w.drewN n:=by
 refine (guess_any t u v y z w ht hu hv hy hy9 hz).mono ?_
 rintro e w' ⟨q,n,rfl,H,rfl⟩
 exact ⟨by rw [H.out.eq (by omega)],n,rfl⟩
end Go.Proofs.YthdeijdimfjceaaGreatDoor

namespace Go.Proofs.YthdeijdimfjceaaGreatDoor
theorem scale_big {y s:Nat} (hy:1≤y) (h1:s * (y+1)≤1000000000) (h2:1000000000 < (s+1) * (y+1)) (hy9:y < 1000000000):500000000≤y * s∧1≤s∧s≤500000000:=by
 have hs:1≤s:=by
  by_cases h:s=0
  ·subst h;omega
  ·omega
 have h3:s * 2≤s * (y+1):=Nat.mul_le_mul_left _ (by omega)
 refine ⟨?_,hs,by omega⟩
 obtain ⟨y,rfl⟩:∃ y',y=y'+1:=⟨y - 1,by omega⟩
 obtain ⟨s,rfl⟩:∃ s',s=s'+1:=⟨s - 1,by omega⟩
 have e1:(s+1+1) * (y+1+1)=s * y+2 * s+2 * y+4:=by grind
 have e2:(y+1) * (s+1)=s * y+s+y+1:=by grind
 rw [e1] at h2
 rw [e2]
 omega
theorem nrm_split {b:Nat} {ys:List Nat} (n:Nat) (hn:ys.length=n+1):val b ys=val b (ys.take n)+b ^ n * ys.getD n 0:=by
 have e:=val_take_succ b ys n
 rw [List.take_of_length_le (by omega)] at e
 exact e
theorem nrm_top {b:Nat} {ys:List Nat} (h:Nrm b ys) (n:Nat) (hn:ys.length=n+1):1≤ys.getD n 0:=by
 rcases List.eq_nil_or_concat ys with rfl | ⟨zs,d,rfl⟩
 ·simp at hn
 ·have h2:=h.2
  rw [List.concat_eq_append] at h2 hn ⊢
  simp only [List.length_append,List.length_singleton] at hn
  have e:(zs ++ [d]).getD n 0=d:=by
   have:n=zs.length:=by omega
   subst this
   simp [List.getD]
  rw [e]
  have hd:d ≠ 0:=fun e => by rw [e] at h2;simp at h2
  omega
theorem dig_take_lt {xs:List Nat} (h:Dig 1000000000 xs) (k:Nat):val 1000000000 (xs.take k) < 1000000000 ^ k :=
 Nat.lt_of_lt_of_le (val_lt (h.take k)) (Nat.pow_le_pow_right (by decide) (by simp;omega))
theorem scaled {ys vs:List Nat} {n s:Nat} (hy:Nrm 1000000000 ys) (hn:ys.length=n+1) (h1:s * (ys.getD n 0+1)≤1000000000) (h2:1000000000 < (s+1) * (ys.getD n 0+1))
  (hv:Nrm 1000000000 vs) (e:val 1000000000 vs=val 1000000000 ys * s):vs.length=n+1∧500000000≤vs.getD n 0:=by
 have ht:=nrm_top hy n hn
 have hy9:=hy.1.at (show 0 < 1000000000 by decide) n
 obtain ⟨hb,hs1,hs2⟩:=scale_big ht h1 h2 hy9
 have e1:=nrm_split (b:=1000000000) n hn
 have l1:=dig_take_lt hy.1 n
 have hP:0 < 1000000000 ^ n:=Nat.pow_pos (by decide)
 have up:val 1000000000 vs < 1000000000 ^ (n+1):=by
  rw [e,Nat.pow_succ]
  have a1:val 1000000000 ys < 1000000000 ^ n * (ys.getD n 0+1):=by rw [Nat.mul_add];omega
  have a2:val 1000000000 ys * s < 1000000000 ^ n * (ys.getD n 0+1) * s:=Nat.mul_lt_mul_of_pos_right a1 hs1
  have a3:1000000000 ^ n * (ys.getD n 0+1) * s≤1000000000 ^ n * 1000000000:=by
   rw [Nat.mul_assoc];exact Nat.mul_le_mul_left _ (by rw [Nat.mul_comm];exact h1)
  omega
 have lo:1000000000 ^ n * 500000000≤val 1000000000 vs:=by
  rw [e,e1]
  have a1:1000000000 ^ n * 500000000≤1000000000 ^ n * (ys.getD n 0 * s):=Nat.mul_le_mul_left _ hb
  have a2:(val 1000000000 (ys.take n)+1000000000 ^ n * ys.getD n 0) * s=val 1000000000 (ys.take n) * s+1000000000 ^ n * (ys.getD n 0 * s):=by rw [Nat.add_mul,Nat.mul_assoc]
  omega
 have hl1:=hv.length_le (by decide) (n+1) up
 have hl2:n < vs.length:=by
  have a1:=val_lt hv.1
  have a2:1000000000 ^ n < 1000000000 ^ vs.length:=by omega
  exact (Nat.pow_lt_pow_iff_right (by decide)).1 a2
 have hl:vs.length=n+1:=by omega
 refine ⟨hl,?_⟩
 have e2:=nrm_split (b:=1000000000) n hl
 have l2:=dig_take_lt hv.1 n
 by_cases hc:500000000≤vs.getD n 0
 ·exact hc
 ·have a1:1000000000 ^ n * (vs.getD n 0+1)≤1000000000 ^ n * 500000000:=Nat.mul_le_mul_left _ (by omega)
  rw [Nat.mul_add] at a1
  omega
def DivInv (X V:Nat) (us qs:List Nat) (k:Nat):Prop :=
 Dig 1000000000 us∧Dig 1000000000 qs∧X=V * 1000000000 ^ k * val 1000000000 (qs.drop k)+val 1000000000 us∧val 1000000000 us < V * 1000000000 ^ k
def seg (us:List Nat) (j n:Nat):List Nat:=(us.drop j).take (n+2)
theorem seg_val_b {b:Nat} (hb:0 < b) {us:List Nat} {V j n:Nat} (hV:V < b ^ (n+1)) (h:val b us < V * b ^ (j+1)) (hl:j+(n+2)≤us.length) :
  val b us=val b (us.take j)+b ^ j * val b (seg us j n)∧val b (seg us j n) < V * b:=by
 have e1:=val_split b us j (by omega)
 have e2:=val_split b (us.drop j) (n+2) (by simp;omega)
 have hP:0 < b ^ j:=Nat.pow_pos hb
 have hz:val b ((us.drop j).drop (n+2))=0:=by
  by_cases h0:val b ((us.drop j).drop (n+2))=0
  ·exact h0
  ·have a1:b ^ (n+2)≤val b (us.drop j):=by
    have:=Nat.mul_le_mul_left (b ^ (n+2)) (show 1≤val b ((us.drop j).drop (n+2)) by omega)
    omega
   have a2:b ^ j * b ^ (n+2)≤b ^ j * val b (us.drop j):=Nat.mul_le_mul_left _ a1
   have a3:V * b ^ (j+1)≤b ^ (n+1) * b ^ (j+1):=Nat.mul_le_mul_right _ (by omega)
   rw [← Nat.pow_add] at a2 a3
   rw [show j+(n+2)=n+1+(j+1) by omega] at a2
   omega
 rw [hz] at e2
 simp only [Nat.mul_zero,Nat.add_zero] at e2
 have e3:val b (us.drop j)=val b (seg us j n):=e2
 rw [e3] at e1
 refine ⟨e1,?_⟩
 have a1:b ^ j * val b (seg us j n) < b ^ j * (V * b):=by
  have a2:b ^ j * (V * b)=V * b ^ (j+1):=by rw [Nat.pow_succ];grind
  omega
 exact Nat.lt_of_mul_lt_mul_left a1
theorem seg_val {us:List Nat} {V j n:Nat} (hV:V < 1000000000 ^ (n+1)) (h:val 1000000000 us < V * 1000000000 ^ (j+1)) (hl:j+(n+2)≤us.length) :
  val 1000000000 us=val 1000000000 (us.take j)+1000000000 ^ j * val 1000000000 (seg us j n)∧val 1000000000 (seg us j n) < V * 1000000000:=seg_val_b (by decide) hV h hl
theorem seg_getD (us:List Nat) (j n i:Nat) (hi:i < n+2):(seg us j n).getD i 0=us.getD (j+i) 0:=by
 simp only [seg,List.getD,List.getElem?_take,if_pos hi,List.getElem?_drop]
theorem seg_dig {us:List Nat} (du:Dig 1000000000 us) (j n:Nat):Dig 1000000000 (seg us j n):=(du.drop j).take _
theorem three {ds:List Nat} {n:Nat} (h:ds.length=n+3) (b:Nat):val b ds=val b (ds.take n)+b ^ n * (ds.getD n 0+b * ds.getD (n+1) 0+b * b * ds.getD (n+2) 0):=by
 have e1:=val_take_succ b ds (n+2)
 have e2:=val_take_succ b ds (n+1)
 have e3:=val_take_succ b ds n
 rw [List.take_of_length_le (by omega)] at e1
 rw [e1,e2,e3,Nat.pow_succ,Nat.pow_succ]
 grind
theorem two {ds:List Nat} {n:Nat} (h:ds.length=n+2) (b:Nat):val b ds=val b (ds.take n)+b ^ n * (ds.getD n 0+b * ds.getD (n+1) 0):=by
 have e2:=val_take_succ b ds (n+1)
 have e3:=val_take_succ b ds n
 rw [List.take_of_length_le (by omega)] at e2
 rw [e2,e3,Nat.pow_succ]
 grind
theorem guess_near {U V F V2 P u0 v0 q:Nat} (hU:U=u0+P * F) (hV:V=v0+P * V2) (hu0:u0 < P) (hv0:v0 < P) (hlt:U < V * 1000000000) (hV2:500000000000000000≤V2)
  (g1:q < 1000000000) (g2:q * V2≤F) (g3:1000000000≤q+1∨F < (q+1) * V2):U / V≤q∧q≤U / V+1:=by
 have hVpos:0 < V:=by
  have:P * 1≤P * V2:=Nat.mul_le_mul_left _ (by omega)
  omega
 constructor
 ·rw [← Nat.lt_succ_iff,Nat.succ_eq_add_one,Nat.div_lt_iff_lt_mul hVpos]
  rcases g3 with g3 | g3
  ·have:V * 1000000000≤(q+1) * V:=by rw [Nat.mul_comm];exact Nat.mul_le_mul_right _ g3
   omega
  ·have a1:P * (F+1)≤P * ((q+1) * V2):=Nat.mul_le_mul_left _ g3
   have a2:P * ((q+1) * V2)≤(q+1) * V:=by
    have:(q+1) * (P * V2)≤(q+1) * V:=Nat.mul_le_mul_left _ (by omega)
    have e:P * ((q+1) * V2)=(q+1) * (P * V2):=by rw [← Nat.mul_assoc,← Nat.mul_assoc,Nat.mul_comm P]
    omega
   rw [Nat.mul_add] at a1
   omega
 ·by_cases hq:q=0
  ·subst hq;exact Nat.zero_le _
  ·obtain ⟨p,rfl⟩:∃ p,q=p+1:=⟨q - 1,by omega⟩
   have a0:p≤U / V:=by
    rw [Nat.le_div_iff_mul_le hVpos]
    have a1:P * ((p+1) * V2)≤P * F:=Nat.mul_le_mul_left _ g2
    have a2:p * v0≤p * P:=Nat.mul_le_mul_left _ (by omega)
    have a3:p * P≤V2 * P:=Nat.mul_le_mul_right _ (by omega)
    have e1:p * V=p * v0+p * (P * V2):=by rw [hV,Nat.mul_add]
    have e2:P * ((p+1) * V2)=p * (P * V2)+V2 * P:=by
     rw [Nat.add_mul,Nat.mul_add,Nat.one_mul,Nat.mul_comm P V2,← Nat.mul_assoc,Nat.mul_comm P p,Nat.mul_assoc,Nat.mul_comm V2 P]
    omega
   omega
theorem DivInv.step {X V:Nat} {us us' qs:List Nat} {j n:Nat} (h:DivInv X V us qs (j+1)) (hV:V < 1000000000 ^ (n+1)) (hVp:0 < V) (hl:j+(n+2)≤us.length) (hq:j < qs.length)
  (du':Dig 1000000000 us') (e:val 1000000000 us'+1000000000 ^ j * val 1000000000 (seg us j n)=val 1000000000 us+1000000000 ^ j * (val 1000000000 (seg us j n) % V)) :
  DivInv X V us' (qs.set j (val 1000000000 (seg us j n) / V)) j∧val 1000000000 (seg us j n) / V < 1000000000:=by
 obtain ⟨h1,h2,h3,h4⟩:=h
 obtain ⟨e1,e2⟩:=seg_val hV h4 hl
 generalize hU:val 1000000000 (seg us j n)=U at *
 have hd:U / V < 1000000000:=Nat.div_lt_of_lt_mul e2
 refine ⟨⟨du',h2.set _ hd,?_,?_⟩,hd⟩
 ·rw [val_drop _ (qs.set j (U / V)) _ (by simp;omega),List.drop_set_of_lt (by omega)]
  have e6:(qs.set j (U / V)).getD j 0=U / V:=by simp [List.getD,hq]
  rw [e6,h3]
  have e7:=Nat.div_add_mod U V
  have e8:V * 1000000000 ^ j * (U / V+1000000000 * val 1000000000 (qs.drop (j+1)))=1000000000 ^ j * (V * (U / V))+V * 1000000000 ^ (j+1) * val 1000000000 (qs.drop (j+1)):=by
   rw [Nat.pow_succ];grind
  have e9:1000000000 ^ j * U=1000000000 ^ j * (V * (U / V))+1000000000 ^ j * (U % V):=by rw [← Nat.mul_add,e7]
  rw [e8]
  omega
 ·have a1:=dig_take_lt h1 j
  have a2:val 1000000000 us'=val 1000000000 (us.take j)+1000000000 ^ j * (U % V):=by omega
  have a3:1000000000 ^ j * (U % V+1)≤1000000000 ^ j * V:=Nat.mul_le_mul_left _ (Nat.mod_lt _ hVp)
  rw [Nat.mul_add] at a3
  rw [a2,Nat.mul_comm V]
  omega
def BackInv (u0 us left:List Nat) (j i:Nat):Prop :=
 us.length=u0.length∧Dig 1000000000 us∧us.drop (j+i)=u0.drop (j+i) ∧
  val 1000000000 us+1000000000 ^ j * val 1000000000 ((u0.drop j).take i)=val 1000000000 u0+1000000000 ^ j * val 1000000000 (left.take i)
theorem BackInv.start {u0 left:List Nat} (du:Dig 1000000000 u0) (j:Nat):BackInv u0 u0 left j 0:=⟨rfl,du,rfl,by simp [val]⟩
theorem BackInv.step {u0 us left:List Nat} {j i:Nat} (h:BackInv u0 us left j i) (dl:Dig 1000000000 left) (hl:j+i < u0.length):BackInv u0 (us.set (j+i) (left.getD i 0)) left j (i+1):=by
 obtain ⟨h1,h2,h3,h4⟩:=h
 have hd:=dl.at (show 0 < 1000000000 by decide) i
 refine ⟨by simpa using h1,h2.set _ hd,?_,?_⟩
 ·rw [List.drop_set_of_lt (by omega)]
  have a:=congrArg (List.drop 1) h3
  simpa [List.drop_drop,Nat.add_assoc] using a
 ·have e1:=val_set 1000000000 us (j+i) (left.getD i 0) (by omega)
  have e2:us.getD (j+i) 0=u0.getD (j+i) 0:=by
   have a:=congrArg (fun l => l.getD 0 0) h3
   simpa [List.getD,List.getElem?_drop] using a
  have e3:=val_take_succ 1000000000 (u0.drop j) i
  have e4:=val_take_succ 1000000000 left i
  have e5:(u0.drop j).getD i 0=u0.getD (j+i) 0:=by simp [List.getD,List.getElem?_drop]
  rw [e2] at e1
  rw [e3,e4,e5,Nat.mul_add,Nat.mul_add,← Nat.mul_assoc,← Nat.mul_assoc,← Nat.pow_add]
  omega
theorem BackInv.fin {u0 us left:List Nat} {j n:Nat} (h:BackInv u0 us left j (n+2)) (hl:left.length≤n+2) :
  us.length=u0.length∧Dig 1000000000 us∧val 1000000000 us+1000000000 ^ j * val 1000000000 (seg u0 j n)=val 1000000000 u0+1000000000 ^ j * val 1000000000 left:=by
 obtain ⟨h1,h2,_,h4⟩:=h
 rw [List.take_of_length_le hl] at h4
 exact ⟨h1,h2,h4⟩
theorem div_fin {X Y s Q R:Nat} (hs:0 < s) (h:X * s=Y * s * Q+R) (hR:R < Y * s):Q=X / Y∧R / s=X % Y:=by
 have hY:0 < Y:=by
  by_cases h0:Y=0
  ·subst h0;simp at hR
  ·omega
 have e1:Y * s * Q=s * (Y * Q):=by rw [Nat.mul_comm Y s,Nat.mul_assoc]
 have hle:Y * Q≤X:=by
  have:s * (Y * Q)≤s * X:=by rw [Nat.mul_comm s X];omega
  exact Nat.le_of_mul_le_mul_left this hs
 obtain ⟨r,hr⟩:∃ r,X=Y * Q+r:=⟨X - Y * Q,by omega⟩
 have e2:R=r * s:=by
  have:X * s=Y * Q * s+r * s:=by rw [hr,Nat.add_mul]
  rw [Nat.mul_comm s (Y * Q)] at e1
  omega
 have hr2:r < Y:=by rw [e2] at hR;exact Nat.lt_of_mul_lt_mul_right hR
 constructor
 ·rw [hr,Nat.mul_add_div hY,Nat.div_eq_of_lt hr2];simp
 ·rw [hr,Nat.mul_add_mod,Nat.mod_eq_of_lt hr2,e2,Nat.mul_div_cancel _ hs]
end Go.Proofs.YthdeijdimfjceaaGreatDoor

namespace Go.Proofs.YthdeijdimfjceaaGreatDoor
theorem lead_le_b {b:Nat} (hb:1 < b) {us vs:List Nat} {j m:Nat} (hseg:val b (seg us j m) < val b vs * b) (hv:vs.length=m+1) (hv9:val b (vs.take m) < b ^ m) (hl:j+(m+2)≤us.length) :
  us.getD (j+(m+1)) 0≤vs.getD m 0:=by
 have e1:=nrm_split (b:=b) m hv
 have hsl:(seg us j m).length=m+2:=by simp [seg];omega
 have e2:=nrm_split (b:=b) (m+1) hsl
 rw [seg_getD _ _ _ _ (by omega)] at e2
 generalize us.getD (j+(m+1)) 0=t at *
 generalize vs.getD m 0=y at *
 by_cases h:t≤y
 ·exact h
 ·have a1:b ^ (m+1) * (y+1)≤b ^ (m+1) * t:=Nat.mul_le_mul_left _ (by omega)
  have a2:val b vs * b < (b ^ m * (y+1)) * b:=Nat.mul_lt_mul_of_pos_right (by rw [Nat.mul_add];omega) (by omega)
  have a3:(b ^ m * (y+1)) * b=b ^ (m+1) * (y+1):=by rw [Nat.pow_succ];grind
  omega
theorem lead_le {us vs:List Nat} {j m:Nat} (hseg:val 1000000000 (seg us j m) < val 1000000000 vs * 1000000000) (hv:vs.length=m+1) (dv:Dig 1000000000 vs) (hl:j+(m+2)≤us.length) :
  us.getD (j+(m+1)) 0≤vs.getD m 0:=lead_le_b (by decide) hseg hv (dig_take_lt dv m) hl
theorem seg_near {us vs:List Nat} {j m:Nat} (hm:1≤m) (hseg:val 1000000000 (seg us j m) < val 1000000000 vs * 1000000000) (hv:vs.length=m+1) (du:Dig 1000000000 us) (dv:Dig 1000000000 vs)
  (hl:j+(m+2)≤us.length) (hy:500000000≤vs.getD m 0) {t u u' y z:Nat} (ht:us.getD (j+(m+1)) 0=t) (hu:us.getD (j+m) 0=u) (hw:us.getD (j+m - 1) 0=u')
  (hye:vs.getD m 0=y) (hze:vs.getD (m - 1) 0=z) :
  val 1000000000 (seg us j m) / val 1000000000 vs≤gq (t * 1000000000+u) u' y z∧gq (t * 1000000000+u) u' y z≤val 1000000000 (seg us j m) / val 1000000000 vs+1∧gq (t * 1000000000+u) u' y z < 1000000000:=by
 obtain ⟨n,rfl⟩:∃ n,m=n+1:=⟨m - 1,by omega⟩
 have hsl:(seg us j (n+1)).length=n+3:=by simp [seg];omega
 have e1:=three hsl 1000000000
 have e2:=two (n:=n) hv 1000000000
 rw [seg_getD _ _ _ _ (by omega),seg_getD _ _ _ _ (by omega),seg_getD _ _ _ _ (by omega)] at e1
 rw [show j+(n+2)=j+(n+1+1) by omega,ht,hu,show j+n=j+(n+1) - 1 by omega,hw] at e1
 rw [Nat.add_sub_cancel] at hze
 rw [hye,hze] at e2
 rw [hye] at hy
 obtain ⟨g1,g2,g3⟩:=gq_ok (t * 1000000000+u) u' y z (by omega)
 have e3:u'+1000000000 * u+1000000000 * 1000000000 * t=(t * 1000000000+u) * 1000000000+u':=by omega
 have e4:z+1000000000 * y=y * 1000000000+z:=by omega
 rw [e3] at e1
 rw [e4] at e2
 have r:=guess_near e1 e2 (dig_take_lt (seg_dig du _ _) n) (dig_take_lt dv n) hseg (by omega) g1 g2 g3
 exact ⟨r.1,r.2,g1⟩
end Go.Proofs.YthdeijdimfjceaaGreatDoor

namespace Go.Proofs.YthdeijdimfjceaaGreatDoor
open Go.RowKit
def DivPost (W:World) (X Y:Nat) (e:Ending) (w':World):Prop :=
 ∃ vq vr qs rs,e = .returned (.tuple #[vq,vr])∧Sl w' vq 1 qs.length (nums .u32 qs)∧Sl w' vr 1 rs.length (nums .u32 rs)∧Nrm 1000000000 qs∧Nrm 1000000000 rs ∧
  val 1000000000 qs=X / Y∧val 1000000000 rs=X % Y∧Below W.heap.size W w'
set_option maxHeartbeats 1000000 in
set_option maxRecDepth 100000 in
theorem divide_small (a b:Value) (xs ys:List Nat) (w:World) (ha:Sl w a 1 xs.length (nums .u32 xs)) (hb:Sl w b 1 ys.length (nums .u32 ys))
  (hx:Nrm 1000000000 xs) (hy:Nrm 1000000000 ys) (lx:xs.length≤90000) (ly:ys.length≤90000) (hlt:val 1000000000 xs < val 1000000000 ys) :
  Calls Tryz.prog 104 #[a,b] w (DivPost w (val 1000000000 xs) (val 1000000000 ys)):=by
 have C:=compare_any a b xs ys w ha hb hx hy (by omega) (by omega)
 rw [sgn_lt hlt] at C
 have HC:=Lib.hid C;clear C
 have Hlt:=Lib.hid hlt;clear hlt
 have Ha:=Lib.hid ha;clear ha hb
 go_enter Tryz.func104,Tryz.ntmps104
 go_wp2_with fail
 refine HC.out.mono ?_
 rintro e w' ⟨rfl,n,rfl⟩
 go_wp2
 go_ret2
 exact ⟨_,a,[],xs,rfl,Sl.nil _ _,Ha.out.drewN n,Nrm.nil _,hx,by rw [Nat.div_eq_of_lt Hlt.out];rfl,by rw [Nat.mod_eq_of_lt Hlt.out],below_drewN (Below.refl _ _) n⟩
set_option maxHeartbeats 1000000 in
set_option maxRecDepth 100000 in
theorem divide_one (a b:Value) (xs:List Nat) (d:Nat) (w:World) (ha:Sl w a 1 xs.length (nums .u32 xs)) (hb:Sl w b 1 1 (nums .u32 [d]))
  (hx:Nrm 1000000000 xs) (hy:Nrm 1000000000 [d]) (lx:xs.length≤90000) (hle:val 1000000000 [d]≤val 1000000000 xs) :
  Calls Tryz.prog 104 #[a,b] w (DivPost w (val 1000000000 xs) (val 1000000000 [d])):=by
 have C:=compare_any a b xs [d] w ha hb hx hy (by omega) (by simp)
 have hs:0≤sgn (val 1000000000 xs) (val 1000000000 [d]):=by
  by_cases h:val 1000000000 xs=val 1000000000 [d]
  ·rw [sgn_eq h];omega
  ·rw [sgn_gt (by omega)];omega
 generalize sgn (val 1000000000 xs) (val 1000000000 [d])=s at C hs
 have HC:=Lib.hid C;clear C
 have hd9:d < 1000000000:=hy.1 d (by simp)
 have hd0:0 < d:=by
  have h2:=hy.2
  by_cases h:d=0
  ·subst h;simp at h2
  ·omega
 rw [val_single]
 have Ha:=Lib.hid ha;clear ha hle
 obtain ⟨bd,cb,rfl,h1',h3'⟩:=Sl.nums (xs:=[d]) hb
 obtain ⟨b',off,rfl,hc⟩:=h3'.resolve_left (by simp)
 have hcd:=hc 0 (by simp)
 simp only [Nat.add_zero,List.getD,List.getElem?_cons_zero,Option.getD_some] at hcd
 clear hc h3' hb
 go_enter Tryz.func104,Tryz.ntmps104
 go_wp2_with fail
 refine HC.out.mono ?_
 rintro e w' ⟨rfl,n,rfl⟩
 go_wp2_with fail
 refine (short_any a xs d _ (Ha.out.drewN n) hx.1 (by omega) hd0 (by omega)).mono ?_
 rintro e w1 ⟨v,rs,r,rfl,⟨hown,hrs,hbel⟩,hq,hr⟩
 have hbel1:Below w.heap.size w w1:=(below_drewN (Below.refl _ _) n).trans hbel
 have Hq:=Lib.hid hq;clear hq
 have Hr:=Lib.hid hr;clear hr
 go_wp2_with fail
 refine (trim_any _ [r] _ ?_ (by simp)).mono ?_
 ·exact ⟨_,_,rfl,Nat.le_refl _,rfl,.inr ⟨_,0,rfl,fun j u hu => by
   match j,hu with
   | 0,hu => simp [nums] at hu;subst hu;simp [World.cell?_alloc_at]
   | j+1,hu => simp [nums] at hu⟩⟩
 rintro e w2 ⟨v',rfl,Hv,rfl⟩
 go_wp2
 go_ret2
 have hr9:r < 1000000000:=by rw [Hr.out];have:=Nat.mod_lt (val 1000000000 xs) hd0;omega
 have hsl:Sl (w1.alloc (.cells #[.int .u32 (r:Int)] 177)) (.slice (some ⟨w1.heap.size,0,none⟩) 1 1) 1 1 (nums .u32 [r]) :=
  ⟨_,_,rfl,Nat.le_refl _,rfl,.inr ⟨_,0,rfl,fun j u hu => by
   match j,hu with
   | 0,hu => simp [nums] at hu;subst hu;simp [World.cell?_alloc_at]
   | j+1,hu => simp [nums] at hu⟩⟩
 have hcut:=hsl.cut (trimL [r]).length (trimL_prefix [r]).2
 rw [Nat.mul_one,nums_take,← (trimL_prefix [r]).1] at hcut
 exact ⟨_,_,rs,trimL [r],rfl,(Sl.of_owns hown).below ((Below.refl _ _).alloc (Nat.le_refl _) _),by rw [Hv.out];exact hcut,hrs,
  trimL_nrm (fun x hx => by rw [List.mem_singleton] at hx;omega),Hq.out,by rw [trimL_val,val_single];exact Hr.out,hbel1.alloc hbel1.size _⟩
end Go.Proofs.YthdeijdimfjceaaGreatDoor
