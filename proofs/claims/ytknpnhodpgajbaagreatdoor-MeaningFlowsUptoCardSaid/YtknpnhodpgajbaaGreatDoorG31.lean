/- A part. -/
import Derived.Laws.StructEq
import Derived.IntWalk
import Derived.Test.YtknpnhodpgajbaaGreatDoorG21
import Derived.Test.YtknpnhodpgajbaaGreatDoorG23
set_option maxHeartbeats 8000000
set_option maxRecDepth 100000
namespace Go.Proofs.YtknpnhodpgajbaaGreatDoor
open Go.RowKit
theorem Z2w (f g:Fx) (w:World):(Op.equalIn 10000 94 (.agg #[.string f.nm,.int .i64 f.d,.string f.vl]) (.agg #[.string g.nm,.int .i64 g.d,.string g.vl])).run Tryz.prog w = .ok (eqB (f=g)) w:=by
 have hS:Tryz.prog.underlying 94=some (.struct (Tryz.prog.fieldsOf 94)):=by kernel_rfl
 have hp:Tryz.prog.stoodInHeld 94=false:=by kernel_rfl
 rw [show (10000:Nat)=9999+1 from rfl,run_equalIn_agg w 9999 _ _ _ hS hp];simp only [Program.fieldsOf,Tryz.underlying94];have hE:eqB (f=g)=(if f.nm.toList=g.nm.toList then if f.d=g.d then if f.vl.toList=g.vl.toList then true else false else false else false):=by
  obtain ⟨a,b,c⟩:=f;obtain ⟨a',b',c'⟩:=g;simp only [Zic];by_cases h1:a=a'
  ·by_cases h2:b=b'
   ·by_cases h3:c=c'
    ·subst h1 h2 h3;simp [Zgm]
    ·rw [Zb3 (by simp [h3])];simp [h3]
   ·rw [Zb3 (by simp [h2])];simp [h2]
  ·rw [Zb3 (by simp [h1])];simp [h1]
 rw [hE];clear hE;go_simp;split <;> (try split) <;> (try split) <;> simp [*]
theorem Z2u (f g:Ch) (w:World):(Op.equalIn 10000 67 (.agg #[.string f.pt,.string f.nm,.int .i64 f.d,.bool f.first]) (.agg #[.string g.pt,.string g.nm,.int .i64 g.d,.bool g.first])).run Tryz.prog w = .ok (eqB (f=g)) w:=by
 have hS:Tryz.prog.underlying 67=some (.struct (Tryz.prog.fieldsOf 67)):=by kernel_rfl
 have hp:Tryz.prog.stoodInHeld 67=false:=by kernel_rfl
 rw [show (10000:Nat)=9999+1 from rfl,run_equalIn_agg w 9999 _ _ _ hS hp];simp only [Program.fieldsOf,Tryz.underlying67];have hE:eqB (f=g)=(if f.pt.toList=g.pt.toList then if f.nm.toList=g.nm.toList then if f.d=g.d then if f.first=g.first then true else false else false else false else false):=by
  obtain ⟨a,b,c,d⟩:=f;obtain ⟨a',b',c',d'⟩:=g;simp only [Zic];by_cases h1:a=a'
  ·by_cases h2:b=b'
   ·by_cases h3:c=c'
    ·by_cases h4:d=d'
     ·subst h1 h2 h3 h4;simp [Zgm]
     ·rw [Zb3 (by simp [h4])];simp [h4]
    ·rw [Zb3 (by simp [h3])];simp [h3]
   ·rw [Zb3 (by simp [h2])];simp [h2]
  ·rw [Zb3 (by simp [h1])];simp [h1]
 rw [hE];clear hE;go_simp;split <;> (try split) <;> (try split) <;> (try split) <;> simp [*]
theorem Zxo (fa fb:List Fx) (ca cb:List Ch) (a1 a2 a3 a4:Option Addr) (c1 c2 c3 c4:Nat) (w:World) (hn:fa.length≤1100000) (hm:ca.length≤1100000) (_hn2:fb.length≤1100000) (_hm2:cb.length≤1100000)
  (hfa:Rd Fx.cells 3 w a1 fa) (hca:Rd Ch.cells 4 w a2 ca) (hfb:Rd Fx.cells 3 w a3 fb) (hcb:Rd Ch.cells 4 w a4 cb) (hl1:fa.length=fb.length) (hl2:ca.length=cb.length) :
  Calls Tryz.prog 18 #[.agg #[.slice a1 fa.length c1,.slice a2 ca.length c2],.agg #[.slice a3 fb.length c3,.slice a4 cb.length c4]] w fun e w'=>e = .returned (.bool (eqB (fa=fb∧ca=cb)))∧Below w.heap.size w w':=by
 have hbw:=fun a b=>Zaz w a b
 have t1:((fa.length:Int) != (fb.length:Int))=false:=by rw [bne_eq_false_iff_eq];omega
 have t2:((ca.length:Int) != (cb.length:Int))=false:=by rw [bne_eq_false_iff_eq];omega
 have t3:(fa.length != fb.length)=false:=by rw [bne_eq_false_iff_eq];omega
 have t4:(ca.length != cb.length)=false:=by rw [bne_eq_false_iff_eq];omega
 have t5:(fa.length == fb.length)=true:=by rw [beq_iff_eq];omega
 have t6:(ca.length == cb.length)=true:=by rw [beq_iff_eq];omega
 have HL1:=Lh hl1;have HL2:=Lh hl2;have Rfa:=Lh hfa;have Rca:=Lh hca;have Rfb:=Lh hfb;have Rcb:=Lh hcb;clear hfa hca hfb hcb hl1 hl2;go_enter Tryz.func18,Tryz.ntmps18
 go_upto_block 0 with fail
 clear t1 t2 t3 t4 t5 t6;go_cut [5] from 23 to 40 (fun _ wc=>Hid (fa=fb)∧Below w.heap.size w wc∧(wc.cell? ⟨w.heap.size,0,none⟩=some (.slice a1 fa.length c1)∧wc.cell? ⟨w.heap.size,1,none⟩=some (.slice a2 ca.length c2)∧wc.cell? ⟨w.heap.size+1,0,none⟩=some (.slice a3 fb.length c3)∧wc.cell? ⟨w.heap.size+1,1,none⟩=some (.slice a4 cb.length c4)))
 case first =>
  go_wp2_with fail;go_loopw [5] (fun i wr=>∃ k:Nat,k≤fa.length∧i = .int .i64 k∧Hid (fa.take k=fb.take k)∧Below w.heap.size w wr∧(wr.cell? ⟨w.heap.size,0,none⟩=some (.slice a1 fa.length c1)∧wr.cell? ⟨w.heap.size,1,none⟩=some (.slice a2 ca.length c2)∧wr.cell? ⟨w.heap.size+1,0,none⟩=some (.slice a3 fb.length c3)∧wr.cell? ⟨w.heap.size+1,1,none⟩=some (.slice a4 cb.length c4))) (fun i _=>fa.length - (intOf i).toNat)
  case atStart=>exact ⟨0,Nat.zero_le _,rfl,Lh rfl,hbw _ _,by go_simp,by go_simp,by go_simp,by go_simp⟩
  case round =>
   obtain ⟨k,hk,rfl,Hall,hbel,b0,b1,b2,b3⟩:=hrel;by_cases hlt:k < fa.length
   ·obtain ⟨f,hf⟩:∃ f,fa[k]? = some f:=⟨_,List.getElem?_eq_getElem hlt⟩
    have hlt2:k < fb.length:=by have:=HL1.out;omega
    obtain ⟨g,hg⟩:∃ g,fb[k]? = some g:=⟨_,List.getElem?_eq_getElem hlt2⟩
    have HRf:=((Rfa.out.below hbel).fx hf)
    have HRg:=((Rfb.out.below hbel).fx hg)
    have HF:=Lh hf;have HG:=Lh hg;clear hf hg;obtain ⟨b,off,rfl,hc1,hc2,hc3⟩:=HRf;obtain ⟨b',off',rfl,hd1,hd2,hd3⟩:=HRg;have hk1:(0:Int)≤(k:Int):=by omega
    have hk2:(k:Int) < (fa.length:Int):=by omega
    have hk3:(k:Int) < (fb.length:Int):=by omega
    have hq:∀ W,(Op.equalIn 10000 94 (.agg #[.string f.nm,.int .i64 f.d,.string f.vl]) (.agg #[.string g.nm,.int .i64 g.d,.string g.vl])).run Tryz.prog W = .ok (eqB (f=g)) W:=fun W=>Z2w f g W
    by_cases hfg:f=g
    ·have Hall2:Hid (fa.take (k+1)=fb.take (k+1)):=Zjc HF.out (hfg ▸ HG.out) Hall.out;rw [Zgm hfg] at hq;clear hfg;go_wp2;go_quiet (fail)
     go_wp2;go_roundw
     case rel=>exact ⟨k+1,by omega,by go_num,Hall2,below_drewN hbel _,by first | assumption | go_simp,by first | assumption | go_simp,by first | assumption | go_simp,by first | assumption | go_simp⟩
     case measure=>simp [intOf];omega
    ·have HR:Hid (eqB (fa=fb∧ca=cb)=false):=Zb3 (fun h=>Zoz HF.out HG.out hfg h.1);rw [Zb3 hfg] at hq;clear hfg;go_wp2;go_quiet (fail)
     go_wp2;go_ret;exact ⟨Zaf HR.out.symm,below_drewN hbel _⟩
   ·obtain rfl:k=fa.length:=by omega
    have HAFx:Hid (fa=fb):=by have h:=Hall.out;rw [List.take_length,List.take_of_length_le (by have:=HL1.out;omega)] at h;exact h
    clear Hall hlt hk;go_wp2;go_meet
    exact ⟨HAFx,hbel,b0,b1,b2,b3⟩
 case rest =>
  obtain ⟨HAFx,hbel,b0,b1,b2,b3⟩:=hcut;go_wp2;go_loopw [6] (fun i wr=>∃ k:Nat,k≤ca.length∧i = .int .i64 k∧Hid (ca.take k=cb.take k)∧Below w.heap.size w wr∧(wr.cell? ⟨w.heap.size,0,none⟩=some (.slice a1 fa.length c1)∧wr.cell? ⟨w.heap.size,1,none⟩=some (.slice a2 ca.length c2)∧wr.cell? ⟨w.heap.size+1,0,none⟩=some (.slice a3 fb.length c3)∧wr.cell? ⟨w.heap.size+1,1,none⟩=some (.slice a4 cb.length c4))) (fun i _=>ca.length - (intOf i).toNat)
  case atStart=>exact ⟨0,Nat.zero_le _,rfl,Lh rfl,hbel,b0,b1,b2,b3⟩
  case round =>
   clear hbel b0 b1 b2 b3;obtain ⟨k,hk,rfl,Hall,hbel,b0,b1,b2,b3⟩:=hrel;by_cases hlt:k < ca.length
   ·obtain ⟨f,hf⟩:∃ f,ca[k]? = some f:=⟨_,List.getElem?_eq_getElem hlt⟩
    have hlt2:k < cb.length:=by have:=HL2.out;omega
    obtain ⟨g,hg⟩:∃ g,cb[k]? = some g:=⟨_,List.getElem?_eq_getElem hlt2⟩
    have HRf:=((Rca.out.below hbel).ch hf)
    have HRg:=((Rcb.out.below hbel).ch hg)
    have HF:=Lh hf;have HG:=Lh hg;clear hf hg;obtain ⟨b,off,rfl,hc1,hc2,hc3,hc4⟩:=HRf;obtain ⟨b',off',rfl,hd1,hd2,hd3,hd4⟩:=HRg;have hk1:(0:Int)≤(k:Int):=by omega
    have hk2:(k:Int) < (ca.length:Int):=by omega
    have hk3:(k:Int) < (cb.length:Int):=by omega
    have hq:∀ W,(Op.equalIn 10000 67 (.agg #[.string f.pt,.string f.nm,.int .i64 f.d,.bool f.first]) (.agg #[.string g.pt,.string g.nm,.int .i64 g.d,.bool g.first])).run Tryz.prog W = .ok (eqB (f=g)) W:=fun W=>Z2u f g W
    by_cases hfg:f=g
    ·have Hall2:Hid (ca.take (k+1)=cb.take (k+1)):=Zjc HF.out (hfg ▸ HG.out) Hall.out;rw [Zgm hfg] at hq;clear hfg;go_wp2;go_quiet (fail)
     go_wp2;go_roundw
     case rel=>exact ⟨k+1,by omega,by go_num,Hall2,below_drewN hbel _,by first | assumption | go_simp,by first | assumption | go_simp,by first | assumption | go_simp,by first | assumption | go_simp⟩
     case measure=>simp [intOf];omega
    ·have HR:Hid (eqB (fa=fb∧ca=cb)=false):=Zb3 (fun h=>Zoz HF.out HG.out hfg h.2);rw [Zb3 hfg] at hq;clear hfg;go_wp2;go_quiet (fail)
     go_wp2;go_ret;exact ⟨Zaf HR.out.symm,below_drewN hbel _⟩
   ·obtain rfl:k=ca.length:=by omega
    have HACh:Hid (ca=cb):=by have h:=Hall.out;rw [List.take_length,List.take_of_length_le (by have:=HL2.out;omega)] at h;exact h
    clear Hall hlt hk;go_wp2;go_ret;exact ⟨Zaf (Zgm ⟨HAFx.out,HACh.out⟩).symm,hbel⟩
theorem Zz1 (fa fb:List Fx) (ca cb:List Ch) (a1 a2 a3 a4:Option Addr) (c1 c2 c3 c4:Nat) (w:World) (hn:fa.length≤1100000) (hm:ca.length≤1100000) (hn2:fb.length≤1100000) (hm2:cb.length≤1100000)
  (hfa:Rd Fx.cells 3 w a1 fa) (hca:Rd Ch.cells 4 w a2 ca) (hfb:Rd Fx.cells 3 w a3 fb) (hcb:Rd Ch.cells 4 w a4 cb) :
  Calls Tryz.prog 18 #[.agg #[.slice a1 fa.length c1,.slice a2 ca.length c2],.agg #[.slice a3 fb.length c3,.slice a4 cb.length c4]] w fun e w'=>e = .returned (.bool (eqB (fa=fb∧ca=cb)))∧Below w.heap.size w w':=by
 by_cases hl1:fa.length=fb.length
 ·by_cases hl2:ca.length=cb.length
  ·exact Zxo fa fb ca cb a1 a2 a3 a4 c1 c2 c3 c4 w hn hm hn2 hm2 hfa hca hfb hcb hl1 hl2
  ·have HR:Hid (eqB (fa=fb∧ca=cb)=false):=Zb3 (fun h=>hl2 (by rw [h.2]));have t1:((fa.length:Int) != (fb.length:Int))=false:=by rw [bne_eq_false_iff_eq];omega
   have t2:((ca.length:Int) != (cb.length:Int))=true:=by rw [bne_iff_ne];omega
   have t3:(fa.length == fb.length)=true:=by rw [beq_iff_eq];omega
   have t4:(ca.length == cb.length)=false:=by rw [beq_eq_false_iff_ne];omega
   clear hl1 hl2 hfa hca hfb hcb;go_enter Tryz.func18,Tryz.ntmps18
   go_wp2;go_ret;exact ⟨Zaf HR.out.symm,Zaz _ _ _⟩
 ·have HR:Hid (eqB (fa=fb∧ca=cb)=false):=Zb3 (fun h=>hl1 (by rw [h.1]));have t1:((fa.length:Int) != (fb.length:Int))=true:=by rw [bne_iff_ne];omega
  have t3:(fa.length == fb.length)=false:=by rw [beq_eq_false_iff_ne];omega
  clear hl1 hfa hca hfb hcb;go_enter Tryz.func18,Tryz.ntmps18
  go_wp2;go_ret;exact ⟨Zaf HR.out.symm,Zaz _ _ _⟩
theorem Z2v (f:Fl) (w:World):(Op.equalIn 10000 52 (.agg #[.int .i64 f.d,.string f.fr,.string f.rc,.string f.cy,.string f.am]) (.agg #[.int .i64 f.d,.string f.fr,.string f.rc,.string f.cy,.string f.am])).run Tryz.prog w = .ok true w:=by
 have hS:Tryz.prog.underlying 52=some (.struct (Tryz.prog.fieldsOf 52)):=by kernel_rfl
 have hp:Tryz.prog.stoodInHeld 52=false:=by kernel_rfl
 rw [show (10000:Nat)=9999+1 from rfl,run_equalIn_agg w 9999 _ _ _ hS hp];simp only [Program.fieldsOf,Tryz.underlying52];go_simp
theorem Zmh (l:List Fl) (a b:Option Addr) (c d:Nat) (w:World) (hn:l.length≤1100000) (ha:Rd Fl.cells 5 w a l) (hb:Rd Fl.cells 5 w b l) :
  Calls Tryz.prog 16 #[.slice a l.length c,.slice b l.length d] w fun e w'=>e = .returned (.bool true)∧Below w.heap.size w w':=by
 have HA:=Lh ha;have HB:=Lh hb;clear ha hb;have t0:((l.length:Int) != (l.length:Int))=false:=by simp
 go_enter Tryz.func16,Tryz.ntmps16
 go_wp2_with fail;go_loopw [5] (fun i wr=>∃ (k nq:Nat),k≤l.length∧i = .int .i64 k∧wr=w.drewN nq) (fun i _=>l.length - (intOf i).toNat)
 case atStart=>exact ⟨0,0,by omega,rfl,rfl⟩
 case round =>
  obtain ⟨k,mq,hk,rfl,rfl⟩:=hrel;by_cases hlt:k < l.length
  ·obtain ⟨f,hf⟩:∃ f,l[k]? = some f:=⟨_,List.getElem?_eq_getElem hlt⟩
   obtain ⟨b1,off,rfl,c0,c1,c2,c3,c4⟩:=HA.out.fl hf;obtain ⟨b2,off2,rfl,d0,d1,d2,d3,d4⟩:=HB.out.fl hf;have hq:∀ W,(Op.equalIn 10000 52 (.agg #[.int .i64 f.d,.string f.fr,.string f.rc,.string f.cy,.string f.am]) (.agg #[.int .i64 f.d,.string f.fr,.string f.rc,.string f.cy,.string f.am])).run Tryz.prog W = .ok true W:=fun W=>Z2v f W
   have hk1:(0:Int)≤(k:Int):=by omega
   have hk2:(k:Int) < (l.length:Int):=by omega
   clear hf;go_wp2;go_quiet (fail)
   go_wp2;go_roundw
   case rel=>exact ⟨k+1,_,by omega,by go_num,rfl⟩
   case measure=>simp [intOf];omega
  ·obtain rfl:k=l.length:=by omega
   go_wp2;go_ret;exact ⟨rfl,below_drewN (Below.refl _ _) _⟩
def Zhk (M:Nat) (w:World) (e:Ending) (w':World):Prop:=(∃ (n:Nat) (b:Bool),e = .returned (.tuple #[.int .i64 (n:Int),.bool b])∧n≤M)∧Below w.heap.size w w'
theorem Zhk.mk {M:Nat} {w:World} {e:Ending} {w':World} (n:Nat) (b:Bool) (h:e = .returned (.tuple #[.int .i64 (n:Int),.bool b])) (hn:n≤M) (hb:Below w.heap.size w w'):Zhk M w e w':=⟨⟨n,b,h,hn⟩,hb⟩
def Zdz (w:World) (e:Ending) (w':World):Prop:=(∃ b:Bool,e = .returned (.bool b))∧Below w.heap.size w w'
theorem Zdz.mk {w:World} {e:Ending} {w':World} (b:Bool) (h:e = .returned (.bool b)) (hb:Below w.heap.size w w'):Zdz w e w':=⟨⟨b,h⟩,hb⟩
def Zmm (M:Nat) (w:World) (e:Ending) (w':World):Prop:=(∃ n:Nat,e = .returned (.int .i64 (n:Int))∧n≤M)∧Below w.heap.size w w'
theorem Zmm.mk {M:Nat} {w:World} {e:Ending} {w':World} (n:Nat) (h:e = .returned (.int .i64 (n:Int))) (hn:n≤M) (hb:Below w.heap.size w w'):Zmm M w e w':=⟨⟨n,h,hn⟩,hb⟩
theorem Zu6:∀ (N:Nat) (x:Ex) (s:Value) (lim deep:Int) (w:World),x.bulk≤N→x.bulk≤2000000→RdE w x.sub s→0≤lim→lim≤1000→0≤deep→deep≤1000 →
  Calls Tryz.prog 171 #[x.val s,.int .i64 lim,.int .i64 deep] w (Zhk x.size w):=by
 intro N;induction N with
 | zero =>
  intro x s lim deep w h0;rw [Ex.bulk_eq] at h0;omega
 | succ N ih =>
  intro x s lim deep w hN hB hs hl0 hl1 hd0 hd1;obtain ⟨ad,cap,rfl⟩:=hs.len;have HS:=Lh hs;have HI:=Lh ih;have hlen:=Ex.bulks_len x.sub;have hlt0:=x.sub_lt;have hsz:=x.size_le;have hsq:=Lh x.size_eq;have hn:x.sub.length≤2000000:=by omega
  have hb0:=Zac w (.cells #[.int .u8 x.k,.string x.ra,.string x.nm,.int .i64 x.d,.slice ad x.sub.length cap] 25);clear hs ih;unfold Ex.val;by_cases hdz:deep=0
  ·subst hdz;have H1:Hid (1≤x.size):=Lh (by have:=hsq.out;have:=hsq.out;omega);go_enter Tryz.func171,Tryz.ntmps171
   go_wp2_with fail;go_ret2;exact .mk 1 false rfl H1.out hb0
  have hde:(deep == 0)=false:=by simpa using hdz
  go_enter Tryz.func171,Tryz.ntmps171
  go_wp2_with fail;go_loopw [8,9] (fun n i wr=>∃ (k S:Nat),k≤x.sub.length∧i = .int .i64 (k:Int)∧n = .int .i64 (S:Int)∧S≤2000000∧Hid (S≤1+Ex.sizes (x.sub.take k))∧Below w.heap.size w wr∧wr.cell? ⟨w.heap.size,4,none⟩=some (.slice ad x.sub.length cap)) (fun _ i _=>x.sub.length - (intOf i).toNat)
  case atStart=>exact ⟨0,1,Nat.zero_le _,rfl,rfl,by omega,Lh (by have:=hsq.out;have:=hsq.out;omega),hb0,by go_simp⟩
  case round =>
   clear hb0;obtain ⟨k,S,hk,rfl,rfl,hS,HSz,hbel,q0⟩:=hrel;by_cases hlt:k < x.sub.length
   ·by_cases hli:(S:Int)≤lim
    ·obtain ⟨y,hy⟩:∃ y,x.sub[k]? = some y:=⟨_,List.getElem?_eq_getElem hlt⟩
     obtain ⟨b,off,s',rfl,c0,c1,c2,c3,c4,hs',_⟩:=(HS.out.frame hbel).at hy;have hym:=Ex.mem_lt (List.mem_of_getElem? hy);have hblk:b < wr.heap.size:=World.block_lt_of_cell? wr _ c0;have hbx:w.heap.size < wr.heap.size:=World.block_lt_of_cell? wr _ q0;have hzw:=hbel.size;have hyl:y.size≤2000000:=by have:=y.size_le;omega
     have hst:=Ex.sizes_take x.sub (k+1);have hst0:=Ex.sizes_take x.sub k;have HSn:=Lh (Ex.sizes_snoc hy);have HSq:=Lh hst;have HS0:Hid (S≤x.size):=Lh (by have:=hsq.out;have:=HSz.out;omega);have hk1:(0:Int)≤(k:Int):=by omega
     have hk2:(k:Int) < (x.sub.length:Int):=by omega
     have e1:IntKind.i64.wrap (lim - (S:Int))=lim - (S:Int):=by rw [IntWalk.i64_in _ (by omega)]
     have e2:IntKind.i64.wrap (deep - 1)=deep - 1:=by rw [IntWalk.i64_in _ (by omega)]
     have HC:=Lh (HI.out y s' (lim - (S:Int)) (deep - 1) wr (by omega) (by omega) hs' (by omega) (by omega) (by omega) (by omega));unfold Ex.val at HC;clear hy hym hs' hst hst0;go_wp2_with fail;refine HC.out.mono ?_;rintro e w1 ⟨⟨m,g,rfl,hm⟩,hb1⟩;have q1:w1.cell? ⟨w.heap.size,4,none⟩=some (.slice (some ⟨b,off,none⟩) x.sub.length cap):=by rw [hb1.cell (p:=⟨w.heap.size,4,none⟩) hbx];exact q0
     have hb2:=hbel.trans (hb1.mono hzw);clear hb1 hbel q0 HC
     cases g with
     | false =>
      go_wp2;go_ret2;exact .mk S false rfl HS0.out hb2
     | true =>
      have HSm:Hid (S+m≤1+Ex.sizes (x.sub.take (k+1))):=Lh (by have:=hsq.out;have:=HSn.out;have:=HSz.out;omega);have hSm:S+m≤2000000:=by have:=hsq.out;have:=HSm.out;have:=HSq.out;omega
      have e3:IntKind.i64.wrap ((S:Int)+(m:Int))=((S+m:Nat):Int):=by rw [IntWalk.i64_in _ (by omega)];omega
      go_wp2;go_roundw
      case rel=>exact ⟨k+1,S+m,by omega,by go_num,rfl,hSm,HSm,hb2,q1⟩
      case measure=>simp [intOf];omega
    ·have HS0:Hid (S≤x.size):=Lh (by have:=hsq.out;have:=HSz.out;have:=Ex.sizes_take x.sub k;omega);go_wp2;go_ret2;exact .mk S true rfl HS0.out hbel
   ·have HS0:Hid (S≤x.size):=Lh (by have:=hsq.out;have:=HSz.out;have:=Ex.sizes_take x.sub k;omega);go_wp2;go_ret2;exact .mk S true rfl HS0.out hbel
theorem Zu5:∀ (N:Nat) (x:Ex) (s:Value) (w:World),x.bulk≤N→x.bulk≤2000000→RdE w x.sub s →
  Calls Tryz.prog 172 #[x.val s] w (Zmm x.bulk w):=by
 intro N;induction N with
 | zero =>
  intro x s w h0;rw [Ex.bulk_eq] at h0;omega
 | succ N ih =>
  intro x s w hN hB hs;obtain ⟨ad,cap,rfl⟩:=hs.len;have HS:=Lh hs;have HI:=Lh ih;have hlen:=Ex.bulks_len x.sub;have hlt0:=x.sub_lt;have hsq:=Lh x.bulk_eq;have hn:x.sub.length≤2000000:=by omega
  have hsz1:x.ra.size+x.nm.size≤2000000:=by have:=hsq.out;omega
  have hb0:=Zac w (.cells #[.int .u8 x.k,.string x.ra,.string x.nm,.int .i64 x.d,.slice ad x.sub.length cap] 25);have e0:IntKind.i64.wrap ((x.ra.size:Int)+(x.nm.size:Int))=((x.ra.size+x.nm.size:Nat):Int):=by rw [IntWalk.i64_in _ (by omega)];omega
  clear hs ih;unfold Ex.val;go_enter Tryz.func172,Tryz.ntmps172
  go_wp2_with fail;go_loopw [3,4] (fun n i wr=>∃ (k S:Nat),k≤x.sub.length∧i = .int .i64 (k:Int)∧n = .int .i64 (S:Int)∧S≤2000000∧Hid (S≤x.ra.size+x.nm.size+Ex.bulks (x.sub.take k))∧Below w.heap.size w wr∧wr.cell? ⟨w.heap.size,4,none⟩=some (.slice ad x.sub.length cap)) (fun _ i _=>x.sub.length - (intOf i).toNat)
  case atStart=>exact ⟨0,x.ra.size+x.nm.size,Nat.zero_le _,rfl,rfl,by omega,Lh (by omega),hb0,by go_simp⟩
  case round =>
   clear hb0;obtain ⟨k,S,hk,rfl,rfl,hS,HSz,hbel,q0⟩:=hrel;by_cases hlt:k < x.sub.length
   ·obtain ⟨y,hy⟩:∃ y,x.sub[k]? = some y:=⟨_,List.getElem?_eq_getElem hlt⟩
    obtain ⟨b,off,s',rfl,c0,c1,c2,c3,c4,hs',_⟩:=(HS.out.frame hbel).at hy;have hym:=Ex.mem_lt (List.mem_of_getElem? hy);have hblk:b < wr.heap.size:=World.block_lt_of_cell? wr _ c0;have hbx:w.heap.size < wr.heap.size:=World.block_lt_of_cell? wr _ q0;have hzw:=hbel.size;have HSn:=Lh (Ex.bulks_snoc hy);have HSq:=Lh (Ex.bulks_take x.sub (k+1));have hk1:(0:Int)≤(k:Int):=by omega
    have hk2:(k:Int) < (x.sub.length:Int):=by omega
    have HC:=Lh (HI.out y s' wr (by omega) (by omega) hs');unfold Ex.val at HC;clear hy hym hs';go_wp2_with fail;refine HC.out.mono ?_;rintro e w1 ⟨⟨m,rfl,hm⟩,hb1⟩;have q1:w1.cell? ⟨w.heap.size,4,none⟩=some (.slice (some ⟨b,off,none⟩) x.sub.length cap):=by rw [hb1.cell (p:=⟨w.heap.size,4,none⟩) hbx];exact q0
    have hb2:=hbel.trans (hb1.mono hzw);clear hb1 hbel q0 HC;have HSm:Hid (S+m≤x.ra.size+x.nm.size+Ex.bulks (x.sub.take (k+1))):=Lh (by have:=HSn.out;have:=HSz.out;omega);have hSm:S+m≤2000000:=by have:=hsq.out;have:=HSm.out;have:=HSq.out;omega
    have e3:IntKind.i64.wrap ((S:Int)+(m:Int))=((S+m:Nat):Int):=by rw [IntWalk.i64_in _ (by omega)];omega
    go_wp2;go_roundw
    case rel=>exact ⟨k+1,S+m,by omega,by go_num,rfl,hSm,HSm,hb2,q1⟩
    case measure=>simp [intOf];omega
   ·have HF:Hid (S≤x.bulk):=Lh (by have:=hsq.out;have:=HSz.out;have:=Ex.bulks_take x.sub k;omega);go_wp2;go_ret;exact .mk S rfl HF.out hbel
theorem Zu7 (x:Ex) (s:Value) (w:World) (hB:x.bulk≤2000000) (hs:RdE w x.sub s) :
  Calls Tryz.prog 136 #[x.val s] w (Zdz w):=by
 have hsz:=x.size_le;have hb0:=Zac w (.cells #[.int .u8 x.k,.string x.ra,.string x.nm,.int .i64 x.d,s] 25);have HS:=Lh hs;have HC:=Lh (Zu6 x.bulk x s 600 100 _ (Nat.le_refl _) hB (hs.frame hb0) (by omega) (by omega) (by omega) (by omega));clear hs;unfold Ex.val at HC ⊢;obtain ⟨ad,cap,rfl⟩:=HS.out.len;go_enter Tryz.func136,Tryz.ntmps136
 go_wp2_with fail;refine HC.out.mono ?_;rintro e w1 ⟨⟨n,g,rfl,hn⟩,hb1⟩;have hz1:=hb1.size;simp only [World.size_alloc] at hz1;have c:∀ j u,(w.alloc (.cells #[.int .u8 x.k,.string x.ra,.string x.nm,.int .i64 x.d,.slice ad x.sub.length cap] 25)).cell? ⟨w.heap.size,j,none⟩=some u→w1.cell? ⟨w.heap.size,j,none⟩=some u:=fun j u h=>by
  rw [hb1.cell (p:=⟨w.heap.size,j,none⟩) (by simp)];exact h
 have c0:=c 0 (.int .u8 x.k) (by go_simp);have c1:=c 1 (.string x.ra) (by go_simp);have c2:=c 2 (.string x.nm) (by go_simp);have c3:=c 3 (.int .i64 x.d) (by go_simp);have c4:=c 4 (.slice ad x.sub.length cap) (by go_simp);have hb2:=hb0.trans (hb1.mono (by simp));have HB:=Lh (Zu5 x.bulk x _ w1 (Nat.le_refl _) hB (HS.out.frame hb2));unfold Ex.val at HB;clear c hb0 hb1 HC
 cases g with
 | false =>
  go_wp2;go_ret;exact .mk _ rfl hb2
 | true =>
  by_cases h6:(600:Int) < (n:Int)
  ·go_wp2;go_ret;exact .mk _ rfl hb2
  ·go_wp2_with fail;refine HB.out.mono ?_;rintro e w2 ⟨⟨m,rfl,hm⟩,hb3⟩;have hb4:=hb2.trans (hb3.mono (by omega));clear hb2 hb3 HB;go_wp2;go_ret;exact .mk _ rfl hb4
theorem Zs6:∀ (N:Nat) (x:Con) (es dd ss:Value) (lim deep:Int) (w:World),x.bulk≤N→x.bulk≤2000000→RdN w x es dd ss→0≤lim→lim≤1000→0≤deep→deep≤1000 →
  Calls Tryz.prog 79 #[x.val es dd ss,.int .i64 lim,.int .i64 deep] w (Zhk x.bulk w):=by
 intro N;induction N with
 | zero =>
  intro x es dd ss lim deep w h0;rw [Con.bulk_eq] at h0;omega
 | succ N ih =>
  intro x es dd ss lim deep w hN hB hs hl0 hl1 hd0 hd1;obtain ⟨ad,cap,rfl⟩:=hs.2.2.1.len;obtain ⟨ad1,cap1,rfl⟩:=hs.1.len;obtain ⟨ad2,cap2,rfl⟩:=hs.2.1.len;have HS:=Lh hs.2.2.1;have HI:=Lh ih;have hlen:=Con.bulks_len x.sub;have hlt0:=x.sub_lt;have hsq:=Lh x.bulk_eq;have hsub:=Con.sub_lt x;have hn:x.sub.length≤2000000:=by omega
  have hb0:=Zac w (.cells #[.int .u8 x.k,.string x.fr,.string x.rc,.string x.nm,.int .u8 x.ex.k,.string x.ex.ra,.string x.ex.nm,.int .i64 x.ex.d,.slice ad1 x.ex.sub.length cap1,.int .i64 x.d,.slice ad2 x.ds.length cap2,.slice ad x.sub.length cap] 29);clear hs ih;unfold Con.val;by_cases hdz:deep=0
  ·subst hdz;have H1:Hid (1≤x.bulk):=Lh (by have:=hsq.out;omega);go_enter Tryz.func79,Tryz.ntmps79
   go_wp2_with fail;go_ret2;exact .mk 1 false rfl H1.out hb0
  have hde:(deep == 0)=false:=by simpa using hdz
  go_enter Tryz.func79,Tryz.ntmps79
  go_wp2_with fail;go_loopw [8,9] (fun n i wr=>∃ (k S:Nat),k≤x.sub.length∧i = .int .i64 (k:Int)∧n = .int .i64 (S:Int)∧S≤2000000∧Hid (S≤1+Con.bulks (x.sub.take k))∧Below w.heap.size w wr∧wr.cell? ⟨w.heap.size,11,none⟩=some (.slice ad x.sub.length cap)) (fun _ i _=>x.sub.length - (intOf i).toNat)
  case atStart=>exact ⟨0,1,Nat.zero_le _,rfl,rfl,by omega,Lh (by have:=hsq.out;omega),hb0,by go_simp⟩
  case round =>
   clear hb0;obtain ⟨k,S,hk,rfl,rfl,hS,HSz,hbel,q0⟩:=hrel;have HS0:Hid (S≤x.bulk):=Lh (by have:=hsq.out;have:=HSz.out;have:=Con.bulks_take x.sub k;omega);by_cases hlt:k < x.sub.length
   ·by_cases hli:(S:Int)≤lim
    ·obtain ⟨y,hy⟩:∃ y,x.sub[k]? = some y:=⟨_,List.getElem?_eq_getElem hlt⟩
     obtain ⟨b,off,es',dd',ss',rfl,⟨c0,c1,c2,c3,c4,c5,c6,c7,c8,c9,c10,c11⟩,hs'⟩:=(HS.out.frame hbel).cells hy;have hym:=Con.mem_lt (List.mem_of_getElem? hy);have hblk:b < wr.heap.size:=World.block_lt_of_cell? wr _ c0;have hbx:w.heap.size < wr.heap.size:=World.block_lt_of_cell? wr _ q0;have hzw:=hbel.size;have HSn:=Lh (Con.bulks_snoc hy);have HSq:=Lh (Con.bulks_take x.sub (k+1));have hk1:(0:Int)≤(k:Int):=by omega
     have hk2:(k:Int) < (x.sub.length:Int):=by omega
     have e1:IntKind.i64.wrap (lim - (S:Int))=lim - (S:Int):=by rw [IntWalk.i64_in _ (by omega)]
     have e2:IntKind.i64.wrap (deep - 1)=deep - 1:=by rw [IntWalk.i64_in _ (by omega)]
     have HC:=Lh (HI.out y es' dd' ss' (lim - (S:Int)) (deep - 1) wr (by omega) (by omega) hs' (by omega) (by omega) (by omega) (by omega));unfold Con.val at HC;clear hy hym hs';go_wp2_with fail;refine HC.out.mono ?_;rintro e w1 ⟨⟨m,g,rfl,hm⟩,hb1⟩;have q1:w1.cell? ⟨w.heap.size,11,none⟩=some (.slice (some ⟨b,off,none⟩) x.sub.length cap):=by rw [hb1.cell (p:=⟨w.heap.size,11,none⟩) hbx];exact q0
     have hb2:=hbel.trans (hb1.mono hzw);clear hb1 hbel q0 HC c0 c1 c2 c3 c4 c5 c6 c7 c8 c9 c10 c11
     cases g with
     | false =>
      go_wp2;go_ret2;exact .mk S false rfl HS0.out hb2
     | true =>
      have HSm:Hid (S+m≤1+Con.bulks (x.sub.take (k+1))):=Lh (by have:=HSn.out;have:=HSz.out;omega);have hSm:S+m≤2000000:=by have:=hsq.out;have:=HSm.out;have:=HSq.out;omega
      have e3:IntKind.i64.wrap ((S:Int)+(m:Int))=((S+m:Nat):Int):=by rw [IntWalk.i64_in _ (by omega)];omega
      go_wp2;go_roundw
      case rel=>exact ⟨k+1,S+m,by omega,by go_num,rfl,hSm,HSm,hb2,q1⟩
      case measure=>simp [intOf];omega
    ·go_wp2;go_ret2;exact .mk S true rfl HS0.out hbel
   ·go_wp2;go_ret2;exact .mk S true rfl HS0.out hbel
theorem Zp0:∀ (N:Nat) (x:Con) (es dd ss:Value) (w:World),x.bulk≤N→x.bulk≤2000000→RdN w x es dd ss →
  Calls Tryz.prog 80 #[x.val es dd ss] w (Zmm (200000 * x.bulk) w):=by
 intro N;induction N with
 | zero =>
  intro x es dd ss w h0;rw [Con.bulk_eq] at h0;omega
 | succ N ih =>
  intro x es dd ss w hN hB hs;obtain ⟨ad,cap,rfl⟩:=hs.2.2.1.len;obtain ⟨ad1,cap1,rfl⟩:=hs.1.len;obtain ⟨ad2,cap2,rfl⟩:=hs.2.1.len;have HS:=Lh hs.2.2.1;have HE:=Lh hs.1;have HI:=Lh ih;have hlen:=Con.bulks_len x.sub;have hlt0:=x.sub_lt;have hsq:=Lh x.bulk_eq;have hsq1:=x.bulk_eq;have hesz:=x.ex.size_le;have hn:x.sub.length≤2000000:=by omega
  have hexb:x.ex.bulk≤2000000:=by omega
  have hn1:x.ds.length≤2000000:=by omega
  have hf1:x.fr.size≤2000000:=by omega
  have hf2:x.rc.size≤2000000:=by omega
  have hf3:x.nm.size≤2000000:=by omega
  have hf4:x.ex.size≤2000000:=by omega
  have hb0:=Zac w (.cells #[.int .u8 x.k,.string x.fr,.string x.rc,.string x.nm,.int .u8 x.ex.k,.string x.ex.ra,.string x.ex.nm,.int .i64 x.ex.d,.slice ad1 x.ex.sub.length cap1,.int .i64 x.d,.slice ad2 x.ds.length cap2,.slice ad x.sub.length cap] 29);have HG:=Lh (Zu7 x.ex _ _ (by omega) (HE.out.frame hb0));have H2:Hid (200000≤200000 * x.bulk):=Lh (by omega);clear hs ih hsq1 hesz;unfold Con.val;unfold Ex.val at HG
  go_enter Tryz.func80,Tryz.ntmps80
  go_wp2_with fail;refine HG.out.mono ?_;rintro e w1 ⟨⟨g,rfl⟩,hb1⟩;have hz1:=hb1.size;simp only [World.size_alloc] at hz1;have c:∀ j u,(w.alloc (.cells #[.int .u8 x.k,.string x.fr,.string x.rc,.string x.nm,.int .u8 x.ex.k,.string x.ex.ra,.string x.ex.nm,.int .i64 x.ex.d,.slice ad1 x.ex.sub.length cap1,.int .i64 x.d,.slice ad2 x.ds.length cap2,.slice ad x.sub.length cap] 29)).cell? ⟨w.heap.size,j,none⟩=some u→w1.cell? ⟨w.heap.size,j,none⟩=some u:=fun j u h=>by
   rw [hb1.cell (p:=⟨w.heap.size,j,none⟩) (by simp)];exact h
  have c1:=c 1 (.string x.fr) (by go_simp);have c2:=c 2 (.string x.rc) (by go_simp);have c3:=c 3 (.string x.nm) (by go_simp);have c4:=c 4 (.int .u8 x.ex.k) (by go_simp);have c5:=c 5 (.string x.ex.ra) (by go_simp);have c6:=c 6 (.string x.ex.nm) (by go_simp);have c7:=c 7 (.int .i64 x.ex.d) (by go_simp);have c8:=c 8 (.slice ad1 x.ex.sub.length cap1) (by go_simp);have c10:=c 10 (.slice ad2 x.ds.length cap2) (by go_simp)
  have c11:=c 11 (.slice ad x.sub.length cap) (by go_simp);have hb2:=hb0.trans (hb1.mono (by simp));have HZ:Hid (∀ W,Ext w1 W→Calls Tryz.prog 137 #[.agg #[.int .u8 x.ex.k,.string x.ex.ra,.string x.ex.nm,.int .i64 x.ex.d,.slice ad1 x.ex.sub.length cap1]] W fun e w'=>e = .returned (.int .i64 (x.ex.size:Int))∧Below W.heap.size W w') :=
   Lh fun W hW=>Zh9 x.ex.bulk x.ex _ W (Nat.le_refl _) hexb (HE.out.frame (hb2.trans (Below.mono hW (by omega))))
  clear c hb0 hb1 HG
  cases g with
  | true =>
   go_wp2;go_ret;exact .mk 200000 rfl H2.out hb2
  | false =>
   obtain ⟨T,hT,hTl,hTb⟩:∃ T:Nat,(x.fr.size:Int)+(x.rc.size:Int)+(x.nm.size:Int)+(x.ds.length:Int)+4 * (x.ex.size:Int)=(T:Int)∧T≤20000000∧Hid (T+200000 * Con.bulks x.sub≤200000 * x.bulk) :=
    ⟨x.fr.size+x.rc.size+x.nm.size+x.ds.length+4 * x.ex.size,by omega,by omega,Lh (by have:=hsq.out;have:=x.ex.size_le;omega)⟩
   have e1:IntKind.i64.wrap ((x.fr.size:Int)+(x.rc.size:Int))=(x.fr.size:Int)+(x.rc.size:Int):=IntWalk.i64_in _ (by omega);have e2:IntKind.i64.wrap ((x.fr.size:Int)+(x.rc.size:Int)+(x.nm.size:Int))=(x.fr.size:Int)+(x.rc.size:Int)+(x.nm.size:Int):=IntWalk.i64_in _ (by omega);have e3:IntKind.i64.wrap ((x.fr.size:Int)+(x.rc.size:Int)+(x.nm.size:Int)+(x.ds.length:Int))=(x.fr.size:Int)+(x.rc.size:Int)+(x.nm.size:Int)+(x.ds.length:Int):=IntWalk.i64_in _ (by omega)
   have e4:IntKind.i64.wrap (4 * (x.ex.size:Int))=4 * (x.ex.size:Int):=IntWalk.i64_in _ (by omega);have e5:IntKind.i64.wrap (T:Int)=(T:Int):=IntWalk.i64_in _ (by omega);go_wp2;refine Zbk (fun W'=>W'.cell? ⟨w.heap.size,1,none⟩=some (.string x.fr)∧W'.cell? ⟨w.heap.size,2,none⟩=some (.string x.rc)∧W'.cell? ⟨w.heap.size,3,none⟩=some (.string x.nm)∧W'.cell? ⟨w.heap.size,4,none⟩=some (.int .u8 x.ex.k)∧W'.cell? ⟨w.heap.size,5,none⟩=some (.string x.ex.ra)∧W'.cell? ⟨w.heap.size,6,none⟩=some (.string x.ex.nm)∧W'.cell? ⟨w.heap.size,7,none⟩=some (.int .i64 x.ex.d)∧W'.cell? ⟨w.heap.size,8,none⟩=some (.slice ad1 x.ex.sub.length cap1)∧W'.cell? ⟨w.heap.size,10,none⟩=some (.slice ad2 x.ds.length cap2)∧W'.cell? ⟨w.heap.size,11,none⟩=some (.slice ad x.sub.length cap)) (fun W' hW'=>⟨hW'.cell (by go_simp),hW'.cell (by go_simp),hW'.cell (by go_simp),hW'.cell (by go_simp),hW'.cell (by go_simp),hW'.cell (by go_simp),hW'.cell (by go_simp),hW'.cell (by go_simp),hW'.cell (by go_simp),hW'.cell (by go_simp)⟩) (by kernel_rfl) (by kernel_rfl) ?_
   intro HCW;repeat (first | go_big_quiet_skip | (go_big_quiet_want;apply Exists.intro;refine ⟨fun W hW=>?_,?_⟩;(focus (obtain ⟨q1,q2,q3,q4,q5,q6,q7,q8,q10,q11⟩:=HCW W hW;go_simp;first | done | rfl | with_reducible exact Zlx HZ.out W hW));(simp only [Act.put,List.setIfInBounds_toArray,List.set_cons_zero,List.set_cons_succ]);go_big_quiet_on))
   refine wpQuiet_nil ?_;intro W hW;obtain ⟨q1,q2,q3,q4,q5,q6,q7,q8,q10,q11⟩:=HCW W hW;have hW:=hW.below;have hb3:=hb2.trans (hW.mono (by omega));have hbx:w.heap.size < W.heap.size:=by have:=hW.size;omega
   clear hb2 hW HCW HZ;clear e1 e2 e3 e4 e5;go_wp2;go_loopw [3,4] (fun n i wr=>∃ (k S:Nat),k≤x.sub.length∧i = .int .i64 (k:Int)∧n = .int .i64 (S:Int)∧S≤1000000000000∧Hid (S≤T+200000 * Con.bulks (x.sub.take k))∧Below w.heap.size w wr∧wr.cell? ⟨w.heap.size,11,none⟩=some (.slice ad x.sub.length cap)) (fun _ i _=>x.sub.length - (intOf i).toNat)
   case atStart=>exact ⟨0,T,Nat.zero_le _,rfl,rfl,by omega,Lh (by omega),hb3,q11⟩
   case round =>
    clear hb3;obtain ⟨k,S,hk,rfl,rfl,hS,HSz,hbel,q0⟩:=hrel;have HS0:Hid (S≤200000 * x.bulk):=Lh (by have:=HSz.out;have:=hTb.out;have:=Con.bulks_take x.sub k;omega);by_cases hlt:k < x.sub.length
    ·by_cases hli:(S:Int) < 100000
     ·obtain ⟨y,hy⟩:∃ y,x.sub[k]? = some y:=⟨_,List.getElem?_eq_getElem hlt⟩
      obtain ⟨b,off,es',dd',ss',rfl,⟨c0,c1,c2,c3,c4,c5,c6,c7,c8,c9,c10,c11⟩,hs'⟩:=(HS.out.frame hbel).cells hy;have hym:=Con.mem_lt (List.mem_of_getElem? hy);have hblk:b < wr.heap.size:=World.block_lt_of_cell? wr _ c0;have hbx:w.heap.size < wr.heap.size:=World.block_lt_of_cell? wr _ q0;have hzw:=hbel.size;have HSn:=Lh (Con.bulks_snoc hy);have HSq:=Lh (Con.bulks_take x.sub (k+1));have hk1:(0:Int)≤(k:Int):=by omega
      have hk2:(k:Int) < (x.sub.length:Int):=by omega
      have HC:=Lh (HI.out y es' dd' ss' wr (by omega) (by omega) hs');unfold Con.val at HC;clear hy hym hs';go_wp2_with fail;refine HC.out.mono ?_;rintro e w1 ⟨⟨m,rfl,hm⟩,hb1⟩;have q1:w1.cell? ⟨w.heap.size,11,none⟩=some (.slice (some ⟨b,off,none⟩) x.sub.length cap):=by rw [hb1.cell (p:=⟨w.heap.size,11,none⟩) hbx];exact q0
      have hb2:=hbel.trans (hb1.mono hzw);clear hb1 hbel q0 HC c0 c1 c2 c3 c4 c5 c6 c7 c8 c9 c10 c11;have HSm:Hid (S+m≤T+200000 * Con.bulks (x.sub.take (k+1))):=Lh (by have:=HSn.out;have:=HSz.out;omega);have hSm:S+m≤1000000000000:=by have:=hsq.out;have:=HSm.out;have:=HSq.out;have:=hTb.out;omega
      have e3:IntKind.i64.wrap ((S:Int)+(m:Int))=((S+m:Nat):Int):=by rw [IntWalk.i64_in _ (by omega)];omega
      go_wp2;go_roundw
      case rel=>exact ⟨k+1,S+m,by omega,by go_num,rfl,hSm,HSm,hb2,q1⟩
      case measure=>simp [intOf];omega
     ·go_wp2;go_ret;exact .mk S rfl HS0.out hbel
    ·go_wp2;go_ret;exact .mk S rfl HS0.out hbel
theorem Ztb (x:Con) (es dd ss:Value) (w:World) (hB:x.bulk≤2000000) (hs:RdN w x es dd ss) :
  Calls Tryz.prog 37 #[x.val es dd ss] w (Zdz w):=by
 have HS:=Lh hs;obtain ⟨ad,cap,rfl⟩:=hs.2.2.1.len;obtain ⟨ad1,cap1,rfl⟩:=hs.1.len;obtain ⟨ad2,cap2,rfl⟩:=hs.2.1.len;have hb0:=Zac w (.cells #[.int .u8 x.k,.string x.fr,.string x.rc,.string x.nm,.int .u8 x.ex.k,.string x.ex.ra,.string x.ex.nm,.int .i64 x.ex.d,.slice ad1 x.ex.sub.length cap1,.int .i64 x.d,.slice ad2 x.ds.length cap2,.slice ad x.sub.length cap] 29);have HC:=Lh (Zs6 x.bulk x _ _ _ 600 100 _ (Nat.le_refl _) hB (HS.out.frame hb0) (by omega) (by omega) (by omega) (by omega))
 clear hs;unfold Con.val at HC ⊢;go_enter Tryz.func37,Tryz.ntmps37
 go_wp2_with fail;refine HC.out.mono ?_;rintro e w1 ⟨⟨n,g,rfl,hn⟩,hb1⟩;have hz1:=hb1.size;simp only [World.size_alloc] at hz1;have c:∀ j u,(w.alloc (.cells #[.int .u8 x.k,.string x.fr,.string x.rc,.string x.nm,.int .u8 x.ex.k,.string x.ex.ra,.string x.ex.nm,.int .i64 x.ex.d,.slice ad1 x.ex.sub.length cap1,.int .i64 x.d,.slice ad2 x.ds.length cap2,.slice ad x.sub.length cap] 29)).cell? ⟨w.heap.size,j,none⟩=some u→w1.cell? ⟨w.heap.size,j,none⟩=some u:=fun j u h=>by
  rw [hb1.cell (p:=⟨w.heap.size,j,none⟩) (by simp)];exact h
 have c0:=c 0 (.int .u8 x.k) (by go_simp);have c1:=c 1 (.string x.fr) (by go_simp);have c2:=c 2 (.string x.rc) (by go_simp);have c3:=c 3 (.string x.nm) (by go_simp);have c4:=c 4 (.int .u8 x.ex.k) (by go_simp);have c5:=c 5 (.string x.ex.ra) (by go_simp);have c6:=c 6 (.string x.ex.nm) (by go_simp);have c7:=c 7 (.int .i64 x.ex.d) (by go_simp);have c8:=c 8 (.slice ad1 x.ex.sub.length cap1) (by go_simp)
 have c9:=c 9 (.int .i64 x.d) (by go_simp);have c10:=c 10 (.slice ad2 x.ds.length cap2) (by go_simp);have c11:=c 11 (.slice ad x.sub.length cap) (by go_simp);have hb2:=hb0.trans (hb1.mono (by simp));have HB:=Lh (Zp0 x.bulk x _ _ _ w1 (Nat.le_refl _) hB (HS.out.frame hb2));unfold Con.val at HB;clear c hb0 hb1 HC
 cases g with
 | false =>
  go_wp2;go_ret;exact .mk _ rfl hb2
 | true =>
  by_cases h6:(600:Int) < (n:Int)
  ·go_wp2;go_ret;exact .mk _ rfl hb2
  ·go_wp2_with fail;refine HB.out.mono ?_;rintro e w2 ⟨⟨m,rfl,hm⟩,hb3⟩;have hb4:=hb2.trans (hb3.mono (by omega));clear hb2 hb3 HB;go_wp2;go_ret;exact .mk _ rfl hb4
def Zhw:List Fx→Nat
 | []=>0
 | f :: l=>f.nm.size+f.vl.size+Zhw l
def Zii:List Ch→Nat
 | []=>0
 | f :: l=>f.pt.size+f.nm.size+Zii l
theorem Zoi (l m:List Fx):Zhw (l ++ m)=Zhw l+Zhw m:=by
 induction l with
 | nil=>simp [Zhw]
 | cons a l ih=>simp [Zhw,ih];omega
theorem Zn4 (l m:List Ch):Zii (l ++ m)=Zii l+Zii m:=by
 induction l with
 | nil=>simp [Zii]
 | cons a l ih=>simp [Zii,ih];omega
theorem Ztr {l:List Fx} {k:Nat} {f:Fx} (h:l[k]? = some f):Zhw (l.take (k+1))=Zhw (l.take k)+(f.nm.size+f.vl.size):=by
 rw [List.take_add_one,h,Zoi];simp [Zhw]
theorem Ztd {l:List Ch} {k:Nat} {f:Ch} (h:l[k]? = some f):Zii (l.take (k+1))=Zii (l.take k)+(f.pt.size+f.nm.size):=by
 rw [List.take_add_one,h,Zn4];simp [Zii]
def Zi4 (fs:List Fx) (cs:List Ch):Bool:=decide (1100 < fs.length∨1100 < cs.length∨20000 < Zhw fs+Zii cs)
theorem Ztt (fs:List Fx) (cs:List Ch) (af ac:Option Addr) (cf cc:Nat) (w:World) (_hn:fs.length≤1100000) (_hm:cs.length≤1100000)
  (hf:Rd Fx.cells 3 w af fs) (hc:Rd Ch.cells 4 w ac cs) (hfs:∀ f ∈ fs,f.small) (hcs:∀ c ∈ cs,c.small) (h1 : ¬ 1100 < fs.length) (h2 : ¬ 1100 < cs.length) :
  Calls Tryz.prog 38 #[.agg #[.slice af fs.length cf,.slice ac cs.length cc]] w fun e w'=>e = .returned (.bool (Zi4 fs cs))∧Below w.heap.size w w':=by
 have hbw:=fun a=>Zac w a
 have t1:decide ((1100:Int) < (fs.length:Int))=false:=by rw [decide_eq_false_iff_not];omega
 have t2:decide ((1100:Int) < (cs.length:Int))=false:=by rw [decide_eq_false_iff_not];omega
 have HL:Hid (fs.length≤1100∧cs.length≤1100):=⟨by omega,by omega⟩
 have h1':fs.length≤1100:=by omega
 have h2':cs.length≤1100:=by omega
 have Rfs:=Lh hf;have Rcs:=Lh hc;have Hfs:=Lh hfs;have Hcs:=Lh hcs;clear hf hc hfs hcs h1 h2;go_enter Tryz.func38,Tryz.ntmps38
 go_upto_block 0 with fail
 clear t1 t2;go_cut [3,4] from 16 to 39 (fun s _ wc=>∃ S0:Nat,s = .int .i64 S0∧Hid (S0=Zhw fs)∧S0≤2420000000∧Below w.heap.size w wc∧(wc.cell? ⟨w.heap.size,0,none⟩=some (.slice af fs.length cf)∧wc.cell? ⟨w.heap.size,1,none⟩=some (.slice ac cs.length cc)))
 case first =>
  go_wp2_with fail;go_loopw [3,4] (fun s i wr=>∃ (k S:Nat),k≤fs.length∧i = .int .i64 k∧s = .int .i64 S∧Hid (S=Zhw (fs.take k))∧S≤k * 2200000∧Below w.heap.size w wr∧(wr.cell? ⟨w.heap.size,0,none⟩=some (.slice af fs.length cf)∧wr.cell? ⟨w.heap.size,1,none⟩=some (.slice ac cs.length cc))) (fun _ i _=>fs.length - (intOf i).toNat)
  case atStart=>exact ⟨0,0,Nat.zero_le _,rfl,rfl,Lh rfl,by omega,hbw _,by go_simp,by go_simp⟩
  case round =>
   obtain ⟨k,S,hk,rfl,rfl,HS,hSk,hbel,b0,b1⟩:=hrel;by_cases hlt:k < fs.length
   ·obtain ⟨f,hf⟩:∃ f,fs[k]? = some f:=⟨_,List.getElem?_eq_getElem hlt⟩
    have HRf:=((Rfs.out.below hbel).fx hf)
    have hsm:=Hfs.out f (List.mem_of_getElem? hf);have HT:=Lh (Ztr hf);clear hf;obtain ⟨b,off,rfl,hc1,hc2,hc3⟩:=HRf;have hA:f.nm.size≤1100000:=hsm.1;have hB:f.vl.size≤1100000:=hsm.2;clear hsm;have hk1:(0:Int)≤(k:Int):=by omega
    have hk2:(k:Int) < (fs.length:Int):=by omega
    have e1:IntKind.i64.wrap ((S:Int)+(f.nm.size:Int))=(S:Int)+(f.nm.size:Int):=IntWalk.i64_in _ (by omega);have e2:IntKind.i64.wrap ((S:Int)+(f.nm.size:Int)+(f.vl.size:Int))=(S:Int)+(f.nm.size:Int)+(f.vl.size:Int):=IntWalk.i64_in _ (by omega);have HS2:Hid (S+f.nm.size+f.vl.size=Zhw (fs.take (k+1))):=by show _=_;have h1:=HS.out;have h2:=HT.out;omega
    go_wp2;go_quiet (fail)
    clear e1 e2;go_wp2;go_roundw
    case rel=>exact ⟨k+1,S+f.nm.size+f.vl.size,by omega,by go_num,by go_num,HS2,by omega,below_drewN hbel _,by first | assumption | go_simp,by first | assumption | go_simp⟩
    case measure=>simp [intOf];omega
   ·obtain rfl:k=fs.length:=by omega
    have HS2:Hid (S=Zhw fs):=by have h:=HS.out;rw [List.take_length] at h;exact h
    clear HS hlt hk;go_wp2;go_meet
    exact ⟨S,rfl,HS2,by omega,hbel,b0,b1⟩
 case rest =>
  obtain ⟨S0,rfl,HS0,hS0,hbel,b0,b1⟩:=hcut;go_wp2;go_loopw [3,5] (fun s i wr=>∃ (k S:Nat),k≤cs.length∧i = .int .i64 k∧s = .int .i64 S∧Hid (S=S0+Zii (cs.take k))∧S≤2420000000+k * 2200000∧Below w.heap.size w wr∧(wr.cell? ⟨w.heap.size,0,none⟩=some (.slice af fs.length cf)∧wr.cell? ⟨w.heap.size,1,none⟩=some (.slice ac cs.length cc))) (fun _ i _=>cs.length - (intOf i).toNat)
  case atStart=>exact ⟨0,S0,Nat.zero_le _,rfl,rfl,Lh rfl,by omega,hbel,b0,b1⟩
  case round =>
   clear hbel b0 b1;obtain ⟨k,S,hk,rfl,rfl,HS,hSk,hbel,b0,b1⟩:=hrel;by_cases hlt:k < cs.length
   ·obtain ⟨f,hf⟩:∃ f,cs[k]? = some f:=⟨_,List.getElem?_eq_getElem hlt⟩
    have HRf:=((Rcs.out.below hbel).ch hf)
    have hsm:=Hcs.out f (List.mem_of_getElem? hf);have HT:=Lh (Ztd hf);clear hf;obtain ⟨b,off,rfl,hc1,hc2,hc3,hc4⟩:=HRf;have hA:f.pt.size≤1100000:=hsm.1;have hB:f.nm.size≤1100000:=hsm.2;clear hsm;have hk1:(0:Int)≤(k:Int):=by omega
    have hk2:(k:Int) < (cs.length:Int):=by omega
    have e1:IntKind.i64.wrap ((S:Int)+(f.pt.size:Int))=(S:Int)+(f.pt.size:Int):=IntWalk.i64_in _ (by omega);have e2:IntKind.i64.wrap ((S:Int)+(f.pt.size:Int)+(f.nm.size:Int))=(S:Int)+(f.pt.size:Int)+(f.nm.size:Int):=IntWalk.i64_in _ (by omega);have HS2:Hid (S+f.pt.size+f.nm.size=S0+Zii (cs.take (k+1))):=by show _=_;have h1:=HS.out;have h2:=HT.out;omega
    go_wp2;go_quiet (fail)
    clear e1 e2;go_wp2;go_roundw
    case rel=>exact ⟨k+1,S+f.pt.size+f.nm.size,by omega,by go_num,by go_num,HS2,by omega,below_drewN hbel _,by first | assumption | go_simp,by first | assumption | go_simp⟩
    case measure=>simp [intOf];omega
   ·obtain rfl:k=cs.length:=by omega
    have HS2:Hid (S=S0+Zii cs):=by have h:=HS.out;rw [List.take_length] at h;exact h
    clear HS hlt hk;have HR:Hid (Zi4 fs cs=decide ((20000:Int) < (S:Int))):=by
     show _=_;rw [Zi4,Bool.eq_iff_iff,decide_eq_true_eq,decide_eq_true_eq];have h1:=HS0.out;have h2:=HS2.out;have h3:=HL.out;omega
    go_wp2;go_ret;exact ⟨Zaf HR.out.symm,hbel⟩
theorem Zv4 (fs:List Fx) (cs:List Ch) (af ac:Option Addr) (cf cc:Nat) (w:World) (hn:fs.length≤1100000) (hm:cs.length≤1100000)
  (hf:Rd Fx.cells 3 w af fs) (hc:Rd Ch.cells 4 w ac cs) (hfs:∀ f ∈ fs,f.small) (hcs:∀ c ∈ cs,c.small) :
  Calls Tryz.prog 38 #[.agg #[.slice af fs.length cf,.slice ac cs.length cc]] w fun e w'=>e = .returned (.bool (Zi4 fs cs))∧Below w.heap.size w w':=by
 by_cases h1:1100 < fs.length
 ·have HR:Hid (Zi4 fs cs=true):=by show _=_;rw [Zi4,decide_eq_true_eq];exact .inl h1
  have t1:decide ((1100:Int) < (fs.length:Int))=true:=by rw [decide_eq_true_eq];omega
  clear h1 hf hc hfs hcs;go_enter Tryz.func38,Tryz.ntmps38
  go_wp2;go_ret;exact ⟨Zaf HR.out.symm,Zac _ _⟩
 ·by_cases h2:1100 < cs.length
  ·have HR:Hid (Zi4 fs cs=true):=by show _=_;rw [Zi4,decide_eq_true_eq];exact .inr (.inl h2)
   have t1:decide ((1100:Int) < (fs.length:Int))=false:=by rw [decide_eq_false_iff_not];omega
   have t2:decide ((1100:Int) < (cs.length:Int))=true:=by rw [decide_eq_true_eq];omega
   clear h1 h2 hf hc hfs hcs;go_enter Tryz.func38,Tryz.ntmps38
   go_wp2;go_ret;exact ⟨Zaf HR.out.symm,Zac _ _⟩
  ·exact Ztt fs cs af ac cf cc w hn hm hf hc hfs hcs h1 h2
theorem Zt4 (c:Con) (es dd ss:Value) (day:Int) (E:EvD) (w:World) (h:BfH c es dd ss E w) :
  Calls Tryz.prog 12 #[c.val es dd ss,.int .i64 day,E.val] w (BfP w (befR c day 100000 E.F E.C)):=by
 obtain ⟨a1,n1,rfl⟩:=h.rd.1.len;obtain ⟨a2,n2,rfl⟩:=h.rd.2.1.len;obtain ⟨a3,n3,rfl⟩:=h.rd.2.2.1.len;obtain ⟨W0,hW0,hb0,hz0,bc,bv⟩:∃ W,(w.alloc (.cells #[.int .u8 c.k,.string c.fr,.string c.rc,.string c.nm,.int .u8 c.ex.k,.string c.ex.ra,.string c.ex.nm,.int .i64 c.ex.d,.slice a1 c.ex.sub.length n1,.int .i64 c.d,.slice a2 c.ds.length n2,.slice a3 c.sub.length n3] 29)).alloc (.cells #[.slice E.af E.F.length E.cf,.slice E.ac E.C.length E.cc] 33)=W∧Below w.heap.size w W∧w.heap.size+2≤W.heap.size∧BoxN W w.heap.size 29 (c.cells (.slice a1 c.ex.sub.length n1) (.slice a2 c.ds.length n2) (.slice a3 c.sub.length n3))∧BoxN W (w.heap.size+1) 33 [.slice E.af E.F.length E.cf,.slice E.ac E.C.length E.cc]:=by
  refine ⟨_,rfl,Zaz _ _ _,by simp,?_⟩;have hc:=BoxN.new w (c.cells (.slice a1 c.ex.sub.length n1) (.slice a2 c.ds.length n2) (.slice a3 c.sub.length n3)) 29;have hv:=BoxN.new (w.alloc (.cells (c.cells (.slice a1 c.ex.sub.length n1) (.slice a2 c.ds.length n2) (.slice a3 c.sub.length n3)).toArray 29)) [.slice E.af E.F.length E.cf,.slice E.ac E.C.length E.cc] 33;simp only [World.size_alloc] at hv;exact ⟨hc.alloc _,hv⟩
 have HC:Hid (Calls Tryz.prog 14 #[.agg #[.int .u8 c.k,.string c.fr,.string c.rc,.string c.nm,.int .u8 c.ex.k,.string c.ex.ra,.string c.ex.nm,.int .i64 c.ex.d,.slice a1 c.ex.sub.length n1,.int .i64 c.d,.slice a2 c.ds.length n2,.slice a3 c.sub.length n3],.int .i64 day,.int .i64 100000,.agg #[.slice E.af E.F.length E.cf,.slice E.ac E.C.length E.cc]] W0 (BfP W0 (befR c day 100000 E.F E.C))):=Zls c _ _ _ day 100000 E W0 (h.frame hb0)
 have Hb0:=Lh hb0;have c0:W0.cell? ⟨w.heap.size,0,none⟩=some (.int .u8 c.k):=bc.cell (j:=0) rfl;have c1:W0.cell? ⟨w.heap.size,1,none⟩=some (.string c.fr):=bc.cell (j:=1) rfl;have c2:W0.cell? ⟨w.heap.size,2,none⟩=some (.string c.rc):=bc.cell (j:=2) rfl;have c3:W0.cell? ⟨w.heap.size,3,none⟩=some (.string c.nm):=bc.cell (j:=3) rfl;have c4:W0.cell? ⟨w.heap.size,4,none⟩=some (.int .u8 c.ex.k):=bc.cell (j:=4) rfl
 have c5:W0.cell? ⟨w.heap.size,5,none⟩=some (.string c.ex.ra):=bc.cell (j:=5) rfl;have c6:W0.cell? ⟨w.heap.size,6,none⟩=some (.string c.ex.nm):=bc.cell (j:=6) rfl;have c7:W0.cell? ⟨w.heap.size,7,none⟩=some (.int .i64 c.ex.d):=bc.cell (j:=7) rfl;have c8:W0.cell? ⟨w.heap.size,8,none⟩=some (.slice a1 c.ex.sub.length n1):=bc.cell (j:=8) rfl;have c9:W0.cell? ⟨w.heap.size,9,none⟩=some (.int .i64 c.d):=bc.cell (j:=9) rfl
 have c10:W0.cell? ⟨w.heap.size,10,none⟩=some (.slice a2 c.ds.length n2):=bc.cell (j:=10) rfl;have c11:W0.cell? ⟨w.heap.size,11,none⟩=some (.slice a3 c.sub.length n3):=bc.cell (j:=11) rfl;have v0:W0.cell? ⟨w.heap.size+1,0,none⟩=some (.slice E.af E.F.length E.cf):=bv.cell (j:=0) rfl;have v1:W0.cell? ⟨w.heap.size+1,1,none⟩=some (.slice E.ac E.C.length E.cc):=bv.cell (j:=1) rfl;show Calls _ _ #[.agg #[.int .u8 c.k,.string c.fr,.string c.rc,.string c.nm,.int .u8 c.ex.k,.string c.ex.ra,.string c.ex.nm,.int .i64 c.ex.d,.slice a1 c.ex.sub.length n1,.int .i64 c.d,.slice a2 c.ds.length n2,.slice a3 c.sub.length n3],.int .i64 day,.agg #[.slice E.af E.F.length E.cf,.slice E.ac E.C.length E.cc]] _ _
 generalize befR c day 100000 E.F E.C=R at HC ⊢;clear h bc bv hb0;show Calls _ _ _ _ (fun e w'=>∃ ad cap,e = .returned (.tuple #[.slice ad R.2.length cap,.int .i64 R.1])∧Below w.heap.size w w'∧R.2.length≤cap∧(ad=none→cap=0)∧Rd Fl.cells 5 w' ad R.2);go_enter Tryz.func12,Tryz.ntmps12
 go_upto_region 1 with (fail);clear hW0;go_wp2_with (go_at_call 14;refine HC.out.mono ?_;rintro e w1 ⟨ad,cap,rfl,hb1,q⟩);go_ret2;exact ⟨_,_,rfl,Hb0.out.trans (hb1.mono Hb0.out.size),q⟩
section
variable {W0 w w':World} {x:Ex} {s:Value} {k:Nat} {r:ByteArray} {L:Nat→Bool} {v7 v8 v9 v10 v2:Value}
end
section
variable {W0 w w':World} {F:Nat} {x:Ex} {s:Value} {k:Nat} {r:ByteArray} {L:Nat→Bool} {v7 v8 v9 v10:Value}
end
end Go.Proofs.YtknpnhodpgajbaaGreatDoor
