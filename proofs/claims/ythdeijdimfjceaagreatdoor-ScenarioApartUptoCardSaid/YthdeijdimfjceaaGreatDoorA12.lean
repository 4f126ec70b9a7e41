/- A part. -/
import Derived.Test.YthdeijdimfjceaaGreatDoorA11
namespace Go.Proofs.YthdeijdimfjceaaGreatDoor
open Go.RowKit
def OpP (w0 w:World) (S:Nat) (E:EvD) (day:Int) (R:Int × ByteArray) (e:Ending) (w':World):Prop :=
 ∃ t er,e = .returned (.tuple #[.string t,.int .i64 R.1])∧(R.1=0→t=R.2)∧t.size≤1000000∧(er=0∨er=R.1)∧SttTo w0 w S E day er w'
section
variable (a b:ByteArray) (ha:a.size≤1000000) (hb:b.size≤1000000) (w0 w:World) (S:Nat) (E:EvD) (day:Int) (h:Stt w0 w S E day 0)
include ha hb h
set_option maxHeartbeats 1000000 in
set_option maxRecDepth 100000 in
theorem sadd_any:Calls Tryz.prog 200 #[.pointer (some ⟨S,0,none⟩),.string a,.string b] w (OpP w0 w S E day (op2 4 a b)):=by
 have HC:=Lib.hid ((ratadd_any a b w ha hb).mono fun _ _ h => h.val)
 have HF:Hid (∀ W,Below w.heap.size w W→OpP w0 w S E day (op2 4 a b) (.returned (.tuple #[.string (op2 4 a b).2,.int .i64 (op2 4 a b).1])) W) :=
  Lib.hid fun W hb => ⟨_,0,rfl,fun _ => rfl,Nat.le_trans (show (mkB (sumS a b (addZ a b))).size≤2010 by rw [mkB_size];exact sumS_len _ _ _) (by decide),.inl rfl,h.below hb,Below.but hb _⟩
 clear h ha hb
 go_enter Tryz.func200,Tryz.ntmps200
 go_wp2_with fail
 refine HC.out.mono ?_
 rintro e w1 ⟨rfl,hb1⟩
 have HG:=Lib.hid (HF.out w1 hb1)
 clear HF HC hb1
 go_wp2
 go_ret2
 exact HG.out
set_option maxHeartbeats 1000000 in
set_option maxRecDepth 100000 in
theorem ssub_any:Calls Tryz.prog 201 #[.pointer (some ⟨S,0,none⟩),.string a,.string b] w (OpP w0 w S E day (op2 5 a b)):=by
 have HC:=Lib.hid ((ratsub_any a b w ha hb).mono fun _ _ h => h.val)
 have HF:Hid (∀ W,Below w.heap.size w W→OpP w0 w S E day (op2 5 a b) (.returned (.tuple #[.string (op2 5 a b).2,.int .i64 (op2 5 a b).1])) W) :=
  Lib.hid fun W hb => ⟨_,0,rfl,fun _ => rfl,Nat.le_trans (show (mkB (sumS a b (subZ a b))).size≤2010 by rw [mkB_size];exact sumS_len _ _ _) (by decide),.inl rfl,h.below hb,Below.but hb _⟩
 clear h ha hb
 go_enter Tryz.func201,Tryz.ntmps201
 go_wp2_with fail
 refine HC.out.mono ?_
 rintro e w1 ⟨rfl,hb1⟩
 have HG:=Lib.hid (HF.out w1 hb1)
 clear HF HC hb1
 go_wp2
 go_ret2
 exact HG.out
set_option maxHeartbeats 1000000 in
set_option maxRecDepth 100000 in
theorem smul_any:Calls Tryz.prog 202 #[.pointer (some ⟨S,0,none⟩),.string a,.string b] w (OpP w0 w S E day (op2 6 a b)):=by
 have HC:=Lib.hid ((ratmul_any a b w ha hb).mono fun _ _ h => h.val)
 have HF:Hid (∀ W,Below w.heap.size w W→OpP w0 w S E day (op2 6 a b) (.returned (.tuple #[.string (op2 6 a b).2,.int .i64 (op2 6 a b).1])) W) :=
  Lib.hid fun W hb => ⟨_,0,rfl,fun _ => rfl,Nat.le_trans (mulS_size a b) (by decide),.inl rfl,h.below hb,Below.but hb _⟩
 clear h ha hb
 go_enter Tryz.func202,Tryz.ntmps202
 go_wp2_with fail
 refine HC.out.mono ?_
 rintro e w1 ⟨rfl,hb1⟩
 have HG:=Lib.hid (HF.out w1 hb1)
 clear HF HC hb1
 go_wp2
 go_ret2
 exact HG.out
set_option maxHeartbeats 1000000 in
set_option maxRecDepth 100000 in
theorem sgreater_any:Calls Tryz.prog 203 #[.pointer (some ⟨S,0,none⟩),.string a,.string b] w (OpP w0 w S E day (op2 7 a b)):=by
 have HC:=Lib.hid (scmp_any a b ha hb w0 w S E day h)
 have HF:Hid (∀ W,Stt w0 W S E day (cmpE a b)→w.grownBy W (some S)→∀ t,t=(op2 7 a b).2→∀ n,OpP w0 w S E day (op2 7 a b) (.returned (.tuple #[.string t,.int .i64 (cmpE a b)])) (W.drewN n)) :=
  Lib.hid fun W hs hg t ht n => ⟨t,cmpE a b,rfl,fun _ => ht,by rw [ht];show (if cmpV a b < 0 then b else a).size≤1000000;split <;> assumption,.inr rfl,hs.below (below_drewN (Below.refl _ _) n),hg.trans (Below.but (below_drewN (Below.refl _ _) n) _)⟩
 have HT:Hid ((op2 7 a b).2=if cmpV a b < 0 then b else a):=rfl
 generalize op2 7 a b=R at *
 clear h ha hb
 generalize cmpV a b=V at *
 generalize cmpE a b=Z at *
 by_cases hv:V < 0
 ·have hv1:decide (V < 0)=true:=decide_eq_true hv
  have HT2:Hid (b=R.2):=by show _=_;rw [HT.out,if_pos hv]
  clear hv HT
  go_enter Tryz.func203,Tryz.ntmps203
  go_wp2_with fail
  refine HC.out.mono ?_
  rintro e w1 ⟨rfl,hs,hg⟩
  have q3:=hs.cells.2.2.2
  have HG:=Lib.hid (HF.out w1 hs hg b HT2.out)
  clear HF HC hs hg
  go_wp2_with fail
  go_quiet (fail)
  go_wp2
  go_ret2
  exact HG.out _
 ·have hv1:decide (V < 0)=false:=decide_eq_false hv
  have HT2:Hid (a=R.2):=by show _=_;rw [HT.out,if_neg hv]
  clear hv HT
  go_enter Tryz.func203,Tryz.ntmps203
  go_wp2_with fail
  refine HC.out.mono ?_
  rintro e w1 ⟨rfl,hs,hg⟩
  have q3:=hs.cells.2.2.2
  have HG:=Lib.hid (HF.out w1 hs hg a HT2.out)
  clear HF HC hs hg
  go_wp2_with fail
  go_quiet (fail)
  go_wp2
  go_ret2
  exact HG.out _
set_option maxHeartbeats 1000000 in
set_option maxRecDepth 100000 in
theorem ssmaller_any:Calls Tryz.prog 204 #[.pointer (some ⟨S,0,none⟩),.string a,.string b] w (OpP w0 w S E day (op2 8 a b)):=by
 have HC:=Lib.hid (scmp_any b a hb ha w0 w S E day h)
 have HF:Hid (∀ W,Stt w0 W S E day (cmpE b a)→w.grownBy W (some S)→∀ t,t=(op2 8 a b).2→∀ n,OpP w0 w S E day (op2 8 a b) (.returned (.tuple #[.string t,.int .i64 (cmpE b a)])) (W.drewN n)) :=
  Lib.hid fun W hs hg t ht n => ⟨t,cmpE b a,rfl,fun _ => ht,by rw [ht];show (if cmpV b a < 0 then b else a).size≤1000000;split <;> assumption,.inr rfl,hs.below (below_drewN (Below.refl _ _) n),hg.trans (Below.but (below_drewN (Below.refl _ _) n) _)⟩
 have HT:Hid ((op2 8 a b).2=if cmpV b a < 0 then b else a):=rfl
 generalize op2 8 a b=R at *
 clear h ha hb
 generalize cmpV b a=V at *
 generalize cmpE b a=Z at *
 by_cases hv:V < 0
 ·have hv1:decide (V < 0)=true:=decide_eq_true hv
  have HT2:Hid (b=R.2):=by show _=_;rw [HT.out,if_pos hv]
  clear hv HT
  go_enter Tryz.func204,Tryz.ntmps204
  go_wp2_with fail
  refine HC.out.mono ?_
  rintro e w1 ⟨rfl,hs,hg⟩
  have q3:=hs.cells.2.2.2
  have HG:=Lib.hid (HF.out w1 hs hg b HT2.out)
  clear HF HC hs hg
  go_wp2_with fail
  go_quiet (fail)
  go_wp2
  go_ret2
  exact HG.out _
 ·have hv1:decide (V < 0)=false:=decide_eq_false hv
  have HT2:Hid (a=R.2):=by show _=_;rw [HT.out,if_neg hv]
  clear hv HT
  go_enter Tryz.func204,Tryz.ntmps204
  go_wp2_with fail
  refine HC.out.mono ?_
  rintro e w1 ⟨rfl,hs,hg⟩
  have q3:=hs.cells.2.2.2
  have HG:=Lib.hid (HF.out w1 hs hg a HT2.out)
  clear HF HC hs hg
  go_wp2_with fail
  go_quiet (fail)
  go_wp2
  go_ret2
  exact HG.out _
end
end Go.Proofs.YthdeijdimfjceaaGreatDoor

namespace Go.Proofs.YthdeijdimfjceaaGreatDoor
open Go.RowKit
def opFn (k:Nat):Nat:=if k=4 then 200 else if k=5 then 201 else if k=6 then 202 else if k=7 then 203 else 204
def LookO (w:World):Prop:=∃ bm,w.cell? ⟨3,0,none⟩=some (.map (some bm))∧∀ W,Below w.heap.size w W→∀ k:Nat,4≤k→k≤8→(Instr.lookup 238 (.map (some bm)) (.int .u8 (k:Int)) false).run Tryz.prog W = .ok (.func (.func (opFn k)) #[] #[]) W
theorem LookO.frame {w w':World} (h:LookO w) (hb:Below w.heap.size w w'):LookO w':=by
 obtain ⟨bm,hc,h2⟩:=h
 exact ⟨bm,by rw [hb.cell (p:=⟨3,0,none⟩) (World.block_lt_of_cell? w _ hc)];exact hc,fun W hW k h4 h8 => h2 W (hb.trans (hW.mono hb.size)) k h4 h8⟩
def ValP (w0 w:World) (S:Nat) (E:EvD) (day:Int) (R:Int × ByteArray) (e:Ending) (w':World):Prop :=
 ∃ t:ByteArray,e = .returned (.string t)∧t.size≤1000000∧(R.1=0→t=R.2)∧SttTo w0 w S E day R.1 w'
def HolP (w0 w:World) (S:Nat) (E:EvD) (day:Int) (R:Int × Bool) (e:Ending) (w':World):Prop :=
 ∃ t:Bool,e = .returned (.bool t)∧(R.1=0→t=R.2)∧(R.1 ≠ 0→t=false)∧SttTo w0 w S E day R.1 w'
def PV (w0:World) (S:Nat) (E:EvD) (day:Int) (y:Ex):Prop:=∀ W er s,Stt w0 W S E day er→RdE w0 y.sub s→y.k < 256→Calls Tryz.prog 159 #[.pointer (some ⟨S,0,none⟩),y.val s] W (ValP w0 W S E day (if er=0 then y.value E.F day else (er,⟨#[]⟩)))
def PH (w0:World) (S:Nat) (E:EvD) (day:Int) (y:Ex):Prop:=∀ W er s,Stt w0 W S E day er→RdE w0 y.sub s→y.k < 256→Calls Tryz.prog 158 #[.pointer (some ⟨S,0,none⟩),y.val s] W (HolP w0 W S E day (if er=0 then y.hold E.F day else (er,false)))
set_option maxHeartbeats 1000000 in
set_option maxRecDepth 100000 in
theorem value_err (k:Nat) (ra nm:ByteArray) (d:Int) (s:Value) (w0 w:World) (S:Nat) (E:EvD) (day er:Int) (h:Stt w0 w S E day er) (he:er ≠ 0) :
  Calls Tryz.prog 159 #[.pointer (some ⟨S,0,none⟩),.agg #[.int .u8 (k:Int),.string ra,.string nm,.int .i64 d,s]] w (ValP w0 w S E day (er,⟨#[]⟩)):=by
 have q3:=h.cells.2.2.2
 have hlt:=h.lt
 have t1:(er != 0)=true:=by rw [bne_iff_ne];exact he
 have HF:Hid (ValP w0 w S E day (er,⟨#[]⟩) (.returned (.string ⟨#[]⟩)) (w.alloc (.cells #[.int .u8 (k:Int),.string ra,.string nm,.int .i64 d,s] 47))) :=
  ⟨_,rfl,by decide,fun _ => rfl,h.below (below_a1 _ _),Below.but (below_a1 _ _) _⟩
 clear h he
 go_enter Tryz.func159,Tryz.ntmps159
 go_wp2
 go_ret
 exact HF.out
set_option maxHeartbeats 1000000 in
set_option maxRecDepth 100000 in
theorem holds_err (k:Nat) (ra nm:ByteArray) (d:Int) (s:Value) (w0 w:World) (S:Nat) (E:EvD) (day er:Int) (h:Stt w0 w S E day er) (he:er ≠ 0) :
  Calls Tryz.prog 158 #[.pointer (some ⟨S,0,none⟩),.agg #[.int .u8 (k:Int),.string ra,.string nm,.int .i64 d,s]] w (HolP w0 w S E day (er,false)):=by
 have q3:=h.cells.2.2.2
 have hlt:=h.lt
 have t1:(er != 0)=true:=by rw [bne_iff_ne];exact he
 have HF:Hid (HolP w0 w S E day (er,false) (.returned (.bool false)) (w.alloc (.cells #[.int .u8 (k:Int),.string ra,.string nm,.int .i64 d,s] 47))) :=
  ⟨_,rfl,fun _ => rfl,fun _ => rfl,h.below (below_a1 _ _),Below.but (below_a1 _ _) _⟩
 clear h he
 go_enter Tryz.func158,Tryz.ntmps158
 go_wp2
 go_ret
 exact HF.out
set_option maxHeartbeats 1000000 in
set_option maxRecDepth 100000 in
theorem value_con (ra nm:ByteArray) (d:Int) (s:Value) (w0 w:World) (S:Nat) (E:EvD) (day:Int) (h:Stt w0 w S E day 0) (hr:ra.size≤1000000) :
  Calls Tryz.prog 159 #[.pointer (some ⟨S,0,none⟩),.agg #[.int .u8 1,.string ra,.string nm,.int .i64 d,s]] w (ValP w0 w S E day (0,ra)):=by
 have q3:=h.cells.2.2.2
 have hlt:=h.lt
 have HF:Hid (ValP w0 w S E day (0,ra) (.returned (.string ra)) (w.alloc (.cells #[.int .u8 1,.string ra,.string nm,.int .i64 d,s] 47))) :=
  ⟨_,rfl,hr,fun _ => rfl,h.below (below_a1 _ _),Below.but (below_a1 _ _) _⟩
 clear h hr
 go_enter Tryz.func159,Tryz.ntmps159
 go_wp2
 go_ret
 exact HF.out
theorem SttTo.at {w0 w w1 w2:World} {S:Nat} {E:EvD} {day er:Int} (h:SttTo w0 w1 S E day er w2) (hb:Below w.heap.size w w1):SttTo w0 w S E day er w2:=⟨h.1,(Below.but hb _).trans h.2⟩
theorem fixR_size {F:List Fx} (hF:∀ f ∈ F,f.vl.size≤1000000) (nm:ByteArray) (d:Int):(fixR F nm d).2.size≤1000000:=by
 rw [fixR_eq]
 cases hf:F.find? (fxIs ⟨nm,d,⟨#[]⟩⟩) with
 | none => decide
 | some f => exact hF f (List.mem_of_find?_eq_some hf)
set_option maxHeartbeats 1000000 in
set_option maxRecDepth 100000 in
theorem value_fix (ra nm:ByteArray) (d:Int) (s:Value) (w0 w:World) (S:Nat) (E:EvD) (day:Int) (h:Stt w0 w S E day 0) (hE:E.Rd w0) (hF:∀ f ∈ E.F,f.vl.size≤1000000) :
  Calls Tryz.prog 159 #[.pointer (some ⟨S,0,none⟩),.agg #[.int .u8 2,.string ra,.string nm,.int .i64 d,s]] w (ValP w0 w S E day (fixR E.F nm d)):=by
 have q3:=h.cells.2.2.2
 have hlt:=h.lt
 have hb0:=below_a1 w (.cells #[.int .u8 2,.string ra,.string nm,.int .i64 d,s] 47)
 have HC:=Lib.hid (sfix_any nm d w0 _ S E day (h.below hb0) hE)
 have HF:Hid (∀ W,SttTo w0 (w.alloc (.cells #[.int .u8 2,.string ra,.string nm,.int .i64 d,s] 47)) S E day (fixR E.F nm d).1 W→ValP w0 w S E day (fixR E.F nm d) (.returned (.string (fixR E.F nm d).2)) W) :=
  Lib.hid fun W h3 => ⟨_,rfl,fixR_size hF nm d,fun _ => rfl,h3.at hb0⟩
 generalize fixR E.F nm d=R at *
 clear h hF hE hb0
 go_enter Tryz.func159,Tryz.ntmps159
 go_wp2_with fail
 refine HC.out.mono ?_
 rintro e w1 ⟨rfl,h1⟩
 have HG:=Lib.hid (HF.out w1 h1)
 clear h1 HF HC
 go_wp2
 go_ret
 exact HG.out
set_option maxHeartbeats 1000000 in
set_option maxRecDepth 100000 in
theorem value_now (ra nm:ByteArray) (d:Int) (s:Value) (w0 w:World) (S:Nat) (E:EvD) (day:Int) (h:Stt w0 w S E day 0) (hE:E.Rd w0) (hF:∀ f ∈ E.F,f.vl.size≤1000000) :
  Calls Tryz.prog 159 #[.pointer (some ⟨S,0,none⟩),.agg #[.int .u8 3,.string ra,.string nm,.int .i64 d,s]] w (ValP w0 w S E day (fixR E.F nm day)):=by
 have q2:=h.cells.2.2.1
 have q3:=h.cells.2.2.2
 have hlt:=h.lt
 have hb0:=below_a1 w (.cells #[.int .u8 3,.string ra,.string nm,.int .i64 d,s] 47)
 have HC:=Lib.hid (fun W hb => sfix_any nm day w0 W S E day ((h.below hb0).below hb) hE)
 have HF:Hid (∀ W1 W,Below (w.alloc (.cells #[.int .u8 3,.string ra,.string nm,.int .i64 d,s] 47)).heap.size (w.alloc (.cells #[.int .u8 3,.string ra,.string nm,.int .i64 d,s] 47)) W1→SttTo w0 W1 S E day (fixR E.F nm day).1 W→ValP w0 w S E day (fixR E.F nm day) (.returned (.string (fixR E.F nm day).2)) W) :=
  Lib.hid fun W1 W hb h3 => ⟨_,rfl,fixR_size hF nm day,fun _ => rfl,h3.at (hb0.trans (hb.mono hb0.size))⟩
 generalize fixR E.F nm day=R at *
 clear h hF hE hb0
 go_enter Tryz.func159,Tryz.ntmps159
 go_wp2_with fail
 go_region_held3 (fun w' => w'.cell? ⟨S,2,none⟩=some (.int .i64 day)∧w'.cell? ⟨w.heap.size,2,none⟩=some (.string nm))
  (first | assumption | exact ⟨by assumption,by assumption⟩ | go_keep)
  (first | (go_at_call 172;refine (HC.out _ (below_drewN (Below.refl _ _) 1)).mono ?_;rintro e w1 ⟨rfl,h1⟩;have p2:=h1.1.cells.2.2.1;have p5:=h1.2.cell (a:=⟨w.heap.size,2,none⟩) (v:=.string nm) (by go_simp) (by simp;omega)))
 have HG:=Lib.hid (HF.out _ _ (below_drewN (Below.refl _ _) 1) h1)
 clear h1 HF HC
 go_wp2
 go_ret
 exact HG.out
theorem RdE.two {w:World} {y z:Ex} {ad:Option Addr} {cap:Nat} (h:RdE w [y,z] (.slice ad 2 cap)):∃ b off s1 s2,ad=some ⟨b,off,none⟩∧(RdE w y.sub s1∧y.k < 256)∧(RdE w z.sub s2∧z.k < 256)∧b < w.heap.size ∧
  (∀ W,Below w.heap.size w W→W.cell? ⟨b,off,none⟩=some (.int .u8 y.k)∧W.cell? ⟨b,off+1,none⟩=some (.string y.ra)∧W.cell? ⟨b,off+2,none⟩=some (.string y.nm)∧W.cell? ⟨b,off+3,none⟩=some (.int .i64 y.d)∧W.cell? ⟨b,off+4,none⟩=some s1) ∧
  (∀ W,Below w.heap.size w W→W.cell? ⟨b,off+5,none⟩=some (.int .u8 z.k)∧W.cell? ⟨b,off+5+1,none⟩=some (.string z.ra)∧W.cell? ⟨b,off+5+2,none⟩=some (.string z.nm)∧W.cell? ⟨b,off+5+3,none⟩=some (.int .i64 z.d)∧W.cell? ⟨b,off+5+4,none⟩=some s2):=by
 obtain ⟨b,off,s1,rfl,c0,c1,c2,c3,c4,h1,k1⟩:=h.at (j:=0) rfl
 obtain ⟨b',off',s2,e,d0,d1,d2,d3,d4,h2,k2⟩:=h.at (j:=1) rfl
 obtain ⟨rfl,rfl⟩:b=b'∧off=off':=by simpa using e
 have hk:∀ {W:World} {p:Addr} {u:Value},Below w.heap.size w W→w.cell? p=some u→W.cell? p=some u:=fun {W p u} hb hu => by rw [hb.cell (p:=p) (World.block_lt_of_cell? w _ hu)];exact hu
 rw [Nat.zero_mul,Nat.add_zero] at c0 c1 c2 c3 c4
 rw [Nat.one_mul] at d0 d1 d2 d3 d4
 exact ⟨b,off,s1,s2,rfl,⟨h1,k1⟩,⟨h2,k2⟩,World.block_lt_of_cell? w _ c0,fun W hb => ⟨hk hb c0,hk hb c1,hk hb c2,hk hb c3,hk hb c4⟩,fun W hb => ⟨hk hb d0,hk hb d1,hk hb d2,hk hb d3,hk hb d4⟩⟩
set_option maxHeartbeats 4000000 in
set_option maxRecDepth 100000 in
theorem value_two (k:Nat) (h4:4≤k) (h8:k≤8) (ra nm:ByteArray) (d:Int) (y z:Ex) (ad:Option Addr) (cap:Nat) (w0 w:World) (S:Nat) (E:EvD) (day:Int) (h:Stt w0 w S E day 0) (hO:LookO w0)
  (hs:RdE w0 [y,z] (.slice ad 2 cap)) (HY:PV w0 S E day y) (HZ:PV w0 S E day z) :
  Calls Tryz.prog 159 #[.pointer (some ⟨S,0,none⟩),.agg #[.int .u8 (k:Int),.string ra,.string nm,.int .i64 d,.slice ad 2 cap]] w
   (ValP w0 w S E day (andR (y.value E.F day) ByteArray.empty fun a => andR (z.value E.F day) ByteArray.empty fun b => op2 k a b)):=by
 obtain ⟨b,off,s1,s2,rfl,⟨r1,k1⟩,⟨r2,k2⟩,hbl,cY,cZ⟩:=hs.two
 obtain ⟨a1,n1,rfl⟩:=r1.len
 obtain ⟨a2,n2,rfl⟩:=r2.len
 have hb0:=below_a1 w (.cells #[.int .u8 (k:Int),.string ra,.string nm,.int .i64 d,.slice (some ⟨b,off,none⟩) 2 cap] 47)
 have hst:=h.below hb0
 have HY0:Hid (∀ W,Stt w0 W S E day 0→Calls Tryz.prog 159 #[.pointer (some ⟨S,0,none⟩),.agg #[.int .u8 y.k,.string y.ra,.string y.nm,.int .i64 y.d,.slice a1 y.sub.length n1]] W (ValP w0 W S E day (y.value E.F day))) :=
  Lib.hid fun W hw => by have:=HY W 0 _ hw r1 k1;rw [if_pos rfl] at this;exact this
 have HZ0:Hid (∀ W er,Stt w0 W S E day er→Calls Tryz.prog 159 #[.pointer (some ⟨S,0,none⟩),.agg #[.int .u8 z.k,.string z.ra,.string z.nm,.int .i64 z.d,.slice a2 z.sub.length n2]] W (ValP w0 W S E day (if er=0 then z.value E.F day else (er,⟨#[]⟩)))) :=
  Lib.hid fun W er hw => HZ W er _ hw r2 k2
 obtain ⟨cy0,cy1,cy2,cy3,cy4⟩:=cY w h.b
 have HCZ:=Lib.hid cZ
 have hlt:=h.lt
 have hsz0:=h.b.size
 have hbw:b < w.heap.size:=by omega
 have q3:=h.cells.2.2.2
 have hne:w.heap.size ≠ S:=by omega
 have tk1:((k:Int) == 1)=false:=by rw [beq_eq_false_iff_ne];omega
 have tk2:((k:Int) == 2)=false:=by rw [beq_eq_false_iff_ne];omega
 have tk3:((k:Int) == 3)=false:=by rw [beq_eq_false_iff_ne];omega
 have tk9:((k:Int) == 9)=false:=by rw [beq_eq_false_iff_ne];omega
 have HO:=Lib.hid hO
 have HF:Hid (∀ R:Int × ByteArray,R=andR (y.value E.F day) ByteArray.empty (fun a => andR (z.value E.F day) ByteArray.empty fun b => op2 k a b)→∀ t W,t.size≤1000000→(R.1=0→t=R.2)→Stt w0 W S E day R.1→(w.alloc (.cells #[.int .u8 (k:Int),.string ra,.string nm,.int .i64 d,.slice (some ⟨b,off,none⟩) 2 cap] 47)).grownBy W (some S) →
   ValP w0 w S E day (andR (y.value E.F day) ByteArray.empty fun a => andR (z.value E.F day) ByteArray.empty fun b => op2 k a b) (.returned (.string t)) W) :=
  Lib.hid fun R hR t W h1 h2 h3 h4 => by rw [← hR];exact ⟨t,rfl,h1,h2,h3,(Below.but hb0 _).trans h4⟩
 clear HY HZ cY cZ hO h hs r1 r2 hb0
 go_enter Tryz.func159,Tryz.ntmps159
 go_wp2_with fail
 refine (HY0.out _ hst).mono ?_
 rintro e w1 ⟨t1,rfl,l1,v1,hs1,hg1⟩
 have p0:=hg1.cell (a:=⟨w.heap.size,0,none⟩) (v:=.int .u8 (k:Int)) (by go_simp) (by simp;omega)
 have p4:=hg1.cell (a:=⟨w.heap.size,4,none⟩) (v:=.slice (some ⟨b,off,none⟩) 2 cap) (by go_simp) (by simp;omega)
 have hz1:w.heap.size < w1.heap.size:=by have:=hg1.size;simp at this;omega
 have hb1:b < w1.heap.size:=by omega
 obtain ⟨cz0,cz1,cz2,cz3,cz4⟩:=HCZ.out w1 hs1.b
 have HC2:=Lib.hid (HZ0.out _ _ hs1)
 have V1:=Lib.hid v1
 have HG1:=Lib.hid hg1
 clear hst cy0 cy1 cy2 cy3 cy4 HY0 HZ0 HCZ q3 v1 hg1 hs1
 go_wp2_with fail
 refine HC2.out.mono ?_
 rintro e w2 ⟨t2,rfl,l2,v2,hs2,hg2⟩
 have p0':=hg2.cell (a:=⟨w.heap.size,0,none⟩) p0 (by simp;omega)
 have q3:=hs2.cells.2.2.2
 have V2:=Lib.hid v2
 have HG2:=Lib.hid (HG1.out.trans hg2)
 clear p0 p4 cz0 cz1 cz2 cz3 cz4 HG1 HC2 v2 hg2
 obtain ⟨e1,he1⟩:∃ e,e=(y.value E.F day).1:=⟨_,rfl⟩
 by_cases h1:e1=0
 ·rw [if_pos (he1 ▸ h1)] at V2 hs2 q3
  have T1:=Lib.hid (V1.out (he1 ▸ h1))
  have HR1:Hid (andR (y.value E.F day) ByteArray.empty (fun a => andR (z.value E.F day) ByteArray.empty fun b => op2 k a b)=andR (z.value E.F day) ByteArray.empty fun b => op2 k t1 b):=by
   show _=_
   rw [andR,if_neg (by rw [← he1];simp [h1]),← T1.out]
  obtain ⟨e2,he2⟩:∃ e,e=(z.value E.F day).1:=⟨_,rfl⟩
  rw [← he2] at hs2 q3
  by_cases h2:e2=0
  ·subst h2
   have T2:=Lib.hid (V2.out he2.symm)
   have HR2:Hid (op2 k t1 t2=andR (y.value E.F day) ByteArray.empty (fun a => andR (z.value E.F day) ByteArray.empty fun b => op2 k a b)):=by
    show _=_
    rw [HR1.out,andR,if_neg (by rw [← he2];simp),← T2.out]
   obtain ⟨bm,hbm,hlook⟩:=HO.out.frame hs2.b
   have hgl:3 < w2.heap.size:=World.block_lt_of_cell? w2 _ hbm
   have hlk:=hlook w2 (Below.refl _ _) k h4 h8
   have HK:Hid (∀ R:Int × ByteArray,R=op2 k t1 t2→∀ t er W,t.size≤1000000→(R.1=0→t=R.2)→(er=0∨er=R.1)→SttTo w0 w2 S E day er W→Calls Tryz.prog 173 #[.pointer (some ⟨S,0,none⟩),.string t,.int .i64 R.1] W fun e w' => e = .returned (.string t)∧ValP w0 w S E day (andR (y.value E.F day) ByteArray.empty fun a => andR (z.value E.F day) ByteArray.empty fun b => op2 k a b) (.returned (.string t)) w') :=
    Lib.hid fun R hR t er W k1 k2 k3 k4 => (keepR_any t w0 W S E day er R.1 k4.1).mono fun e w' ⟨q1,q2,q3⟩ => ⟨q1,HF.out R (hR.trans HR2.out) t w' k1 k2 (by
     rcases k3 with rfl | rfl
     ·rw [if_pos rfl] at q2;exact q2
     ·split at q2 <;> exact q2) (HG2.out.trans (k4.2.trans q3))⟩
   have HS2:=Lib.hid hs2
   have hk5:k=4∨k=5∨k=6∨k=7∨k=8:=by omega
   clear HR1 HR2 T1 T2 V1 V2 HF HG2 he1 he2 hlook HO hs2 h4 h8 tk1 tk2 tk3 tk9 h1
   rcases hk5 with rfl | rfl | rfl | rfl | rfl
   ·have hlk2:(Instr.lookup 238 (.map (some bm)) (.int .u8 4) false).run Tryz.prog w2 = .ok (.func (.func 200) #[] #[]) w2:=hlk
    clear hlk
    have HC3:=Lib.hid (sadd_any t1 t2 l1 l2 w0 w2 S E day HS2.out)
    have HK3:=Lib.hid (HK.out (op2 4 t1 t2) rfl)
    generalize op2 4 t1 t2=R at HC3 HK3
    clear HK HS2
    go_wp2_with fail
    refine HC3.out.mono ?_
    rintro e w3 ⟨t,er,rfl,k1,k2,k3,k4⟩
    have HC4:=Lib.hid (HK3.out t er w3 k2 k1 k3 k4)
    clear HC3 HK3 k1 k2 k3 k4
    go_wp2_with fail
    refine HC4.out.mono ?_
    rintro e w4 ⟨rfl,h5⟩
    have H5:=Lib.hid h5
    clear HC4 h5
    go_wp2
    go_ret
    exact H5.out
   ·have hlk2:(Instr.lookup 238 (.map (some bm)) (.int .u8 5) false).run Tryz.prog w2 = .ok (.func (.func 201) #[] #[]) w2:=hlk
    clear hlk
    have HC3:=Lib.hid (ssub_any t1 t2 l1 l2 w0 w2 S E day HS2.out)
    have HK3:=Lib.hid (HK.out (op2 5 t1 t2) rfl)
    generalize op2 5 t1 t2=R at HC3 HK3
    clear HK HS2
    go_wp2_with fail
    refine HC3.out.mono ?_
    rintro e w3 ⟨t,er,rfl,k1,k2,k3,k4⟩
    have HC4:=Lib.hid (HK3.out t er w3 k2 k1 k3 k4)
    clear HC3 HK3 k1 k2 k3 k4
    go_wp2_with fail
    refine HC4.out.mono ?_
    rintro e w4 ⟨rfl,h5⟩
    have H5:=Lib.hid h5
    clear HC4 h5
    go_wp2
    go_ret
    exact H5.out
   ·have hlk2:(Instr.lookup 238 (.map (some bm)) (.int .u8 6) false).run Tryz.prog w2 = .ok (.func (.func 202) #[] #[]) w2:=hlk
    clear hlk
    have HC3:=Lib.hid (smul_any t1 t2 l1 l2 w0 w2 S E day HS2.out)
    have HK3:=Lib.hid (HK.out (op2 6 t1 t2) rfl)
    generalize op2 6 t1 t2=R at HC3 HK3
    clear HK HS2
    go_wp2_with fail
    refine HC3.out.mono ?_
    rintro e w3 ⟨t,er,rfl,k1,k2,k3,k4⟩
    have HC4:=Lib.hid (HK3.out t er w3 k2 k1 k3 k4)
    clear HC3 HK3 k1 k2 k3 k4
    go_wp2_with fail
    refine HC4.out.mono ?_
    rintro e w4 ⟨rfl,h5⟩
    have H5:=Lib.hid h5
    clear HC4 h5
    go_wp2
    go_ret
    exact H5.out
   ·have hlk2:(Instr.lookup 238 (.map (some bm)) (.int .u8 7) false).run Tryz.prog w2 = .ok (.func (.func 203) #[] #[]) w2:=hlk
    clear hlk
    have HC3:=Lib.hid (sgreater_any t1 t2 l1 l2 w0 w2 S E day HS2.out)
    have HK3:=Lib.hid (HK.out (op2 7 t1 t2) rfl)
    generalize op2 7 t1 t2=R at HC3 HK3
    clear HK HS2
    go_wp2_with fail
    refine HC3.out.mono ?_
    rintro e w3 ⟨t,er,rfl,k1,k2,k3,k4⟩
    have HC4:=Lib.hid (HK3.out t er w3 k2 k1 k3 k4)
    clear HC3 HK3 k1 k2 k3 k4
    go_wp2_with fail
    refine HC4.out.mono ?_
    rintro e w4 ⟨rfl,h5⟩
    have H5:=Lib.hid h5
    clear HC4 h5
    go_wp2
    go_ret
    exact H5.out
   ·have hlk2:(Instr.lookup 238 (.map (some bm)) (.int .u8 8) false).run Tryz.prog w2 = .ok (.func (.func 204) #[] #[]) w2:=hlk
    clear hlk
    have HC3:=Lib.hid (ssmaller_any t1 t2 l1 l2 w0 w2 S E day HS2.out)
    have HK3:=Lib.hid (HK.out (op2 8 t1 t2) rfl)
    generalize op2 8 t1 t2=R at HC3 HK3
    clear HK HS2
    go_wp2_with fail
    refine HC3.out.mono ?_
    rintro e w3 ⟨t,er,rfl,k1,k2,k3,k4⟩
    have HC4:=Lib.hid (HK3.out t er w3 k2 k1 k3 k4)
    clear HC3 HK3 k1 k2 k3 k4
    go_wp2_with fail
    refine HC4.out.mono ?_
    rintro e w4 ⟨rfl,h5⟩
    have H5:=Lib.hid h5
    clear HC4 h5
    go_wp2
    go_ret
    exact H5.out
  ·have t1':(e2 != 0)=true:=by rw [bne_iff_ne];exact h2
   have HE:Hid (ValP w0 w S E day (andR (y.value E.F day) ByteArray.empty fun a => andR (z.value E.F day) ByteArray.empty fun b => op2 k a b) (.returned (.string ⟨#[]⟩)) w2) :=
    HF.out _ rfl _ _ (by decide) (fun h => by rw [HR1.out,andR,if_pos (by rw [← he2];exact h2)] at h;exact absurd (he2.trans h) h2) (by rw [HR1.out,andR,if_pos (by rw [← he2];exact h2),← he2];exact hs2) HG2.out
   clear HR1 T1 V1 V2 HF HG2 he1 he2 HO hs2
   go_wp2
   go_ret
   exact HE.out
 ·rw [if_neg (by rw [← he1];exact h1)] at V2 hs2 q3
  rw [← he1] at hs2 q3
  have t1':(e1 != 0)=true:=by rw [bne_iff_ne];exact h1
  have HR1:Hid (andR (y.value E.F day) ByteArray.empty (fun a => andR (z.value E.F day) ByteArray.empty fun b => op2 k a b)=(e1,ByteArray.empty)):=by
   show _=_
   rw [andR,if_pos (by rw [← he1];exact h1),he1]
  have HE:Hid (ValP w0 w S E day (andR (y.value E.F day) ByteArray.empty fun a => andR (z.value E.F day) ByteArray.empty fun b => op2 k a b) (.returned (.string ⟨#[]⟩)) w2) :=
   HF.out _ rfl _ _ (by decide) (fun h => by rw [HR1.out];rfl) (by rw [HR1.out];exact hs2) HG2.out
  clear HR1 V1 V2 HF HG2 he1 HO hs2
  go_wp2
  go_ret
  exact HE.out
end Go.Proofs.YthdeijdimfjceaaGreatDoor

namespace Go.Proofs.YthdeijdimfjceaaGreatDoor
open Go.Deep Go.ChangeShapes Go.WideShapes Go.ChangeAt Go.WideMaps Go.WideElems Go.RowKit Go.Maps
theorem laidMetH_data {P:Program} {l:List (String × DataW Unit)} {w:World} (h:laidMetH P l w):laidMet P (l.filter fun x => x.2.handleName?.isNone) w:=by
 unfold laidMetH at h
 generalize hfl:(l.filter fun x => x.2.handleName?.isSome)=fl at h
 cases fl with
 | nil =>
  have e:(l.filter fun x => x.2.handleName?.isNone)=l:=by
   rw [List.filter_eq_self]
   intro x hx
   have:=(List.filter_eq_nil_iff.1 hfl) x hx
   cases hn:x.2.handleName? with
   | none => rfl
   | some s => rw [hn] at this;exact absurd rfl this
  rw [e]
  exact h
 | cons a t => exact h.1
def opsD:DataW Unit:=match (Rows.laid_novation_observable_operations:DataW Unit) with | .iface _ d => d | d => d
theorem g_ops : Tryz.prog.globalNamed "novation/observable.operations" = some 3 := by kernel_rfl
theorem t_ops:(Tryz.prog.globals[3]?).map (·.type)=some 238:=by kernel_rfl
theorem zero_fn (w:World):∃ z,(zeroValue 237).run Tryz.prog w = .ok z w:=⟨.nilFunc,by kernel_rfl⟩
theorem ops_at:∀ k:Nat,4≤k→k≤8→∃ b r,opsD.funcsOut.atKey (.int .u8 (k:Int)) .nil = .held (b :: r)∧(((List.range Tryz.prog.funcs.size).filter fun f => (Tryz.prog.funcs[f]?).any (·.name.toUTF8.data.toList == b :: r))=[opFn k]):=by
 intro k h4 h8
 match k,h4,h8 with
 | 4,_,_ => exact ⟨_,_,rfl,by kernel_rfl⟩
 | 5,_,_ => exact ⟨_,_,rfl,by kernel_rfl⟩
 | 6,_,_ => exact ⟨_,_,rfl,by kernel_rfl⟩
 | 7,_,_ => exact ⟨_,_,rfl,by kernel_rfl⟩
 | 8,_,_ => exact ⟨_,_,rfl,by kernel_rfl⟩
set_option maxRecDepth 100000 in
theorem laid_look3 {W : World} (h : laidMetH Tryz.prog [("novation/observable.shapes", Rows.laid_novation_observable_shapes), ("novation/observable.operations", Rows.laid_novation_observable_operations), ("novation/contract.parts", Rows.laid_novation_contract_parts)] W) : LookS W ∧ LookP W ∧ LookO W := by
 obtain ⟨hS,hP⟩:=laid_plain (laidMetH_data h)
 refine ⟨hS,hP,?_⟩
 obtain ⟨g, t, cs, fuel, p, hg, ht, hv, hd⟩ := h.funcs (n := "novation/observable.operations") (d := opsD) (.tail _ (.head _))
 obtain rfl:=Option.some.inj (g_ops.symm.trans hg)
 obtain rfl:=Option.some.inj (t_ops.symm.trans ht)
 rcases open_map Tryz.underlying238 hd with ⟨_,hx⟩ | ⟨bm,es,clock,m,_,hcs,hb,_,F,hx⟩
 ·have:opsD.funcsOut = .nil:=(Prod.mk.inj hx).1
  cases this
 simp only [Prod.mk.injEq] at hx
 have hcell:W.cell? ⟨3,0,none⟩=some (.map (some bm)):=by
  have:=World.var?_cell hg hv 0
  rw [Array.eq_one_of_toList hcs] at this
  simpa using this
 refine ⟨bm,hcell,fun W' hB k h4 h8 => ?_⟩
 have hb':W'.heap[bm]? = some (.map es clock):=by rw [hB.block bm (lt_of_block hb)];exact hb
 obtain ⟨b,r,hat0,hone⟩:=ops_at k h4 h8
 obtain ⟨z,hz⟩:=zero_fn W'
 rcases fit_look false keyed_u8 Tryz.underlying238 hz hb' F (key_u8 (k:=k) (by omega)) with ⟨hrun,_,hat⟩ | ⟨e0,y,_,_,hrun,hRv,hat,_⟩
 ·have h1:=hat .nil
  rw [← hx.1,hat0] at h1
  cases h1
 ·have h1:=hat .nil
  rw [← hx.1,hat0] at h1
  unfold elemAt at hRv
  split at hRv
  ·rename_i hf
   obtain ⟨y1,y2⟩:=y
   dsimp only at h1
   subst h1
   have hc:e0.val.cells.toList=[e0.val]:=by
    cases hv:e0.val <;> rw [hv] at hf <;> simp [Value.formed,Tryz.underlying237] at hf <;> rfl
   rw [hc] at hRv
   have:=func_of_trod (f0:=opFn k) Tryz.underlying237 hone hRv
   rw [hrun,this]
   rfl
  ·cases hRv
end Go.Proofs.YthdeijdimfjceaaGreatDoor

namespace Go.Proofs.YthdeijdimfjceaaGreatDoor
open Go.RowKit
theorem RdE.nth {w:World} {xs:List Ex} {b off n cap:Nat} (h:RdE w xs (.slice (some ⟨b,off,none⟩) n cap)) {j:Nat} {y:Ex} (hx:xs[j]? = some y) (o:Nat) (ho:off+j * 5=o):∃ a1 n1,RdE w y.sub (.slice a1 y.sub.length n1)∧y.k < 256∧b < w.heap.size ∧
  (∀ W,Below w.heap.size w W→W.cell? ⟨b,o,none⟩=some (.int .u8 y.k)∧W.cell? ⟨b,o+1,none⟩=some (.string y.ra)∧W.cell? ⟨b,o+2,none⟩=some (.string y.nm)∧W.cell? ⟨b,o+3,none⟩=some (.int .i64 y.d)∧W.cell? ⟨b,o+4,none⟩=some (.slice a1 y.sub.length n1)):=by
 obtain ⟨b',off',s1,e,c0,c1,c2,c3,c4,h1,k1⟩:=h.at hx
 obtain ⟨rfl,rfl⟩:b=b'∧off=off':=by simpa using e
 obtain ⟨a1,n1,rfl⟩:=h1.len
 have hk:∀ {W:World} {p:Addr} {u:Value},Below w.heap.size w W→w.cell? p=some u→W.cell? p=some u:=fun {W p u} hb hu => by rw [hb.cell (p:=p) (World.block_lt_of_cell? w _ hu)];exact hu
 subst ho
 exact ⟨a1,n1,h1,k1,World.block_lt_of_cell? w _ c0,fun W hb => ⟨hk hb c0,hk hb c1,hk hb c2,hk hb c3,hk hb c4⟩⟩
theorem RdE.addr {w:World} {xs:List Ex} {ad:Option Addr} {n cap:Nat} (h:RdE w xs (.slice ad n cap)) (hx:0 < xs.length):∃ b off,ad=some ⟨b,off,none⟩:=by
 obtain ⟨b,off,_,e,_⟩:=h.at (List.getElem?_eq_getElem hx)
 exact ⟨b,off,e⟩
theorem ValP.at {w0 w w1:World} {S:Nat} {E:EvD} {day:Int} {R:Int × ByteArray} {e:Ending} {w':World} (h:ValP w0 w1 S E day R e w') (hg:w.grownBy w1 (some S)):ValP w0 w S E day R e w':=by
 obtain ⟨t,h1,h2,h3,h4,h5⟩:=h
 exact ⟨t,h1,h2,h3,h4,hg.trans h5⟩
theorem HolP.at {w0 w w1:World} {S:Nat} {E:EvD} {day:Int} {R:Int × Bool} {e:Ending} {w':World} (h:HolP w0 w1 S E day R e w') (hg:w.grownBy w1 (some S)):HolP w0 w S E day R e w':=by
 obtain ⟨t,h1,h2,h3,h4,h5⟩:=h
 exact ⟨t,h1,h2,h3,h4,hg.trans h5⟩
theorem PV.use {w0:World} {S:Nat} {E:EvD} {day:Int} {y:Ex} (h:PV w0 S E day y) {a1:Option Addr} {n1:Nat} (r:RdE w0 y.sub (.slice a1 y.sub.length n1)) (k:y.k < 256) {W:World} {er:Int} (hs:Stt w0 W S E day er) :
  Calls Tryz.prog 159 #[.pointer (some ⟨S,0,none⟩),.agg #[.int .u8 y.k,.string y.ra,.string y.nm,.int .i64 y.d,.slice a1 y.sub.length n1]] W (ValP w0 W S E day (if er=0 then y.value E.F day else (er,⟨#[]⟩))):=h W er _ hs r k
theorem PH.use {w0:World} {S:Nat} {E:EvD} {day:Int} {y:Ex} (h:PH w0 S E day y) {a1:Option Addr} {n1:Nat} (r:RdE w0 y.sub (.slice a1 y.sub.length n1)) (k:y.k < 256) {W:World} {er:Int} (hs:Stt w0 W S E day er) :
  Calls Tryz.prog 158 #[.pointer (some ⟨S,0,none⟩),.agg #[.int .u8 y.k,.string y.ra,.string y.nm,.int .i64 y.d,.slice a1 y.sub.length n1]] W (HolP w0 W S E day (if er=0 then y.hold E.F day else (er,false))):=h W er _ hs r k
set_option maxHeartbeats 4000000 in
set_option maxRecDepth 100000 in
theorem value_when (ra nm:ByteArray) (d:Int) (p y z:Ex) (ad:Option Addr) (cap:Nat) (w0 w:World) (S:Nat) (E:EvD) (day:Int) (h:Stt w0 w S E day 0)
  (hs:RdE w0 [p,y,z] (.slice ad 3 cap)) (HP:PH w0 S E day p) (HY:PV w0 S E day y) (HZ:PV w0 S E day z) :
  Calls Tryz.prog 159 #[.pointer (some ⟨S,0,none⟩),.agg #[.int .u8 9,.string ra,.string nm,.int .i64 d,.slice ad 3 cap]] w
   (ValP w0 w S E day (andR (p.hold E.F day) ByteArray.empty fun b => if b=true then y.value E.F day else z.value E.F day)):=by
 obtain ⟨b,off,rfl⟩:=hs.addr (by simp)
 obtain ⟨a0,n0,r0,k0,hbl,c0⟩:=hs.nth (j:=0) rfl off (by omega)
 obtain ⟨a1,n1,r1,k1,_,c1⟩:=hs.nth (j:=1) rfl (off+5) (by omega)
 obtain ⟨a2,n2,r2,k2,_,c2⟩:=hs.nth (j:=2) rfl (off+10) (by omega)
 have hb0:=below_a1 w (.cells #[.int .u8 9,.string ra,.string nm,.int .i64 d,.slice (some ⟨b,off,none⟩) 3 cap] 47)
 have hst:=h.below hb0
 have HP0:=Lib.hid (HP.use r0 k0 hst)
 rw [if_pos rfl] at HP0
 have HY0:Hid (∀ W,Stt w0 W S E day 0→Calls _ _ _ _ (ValP w0 W S E day (y.value E.F day))):=Lib.hid (fun W hw => by have:=HY.use r1 k1 hw;rw [if_pos rfl] at this;exact this)
 have HZ0:=Lib.hid (fun W er (hw:Stt w0 W S E day er) => HZ.use r2 k2 hw)
 obtain ⟨x0,x1,x2,x3,x4⟩:=c0 w h.b
 have HC1:=Lib.hid c1
 have HC2:=Lib.hid c2
 have hlt:=h.lt
 have hsz0:=h.b.size
 have hbw:b < w.heap.size:=by omega
 have q3:=h.cells.2.2.2
 have hne:w.heap.size ≠ S:=by omega
 have HB:=Lib.hid (Below.but hb0 (some S))
 clear HY HZ HP c0 c1 c2 h hs r0 r1 r2 hb0 hst k0 k1 k2
 generalize hR:p.hold E.F day=R at *
 clear hR
 go_enter Tryz.func159,Tryz.ntmps159
 go_wp2_with fail
 refine HP0.out.mono ?_
 rintro e w1 ⟨t,rfl,v1,v2,hs1,hg1⟩
 have p4:=hg1.cell (a:=⟨w.heap.size,4,none⟩) (v:=.slice (some ⟨b,off,none⟩) 3 cap) (by go_simp) (by simp;omega)
 have hb1:b < w1.heap.size:=by have:=hg1.size;simp at this;omega
 have HG1:=Lib.hid (HB.out.trans hg1)
 clear hg1 x0 x1 x2 x3 x4 q3 HP0 HB
 cases t with
 | true =>
  have h0:R.1=0:=by
   rcases Int.decEq R.1 0 with h | h
   ·exact absurd (v2 h) (by simp)
   ·exact h
  have HE:Hid ((andR R ByteArray.empty fun b => if b=true then y.value E.F day else z.value E.F day)=y.value E.F day):=by
   show _=_
   rw [andR,if_neg (by simp [h0]),← v1 h0,if_pos rfl]
  rw [h0] at hs1
  obtain ⟨x0,x1,x2,x3,x4⟩:=HC1.out w1 hs1.b
  have HC:=Lib.hid (HY0.out _ hs1)
  rw [← HE.out] at HC
  have HS:=Lib.hid hs1
  clear HC1 HC2 HY0 HZ0 v1 v2 h0 hs1 HE
  go_wp2_with fail
  refine HC.out.mono ?_
  rintro e w2 h2
  have H2:=Lib.hid (h2.at HG1.out)
  obtain ⟨tt,rfl,_⟩:=h2
  clear HC HG1 HS
  go_wp2
  go_ret
  exact H2.out
 | false =>
  have HE:Hid ((andR R ByteArray.empty fun b => if b=true then y.value E.F day else z.value E.F day)=if R.1=0 then z.value E.F day else (R.1,⟨#[]⟩)):=by
   show _=_
   rw [andR]
   by_cases h0:R.1=0
   ·rw [if_neg (by simp [h0]),if_pos h0,← v1 h0,if_neg (by simp)]
   ·rw [if_pos h0,if_neg h0];rfl
  obtain ⟨x0,x1,x2,x3,x4⟩:=HC2.out w1 hs1.b
  have HC:=Lib.hid (HZ0.out _ _ hs1)
  rw [← HE.out] at HC
  clear HC1 HC2 HY0 HZ0 v1 v2 hs1 HE
  go_wp2_with fail
  refine HC.out.mono ?_
  rintro e w2 h2
  have H2:=Lib.hid (h2.at HG1.out)
  obtain ⟨tt,rfl,_⟩:=h2
  clear HC HG1
  go_wp2
  go_ret
  exact H2.out
set_option maxHeartbeats 4000000 in
set_option maxRecDepth 100000 in
theorem holds_and (ra nm:ByteArray) (d:Int) (y z:Ex) (ad:Option Addr) (cap:Nat) (w0 w:World) (S:Nat) (E:EvD) (day:Int) (h:Stt w0 w S E day 0)
  (hs:RdE w0 [y,z] (.slice ad 2 cap)) (HY:PH w0 S E day y) (HZ:PH w0 S E day z) :
  Calls Tryz.prog 158 #[.pointer (some ⟨S,0,none⟩),.agg #[.int .u8 13,.string ra,.string nm,.int .i64 d,.slice ad 2 cap]] w
   (HolP w0 w S E day (andR (y.hold E.F day) false fun b => if b=true then z.hold E.F day else (0,false))):=by
 obtain ⟨b,off,rfl⟩:=hs.addr (by simp)
 obtain ⟨a1,n1,r1,k1,hbl,c1⟩:=hs.nth (j:=0) rfl off (by omega)
 obtain ⟨a2,n2,r2,k2,_,c2⟩:=hs.nth (j:=1) rfl (off+5) (by omega)
 have hb0:=below_a1 w (.cells #[.int .u8 13,.string ra,.string nm,.int .i64 d,.slice (some ⟨b,off,none⟩) 2 cap] 47)
 have hst:=h.below hb0
 have HY0:=Lib.hid (HY.use r1 k1 hst)
 rw [if_pos rfl] at HY0
 have HZ0:=Lib.hid (fun W er (hw:Stt w0 W S E day er) => HZ.use r2 k2 hw)
 obtain ⟨x0,x1,x2,x3,x4⟩:=c1 w h.b
 have HC2:=Lib.hid c2
 have hlt:=h.lt
 have hsz0:=h.b.size
 have hbw:b < w.heap.size:=by omega
 have q3:=h.cells.2.2.2
 have hne:w.heap.size ≠ S:=by omega
 have HB:=Lib.hid (Below.but hb0 (some S))
 clear HY HZ c1 c2 h hs r1 r2 hb0 hst k1 k2
 generalize hR:y.hold E.F day=R at *
 clear hR
 go_enter Tryz.func158,Tryz.ntmps158
 go_wp2_with fail
 refine HY0.out.mono ?_
 rintro e w1 ⟨t,rfl,v1,v2,hs1,hg1⟩
 have p4:=hg1.cell (a:=⟨w.heap.size,4,none⟩) (v:=.slice (some ⟨b,off,none⟩) 2 cap) (by go_simp) (by simp;omega)
 have hb1:b < w1.heap.size:=by have:=hg1.size;simp at this;omega
 have HG1:=Lib.hid (HB.out.trans hg1)
 clear hg1 x0 x1 x2 x3 x4 q3 HY0 HB
 cases t with
 | true =>
  have HE:Hid ((andR R false fun b => if b=true then z.hold E.F day else (0,false))=if R.1=0 then z.hold E.F day else (R.1,false)):=by
   show _=_
   rw [andR]
   by_cases h0:R.1=0
   ·rw [if_neg (by simp [h0]),if_pos h0,← v1 h0];rfl
   ·exact absurd (v2 h0) (by simp)
  obtain ⟨x0,x1,x2,x3,x4⟩:=HC2.out w1 hs1.b
  have HC:=Lib.hid (HZ0.out _ _ hs1)
  rw [← HE.out] at HC
  clear HC2 HZ0 v1 v2 hs1 HE
  go_wp2_with fail
  refine HC.out.mono ?_
  rintro e w2 h2
  have H2:=Lib.hid (h2.at HG1.out)
  obtain ⟨tt,rfl,_⟩:=h2
  clear HC HG1
  go_wp2
  go_ret
  exact H2.out
 | false =>
  have HF:Hid (HolP w0 w S E day (andR R false fun b => if b=true then z.hold E.F day else (0,false)) (.returned (.bool false)) w1):=by
   show HolP _ _ _ _ _ _ _ _
   rw [andR]
   by_cases h0:R.1=0
   ·rw [if_neg (by simp [h0]),← v1 h0]
    exact ⟨_,rfl,fun _ => rfl,fun h => absurd rfl h,by rw [h0] at hs1;exact hs1,HG1.out⟩
   ·rw [if_pos h0];exact ⟨_,rfl,fun h => absurd h h0,fun _ => rfl,hs1,HG1.out⟩
  clear HC2 HZ0 v1 v2 hs1 HG1
  go_wp2
  go_ret
  exact HF.out
set_option maxHeartbeats 4000000 in
set_option maxRecDepth 100000 in
theorem holds_or (ra nm:ByteArray) (d:Int) (y z:Ex) (ad:Option Addr) (cap:Nat) (w0 w:World) (S:Nat) (E:EvD) (day:Int) (h:Stt w0 w S E day 0)
  (hs:RdE w0 [y,z] (.slice ad 2 cap)) (HY:PH w0 S E day y) (HZ:PH w0 S E day z) :
  Calls Tryz.prog 158 #[.pointer (some ⟨S,0,none⟩),.agg #[.int .u8 14,.string ra,.string nm,.int .i64 d,.slice ad 2 cap]] w
   (HolP w0 w S E day (andR (y.hold E.F day) false fun b => if b=true then (0,true) else z.hold E.F day)):=by
 obtain ⟨b,off,rfl⟩:=hs.addr (by simp)
 obtain ⟨a1,n1,r1,k1,hbl,c1⟩:=hs.nth (j:=0) rfl off (by omega)
 obtain ⟨a2,n2,r2,k2,_,c2⟩:=hs.nth (j:=1) rfl (off+5) (by omega)
 have hb0:=below_a1 w (.cells #[.int .u8 14,.string ra,.string nm,.int .i64 d,.slice (some ⟨b,off,none⟩) 2 cap] 47)
 have hst:=h.below hb0
 have HY0:=Lib.hid (HY.use r1 k1 hst)
 rw [if_pos rfl] at HY0
 have HZ0:=Lib.hid (fun W er (hw:Stt w0 W S E day er) => HZ.use r2 k2 hw)
 obtain ⟨x0,x1,x2,x3,x4⟩:=c1 w h.b
 have HC2:=Lib.hid c2
 have hlt:=h.lt
 have hsz0:=h.b.size
 have hbw:b < w.heap.size:=by omega
 have q3:=h.cells.2.2.2
 have hne:w.heap.size ≠ S:=by omega
 have HB:=Lib.hid (Below.but hb0 (some S))
 clear HY HZ c1 c2 h hs r1 r2 hb0 hst k1 k2
 generalize hR:y.hold E.F day=R at *
 clear hR
 go_enter Tryz.func158,Tryz.ntmps158
 go_wp2_with fail
 refine HY0.out.mono ?_
 rintro e w1 ⟨t,rfl,v1,v2,hs1,hg1⟩
 have p4:=hg1.cell (a:=⟨w.heap.size,4,none⟩) (v:=.slice (some ⟨b,off,none⟩) 2 cap) (by go_simp) (by simp;omega)
 have hb1:b < w1.heap.size:=by have:=hg1.size;simp at this;omega
 have HG1:=Lib.hid (HB.out.trans hg1)
 clear hg1 x0 x1 x2 x3 x4 q3 HY0 HB
 cases t with
 | true =>
  have HF:Hid (HolP w0 w S E day (andR R false fun b => if b=true then (0,true) else z.hold E.F day) (.returned (.bool true)) w1):=by
   show HolP _ _ _ _ _ _ _ _
   rw [andR]
   by_cases h0:R.1=0
   ·rw [if_neg (by simp [h0]),← v1 h0]
    exact ⟨_,rfl,fun _ => rfl,fun h => absurd rfl h,by rw [h0] at hs1;exact hs1,HG1.out⟩
   ·exact absurd (v2 h0) (by simp)
  clear HC2 HZ0 v1 v2 hs1 HG1
  go_wp2
  go_ret
  exact HF.out
 | false =>
  have HE:Hid ((andR R false fun b => if b=true then (0,true) else z.hold E.F day)=if R.1=0 then z.hold E.F day else (R.1,false)):=by
   show _=_
   rw [andR]
   by_cases h0:R.1=0
   ·rw [if_neg (by simp [h0]),if_pos h0,← v1 h0];rfl
   ·rw [if_pos h0,if_neg h0]
  obtain ⟨x0,x1,x2,x3,x4⟩:=HC2.out w1 hs1.b
  have HC:=Lib.hid (HZ0.out _ _ hs1)
  rw [← HE.out] at HC
  clear HC2 HZ0 v1 v2 hs1 HE
  go_wp2_with fail
  refine HC.out.mono ?_
  rintro e w2 h2
  have H2:=Lib.hid (h2.at HG1.out)
  obtain ⟨tt,rfl,_⟩:=h2
  clear HC HG1
  go_wp2
  go_ret
  exact H2.out
set_option maxHeartbeats 4000000 in
set_option maxRecDepth 100000 in
theorem holds_not (ra nm:ByteArray) (d:Int) (y:Ex) (ad:Option Addr) (cap:Nat) (w0 w:World) (S:Nat) (E:EvD) (day:Int) (h:Stt w0 w S E day 0)
  (hs:RdE w0 [y] (.slice ad 1 cap)) (HY:PH w0 S E day y) :
  Calls Tryz.prog 158 #[.pointer (some ⟨S,0,none⟩),.agg #[.int .u8 15,.string ra,.string nm,.int .i64 d,.slice ad 1 cap]] w
   (HolP w0 w S E day (andR (y.hold E.F day) false fun b => (0,!b))):=by
 obtain ⟨b,off,rfl⟩:=hs.addr (by simp)
 obtain ⟨a1,n1,r1,k1,hbl,c1⟩:=hs.nth (j:=0) rfl off (by omega)
 have hb0:=below_a1 w (.cells #[.int .u8 15,.string ra,.string nm,.int .i64 d,.slice (some ⟨b,off,none⟩) 1 cap] 47)
 have hst:=h.below hb0
 have HY0:=Lib.hid (HY.use r1 k1 hst)
 rw [if_pos rfl] at HY0
 obtain ⟨x0,x1,x2,x3,x4⟩:=c1 w h.b
 have hlt:=h.lt
 have hsz0:=h.b.size
 have hbw:b < w.heap.size:=by omega
 have q3:=h.cells.2.2.2
 have hne:w.heap.size ≠ S:=by omega
 have HB:=Lib.hid (Below.but hb0 (some S))
 clear HY c1 h hs r1 hb0 hst k1
 generalize hR:y.hold E.F day=R at *
 clear hR
 go_enter Tryz.func158,Tryz.ntmps158
 go_wp2_with fail
 refine HY0.out.mono ?_
 rintro e w1 ⟨t,rfl,v1,v2,hs1,hg1⟩
 have q3':=hs1.cells.2.2.2
 have HG1:=Lib.hid (HB.out.trans hg1)
 clear hg1 x0 x1 x2 x3 x4 q3 HY0 HB
 obtain ⟨e1,he1⟩:∃ e,e=R.1:=⟨_,rfl⟩
 rw [← he1] at hs1 q3'
 by_cases h0:e1=0
 ·subst h0
  have HF:Hid (HolP w0 w S E day (andR R false fun b => (0,!b)) (.returned (.bool (!t))) w1):=by
   show HolP _ _ _ _ _ _ _ _
   rw [andR,if_neg (by simp [← he1]),← v1 he1.symm]
   exact ⟨_,rfl,fun _ => rfl,fun h => absurd rfl h,hs1,HG1.out⟩
  clear v1 v2 hs1 HG1 he1
  cases t
  all_goals
   go_wp2
   go_ret
   exact HF.out
 ·obtain rfl:t=false:=v2 (by rw [← he1];exact h0)
  have t1:(e1 == 0)=false:=by rw [beq_eq_false_iff_ne];exact h0
  have HF:Hid (HolP w0 w S E day (andR R false fun b => (0,!b)) (.returned (.bool false)) w1):=by
   show HolP _ _ _ _ _ _ _ _
   rw [andR,if_pos (by rw [← he1];exact h0),← he1]
   exact ⟨_,rfl,fun _ => rfl,fun _ => rfl,hs1,HG1.out⟩
  clear v1 v2 hs1 HG1 he1 h0
  go_wp2
  go_ret
  exact HF.out
theorem cmpV_err {a b:ByteArray} (h:cmpE a b ≠ 0):cmpV a b=0:=by rw [cmpV,if_pos h]
def cmpK (k:Nat) (a b:ByteArray):Int × Bool:=(cmpE a b,if k=11 then decide (cmpV a b < 0) else decide (cmpV a b=0))
set_option maxHeartbeats 4000000 in
set_option maxRecDepth 100000 in
theorem holds_cmp (k:Nat) (hk:k=11∨k=12) (ra nm:ByteArray) (d:Int) (y z:Ex) (ad:Option Addr) (cap:Nat) (w0 w:World) (S:Nat) (E:EvD) (day:Int) (h:Stt w0 w S E day 0)
  (hs:RdE w0 [y,z] (.slice ad 2 cap)) (HY:PV w0 S E day y) (HZ:PV w0 S E day z) :
  Calls Tryz.prog 158 #[.pointer (some ⟨S,0,none⟩),.agg #[.int .u8 (k:Int),.string ra,.string nm,.int .i64 d,.slice ad 2 cap]] w
   (HolP w0 w S E day (andR (y.value E.F day) false fun a => andR (z.value E.F day) false fun b => cmpK k a b)):=by
 obtain ⟨b,off,rfl⟩:=hs.addr (by simp)
 obtain ⟨a1,n1,r1,k1,hbl,c1⟩:=hs.nth (j:=0) rfl off (by omega)
 obtain ⟨a2,n2,r2,k2,_,c2⟩:=hs.nth (j:=1) rfl (off+5) (by omega)
 have hb0:=below_a1 w (.cells #[.int .u8 (k:Int),.string ra,.string nm,.int .i64 d,.slice (some ⟨b,off,none⟩) 2 cap] 47)
 have hst:=h.below hb0
 have HY0:=Lib.hid (HY.use r1 k1 hst)
 rw [if_pos rfl] at HY0
 have HZ0:=Lib.hid (fun W er (hw:Stt w0 W S E day er) => HZ.use r2 k2 hw)
 obtain ⟨x0,x1,x2,x3,x4⟩:=c1 w h.b
 have HC2:=Lib.hid c2
 have hlt:=h.lt
 have hsz0:=h.b.size
 have hbw:b < w.heap.size:=by omega
 have q3:=h.cells.2.2.2
 have hne:w.heap.size ≠ S:=by omega
 have tk1:((k:Int) == 13)=false:=by rw [beq_eq_false_iff_ne];omega
 have tk2:((k:Int) == 14)=false:=by rw [beq_eq_false_iff_ne];omega
 have tk3:((k:Int) == 15)=false:=by rw [beq_eq_false_iff_ne];omega
 have HB:=Lib.hid (Below.but hb0 (some S))
 clear HY HZ c1 c2 h hs r1 r2 hb0 hst k1 k2
 generalize hR:y.value E.F day=R at *
 generalize hR2:z.value E.F day=R2 at *
 clear hR hR2
 go_enter Tryz.func158,Tryz.ntmps158
 go_wp2_with fail
 refine HY0.out.mono ?_
 rintro e w1 ⟨t1,rfl,l1,v1,hs1,hg1⟩
 have p0:=hg1.cell (a:=⟨w.heap.size,0,none⟩) (v:=.int .u8 (k:Int)) (by go_simp) (by simp;omega)
 have p4:=hg1.cell (a:=⟨w.heap.size,4,none⟩) (v:=.slice (some ⟨b,off,none⟩) 2 cap) (by go_simp) (by simp;omega)
 have hb1:b < w1.heap.size:=by have:=hg1.size;simp at this;omega
 obtain ⟨y0,y1,y2,y3,y4⟩:=HC2.out w1 hs1.b
 have HC:=Lib.hid (HZ0.out _ _ hs1)
 have HG1:=Lib.hid (HB.out.trans hg1)
 have V1:=Lib.hid v1
 clear hg1 x0 x1 x2 x3 x4 q3 HY0 HB HZ0 HC2 hs1 v1
 go_wp2_with fail
 refine HC.out.mono ?_
 rintro e w2 ⟨t2,rfl,l2,v2,hs2,hg2⟩
 have p0':=hg2.cell (a:=⟨w.heap.size,0,none⟩) p0 (by simp;omega)
 have HG2:=Lib.hid (HG1.out.trans hg2)
 have V2:=Lib.hid v2
 clear p0 p4 y0 y1 y2 y3 y4 HC HG1 v2 hg2
 obtain ⟨RR,hRR⟩:∃ RR,RR=(if R.1=0 then R2 else (R.1,(⟨#[]⟩:ByteArray))):=⟨_,rfl⟩
 rw [← hRR] at V2 hs2
 by_cases h0:RR.1=0
 ·rw [h0] at hs2
  have e1:R.1=0:=by
   rcases Int.decEq R.1 0 with h | h
   ·rw [hRR,if_neg h] at h0;exact h0
   ·exact h
  rw [if_pos e1] at hRR
  have HE:Hid ((andR R false fun a => andR R2 false fun b => cmpK k a b)=cmpK k t1 t2):=by
   show _=_
   rw [andR,if_neg (by simp [e1]),andR,if_neg (by rw [← hRR];simp [h0]),← V1.out e1,← hRR,← V2.out h0]
  have HCm:=Lib.hid (scmp_any t1 t2 l1 l2 w0 w2 S E day hs2)
  have hb2:w.heap.size < w2.heap.size:=World.block_lt_of_cell? w2 _ p0'
  clear V1 V2 hs2 h0 e1 hRR
  have HX:Hid (cmpE t1 t2 ≠ 0→cmpV t1 t2=0):=cmpV_err
  have HF:Hid (∀ W,SttTo w0 w2 S E day (cmpE t1 t2) W→∀ t,(cmpE t1 t2=0→t=(cmpK k t1 t2).2)→(cmpE t1 t2 ≠ 0→t=false)→HolP w0 w S E day (andR R false fun a => andR R2 false fun b => cmpK k a b) (.returned (.bool t)) W) :=
   Lib.hid fun W h1 t h2 h3 => by rw [HE.out];exact ⟨t,rfl,h2,h3,h1.1,HG2.out.trans h1.2⟩
  have HK:Hid ((cmpK k t1 t2).2=if k=11 then decide (cmpV t1 t2 < 0) else decide (cmpV t1 t2=0)):=rfl
  generalize cmpK k t1 t2=CK at HF HK
  clear HE HG2
  generalize cmpE t1 t2=Z at *
  generalize cmpV t1 t2=V at *
  go_wp2_with fail
  refine HCm.out.mono ?_
  rintro e w3 ⟨rfl,h3⟩
  have p0:=h3.2.cell (a:=⟨w.heap.size,0,none⟩) p0' (by simp;omega)
  have q3:=h3.1.cells.2.2.2
  have HF3:=Lib.hid (HF.out w3 h3)
  clear h3 HCm HF p0'
  rcases hk with rfl | rfl
  ·have HV:Hid (HolP w0 w S E day (andR R false fun a => andR R2 false fun b => cmpK 11 a b) (.returned (.bool (decide (V < 0)))) w3) :=
    HF3.out _ (fun _ => by rw [HK.out,if_pos rfl]) (fun h => by rw [HX.out h];decide)
   clear HF3 HK HX
   go_wp2
   go_ret
   exact HV.out
  ·by_cases hz:Z=0
   ·have tz:(Z == 0)=true:=by rw [hz];rfl
    have HV:Hid (HolP w0 w S E day (andR R false fun a => andR R2 false fun b => cmpK 12 a b) (.returned (.bool (V == 0))) w3) :=
     HF3.out _ (fun _ => by rw [HK.out,if_neg (by decide),Bool.eq_iff_iff];simp) (fun h => absurd hz h)
    clear HF3 HK HX hz
    by_cases hv:V=0
    ·have tv:(V == 0)=true:=by rw [hv];rfl
     rw [tv] at HV
     clear hv
     go_wp2
     go_ret
     exact HV.out
    ·have tv:(V == 0)=false:=by rw [beq_eq_false_iff_ne];exact hv
     rw [tv] at HV
     clear hv
     go_wp2
     go_ret
     exact HV.out
   ·have tz:(Z == 0)=false:=by rw [beq_eq_false_iff_ne];exact hz
    obtain rfl:V=0:=HX.out hz
    have HV:Hid (HolP w0 w S E day (andR R false fun a => andR R2 false fun b => cmpK 12 a b) (.returned (.bool false)) w3) :=
     HF3.out _ (fun h => absurd h hz) (fun _ => rfl)
    clear HF3 HK HX hz
    go_wp2
    go_ret
    exact HV.out
 ·have HE:Hid ((andR R false fun a => andR R2 false fun b => cmpK k a b)=(RR.1,false)):=by
   show _=_
   by_cases e1:R.1=0
   ·rw [if_pos e1] at hRR
    rw [andR,if_neg (by simp [e1]),andR,if_pos (by rw [← hRR];exact h0),← hRR]
   ·rw [if_neg e1] at hRR
    rw [andR,if_pos e1,hRR]
  have HCm:=Lib.hid (scmp_err t1 t2 w0 w2 S E day _ hs2 h0)
  have hb2:w.heap.size < w2.heap.size:=World.block_lt_of_cell? w2 _ p0'
  have tz:(RR.1 == 0)=false:=by rw [beq_eq_false_iff_ne];exact h0
  have HF:Hid (∀ W,SttTo w0 w2 S E day RR.1 W→HolP w0 w S E day (andR R false fun a => andR R2 false fun b => cmpK k a b) (.returned (.bool false)) W) :=
   Lib.hid fun W h1 => by rw [HE.out];exact ⟨_,rfl,fun _ => rfl,fun _ => rfl,h1.1,HG2.out.trans h1.2⟩
  clear V1 V2 hs2 h0 hRR HE HG2
  go_wp2_with fail
  refine HCm.out.mono ?_
  rintro e w3 ⟨rfl,h3⟩
  have p0:=h3.2.cell (a:=⟨w.heap.size,0,none⟩) p0' (by simp;omega)
  have q3:=h3.1.cells.2.2.2
  have HF3:=Lib.hid (HF.out w3 h3)
  clear h3 HCm HF p0'
  rcases hk with rfl | rfl
  all_goals
   go_wp2
   go_ret
   exact HF3.out
end Go.Proofs.YthdeijdimfjceaaGreatDoor

namespace Go.Proofs.YthdeijdimfjceaaGreatDoor
open Go.RowKit
theorem rat_size {s:ByteArray} (h:ratErr s=0):s.size≤2010∧0 < s.size:=by
 have h0:∀ {l:List UInt8},intErr l=0→l.length≤1001∧0 < l.length:=fun {l} hl => by
  obtain ⟨h1,h2⟩:=intErr_zero hl
  have:=body_len l
  refine ⟨by omega,?_⟩
  cases l with
  | nil => exact absurd h1 (by decide)
  | cons _ _ => simp
 unfold ratErr at h
 split at h
 ·have:=h0 h
  rw [bl_length] at this
  omega
 ·unfold fracErr at h
  repeat' split at h
  all_goals first
   | (cases h;done)
   | skip
  next h1 h2 h3 h4 h5 h6 h7 h8 =>
   have a:=h0 (show intErr ((bl s).take (slashI s).toNat)=0 from Decidable.not_not.1 h6)
   have b:=h0 (show intErr ((bl s).drop ((slashI s).toNat+1))=0 from Decidable.not_not.1 h7)
   rw [List.length_take] at a
   rw [List.length_drop] at b
   rw [bl_length] at a b
   omega
theorem sorts_two {l:List Ex} {a b:Nat} (h:Ex.sorts l=[a,b]):∃ y z,l=[y,z]∧y.sort=a∧z.sort=b:=by
 rw [Ex.sorts_eq] at h
 match l,h with
 | [y,z],h => simp at h;exact ⟨y,z,rfl,h.1,h.2⟩
theorem sorts_three {l:List Ex} {a b c:Nat} (h:Ex.sorts l=[a,b,c]):∃ x y z,l=[x,y,z]∧x.sort=a∧y.sort=b∧z.sort=c:=by
 rw [Ex.sorts_eq] at h
 match l,h with
 | [x,y,z],h => simp at h;exact ⟨x,y,z,rfl,h.1,h.2.1,h.2.2⟩
theorem sorts_one {l:List Ex} {a:Nat} (h:Ex.sorts l=[a]):∃ y,l=[y]∧y.sort=a:=by
 rw [Ex.sorts_eq] at h
 match l,h with
 | [y],h => simp at h;exact ⟨y,rfl,h⟩
theorem partSort_is {ra nm:ByteArray} {d:Int} {l ps:List Nat} {own s:Nat} (h:partSort ra nm d l ps own=s) (hs:s ≠ 0):l=ps∧own=s:=by
 unfold partSort at h
 split at h
 ·next hh => exact ⟨hh.2.2.2,h⟩
 ·exact absurd h.symm hs
theorem leafSort_is {k:Nat} {ra nm:ByteArray} {d:Int} {n s:Nat} (h:leafSort k ra nm d n=s) (hs:s ≠ 0):leafOk k ra nm d n∧s=1:=by
 by_cases hl:leafOk k ra nm d n
 ·rw [leafSort_yes hl] at h;exact ⟨hl,h.symm⟩
 ·rw [leafSort_no hl] at h;exact absurd h.symm hs
theorem num_cases {k:Nat} {ra nm:ByteArray} {d:Int} {l:List Ex} (h:(Ex.mk k ra nm d l).sort=1) :
  (k=1∧l=[]∧ratErr ra=0)∨(k=2∧l=[])∨(k=3∧l=[])∨(k=9∧∃ p y z,l=[p,y,z]∧p.sort=2∧y.sort=1∧z.sort=1)∨(4≤k∧k≤8∧∃ y z,l=[y,z]∧y.sort=1∧z.sort=1):=by
 rw [Ex.sort,sortOf] at h
 unfold shapeOf at h
 by_cases h4:4≤k∧k≤8
 ·rw [if_pos h4] at h
  obtain ⟨y,z,rfl,h1,h2⟩:=sorts_two (partSort_is h (by decide)).1
  exact .inr (.inr (.inr (.inr ⟨h4.1,h4.2,y,z,rfl,h1,h2⟩)))
 rw [if_neg h4] at h
 by_cases h9:k=9
 ·rw [if_pos h9] at h
  obtain ⟨p,y,z,rfl,h1,h2,h3⟩:=sorts_three (partSort_is h (by decide)).1
  exact .inr (.inr (.inr (.inl ⟨h9,p,y,z,rfl,h1,h2,h3⟩)))
 rw [if_neg h9] at h
 by_cases h11:k=11∨k=12
 ·rw [if_pos h11] at h;exact absurd (partSort_is h (by decide)).2 (by decide)
 rw [if_neg h11] at h
 by_cases h13:k=13∨k=14
 ·rw [if_pos h13] at h;exact absurd (partSort_is h (by decide)).2 (by decide)
 rw [if_neg h13] at h
 by_cases h15:k=15
 ·rw [if_pos h15] at h;exact absurd (partSort_is h (by decide)).2 (by decide)
 rw [if_neg h15] at h
 obtain ⟨hn,hl⟩:=(leafSort_is h (by decide)).1
 have hl0:l=[]:=by rw [Ex.sorts_length] at hn;exact List.length_eq_zero_iff.1 hn
 rcases hl with ⟨h1,h2,_⟩ | ⟨h1,_⟩ | ⟨h1,_⟩
 ·exact .inl ⟨h1,hl0,h2⟩
 ·exact .inr (.inl ⟨h1,hl0⟩)
 ·exact .inr (.inr (.inl ⟨h1,hl0⟩))
theorem truth_cases {k:Nat} {ra nm:ByteArray} {d:Int} {l:List Ex} (h:(Ex.mk k ra nm d l).sort=2) :
  ((k=11∨k=12)∧∃ y z,l=[y,z]∧y.sort=1∧z.sort=1)∨((k=13∨k=14)∧∃ y z,l=[y,z]∧y.sort=2∧z.sort=2)∨(k=15∧∃ y,l=[y]∧y.sort=2):=by
 rw [Ex.sort,sortOf] at h
 unfold shapeOf at h
 by_cases h4:4≤k∧k≤8
 ·rw [if_pos h4] at h;exact absurd (partSort_is h (by decide)).2 (by decide)
 rw [if_neg h4] at h
 by_cases h9:k=9
 ·rw [if_pos h9] at h;exact absurd (partSort_is h (by decide)).2 (by decide)
 rw [if_neg h9] at h
 by_cases h11:k=11∨k=12
 ·rw [if_pos h11] at h
  obtain ⟨y,z,rfl,h1,h2⟩:=sorts_two (partSort_is h (by decide)).1
  exact .inl ⟨h11,y,z,rfl,h1,h2⟩
 rw [if_neg h11] at h
 by_cases h13:k=13∨k=14
 ·rw [if_pos h13] at h
  obtain ⟨y,z,rfl,h1,h2⟩:=sorts_two (partSort_is h (by decide)).1
  exact .inr (.inl ⟨h13,y,z,rfl,h1,h2⟩)
 rw [if_neg h13] at h
 by_cases h15:k=15
 ·rw [if_pos h15] at h
  obtain ⟨y,rfl,h1⟩:=sorts_one (partSort_is h (by decide)).1
  exact .inr (.inr ⟨h15,y,rfl,h1⟩)
 rw [if_neg h15] at h
 exact absurd (leafSort_is h (by decide)).2 (by decide)
theorem eval_any (w0:World) (S:Nat) (E:EvD) (day:Int) (hE:E.Rd w0) (hF:∀ f ∈ E.F,f.vl.size≤1000000) (hO:LookO w0) :
  ∀ (N:Nat) (x:Ex),x.bulk≤N→(x.sort=1→PV w0 S E day x)∧(x.sort=2→PH w0 S E day x)
 | 0,x,hN => by have:=x.sub_lt;omega
 | N+1,.mk k ra nm d l,hN => by
  have IH:∀ y ∈ l,(y.sort=1→PV w0 S E day y)∧(y.sort=2→PH w0 S E day y):=fun y hy => eval_any w0 S E day hE hF hO N y (by have:=Ex.mem_lt (x:=.mk k ra nm d l) hy;omega)
  refine ⟨fun hs W er s hw hr hk => ?_,fun hs W er s hw hr hk => ?_⟩
  ·by_cases he:er=0
   ·subst he
    rw [if_pos rfl]
    obtain ⟨ad,cap,rfl⟩:=hr.len
    rcases num_cases hs with ⟨rfl,rfl,h3⟩ | ⟨rfl,rfl⟩ | ⟨rfl,rfl⟩ | ⟨rfl,p,y,z,rfl,h1,h2,h3⟩ | ⟨h4,h8,y,z,rfl,h1,h2⟩
    ·have e:(Ex.mk 1 ra nm d []).value E.F day=(0,ra):=by simp [Ex.value]
     rw [e]
     exact value_con ra nm d _ w0 W S E day hw (Nat.le_trans (rat_size h3).1 (by decide))
    ·have e:(Ex.mk 2 ra nm d []).value E.F day=fixR E.F nm d:=by simp [Ex.value]
     rw [e]
     exact value_fix ra nm d _ w0 W S E day hw hE hF
    ·have e:(Ex.mk 3 ra nm d []).value E.F day=fixR E.F nm day:=by simp [Ex.value]
     rw [e]
     exact value_now ra nm d _ w0 W S E day hw hE hF
    ·have e:(Ex.mk 9 ra nm d [p,y,z]).value E.F day=andR (p.hold E.F day) ByteArray.empty fun b => if b=true then y.value E.F day else z.value E.F day:=by
      rw [Ex.value,if_neg (by decide),if_neg (by decide),if_neg (by decide)]
     rw [e]
     exact value_when ra nm d p y z ad cap w0 W S E day hw hr ((IH p (by simp)).2 h1) ((IH y (by simp)).1 h2) ((IH z (by simp)).1 h3)
    ·have e:(Ex.mk k ra nm d [y,z]).value E.F day=andR (y.value E.F day) ByteArray.empty fun a => andR (z.value E.F day) ByteArray.empty fun b => op2 k a b:=by
      rw [Ex.value,if_neg (by omega),if_neg (by omega),if_neg (by omega)]
     rw [e]
     exact value_two k h4 h8 ra nm d y z ad cap w0 W S E day hw hO hr ((IH y (by simp)).1 h1) ((IH z (by simp)).1 h2)
   ·rw [if_neg he]
    exact value_err k ra nm d s w0 W S E day er hw he
  ·by_cases he:er=0
   ·subst he
    rw [if_pos rfl]
    obtain ⟨ad,cap,rfl⟩:=hr.len
    rcases truth_cases hs with ⟨hk',y,z,rfl,h1,h2⟩ | ⟨hk',y,z,rfl,h1,h2⟩ | ⟨rfl,y,rfl,h1⟩
    ·have e:(Ex.mk k ra nm d [y,z]).hold E.F day=andR (y.value E.F day) false fun a => andR (z.value E.F day) false fun b => cmpK k a b:=by
      rw [Ex.hold,if_neg (by omega),if_neg (by omega)];rfl
     rw [e]
     exact holds_cmp k hk' ra nm d y z ad cap w0 W S E day hw hr ((IH y (by simp)).1 h1) ((IH z (by simp)).1 h2)
    ·rcases hk' with rfl | rfl
     ·have e:(Ex.mk 13 ra nm d [y,z]).hold E.F day=andR (y.hold E.F day) false fun b => if b=true then z.hold E.F day else (0,false):=by rw [Ex.hold,if_pos rfl]
      rw [e]
      exact holds_and ra nm d y z ad cap w0 W S E day hw hr ((IH y (by simp)).2 h1) ((IH z (by simp)).2 h2)
     ·have e:(Ex.mk 14 ra nm d [y,z]).hold E.F day=andR (y.hold E.F day) false fun b => if b=true then (0,true) else z.hold E.F day:=by rw [Ex.hold,if_neg (by decide),if_pos rfl]
      rw [e]
      exact holds_or ra nm d y z ad cap w0 W S E day hw hr ((IH y (by simp)).2 h1) ((IH z (by simp)).2 h2)
    ·have e:(Ex.mk 15 ra nm d [y]).hold E.F day=andR (y.hold E.F day) false fun b => (0,!b):=by rw [Ex.hold]
     rw [e]
     exact holds_not ra nm d y ad cap w0 W S E day hw hr ((IH y (by simp)).2 h1)
   ·rw [if_neg he]
    exact holds_err k ra nm d s w0 W S E day er hw he
end Go.Proofs.YthdeijdimfjceaaGreatDoor
