/- A part. -/
import Derived.Maps.OwnSet
import Derived.DeepKeys4
import Derived.Test.YtcnpaciljmekcaaGreatDoorA22
namespace Go.Proofs.YtcnpaciljmekcaaGreatDoor
open Go.RowKit
structure Nd where
 nm:ByteArray
 d:Int
def Nd.cells (f:Nd):List Value:=[.string f.nm,.int .i64 f.d]
def Nd.key (f:Nd):Value:=.agg #[.string f.nm,.int .i64 f.d]
def Nd.small (f:Nd):Prop:=f.nm.size≤1100000∧(Lit.int .i64 f.d).wf=true
end Go.Proofs.YtcnpaciljmekcaaGreatDoor

namespace Go.Proofs.YtcnpaciljmekcaaGreatDoor
open Go.RowKit
theorem eqv_fl (f:Fl) (w:World):(Op.equalIn 10000 46 (.agg #[.int .i64 f.d,.string f.fr,.string f.rc,.string f.cy,.string f.am]) (.agg #[.int .i64 f.d,.string f.fr,.string f.rc,.string f.cy,.string f.am])).run Tryz.prog w = .ok true w:=by
 have hS:Tryz.prog.underlying 46=some (.struct (Tryz.prog.fieldsOf 46)):=by kernel_rfl
 have hp:Tryz.prog.stoodInHeld 46=false:=by kernel_rfl
 rw [show (10000:Nat)=9999+1 from rfl,run_equalIn_agg w 9999 _ _ _ hS hp]
 simp only [Program.fieldsOf,Tryz.underlying46]
 go_simp
set_option maxHeartbeats 1000000 in
set_option maxRecDepth 100000 in
theorem sameFl_any (l:List Fl) (a b:Option Addr) (c d:Nat) (w:World) (hn:l.length≤1100000) (ha:Rd Fl.cells 5 w a l) (hb:Rd Fl.cells 5 w b l) :
  Calls Tryz.prog 25 #[.slice a l.length c,.slice b l.length d] w fun e w' => e = .returned (.bool true)∧Below w.heap.size w w':=by
 have HA:=Lib.hid ha
 have HB:=Lib.hid hb
 clear ha hb
 have t0:((l.length:Int) != (l.length:Int))=false:=by simp
 go_enter Tryz.func25,Tryz.ntmps25
 go_wp2_with fail
 go_loopw [5] (fun i wr => ∃ (k nq:Nat),k≤l.length∧i = .int .i64 k∧wr=w.drewN nq) (fun i _ => l.length - (intOf i).toNat)
 case atStart => exact ⟨0,0,by omega,rfl,rfl⟩
 case round =>
  obtain ⟨k,mq,hk,rfl,rfl⟩:=hrel
  by_cases hlt:k < l.length
  ·obtain ⟨f,hf⟩:∃ f,l[k]? = some f:=⟨_,List.getElem?_eq_getElem hlt⟩
   obtain ⟨b1,off,rfl,c0,c1,c2,c3,c4⟩:=HA.out.fl hf
   obtain ⟨b2,off2,rfl,d0,d1,d2,d3,d4⟩:=HB.out.fl hf
   have hq:∀ W,(Op.equalIn 10000 46 (.agg #[.int .i64 f.d,.string f.fr,.string f.rc,.string f.cy,.string f.am]) (.agg #[.int .i64 f.d,.string f.fr,.string f.rc,.string f.cy,.string f.am])).run Tryz.prog W = .ok true W:=fun W => eqv_fl f W
   have hk1:(0:Int)≤(k:Int):=by omega
   have hk2:(k:Int) < (l.length:Int):=by omega
   clear hf
   go_wp2
   go_quiet (fail)
   go_wp2
   go_roundw
   case rel => exact ⟨k+1,_,by omega,by go_num,rfl⟩
   case measure => simp [intOf];omega
  ·obtain rfl:k=l.length:=by omega
   go_wp2
   go_ret
   exact ⟨rfl,below_drewN (Below.refl _ _) _⟩
end Go.Proofs.YtcnpaciljmekcaaGreatDoor

namespace Go.Proofs.YtcnpaciljmekcaaGreatDoor
open Go.RowKit
structure TwB (W:World) (B:Nat) (x:Ex) (s:Value):Prop where
 b:BoxN W B 25 (x.cells s)
 r:RdE W x.sub s
theorem TwB.low {W W':World} {B:Nat} {x:Ex} {s:Value} (h:TwB W B x s) (hb:Below W.heap.size W W'):TwB W' B x s:=⟨h.b.below hb h.b.lt,h.r.frame hb⟩
theorem TwB.next {W W':World} {B B' S k:Nat} {x:Ex} {s:Value} {r:ByteArray} (h:TwB W B x s) (hx:x.k < 256) (hb:Below W.heap.size W W') (hS:BoxN W' S 25 (x.cells s ++ (xCon r).cells (.slice none 0 0))) (hB:BoxN W' B' 25 ((Ex.mk k mE mE 0 [x,xCon r]).cells (.slice (some ⟨S,0,none⟩) 2 2))) :
  TwB W' B' (Ex.mk k mE mE 0 [x,xCon r]) (.slice (some ⟨S,0,none⟩) 2 2) :=
 ⟨hB,rdE_two (s1:=s) (s2:=.slice none 0 0) hx (show (1:Nat) < 256 by decide) (fun i u h => hS.cell h) (h.r.frame hb) (rdE_nil _)⟩
def Kp (F:Nat) (W W':World):Prop:=W.heap.size≤W'.heap.size∧∀ k,k < W.heap.size→k ≠ F→W'.heap[k]? = W.heap[k]?
theorem Kp.of {F:Nat} {W W':World} (h:Below W.heap.size W W'):Kp F W W':=⟨h.size,fun k hk _ => h.block k hk⟩
theorem Kp.trans {F:Nat} {W W1 W2:World} (h:Kp F W W1) (h2:Kp F W1 W2):Kp F W W2:=⟨Nat.le_trans h.1 h2.1,fun k hk hne => (h2.2 k (Nat.lt_of_lt_of_le hk h.1) hne).trans (h.2 k hk hne)⟩
theorem Kp.set {F:Nat} (W:World) (j:Nat) (v:Value):Kp F W (W.setCell ⟨F,j,none⟩ v):=⟨by rw [World.size_setCell];exact Nat.le_refl _,fun k _ hne => Below.heap_setCell _ _ _ k hne⟩
theorem BoxN.kp {F:Nat} {W W':World} {B:Nat} {t:TypeId} {cs:List Value} (h:BoxN W B t cs) (hk:Kp F W W') (hB:B ≠ F):BoxN W' B t cs:=h.of_block (hk.2 _ h.lt hB)
def TwG (F:Nat) (W:World) (B:Nat) (x:Ex) (s:Value):Prop:=∀ W',Kp F W W'→TwB W' B x s
theorem TwG.next {F:Nat} {W W':World} {B B' S k:Nat} {x:Ex} {s:Value} {r:ByteArray} (h:TwG F W B x s) (hx:x.k < 256) (hb:Below W.heap.size W W') (hS:BoxN W' S 25 (x.cells s ++ (xCon r).cells (.slice none 0 0))) (gS:S ≠ F) (hB:BoxN W' B' 25 ((Ex.mk k mE mE 0 [x,xCon r]).cells (.slice (some ⟨S,0,none⟩) 2 2))) (gB:B' ≠ F) :
  TwG F W' B' (Ex.mk k mE mE 0 [x,xCon r]) (.slice (some ⟨S,0,none⟩) 2 2):=fun _ hk =>
 ⟨hB.kp hk gB,rdE_two (s1:=s) (s2:=.slice none 0 0) hx (show (1:Nat) < 256 by decide) (fun _ _ e => (hS.kp hk gS).cell e) (h _ ((Kp.of hb).trans hk)).r (rdE_nil _)⟩
def zEx:List Value:=[.int .u8 0,.string ⟨#[]⟩,.string ⟨#[]⟩,.int .i64 0,.slice none 0 0]
structure TqI (W0:World) (x:Ex) (s:Value) (k:Nat) (r:ByteArray) (L:Nat→Bool) (v7 v8 v9 v10 v2:Value) (w:World):Prop where
 bw:Below W0.heap.size W0 w
 f0:L 0=true→v7=x.val s
 f1:L 1=true→v8=(xCon r).val (.slice none 0 0)
 f2:L 2=true→L 5=false→∃ S,v9 = .slice (some ⟨S,0,none⟩) 2 2∧W0.heap.size≤S∧BoxN w S 25 (x.cells s ++ (xCon r).cells (.slice none 0 0))
 f3:L 3=true→L 5=false→v10=(Ex.mk k mE mE 0 [x,xCon r]).val v9
 f4:L 4=true→L 5=false→∃ X,v2 = .pointer (some ⟨X,0,none⟩)∧W0.heap.size≤X∧BoxN w X 25 zEx
 f5:L 5=true→∃ X S,v2 = .pointer (some ⟨X,0,none⟩)∧W0.heap.size≤X∧W0.heap.size≤S∧BoxN w S 25 (x.cells s ++ (xCon r).cells (.slice none 0 0))∧BoxN w X 25 ((Ex.mk k mE mE 0 [x,xCon r]).cells (.slice (some ⟨S,0,none⟩) 2 2))
 f8:∀ i,L 5=true→i < 5→L i=true
 f9:L 3=true→L 2=true
section
variable {W0 w w':World} {x:Ex} {s:Value} {k:Nat} {r:ByteArray} {L:Nat→Bool} {v7 v8 v9 v10 v2:Value}
theorem TqI.start (h:Below W0.heap.size W0 w):TqI W0 x s k r (fun _ => false) v7 v8 v9 v10 v2 w :=
 ⟨h,fun h => (by cases h),fun h => (by cases h),fun h => (by cases h),fun h => (by cases h),fun h => (by cases h),fun h => (by cases h),fun _ h => (by cases h),fun h => (by cases h)⟩
theorem TqI.open5 (h:TqI W0 x s k r L v7 v8 v9 v10 v2 w) {i:Nat} (hi:i < 5) (hL:L i=false):L 5=false:=by
 cases h5:L 5 with
 | false => rfl
 | true => exact absurd (h.f8 i h5 hi) (by rw [hL];decide)
theorem TqI.ext (h:TqI W0 x s k r L v7 v8 v9 v10 v2 w) (hb:Below w.heap.size w w'):TqI W0 x s k r L v7 v8 v9 v10 v2 w' where
 bw:=h.bw.trans (hb.mono h.bw.size)
 f0:=h.f0
 f1:=h.f1
 f2 a b:=by obtain ⟨S,e,g,q⟩:=h.f2 a b;exact ⟨S,e,g,q.below hb q.lt⟩
 f3:=h.f3
 f4 a b:=by obtain ⟨X,e,g,q⟩:=h.f4 a b;exact ⟨X,e,g,q.below hb q.lt⟩
 f5 a:=by obtain ⟨X,S,e,g,g2,q,q2⟩:=h.f5 a;exact ⟨X,S,e,g,g2,q.below hb q.lt,q2.below hb q2.lt⟩
 f8:=h.f8
 f9:=h.f9
theorem TqI.u0 (h:TqI W0 x s k r L v7 v8 v9 v10 v2 w) (hL:L 0=false):TqI W0 x s k r (upd L 0) (x.val s) v8 v9 v10 v2 w :=
 ⟨h.bw,fun _ => rfl,fun a => h.f1 (by simpa [upd] using a),fun a b => h.f2 (by simpa [upd] using a) (by simpa [upd] using b),fun a b => h.f3 (by simpa [upd] using a) (by simpa [upd] using b),fun a b => h.f4 (by simpa [upd] using a) (by simpa [upd] using b),fun a => h.f5 (by simpa [upd] using a),fun i a b => (by have:=h.open5 (by decide) hL;simp [upd] at a;rw [this] at a;cases a),fun a => (by have:=h.f9 (by simpa [upd] using a);simpa [upd] using this)⟩
theorem TqI.u1 (h:TqI W0 x s k r L v7 v8 v9 v10 v2 w) (hL:L 1=false):TqI W0 x s k r (upd L 1) v7 ((xCon r).val (.slice none 0 0)) v9 v10 v2 w :=
 ⟨h.bw,fun a => h.f0 (by simpa [upd] using a),fun _ => rfl,fun a b => h.f2 (by simpa [upd] using a) (by simpa [upd] using b),fun a b => h.f3 (by simpa [upd] using a) (by simpa [upd] using b),fun a b => h.f4 (by simpa [upd] using a) (by simpa [upd] using b),fun a => h.f5 (by simpa [upd] using a),fun i a b => (by have:=h.open5 (by decide) hL;simp [upd] at a;rw [this] at a;cases a),fun a => (by have:=h.f9 (by simpa [upd] using a);simpa [upd] using this)⟩
theorem TqI.u2 (h:TqI W0 x s k r L v7 v8 v9 v10 v2 w) (hL:L 2=false) {S:Nat} (gS:W0.heap.size≤S) (hS:BoxN w S 25 (x.cells s ++ (xCon r).cells (.slice none 0 0))):TqI W0 x s k r (upd L 2) v7 v8 (.slice (some ⟨S,0,none⟩) 2 2) v10 v2 w :=
 ⟨h.bw,fun a => h.f0 (by simpa [upd] using a),fun a => h.f1 (by simpa [upd] using a),fun _ _ => ⟨S,rfl,gS,hS⟩,fun a _ => (by simp [upd] at a;rw [h.f9 a] at hL;cases hL),fun a b => h.f4 (by simpa [upd] using a) (by simpa [upd] using b),fun a => h.f5 (by simpa [upd] using a),fun i a b => (by have:=h.open5 (by decide) hL;simp [upd] at a;rw [this] at a;cases a),fun _ => (by simp [upd])⟩
theorem TqI.u3 (h:TqI W0 x s k r L v7 v8 v9 v10 v2 w) (hL:L 3=false) (h2:L 2=true):TqI W0 x s k r (upd L 3) v7 v8 v9 ((Ex.mk k mE mE 0 [x,xCon r]).val v9) v2 w :=
 ⟨h.bw,fun a => h.f0 (by simpa [upd] using a),fun a => h.f1 (by simpa [upd] using a),fun a b => h.f2 (by simpa [upd] using a) (by simpa [upd] using b),fun _ _ => rfl,fun a b => h.f4 (by simpa [upd] using a) (by simpa [upd] using b),fun a => h.f5 (by simpa [upd] using a),fun i a b => (by have:=h.open5 (by decide) hL;simp [upd] at a;rw [this] at a;cases a),fun _ => (by show (if 2=3 then true else L 2)=true;exact h2)⟩
end
structure TqJ (W0:World) (F:Nat) (x:Ex) (s:Value) (k:Nat) (r:ByteArray) (L:Nat→Bool) (v7 v8 v9 v10:Value) (w:World):Prop where
 bw:L 4=false→Below W0.heap.size W0 w
 f0:L 0=true→v7=x.val s
 f1:L 1=true→v8=(xCon r).val (.slice none 0 0)
 f2:L 2=true→L 4=false→∃ S,v9 = .slice (some ⟨S,0,none⟩) 2 2∧W0.heap.size≤S∧BoxN w S 25 (x.cells s ++ (xCon r).cells (.slice none 0 0))
 f3:L 3=true→L 4=false→v10=(Ex.mk k mE mE 0 [x,xCon r]).val v9
 f5:L 4=true→∃ S w5,Below W0.heap.size W0 w5∧W0.heap.size≤S∧BoxN w5 S 25 (x.cells s ++ (xCon r).cells (.slice none 0 0))∧w=(((((w5.setCell ⟨F,0,none⟩ (.int .u8 k)).setCell ⟨F,1,none⟩ (.string ⟨#[]⟩)).setCell ⟨F,2,none⟩ (.string ⟨#[]⟩)).setCell ⟨F,3,none⟩ (.int .i64 0)).setCell ⟨F,4,none⟩ (.slice (some ⟨S,0,none⟩) 2 2))
 f8:∀ i,L 4=true→i < 4→L i=true
 f9:L 3=true→L 2=true
section
variable {W0 w w':World} {F:Nat} {x:Ex} {s:Value} {k:Nat} {r:ByteArray} {L:Nat→Bool} {v7 v8 v9 v10:Value}
theorem TqJ.start (h:Below W0.heap.size W0 w):TqJ W0 F x s k r (fun _ => false) v7 v8 v9 v10 w :=
 ⟨fun _ => h,fun h => (by cases h),fun h => (by cases h),fun h => (by cases h),fun h => (by cases h),fun h => (by cases h),fun _ h => (by cases h),fun h => (by cases h)⟩
theorem TqJ.open4 (h:TqJ W0 F x s k r L v7 v8 v9 v10 w) {i:Nat} (hi:i < 4) (hL:L i=false):L 4=false:=by
 cases h5:L 4 with
 | false => rfl
 | true => exact absurd (h.f8 i h5 hi) (by rw [hL];decide)
theorem TqJ.ext (h:TqJ W0 F x s k r L v7 v8 v9 v10 w) (h4:L 4=false) (hb:Below w.heap.size w w'):TqJ W0 F x s k r L v7 v8 v9 v10 w' where
 bw _:=(h.bw h4).trans (hb.mono (h.bw h4).size)
 f0:=h.f0
 f1:=h.f1
 f2 a b:=by obtain ⟨S,e,g,q⟩:=h.f2 a b;exact ⟨S,e,g,q.below hb q.lt⟩
 f3:=h.f3
 f5 a:=(by rw [h4] at a;cases a)
 f8:=h.f8
 f9:=h.f9
theorem TqJ.u0 (h:TqJ W0 F x s k r L v7 v8 v9 v10 w) (hL:L 0=false):TqJ W0 F x s k r (upd L 0) (x.val s) v8 v9 v10 w :=
 ⟨fun a => h.bw (by simpa [upd] using a),fun _ => rfl,fun a => h.f1 (by simpa [upd] using a),fun a b => h.f2 (by simpa [upd] using a) (by simpa [upd] using b),fun a b => h.f3 (by simpa [upd] using a) (by simpa [upd] using b),fun a => h.f5 (by simpa [upd] using a),fun i a b => (by have:=h.open4 (by decide) hL;simp [upd] at a;rw [this] at a;cases a),fun a => (by have:=h.f9 (by simpa [upd] using a);simpa [upd] using this)⟩
theorem TqJ.u1 (h:TqJ W0 F x s k r L v7 v8 v9 v10 w) (hL:L 1=false):TqJ W0 F x s k r (upd L 1) v7 ((xCon r).val (.slice none 0 0)) v9 v10 w :=
 ⟨fun a => h.bw (by simpa [upd] using a),fun a => h.f0 (by simpa [upd] using a),fun _ => rfl,fun a b => h.f2 (by simpa [upd] using a) (by simpa [upd] using b),fun a b => h.f3 (by simpa [upd] using a) (by simpa [upd] using b),fun a => h.f5 (by simpa [upd] using a),fun i a b => (by have:=h.open4 (by decide) hL;simp [upd] at a;rw [this] at a;cases a),fun a => (by have:=h.f9 (by simpa [upd] using a);simpa [upd] using this)⟩
theorem TqJ.u2 (h:TqJ W0 F x s k r L v7 v8 v9 v10 w) (hL:L 2=false) {S:Nat} (gS:W0.heap.size≤S) (hS:BoxN w S 25 (x.cells s ++ (xCon r).cells (.slice none 0 0))):TqJ W0 F x s k r (upd L 2) v7 v8 (.slice (some ⟨S,0,none⟩) 2 2) v10 w :=
 ⟨fun a => h.bw (by simpa [upd] using a),fun a => h.f0 (by simpa [upd] using a),fun a => h.f1 (by simpa [upd] using a),fun _ _ => ⟨S,rfl,gS,hS⟩,fun a _ => (by simp [upd] at a;rw [h.f9 a] at hL;cases hL),fun a => h.f5 (by simpa [upd] using a),fun i a b => (by have:=h.open4 (by decide) hL;simp [upd] at a;rw [this] at a;cases a),fun _ => (by simp [upd])⟩
theorem TqJ.u3 (h:TqJ W0 F x s k r L v7 v8 v9 v10 w) (hL:L 3=false) (h2:L 2=true):TqJ W0 F x s k r (upd L 3) v7 v8 v9 ((Ex.mk k mE mE 0 [x,xCon r]).val v9) w :=
 ⟨fun a => h.bw (by simpa [upd] using a),fun a => h.f0 (by simpa [upd] using a),fun a => h.f1 (by simpa [upd] using a),fun a b => h.f2 (by simpa [upd] using a) (by simpa [upd] using b),fun _ _ => rfl,fun a => h.f5 (by simpa [upd] using a),fun i a b => (by have:=h.open4 (by decide) hL;simp [upd] at a;rw [this] at a;cases a),fun _ => (by show (if 2=3 then true else L 2)=true;exact h2)⟩
end
end Go.Proofs.YtcnpaciljmekcaaGreatDoor

namespace Go.Proofs.YtcnpaciljmekcaaGreatDoor
open Go.RowKit
structure Lk (w:World):Prop where
 s:LookS w
 p:LookP w
 o:LookO w
theorem Lk.frame {w w':World} (h:Lk w) (hb:Below w.heap.size w w'):Lk w':=⟨h.s.frame hb,h.p.frame hb,h.o.frame hb⟩
end Go.Proofs.YtcnpaciljmekcaaGreatDoor

namespace Go.Proofs.YtcnpaciljmekcaaGreatDoor
open Go.RowKit
def rv (s:ByteArray):Rat:=Rat.divInt (ival (bl (numS s))) (ival (bl (denS s)))
def part (p c:ByteArray) (f:Fl):Rat:=if f.cy ≠ c then 0 else if f.rc=p then rv f.am else if f.fr=p then -rv f.am else 0
end Go.Proofs.YtcnpaciljmekcaaGreatDoor

namespace Go.Proofs.YtcnpaciljmekcaaGreatDoor
open Go.RowKit
def PayOf (c:Con) (f:Fl):Prop:=∃ n ∈ c.nodes,n.k=2∧(f.fr=n.fr∧f.rc=n.rc∨f.fr=n.rc∧f.rc=n.fr)∧f.cy=n.nm
theorem nodess_mem {n x:Con}:∀ {l:List Con},x ∈ l→n ∈ x.nodes→n ∈ Con.nodess l
 | [],h,_ => by cases h
 | y :: l,h,hn => by
  rw [Con.nodess,List.mem_append]
  rcases List.mem_cons.1 h with rfl | h
  ·exact .inl hn
  ·exact .inr (nodess_mem h hn)
theorem PayOf.up {c x:Con} {f:Fl} (hx:x ∈ c.sub) (h:PayOf x f):PayOf c f:=by
 obtain ⟨n,hn,h⟩:=h
 exact ⟨n,by rw [c.nodes_eq];exact List.mem_cons_of_mem _ (nodess_mem hx hn),h⟩
end Go.Proofs.YtcnpaciljmekcaaGreatDoor

namespace Go.Proofs.YtcnpaciljmekcaaGreatDoor
open Go.RowKit
def sC (s:ByteArray):List Value:=[.string s]
theorem Rd.st {w:World} {ad:Option Addr} {l:List ByteArray} (h:Rd sC 1 w ad l) {j:Nat} {s:ByteArray} (hj:l[j]? = some s) :
  ∃ b off,ad=some ⟨b,off,none⟩∧w.cell? ⟨b,off+j,none⟩=some (.string s):=by
 obtain ⟨b,off,rfl,h2⟩:=h j s hj
 have h0:=h2 0 _ rfl
 rw [Nat.mul_one] at h0
 exact ⟨b,off,rfl,h0⟩
theorem ret_b {w w':World} {b c:Bool} (h:b=c) (hb:Below w.heap.size w w'):Ending.returned (.bool b) = .returned (.bool c)∧Below w.heap.size w w':=⟨by rw [h],hb⟩
set_option maxHeartbeats 1000000 in
set_option maxRecDepth 100000 in
theorem hasL_any (l:List ByteArray) (s:ByteArray) (ad:Option Addr) (cap:Nat) (w:World) (hn:l.length≤4000000000000) (hr:Rd sC 1 w ad l) :
  Calls Tryz.prog 14 #[.slice ad l.length cap,.string s] w fun e w' => e = .returned (.bool (eqB (s ∈ l)))∧Below w.heap.size w w':=by
 have HR:=Lib.hid hr
 obtain ⟨r,hr'⟩:∃ r,eqB (s ∈ l)=r:=⟨_,rfl⟩
 have HB:=Lib.hid hr'
 rw [hr']
 clear hr hr'
 go_enter Tryz.func14,Tryz.ntmps14
 go_wp2_with fail
 go_loopw [5] (fun i wr => ∃ k:Nat,k≤l.length∧i = .int .i64 k∧Hid (∀ j x,j < k→l[j]? = some x→x ≠ s)∧wr=w) (fun i _ => l.length - (intOf i).toNat)
 case atStart => exact ⟨0,Nat.zero_le _,rfl,Lib.hid fun j x h => absurd h (Nat.not_lt_zero _),rfl⟩
 case round =>
  obtain ⟨k,hk,rfl,HJ,rfl⟩:=hrel
  by_cases hlt:k < l.length
  ·obtain ⟨x,hx⟩:∃ x,l[k]? = some x:=⟨_,List.getElem?_eq_getElem hlt⟩
   obtain ⟨b,off,rfl,c0⟩:=HR.out.st hx
   have hk1:(k:Int) < (l.length:Int):=by omega
   by_cases he:x=s
   ·have u:(x.toList == s.toList)=true:=by rw [toList_beq,decide_eq_true he]
    have HF:Hid (true=r):=Lib.hid (by rw [← HB.out,eq_comm];exact eqB_true (he ▸ List.mem_of_getElem? hx))
    clear hx he
    go_wp2
    go_ret
    exact ret_b HF.out (Below.refl _ _)
   ·have u:(x.toList == s.toList)=false:=by rw [toList_beq,decide_eq_false he]
    have HJ2:Hid (∀ j x,j < k+1→l[j]? = some x→x ≠ s):=Lib.hid fun j y hj hy => by
     by_cases hjk:j < k
     ·exact HJ.out j y hjk hy
     ·obtain rfl:j=k:=by omega
      rw [hx] at hy
      cases hy
      exact he
    clear hx he
    go_wp2
    go_roundw
    case rel => exact ⟨k+1,by omega,by go_num,HJ2,by first | rfl | trivial⟩
    case measure => simp [intOf];omega
  ·have HF:Hid (false=r):=Lib.hid (by
    rw [← HB.out,eq_comm]
    refine eqB_false fun h => ?_
    obtain ⟨j,hj,e⟩:=List.mem_iff_getElem.1 h
    exact HJ.out j s (by omega) (by rw [List.getElem?_eq_getElem hj,e]) rfl)
   go_wp2
   go_ret
   exact ret_b HF.out (Below.refl _ _)
end Go.Proofs.YtcnpaciljmekcaaGreatDoor
