/-
  novationlaw10.twice. novationref10.SameFlows on one list in two places. novationlaw10.alive. novationref10.work, Heavy; novationlaw10.great: they answer. The variables of a law about one contract and what is known.
-/
import Derived.Test.YtknpnhodpgajbaaGreatDoorE30
import Derived.Test.YtknpnhodpgajbaaGreatDoorE22
import Derived.Deep.RegionHeld3
import Derived.Test.YtknpnhodpgajbaaGreatDoorE14
import Derived.Test.YtknpnhodpgajbaaGreatDoorE04
import Derived.Laws.StructEq
import Derived.IntWalk
import Derived.Test.YtknpnhodpgajbaaGreatDoorE02
import Derived.Test.YtknpnhodpgajbaaGreatDoorE31
import Derived.Test.YtknpnhodpgajbaaGreatDoorE13
import Derived.Deep.CutBlock
import Derived.Test.YtknpnhodpgajbaaGreatDoorE17
import Derived.Test.YtknpnhodpgajbaaGreatDoorE21
namespace Go.Proofs.YtknpnhodpgajbaaGreatDoor
open Go.RowKit
structure TwB (W:World) (B:Nat) (x:Ex) (s:Value):Prop where
 b:BoxN W B 25 (x.cells s)
 r:RdE W x.sub s
theorem TwB.low {W W':World} {B:Nat} {x:Ex} {s:Value} (h:TwB W B x s) (hb:Below W.heap.size W W'):TwB W' B x s:=⟨h.b.below hb h.b.lt,h.r.frame hb⟩
theorem TwB.next {W W':World} {B B' S k:Nat} {x:Ex} {s:Value} {r:ByteArray} (h:TwB W B x s) (hx:x.k < 256) (hb:Below W.heap.size W W') (hS:BoxN W' S 25 (x.cells s ++ (xCon r).cells (.slice none 0 0))) (hB:BoxN W' B' 25 ((Ex.mk k mE mE 0 [x,xCon r]).cells (.slice (some ⟨S,0,none⟩) 2 2))) :
  TwB W' B' (Ex.mk k mE mE 0 [x,xCon r]) (.slice (some ⟨S,0,none⟩) 2 2) :=
 ⟨hB,rdE_two (s1:=s) (s2:=.slice none 0 0) hx (show (1:Nat) < 256 by decide) (fun i u h => hS.cell h) (h.r.frame hb) (rdE_nil _)⟩
def Kp (F:Nat) (W W':World):Prop:=W.heap.size≤W'.heap.size∧∀ k,k < W.heap.size→k ≠ F→W'.heap[k]? = W.heap[k]?
theorem Kp.of {F:Nat} {W W':World} (h:Below W.heap.size W W'):Kp F W W':=⟨h.size,fun k hk _ => h.block k hk⟩
theorem Kp.trans {F:Nat} {W W1 W2:World} (h:Kp F W W1) (h2:Kp F W1 W2):Kp F W W2:=⟨Nat.le_trans h.1 h2.1,fun k hk hne => (h2.2 k (Nat.lt_of_lt_of_le hk h.1) hne).trans (h.2 k hk hne)⟩
theorem Kp.set {F:Nat} (W:World) (j:Nat) (v:Value):Kp F W (W.setCell ⟨F,j,none⟩ v):=⟨by rw [World.size_setCell];exact Nat.le_refl _,fun k _ hne => Below.heap_setCell _ _ _ k hne⟩
theorem BoxN.kp {F:Nat} {W W':World} {B:Nat} {t:TypeId} {cs:List Value} (h:BoxN W B t cs) (hk:Kp F W W') (hB:B ≠ F):BoxN W' B t cs:=h.of_block (hk.2 _ h.lt hB)
def TwG (F:Nat) (W:World) (B:Nat) (x:Ex) (s:Value):Prop:=∀ W',Kp F W W'→TwB W' B x s
theorem TwG.next {F:Nat} {W W':World} {B B' S k:Nat} {x:Ex} {s:Value} {r:ByteArray} (h:TwG F W B x s) (hx:x.k < 256) (hb:Below W.heap.size W W') (hS:BoxN W' S 25 (x.cells s ++ (xCon r).cells (.slice none 0 0))) (gS:S ≠ F) (hB:BoxN W' B' 25 ((Ex.mk k mE mE 0 [x,xCon r]).cells (.slice (some ⟨S,0,none⟩) 2 2))) (gB:B' ≠ F) :
  TwG F W' B' (Ex.mk k mE mE 0 [x,xCon r]) (.slice (some ⟨S,0,none⟩) 2 2):=fun _ hk =>
 ⟨hB.kp hk gB,rdE_two (s1:=s) (s2:=.slice none 0 0) hx (show (1:Nat) < 256 by decide) (fun _ _ e => (hS.kp hk gS).cell e) (h _ ((Kp.of hb).trans hk)).r (rdE_nil _)⟩
def zEx:List Value:=[.int .u8 0,.string ⟨#[]⟩,.string ⟨#[]⟩,.int .i64 0,.slice none 0 0]
structure TqI (W0:World) (x:Ex) (s:Value) (k:Nat) (r:ByteArray) (L:Nat→Bool) (v7 v8 v9 v10 v2:Value) (w:World):Prop where
 bw:Below W0.heap.size W0 w
 f0:L 0=true→v7=x.val s
 f1:L 1=true→v8=(xCon r).val (.slice none 0 0)
 f2:L 2=true→L 5=false→∃ S,v9 = .slice (some ⟨S,0,none⟩) 2 2∧W0.heap.size≤S∧BoxN w S 25 (x.cells s ++ (xCon r).cells (.slice none 0 0))
 f3:L 3=true→L 5=false→v10=(Ex.mk k mE mE 0 [x,xCon r]).val v9
 f4:L 4=true→L 5=false→∃ X,v2 = .pointer (some ⟨X,0,none⟩)∧W0.heap.size≤X∧BoxN w X 25 zEx
 f5:L 5=true→∃ X S,v2 = .pointer (some ⟨X,0,none⟩)∧W0.heap.size≤X∧W0.heap.size≤S∧BoxN w S 25 (x.cells s ++ (xCon r).cells (.slice none 0 0))∧BoxN w X 25 ((Ex.mk k mE mE 0 [x,xCon r]).cells (.slice (some ⟨S,0,none⟩) 2 2))
 f8:∀ i,L 5=true→i < 5→L i=true
 f9:L 3=true→L 2=true
section
variable {W0 w w':World} {x:Ex} {s:Value} {k:Nat} {r:ByteArray} {L:Nat→Bool} {v7 v8 v9 v10 v2:Value}
theorem TqI.start (h:Below W0.heap.size W0 w):TqI W0 x s k r (fun _ => false) v7 v8 v9 v10 v2 w :=
 ⟨h,fun h => (by cases h),fun h => (by cases h),fun h => (by cases h),fun h => (by cases h),fun h => (by cases h),fun h => (by cases h),fun _ h => (by cases h),fun h => (by cases h)⟩
theorem TqI.open5 (h:TqI W0 x s k r L v7 v8 v9 v10 v2 w) {i:Nat} (hi:i < 5) (hL:L i=false):L 5=false:=by
 cases h5:L 5 with
 | false => rfl
 | true => exact absurd (h.f8 i h5 hi) (by rw [hL];decide)
theorem TqI.ext (h:TqI W0 x s k r L v7 v8 v9 v10 v2 w) (hb:Below w.heap.size w w'):TqI W0 x s k r L v7 v8 v9 v10 v2 w' where
 bw:=h.bw.trans (hb.mono h.bw.size)
 f0:=h.f0
 f1:=h.f1
 f2 a b:=by obtain ⟨S,e,g,q⟩:=h.f2 a b;exact ⟨S,e,g,q.below hb q.lt⟩
 f3:=h.f3
 f4 a b:=by obtain ⟨X,e,g,q⟩:=h.f4 a b;exact ⟨X,e,g,q.below hb q.lt⟩
 f5 a:=by obtain ⟨X,S,e,g,g2,q,q2⟩:=h.f5 a;exact ⟨X,S,e,g,g2,q.below hb q.lt,q2.below hb q2.lt⟩
 f8:=h.f8
 f9:=h.f9
theorem TqI.u0 (h:TqI W0 x s k r L v7 v8 v9 v10 v2 w) (hL:L 0=false):TqI W0 x s k r (upd L 0) (x.val s) v8 v9 v10 v2 w :=
 ⟨h.bw,fun _ => rfl,fun a => h.f1 (by simpa [upd] using a),fun a b => h.f2 (by simpa [upd] using a) (by simpa [upd] using b),fun a b => h.f3 (by simpa [upd] using a) (by simpa [upd] using b),fun a b => h.f4 (by simpa [upd] using a) (by simpa [upd] using b),fun a => h.f5 (by simpa [upd] using a),fun i a b => (by have:=h.open5 (by decide) hL;simp [upd] at a;rw [this] at a;cases a),fun a => (by have:=h.f9 (by simpa [upd] using a);simpa [upd] using this)⟩
theorem TqI.u1 (h:TqI W0 x s k r L v7 v8 v9 v10 v2 w) (hL:L 1=false):TqI W0 x s k r (upd L 1) v7 ((xCon r).val (.slice none 0 0)) v9 v10 v2 w :=
 ⟨h.bw,fun a => h.f0 (by simpa [upd] using a),fun _ => rfl,fun a b => h.f2 (by simpa [upd] using a) (by simpa [upd] using b),fun a b => h.f3 (by simpa [upd] using a) (by simpa [upd] using b),fun a b => h.f4 (by simpa [upd] using a) (by simpa [upd] using b),fun a => h.f5 (by simpa [upd] using a),fun i a b => (by have:=h.open5 (by decide) hL;simp [upd] at a;rw [this] at a;cases a),fun a => (by have:=h.f9 (by simpa [upd] using a);simpa [upd] using this)⟩
theorem TqI.u2 (h:TqI W0 x s k r L v7 v8 v9 v10 v2 w) (hL:L 2=false) {S:Nat} (gS:W0.heap.size≤S) (hS:BoxN w S 25 (x.cells s ++ (xCon r).cells (.slice none 0 0))):TqI W0 x s k r (upd L 2) v7 v8 (.slice (some ⟨S,0,none⟩) 2 2) v10 v2 w :=
 ⟨h.bw,fun a => h.f0 (by simpa [upd] using a),fun a => h.f1 (by simpa [upd] using a),fun _ _ => ⟨S,rfl,gS,hS⟩,fun a _ => (by simp [upd] at a;rw [h.f9 a] at hL;cases hL),fun a b => h.f4 (by simpa [upd] using a) (by simpa [upd] using b),fun a => h.f5 (by simpa [upd] using a),fun i a b => (by have:=h.open5 (by decide) hL;simp [upd] at a;rw [this] at a;cases a),fun _ => (by simp [upd])⟩
theorem TqI.u3 (h:TqI W0 x s k r L v7 v8 v9 v10 v2 w) (hL:L 3=false) (h2:L 2=true):TqI W0 x s k r (upd L 3) v7 v8 v9 ((Ex.mk k mE mE 0 [x,xCon r]).val v9) v2 w :=
 ⟨h.bw,fun a => h.f0 (by simpa [upd] using a),fun a => h.f1 (by simpa [upd] using a),fun a b => h.f2 (by simpa [upd] using a) (by simpa [upd] using b),fun _ _ => rfl,fun a b => h.f4 (by simpa [upd] using a) (by simpa [upd] using b),fun a => h.f5 (by simpa [upd] using a),fun i a b => (by have:=h.open5 (by decide) hL;simp [upd] at a;rw [this] at a;cases a),fun _ => (by show (if 2=3 then true else L 2)=true;exact h2)⟩
theorem TqI.u4 (h:TqI W0 x s k r L v7 v8 v9 v10 v2 w) (hL:L 4=false) {X:Nat} (hX:W0.heap.size≤X) (hB:BoxN w X 25 zEx):TqI W0 x s k r (upd L 4) v7 v8 v9 v10 (.pointer (some ⟨X,0,none⟩)) w :=
 ⟨h.bw,fun a => h.f0 (by simpa [upd] using a),fun a => h.f1 (by simpa [upd] using a),fun a b => h.f2 (by simpa [upd] using a) (by simpa [upd] using b),fun a b => h.f3 (by simpa [upd] using a) (by simpa [upd] using b),fun _ _ => ⟨X,rfl,hX,hB⟩,fun a => (by have:=h.open5 (by decide) hL;simp [upd] at a;rw [this] at a;cases a),fun i a b => (by have:=h.open5 (by decide) hL;simp [upd] at a;rw [this] at a;cases a),fun a => (by have:=h.f9 (by simpa [upd] using a);simpa [upd] using this)⟩
theorem TqI.u5 {X S:Nat} (h:TqI W0 x s k r L v7 v8 (.slice (some ⟨S,0,none⟩) 2 2) v10 (.pointer (some ⟨X,0,none⟩)) w) (hall:∀ i,i < 5→L i=true) (hX:W0.heap.size≤X) (hbx:BoxN w X 25 zEx) (gS:W0.heap.size≤S) (hbs:BoxN w S 25 (x.cells s ++ (xCon r).cells (.slice none 0 0))) :
  TqI W0 x s k r (upd L 5) v7 v8 (.slice (some ⟨S,0,none⟩) 2 2) v10 (.pointer (some ⟨X,0,none⟩)) (((((w.setCell ⟨X,0,none⟩ (.int .u8 k)).setCell ⟨X,1,none⟩ (.string ⟨#[]⟩)).setCell ⟨X,2,none⟩ (.string ⟨#[]⟩)).setCell ⟨X,3,none⟩ (.int .i64 0)).setCell ⟨X,4,none⟩ (.slice (some ⟨S,0,none⟩) 2 2)):=by
 have hne:S ≠ X:=by
  rintro rfl
  have e:=Option.some.inj (hbx.symm.trans hbs)
  simp [zEx,Ex.cells] at e
 have hb:=((((h.bw.setCell (p:=⟨X,0,none⟩) hX (.int .u8 k)).setCell (p:=⟨X,1,none⟩) hX (.string ⟨#[]⟩)).setCell (p:=⟨X,2,none⟩) hX (.string ⟨#[]⟩)).setCell (p:=⟨X,3,none⟩) hX (.int .i64 0)).setCell (p:=⟨X,4,none⟩) hX (.slice (some ⟨S,0,none⟩) 2 2)
 have h5:upd L 5 5=true:=by simp [upd]
 exact ⟨hb,fun a => h.f0 (by simpa [upd] using a),fun a => h.f1 (by simpa [upd] using a),fun _ b => (by rw [h5] at b;cases b),fun _ b => (by rw [h5] at b;cases b),fun _ b => (by rw [h5] at b;cases b),fun _ => ⟨X,S,rfl,hX,gS,((((hbs.far hne _).far hne _).far hne _).far hne _).far hne _,((((hbx.set 0 _).set 1 _).set 2 _).set 3 _).set 4 _⟩,fun i _ b => (by show (if i=5 then true else L i)=true;rw [if_neg (by omega)];exact hall i b),fun _ => (by show (if 2=5 then true else L 2)=true;exact hall 2 (by decide))⟩
end
structure TqJ (W0:World) (F:Nat) (x:Ex) (s:Value) (k:Nat) (r:ByteArray) (L:Nat→Bool) (v7 v8 v9 v10:Value) (w:World):Prop where
 bw:L 4=false→Below W0.heap.size W0 w
 f0:L 0=true→v7=x.val s
 f1:L 1=true→v8=(xCon r).val (.slice none 0 0)
 f2:L 2=true→L 4=false→∃ S,v9 = .slice (some ⟨S,0,none⟩) 2 2∧W0.heap.size≤S∧BoxN w S 25 (x.cells s ++ (xCon r).cells (.slice none 0 0))
 f3:L 3=true→L 4=false→v10=(Ex.mk k mE mE 0 [x,xCon r]).val v9
 f5:L 4=true→∃ S w5,Below W0.heap.size W0 w5∧W0.heap.size≤S∧BoxN w5 S 25 (x.cells s ++ (xCon r).cells (.slice none 0 0))∧w=(((((w5.setCell ⟨F,0,none⟩ (.int .u8 k)).setCell ⟨F,1,none⟩ (.string ⟨#[]⟩)).setCell ⟨F,2,none⟩ (.string ⟨#[]⟩)).setCell ⟨F,3,none⟩ (.int .i64 0)).setCell ⟨F,4,none⟩ (.slice (some ⟨S,0,none⟩) 2 2))
 f8:∀ i,L 4=true→i < 4→L i=true
 f9:L 3=true→L 2=true
section
variable {W0 w w':World} {F:Nat} {x:Ex} {s:Value} {k:Nat} {r:ByteArray} {L:Nat→Bool} {v7 v8 v9 v10:Value}
theorem TqJ.start (h:Below W0.heap.size W0 w):TqJ W0 F x s k r (fun _ => false) v7 v8 v9 v10 w :=
 ⟨fun _ => h,fun h => (by cases h),fun h => (by cases h),fun h => (by cases h),fun h => (by cases h),fun h => (by cases h),fun _ h => (by cases h),fun h => (by cases h)⟩
theorem TqJ.open4 (h:TqJ W0 F x s k r L v7 v8 v9 v10 w) {i:Nat} (hi:i < 4) (hL:L i=false):L 4=false:=by
 cases h5:L 4 with
 | false => rfl
 | true => exact absurd (h.f8 i h5 hi) (by rw [hL];decide)
theorem TqJ.ext (h:TqJ W0 F x s k r L v7 v8 v9 v10 w) (h4:L 4=false) (hb:Below w.heap.size w w'):TqJ W0 F x s k r L v7 v8 v9 v10 w' where
 bw _:=(h.bw h4).trans (hb.mono (h.bw h4).size)
 f0:=h.f0
 f1:=h.f1
 f2 a b:=by obtain ⟨S,e,g,q⟩:=h.f2 a b;exact ⟨S,e,g,q.below hb q.lt⟩
 f3:=h.f3
 f5 a:=(by rw [h4] at a;cases a)
 f8:=h.f8
 f9:=h.f9
theorem TqJ.u0 (h:TqJ W0 F x s k r L v7 v8 v9 v10 w) (hL:L 0=false):TqJ W0 F x s k r (upd L 0) (x.val s) v8 v9 v10 w :=
 ⟨fun a => h.bw (by simpa [upd] using a),fun _ => rfl,fun a => h.f1 (by simpa [upd] using a),fun a b => h.f2 (by simpa [upd] using a) (by simpa [upd] using b),fun a b => h.f3 (by simpa [upd] using a) (by simpa [upd] using b),fun a => h.f5 (by simpa [upd] using a),fun i a b => (by have:=h.open4 (by decide) hL;simp [upd] at a;rw [this] at a;cases a),fun a => (by have:=h.f9 (by simpa [upd] using a);simpa [upd] using this)⟩
theorem TqJ.u1 (h:TqJ W0 F x s k r L v7 v8 v9 v10 w) (hL:L 1=false):TqJ W0 F x s k r (upd L 1) v7 ((xCon r).val (.slice none 0 0)) v9 v10 w :=
 ⟨fun a => h.bw (by simpa [upd] using a),fun a => h.f0 (by simpa [upd] using a),fun _ => rfl,fun a b => h.f2 (by simpa [upd] using a) (by simpa [upd] using b),fun a b => h.f3 (by simpa [upd] using a) (by simpa [upd] using b),fun a => h.f5 (by simpa [upd] using a),fun i a b => (by have:=h.open4 (by decide) hL;simp [upd] at a;rw [this] at a;cases a),fun a => (by have:=h.f9 (by simpa [upd] using a);simpa [upd] using this)⟩
theorem TqJ.u2 (h:TqJ W0 F x s k r L v7 v8 v9 v10 w) (hL:L 2=false) {S:Nat} (gS:W0.heap.size≤S) (hS:BoxN w S 25 (x.cells s ++ (xCon r).cells (.slice none 0 0))):TqJ W0 F x s k r (upd L 2) v7 v8 (.slice (some ⟨S,0,none⟩) 2 2) v10 w :=
 ⟨fun a => h.bw (by simpa [upd] using a),fun a => h.f0 (by simpa [upd] using a),fun a => h.f1 (by simpa [upd] using a),fun _ _ => ⟨S,rfl,gS,hS⟩,fun a _ => (by simp [upd] at a;rw [h.f9 a] at hL;cases hL),fun a => h.f5 (by simpa [upd] using a),fun i a b => (by have:=h.open4 (by decide) hL;simp [upd] at a;rw [this] at a;cases a),fun _ => (by simp [upd])⟩
theorem TqJ.u3 (h:TqJ W0 F x s k r L v7 v8 v9 v10 w) (hL:L 3=false) (h2:L 2=true):TqJ W0 F x s k r (upd L 3) v7 v8 v9 ((Ex.mk k mE mE 0 [x,xCon r]).val v9) w :=
 ⟨fun a => h.bw (by simpa [upd] using a),fun a => h.f0 (by simpa [upd] using a),fun a => h.f1 (by simpa [upd] using a),fun a b => h.f2 (by simpa [upd] using a) (by simpa [upd] using b),fun _ _ => rfl,fun a => h.f5 (by simpa [upd] using a),fun i a b => (by have:=h.open4 (by decide) hL;simp [upd] at a;rw [this] at a;cases a),fun _ => (by show (if 2=3 then true else L 2)=true;exact h2)⟩
theorem TqJ.u4 {S:Nat} (h:TqJ W0 F x s k r L v7 v8 v9 v10 w) (h4:L 4=false) (hall:∀ i,i < 4→L i=true) (gS:W0.heap.size≤S) (hbs:BoxN w S 25 (x.cells s ++ (xCon r).cells (.slice none 0 0))) :
  TqJ W0 F x s k r (upd L 4) v7 v8 v9 v10 (((((w.setCell ⟨F,0,none⟩ (.int .u8 k)).setCell ⟨F,1,none⟩ (.string ⟨#[]⟩)).setCell ⟨F,2,none⟩ (.string ⟨#[]⟩)).setCell ⟨F,3,none⟩ (.int .i64 0)).setCell ⟨F,4,none⟩ (.slice (some ⟨S,0,none⟩) 2 2)):=by
 have h5:upd L 4 4=true:=by simp [upd]
 exact ⟨fun b => (by rw [h5] at b;cases b),fun a => h.f0 (by simpa [upd] using a),fun a => h.f1 (by simpa [upd] using a),fun _ b => (by rw [h5] at b;cases b),fun _ b => (by rw [h5] at b;cases b),fun _ => ⟨S,w,h.bw h4,gS,hbs,rfl⟩,fun i _ b => (by show (if i=4 then true else L i)=true;rw [if_neg (by omega)];exact hall i b),fun _ => (by show (if 2=4 then true else L 2)=true;exact hall 2 (by decide))⟩
end
set_option maxHeartbeats 4000000 in
set_option maxRecDepth 100000 in
theorem twice10_any (w:World):Calls Tryz.prog 52 #[] w fun e w' => ∃ B,e = .returned (.agg #[.int .u8 6,.string ⟨#[]⟩,.string ⟨#[]⟩,.int .i64 0,.slice (some ⟨B,0,none⟩) 2 2])∧RdE w' [xMax,xCon m2] (.slice (some ⟨B,0,none⟩) 2 2)∧Below w.heap.size w w':=by
 have HN:=Lib.hid (fun W => now10_any mSpot W)
 have HC:=Lib.hid (fun r W => con10_any r W)
 have z0:=BoxN.new w [.int .u8 0,.string ⟨#[]⟩,.string ⟨#[]⟩,.int .i64 0,.slice none 0 0] 25
 have HZ:=Lib.hid z0
 clear z0
 go_enter Tryz.func52,Tryz.ntmps52
 go_wp2_with (first | (go_at_call 28;refine (HN.out _).mono ?_;rintro e w1 ⟨rfl,hb1⟩) | (go_at_call 22;refine (HC.out m3 _).mono ?_;rintro e w2 ⟨rfl,hb2⟩))
 have hz:w.heap.size < w2.heap.size:=by have:=hb1.size;have:=hb2.size;simp at *;omega
 have hbw:Below w.heap.size w w2:=(below_a1 w _).trans ((hb1.trans (hb2.mono hb1.size)).mono (by simp))
 have HZ2:BoxN w2 w.heap.size 25 [.int .u8 0,.string ⟨#[]⟩,.string ⟨#[]⟩,.int .i64 0,.slice none 0 0]:=(HZ.out.below hb1 (by simp)).below hb2 (by have:=hb1.size;simp at *;omega)
 obtain ⟨W1,hW1⟩:∃ W1,W1=(w2.alloc (.cells #[.int .u8 3,.string ⟨#[]⟩,.string mSpot,.int .i64 0,.slice none 0 0,.int .u8 1,.string m3,.string ⟨#[]⟩,.int .i64 0,.slice none 0 0] 25)).alloc (.cells #[.int .u8 5,.string ⟨#[]⟩,.string ⟨#[]⟩,.int .i64 0,.slice (some ⟨w2.heap.size,0,none⟩) 2 2] 25):=⟨_,rfl⟩
 rw [← hW1]
 have hS0:=(BoxN.new w2 (xNow.cells (.slice none 0 0) ++ (xCon m3).cells (.slice none 0 0)) 25).alloc (.cells #[.int .u8 5,.string ⟨#[]⟩,.string ⟨#[]⟩,.int .i64 0,.slice (some ⟨w2.heap.size,0,none⟩) 2 2] 25)
 have hB0:=BoxN.new (w2.alloc (.cells #[.int .u8 3,.string ⟨#[]⟩,.string mSpot,.int .i64 0,.slice none 0 0,.int .u8 1,.string m3,.string ⟨#[]⟩,.int .i64 0,.slice none 0 0] 25)) (xSub.cells (.slice (some ⟨w2.heap.size,0,none⟩) 2 2)) 25
 rw [World.size_alloc] at hB0
 have T1:TwG w.heap.size W1 (w2.heap.size+1) xSub (.slice (some ⟨w2.heap.size,0,none⟩) 2 2):=by
  rw [hW1]
  exact fun _ hk => ⟨hB0.kp hk (by omega),rdE_two (s1:=.slice none 0 0) (s2:=.slice none 0 0) (by decide) (by decide) (fun i u h => (hS0.kp hk (by omega)).cell h) (rdE_nil _) (rdE_nil _)⟩
 have HZ1:BoxN W1 w.heap.size 25 [.int .u8 0,.string ⟨#[]⟩,.string ⟨#[]⟩,.int .i64 0,.slice none 0 0]:=by rw [hW1];exact (HZ2.alloc _).alloc _
 have hbw1:Below w.heap.size w W1:=by rw [hW1];exact hbw.trans ((below_a2 w2 _ _).mono (by omega))
 have hz1:w2.heap.size+1 < W1.heap.size:=(T1 _ (Kp.of (Below.refl _ _))).b.lt
 clear hW1 hS0 hB0 HZ2 hbw hb1 hb2 HZ HN
 generalize w2.heap.size=S1 at *
 clear w1 w2
 have c0:W1.cell? ⟨S1+1,0,none⟩=some (.int .u8 5):=(T1 _ (Kp.of (Below.refl _ _))).b.cell (j:=0) rfl
 have c1:W1.cell? ⟨S1+1,1,none⟩=some (.string ⟨#[]⟩):=(T1 _ (Kp.of (Below.refl _ _))).b.cell (j:=1) rfl
 have c2:W1.cell? ⟨S1+1,2,none⟩=some (.string ⟨#[]⟩):=(T1 _ (Kp.of (Below.refl _ _))).b.cell (j:=2) rfl
 have c3:W1.cell? ⟨S1+1,3,none⟩=some (.int .i64 0):=(T1 _ (Kp.of (Below.refl _ _))).b.cell (j:=3) rfl
 have c4:W1.cell? ⟨S1+1,4,none⟩=some (.slice (some ⟨S1,0,none⟩) 2 2):=(T1 _ (Kp.of (Below.refl _ _))).b.cell (j:=4) rfl
 go_upto_region 3 with (fail)
 go_cut [2] from 7 to 10 (fun v wc => ∃ B S,v = .pointer (some ⟨B,0,none⟩)∧w.heap.size < B∧Hid (TwG w.heap.size wc B xMax (.slice (some ⟨S,0,none⟩) 2 2))∧Hid (Below w.heap.size w wc)∧Hid (BoxN wc w.heap.size 25 [.int .u8 0,.string ⟨#[]⟩,.string ⟨#[]⟩,.int .i64 0,.slice none 0 0]))
 case first =>
  have HT:=Lib.hid T1
  have HW:=Lib.hid hbw1
  have HZ3:=Lib.hid HZ1
  have hz2:w.heap.size < W1.heap.size:=HZ1.lt
  clear T1 HZ1 hbw1 c0 c1 c2 c3 c4
  refine wp_region_inv (fun L a w' => ∃ v7 v8 v9 v10 v2,a=⟨#[.pointer (some ⟨w.heap.size,0,none⟩),.pointer (some ⟨S1+1,0,none⟩),v2,.agg #[.int .u8 3,.string ⟨#[]⟩,.string mSpot,.int .i64 0,.slice none 0 0],.agg #[.int .u8 1,.string m3,.string ⟨#[]⟩,.int .i64 0,.slice none 0 0],.slice (some ⟨S1,0,none⟩) 2 2,.agg #[.int .u8 5,.string ⟨#[]⟩,.string ⟨#[]⟩,.int .i64 0,.slice (some ⟨S1,0,none⟩) 2 2],v7,v8,v9,v10,undef,undef,undef,undef],[]⟩∧TqI W1 xSub (.slice (some ⟨S1,0,none⟩) 2 2) 7 m0 L v7 v8 v9 v10 v2 w') (by kernel_rfl) (by kernel_rfl) ?_ ?_ ?_
  ·exact ⟨_,_,_,_,_,rfl,TqI.start (Below.refl _ _).drew⟩
  ·rintro L a w' ⟨v7,v8,v9,v10,v2,rfl,h⟩ i o ho hL hp
   have hi:i < 6:=by simpa using (Array.getElem?_eq_some_iff.1 ho).1
   have hi2:i=0∨i=1∨i=2∨i=3∨i=4∨i=5:=by omega
   clear hi
   rcases hi2 with rfl | rfl | rfl | rfl | rfl | rfl
   ·refine wpOp_step rfl ?_
    intro K hK
    have hq:=(HT.out _ (Kp.of h.bw)).b
    have c0:w'.cell? ⟨S1+1,0,none⟩=some (.int .u8 5):=hq.cell (j:=0) rfl
    have c1:w'.cell? ⟨S1+1,1,none⟩=some (.string ⟨#[]⟩):=hq.cell (j:=1) rfl
    have c2:w'.cell? ⟨S1+1,2,none⟩=some (.string ⟨#[]⟩):=hq.cell (j:=2) rfl
    have c3:w'.cell? ⟨S1+1,3,none⟩=some (.int .i64 0):=hq.cell (j:=3) rfl
    have c4:w'.cell? ⟨S1+1,4,none⟩=some (.slice (some ⟨S1,0,none⟩) 2 2):=hq.cell (j:=4) rfl
    go_simp
    exact hK _ _ ⟨_,_,_,_,_,rfl,h.u0 hL⟩
   ·refine wpOp_step rfl ?_
    intro K hK
    go_simp
    refine (HC.out m0 _).mono ?_
    rintro e w4 ⟨rfl,hb4⟩
    exact hK _ _ ⟨_,_,_,_,_,rfl,(h.ext hb4).u1 hL⟩
   ·refine wpOp_step rfl ?_
    intro K hK
    obtain rfl:=h.f0 (pred_spec ho hp (j:=0) (by kernel_rfl))
    obtain rfl:=h.f1 (pred_spec ho hp (j:=1) (by kernel_rfl))
    simp only [Ex.val]
    go_simp
    exact hK _ _ ⟨_,_,_,_,_,rfl,(h.ext (below_a1 _ _)).u2 hL h.bw.size (BoxN.new _ _ _)⟩
   ·refine wpOp_step rfl ?_
    intro K hK
    obtain ⟨S,rfl,_,_⟩:=h.f2 (pred_spec ho hp (j:=2) (by kernel_rfl)) (h.open5 (by decide) hL)
    go_simp
    exact hK _ _ ⟨_,_,_,_,_,rfl,h.u3 hL (pred_spec ho hp (j:=2) (by kernel_rfl))⟩
   ·refine wpOp_step rfl ?_
    intro K hK
    go_simp
    exact hK _ _ ⟨_,_,_,_,_,rfl,(h.ext (below_a1 _ _)).u4 hL h.bw.size (BoxN.new _ zEx _)⟩
   ·refine wpOp_step rfl ?_
    intro K hK
    have p2:=pred_spec ho hp (j:=2) (by kernel_rfl)
    obtain rfl:=h.f3 (pred_spec ho hp (j:=3) (by kernel_rfl)) hL
    obtain ⟨X,rfl,hX,hbx⟩:=h.f4 (pred_spec ho hp (j:=4) (by kernel_rfl)) hL
    obtain ⟨S,rfl,gS,hbs⟩:=h.f2 p2 hL
    have hall:∀ i,i < 5→L i=true:=fun i hi => by
     have hi2:i=0∨i=1∨i=2∨i=3∨i=4:=by omega
     rcases hi2 with rfl | rfl | rfl | rfl | rfl
     all_goals exact pred_spec ho hp (by kernel_rfl)
    have y0:w'.cell? ⟨X,0,none⟩=some (.int .u8 0):=hbx.cell (j:=0) rfl
    have y1:w'.cell? ⟨X,1,none⟩=some (.string ⟨#[]⟩):=hbx.cell (j:=1) rfl
    have y2:w'.cell? ⟨X,2,none⟩=some (.string ⟨#[]⟩):=hbx.cell (j:=2) rfl
    have y3:w'.cell? ⟨X,3,none⟩=some (.int .i64 0):=hbx.cell (j:=3) rfl
    have y4:w'.cell? ⟨X,4,none⟩=some (.slice none 0 0):=hbx.cell (j:=4) rfl
    have f0:=hbx.frozen 0
    have f1:=hbx.frozen 1
    have f2:=hbx.frozen 2
    have f3:=hbx.frozen 3
    have f4:=hbx.frozen 4
    simp only [Ex.val,Ex.k,Ex.ra,Ex.nm,Ex.d]
    go_simp
    exact hK _ _ ⟨_,_,_,_,_,rfl,h.u5 hall hX hbx gS hbs⟩
  ·rintro L a w' ⟨v7,v8,v9,v10,v2,rfl,h⟩ hLL
   obtain ⟨X,S,rfl,hX,gS,hS,hBX⟩:=h.f5 (hLL 5 (by decide))
   have hF:w.heap.size < X∧Hid (TwG w.heap.size w' X xMax (.slice (some ⟨S,0,none⟩) 2 2))∧Hid (Below w.heap.size w w')∧Hid (BoxN w' w.heap.size 25 [.int .u8 0,.string ⟨#[]⟩,.string ⟨#[]⟩,.int .i64 0,.slice none 0 0]):=⟨by omega,Lib.hid (HT.out.next (by decide) h.bw hS (by omega) hBX (by omega)),Lib.hid (HW.out.trans (h.bw.mono HW.out.size)),Lib.hid (HZ3.out.below h.bw HZ3.out.lt)⟩
   have HF:=Lib.hid hF
   clear hF h hLL hS hBX hX
   go_wp2
   go_meet
   exact ⟨X,S,rfl,HF.out⟩
 case rest =>
  obtain ⟨B,S,rfl,hB,HT,HW,HZ3⟩:=hcut
  clear T1 HZ1 hbw1 c0 c1 c2 c3 c4 hz1 hz
  have hzw:w.heap.size < wc.heap.size:=HZ3.out.lt
  go_wp2_with fail
  refine wp_region_inv (fun L a w' => ∃ v7 v8 v9 v10,a=⟨#[.pointer (some ⟨w.heap.size,0,none⟩),.pointer (some ⟨S1+1,0,none⟩),.pointer (some ⟨B,0,none⟩),.agg #[.int .u8 3,.string ⟨#[]⟩,.string mSpot,.int .i64 0,.slice none 0 0],.agg #[.int .u8 1,.string m3,.string ⟨#[]⟩,.int .i64 0,.slice none 0 0],.slice (some ⟨S1,0,none⟩) 2 2,.agg #[.int .u8 5,.string ⟨#[]⟩,.string ⟨#[]⟩,.int .i64 0,.slice (some ⟨S1,0,none⟩) 2 2],u7,u8,u9,u10,v7,v8,v9,v10],[]⟩∧TqJ wc w.heap.size xMax (.slice (some ⟨S,0,none⟩) 2 2) 6 m2 L v7 v8 v9 v10 w') (by kernel_rfl) (by kernel_rfl) ?_ ?_ ?_
  ·exact ⟨_,_,_,_,rfl,TqJ.start (Below.refl _ _).drew⟩
  ·rintro L a w' ⟨v7,v8,v9,v10,rfl,h⟩ i o ho hL hp
   have hi:i < 5:=by simpa using (Array.getElem?_eq_some_iff.1 ho).1
   have hi2:i=0∨i=1∨i=2∨i=3∨i=4:=by omega
   clear hi
   rcases hi2 with rfl | rfl | rfl | rfl | rfl
   ·refine wpOp_step rfl ?_
    intro K hK
    have hq:=(HT.out _ (Kp.of (h.bw (h.open4 (by decide) hL)))).b
    have c0:w'.cell? ⟨B,0,none⟩=some (.int .u8 7):=hq.cell (j:=0) rfl
    have c1:w'.cell? ⟨B,1,none⟩=some (.string ⟨#[]⟩):=hq.cell (j:=1) rfl
    have c2:w'.cell? ⟨B,2,none⟩=some (.string ⟨#[]⟩):=hq.cell (j:=2) rfl
    have c3:w'.cell? ⟨B,3,none⟩=some (.int .i64 0):=hq.cell (j:=3) rfl
    have c4:w'.cell? ⟨B,4,none⟩=some (.slice (some ⟨S,0,none⟩) 2 2):=hq.cell (j:=4) rfl
    go_simp
    exact hK _ _ ⟨_,_,_,_,rfl,h.u0 hL⟩
   ·refine wpOp_step rfl ?_
    intro K hK
    have h4:=h.open4 (by decide) hL
    go_simp
    refine (HC.out m2 _).mono ?_
    rintro e w4 ⟨rfl,hb4⟩
    exact hK _ _ ⟨_,_,_,_,rfl,(h.ext h4 hb4).u1 hL⟩
   ·refine wpOp_step rfl ?_
    intro K hK
    have h4:=h.open4 (by decide) hL
    obtain rfl:=h.f0 (pred_spec ho hp (j:=0) (by kernel_rfl))
    obtain rfl:=h.f1 (pred_spec ho hp (j:=1) (by kernel_rfl))
    simp only [Ex.val]
    go_simp
    exact hK _ _ ⟨_,_,_,_,rfl,(h.ext h4 (below_a1 _ _)).u2 hL (h.bw h4).size (BoxN.new _ _ _)⟩
   ·refine wpOp_step rfl ?_
    intro K hK
    have p2:=pred_spec ho hp (j:=2) (by kernel_rfl)
    obtain ⟨S',rfl,_,_⟩:=h.f2 p2 (h.open4 (by decide) hL)
    go_simp
    exact hK _ _ ⟨_,_,_,_,rfl,h.u3 hL p2⟩
   ·refine wpOp_step rfl ?_
    intro K hK
    have p2:=pred_spec ho hp (j:=2) (by kernel_rfl)
    obtain rfl:=h.f3 (pred_spec ho hp (j:=3) (by kernel_rfl)) hL
    obtain ⟨S',rfl,gS,hbs⟩:=h.f2 p2 hL
    have hall:∀ i,i < 4→L i=true:=fun i hi => by
     have hi2:i=0∨i=1∨i=2∨i=3:=by omega
     rcases hi2 with rfl | rfl | rfl | rfl
     all_goals exact pred_spec ho hp (by kernel_rfl)
    have hbx:=HZ3.out.below (h.bw hL) HZ3.out.lt
    have y0:w'.cell? ⟨w.heap.size,0,none⟩=some (.int .u8 0):=hbx.cell (j:=0) rfl
    have y1:w'.cell? ⟨w.heap.size,1,none⟩=some (.string ⟨#[]⟩):=hbx.cell (j:=1) rfl
    have y2:w'.cell? ⟨w.heap.size,2,none⟩=some (.string ⟨#[]⟩):=hbx.cell (j:=2) rfl
    have y3:w'.cell? ⟨w.heap.size,3,none⟩=some (.int .i64 0):=hbx.cell (j:=3) rfl
    have y4:w'.cell? ⟨w.heap.size,4,none⟩=some (.slice none 0 0):=hbx.cell (j:=4) rfl
    have f0:=hbx.frozen 0
    have f1:=hbx.frozen 1
    have f2:=hbx.frozen 2
    have f3:=hbx.frozen 3
    have f4:=hbx.frozen 4
    simp only [Ex.val,Ex.k,Ex.ra,Ex.nm,Ex.d]
    go_simp
    exact hK _ _ ⟨_,_,_,_,rfl,h.u4 hL hall gS hbs⟩
  ·rintro L a w' ⟨v7,v8,v9,v10,rfl,h⟩ hLL
   obtain ⟨S',w5,hb5,gS,hS,rfl⟩:=h.f5 (hLL 4 (by decide))
   have hz5:=HZ3.out.below hb5 HZ3.out.lt
   have hk:Kp w.heap.size w5 (((((w5.setCell ⟨w.heap.size,0,none⟩ (.int .u8 6)).setCell ⟨w.heap.size,1,none⟩ (.string ⟨#[]⟩)).setCell ⟨w.heap.size,2,none⟩ (.string ⟨#[]⟩)).setCell ⟨w.heap.size,3,none⟩ (.int .i64 0)).setCell ⟨w.heap.size,4,none⟩ (.slice (some ⟨S',0,none⟩) 2 2)):=((((Kp.set _ _ _).trans (Kp.set _ _ _)).trans (Kp.set _ _ _)).trans (Kp.set _ _ _)).trans (Kp.set _ _ _)
   have hR:=rdE_two (s1:=.slice (some ⟨S,0,none⟩) 2 2) (s2:=.slice none 0 0) (x:=xMax) (y:=xCon m2) (cap:=2) (by decide) (by decide) (fun _ _ e => (hS.kp hk (by omega)).cell e) (HT.out _ ((Kp.of hb5).trans hk)).r (rdE_nil _)
   have hb:=(((((HW.out.trans (hb5.mono HW.out.size)).setCell (p:=⟨w.heap.size,0,none⟩) (Nat.le_refl _) (.int .u8 6)).setCell (p:=⟨w.heap.size,1,none⟩) (Nat.le_refl _) (.string ⟨#[]⟩)).setCell (p:=⟨w.heap.size,2,none⟩) (Nat.le_refl _) (.string ⟨#[]⟩)).setCell (p:=⟨w.heap.size,3,none⟩) (Nat.le_refl _) (.int .i64 0)).setCell (p:=⟨w.heap.size,4,none⟩) (Nat.le_refl _) (.slice (some ⟨S',0,none⟩) 2 2)
   have hZ:=((((hz5.set 0 (.int .u8 6)).set 1 (.string ⟨#[]⟩)).set 2 (.string ⟨#[]⟩)).set 3 (.int .i64 0)).set 4 (.slice (some ⟨S',0,none⟩) 2 2)
   generalize ((((w5.setCell ⟨w.heap.size,0,none⟩ (.int .u8 6)).setCell ⟨w.heap.size,1,none⟩ (.string ⟨#[]⟩)).setCell ⟨w.heap.size,2,none⟩ (.string ⟨#[]⟩)).setCell ⟨w.heap.size,3,none⟩ (.int .i64 0)).setCell ⟨w.heap.size,4,none⟩ (.slice (some ⟨S',0,none⟩) 2 2)=W9 at hR hb hZ ⊢
   have y0:W9.cell? ⟨w.heap.size,0,none⟩=some (.int .u8 6):=hZ.cell (j:=0) rfl
   have y1:W9.cell? ⟨w.heap.size,1,none⟩=some (.string ⟨#[]⟩):=hZ.cell (j:=1) rfl
   have y2:W9.cell? ⟨w.heap.size,2,none⟩=some (.string ⟨#[]⟩):=hZ.cell (j:=2) rfl
   have y3:W9.cell? ⟨w.heap.size,3,none⟩=some (.int .i64 0):=hZ.cell (j:=3) rfl
   have y4:W9.cell? ⟨w.heap.size,4,none⟩=some (.slice (some ⟨S',0,none⟩) 2 2):=hZ.cell (j:=4) rfl
   have HF:=Lib.hid (And.intro hR hb)
   clear hR hb hk hS h hLL hz5 hZ
   go_wp2
   refine bodyPost_ret (v:=.agg #[.int .u8 6,.string ⟨#[]⟩,.string ⟨#[]⟩,.int .i64 0,.slice (some ⟨S',0,none⟩) 2 2]) (by simp [results,Tryz.results52,go_sem,y0,y1,y2,y3,y4]) rfl ?_
   exact ⟨_,rfl,HF.out.1,HF.out.2⟩
end Go.Proofs.YtknpnhodpgajbaaGreatDoor

namespace Go.Proofs.YtknpnhodpgajbaaGreatDoor
open Go.RowKit
theorem eqv_fl (f:Fl) (w:World):(Op.equalIn 10000 52 (.agg #[.int .i64 f.d,.string f.fr,.string f.rc,.string f.cy,.string f.am]) (.agg #[.int .i64 f.d,.string f.fr,.string f.rc,.string f.cy,.string f.am])).run Tryz.prog w = .ok true w:=by
 have hS:Tryz.prog.underlying 52=some (.struct (Tryz.prog.fieldsOf 52)):=by kernel_rfl
 have hp:Tryz.prog.stoodInHeld 52=false:=by kernel_rfl
 rw [show (10000:Nat)=9999+1 from rfl,run_equalIn_agg w 9999 _ _ _ hS hp]
 simp only [Program.fieldsOf,Tryz.underlying52]
 go_simp
set_option maxHeartbeats 1000000 in
set_option maxRecDepth 100000 in
theorem sameFl_any (l:List Fl) (a b:Option Addr) (c d:Nat) (w:World) (hn:l.length≤1100000) (ha:Rd Fl.cells 5 w a l) (hb:Rd Fl.cells 5 w b l) :
  Calls Tryz.prog 16 #[.slice a l.length c,.slice b l.length d] w fun e w' => e = .returned (.bool true)∧Below w.heap.size w w':=by
 have HA:=Lib.hid ha
 have HB:=Lib.hid hb
 clear ha hb
 have t0:((l.length:Int) != (l.length:Int))=false:=by simp
 go_enter Tryz.func16,Tryz.ntmps16
 go_wp2_with fail
 go_loopw [5] (fun i wr => ∃ (k nq:Nat),k≤l.length∧i = .int .i64 k∧wr=w.drewN nq) (fun i _ => l.length - (intOf i).toNat)
 case atStart => exact ⟨0,0,by omega,rfl,rfl⟩
 case round =>
  obtain ⟨k,mq,hk,rfl,rfl⟩:=hrel
  by_cases hlt:k < l.length
  ·obtain ⟨f,hf⟩:∃ f,l[k]? = some f:=⟨_,List.getElem?_eq_getElem hlt⟩
   obtain ⟨b1,off,rfl,c0,c1,c2,c3,c4⟩:=HA.out.fl hf
   obtain ⟨b2,off2,rfl,d0,d1,d2,d3,d4⟩:=HB.out.fl hf
   have hq:∀ W,(Op.equalIn 10000 52 (.agg #[.int .i64 f.d,.string f.fr,.string f.rc,.string f.cy,.string f.am]) (.agg #[.int .i64 f.d,.string f.fr,.string f.rc,.string f.cy,.string f.am])).run Tryz.prog W = .ok true W:=fun W => eqv_fl f W
   have hk1:(0:Int)≤(k:Int):=by omega
   have hk2:(k:Int) < (l.length:Int):=by omega
   clear hf
   go_wp2
   go_quiet (fail)
   go_wp2
   go_roundw
   case rel => exact ⟨k+1,_,by omega,by go_num,rfl⟩
   case measure => simp [intOf];omega
  ·obtain rfl:k=l.length:=by omega
   go_wp2
   go_ret
   exact ⟨rfl,below_drewN (Below.refl _ _) _⟩
end Go.Proofs.YtknpnhodpgajbaaGreatDoor

namespace Go.Proofs.YtknpnhodpgajbaaGreatDoor
open Go.RowKit
def flP:Fl:=⟨5,mAnn,mBob,mUSD,m1⟩
def flS:Fl:=⟨5,mBob,mAnn,mUSD,m3⟩
structure Lk (w:World):Prop where
 s:LookS w
 p:LookP w
 o:LookO w
theorem Lk.frame {w w':World} (h:Lk w) (hb:Below w.heap.size w w'):Lk w':=⟨h.s.frame hb,h.p.frame hb,h.o.frame hb⟩
theorem known_small:∀ f ∈ fKnown,f.small:=by
 intro f hf
 simp [fKnown] at hf
 rcases hf with rfl | rfl <;> exact ⟨by decide,by decide⟩
theorem flows_al1 (B K:Nat) (W:World) (hr:RdE W [xMax,xCon m2] (.slice (some ⟨B,0,none⟩) 2 2)) (hk:Rd Fx.cells 3 W (some ⟨K,0,none⟩) fKnown) (hl:Lk W) :
  Calls Tryz.prog 12 #[.agg #[.int .u8 2,.string ⟨#[65,110,110]⟩,.string ⟨#[66,111,98]⟩,.string ⟨#[85,83,68]⟩,.int .u8 6,.string ⟨#[]⟩,.string ⟨#[]⟩,.int .i64 0,.slice (some ⟨B,0,none⟩) 2 2,.int .i64 0,.slice none 0 0,.slice none 0 0],.int .i64 5,.agg #[.slice (some ⟨K,0,none⟩) 2 2,.slice none 0 0]] W
   fun e w' => ∃ ad cap,e = .returned (.tuple #[.slice ad 1 cap,.int .i64 0])∧Below W.heap.size W w'∧Rd Fl.cells 5 w' ad [flP]:=by
 have h:=mflows_any cPay (.slice (some ⟨B,0,none⟩) 2 2) (.slice none 0 0) (.slice none 0 0) 5 ⟨fKnown,[],some ⟨K,0,none⟩,none,2,0⟩ W
  ⟨by decide,⟨hr,rdI_nil _,rdC_nil _,by decide,by decide⟩,hl.s,hl.p,hl.o,⟨hk,fun j x h => (by simp at h),(by show fKnown.length≤1100000;decide),Nat.zero_le _⟩,known_small,fun c h => by cases h⟩
 rw [befR_pay] at h
 refine Calls.mono (by exact h) ?_
 rintro e w' ⟨ad,cap,rfl,hb,_,_,hr2⟩
 exact ⟨ad,cap,rfl,hb,hr2⟩
theorem flows_al2 (D K:Nat) (W:World) (hr:RdC W [cPay] (.slice (some ⟨D,0,none⟩) 1 1)) (hk:Rd Fx.cells 3 W (some ⟨K,0,none⟩) fKnown) (hl:Lk W) :
  Calls Tryz.prog 12 #[.agg #[.int .u8 4,.string ⟨#[]⟩,.string ⟨#[]⟩,.string ⟨#[]⟩,.int .u8 1,.string ⟨#[45,51]⟩,.string ⟨#[]⟩,.int .i64 0,.slice none 0 0,.int .i64 0,.slice none 0 0,.slice (some ⟨D,0,none⟩) 1 1],.int .i64 5,.agg #[.slice (some ⟨K,0,none⟩) 2 2,.slice none 0 0]] W
   fun e w' => ∃ ad cap,e = .returned (.tuple #[.slice ad 1 cap,.int .i64 0])∧Below W.heap.size W w'∧Rd Fl.cells 5 w' ad [flS]:=by
 have h:=mflows_any cScale (.slice none 0 0) (.slice none 0 0) (.slice (some ⟨D,0,none⟩) 1 1) 5 ⟨fKnown,[],some ⟨K,0,none⟩,none,2,0⟩ W
  ⟨by decide,⟨rdE_nil _,rdI_nil _,hr,by decide,by decide⟩,hl.s,hl.p,hl.o,⟨hk,fun j x h => (by simp at h),(by show fKnown.length≤1100000;decide),Nat.zero_le _⟩,known_small,fun c h => by cases h⟩
 rw [befR_scale] at h
 refine Calls.mono (by exact h) ?_
 rintro e w' ⟨ad,cap,rfl,hb,_,_,hr2⟩
 exact ⟨ad,cap,rfl,hb,hr2⟩
set_option maxHeartbeats 2000000 in
set_option maxRecDepth 100000 in
theorem alive10_any (w:World) (hl:Lk w):Calls Tryz.prog 19 #[] w fun e w' => e = .returned (.bool true)∧Below w.heap.size w w':=by
 have HL:=Lib.hid hl
 have HT:=Lib.hid (fun W => twice10_any W)
 have HP:=Lib.hid (fun k r n d ad m cap W => pay10_any k r n d ad m cap W)
 have HK:=Lib.hid (fun W => known10_any W)
 have HC:=Lib.hid (fun r W => con10_any r W)
 have HF1:=Lib.hid flows_al1
 have HF2:=Lib.hid flows_al2
 have HS:Hid (∀ a b c d W,Rd Fl.cells 5 W a [flP]→Rd Fl.cells 5 W b [flP]→Calls Tryz.prog 16 #[.slice a 1 c,.slice b 1 d] W fun e w' => e = .returned (.bool true)∧Below W.heap.size W w'):=Lib.hid (fun a b c d W h1 h2 => sameFl_any [flP] a b c d W (by decide) h1 h2)
 have HS2:Hid (∀ a b c d W,Rd Fl.cells 5 W a [flS]→Rd Fl.cells 5 W b [flS]→Calls Tryz.prog 16 #[.slice a 1 c,.slice b 1 d] W fun e w' => e = .returned (.bool true)∧Below W.heap.size W w'):=Lib.hid (fun a b c d W h1 h2 => sameFl_any [flS] a b c d W (by decide) h1 h2)
 clear hl
 go_enter Tryz.func19,Tryz.ntmps19
 go_upto_region 2 with (fail)
 go_wp2_with (first | (go_at_call 52;refine (HT.out _).mono ?_;rintro e w1 ⟨B,rfl,r1,hb1⟩) | (go_at_call 29;refine (HP.out _ _ _ _ _ _ _ _).mono ?_;rintro e w2 ⟨rfl,hb2⟩;have hb02:=hb1.trans (hb2.mono hb1.size);have r2:=r1.frame hb2) | (go_at_call 27;refine (HK.out _).mono ?_;rintro e w3 ⟨K,rfl,k3,hb3⟩;have hb03:=hb02.trans (hb3.mono hb02.size);have r3:=r2.frame hb3) | (go_at_call 12;refine (HF1.out B K _ r3 k3 (HL.out.frame hb03)).mono ?_;rintro e w4 ⟨ad4,cap4,rfl,hb4,fl4⟩;have hb04:=hb03.trans (hb4.mono hb03.size)))
 have HF4:=Lib.hid fl4
 have Hb4:=Lib.hid hb04
 clear fl4 hb04 hb03 hb02 hb1 hb2 hb3 hb4 r1 r2 r3 k3 HF1
 go_upto_region 3 with (fail)
 go_wp2_with (first | (go_at_call 22;refine (HC.out mM3 _).mono ?_;rintro e w5 ⟨rfl,hb5⟩) | (go_at_call 52;refine (HT.out _).mono ?_;rintro e w6 ⟨B2,rfl,r6,hb6⟩) | (go_at_call 29;refine (HP.out _ _ _ _ _ _ _ _).mono ?_;rintro e w7 ⟨rfl,hb7⟩;have hb47:Below w4.heap.size w4 w7:=hb5.trans ((hb6.trans (hb7.mono hb6.size)).mono hb5.size);have hD:=rdC_one (cap:=1) (B:=w7.heap.size) (fun i u h => cell_new w7 (cPay.cells (.slice (some ⟨B2,0,none⟩) 2 2) (.slice none 0 0) (.slice none 0 0)) 29 h) ⟨(r6.frame hb7).frame (below_a1 w7 _),rdI_nil _,rdC_nil _,by decide,by decide⟩;have hb48:=hb47.trans ((below_a1 w7 (.cells (cPay.cells (.slice (some ⟨B2,0,none⟩) 2 2) (.slice none 0 0) (.slice none 0 0)).toArray 29)).mono hb47.size)) | (go_at_call 27;refine (HK.out _).mono ?_;rintro e w8 ⟨K2,rfl,k8,hb8⟩;have hb49:Below w4.heap.size w4 w8:=hb48.trans (hb8.mono hb48.size);have D8:=hD.frame hb8) | (go_at_call 12;refine (HF2.out w7.heap.size K2 _ D8 k8 (HL.out.frame (Hb4.out.trans (hb49.mono Hb4.out.size)))).mono ?_;rintro e w9 ⟨ad9,cap9,rfl,hb9,fl9⟩;have hb410:=hb49.trans (hb9.mono hb49.size)))
 have q1:Rd Fl.cells 5 (w9.alloc (.cells #[.int .i64 5,.string ⟨#[65,110,110]⟩,.string ⟨#[66,111,98]⟩,.string ⟨#[85,83,68]⟩,.string ⟨#[49]⟩] 52)) (some ⟨w9.heap.size,0,none⟩) [flP]:=(own_rd (own_fl1 w9 flP w9.heap.size (Nat.le_refl _))).1
 have hb11:=hb410.trans ((below_a1 w9 (.cells #[.int .i64 5,.string ⟨#[65,110,110]⟩,.string ⟨#[66,111,98]⟩,.string ⟨#[85,83,68]⟩,.string ⟨#[49]⟩] 52)).mono hb410.size)
 refine (HS.out ad4 _ cap4 1 _ (HF4.out.below hb11) q1).mono ?_
 rintro e w10 ⟨rfl,hb12⟩
 have hb13:=hb11.trans (hb12.mono hb11.size)
 have fl10:=(fl9.below (below_a1 w9 (.cells #[.int .i64 5,.string ⟨#[65,110,110]⟩,.string ⟨#[66,111,98]⟩,.string ⟨#[85,83,68]⟩,.string ⟨#[49]⟩] 52))).below hb12
 have HFl:=Lib.hid fl10
 have Hb13:=Lib.hid hb13
 clear fl10 hb13 hb11 hb12 q1 fl9 hb410 hb9 D8 hb49 hb8 k8 hb48 hD hb47 hb7 hb6 r6 hb5
 go_wp2_with fail
 have q2:Rd Fl.cells 5 (w10.alloc (.cells #[.int .i64 5,.string ⟨#[66,111,98]⟩,.string ⟨#[65,110,110]⟩,.string ⟨#[85,83,68]⟩,.string ⟨#[51]⟩] 52)) (some ⟨w10.heap.size,0,none⟩) [flS]:=(own_rd (own_fl1 w10 flS w10.heap.size (Nat.le_refl _))).1
 have hb14:=below_a1 w10 (.cells #[.int .i64 5,.string ⟨#[66,111,98]⟩,.string ⟨#[65,110,110]⟩,.string ⟨#[85,83,68]⟩,.string ⟨#[51]⟩] 52)
 refine (HS2.out ad9 _ cap9 1 _ (HFl.out.below hb14) q2).mono ?_
 rintro e w11 ⟨rfl,hb15⟩
 have hbE:Below w.heap.size w w11:=Hb4.out.trans ((Hb13.out.trans ((hb14.trans (hb15.mono hb14.size)).mono Hb13.out.size)).mono Hb4.out.size)
 have HbE:=Lib.hid hbE
 clear hbE hb14 hb15 q2
 go_wp2
 go_ret
 exact ⟨rfl,HbE.out⟩
end Go.Proofs.YtknpnhodpgajbaaGreatDoor

namespace Go.Proofs.YtknpnhodpgajbaaGreatDoor
open Go.RowKit
structure Bx2 (W:World) (B:Nat) (c:Con) (es dd ss:Value) (E:EvD):Prop where
 c:BoxN W B 29 (c.cells es dd ss)
 v:BoxN W (B+1) 33 [.slice E.af E.F.length E.cf,.slice E.ac E.C.length E.cc]
theorem Bx2.below {W W':World} {B:Nat} {c:Con} {es dd ss:Value} {E:EvD} (h:Bx2 W B c es dd ss E) (hb:Below W.heap.size W W'):Bx2 W' B c es dd ss E:=⟨h.c.below hb h.c.lt,h.v.below hb h.v.lt⟩
end Go.Proofs.YtknpnhodpgajbaaGreatDoor

namespace Go.Proofs.YtknpnhodpgajbaaGreatDoor
open Go.RowKit
structure BxP (W:World) (B:Nat) (a:Con) (es dd ss:Value) (E:EvD):Prop where
 a:BoxN W B 29 (a.cells es dd ss)
 v:BoxN W (B+1) 33 [.slice E.af E.F.length E.cf,.slice E.ac E.C.length E.cc]
theorem BxP.below {W W':World} {B:Nat} {a:Con} {es dd ss:Value} {E:EvD} (h:BxP W B a es dd ss E) (hb:Below W.heap.size W W'):BxP W' B a es dd ss E :=
 ⟨h.a.below hb h.a.lt,h.v.below hb h.v.lt⟩
theorem bxp_world (w:World) (a:Con) (es dd ss:Value) (E:EvD):∃ W,(w.alloc (.cells (a.cells es dd ss).toArray 29)).alloc (.cells #[.slice E.af E.F.length E.cf,.slice E.ac E.C.length E.cc] 33)=W∧Below w.heap.size w W∧w.heap.size+2≤W.heap.size∧BxP W w.heap.size a es dd ss E:=by
 refine ⟨_,rfl,below_a2 _ _ _,by simp,?_⟩
 have h1:=BoxN.new w (a.cells es dd ss) 29
 have h2:=BoxN.new (w.alloc (.cells (a.cells es dd ss).toArray 29)) [.slice E.af E.F.length E.cf,.slice E.ac E.C.length E.cc] 33
 simp only [World.size_alloc] at h2
 exact ⟨h1.alloc _,h2⟩
end Go.Proofs.YtknpnhodpgajbaaGreatDoor
