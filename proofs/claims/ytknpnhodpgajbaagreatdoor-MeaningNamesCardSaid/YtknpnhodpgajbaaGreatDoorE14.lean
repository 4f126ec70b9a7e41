/-
  observable.index at fixings and at choices, Find, Chosen.  Printed by tools/genfind.py. The value of an expression, whether it holds; the error that comes first: plain. Flows as records. The flows of a contract; flows in order: plain. Law 10's examples: plain. Contracts and expressions that a program builds can be read. Variables of any number of cells. rational.Add.  Printed by tools/genratops.py.
-/
import Derived.Test.YtknpnhodpgajbaaGreatDoorE13
import Derived.Test.YtknpnhodpgajbaaGreatDoorE02
import Derived.Test.YtknpnhodpgajbaaGreatDoorE12
import Derived.Test.YtknpnhodpgajbaaGreatDoorE01
import Derived.Test.YtknpnhodpgajbaaGreatDoorE04
import Derived.Test.YtknpnhodpgajbaaGreatDoorE11
namespace Go.Proofs.YtknpnhodpgajbaaGreatDoor
open Go.RowKit
theorem cmpS_zero (a b:ByteArray):decide (cmpS a b=0)=decide (a=b):=by
 unfold cmpS
 by_cases h:slt a b=true
 ·have:a ≠ b:=by rintro rfl;rw [slt_irrefl] at h;cases h
  simp [h,this]
 ·by_cases h2:a=b
  ·subst h2;simp [slt_irrefl]
  ·simp [h,h2]
theorem cmpI_zero (a b:Int):decide (cmpI a b=0)=decide (a=b):=by
 unfold cmpI
 rcases Int.lt_trichotomy a b with h | h | h
 ·simp [h];omega
 ·subst h;simp
 ·rw [if_neg (by omega),if_pos h];simp;omega
theorem orI_zero (a:Int) (l:List Int):decide (orI (a :: l)=0)=(decide (a=0) && decide (orI l=0)):=by
 rw [orI]
 by_cases h:a=0 <;> simp [h]
theorem fxCmp_zero (n1 n2:ByteArray) (d1 d2:Int):decide (fxCmp n1 d1 n2 d2=0)=(decide (n1=n2) && decide (d1=d2)):=by
 rw [fxCmp,orI_zero,orI_zero,cmpS_zero,cmpI_zero]
 simp [orI]
theorem chCmp_zero (p1 p2 n1 n2:ByteArray) (d1 d2:Int):decide (chCmp p1 n1 d1 p2 n2 d2=0)=(decide (p1=p2) && (decide (n1=n2) && decide (d1=d2))):=by
 rw [chCmp,orI_zero,orI_zero,orI_zero,cmpS_zero,cmpS_zero,cmpI_zero]
 simp [orI]
def fxIs (g:Fx) (f:Fx):Bool:=decide (f.nm=g.nm) && decide (f.d=g.d)
def chIs (g:Ch) (f:Ch):Bool:=decide (f.pt=g.pt) && (decide (f.nm=g.nm) && decide (f.d=g.d))
theorem find_idx {α:Type} (p:α→Bool) (l:List α):l.find? p=(l.findIdx? p).bind fun k => l[k]?:=by
 cases hf:l.findIdx? p with
 | none =>
  rw [List.find?_eq_none.2 (fun x hx => by simpa using List.findIdx?_eq_none_iff.1 hf x hx)];rfl
 | some k =>
  obtain ⟨hk,h1,h2⟩:=List.findIdx?_eq_some_iff_getElem.1 hf
  rw [Option.bind_some,List.getElem?_eq_getElem hk]
  exact List.find?_eq_some_iff_getElem.2 ⟨h1,k,hk,rfl,fun j hj => by simpa using h2 j hj⟩
def FxKey (W:World) (B:Nat) (g:Fx):Prop:=W.cell? ⟨B+1,0,none⟩=some (.func (.func 73) #[] #[])∧(∀ i u,g.cells[i]? = some u→W.cell? ⟨B,i,none⟩=some u)
theorem FxKey.below {W W':World} {B:Nat} {g:Fx} (h:FxKey W B g) (hb:Below W.heap.size W W'):FxKey W' B g :=
 ⟨by rw [hb.cell (p:=⟨B+1,0,none⟩) (World.block_lt_of_cell? W _ h.1)];exact h.1,fun i u hu => by
  have h2:=h.2 i u hu
  rw [hb.cell (p:=⟨B,i,none⟩) (World.block_lt_of_cell? W _ h2)];exact h2⟩
set_option maxHeartbeats 1000000 in
set_option maxRecDepth 100000 in
theorem idxClFx_any (f g:Fx) (B:Nat) (w:World) (hk:FxKey w B g) :
  Calls Tryz.prog 212 #[f.val,.pointer (some ⟨B+1,0,none⟩),.pointer (some ⟨B,0,none⟩)] w fun e w' => e = .returned (.bool (fxIs g f))∧Below w.heap.size w w':=by
 have q0:=hk.1
 have k0:=hk.2 0 _ rfl;have k1:=hk.2 1 _ rfl;have k2:=hk.2 2 _ rfl
 have HE:Hid ((fxCmp f.nm f.d g.nm g.d == 0)=fxIs g f):=by
  show _=_
  rw [← show decide (fxCmp f.nm f.d g.nm g.d=0)=fxIs g f from fxCmp_zero f.nm g.nm f.d g.d]
  rw [Bool.eq_iff_iff];simp
 have HC:Hid (∀ W,Calls Tryz.prog 73 #[f.val,g.val] W fun e w' => e = .returned (.int .i64 (fxCmp f.nm f.d g.nm g.d))∧Below W.heap.size W w'):=fun W => fixings_any _ _ _ _ _ _ _
 simp only [Fx.val,fxV] at HC ⊢
 generalize fxCmp f.nm f.d g.nm g.d=C at HC HE
 have hB:B+1 < w.heap.size:=World.block_lt_of_cell? w _ q0
 have hB0:B < w.heap.size:=by omega
 clear hk
 go_enter Tryz.func212,Tryz.ntmps212
 go_wp2_with (go_at_call 73;refine (HC.out _).mono ?_;rintro e w1 ⟨rfl,hb1⟩)
 go_ret
 exact ⟨ret_bool' HE.out,(below_a1 _ _).trans (hb1.mono (by simp))⟩
set_option maxHeartbeats 1000000 in
set_option maxRecDepth 100000 in
theorem idxKFx_any (l:List Fx) (g:Fx) (B:Nat) (ad:Option Addr) (cap:Nat) (w:World) (hn:l.length≤1100000) (hr:Rd Fx.cells 3 w ad l) (hk:FxKey w B g) :
  Calls Tryz.prog 128 #[.slice ad l.length cap,.func (.func 212) #[] #[.pointer (some ⟨B+1,0,none⟩),.pointer (some ⟨B,0,none⟩)]] w fun e w' => e = .returned (.int .i64 (idxR (l.findIdx? (fxIs g))))∧Below w.heap.size w w':=by
 have HK:=Lib.hid hk
 have HD:=Lib.hid hr
 clear hk hr
 go_enter Tryz.func128,Tryz.ntmps128
 go_wp2
 go_loopw [8] (fun i wr => ∃ k:Nat,k≤l.length∧i = .int .i64 k∧Hid (∀ y ∈ l.take k,fxIs g y=false)∧Below w.heap.size w wr) (fun i _ => l.length - (intOf i).toNat)
 case atStart => exact ⟨0,Nat.zero_le _,rfl,Lib.hid (by simp),Below.refl _ _⟩
 case round =>
  obtain ⟨k,hk,rfl,Hall,hbel⟩:=hrel
  by_cases hlt:k < l.length
  ·obtain ⟨f,hf⟩:∃ f,l[k]? = some f:=⟨_,List.getElem?_eq_getElem hlt⟩
   have HRf:Hid (∃ b off,ad=some ⟨b,off,none⟩∧_):=((HD.out.below hbel).fx hf)
   have HC:=Lib.hid (idxClFx_any f g B wr (HK.out.below hbel))
   have HF:=Lib.hid hf
   clear hf
   obtain ⟨b,off,rfl,hc1,hc2,hc3⟩:=HRf
   have hsz:=hbel.size
   simp only [Fx.val,fxV] at HC
   cases hp:fxIs g f with
   | true =>
    have HR:Hid (l.findIdx? (fxIs g)=some k):=findIdx_some HF.out hp Hall.out
    rw [hp] at HC
    clear hp
    go_wp2_with (go_at_call 212;refine HC.out.mono ?_;rintro e w1 ⟨rfl,hb1⟩)
    go_ret
    exact ⟨by rw [HR.out];rfl,hbel.trans (hb1.mono hsz)⟩
   | false =>
    have Hall2:Hid (∀ y ∈ l.take (k+1),fxIs g y=false):=all_take_succ HF.out hp Hall.out
    rw [hp] at HC
    clear hp
    go_wp2_with (go_at_call 212;refine HC.out.mono ?_;rintro e w1 ⟨rfl,hb1⟩)
    go_roundw
    case rel => exact ⟨k+1,by omega,by go_num,Hall2,hbel.trans (hb1.mono hsz)⟩
    case measure => simp [intOf];omega
  ·obtain rfl:k=l.length:=by omega
   have HR:Hid (l.findIdx? (fxIs g)=none):=findIdx_none (by have:=Hall.out;rwa [List.take_length] at this)
   go_wp2
   go_ret
   exact ⟨by rw [HR.out];rfl,hbel⟩
set_option maxHeartbeats 1000000 in
set_option maxRecDepth 100000 in
theorem findFx_any (l:List Fx) (g:Fx) (ad:Option Addr) (cap:Nat) (w:World) (hn:l.length≤1100000) (hr:Rd Fx.cells 3 w ad l) :
  Calls Tryz.prog 208 #[.slice ad l.length cap,g.val,.func (.func 73) #[] #[]] w fun e w' => e = .returned (.int .i64 (idxR (l.findIdx? (fxIs g))))∧Below w.heap.size w w':=by
 have hb0:Below w.heap.size w ((w.alloc (.cells #[.string g.nm,.int .i64 g.d,.string g.vl] 94)).alloc (.cells #[.func (.func 73) #[] #[]] 120)):=below_a2 _ _ _
 have hk:FxKey ((w.alloc (.cells #[.string g.nm,.int .i64 g.d,.string g.vl] 94)).alloc (.cells #[.func (.func 73) #[] #[]] 120)) w.heap.size g:=by
  refine ⟨by go_simp,fun i u hu => ?_⟩
  have hi:i < 3:=(List.getElem?_eq_some_iff.1 hu).1
  match i,hi with
  | 0,_ => (cases hu;go_simp) | 1,_ => (cases hu;go_simp) | 2,_ => (cases hu;go_simp)
 have HC:=Lib.hid (idxKFx_any l g w.heap.size ad cap _ hn (hr.below hb0) hk)
 have HB:=Lib.hid hb0
 clear hk hr hb0
 simp only [Fx.val,fxV]
 go_enter Tryz.func208,Tryz.ntmps208
 go_wp2_with (go_at_call 128;refine HC.out.mono ?_;rintro e w1 ⟨rfl,hb1⟩)
 go_ret
 exact ⟨rfl,HB.out.trans (hb1.mono HB.out.size)⟩
def ChKey (W:World) (B:Nat) (g:Ch):Prop:=W.cell? ⟨B+1,0,none⟩=some (.func (.func 75) #[] #[])∧(∀ i u,g.cells[i]? = some u→W.cell? ⟨B,i,none⟩=some u)
theorem ChKey.below {W W':World} {B:Nat} {g:Ch} (h:ChKey W B g) (hb:Below W.heap.size W W'):ChKey W' B g :=
 ⟨by rw [hb.cell (p:=⟨B+1,0,none⟩) (World.block_lt_of_cell? W _ h.1)];exact h.1,fun i u hu => by
  have h2:=h.2 i u hu
  rw [hb.cell (p:=⟨B,i,none⟩) (World.block_lt_of_cell? W _ h2)];exact h2⟩
set_option maxHeartbeats 1000000 in
set_option maxRecDepth 100000 in
theorem idxClCh_any (f g:Ch) (B:Nat) (w:World) (hk:ChKey w B g) :
  Calls Tryz.prog 133 #[f.val,.pointer (some ⟨B+1,0,none⟩),.pointer (some ⟨B,0,none⟩)] w fun e w' => e = .returned (.bool (chIs g f))∧Below w.heap.size w w':=by
 have q0:=hk.1
 have k0:=hk.2 0 _ rfl;have k1:=hk.2 1 _ rfl;have k2:=hk.2 2 _ rfl;have k3:=hk.2 3 _ rfl
 have HE:Hid ((chCmp f.pt f.nm f.d g.pt g.nm g.d == 0)=chIs g f):=by
  show _=_
  rw [← show decide (chCmp f.pt f.nm f.d g.pt g.nm g.d=0)=chIs g f from chCmp_zero f.pt g.pt f.nm g.nm f.d g.d]
  rw [Bool.eq_iff_iff];simp
 have HC:Hid (∀ W,Calls Tryz.prog 75 #[f.val,g.val] W fun e w' => e = .returned (.int .i64 (chCmp f.pt f.nm f.d g.pt g.nm g.d))∧Below W.heap.size W w'):=fun W => choices_any _ _ _ _ _ _ _ _ _
 simp only [Ch.val,chV] at HC ⊢
 generalize chCmp f.pt f.nm f.d g.pt g.nm g.d=C at HC HE
 have hB:B+1 < w.heap.size:=World.block_lt_of_cell? w _ q0
 have hB0:B < w.heap.size:=by omega
 clear hk
 go_enter Tryz.func133,Tryz.ntmps133
 go_wp2_with (go_at_call 75;refine (HC.out _).mono ?_;rintro e w1 ⟨rfl,hb1⟩)
 go_ret
 exact ⟨ret_bool' HE.out,(below_a1 _ _).trans (hb1.mono (by simp))⟩
set_option maxHeartbeats 1000000 in
set_option maxRecDepth 100000 in
theorem idxKCh_any (l:List Ch) (g:Ch) (B:Nat) (ad:Option Addr) (cap:Nat) (w:World) (hn:l.length≤1100000) (hr:Rd Ch.cells 4 w ad l) (hk:ChKey w B g) :
  Calls Tryz.prog 129 #[.slice ad l.length cap,.func (.func 133) #[] #[.pointer (some ⟨B+1,0,none⟩),.pointer (some ⟨B,0,none⟩)]] w fun e w' => e = .returned (.int .i64 (idxR (l.findIdx? (chIs g))))∧Below w.heap.size w w':=by
 have HK:=Lib.hid hk
 have HD:=Lib.hid hr
 clear hk hr
 go_enter Tryz.func129,Tryz.ntmps129
 go_wp2
 go_loopw [8] (fun i wr => ∃ k:Nat,k≤l.length∧i = .int .i64 k∧Hid (∀ y ∈ l.take k,chIs g y=false)∧Below w.heap.size w wr) (fun i _ => l.length - (intOf i).toNat)
 case atStart => exact ⟨0,Nat.zero_le _,rfl,Lib.hid (by simp),Below.refl _ _⟩
 case round =>
  obtain ⟨k,hk,rfl,Hall,hbel⟩:=hrel
  by_cases hlt:k < l.length
  ·obtain ⟨f,hf⟩:∃ f,l[k]? = some f:=⟨_,List.getElem?_eq_getElem hlt⟩
   have HRf:Hid (∃ b off,ad=some ⟨b,off,none⟩∧_):=((HD.out.below hbel).ch hf)
   have HC:=Lib.hid (idxClCh_any f g B wr (HK.out.below hbel))
   have HF:=Lib.hid hf
   clear hf
   obtain ⟨b,off,rfl,hc1,hc2,hc3,hc4⟩:=HRf
   have hsz:=hbel.size
   simp only [Ch.val,chV] at HC
   cases hp:chIs g f with
   | true =>
    have HR:Hid (l.findIdx? (chIs g)=some k):=findIdx_some HF.out hp Hall.out
    rw [hp] at HC
    clear hp
    go_wp2_with (go_at_call 133;refine HC.out.mono ?_;rintro e w1 ⟨rfl,hb1⟩)
    go_ret
    exact ⟨by rw [HR.out];rfl,hbel.trans (hb1.mono hsz)⟩
   | false =>
    have Hall2:Hid (∀ y ∈ l.take (k+1),chIs g y=false):=all_take_succ HF.out hp Hall.out
    rw [hp] at HC
    clear hp
    go_wp2_with (go_at_call 133;refine HC.out.mono ?_;rintro e w1 ⟨rfl,hb1⟩)
    go_roundw
    case rel => exact ⟨k+1,by omega,by go_num,Hall2,hbel.trans (hb1.mono hsz)⟩
    case measure => simp [intOf];omega
  ·obtain rfl:k=l.length:=by omega
   have HR:Hid (l.findIdx? (chIs g)=none):=findIdx_none (by have:=Hall.out;rwa [List.take_length] at this)
   go_wp2
   go_ret
   exact ⟨by rw [HR.out];rfl,hbel⟩
set_option maxHeartbeats 1000000 in
set_option maxRecDepth 100000 in
theorem findCh_any (l:List Ch) (g:Ch) (ad:Option Addr) (cap:Nat) (w:World) (hn:l.length≤1100000) (hr:Rd Ch.cells 4 w ad l) :
  Calls Tryz.prog 76 #[.slice ad l.length cap,g.val,.func (.func 75) #[] #[]] w fun e w' => e = .returned (.int .i64 (idxR (l.findIdx? (chIs g))))∧Below w.heap.size w w':=by
 have hb0:Below w.heap.size w ((w.alloc (.cells #[.string g.pt,.string g.nm,.int .i64 g.d,.bool g.first] 67)).alloc (.cells #[.func (.func 75) #[] #[]] 122)):=below_a2 _ _ _
 have hk:ChKey ((w.alloc (.cells #[.string g.pt,.string g.nm,.int .i64 g.d,.bool g.first] 67)).alloc (.cells #[.func (.func 75) #[] #[]] 122)) w.heap.size g:=by
  refine ⟨by go_simp,fun i u hu => ?_⟩
  have hi:i < 4:=(List.getElem?_eq_some_iff.1 hu).1
  match i,hi with
  | 0,_ => (cases hu;go_simp) | 1,_ => (cases hu;go_simp) | 2,_ => (cases hu;go_simp) | 3,_ => (cases hu;go_simp)
 have HC:=Lib.hid (idxKCh_any l g w.heap.size ad cap _ hn (hr.below hb0) hk)
 have HB:=Lib.hid hb0
 clear hk hr hb0
 simp only [Ch.val,chV]
 go_enter Tryz.func76,Tryz.ntmps76
 go_wp2_with (go_at_call 129;refine HC.out.mono ?_;rintro e w1 ⟨rfl,hb1⟩)
 go_ret
 exact ⟨rfl,HB.out.trans (hb1.mono HB.out.size)⟩
theorem idxR_some {α:Type} {p:α→Bool} {l:List α} {k:Nat} (h:l.findIdx? p=some k):∃ x,l[k]? = some x∧l.find? p=some x:=by
 obtain ⟨hk,_,_⟩:=List.findIdx?_eq_some_iff_getElem.1 h
 exact ⟨_,List.getElem?_eq_getElem hk,by rw [find_idx,h,Option.bind_some,List.getElem?_eq_getElem hk]⟩
def fndT:Option Fx→Value
 | some f => .tuple #[.string f.vl,.bool true]
 | none => .tuple #[.string ⟨#[]⟩,.bool false]
set_option maxHeartbeats 1000000 in
set_option maxRecDepth 100000 in
theorem ofind_any (l:List Fx) (nm:ByteArray) (d:Int) (ad:Option Addr) (cap:Nat) (vc:Value) (w:World) (hn:l.length≤1100000) (hr:Rd Fx.cells 3 w ad l) :
  Calls Tryz.prog 196 #[.agg #[.slice ad l.length cap,vc],.string nm,.int .i64 d] w fun e w' => e = .returned (fndT (l.find? (fxIs ⟨nm,d,⟨#[]⟩⟩)))∧Below w.heap.size w w':=by
 have hb0:Below w.heap.size w (w.alloc (.cells #[.slice ad l.length cap,vc] 33)):=below_a1 _ _
 have HC:=Lib.hid (findFx_any l ⟨nm,d,⟨#[]⟩⟩ ad cap _ hn (hr.below hb0))
 have HR:Hid (∀ W,Below w.heap.size w W→∀ j x,l[j]? = some x→_):=fun W hb j x hj => (hr.below hb).fx hj
 simp only [Fx.val,fxV] at HC
 have HB:=Lib.hid hb0
 clear hr hb0
 cases hf:l.findIdx? (fxIs ⟨nm,d,⟨#[]⟩⟩) with
 | none =>
  have HE:Hid (l.find? (fxIs ⟨nm,d,⟨#[]⟩⟩)=none):=by show _=_;rw [find_idx,hf];rfl
  rw [hf] at HC
  generalize l.find? (fxIs ⟨nm,d,⟨#[]⟩⟩)=R at *
  clear hf
  have HC:Hid (Calls _ _ _ _ fun e w' => e = .returned (.int .i64 (-1))∧_):=HC
  go_enter Tryz.func196,Tryz.ntmps196
  go_wp2_with (refine HC.out.mono ?_;rintro e w1 ⟨rfl,hb1⟩)
  go_ret2
  exact ⟨by rw [HE.out];rfl,HB.out.trans (hb1.mono HB.out.size)⟩
 | some k =>
  obtain ⟨x,hx,hfx⟩:=idxR_some hf
  have HE:=Lib.hid hfx
  rw [hf] at HC
  generalize l.find? (fxIs ⟨nm,d,⟨#[]⟩⟩)=R at *
  have hk:=(List.getElem?_eq_some_iff.1 hx).1
  have hk1:(0:Int)≤(k:Int):=by omega
  have hk2:(k:Int) < (l.length:Int):=by omega
  have HX:=Lib.hid hx
  clear hf hfx hx
  have HC:Hid (Calls _ _ _ _ fun e w' => e = .returned (.int .i64 (k:Int))∧_):=HC
  go_enter Tryz.func196,Tryz.ntmps196
  go_wp2_with fail
  refine HC.out.mono ?_
  rintro e w1 ⟨rfl,hb1⟩
  have hb2:Below w.heap.size w w1:=HB.out.trans (hb1.mono HB.out.size)
  obtain ⟨b,off,rfl,hc1,hc2,hc3⟩:=HR.out w1 hb2 k x HX.out
  have q0:w1.cell? ⟨w.heap.size,0,none⟩=some (.slice (some ⟨b,off,none⟩) l.length cap):=by rw [hb1.cell (p:=⟨w.heap.size,0,none⟩) (by simp)];go_simp
  clear hb1 HC
  go_wp2
  go_ret2
  exact ⟨by rw [HE.out];rfl,hb2⟩
def chsB:Option Ch→Bool
 | some c => c.first
 | none => false
set_option maxHeartbeats 1000000 in
set_option maxRecDepth 100000 in
theorem ochosen_any (l:List Ch) (pt nm:ByteArray) (d:Int) (ad:Option Addr) (cap:Nat) (vf:Value) (w:World) (hn:l.length≤1100000) (hr:Rd Ch.cells 4 w ad l) :
  Calls Tryz.prog 26 #[.agg #[vf,.slice ad l.length cap],.string pt,.string nm,.int .i64 d] w fun e w' => e = .returned (.bool (chsB (l.find? (chIs ⟨pt,nm,d,false⟩))))∧Below w.heap.size w w':=by
 have hb0:Below w.heap.size w (w.alloc (.cells #[vf,.slice ad l.length cap] 33)):=below_a1 _ _
 have HC:=Lib.hid (findCh_any l ⟨pt,nm,d,false⟩ ad cap _ hn (hr.below hb0))
 have HR:Hid (∀ W,Below w.heap.size w W→∀ j x,l[j]? = some x→_):=fun W hb j x hj => (hr.below hb).ch hj
 simp only [Ch.val,chV] at HC
 have HB:=Lib.hid hb0
 clear hr hb0
 cases hf:l.findIdx? (chIs ⟨pt,nm,d,false⟩) with
 | none =>
  have HE:Hid (l.find? (chIs ⟨pt,nm,d,false⟩)=none):=by show _=_;rw [find_idx,hf];rfl
  rw [hf] at HC
  generalize l.find? (chIs ⟨pt,nm,d,false⟩)=R at *
  clear hf
  have HC:Hid (Calls _ _ _ _ fun e w' => e = .returned (.int .i64 (-1))∧_):=HC
  go_enter Tryz.func26,Tryz.ntmps26
  go_wp2_with (refine HC.out.mono ?_;rintro e w1 ⟨rfl,hb1⟩)
  go_ret
  exact ⟨by rw [HE.out];rfl,HB.out.trans (hb1.mono HB.out.size)⟩
 | some k =>
  obtain ⟨x,hx,hfx⟩:=idxR_some hf
  have HE:=Lib.hid hfx
  rw [hf] at HC
  generalize l.find? (chIs ⟨pt,nm,d,false⟩)=R at *
  have hk:=(List.getElem?_eq_some_iff.1 hx).1
  have hk1:(0:Int)≤(k:Int):=by omega
  have hk2:(k:Int) < (l.length:Int):=by omega
  have HX:=Lib.hid hx
  clear hf hfx hx
  have HC:Hid (Calls _ _ _ _ fun e w' => e = .returned (.int .i64 (k:Int))∧_):=HC
  go_enter Tryz.func26,Tryz.ntmps26
  go_wp2_with fail
  refine HC.out.mono ?_
  rintro e w1 ⟨rfl,hb1⟩
  have hb2:Below w.heap.size w w1:=HB.out.trans (hb1.mono HB.out.size)
  obtain ⟨b,off,rfl,hc1,hc2,hc3,hc4⟩:=HR.out w1 hb2 k x HX.out
  have q0:w1.cell? ⟨w.heap.size,1,none⟩=some (.slice (some ⟨b,off,none⟩) l.length cap):=by rw [hb1.cell (p:=⟨w.heap.size,1,none⟩) (by simp)];go_simp
  clear hb1 HC
  go_wp2
  go_ret
  exact ⟨by rw [HE.out];rfl,hb2⟩
end Go.Proofs.YtknpnhodpgajbaaGreatDoor

namespace Go.Proofs.YtknpnhodpgajbaaGreatDoor
open Go.RowKit
def op2 (k:Nat) (a b:ByteArray):Int × ByteArray :=
 if k=4 then (sumE a b (addZ a b),mkB (sumS a b (addZ a b)))
 else if k=5 then (sumE a b (subZ a b),mkB (sumS a b (subZ a b)))
 else if k=6 then (mulE a b,mkB (mulS a b))
 else if k=7 then (cmpE a b,if cmpV a b < 0 then b else a)
 else (cmpE b a,if cmpV b a < 0 then b else a)
def fixR (F:List Fx) (nm:ByteArray) (d:Int):Int × ByteArray :=
 match F.find? (fxIs ⟨nm,d,⟨#[]⟩⟩) with
 | some f => (0,f.vl)
 | none => (30,ByteArray.empty)
def chosenB (C:List Ch) (pt nm:ByteArray) (d:Int):Bool:=chsB (C.find? (chIs ⟨pt,nm,d,false⟩))
def andR {α β:Type} (a:Int × α) (z:β) (f:α→Int × β):Int × β:=if a.1 ≠ 0 then (a.1,z) else f a.2
mutual
def Ex.value (F:List Fx) (day:Int):Ex→Int × ByteArray
 | .mk k ra nm d l =>
  if k=1 then (0,ra) else if k=2 then fixR F nm d else if k=3 then fixR F nm day
  else match l with
   | [p,x,y] => andR (Ex.hold F day p) ByteArray.empty fun b => if b=true then Ex.value F day x else Ex.value F day y
   | [x,y] => andR (Ex.value F day x) ByteArray.empty fun a => andR (Ex.value F day y) ByteArray.empty fun b => op2 k a b
   | _ => (0,ByteArray.empty)
def Ex.hold (F:List Fx) (day:Int):Ex→Int × Bool
 | .mk k _ _ _ l =>
  match l with
  | [x] => andR (Ex.hold F day x) false fun b => (0,!b)
  | [x,y] =>
   if k=13 then andR (Ex.hold F day x) false fun b => if b=true then Ex.hold F day y else (0,false)
   else if k=14 then andR (Ex.hold F day x) false fun b => if b=true then (0,true) else Ex.hold F day y
   else andR (Ex.value F day x) false fun a => andR (Ex.value F day y) false fun b => (cmpE a b,if k=11 then decide (cmpV a b < 0) else decide (cmpV a b=0))
  | _ => (0,false)
end
noncomputable def begE (x:Ex) (want:Nat) (day:Int) (F:List Fx) (C:List Ch):Int :=
 if x.err ≠ 0 then x.err else if x.sort ≠ want then 32 else if envErr F C ≠ 0 then envErr F C else if isDay day=true then 0 else 2
def cleanR {α:Type} (z:α) (r:Int × α):Int × α:=if r.1 ≠ 0 then (r.1,z) else r
noncomputable def valR (x:Ex) (day:Int) (F:List Fx) (C:List Ch):Int × ByteArray:=if begE x 1 day F C ≠ 0 then (begE x 1 day F C,ByteArray.empty) else cleanR ByteArray.empty (x.value F day)
noncomputable def holdR (x:Ex) (day:Int) (F:List Fx) (C:List Ch):Int × Bool:=if begE x 2 day F C ≠ 0 then (begE x 2 day F C,false) else cleanR false (x.hold F day)
end Go.Proofs.YtknpnhodpgajbaaGreatDoor

namespace Go.Proofs.YtknpnhodpgajbaaGreatDoor
open Go.RowKit
structure Fl where
 d:Int
 fr:ByteArray
 rc:ByteArray
 cy:ByteArray
 am:ByteArray
def Fl.cells (f:Fl):List Value:=[.int .i64 f.d,.string f.fr,.string f.rc,.string f.cy,.string f.am]
def Fl.small (f:Fl):Prop:=f.fr.size≤1100000∧f.rc.size≤1100000∧f.cy.size≤1100000∧f.am.size≤1100000
theorem Rd.fl {w:World} {ad:Option Addr} {l:List Fl} (h:Rd Fl.cells 5 w ad l) {j:Nat} {f:Fl} (hj:l[j]? = some f) :
  ∃ b off,ad=some ⟨b,off,none⟩∧w.cell? ⟨b,off+j * 5,none⟩=some (.int .i64 f.d)∧w.cell? ⟨b,off+j * 5+1,none⟩=some (.string f.fr)∧w.cell? ⟨b,off+j * 5+2,none⟩=some (.string f.rc)∧w.cell? ⟨b,off+j * 5+3,none⟩=some (.string f.cy)∧w.cell? ⟨b,off+j * 5+4,none⟩=some (.string f.am):=by
 obtain ⟨b,off,rfl,h3⟩:=h j f hj
 exact ⟨b,off,rfl,h3 0 _ rfl,h3 1 _ rfl,h3 2 _ rfl,h3 3 _ rfl,h3 4 _ rfl⟩
end Go.Proofs.YtknpnhodpgajbaaGreatDoor

namespace Go.Proofs.YtknpnhodpgajbaaGreatDoor
open Go.RowKit
def paidS (d:Int) (fr rc cy am:ByteArray):List Fl :=
 if bl am=[48] then [] else if isNeg (bl am)=true then [⟨d,rc,fr,cy,mkB ((bl am).drop 1)⟩] else [⟨d,fr,rc,cy,am⟩]
def firstR (is:Int→Int × Bool) (day fin:Int):List Int→Int × Int
 | [] => (0,fin)
 | d :: l => if fin≤d then (0,fin) else if day≤d then andR (is d) 0 (fun b => if b=true then (0,d) else firstR is day fin l) else firstR is day fin l
def mulAll (k:ByteArray):List Fl→Int × List Fl
 | [] => (0,[])
 | f :: l => andR (mulE f.am k,mkB (mulS f.am k)) [] fun a => andR (mulAll k l) [] fun r => (0,paidS f.d f.fr f.rc f.cy a ++ r)
def Con.flows (F:List Fx) (C:List Ch):Con→Int→Int→Int × List Fl
 | .mk k fr rc nm ex d ds l,day,fin =>
  if fin≤day then (0,[]) else
  match l with
  | [] => if k=2 then andR (ex.value F day) [] fun a => (0,paidS day fr rc nm a) else (0,[])
  | [x] =>
   if k=4 then andR (ex.value F day) [] fun a => andR (Con.flows F C x day fin) [] fun l => mulAll a l
   else if k=6 then (if day≤d then Con.flows F C x d fin else (0,[]))
   else if k=8 then Con.flows F C x (firstR (fun e => (0,chosenB C fr nm e)) day fin ds).2 fin
   else if k=9 then andR (firstR (fun e => ex.hold F e) day fin ds) [] fun q => Con.flows F C x day q
   else andR (firstR (fun e => ex.hold F e) day fin ds) [] fun q => Con.flows F C x q fin
  | [x,y] =>
   if k=3 then andR (Con.flows F C x day fin) [] fun a => andR (Con.flows F C y day fin) [] fun b => (0,a ++ b)
   else if k=5 then andR (ex.hold F day) [] fun b => if b=true then Con.flows F C x day fin else Con.flows F C y day fin
   else if chosenB C fr nm day=true then Con.flows F C x day fin else Con.flows F C y day fin
  | _ => (0,[])
def insFl (x:Fl):List Fl→List Fl
 | [] => [x]
 | y :: l => if x.d≤y.d then x :: y :: l else y :: insFl x l
def srtFl:List Fl→List Fl
 | [] => []
 | x :: l => insFl x (srtFl l)
def mrgFl:List Fl→List Fl→List Fl
 | [],b => b
 | a,[] => a
 | x :: a,y :: b => if y.d < x.d then y :: mrgFl (x :: a) b else x :: mrgFl a (y :: b)
 termination_by a b => a.length+b.length
theorem mrgFl_nil (a:List Fl):mrgFl a []=a:=by cases a <;> simp [mrgFl]
theorem nil_mrgFl (b:List Fl):mrgFl [] b=b:=by cases b <;> simp [mrgFl]
theorem mrgFl_cons (x y:Fl) (a b:List Fl):mrgFl (x :: a) (y :: b)=if y.d < x.d then y :: mrgFl (x :: a) b else x :: mrgFl a (y :: b):=by rw [mrgFl]
theorem insFl_len (x:Fl):∀ l:List Fl,(insFl x l).length=l.length+1
 | [] => rfl
 | y :: l => by
  unfold insFl
  split
  ·rfl
  ·rw [List.length_cons,insFl_len x l,List.length_cons]
theorem srtFl_len:∀ l:List Fl,(srtFl l).length=l.length
 | [] => rfl
 | x :: l => by rw [srtFl,insFl_len,srtFl_len l,List.length_cons]
theorem mrgFl_ins (x:Fl):∀ (a b:List Fl),mrgFl (insFl x a) b=insFl x (mrgFl a b)
 | [],[] => by simp [insFl,mrgFl]
 | [],y :: b => by
  rw [nil_mrgFl]
  have ih:=mrgFl_ins x [] b
  rw [nil_mrgFl] at ih
  show mrgFl (x :: []) (y :: b)=_
  rw [mrgFl_cons]
  unfold insFl
  by_cases h:y.d < x.d
  ·rw [if_pos h,if_neg (by omega)]
   exact congrArg (y :: ·) ih
  ·rw [if_neg h,if_pos (by omega),nil_mrgFl]
 | z :: a,[] => by rw [mrgFl_nil,mrgFl_nil]
 | z :: a,y :: b => by
  rw [mrgFl_cons z y]
  by_cases hxz:x.d≤z.d
  ·have e:insFl x (z :: a)=x :: z :: a:=by rw [insFl,if_pos hxz]
   rw [e,mrgFl_cons]
   by_cases hyx:y.d < x.d
   ·have hyz:y.d < z.d:=by omega
    rw [if_pos hyx,if_pos hyz]
    have ih:=mrgFl_ins x (z :: a) b
    rw [e] at ih
    rw [ih]
    show _=insFl x (y :: mrgFl (z :: a) b)
    rw [insFl.eq_2,if_neg (by omega)]
   ·rw [if_neg hyx]
    by_cases hyz:y.d < z.d
    ·rw [if_pos hyz,insFl.eq_2,if_pos (by omega),mrgFl_cons,if_pos hyz]
    ·rw [if_neg hyz,insFl.eq_2,if_pos hxz,mrgFl_cons,if_neg hyz]
  ·have e:insFl x (z :: a)=z :: insFl x a:=by rw [insFl,if_neg hxz]
   rw [e,mrgFl_cons]
   by_cases hyz:y.d < z.d
   ·rw [if_pos hyz,if_pos hyz,insFl.eq_2,if_neg (by omega),← e,mrgFl_ins x (z :: a) b]
   ·rw [if_neg hyz,if_neg hyz,insFl.eq_2,if_neg hxz,mrgFl_ins x a (y :: b)]
 termination_by a b => a.length+b.length
theorem srtFl_append:∀ a b:List Fl,srtFl (a ++ b)=mrgFl (srtFl a) (srtFl b)
 | [],b => by rw [List.nil_append,srtFl,nil_mrgFl]
 | x :: a,b => by rw [List.cons_append,srtFl,srtFl_append a b,srtFl,mrgFl_ins]
theorem srtFl_one {l:List Fl} (h:l.length < 2):srtFl l=l:=by
 match l,h with
 | [],_ => rfl
 | [x],_ => rfl
theorem srtFl_half (l:List Fl) (n:Nat):srtFl l=mrgFl (srtFl (l.take n)) (srtFl (l.drop n)):=by
 rw [← srtFl_append,List.take_append_drop]
theorem mrgFl_len (a b:List Fl):(mrgFl a b).length=a.length+b.length:=by
 induction a,b using mrgFl.induct with
 | case1 b => simp [nil_mrgFl]
 | case2 a => simp [mrgFl_nil]
 | case3 x a y b h ih => rw [mrgFl_cons,if_pos h,List.length_cons,ih];simp;omega
 | case4 x a y b h ih => rw [mrgFl_cons,if_neg h,List.length_cons,ih];simp;omega
noncomputable def befR (c:Con) (day fin:Int) (F:List Fx) (C:List Ch):Int × List Fl :=
 if c.err ≠ 0 then (c.err,[]) else if envErr F C ≠ 0 then (envErr F C,[])
 else if day < 0∨99999 < day∨fin < 0∨100000 < fin then (2,[])
 else andR (c.flows F C day fin) [] fun l => (0,srtFl l)
end Go.Proofs.YtknpnhodpgajbaaGreatDoor

namespace Go.Proofs.YtknpnhodpgajbaaGreatDoor
open Go.RowKit
def mE:ByteArray:=⟨#[]⟩
def mAnn:ByteArray:=⟨#[65,110,110]⟩
def mBob:ByteArray:=⟨#[66,111,98]⟩
def mUSD:ByteArray:=⟨#[85,83,68]⟩
def mSpot:ByteArray:=⟨#[115,112,111,116]⟩
def m0:ByteArray:=⟨#[48]⟩
def m1:ByteArray:=⟨#[49]⟩
def m2:ByteArray:=⟨#[50]⟩
def m3:ByteArray:=⟨#[51]⟩
def mM3:ByteArray:=⟨#[45,51]⟩
def m72:ByteArray:=⟨#[55,47,50]⟩
def xZ:Ex:=.mk 0 mE mE 0 []
def xCon (r:ByteArray):Ex:=.mk 1 r mE 0 []
def xNow:Ex:=.mk 3 mE mSpot 0 []
def xSub:Ex:=.mk 5 mE mE 0 [xNow,xCon m3]
def xMax:Ex:=.mk 7 mE mE 0 [xSub,xCon m0]
def xTwice:Ex:=.mk 6 mE mE 0 [xMax,xCon m2]
def cPay:Con:=.mk 2 mAnn mBob mUSD xTwice 0 [] []
def cScale:Con:=.mk 4 mE mE mE (xCon mM3) 0 [] [cPay]
def fKnown:List Fx:=[⟨mSpot,5,m72⟩,⟨mSpot,6,m2⟩]
theorem cPay_err:cPay.err=0:=by rw [Con.errB_eq];decide +kernel
theorem cScale_err:cScale.err=0:=by rw [Con.errB_eq];decide +kernel
theorem env_known:envErr fKnown []=0:=by decide +kernel
theorem flows10_pay:cPay.flows fKnown [] 5 100000=(0,[⟨5,mAnn,mBob,mUSD,m1⟩]):=by kernel_rfl
theorem flows10_scale:cScale.flows fKnown [] 5 100000=(0,[⟨5,mBob,mAnn,mUSD,m3⟩]):=by kernel_rfl
theorem befR_pay:befR cPay 5 100000 fKnown []=(0,[⟨5,mAnn,mBob,mUSD,m1⟩]):=by
 rw [befR,if_neg (fun h => h cPay_err),if_neg (fun h => h env_known),if_neg (by decide),flows10_pay];rfl
theorem befR_scale:befR cScale 5 100000 fKnown []=(0,[⟨5,mBob,mAnn,mUSD,m3⟩]):=by
 rw [befR,if_neg (fun h => h cScale_err),if_neg (fun h => h env_known),if_neg (by decide),flows10_scale];rfl
end Go.Proofs.YtknpnhodpgajbaaGreatDoor

namespace Go.Proofs.YtknpnhodpgajbaaGreatDoor
open Go.RowKit
theorem cell_new (w:World) (vs:List Value) (t:TypeId) {i:Nat} {u:Value} (h:vs[i]? = some u):(w.alloc (.cells vs.toArray t)).cell? ⟨w.heap.size,i,none⟩=some u:=by
 have e:(w.alloc (.cells vs.toArray t)).heap[w.heap.size]? = some (.cells vs.toArray t (0,0)):=by
  show (w.heap.push _)[w.heap.size]? = _
  simp
 unfold World.cell?
 simp only [e,Option.isSome_none,Bool.false_eq_true,if_false]
 simpa using h
theorem rdE_nil (w:World):RdE w [] (.slice none 0 0):=.mk none 0 [] (fun _ => .slice none 0 0) (fun j x h => by simp at h) (fun j x h => by simp at h)
theorem rdC_nil (w:World):RdC w [] (.slice none 0 0):=.mk none 0 [] (fun _ => .slice none 0 0) (fun _ => .slice none 0 0) (fun _ => .slice none 0 0) (fun j x h => by simp at h) (fun j x h => by simp at h) (fun j x h => by simp at h) (fun j x h => by simp at h)
theorem rdI_nil (w:World):RdI w [] (.slice none 0 0):=⟨none,0,rfl,⟨Nat.le_refl _,fun _ => rfl⟩,fun j d h => by simp at h⟩
theorem rdC_one {w:World} {B cap:Nat} {x:Con} {es dd ss:Value} (hc:∀ i u,(x.cells es dd ss)[i]? = some u→w.cell? ⟨B,i,none⟩=some u) (hr:RdN w x es dd ss):RdC w [x] (.slice (some ⟨B,0,none⟩) 1 cap):=by
 refine .mk (some ⟨B,0,none⟩) cap [x] (fun _ => es) (fun _ => dd) (fun _ => ss) (fun j y h => ?_) (fun j y h => ?_) (fun j y h => ?_) (fun j y h => ?_)
 all_goals
  cases j with
  | succ j => simp at h
  | zero => ?_
 all_goals (simp only [List.getElem?_cons_zero,Option.some.injEq] at h;subst h)
 ·exact ⟨hr.2.2.2,B,0,rfl,fun i u hu => by simpa using hc i u hu⟩
 ·exact hr.1
 ·exact hr.2.1
 ·exact hr.2.2.1
theorem rdE_two {w:World} {B cap:Nat} {x y:Ex} {s1 s2:Value} (hx8:x.k < 256) (hy8:y.k < 256) (hc:∀ i u,(x.cells s1 ++ y.cells s2)[i]? = some u→w.cell? ⟨B,i,none⟩=some u) (h1:RdE w x.sub s1) (h2:RdE w y.sub s2):RdE w [x,y] (.slice (some ⟨B,0,none⟩) 2 cap):=by
 refine .mk (some ⟨B,0,none⟩) cap [x,y] (fun j => if j=0 then s1 else s2) (fun j z h => ?_) (fun j z h => ?_)
 ·match j,h with
  | 0,h => cases h;exact ⟨hx8,B,0,rfl,hc 0 _ rfl,hc 1 _ rfl,hc 2 _ rfl,hc 3 _ rfl,hc 4 _ rfl⟩
  | 1,h => cases h;exact ⟨hy8,B,0,rfl,hc 5 _ rfl,hc 6 _ rfl,hc 7 _ rfl,hc 8 _ rfl,hc 9 _ rfl⟩
 ·match j,h with
  | 0,h => cases h;exact h1
  | 1,h => cases h;exact h2
theorem rdC_two {w:World} {B cap:Nat} {x y:Con} {es dd ss es2 dd2 ss2:Value} (hc:∀ i u,(x.cells es dd ss ++ y.cells es2 dd2 ss2)[i]? = some u→w.cell? ⟨B,i,none⟩=some u) (hr:RdN w x es dd ss) (hr2:RdN w y es2 dd2 ss2):RdC w [x,y] (.slice (some ⟨B,0,none⟩) 2 cap):=by
 refine .mk (some ⟨B,0,none⟩) cap [x,y] (fun j => if j=0 then es else es2) (fun j => if j=0 then dd else dd2) (fun j => if j=0 then ss else ss2) (fun j z h => ?_) (fun j z h => ?_) (fun j z h => ?_) (fun j z h => ?_)
 ·match j,h with
  | 0,h =>
   cases h
   refine ⟨hr.2.2.2,B,0,rfl,fun i u hu => ?_⟩
   have hi:i < 12:=(List.getElem?_eq_some_iff.1 hu).1
   rw [show 0+0 * 12+i=i by omega]
   exact hc i u (by rw [List.getElem?_append_left hi];exact hu)
  | 1,h =>
   cases h
   refine ⟨hr2.2.2.2,B,0,rfl,fun i u hu => ?_⟩
   rw [show 0+1 * 12+i=12+i by omega]
   exact hc (12+i) u (by rw [List.getElem?_append_right (by show 12≤_;omega)];show _[12+i - 12]? = _;rw [Nat.add_sub_cancel_left];exact hu)
 ·match j,h with
  | 0,h => cases h;exact hr.1
  | 1,h => cases h;exact hr2.1
 ·match j,h with
  | 0,h => cases h;exact hr.2.1
  | 1,h => cases h;exact hr2.2.1
 ·match j,h with
  | 0,h => cases h;exact hr.2.2.1
  | 1,h => cases h;exact hr2.2.2.1
end Go.Proofs.YtknpnhodpgajbaaGreatDoor

namespace Go.Proofs.YtknpnhodpgajbaaGreatDoor
open Go.RowKit
def BoxN (W:World) (B:Nat) (t:TypeId) (cs:List Value):Prop:=W.heap[B]? = some (.cells cs.toArray t (0,0))
section
variable {W W':World} {B:Nat} {t:TypeId} {cs:List Value}
theorem BoxN.lt (h:BoxN W B t cs):B < W.heap.size:=(Array.getElem?_eq_some_iff.1 h).1
theorem BoxN.cell (h:BoxN W B t cs) {j:Nat} {u:Value} (hj:cs[j]? = some u):W.cell? ⟨B,j,none⟩=some u:=by
 simp [World.cell?,show W.heap[B]? = _ from h,hj]
theorem BoxN.frozen (h:BoxN W B t cs) (o:Nat):W.frozen? ⟨B,o,none⟩=false:=by simp [World.frozen?,show W.heap[B]? = _ from h]
theorem BoxN.of_block (h:BoxN W B t cs) (e:W'.heap[B]? = W.heap[B]?):BoxN W' B t cs:=e.trans h
theorem BoxN.new (w:World) (cs:List Value) (t:TypeId):BoxN (w.alloc (.cells cs.toArray t)) w.heap.size t cs:=by
 show (w.heap.push _)[w.heap.size]? = _
 simp
theorem BoxN.alloc (h:BoxN W B t cs) (o:Obj):BoxN (W.alloc o) B t cs:=h.of_block (Below.heap_alloc _ _ _ h.lt)
theorem BoxN.below {B0:Nat} (h:BoxN W B t cs) (hb:Below B0 W W') (hB:B < B0):BoxN W' B t cs:=h.of_block (hb.block _ hB)
theorem BoxN.set (h:BoxN W B t cs) (j:Nat) (x:Value):BoxN (W.setCell ⟨B,j,none⟩ x) B t (cs.set j x):=by
 have e:=heap_set_same h j x
 unfold BoxN
 rw [e]
 simp
theorem BoxN.far (h:BoxN W B t cs) {a:Addr} (ha:B ≠ a.block) (x:Value):BoxN (W.setCell a x) B t cs:=h.of_block (Below.heap_setCell _ _ _ _ ha)
end
theorem Boxed2.far {W:World} {B:Nat} {t:TypeId} {u v:Value} (h:Boxed2 W B t u v) {a:Addr} (ha:B ≠ a.block) (x:Value):Boxed2 (W.setCell a x) B t u v:=h.of_block (Below.heap_setCell _ _ _ _ ha)
theorem Boxed2.low {W W':World} {B B0:Nat} {t:TypeId} {u v:Value} (h:Boxed2 W B t u v) (hb:Below B0 W W') (hB:B < B0):Boxed2 W' B t u v:=h.of_block (hb.block _ hB)
theorem Boxed2.n {W:World} {B:Nat} {t:TypeId} {u v:Value} (h:Boxed2 W B t u v):BoxN W B t [u,v]:=h
theorem BoxN.two {W:World} {B:Nat} {t:TypeId} {u v:Value} (h:BoxN W B t [u,v]):Boxed2 W B t u v:=h
end Go.Proofs.YtknpnhodpgajbaaGreatDoor

namespace Go.Proofs.YtknpnhodpgajbaaGreatDoor
open Go.RowKit
set_option maxHeartbeats 4000000 in
set_option maxRecDepth 100000 in
theorem ratadd_any (a b:ByteArray) (w:World) (ha:a.size≤1000000) (hb:b.size≤1000000) :
  Calls Tryz.prog 77 #[.string a,.string b] w (RatPost2 w (sumS a b ((ival (bl (pN a)) * ival (bl (pD b)))+(ival (bl (pN b)) * ival (bl (pD a))))) (sumE a b ((ival (bl (pN a)) * ival (bl (pD b)))+(ival (bl (pN b)) * ival (bl (pD a)))))):=by
 have HB:=Lib.hid (both_ab a b w (by omega) (by omega))
 have Hs:=Lib.hid (part_sizes a b ha hb)
 clear ha hb
 go_enter Tryz.func77,Tryz.ntmps77
 go_wp2_with fail
 refine HB.out.mono ?_
 rintro e w1 ⟨P,rfl,hP,hp,hb1⟩
 go_wp2_with fail
 refine (keepr_any P 63 w1).mono ?_
 rintro e w2 ⟨rfl,hm,hb2⟩
 go_wp2_with fail
 refine (keepr_any P 134 w2).mono ?_
 rintro e w3 ⟨rfl,hk,hb3⟩
 obtain ⟨Bm,hBm⟩:∃ B,B=w1.heap.size:=⟨_,rfl⟩
 obtain ⟨Ba,hBa⟩:∃ B,B=w2.heap.size:=⟨_,rfl⟩
 rw [← hBm] at hm ⊢
 rw [← hBa] at hk ⊢
 obtain ⟨n0,hn0⟩:∃ n,n=pN a:=⟨_,rfl⟩
 obtain ⟨n1,hn1⟩:∃ n,n=bN1 a b:=⟨_,rfl⟩
 obtain ⟨d0,hd0⟩:∃ n,n=pD a:=⟨_,rfl⟩
 obtain ⟨d1,hd1⟩:∃ n,n=bD1 a b:=⟨_,rfl⟩
 rw [← hn0,← hn1,← hd0,← hd1] at hp Hs
 have HN:=Lib.hid (And.intro hn0 (And.intro hn1 (And.intro hd0 hd1)))
 clear hn0 hn1 hd0 hd1
 obtain ⟨z0,z1,z2,z3⟩:=Hs.out
 have st0:PSt w w3.drew P Bm Ba 63 134 n0 n1 d0 d1 (bE a b):=PSt.drew ⟨(hp.below hb2).below hb3,hm.below hb3,hk,(hb1.trans (hb2.mono hb1.size)).trans (hb3.mono (Nat.le_trans hb1.size hb2.size)),hP⟩
 have p:=(hp.below hb2).below hb3
 obtain ⟨h0,h1,h2,h3,_⟩:=p.cells
 clear p hp hm hk hb1 hb2 hb3 hBm hBa hP HB Hs
 obtain ⟨e0,he0⟩:∃ e,e=bE a b:=⟨_,rfl⟩
 rw [← he0] at st0
 have HE0:=Lib.hid he0
 clear he0
 have HM:Hid (∀ W er x y,PSt w W P Bm Ba 63 134 n0 n1 d0 d1 er→x.size≤1100000→y.size≤1100000→Calls Tryz.prog 123 #[.string x,.string y,.pointer (some ⟨Bm,0,none⟩),.pointer (some ⟨Bm+1,0,none⟩)] W fun e w' => ∃ t er',e = .returned (.string t)∧Hid (StepR (bl x) (bl y) (ival (bl x) * ival (bl y)) er (bl t) er')∧PSt w w' P Bm Ba 63 134 n0 n1 d0 d1 er'∧t.size≤1100000∧w'.cell? ⟨P,0,none⟩=some (.string n0)∧w'.cell? ⟨P,1,none⟩=some (.string n1)∧w'.cell? ⟨P,2,none⟩=some (.string d0)∧w'.cell? ⟨P,3,none⟩=some (.string d1)):=by
  intro W er x y hst hx hy
  refine (pst_mul hst x y hx hy).mono ?_
  rintro e w' ⟨t,er',rfl,hr,hst'⟩
  obtain ⟨c0,c1,c2,c3,_⟩:=hst'.p.cells
  exact ⟨t,er',rfl,hr,hst',by have:=hr.out.len;rw [← bl_length];omega,c0,c1,c2,c3⟩
 have HO:Hid (∀ W er x y,PSt w W P Bm Ba 63 134 n0 n1 d0 d1 er→x.size≤1100000→y.size≤1100000→Calls Tryz.prog 123 #[.string x,.string y,.pointer (some ⟨Ba,0,none⟩),.pointer (some ⟨Ba+1,0,none⟩)] W fun e w' => ∃ t er',e = .returned (.string t)∧Hid (StepR (bl x) (bl y) (ival (bl x)+ival (bl y)) er (bl t) er')∧PSt w w' P Bm Ba 63 134 n0 n1 d0 d1 er'∧t.size≤1100000∧w'.cell? ⟨P,0,none⟩=some (.string n0)∧w'.cell? ⟨P,1,none⟩=some (.string n1)∧w'.cell? ⟨P,2,none⟩=some (.string d0)∧w'.cell? ⟨P,3,none⟩=some (.string d1)):=by
  intro W er x y hst hx hy
  refine (pst_add hst x y hx hy).mono ?_
  rintro e w' ⟨t,er',rfl,hr,hst'⟩
  obtain ⟨c0,c1,c2,c3,_⟩:=hst'.p.cells
  exact ⟨t,er',rfl,hr,hst',by have:=hr.out.len;rw [← bl_length];omega,c0,c1,c2,c3⟩
 have HD:Hid (∀ W er x y,PSt w W P Bm Ba 63 134 n0 n1 d0 d1 er→x.size≤1100000→y.size≤1100000→(er=0→intErr (bl x)=0∧intErr (bl y)=0∧dval (body (bl y)) ≠ 0)→Calls Tryz.prog 65 #[.pointer (some ⟨P,0,none⟩),.string x,.string y] W fun e w' => ∃ s er2,e = .returned (.tuple #[.string s,.int .i64 er2])∧Hid (MadeR (bl x) (bl y) er (bl s) er2)∧Below w.heap.size w w'∧w'.cell? ⟨P,0,none⟩=some (.string n0)∧w'.cell? ⟨P,1,none⟩=some (.string n1)∧w'.cell? ⟨P,2,none⟩=some (.string d0)∧w'.cell? ⟨P,3,none⟩=some (.string d1)):=by
  intro W er x y hst hx hy hpre
  have hcc:=fun W' (hb:Below W.heap.size W W') => (hst.p.below hb).cells
  by_cases he:er=0
  ·subst he
   obtain ⟨i1,i2,i3⟩:=hpre rfl
   refine (made_ok x y P n0 n1 d0 d1 W hst.p _ (Lib.hid fun W' => make_ok x y W' hx hy i1 i2 i3)).mono ?_
   rintro e w' ⟨s,rfl,hs,hb⟩
   obtain ⟨c0,c1,c2,c3,_⟩:=hcc _ hb
   exact ⟨s,0,rfl,.inr ⟨rfl,rfl,hs⟩,hst.b.trans (hb.mono hst.b.size),c0,c1,c2,c3⟩
  ·refine (made_err x y P n0 n1 d0 d1 er W hst.p he).mono ?_
   rintro e w' ⟨rfl,hb⟩
   obtain ⟨c0,c1,c2,c3,_⟩:=hcc _ hb
   exact ⟨_,er,rfl,.inl ⟨he,rfl,rfl⟩,hst.b.trans (hb.mono hst.b.size),c0,c1,c2,c3⟩
 have HC:Hid (∀ t1 t2 t3 t4 e1 e2 e3 e4,StepR (bl n0) (bl d1) (ival (bl n0) * ival (bl d1)) e0 t1 e1→StepR (bl n1) (bl d0) (ival (bl n1) * ival (bl d0)) e1 t2 e2→StepR t1 t2 (ival t1+ival t2) e2 t3 e3→StepR (bl d0) (bl d1) (ival (bl d0) * ival (bl d1)) e3 t4 e4→Chain a b (fun x y => x+y) t1 t2 t3 t4 e1 e2 e3 e4):=by
  obtain ⟨q1,q2,q3,q4⟩:=HN.out
  have q5:=HE0.out
  subst q1 q2 q3 q4 q5
  exact fun _ _ _ _ _ _ _ _ r1 r2 r3 r4 => ⟨r1,r2,r3,r4⟩
 clear HN HE0
 go_wp2_with fail
 go_region_held3 (fun w' => w'.cell? ⟨P,0,none⟩=some (.string n0)∧w'.cell? ⟨P,1,none⟩=some (.string n1)∧w'.cell? ⟨P,2,none⟩=some (.string d0)∧w'.cell? ⟨P,3,none⟩=some (.string d1))
  (first | assumption | exact ⟨by assumption,by assumption,by assumption,by assumption⟩ | go_keep)
  (first | (go_at_call 123;first | (refine (HM.out _ _ _ _ st3 z2 z3).mono ?_;rintro e w7 ⟨t4,e4,rfl,r4,st4,l4,p0,p1,p2,p3⟩) | (refine (HO.out _ _ _ _ st2 l1 l2).mono ?_;rintro e w6 ⟨t3,e3,rfl,r3,st3,l3,p0,p1,p2,p3⟩) | (refine (HM.out _ _ _ _ st1 z1 z2).mono ?_;rintro e w5 ⟨t2,e2,rfl,r2,st2,l2,p0,p1,p2,p3⟩) | (refine (HM.out _ _ _ _ st0 z0 z3).mono ?_;rintro e w4 ⟨t1,e1,rfl,r1,st1,l1,p0,p1,p2,p3⟩)) | (go_at_call 65;refine (HD.out _ _ _ _ st4 l3 l4 (fun h => by obtain ⟨h1,h2,h3,_⟩:=((HC.out _ _ _ _ _ _ _ _ r1.out r2.out r3.out r4.out).done).2 h;exact ⟨h1,h2,h3⟩)).mono ?_;rintro e w8 ⟨s,e5,rfl,r5,hbz,p0,p1,p2,p3⟩))
 have HF:Hid (RatPost2 w (sumS a b ((ival (bl (pN a)) * ival (bl (pD b)))+(ival (bl (pN b)) * ival (bl (pD a))))) (sumE a b ((ival (bl (pN a)) * ival (bl (pD b)))+(ival (bl (pN b)) * ival (bl (pD a))))) (.returned (.tuple #[.string s,.int .i64 e5])) w8):=by
  have hc:=(HC.out _ _ _ _ _ _ _ _ r1.out r2.out r3.out r4.out).done
  rcases r5.out with ⟨h1,h2,rfl⟩ | ⟨h1,rfl,h2⟩
  ·have hne:sumE a b ((ival (bl (pN a)) * ival (bl (pD b)))+(ival (bl (pN b)) * ival (bl (pD a)))) ≠ 0:=by rw [← hc.1];exact h1
   refine ⟨s,?_,?_,hbz⟩
   ·rw [hc.1]
   ·rw [sumS,if_neg hne];exact h2
  ·refine ⟨s,?_,?_,hbz⟩
   ·rw [← hc.1,h1]
   ·rw [h2];exact (hc.2 h1).2.2.2.2
 clear HC HD HO HM r1 r2 r3 r4 r5 st0 st1 st2 st3 st4
 go_wp2
 go_ret2
 exact HF.out
end Go.Proofs.YtknpnhodpgajbaaGreatDoor
