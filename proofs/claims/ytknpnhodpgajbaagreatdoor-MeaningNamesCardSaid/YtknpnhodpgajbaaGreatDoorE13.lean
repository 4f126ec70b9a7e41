/-
  slices.IndexFunc, slices.ContainsFunc and observable.ordered at fixings and at choices.  Printed by tools/genidx.py. observable.CheckEnv.
-/
import Derived.Test.YtknpnhodpgajbaaGreatDoorE12
namespace Go.Proofs.YtknpnhodpgajbaaGreatDoor
open Go.RowKit
def idxR:Option Nat→Int
 | some k => (k:Int)
 | none => -1
theorem idxR_any {α:Type} (p:α→Bool) (l:List α):decide ((0:Int)≤idxR (l.findIdx? p))=l.any p:=by
 rw [Bool.eq_iff_iff,decide_eq_true_eq,List.any_eq_true]
 constructor
 ·intro h
  cases hf:l.findIdx? p with
  | none => rw [hf] at h;simp [idxR] at h
  | some k =>
   obtain ⟨hk,h1,_⟩:=List.findIdx?_eq_some_iff_getElem.1 hf
   exact ⟨_,List.getElem_mem hk,h1⟩
 ·intro ⟨x,hx,hp⟩
  cases hf:l.findIdx? p with
  | none => exact absurd hp (by simpa using List.findIdx?_eq_none_iff.1 hf x hx)
  | some k => simp [idxR]
theorem findIdx_some {α:Type} {p:α→Bool} {l:List α} {k:Nat} {x:α} (hk:l[k]? = some x) (hp:p x=true) (ha:∀ y ∈ l.take k,p y=false):l.findIdx? p=some k:=by
 obtain ⟨hlt,rfl⟩:=List.getElem?_eq_some_iff.1 hk
 refine List.findIdx?_eq_some_iff_getElem.2 ⟨hlt,hp,fun j hj => ?_⟩
 have:=ha l[j] (List.mem_take_iff_getElem.2 ⟨j,by omega,rfl⟩)
 simpa using this
theorem findIdx_none {α:Type} {p:α→Bool} {l:List α} (ha:∀ y ∈ l,p y=false):l.findIdx? p=none:=List.findIdx?_eq_none_iff.2 ha
theorem all_take_succ {α:Type} {p:α→Bool} {l:List α} {k:Nat} {x:α} (hk:l[k]? = some x) (hp:p x=false) (ha:∀ y ∈ l.take k,p y=false):∀ y ∈ l.take (k+1),p y=false:=by
 intro y hy
 rw [List.take_add_one,hk] at hy
 rcases List.mem_append.1 hy with h | h
 ·exact ha y h
 ·simp at h;subst h;exact hp
def incB {α:Type} (lt:α→α→Bool):List α→Bool
 | x :: y :: l => lt x y && incB lt (y :: l)
 | _ => true
theorem incB_take {α:Type} {lt:α→α→Bool}:∀ {l:List α} {k:Nat},incB lt l=true→incB lt (l.take k)=true
 | [],k,_ => by cases k <;> rfl
 | [x],k,_ => by cases k with | zero => rfl | succ k => cases k <;> rfl
 | x :: y :: l,0,_ => rfl
 | x :: y :: l,1,_ => rfl
 | x :: y :: l,k+2,h => by
  rw [incB,Bool.and_eq_true] at h
  show (lt x y && incB lt ((y :: l).take (k+1)))=true
  rw [h.1,incB_take h.2];rfl
theorem incB_snoc {α:Type} {lt:α→α→Bool}:∀ {l:List α} {k:Nat} {x y:α},l[k]? = some x→l[k+1]? = some y→incB lt (l.take (k+2))=(incB lt (l.take (k+1)) && lt x y)
 | [],k,x,y,h,_ => by simp at h
 | [a],0,x,y,h,h2 => by simp at h2
 | [a],k+1,x,y,h,_ => by simp at h
 | a :: b :: l,0,x,y,h,h2 => by
  simp at h h2;subst h h2
  show (lt a b && incB lt [b])=(incB lt [a] && lt a b)
  simp [incB]
 | a :: b :: l,k+1,x,y,h,h2 => by
  show (lt a b && incB lt ((b :: l).take (k+2)))=((lt a b && incB lt ((b :: l).take (k+1))) && lt x y)
  rw [incB_snoc (l:=b :: l) (k:=k) (by simpa using h) (by simpa using h2),Bool.and_assoc]
theorem incB_le_one {α:Type} {lt:α→α→Bool} {l:List α} (h:l.length≤1):incB lt l=true:=by
 match l,h with
 | [],_ => rfl
 | [_],_ => rfl
theorem incB_false_of_take {α:Type} {lt:α→α→Bool} {l:List α} {k:Nat} (h:incB lt (l.take k)=false):incB lt l=false:=by
 rw [Bool.eq_false_iff] at h ⊢
 exact fun hh => h (incB_take hh)
def Fx.lt (a b:Fx):Bool:=fxLt a.nm a.d b.nm b.d
def Ch.lt (a b:Ch):Bool:=chLt a.pt a.nm a.d b.pt b.nm b.d
def Fx.small (f:Fx):Prop:=f.nm.size≤1100000∧f.vl.size≤1100000
def Ch.small (c:Ch):Prop:=c.pt.size≤1100000∧c.nm.size≤1100000
set_option maxHeartbeats 1000000 in
set_option maxRecDepth 100000 in
theorem indexFx_any (l:List Fx) (ad:Option Addr) (cap:Nat) (w:World) (hn:l.length≤1100000) (hr:Rd Fx.cells 3 w ad l) (hsm:∀ f ∈ l,f.small) :
  Calls Tryz.prog 128 #[.slice ad l.length cap,.func (.func 66) #[] #[]] w fun e w' => e = .returned (.int .i64 (idxR (l.findIdx? fxBad)))∧Below w.heap.size w w':=by
 have HS:=Lib.hid hsm
 have HD:=Lib.hid hr
 clear hsm hr
 go_enter Tryz.func128,Tryz.ntmps128
 go_wp2
 go_loopw [8] (fun i wr => ∃ k:Nat,k≤l.length∧i = .int .i64 k∧Hid (∀ y ∈ l.take k,fxBad y=false)∧Below w.heap.size w wr) (fun i _ => l.length - (intOf i).toNat)
 case atStart => exact ⟨0,Nat.zero_le _,rfl,Lib.hid (by simp),Below.refl _ _⟩
 case round =>
  obtain ⟨k,hk,rfl,Hall,hbel⟩:=hrel
  by_cases hlt:k < l.length
  ·obtain ⟨f,hf⟩:∃ f,l[k]? = some f:=⟨_,List.getElem?_eq_getElem hlt⟩
   have hfm:f ∈ l:=List.mem_of_getElem? hf
   have HRf:Hid (∃ b off,ad=some ⟨b,off,none⟩∧_):=((HD.out.below hbel).fx hf)
   have HC:=Lib.hid (fun W => fixCl_any f W (HS.out f hfm).1 (HS.out f hfm).2)
   have HF:=Lib.hid hf
   clear hf hfm
   obtain ⟨b,off,rfl,hc1,hc2,hc3⟩:=HRf
   have hsz:=hbel.size
   simp only [Fx.val,fxV] at HC
   cases hp:fxBad f with
   | true =>
    have HR:Hid (l.findIdx? fxBad=some k):=findIdx_some HF.out hp Hall.out
    rw [hp] at HC
    clear hp
    go_wp2_with (go_at_call 66;refine (HC.out _).mono ?_;rintro e w1 ⟨rfl,hb1⟩)
    go_ret
    exact ⟨by rw [HR.out];rfl,hbel.trans (hb1.mono hsz)⟩
   | false =>
    have Hall2:Hid (∀ y ∈ l.take (k+1),fxBad y=false):=all_take_succ HF.out hp Hall.out
    rw [hp] at HC
    clear hp
    go_wp2_with (go_at_call 66;refine (HC.out _).mono ?_;rintro e w1 ⟨rfl,hb1⟩)
    go_roundw
    case rel => exact ⟨k+1,by omega,by go_num,Hall2,hbel.trans (hb1.mono hsz)⟩
    case measure => simp [intOf];omega
  ·obtain rfl:k=l.length:=by omega
   have HR:Hid (l.findIdx? fxBad=none):=findIdx_none (by have:=Hall.out;rwa [List.take_length] at this)
   go_wp2
   go_ret
   exact ⟨by rw [HR.out];rfl,hbel⟩
set_option maxRecDepth 100000 in
theorem containsFx_any (l:List Fx) (ad:Option Addr) (cap:Nat) (w:World) (hn:l.length≤1100000) (hr:Rd Fx.cells 3 w ad l) (hsm:∀ f ∈ l,f.small) :
  Calls Tryz.prog 70 #[.slice ad l.length cap,.func (.func 66) #[] #[]] w fun e w' => e = .returned (.bool (l.any fxBad))∧Below w.heap.size w w':=by
 have HI:=Lib.hid (indexFx_any l ad cap w hn hr hsm)
 have HE:=Lib.hid (idxR_any fxBad l)
 clear hsm hr
 go_enter Tryz.func70,Tryz.ntmps70
 go_wp2_with (go_at_call 128;refine HI.out.mono ?_;rintro e w1 ⟨rfl,hb1⟩)
 go_ret
 exact ⟨ret_bool' HE.out,hb1⟩
set_option maxHeartbeats 1000000 in
set_option maxRecDepth 100000 in
theorem orderedFx_any (l:List Fx) (ad:Option Addr) (cap:Nat) (w:World) (hn:l.length≤1100000) (hr:Rd Fx.cells 3 w ad l) :
  Calls Tryz.prog 72 #[.slice ad l.length cap,.func (.func 73) #[] #[]] w fun e w' => e = .returned (.bool (incB Fx.lt l))∧Below w.heap.size w w':=by
 have HD:=Lib.hid hr
 clear hr
 go_enter Tryz.func72,Tryz.ntmps72
 go_wp2
 go_loopw [5] (fun i wr => ∃ k:Nat,(k+1≤l.length∨k=0)∧i = .int .i64 ((k:Int)+1)∧Hid (incB Fx.lt (l.take (k+1))=true)∧Below w.heap.size w wr) (fun i _ => l.length+1 - (intOf i).toNat)
 case atStart => exact ⟨0,.inr rfl,by go_num,incB_le_one (by rw [List.length_take];omega),Below.refl _ _⟩
 case round =>
  obtain ⟨k,hk,rfl,Hall,hbel⟩:=hrel
  by_cases hlt:k+1 < l.length
  ·obtain ⟨f,hf⟩:∃ f,l[k]? = some f:=⟨_,List.getElem?_eq_getElem (by omega)⟩
   obtain ⟨g,hg⟩:∃ g,l[k+1]? = some g:=⟨_,List.getElem?_eq_getElem hlt⟩
   have HRf:=((HD.out.below hbel).fx hf)
   have HRg:=((HD.out.below hbel).fx hg)
   have HI:=Lib.hid (incB_snoc (lt:=Fx.lt) hf hg)
   clear hf hg
   obtain ⟨b,off,rfl,hc1,hc2,hc3⟩:=HRf
   obtain ⟨b',off',he,hd1,hd2,hd3⟩:=HRg
   obtain ⟨rfl,rfl⟩:b=b'∧off=off':=by simpa using he
   clear he
   have hsz:=hbel.size
   have HC:Hid (∀ W,Calls Tryz.prog 73 #[f.val,g.val] W fun e w' => e = .returned (.int .i64 (fxCmp f.nm f.d g.nm g.d))∧Below W.heap.size W w'):=fun W => fixings_any _ _ _ _ _ _ _
   simp only [Fx.val,fxV] at HC
   have HL:=Lib.hid (fxCmp_lt f.nm g.nm f.d g.d)
   have e1:(k:Int)+1 - 1=(k:Int):=by omega
   have e2:IntKind.i64.wrap ((k:Int)+1 - 1)=(k:Int):=by rw [IntWalk.i64_in _ (by omega)];omega
   have e3:IntKind.i64.wrap (k:Int)=(k:Int):=IntWalk.i64_in _ (by omega)
   have e4:((k:Int)+1).toNat=k+1:=by omega
   have hk2:(0:Int)≤(k:Int)+1:=by omega
   have hk3:(k:Int)+1 < (l.length:Int):=by omega
   have hk0:(0:Int)≤(k:Int):=by omega
   have hbl:b < wr.heap.size:=World.block_lt_of_cell? wr _ hc1
   have hk1:(k:Int) < (l.length:Int):=by omega
   obtain ⟨C,hC⟩:∃ C,fxCmp f.nm f.d g.nm g.d=C:=⟨_,rfl⟩
   rw [hC] at HC HL
   clear hC
   cases hp:Fx.lt f g with
   | true =>
    have Hall2:Hid (incB Fx.lt (l.take (k+1+1))=true):=by show _=_;rw [HI.out,Hall.out,hp];rfl
    have t1:decide ((0:Int)≤C)=false:=by
     have h:=HL.out
     rw [show fxLt f.nm f.d g.nm g.d=true from hp,decide_eq_true_eq] at h
     rw [decide_eq_false_iff_not];omega
    have Hall2:Hid (incB Fx.lt (l.take (k+1+1))=true):=by show _=_;rw [HI.out,Hall.out,hp];rfl
    clear hp
    go_wp2
    go_region_held3 (fun w' => w'.cell? ⟨b,off+k * 3,none⟩=some (.string f.nm)∧w'.cell? ⟨b,off+k * 3+1,none⟩=some (.int .i64 f.d)∧w'.cell? ⟨b,off+k * 3+2,none⟩=some (.string f.vl)∧w'.cell? ⟨b,off+(k+1) * 3,none⟩=some (.string g.nm)∧w'.cell? ⟨b,off+(k+1) * 3+1,none⟩=some (.int .i64 g.d)∧w'.cell? ⟨b,off+(k+1) * 3+2,none⟩=some (.string g.vl)) (first | go_keep | (simp only [kc];go_keep))
     (first | (go_at_call 73;refine (HC.out _).mono ?_;rintro e w1 ⟨rfl,hb1⟩;have kc:=fun o => hb1.cell (p:=⟨b,o,none⟩) hbl))
    go_wp2
    go_roundw
    case rel =>
     exact ⟨k+1,.inl (by omega),by go_num,Hall2,hbel.drew.trans (hb1.mono hsz)⟩
    case measure => simp [intOf];omega
   | false =>
    have HR:Hid (incB Fx.lt l=false):=incB_false_of_take (k:=k+1+1) (by rw [HI.out,Hall.out,hp];rfl)
    have t1:decide ((0:Int)≤C)=true:=by
     have h:=HL.out
     rw [show fxLt f.nm f.d g.nm g.d=false from hp,decide_eq_false_iff_not] at h
     rw [decide_eq_true_eq];omega
    clear hp
    go_wp2
    go_region_held3 (fun w' => w'.cell? ⟨b,off+k * 3,none⟩=some (.string f.nm)∧w'.cell? ⟨b,off+k * 3+1,none⟩=some (.int .i64 f.d)∧w'.cell? ⟨b,off+k * 3+2,none⟩=some (.string f.vl)∧w'.cell? ⟨b,off+(k+1) * 3,none⟩=some (.string g.nm)∧w'.cell? ⟨b,off+(k+1) * 3+1,none⟩=some (.int .i64 g.d)∧w'.cell? ⟨b,off+(k+1) * 3+2,none⟩=some (.string g.vl)) (first | go_keep | (simp only [kc];go_keep))
     (first | (go_at_call 73;refine (HC.out _).mono ?_;rintro e w1 ⟨rfl,hb1⟩;have kc:=fun o => hb1.cell (p:=⟨b,o,none⟩) hbl))
    go_wp2
    go_ret
    exact ⟨ret_bool' HR.out.symm,hbel.drew.trans (hb1.mono hsz)⟩
  ·have HR:Hid (incB Fx.lt l=true):=by
    show _=_
    have:=Hall.out
    rwa [List.take_of_length_le (by omega)] at this
   have t1 : ¬ ((k:Int)+1 < (l.length:Int)):=by omega
   go_wp2
   go_ret
   exact ⟨ret_bool' HR.out.symm,hbel⟩
set_option maxHeartbeats 1000000 in
set_option maxRecDepth 100000 in
theorem indexCh_any (l:List Ch) (ad:Option Addr) (cap:Nat) (w:World) (hn:l.length≤1100000) (hr:Rd Ch.cells 4 w ad l) (hsm:∀ f ∈ l,f.small) :
  Calls Tryz.prog 129 #[.slice ad l.length cap,.func (.func 69) #[] #[]] w fun e w' => e = .returned (.int .i64 (idxR (l.findIdx? chBad)))∧Below w.heap.size w w':=by
 have HS:=Lib.hid hsm
 have HD:=Lib.hid hr
 clear hsm hr
 go_enter Tryz.func129,Tryz.ntmps129
 go_wp2
 go_loopw [8] (fun i wr => ∃ k:Nat,k≤l.length∧i = .int .i64 k∧Hid (∀ y ∈ l.take k,chBad y=false)∧Below w.heap.size w wr) (fun i _ => l.length - (intOf i).toNat)
 case atStart => exact ⟨0,Nat.zero_le _,rfl,Lib.hid (by simp),Below.refl _ _⟩
 case round =>
  obtain ⟨k,hk,rfl,Hall,hbel⟩:=hrel
  by_cases hlt:k < l.length
  ·obtain ⟨f,hf⟩:∃ f,l[k]? = some f:=⟨_,List.getElem?_eq_getElem hlt⟩
   have hfm:f ∈ l:=List.mem_of_getElem? hf
   have HRf:Hid (∃ b off,ad=some ⟨b,off,none⟩∧_):=((HD.out.below hbel).ch hf)
   have HC:=Lib.hid (fun W => pickCl_any f W (HS.out f hfm).1 (HS.out f hfm).2)
   have HF:=Lib.hid hf
   clear hf hfm
   obtain ⟨b,off,rfl,hc1,hc2,hc3,hc4⟩:=HRf
   have hsz:=hbel.size
   simp only [Ch.val,chV] at HC
   cases hp:chBad f with
   | true =>
    have HR:Hid (l.findIdx? chBad=some k):=findIdx_some HF.out hp Hall.out
    rw [hp] at HC
    clear hp
    go_wp2_with (go_at_call 69;refine (HC.out _).mono ?_;rintro e w1 ⟨rfl,hb1⟩)
    go_ret
    exact ⟨by rw [HR.out];rfl,hbel.trans (hb1.mono hsz)⟩
   | false =>
    have Hall2:Hid (∀ y ∈ l.take (k+1),chBad y=false):=all_take_succ HF.out hp Hall.out
    rw [hp] at HC
    clear hp
    go_wp2_with (go_at_call 69;refine (HC.out _).mono ?_;rintro e w1 ⟨rfl,hb1⟩)
    go_roundw
    case rel => exact ⟨k+1,by omega,by go_num,Hall2,hbel.trans (hb1.mono hsz)⟩
    case measure => simp [intOf];omega
  ·obtain rfl:k=l.length:=by omega
   have HR:Hid (l.findIdx? chBad=none):=findIdx_none (by have:=Hall.out;rwa [List.take_length] at this)
   go_wp2
   go_ret
   exact ⟨by rw [HR.out];rfl,hbel⟩
set_option maxRecDepth 100000 in
theorem containsCh_any (l:List Ch) (ad:Option Addr) (cap:Nat) (w:World) (hn:l.length≤1100000) (hr:Rd Ch.cells 4 w ad l) (hsm:∀ f ∈ l,f.small) :
  Calls Tryz.prog 71 #[.slice ad l.length cap,.func (.func 69) #[] #[]] w fun e w' => e = .returned (.bool (l.any chBad))∧Below w.heap.size w w':=by
 have HI:=Lib.hid (indexCh_any l ad cap w hn hr hsm)
 have HE:=Lib.hid (idxR_any chBad l)
 clear hsm hr
 go_enter Tryz.func71,Tryz.ntmps71
 go_wp2_with (go_at_call 129;refine HI.out.mono ?_;rintro e w1 ⟨rfl,hb1⟩)
 go_ret
 exact ⟨ret_bool' HE.out,hb1⟩
set_option maxHeartbeats 1000000 in
set_option maxRecDepth 100000 in
theorem orderedCh_any (l:List Ch) (ad:Option Addr) (cap:Nat) (w:World) (hn:l.length≤1100000) (hr:Rd Ch.cells 4 w ad l) :
  Calls Tryz.prog 74 #[.slice ad l.length cap,.func (.func 75) #[] #[]] w fun e w' => e = .returned (.bool (incB Ch.lt l))∧Below w.heap.size w w':=by
 have HD:=Lib.hid hr
 clear hr
 go_enter Tryz.func74,Tryz.ntmps74
 go_wp2
 go_loopw [5] (fun i wr => ∃ k:Nat,(k+1≤l.length∨k=0)∧i = .int .i64 ((k:Int)+1)∧Hid (incB Ch.lt (l.take (k+1))=true)∧Below w.heap.size w wr) (fun i _ => l.length+1 - (intOf i).toNat)
 case atStart => exact ⟨0,.inr rfl,by go_num,incB_le_one (by rw [List.length_take];omega),Below.refl _ _⟩
 case round =>
  obtain ⟨k,hk,rfl,Hall,hbel⟩:=hrel
  by_cases hlt:k+1 < l.length
  ·obtain ⟨f,hf⟩:∃ f,l[k]? = some f:=⟨_,List.getElem?_eq_getElem (by omega)⟩
   obtain ⟨g,hg⟩:∃ g,l[k+1]? = some g:=⟨_,List.getElem?_eq_getElem hlt⟩
   have HRf:=((HD.out.below hbel).ch hf)
   have HRg:=((HD.out.below hbel).ch hg)
   have HI:=Lib.hid (incB_snoc (lt:=Ch.lt) hf hg)
   clear hf hg
   obtain ⟨b,off,rfl,hc1,hc2,hc3,hc4⟩:=HRf
   obtain ⟨b',off',he,hd1,hd2,hd3,hd4⟩:=HRg
   obtain ⟨rfl,rfl⟩:b=b'∧off=off':=by simpa using he
   clear he
   have hsz:=hbel.size
   have HC:Hid (∀ W,Calls Tryz.prog 75 #[f.val,g.val] W fun e w' => e = .returned (.int .i64 (chCmp f.pt f.nm f.d g.pt g.nm g.d))∧Below W.heap.size W w'):=fun W => choices_any _ _ _ _ _ _ _ _ _
   simp only [Ch.val,chV] at HC
   have HL:=Lib.hid (chCmp_lt f.pt g.pt f.nm g.nm f.d g.d)
   have e1:(k:Int)+1 - 1=(k:Int):=by omega
   have e2:IntKind.i64.wrap ((k:Int)+1 - 1)=(k:Int):=by rw [IntWalk.i64_in _ (by omega)];omega
   have e3:IntKind.i64.wrap (k:Int)=(k:Int):=IntWalk.i64_in _ (by omega)
   have e4:((k:Int)+1).toNat=k+1:=by omega
   have hk2:(0:Int)≤(k:Int)+1:=by omega
   have hk3:(k:Int)+1 < (l.length:Int):=by omega
   have hk0:(0:Int)≤(k:Int):=by omega
   have hbl:b < wr.heap.size:=World.block_lt_of_cell? wr _ hc1
   have hk1:(k:Int) < (l.length:Int):=by omega
   obtain ⟨C,hC⟩:∃ C,chCmp f.pt f.nm f.d g.pt g.nm g.d=C:=⟨_,rfl⟩
   rw [hC] at HC HL
   clear hC
   cases hp:Ch.lt f g with
   | true =>
    have Hall2:Hid (incB Ch.lt (l.take (k+1+1))=true):=by show _=_;rw [HI.out,Hall.out,hp];rfl
    have t1:decide ((0:Int)≤C)=false:=by
     have h:=HL.out
     rw [show chLt f.pt f.nm f.d g.pt g.nm g.d=true from hp,decide_eq_true_eq] at h
     rw [decide_eq_false_iff_not];omega
    have Hall2:Hid (incB Ch.lt (l.take (k+1+1))=true):=by show _=_;rw [HI.out,Hall.out,hp];rfl
    clear hp
    go_wp2
    go_region_held3 (fun w' => w'.cell? ⟨b,off+k * 4,none⟩=some (.string f.pt)∧w'.cell? ⟨b,off+k * 4+1,none⟩=some (.string f.nm)∧w'.cell? ⟨b,off+k * 4+2,none⟩=some (.int .i64 f.d)∧w'.cell? ⟨b,off+k * 4+3,none⟩=some (.bool f.first)∧w'.cell? ⟨b,off+(k+1) * 4,none⟩=some (.string g.pt)∧w'.cell? ⟨b,off+(k+1) * 4+1,none⟩=some (.string g.nm)∧w'.cell? ⟨b,off+(k+1) * 4+2,none⟩=some (.int .i64 g.d)∧w'.cell? ⟨b,off+(k+1) * 4+3,none⟩=some (.bool g.first)) (first | go_keep | (simp only [kc];go_keep))
     (first | (go_at_call 75;refine (HC.out _).mono ?_;rintro e w1 ⟨rfl,hb1⟩;have kc:=fun o => hb1.cell (p:=⟨b,o,none⟩) hbl))
    go_wp2
    go_roundw
    case rel =>
     exact ⟨k+1,.inl (by omega),by go_num,Hall2,hbel.drew.trans (hb1.mono hsz)⟩
    case measure => simp [intOf];omega
   | false =>
    have HR:Hid (incB Ch.lt l=false):=incB_false_of_take (k:=k+1+1) (by rw [HI.out,Hall.out,hp];rfl)
    have t1:decide ((0:Int)≤C)=true:=by
     have h:=HL.out
     rw [show chLt f.pt f.nm f.d g.pt g.nm g.d=false from hp,decide_eq_false_iff_not] at h
     rw [decide_eq_true_eq];omega
    clear hp
    go_wp2
    go_region_held3 (fun w' => w'.cell? ⟨b,off+k * 4,none⟩=some (.string f.pt)∧w'.cell? ⟨b,off+k * 4+1,none⟩=some (.string f.nm)∧w'.cell? ⟨b,off+k * 4+2,none⟩=some (.int .i64 f.d)∧w'.cell? ⟨b,off+k * 4+3,none⟩=some (.bool f.first)∧w'.cell? ⟨b,off+(k+1) * 4,none⟩=some (.string g.pt)∧w'.cell? ⟨b,off+(k+1) * 4+1,none⟩=some (.string g.nm)∧w'.cell? ⟨b,off+(k+1) * 4+2,none⟩=some (.int .i64 g.d)∧w'.cell? ⟨b,off+(k+1) * 4+3,none⟩=some (.bool g.first)) (first | go_keep | (simp only [kc];go_keep))
     (first | (go_at_call 75;refine (HC.out _).mono ?_;rintro e w1 ⟨rfl,hb1⟩;have kc:=fun o => hb1.cell (p:=⟨b,o,none⟩) hbl))
    go_wp2
    go_ret
    exact ⟨ret_bool' HR.out.symm,hbel.drew.trans (hb1.mono hsz)⟩
  ·have HR:Hid (incB Ch.lt l=true):=by
    show _=_
    have:=Hall.out
    rwa [List.take_of_length_le (by omega)] at this
   have t1 : ¬ ((k:Int)+1 < (l.length:Int)):=by omega
   go_wp2
   go_ret
   exact ⟨ret_bool' HR.out.symm,hbel⟩
end Go.Proofs.YtknpnhodpgajbaaGreatDoor

namespace Go.Proofs.YtknpnhodpgajbaaGreatDoor
open Go.RowKit
def envErr (fs:List Fx) (cs:List Ch):Int :=
 if 1000 < fs.length∨1000 < cs.length then 4
 else if (fs.any fxBad || (cs.any chBad || (!incB Fx.lt fs || !incB Ch.lt cs)))=true then 8 else 0
set_option maxHeartbeats 1000000 in
set_option maxRecDepth 100000 in
theorem checkEnv_any (fs:List Fx) (cs:List Ch) (af ac:Option Addr) (cf cc:Nat) (w:World) (hn:fs.length≤1100000) (hm:cs.length≤1100000)
  (hf:Rd Fx.cells 3 w af fs) (hc:Rd Ch.cells 4 w ac cs) (hfs:∀ f ∈ fs,f.small) (hcs:∀ c ∈ cs,c.small) :
  Calls Tryz.prog 25 #[.agg #[.slice af fs.length cf,.slice ac cs.length cc]] w fun e w' => e = .returned (.int .i64 (envErr fs cs))∧Below w.heap.size w w':=by
 have HF:=Lib.hid (fun W (h:Below w.heap.size w W) => containsFx_any fs af cf W hn (hf.below h) hfs)
 have HC:=Lib.hid (fun W (h:Below w.heap.size w W) => containsCh_any cs ac cc W hm (hc.below h) hcs)
 have HOF:=Lib.hid (fun W (h:Below w.heap.size w W) => orderedFx_any fs af cf W hn (hf.below h))
 have HOC:=Lib.hid (fun W (h:Below w.heap.size w W) => orderedCh_any cs ac cc W hm (hc.below h))
 obtain ⟨E,hE⟩:∃ E,envErr fs cs=E:=⟨_,rfl⟩
 rw [hE]
 unfold envErr at hE
 have HE:=Lib.hid hE
 clear hf hc hfs hcs hE
 have hb0:=fun o => below_a1 w o
 by_cases h1:1000 < fs.length
 ·have d1:decide ((1000:Int) < (fs.length:Int))=true:=by rw [decide_eq_true_eq];omega
  rw [if_pos (.inl h1)] at HE
  clear h1
  go_enter Tryz.func25,Tryz.ntmps25
  go_wp2
  go_ret
  exact ⟨ret_int' HE.out,hb0 _⟩
 ·have d1:decide ((1000:Int) < (fs.length:Int))=false:=by rw [decide_eq_false_iff_not];omega
  by_cases h2:1000 < cs.length
  ·have d2:decide ((1000:Int) < (cs.length:Int))=true:=by rw [decide_eq_true_eq];omega
   rw [if_pos (.inr h2)] at HE
   clear h2 h1
   go_enter Tryz.func25,Tryz.ntmps25
   go_wp2
   go_ret
   exact ⟨ret_int' HE.out,hb0 _⟩
  ·have d2:decide ((1000:Int) < (cs.length:Int))=false:=by rw [decide_eq_false_iff_not];omega
   rw [if_neg (by omega)] at HE
   clear h2 h1
   generalize fs.any fxBad=A at HF HE
   generalize cs.any chBad=B at HC HE
   generalize incB Fx.lt fs=C at HOF HE
   generalize incB Ch.lt cs=D at HOC HE
   cases A with
   | true =>
    simp only [Bool.true_or,if_true] at HE
    go_enter Tryz.func25,Tryz.ntmps25
    go_wp2_with fail
    refine (HF.out _ (hb0 _)).mono ?_
    rintro e w1 ⟨rfl,hb1⟩
    have hw1:Below w.heap.size w w1:=(hb0 _).trans (hb1.mono (by simp))
    have k0:w1.cell? ⟨w.heap.size,0,none⟩=some (.slice af fs.length cf):=by rw [hb1.cell (by simp)];go_simp
    have k1:w1.cell? ⟨w.heap.size,1,none⟩=some (.slice ac cs.length cc):=by rw [hb1.cell (by simp)];go_simp
    have hs1:w.heap.size < w1.heap.size:=by have:=hb1.size;simp at this;omega
    clear hb1
    go_wp2
    go_ret
    exact ⟨ret_int' HE.out,hw1⟩
   | false =>
    cases B with
    | true =>
     simp only [Bool.true_or,Bool.false_or,if_true] at HE
     go_enter Tryz.func25,Tryz.ntmps25
     go_wp2_with fail
     refine (HF.out _ (hb0 _)).mono ?_
     rintro e w1 ⟨rfl,hb1⟩
     have hw1:Below w.heap.size w w1:=(hb0 _).trans (hb1.mono (by simp))
     have k0:w1.cell? ⟨w.heap.size,0,none⟩=some (.slice af fs.length cf):=by rw [hb1.cell (by simp)];go_simp
     have k1:w1.cell? ⟨w.heap.size,1,none⟩=some (.slice ac cs.length cc):=by rw [hb1.cell (by simp)];go_simp
     have hs1:w.heap.size < w1.heap.size:=by have:=hb1.size;simp at this;omega
     clear hb1
     go_wp2_with fail
     refine (HC.out _ hw1).mono ?_
     rintro e w2 ⟨rfl,hb2⟩
     have hw2:Below w.heap.size w w2:=hw1.trans (hb2.mono hw1.size)
     have k0':w2.cell? ⟨w.heap.size,0,none⟩=some (.slice af fs.length cf):=by rw [hb2.cell hs1];exact k0
     have k1':w2.cell? ⟨w.heap.size,1,none⟩=some (.slice ac cs.length cc):=by rw [hb2.cell hs1];exact k1
     have hs2:w.heap.size < w2.heap.size:=by have:=hb2.size;omega
     clear hb2 k0 k1
     have k0:=k0'
     have k1:=k1'
     clear k0' k1'
     go_wp2
     go_ret
     exact ⟨ret_int' HE.out,hw2⟩
    | false =>
     cases C with
     | false =>
      simp only [Bool.true_or,Bool.false_or,Bool.not_false,if_true] at HE
      go_enter Tryz.func25,Tryz.ntmps25
      go_wp2_with fail
      refine (HF.out _ (hb0 _)).mono ?_
      rintro e w1 ⟨rfl,hb1⟩
      have hw1:Below w.heap.size w w1:=(hb0 _).trans (hb1.mono (by simp))
      have k0:w1.cell? ⟨w.heap.size,0,none⟩=some (.slice af fs.length cf):=by rw [hb1.cell (by simp)];go_simp
      have k1:w1.cell? ⟨w.heap.size,1,none⟩=some (.slice ac cs.length cc):=by rw [hb1.cell (by simp)];go_simp
      have hs1:w.heap.size < w1.heap.size:=by have:=hb1.size;simp at this;omega
      clear hb1
      go_wp2_with fail
      refine (HC.out _ hw1).mono ?_
      rintro e w2 ⟨rfl,hb2⟩
      have hw2:Below w.heap.size w w2:=hw1.trans (hb2.mono hw1.size)
      have k0':w2.cell? ⟨w.heap.size,0,none⟩=some (.slice af fs.length cf):=by rw [hb2.cell hs1];exact k0
      have k1':w2.cell? ⟨w.heap.size,1,none⟩=some (.slice ac cs.length cc):=by rw [hb2.cell hs1];exact k1
      have hs2:w.heap.size < w2.heap.size:=by have:=hb2.size;omega
      clear hb2 k0 k1
      have k0:=k0'
      have k1:=k1'
      clear k0' k1'
      go_wp2_with fail
      refine (HOF.out _ hw2).mono ?_
      rintro e w3 ⟨rfl,hb3⟩
      have hw3:Below w.heap.size w w3:=hw2.trans (hb3.mono hw2.size)
      have k0':w3.cell? ⟨w.heap.size,0,none⟩=some (.slice af fs.length cf):=by rw [hb3.cell hs2];exact k0
      have k1':w3.cell? ⟨w.heap.size,1,none⟩=some (.slice ac cs.length cc):=by rw [hb3.cell hs2];exact k1
      have hs3:w.heap.size < w3.heap.size:=by have:=hb3.size;omega
      clear hb3 k0 k1
      have k0:=k0'
      have k1:=k1'
      clear k0' k1'
      go_wp2
      go_ret
      exact ⟨ret_int' HE.out,hw3⟩
     | true =>
      cases D with
      | false =>
       simp only [Bool.false_or,Bool.not_false,Bool.not_true,if_true] at HE
       go_enter Tryz.func25,Tryz.ntmps25
       go_wp2_with fail
       refine (HF.out _ (hb0 _)).mono ?_
       rintro e w1 ⟨rfl,hb1⟩
       have hw1:Below w.heap.size w w1:=(hb0 _).trans (hb1.mono (by simp))
       have k0:w1.cell? ⟨w.heap.size,0,none⟩=some (.slice af fs.length cf):=by rw [hb1.cell (by simp)];go_simp
       have k1:w1.cell? ⟨w.heap.size,1,none⟩=some (.slice ac cs.length cc):=by rw [hb1.cell (by simp)];go_simp
       have hs1:w.heap.size < w1.heap.size:=by have:=hb1.size;simp at this;omega
       clear hb1
       go_wp2_with fail
       refine (HC.out _ hw1).mono ?_
       rintro e w2 ⟨rfl,hb2⟩
       have hw2:Below w.heap.size w w2:=hw1.trans (hb2.mono hw1.size)
       have k0':w2.cell? ⟨w.heap.size,0,none⟩=some (.slice af fs.length cf):=by rw [hb2.cell hs1];exact k0
       have k1':w2.cell? ⟨w.heap.size,1,none⟩=some (.slice ac cs.length cc):=by rw [hb2.cell hs1];exact k1
       have hs2:w.heap.size < w2.heap.size:=by have:=hb2.size;omega
       clear hb2 k0 k1
       have k0:=k0'
       have k1:=k1'
       clear k0' k1'
       go_wp2_with fail
       refine (HOF.out _ hw2).mono ?_
       rintro e w3 ⟨rfl,hb3⟩
       have hw3:Below w.heap.size w w3:=hw2.trans (hb3.mono hw2.size)
       have k0':w3.cell? ⟨w.heap.size,0,none⟩=some (.slice af fs.length cf):=by rw [hb3.cell hs2];exact k0
       have k1':w3.cell? ⟨w.heap.size,1,none⟩=some (.slice ac cs.length cc):=by rw [hb3.cell hs2];exact k1
       have hs3:w.heap.size < w3.heap.size:=by have:=hb3.size;omega
       clear hb3 k0 k1
       have k0:=k0'
       have k1:=k1'
       clear k0' k1'
       go_wp2_with fail
       refine (HOC.out _ hw3).mono ?_
       rintro e w4 ⟨rfl,hb4⟩
       have hw4:Below w.heap.size w w4:=hw3.trans (hb4.mono hw3.size)
       have k0':w4.cell? ⟨w.heap.size,0,none⟩=some (.slice af fs.length cf):=by rw [hb4.cell hs3];exact k0
       have k1':w4.cell? ⟨w.heap.size,1,none⟩=some (.slice ac cs.length cc):=by rw [hb4.cell hs3];exact k1
       have hs4:w.heap.size < w4.heap.size:=by have:=hb4.size;omega
       clear hb4 k0 k1
       have k0:=k0'
       have k1:=k1'
       clear k0' k1'
       go_wp2
       go_ret
       exact ⟨ret_int' HE.out,hw4⟩
      | true =>
       simp only [Bool.false_or,Bool.not_true,Bool.false_eq_true,if_false] at HE
       go_enter Tryz.func25,Tryz.ntmps25
       go_wp2_with fail
       refine (HF.out _ (hb0 _)).mono ?_
       rintro e w1 ⟨rfl,hb1⟩
       have hw1:Below w.heap.size w w1:=(hb0 _).trans (hb1.mono (by simp))
       have k0:w1.cell? ⟨w.heap.size,0,none⟩=some (.slice af fs.length cf):=by rw [hb1.cell (by simp)];go_simp
       have k1:w1.cell? ⟨w.heap.size,1,none⟩=some (.slice ac cs.length cc):=by rw [hb1.cell (by simp)];go_simp
       have hs1:w.heap.size < w1.heap.size:=by have:=hb1.size;simp at this;omega
       clear hb1
       go_wp2_with fail
       refine (HC.out _ hw1).mono ?_
       rintro e w2 ⟨rfl,hb2⟩
       have hw2:Below w.heap.size w w2:=hw1.trans (hb2.mono hw1.size)
       have k0':w2.cell? ⟨w.heap.size,0,none⟩=some (.slice af fs.length cf):=by rw [hb2.cell hs1];exact k0
       have k1':w2.cell? ⟨w.heap.size,1,none⟩=some (.slice ac cs.length cc):=by rw [hb2.cell hs1];exact k1
       have hs2:w.heap.size < w2.heap.size:=by have:=hb2.size;omega
       clear hb2 k0 k1
       have k0:=k0'
       have k1:=k1'
       clear k0' k1'
       go_wp2_with fail
       refine (HOF.out _ hw2).mono ?_
       rintro e w3 ⟨rfl,hb3⟩
       have hw3:Below w.heap.size w w3:=hw2.trans (hb3.mono hw2.size)
       have k0':w3.cell? ⟨w.heap.size,0,none⟩=some (.slice af fs.length cf):=by rw [hb3.cell hs2];exact k0
       have k1':w3.cell? ⟨w.heap.size,1,none⟩=some (.slice ac cs.length cc):=by rw [hb3.cell hs2];exact k1
       have hs3:w.heap.size < w3.heap.size:=by have:=hb3.size;omega
       clear hb3 k0 k1
       have k0:=k0'
       have k1:=k1'
       clear k0' k1'
       go_wp2_with fail
       refine (HOC.out _ hw3).mono ?_
       rintro e w4 ⟨rfl,hb4⟩
       have hw4:Below w.heap.size w w4:=hw3.trans (hb4.mono hw3.size)
       have k0':w4.cell? ⟨w.heap.size,0,none⟩=some (.slice af fs.length cf):=by rw [hb4.cell hs3];exact k0
       have k1':w4.cell? ⟨w.heap.size,1,none⟩=some (.slice ac cs.length cc):=by rw [hb4.cell hs3];exact k1
       have hs4:w.heap.size < w4.heap.size:=by have:=hb4.size;omega
       clear hb4 k0 k1
       have k0:=k0'
       have k1:=k1'
       clear k0' k1'
       go_wp2
       go_ret
       exact ⟨ret_int' HE.out,hw4⟩
end Go.Proofs.YtknpnhodpgajbaaGreatDoor
