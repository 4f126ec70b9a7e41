/- A part. -/
import Derived.Test.YthdeijdimfjceaaGreatDoorA05
namespace Go.Proofs.YthdeijdimfjceaaGreatDoor
open Go.RowKit
def idxR:Option Nat→Int
 | some k => (k:Int)
 | none => -1
theorem idxR_any {α:Type} (p:α→Bool) (l:List α):decide ((0:Int)≤idxR (l.findIdx? p))=l.any p:=by
 rw [Bool.eq_iff_iff,decide_eq_true_eq,List.any_eq_true]
 constructor
 ·intro h
  cases hf:l.findIdx? p with
  | none => rw [hf] at h;simp [idxR] at h
  | some k =>
   obtain ⟨hk,h1,_⟩:=List.findIdx?_eq_some_iff_getElem.1 hf
   exact ⟨_,List.getElem_mem hk,h1⟩
 ·intro ⟨x,hx,hp⟩
  cases hf:l.findIdx? p with
  | none => exact absurd hp (by simpa using List.findIdx?_eq_none_iff.1 hf x hx)
  | some k => simp [idxR]
theorem findIdx_some {α:Type} {p:α→Bool} {l:List α} {k:Nat} {x:α} (hk:l[k]? = some x) (hp:p x=true) (ha:∀ y ∈ l.take k,p y=false):l.findIdx? p=some k:=by
 obtain ⟨hlt,rfl⟩:=List.getElem?_eq_some_iff.1 hk
 refine List.findIdx?_eq_some_iff_getElem.2 ⟨hlt,hp,fun j hj => ?_⟩
 have:=ha l[j] (List.mem_take_iff_getElem.2 ⟨j,by omega,rfl⟩)
 simpa using this
theorem findIdx_none {α:Type} {p:α→Bool} {l:List α} (ha:∀ y ∈ l,p y=false):l.findIdx? p=none:=List.findIdx?_eq_none_iff.2 ha
theorem all_take_succ {α:Type} {p:α→Bool} {l:List α} {k:Nat} {x:α} (hk:l[k]? = some x) (hp:p x=false) (ha:∀ y ∈ l.take k,p y=false):∀ y ∈ l.take (k+1),p y=false:=by
 intro y hy
 rw [List.take_add_one,hk] at hy
 rcases List.mem_append.1 hy with h | h
 ·exact ha y h
 ·simp at h;subst h;exact hp
def incB {α:Type} (lt:α→α→Bool):List α→Bool
 | x :: y :: l => lt x y && incB lt (y :: l)
 | _ => true
theorem incB_take {α:Type} {lt:α→α→Bool}:∀ {l:List α} {k:Nat},incB lt l=true→incB lt (l.take k)=true
 | [],k,_ => by cases k <;> rfl
 | [x],k,_ => by cases k with | zero => rfl | succ k => cases k <;> rfl
 | x :: y :: l,0,_ => rfl
 | x :: y :: l,1,_ => rfl
 | x :: y :: l,k+2,h => by
  rw [incB,Bool.and_eq_true] at h
  show (lt x y && incB lt ((y :: l).take (k+1)))=true
  rw [h.1,incB_take h.2];rfl
theorem incB_snoc {α:Type} {lt:α→α→Bool}:∀ {l:List α} {k:Nat} {x y:α},l[k]? = some x→l[k+1]? = some y→incB lt (l.take (k+2))=(incB lt (l.take (k+1)) && lt x y)
 | [],k,x,y,h,_ => by simp at h
 | [a],0,x,y,h,h2 => by simp at h2
 | [a],k+1,x,y,h,_ => by simp at h
 | a :: b :: l,0,x,y,h,h2 => by
  simp at h h2;subst h h2
  show (lt a b && incB lt [b])=(incB lt [a] && lt a b)
  simp [incB]
 | a :: b :: l,k+1,x,y,h,h2 => by
  show (lt a b && incB lt ((b :: l).take (k+2)))=((lt a b && incB lt ((b :: l).take (k+1))) && lt x y)
  rw [incB_snoc (l:=b :: l) (k:=k) (by simpa using h) (by simpa using h2),Bool.and_assoc]
theorem incB_le_one {α:Type} {lt:α→α→Bool} {l:List α} (h:l.length≤1):incB lt l=true:=by
 match l,h with
 | [],_ => rfl
 | [_],_ => rfl
theorem incB_false_of_take {α:Type} {lt:α→α→Bool} {l:List α} {k:Nat} (h:incB lt (l.take k)=false):incB lt l=false:=by
 rw [Bool.eq_false_iff] at h ⊢
 exact fun hh => h (incB_take hh)
def Fx.lt (a b:Fx):Bool:=fxLt a.nm a.d b.nm b.d
def Ch.lt (a b:Ch):Bool:=chLt a.pt a.nm a.d b.pt b.nm b.d
def Fx.small (f:Fx):Prop:=f.nm.size≤1100000∧f.vl.size≤1100000
def Ch.small (c:Ch):Prop:=c.pt.size≤1100000∧c.nm.size≤1100000
set_option maxHeartbeats 1000000 in
set_option maxRecDepth 100000 in
theorem indexFx_any (l:List Fx) (ad:Option Addr) (cap:Nat) (w:World) (hn:l.length≤1100000) (hr:Rd Fx.cells 3 w ad l) (hsm:∀ f ∈ l,f.small) :
  Calls Tryz.prog 98 #[.slice ad l.length cap,.func (.func 57) #[] #[]] w fun e w' => e = .returned (.int .i64 (idxR (l.findIdx? fxBad)))∧Below w.heap.size w w':=by
 have HS:=Lib.hid hsm
 have HD:=Lib.hid hr
 clear hsm hr
 go_enter Tryz.func98,Tryz.ntmps98
 go_wp2
 go_loopw [8] (fun i wr => ∃ k:Nat,k≤l.length∧i = .int .i64 k∧Hid (∀ y ∈ l.take k,fxBad y=false)∧Below w.heap.size w wr) (fun i _ => l.length - (intOf i).toNat)
 case atStart => exact ⟨0,Nat.zero_le _,rfl,Lib.hid (by simp),Below.refl _ _⟩
 case round =>
  obtain ⟨k,hk,rfl,Hall,hbel⟩:=hrel
  by_cases hlt:k < l.length
  ·obtain ⟨f,hf⟩:∃ f,l[k]? = some f:=⟨_,List.getElem?_eq_getElem hlt⟩
   have hfm:f ∈ l:=List.mem_of_getElem? hf
   have HRf:Hid (∃ b off,ad=some ⟨b,off,none⟩∧_):=((HD.out.below hbel).fx hf)
   have HC:=Lib.hid (fun W => fixCl_any f W (HS.out f hfm).1 (HS.out f hfm).2)
   have HF:=Lib.hid hf
   clear hf hfm
   obtain ⟨b,off,rfl,hc1,hc2,hc3⟩:=HRf
   have hsz:=hbel.size
   simp only [Fx.val,fxV] at HC
   cases hp:fxBad f with
   | true =>
    have HR:Hid (l.findIdx? fxBad=some k):=findIdx_some HF.out hp Hall.out
    rw [hp] at HC
    clear hp
    go_wp2_with (go_at_call 57;refine (HC.out _).mono ?_;rintro e w1 ⟨rfl,hb1⟩)
    go_ret
    exact ⟨by rw [HR.out];rfl,hbel.trans (hb1.mono hsz)⟩
   | false =>
    have Hall2:Hid (∀ y ∈ l.take (k+1),fxBad y=false):=all_take_succ HF.out hp Hall.out
    rw [hp] at HC
    clear hp
    go_wp2_with (go_at_call 57;refine (HC.out _).mono ?_;rintro e w1 ⟨rfl,hb1⟩)
    go_roundw
    case rel => exact ⟨k+1,by omega,by go_num,Hall2,hbel.trans (hb1.mono hsz)⟩
    case measure => simp [intOf];omega
  ·obtain rfl:k=l.length:=by omega
   have HR:Hid (l.findIdx? fxBad=none):=findIdx_none (by have:=Hall.out;rwa [List.take_length] at this)
   go_wp2
   go_ret
   exact ⟨by rw [HR.out];rfl,hbel⟩
set_option maxRecDepth 100000 in
theorem containsFx_any (l:List Fx) (ad:Option Addr) (cap:Nat) (w:World) (hn:l.length≤1100000) (hr:Rd Fx.cells 3 w ad l) (hsm:∀ f ∈ l,f.small) :
  Calls Tryz.prog 60 #[.slice ad l.length cap,.func (.func 57) #[] #[]] w fun e w' => e = .returned (.bool (l.any fxBad))∧Below w.heap.size w w':=by
 have HI:=Lib.hid (indexFx_any l ad cap w hn hr hsm)
 have HE:=Lib.hid (idxR_any fxBad l)
 clear hsm hr
 go_enter Tryz.func60,Tryz.ntmps60
 go_wp2_with (go_at_call 98;refine HI.out.mono ?_;rintro e w1 ⟨rfl,hb1⟩)
 go_ret
 exact ⟨ret_bool' HE.out,hb1⟩
set_option maxHeartbeats 1000000 in
set_option maxRecDepth 100000 in
theorem orderedFx_any (l:List Fx) (ad:Option Addr) (cap:Nat) (w:World) (hn:l.length≤1100000) (hr:Rd Fx.cells 3 w ad l) :
  Calls Tryz.prog 62 #[.slice ad l.length cap,.func (.func 63) #[] #[]] w fun e w' => e = .returned (.bool (incB Fx.lt l))∧Below w.heap.size w w':=by
 have HD:=Lib.hid hr
 clear hr
 go_enter Tryz.func62,Tryz.ntmps62
 go_wp2
 go_loopw [5] (fun i wr => ∃ k:Nat,(k+1≤l.length∨k=0)∧i = .int .i64 ((k:Int)+1)∧Hid (incB Fx.lt (l.take (k+1))=true)∧Below w.heap.size w wr) (fun i _ => l.length+1 - (intOf i).toNat)
 case atStart => exact ⟨0,.inr rfl,by go_num,incB_le_one (by rw [List.length_take];omega),Below.refl _ _⟩
 case round =>
  obtain ⟨k,hk,rfl,Hall,hbel⟩:=hrel
  by_cases hlt:k+1 < l.length
  ·obtain ⟨f,hf⟩:∃ f,l[k]? = some f:=⟨_,List.getElem?_eq_getElem (by omega)⟩
   obtain ⟨g,hg⟩:∃ g,l[k+1]? = some g:=⟨_,List.getElem?_eq_getElem hlt⟩
   have HRf:=((HD.out.below hbel).fx hf)
   have HRg:=((HD.out.below hbel).fx hg)
   have HI:=Lib.hid (incB_snoc (lt:=Fx.lt) hf hg)
   clear hf hg
   obtain ⟨b,off,rfl,hc1,hc2,hc3⟩:=HRf
   obtain ⟨b',off',he,hd1,hd2,hd3⟩:=HRg
   obtain ⟨rfl,rfl⟩:b=b'∧off=off':=by simpa using he
   clear he
   have hsz:=hbel.size
   have HC:Hid (∀ W,Calls Tryz.prog 63 #[f.val,g.val] W fun e w' => e = .returned (.int .i64 (fxCmp f.nm f.d g.nm g.d))∧Below W.heap.size W w'):=fun W => fixings_any _ _ _ _ _ _ _
   simp only [Fx.val,fxV] at HC
   have HL:=Lib.hid (fxCmp_lt f.nm g.nm f.d g.d)
   have e1:(k:Int)+1 - 1=(k:Int):=by omega
   have e2:IntKind.i64.wrap ((k:Int)+1 - 1)=(k:Int):=by rw [IntWalk.i64_in _ (by omega)];omega
   have e3:IntKind.i64.wrap (k:Int)=(k:Int):=IntWalk.i64_in _ (by omega)
   have e4:((k:Int)+1).toNat=k+1:=by omega
   have hk2:(0:Int)≤(k:Int)+1:=by omega
   have hk3:(k:Int)+1 < (l.length:Int):=by omega
   have hk0:(0:Int)≤(k:Int):=by omega
   have hbl:b < wr.heap.size:=World.block_lt_of_cell? wr _ hc1
   have hk1:(k:Int) < (l.length:Int):=by omega
   obtain ⟨C,hC⟩:∃ C,fxCmp f.nm f.d g.nm g.d=C:=⟨_,rfl⟩
   rw [hC] at HC HL
   clear hC
   cases hp:Fx.lt f g with
   | true =>
    have Hall2:Hid (incB Fx.lt (l.take (k+1+1))=true):=by show _=_;rw [HI.out,Hall.out,hp];rfl
    have t1:decide ((0:Int)≤C)=false:=by
     have h:=HL.out
     rw [show fxLt f.nm f.d g.nm g.d=true from hp,decide_eq_true_eq] at h
     rw [decide_eq_false_iff_not];omega
    have Hall2:Hid (incB Fx.lt (l.take (k+1+1))=true):=by show _=_;rw [HI.out,Hall.out,hp];rfl
    clear hp
    go_wp2
    go_region_held3 (fun w' => w'.cell? ⟨b,off+k * 3,none⟩=some (.string f.nm)∧w'.cell? ⟨b,off+k * 3+1,none⟩=some (.int .i64 f.d)∧w'.cell? ⟨b,off+k * 3+2,none⟩=some (.string f.vl)∧w'.cell? ⟨b,off+(k+1) * 3,none⟩=some (.string g.nm)∧w'.cell? ⟨b,off+(k+1) * 3+1,none⟩=some (.int .i64 g.d)∧w'.cell? ⟨b,off+(k+1) * 3+2,none⟩=some (.string g.vl)) (first | go_keep | (simp only [kc];go_keep))
     (first | (go_at_call 63;refine (HC.out _).mono ?_;rintro e w1 ⟨rfl,hb1⟩;have kc:=fun o => hb1.cell (p:=⟨b,o,none⟩) hbl))
    go_wp2
    go_roundw
    case rel =>
     exact ⟨k+1,.inl (by omega),by go_num,Hall2,hbel.drew.trans (hb1.mono hsz)⟩
    case measure => simp [intOf];omega
   | false =>
    have HR:Hid (incB Fx.lt l=false):=incB_false_of_take (k:=k+1+1) (by rw [HI.out,Hall.out,hp];rfl)
    have t1:decide ((0:Int)≤C)=true:=by
     have h:=HL.out
     rw [show fxLt f.nm f.d g.nm g.d=false from hp,decide_eq_false_iff_not] at h
     rw [decide_eq_true_eq];omega
    clear hp
    go_wp2
    go_region_held3 (fun w' => w'.cell? ⟨b,off+k * 3,none⟩=some (.string f.nm)∧w'.cell? ⟨b,off+k * 3+1,none⟩=some (.int .i64 f.d)∧w'.cell? ⟨b,off+k * 3+2,none⟩=some (.string f.vl)∧w'.cell? ⟨b,off+(k+1) * 3,none⟩=some (.string g.nm)∧w'.cell? ⟨b,off+(k+1) * 3+1,none⟩=some (.int .i64 g.d)∧w'.cell? ⟨b,off+(k+1) * 3+2,none⟩=some (.string g.vl)) (first | go_keep | (simp only [kc];go_keep))
     (first | (go_at_call 63;refine (HC.out _).mono ?_;rintro e w1 ⟨rfl,hb1⟩;have kc:=fun o => hb1.cell (p:=⟨b,o,none⟩) hbl))
    go_wp2
    go_ret
    exact ⟨ret_bool' HR.out.symm,hbel.drew.trans (hb1.mono hsz)⟩
  ·have HR:Hid (incB Fx.lt l=true):=by
    show _=_
    have:=Hall.out
    rwa [List.take_of_length_le (by omega)] at this
   have t1 : ¬ ((k:Int)+1 < (l.length:Int)):=by omega
   go_wp2
   go_ret
   exact ⟨ret_bool' HR.out.symm,hbel⟩
set_option maxHeartbeats 1000000 in
set_option maxRecDepth 100000 in
theorem indexCh_any (l:List Ch) (ad:Option Addr) (cap:Nat) (w:World) (hn:l.length≤1100000) (hr:Rd Ch.cells 4 w ad l) (hsm:∀ f ∈ l,f.small) :
  Calls Tryz.prog 99 #[.slice ad l.length cap,.func (.func 59) #[] #[]] w fun e w' => e = .returned (.int .i64 (idxR (l.findIdx? chBad)))∧Below w.heap.size w w':=by
 have HS:=Lib.hid hsm
 have HD:=Lib.hid hr
 clear hsm hr
 go_enter Tryz.func99,Tryz.ntmps99
 go_wp2
 go_loopw [8] (fun i wr => ∃ k:Nat,k≤l.length∧i = .int .i64 k∧Hid (∀ y ∈ l.take k,chBad y=false)∧Below w.heap.size w wr) (fun i _ => l.length - (intOf i).toNat)
 case atStart => exact ⟨0,Nat.zero_le _,rfl,Lib.hid (by simp),Below.refl _ _⟩
 case round =>
  obtain ⟨k,hk,rfl,Hall,hbel⟩:=hrel
  by_cases hlt:k < l.length
  ·obtain ⟨f,hf⟩:∃ f,l[k]? = some f:=⟨_,List.getElem?_eq_getElem hlt⟩
   have hfm:f ∈ l:=List.mem_of_getElem? hf
   have HRf:Hid (∃ b off,ad=some ⟨b,off,none⟩∧_):=((HD.out.below hbel).ch hf)
   have HC:=Lib.hid (fun W => pickCl_any f W (HS.out f hfm).1 (HS.out f hfm).2)
   have HF:=Lib.hid hf
   clear hf hfm
   obtain ⟨b,off,rfl,hc1,hc2,hc3,hc4⟩:=HRf
   have hsz:=hbel.size
   simp only [Ch.val,chV] at HC
   cases hp:chBad f with
   | true =>
    have HR:Hid (l.findIdx? chBad=some k):=findIdx_some HF.out hp Hall.out
    rw [hp] at HC
    clear hp
    go_wp2_with (go_at_call 59;refine (HC.out _).mono ?_;rintro e w1 ⟨rfl,hb1⟩)
    go_ret
    exact ⟨by rw [HR.out];rfl,hbel.trans (hb1.mono hsz)⟩
   | false =>
    have Hall2:Hid (∀ y ∈ l.take (k+1),chBad y=false):=all_take_succ HF.out hp Hall.out
    rw [hp] at HC
    clear hp
    go_wp2_with (go_at_call 59;refine (HC.out _).mono ?_;rintro e w1 ⟨rfl,hb1⟩)
    go_roundw
    case rel => exact ⟨k+1,by omega,by go_num,Hall2,hbel.trans (hb1.mono hsz)⟩
    case measure => simp [intOf];omega
  ·obtain rfl:k=l.length:=by omega
   have HR:Hid (l.findIdx? chBad=none):=findIdx_none (by have:=Hall.out;rwa [List.take_length] at this)
   go_wp2
   go_ret
   exact ⟨by rw [HR.out];rfl,hbel⟩
set_option maxRecDepth 100000 in
theorem containsCh_any (l:List Ch) (ad:Option Addr) (cap:Nat) (w:World) (hn:l.length≤1100000) (hr:Rd Ch.cells 4 w ad l) (hsm:∀ f ∈ l,f.small) :
  Calls Tryz.prog 61 #[.slice ad l.length cap,.func (.func 59) #[] #[]] w fun e w' => e = .returned (.bool (l.any chBad))∧Below w.heap.size w w':=by
 have HI:=Lib.hid (indexCh_any l ad cap w hn hr hsm)
 have HE:=Lib.hid (idxR_any chBad l)
 clear hsm hr
 go_enter Tryz.func61,Tryz.ntmps61
 go_wp2_with (go_at_call 99;refine HI.out.mono ?_;rintro e w1 ⟨rfl,hb1⟩)
 go_ret
 exact ⟨ret_bool' HE.out,hb1⟩
set_option maxHeartbeats 1000000 in
set_option maxRecDepth 100000 in
theorem orderedCh_any (l:List Ch) (ad:Option Addr) (cap:Nat) (w:World) (hn:l.length≤1100000) (hr:Rd Ch.cells 4 w ad l) :
  Calls Tryz.prog 64 #[.slice ad l.length cap,.func (.func 65) #[] #[]] w fun e w' => e = .returned (.bool (incB Ch.lt l))∧Below w.heap.size w w':=by
 have HD:=Lib.hid hr
 clear hr
 go_enter Tryz.func64,Tryz.ntmps64
 go_wp2
 go_loopw [5] (fun i wr => ∃ k:Nat,(k+1≤l.length∨k=0)∧i = .int .i64 ((k:Int)+1)∧Hid (incB Ch.lt (l.take (k+1))=true)∧Below w.heap.size w wr) (fun i _ => l.length+1 - (intOf i).toNat)
 case atStart => exact ⟨0,.inr rfl,by go_num,incB_le_one (by rw [List.length_take];omega),Below.refl _ _⟩
 case round =>
  obtain ⟨k,hk,rfl,Hall,hbel⟩:=hrel
  by_cases hlt:k+1 < l.length
  ·obtain ⟨f,hf⟩:∃ f,l[k]? = some f:=⟨_,List.getElem?_eq_getElem (by omega)⟩
   obtain ⟨g,hg⟩:∃ g,l[k+1]? = some g:=⟨_,List.getElem?_eq_getElem hlt⟩
   have HRf:=((HD.out.below hbel).ch hf)
   have HRg:=((HD.out.below hbel).ch hg)
   have HI:=Lib.hid (incB_snoc (lt:=Ch.lt) hf hg)
   clear hf hg
   obtain ⟨b,off,rfl,hc1,hc2,hc3,hc4⟩:=HRf
   obtain ⟨b',off',he,hd1,hd2,hd3,hd4⟩:=HRg
   obtain ⟨rfl,rfl⟩:b=b'∧off=off':=by simpa using he
   clear he
   have hsz:=hbel.size
   have HC:Hid (∀ W,Calls Tryz.prog 65 #[f.val,g.val] W fun e w' => e = .returned (.int .i64 (chCmp f.pt f.nm f.d g.pt g.nm g.d))∧Below W.heap.size W w'):=fun W => choices_any _ _ _ _ _ _ _ _ _
   simp only [Ch.val,chV] at HC
   have HL:=Lib.hid (chCmp_lt f.pt g.pt f.nm g.nm f.d g.d)
   have e1:(k:Int)+1 - 1=(k:Int):=by omega
   have e2:IntKind.i64.wrap ((k:Int)+1 - 1)=(k:Int):=by rw [IntWalk.i64_in _ (by omega)];omega
   have e3:IntKind.i64.wrap (k:Int)=(k:Int):=IntWalk.i64_in _ (by omega)
   have e4:((k:Int)+1).toNat=k+1:=by omega
   have hk2:(0:Int)≤(k:Int)+1:=by omega
   have hk3:(k:Int)+1 < (l.length:Int):=by omega
   have hk0:(0:Int)≤(k:Int):=by omega
   have hbl:b < wr.heap.size:=World.block_lt_of_cell? wr _ hc1
   have hk1:(k:Int) < (l.length:Int):=by omega
   obtain ⟨C,hC⟩:∃ C,chCmp f.pt f.nm f.d g.pt g.nm g.d=C:=⟨_,rfl⟩
   rw [hC] at HC HL
   clear hC
   cases hp:Ch.lt f g with
   | true =>
    have Hall2:Hid (incB Ch.lt (l.take (k+1+1))=true):=by show _=_;rw [HI.out,Hall.out,hp];rfl
    have t1:decide ((0:Int)≤C)=false:=by
     have h:=HL.out
     rw [show chLt f.pt f.nm f.d g.pt g.nm g.d=true from hp,decide_eq_true_eq] at h
     rw [decide_eq_false_iff_not];omega
    have Hall2:Hid (incB Ch.lt (l.take (k+1+1))=true):=by show _=_;rw [HI.out,Hall.out,hp];rfl
    clear hp
    go_wp2
    go_region_held3 (fun w' => w'.cell? ⟨b,off+k * 4,none⟩=some (.string f.pt)∧w'.cell? ⟨b,off+k * 4+1,none⟩=some (.string f.nm)∧w'.cell? ⟨b,off+k * 4+2,none⟩=some (.int .i64 f.d)∧w'.cell? ⟨b,off+k * 4+3,none⟩=some (.bool f.first)∧w'.cell? ⟨b,off+(k+1) * 4,none⟩=some (.string g.pt)∧w'.cell? ⟨b,off+(k+1) * 4+1,none⟩=some (.string g.nm)∧w'.cell? ⟨b,off+(k+1) * 4+2,none⟩=some (.int .i64 g.d)∧w'.cell? ⟨b,off+(k+1) * 4+3,none⟩=some (.bool g.first)) (first | go_keep | (simp only [kc];go_keep))
     (first | (go_at_call 65;refine (HC.out _).mono ?_;rintro e w1 ⟨rfl,hb1⟩;have kc:=fun o => hb1.cell (p:=⟨b,o,none⟩) hbl))
    go_wp2
    go_roundw
    case rel =>
     exact ⟨k+1,.inl (by omega),by go_num,Hall2,hbel.drew.trans (hb1.mono hsz)⟩
    case measure => simp [intOf];omega
   | false =>
    have HR:Hid (incB Ch.lt l=false):=incB_false_of_take (k:=k+1+1) (by rw [HI.out,Hall.out,hp];rfl)
    have t1:decide ((0:Int)≤C)=true:=by
     have h:=HL.out
     rw [show chLt f.pt f.nm f.d g.pt g.nm g.d=false from hp,decide_eq_false_iff_not] at h
     rw [decide_eq_true_eq];omega
    clear hp
    go_wp2
    go_region_held3 (fun w' => w'.cell? ⟨b,off+k * 4,none⟩=some (.string f.pt)∧w'.cell? ⟨b,off+k * 4+1,none⟩=some (.string f.nm)∧w'.cell? ⟨b,off+k * 4+2,none⟩=some (.int .i64 f.d)∧w'.cell? ⟨b,off+k * 4+3,none⟩=some (.bool f.first)∧w'.cell? ⟨b,off+(k+1) * 4,none⟩=some (.string g.pt)∧w'.cell? ⟨b,off+(k+1) * 4+1,none⟩=some (.string g.nm)∧w'.cell? ⟨b,off+(k+1) * 4+2,none⟩=some (.int .i64 g.d)∧w'.cell? ⟨b,off+(k+1) * 4+3,none⟩=some (.bool g.first)) (first | go_keep | (simp only [kc];go_keep))
     (first | (go_at_call 65;refine (HC.out _).mono ?_;rintro e w1 ⟨rfl,hb1⟩;have kc:=fun o => hb1.cell (p:=⟨b,o,none⟩) hbl))
    go_wp2
    go_ret
    exact ⟨ret_bool' HR.out.symm,hbel.drew.trans (hb1.mono hsz)⟩
  ·have HR:Hid (incB Ch.lt l=true):=by
    show _=_
    have:=Hall.out
    rwa [List.take_of_length_le (by omega)] at this
   have t1 : ¬ ((k:Int)+1 < (l.length:Int)):=by omega
   go_wp2
   go_ret
   exact ⟨ret_bool' HR.out.symm,hbel⟩
end Go.Proofs.YthdeijdimfjceaaGreatDoor

namespace Go.Proofs.YthdeijdimfjceaaGreatDoor
open Go.RowKit
theorem fx_oneCell (f:Fx):∀ u ∈ f.cells,u.oneCell'=true:=by
 intro u hu
 simp [Fx.cells] at hu
 rcases hu with rfl | rfl | rfl <;> rfl
theorem ch_oneCell (f:Ch):∀ u ∈ f.cells,u.oneCell'=true:=by
 intro u hu
 simp [Ch.cells] at hu
 rcases hu with rfl | rfl | rfl | rfl <;> rfl
def Ch.fits (f:Ch):Prop:=(Lit.int .i64 f.d).wf=true
def Fx.fits (f:Fx):Prop:=(Lit.int .i64 f.d).wf=true
theorem ul_fixings:Tryz.prog.underlying 29=some (.slice 37):=by kernel_rfl
theorem ul_choices:Tryz.prog.underlying 30=some (.slice 80):=by kernel_rfl
theorem info_fixing:(Tryz.prog.info? 37).map (fun i => (i.zero,i.size,i.bytes))=some (some (.agg #[.string ⟨#[]⟩,.int .i64 0,.string ⟨#[]⟩]),3,40):=by kernel_rfl
theorem info_choice:(Tryz.prog.info? 80).map (fun i => (i.zero,i.size,i.bytes))=some (some (.agg #[.string ⟨#[]⟩,.string ⟨#[]⟩,.int .i64 0,.bool false]),4,48):=by kernel_rfl
def EnvPost (w:World) (er:Int) (fs:List Fx) (cs:List Ch) (e:Ending) (w':World):Prop :=
 ∃ a1 c1 a2 c2,e = .returned (.tuple #[.agg #[.slice a1 fs.length c1,.slice a2 cs.length c2],.int .i64 er]) ∧
  w'.ownsRow w.heap.size 37 3 (.slice a1 fs.length c1) fs.length (fs.flatMap Fx.cells) ∧
  w'.ownsRow w.heap.size 80 4 (.slice a2 cs.length c2) cs.length (cs.flatMap Ch.cells)∧Below w.heap.size w w'
theorem envPost_none {w w':World} {er:Int} (hb:Below w.heap.size w w'):EnvPost w er [] [] (.returned (.tuple #[.agg #[.slice none 0 0,.slice none 0 0],.int .i64 er])) w' :=
 ⟨none,0,none,0,rfl,World.ownsRow_nil _ _ _ _,World.ownsRow_nil _ _ _ _,hb⟩
end Go.Proofs.YthdeijdimfjceaaGreatDoor

namespace Go.Proofs.YthdeijdimfjceaaGreatDoor
open Go.RowKit Go.ChangeShapes Go.WideShapes Go.Deep
section
variable {H:Type} {enc:TypeId × Value→H} {w:World} {sp:Nat→Bool} {held:Bool}
theorem dec_fx {n:Nat} {cs:List Value} {z:DataW H × List MemPlace} (hl:cs.length=3) (h:DataW.trod enc Tryz.prog w 0 sp held n 37 cs=some z) :
  ∃ f:Fx,cs=f.cells∧f.fits∧(Rows.uptoBulk z.1≤1048576→f.small):=by
 obtain ⟨c0,c1,c2,rfl⟩:=arr3 hl
 obtain ⟨xs,n',_,hz,_,hxl,hf⟩:=DataW.trod_struct Tryz.underlying37 h
 obtain ⟨y0,y1,y2,rfl⟩:=arr3 hxl
 have h0:=hf 0 _ rfl
 have h1:=hf 1 _ rfl
 have h2:=hf 2 _ rfl
 simp [cells_string,cells_int,cells_rat] at h0 h1 h2
 obtain ⟨s,hs,rfl,_⟩:=DataW.trod_string Tryz.underlying9 h0
 obtain ⟨d,hd,rfl,hw⟩:=DataW.trod_int Tryz.underlying3 h1
 obtain ⟨v,hv,rfl,_⟩:=DataW.trod_string Tryz.underlying22 h2
 simp at hs hd hv
 subst hs hd hv
 refine ⟨⟨s,d,v⟩,rfl,hw,fun hb => ?_⟩
 rw [hz] at hb
 have b0:=bulk_agg (H:=H) (d:=.lit (.string s.data.toList)) (l:=[.lit (.string s.data.toList),.lit (.int .i64 d),.lit (.string v.data.toList)]) (by simp)
 have b2:=bulk_agg (H:=H) (d:=.lit (.string v.data.toList)) (l:=[.lit (.string s.data.toList),.lit (.int .i64 d),.lit (.string v.data.toList)]) (by simp)
 have q0:=bulk_text (H:=H) s
 have q2:=bulk_text (H:=H) v
 have hb':Rows.uptoBulk (DataW.agg (H:=H) [.lit (.string s.data.toList),.lit (.int .i64 d),.lit (.string v.data.toList)])≤1048576:=hb
 exact ⟨by show s.size≤_;omega,by show v.size≤_;omega⟩
theorem dec_ch {n:Nat} {cs:List Value} {z:DataW H × List MemPlace} (hl:cs.length=4) (h:DataW.trod enc Tryz.prog w 0 sp held n 80 cs=some z) :
  ∃ f:Ch,cs=f.cells∧f.fits∧(Rows.uptoBulk z.1≤1048576→f.small):=by
 obtain ⟨c0,c1,c2,c3,rfl⟩:=arr4 hl
 obtain ⟨xs,n',_,hz,_,hxl,hf⟩:=DataW.trod_struct Tryz.underlying80 h
 obtain ⟨y0,y1,y2,y3,rfl⟩:=arr4 hxl
 have h0:=hf 0 _ rfl
 have h1:=hf 1 _ rfl
 have h2:=hf 2 _ rfl
 have h3:=hf 3 _ rfl
 simp [cells_string,cells_int,cells_bool] at h0 h1 h2 h3
 obtain ⟨s,hs,rfl,_⟩:=DataW.trod_string Tryz.underlying9 h0
 obtain ⟨v,hv,rfl,_⟩:=DataW.trod_string Tryz.underlying9 h1
 obtain ⟨d,hd,rfl,hw⟩:=DataW.trod_int Tryz.underlying3 h2
 obtain ⟨b,hb,rfl⟩:=DataW.trod_bool Tryz.underlying4 h3
 simp at hs hd hv hb
 subst hs hd hv hb
 refine ⟨⟨s,v,d,b⟩,rfl,hw,fun hb => ?_⟩
 rw [hz] at hb
 have b0:=bulk_agg (H:=H) (d:=.lit (.string s.data.toList)) (l:=[.lit (.string s.data.toList),.lit (.string v.data.toList),.lit (.int .i64 d),.lit (.bool b)]) (by simp)
 have b2:=bulk_agg (H:=H) (d:=.lit (.string v.data.toList)) (l:=[.lit (.string s.data.toList),.lit (.string v.data.toList),.lit (.int .i64 d),.lit (.bool b)]) (by simp)
 have q0:=bulk_text (H:=H) s
 have q2:=bulk_text (H:=H) v
 have hb':Rows.uptoBulk (DataW.agg (H:=H) [.lit (.string s.data.toList),.lit (.string v.data.toList),.lit (.int .i64 d),.lit (.bool b)])≤1048576:=hb
 exact ⟨by show s.size≤_;omega,by show v.size≤_;omega⟩
end
end Go.Proofs.YthdeijdimfjceaaGreatDoor

namespace Go.Proofs.YthdeijdimfjceaaGreatDoor
open Go.RowKit
mutual
def Ex.size:Ex→Nat
 | .mk _ _ _ _ l => 1+Ex.sizes l
def Ex.sizes:List Ex→Nat
 | [] => 0
 | x :: l => Ex.size x+Ex.sizes l
end
mutual
def Ex.depth:Ex→Nat
 | .mk _ _ _ _ l => Ex.depths l+1
def Ex.depths:List Ex→Nat
 | [] => 0
 | x :: l => max (Ex.depth x) (Ex.depths l)
end
theorem Ex.size_eq (x:Ex):x.size=1+Ex.sizes x.sub:=by cases x;rw [Ex.size];rfl
theorem Ex.depth_eq (x:Ex):x.depth=Ex.depths x.sub+1:=by cases x;rw [Ex.depth];rfl
theorem Ex.sizes_append (l m:List Ex):Ex.sizes (l ++ m)=Ex.sizes l+Ex.sizes m:=by
 induction l with
 | nil => simp [Ex.sizes]
 | cons x l ih => rw [List.cons_append,Ex.sizes,Ex.sizes,ih];omega
theorem Ex.sizes_snoc {l:List Ex} {k:Nat} {x:Ex} (h:l[k]? = some x):Ex.sizes (l.take (k+1))=Ex.sizes (l.take k)+x.size:=by
 rw [take_snoc_get h,Ex.sizes_append,Ex.sizes,Ex.sizes];omega
theorem Ex.depths_append (l m:List Ex):Ex.depths (l ++ m)=max (Ex.depths l) (Ex.depths m):=by
 induction l with
 | nil => simp [Ex.depths]
 | cons x l ih => rw [List.cons_append,Ex.depths,Ex.depths,ih];omega
theorem Ex.depths_snoc {l:List Ex} {k:Nat} {x:Ex} (h:l[k]? = some x):Ex.depths (l.take (k+1))=max (Ex.depths (l.take k)) x.depth:=by
 rw [take_snoc_get h,Ex.depths_append,Ex.depths,Ex.depths];omega
mutual
theorem Ex.size_le:∀ x:Ex,x.size≤x.bulk
 | .mk _ r n _ l => by rw [Ex.size,Ex.bulk];have:=Ex.sizes_le l;omega
theorem Ex.sizes_le:∀ l:List Ex,Ex.sizes l≤Ex.bulks l
 | [] => by simp [Ex.sizes]
 | x :: l => by rw [Ex.sizes,Ex.bulks];have:=Ex.size_le x;have:=Ex.sizes_le l;omega
end
mutual
theorem Ex.depth_le:∀ x:Ex,x.depth≤x.size
 | .mk _ r n _ l => by rw [Ex.depth,Ex.size];have:=Ex.depths_le l;omega
theorem Ex.depths_le:∀ l:List Ex,Ex.depths l≤Ex.sizes l
 | [] => by simp [Ex.depths]
 | x :: l => by rw [Ex.depths,Ex.sizes];have:=Ex.depth_le x;have:=Ex.depths_le l;omega
end
theorem Ex.sizes_take (l:List Ex) (k:Nat):Ex.sizes (l.take k)≤Ex.sizes l:=by
 have h:=Ex.sizes_append (l.take k) (l.drop k)
 rw [List.take_append_drop] at h
 omega
theorem Ex.depths_take (l:List Ex) (k:Nat):Ex.depths (l.take k)≤Ex.depths l:=by
 have h:=Ex.depths_append (l.take k) (l.drop k)
 rw [List.take_append_drop] at h
 omega
end Go.Proofs.YthdeijdimfjceaaGreatDoor

namespace Go.Proofs.YthdeijdimfjceaaGreatDoor
open Go.RowKit
def shapeOf (k:Nat):Option (List Nat × Nat) :=
 if 4≤k∧k≤8 then some ([1,1],1) else if k=9 then some ([2,1,1],1) else if k=11∨k=12 then some ([1,1],2)
 else if k=13∨k=14 then some ([2,2],2) else if k=15 then some ([2],2) else none
def leafOk (k:Nat) (ra nm:ByteArray) (d:Int) (n:Nat):Prop :=
 n=0∧((k=1∧ratErr ra=0∧nm.size=0∧d=0)∨(k=2∧ra.size=0∧isNm (bl nm)=true∧isDay d=true)∨(k=3∧ra.size=0∧isNm (bl nm)=true∧d=0))
noncomputable def leafSort (k:Nat) (ra nm:ByteArray) (d:Int) (n:Nat):Nat:=@ite _ (leafOk k ra nm d n) (Classical.propDecidable _) 1 0
noncomputable def partSort (ra nm:ByteArray) (d:Int) (l ps:List Nat) (own:Nat):Nat:=if ra.size=0∧nm.size=0∧d=0∧l=ps then own else 0
noncomputable def sortOf (k:Nat) (ra nm:ByteArray) (d:Int) (l:List Nat):Nat :=
 match shapeOf k with
 | none => leafSort k ra nm d l.length
 | some (ps,own) => partSort ra nm d l ps own
mutual
noncomputable def Ex.sort:Ex→Nat
 | .mk k r n d l => sortOf k r n d (Ex.sorts l)
noncomputable def Ex.sorts:List Ex→List Nat
 | [] => []
 | x :: l => Ex.sort x :: Ex.sorts l
end
theorem Ex.sort_eq (x:Ex):x.sort=sortOf x.k x.ra x.nm x.d (Ex.sorts x.sub):=by cases x;rw [Ex.sort];rfl
theorem Ex.sorts_eq (l:List Ex):Ex.sorts l=l.map Ex.sort:=by
 induction l with
 | nil => rw [Ex.sorts];rfl
 | cons x l ih => rw [Ex.sorts,ih];rfl
theorem Ex.sorts_length (l:List Ex):(Ex.sorts l).length=l.length:=by rw [Ex.sorts_eq,List.length_map]
noncomputable def Ex.err (x:Ex):Int:=if 500 < x.size∨60 < x.depth then 4 else if x.sort=0 then 8 else 0
noncomputable def Ex.isA (x:Ex) (t:Nat):Bool:=decide (x.err=0) && decide (x.sort=t)
def Ex.bare (x:Ex):Bool:=decide (x.k=0) && (decide (x.ra.size=0) && (decide (x.nm.size=0) && (decide (x.d=0) && decide (x.sub.length=0))))
def isDays (l:List Int):Bool:=decide (1≤l.length) && (decide (l.length≤100) && (l.all isDay && decide (l.Pairwise (· < ·))))
mutual
def Con.size:Con→Nat
 | .mk _ _ _ _ x _ _ l => 1+(if x.bare=true then 0 else x.size)+Con.sizes l
def Con.sizes:List Con→Nat
 | [] => 0
 | x :: l => Con.size x+Con.sizes l
end
mutual
def Con.depth:Con→Nat
 | .mk _ _ _ _ x _ _ l => max (if x.bare=true then 0 else x.depth) (Con.depths l)+1
def Con.depths:List Con→Nat
 | [] => 0
 | x :: l => max (Con.depth x) (Con.depths l)
end
theorem Con.size_eq (x:Con):x.size=1+(if x.ex.bare=true then 0 else x.ex.size)+Con.sizes x.sub:=by cases x;rw [Con.size];rfl
theorem Con.depth_eq (x:Con):x.depth=max (if x.ex.bare=true then 0 else x.ex.depth) (Con.depths x.sub)+1:=by cases x;rw [Con.depth];rfl
theorem Con.sizes_append (l m:List Con):Con.sizes (l ++ m)=Con.sizes l+Con.sizes m:=by
 induction l with
 | nil => simp [Con.sizes]
 | cons x l ih => rw [List.cons_append,Con.sizes,Con.sizes,ih];omega
theorem Con.sizes_snoc {l:List Con} {k:Nat} {x:Con} (h:l[k]? = some x):Con.sizes (l.take (k+1))=Con.sizes (l.take k)+x.size:=by
 rw [take_snoc_get h,Con.sizes_append,Con.sizes,Con.sizes];omega
theorem Con.depths_append (l m:List Con):Con.depths (l ++ m)=max (Con.depths l) (Con.depths m):=by
 induction l with
 | nil => simp [Con.depths]
 | cons x l ih => rw [List.cons_append,Con.depths,Con.depths,ih];omega
theorem Con.depths_snoc {l:List Con} {k:Nat} {x:Con} (h:l[k]? = some x):Con.depths (l.take (k+1))=max (Con.depths (l.take k)) x.depth:=by
 rw [take_snoc_get h,Con.depths_append,Con.depths,Con.depths];omega
mutual
theorem Con.size_le:∀ x:Con,x.size≤x.bulk
 | .mk _ _ _ _ x _ _ l => by
  rw [Con.size,Con.bulk]
  have:=Con.sizes_le l
  have:=x.size_le
  split <;> omega
theorem Con.sizes_le:∀ l:List Con,Con.sizes l≤Con.bulks l
 | [] => by simp [Con.sizes]
 | x :: l => by rw [Con.sizes,Con.bulks];have:=Con.size_le x;have:=Con.sizes_le l;omega
end
mutual
theorem Con.depth_le:∀ x:Con,x.depth≤x.size
 | .mk _ _ _ _ x _ _ l => by
  rw [Con.depth,Con.size]
  have:=Con.depths_le l
  have:=x.depth_le
  split <;> omega
theorem Con.depths_le:∀ l:List Con,Con.depths l≤Con.sizes l
 | [] => by simp [Con.depths]
 | x :: l => by rw [Con.depths,Con.sizes];have:=Con.depth_le x;have:=Con.depths_le l;omega
end
theorem Con.sizes_take (l:List Con) (k:Nat):Con.sizes (l.take k)≤Con.sizes l:=by
 have h:=Con.sizes_append (l.take k) (l.drop k)
 rw [List.take_append_drop] at h
 omega
theorem Con.depths_take (l:List Con) (k:Nat):Con.depths (l.take k)≤Con.depths l:=by
 have h:=Con.depths_append (l.take k) (l.drop k)
 rw [List.take_append_drop] at h
 omega
noncomputable def nodeOk (c:Con):Bool :=
 let nobody:=decide (c.fr.size=0)
 let noTo:=decide (c.rc.size=0)
 let noName:=decide (c.nm.size=0)
 let noDate:=decide (c.d=0)
 let noDays:=decide (c.ds.length=0)
 let n:=c.sub.length
 if c.k=1 then decide (n=0) && (nobody && (noTo && (noName && (noDate && (noDays && c.ex.bare)))))
 else if c.k=2 then decide (n=0) && (isNm (bl c.fr) && (isNm (bl c.rc) && (!decide (c.fr=c.rc) && (isNm (bl c.nm) && (c.ex.isA 1 && (noDate && noDays))))))
 else if c.k=3 then decide (n=2) && (nobody && (noTo && (noName && (noDate && (noDays && c.ex.bare)))))
 else if c.k=4 then decide (n=1) && (nobody && (noTo && (noName && (noDate && (noDays && c.ex.isA 1)))))
 else if c.k=5 then decide (n=2) && (nobody && (noTo && (noName && (noDate && (noDays && c.ex.isA 2)))))
 else if c.k=6 then decide (n=1) && (nobody && (noTo && (noName && (isDay c.d && (noDays && c.ex.bare)))))
 else if c.k=7 then decide (n=2) && (isNm (bl c.fr) && (noTo && (isNm (bl c.nm) && (noDate && (noDays && c.ex.bare)))))
 else if c.k=8 then decide (n=1) && (isNm (bl c.fr) && (noTo && (isNm (bl c.nm) && (noDate && (isDays c.ds && c.ex.bare)))))
 else if c.k=9∨c.k=10 then decide (n=1) && (nobody && (noTo && (noName && (noDate && (isDays c.ds && c.ex.isA 2)))))
 else false
mutual
noncomputable def Con.formed:Con→Bool
 | .mk k fr rc nm ex d ds l => nodeOk (.mk k fr rc nm ex d ds l) && Con.formeds l
noncomputable def Con.formeds:List Con→Bool
 | [] => true
 | x :: l => Con.formed x && Con.formeds l
end
theorem Con.formed_eq (x:Con):x.formed=(nodeOk x && Con.formeds x.sub):=by cases x;rw [Con.formed];rfl
theorem Con.formeds_eq (l:List Con):Con.formeds l=l.all Con.formed:=by
 induction l with
 | nil => rw [Con.formeds];rfl
 | cons x l ih => rw [Con.formeds,ih];rfl
noncomputable def Con.err (x:Con):Int:=if 500 < x.size∨60 < x.depth then 4 else if x.formed=true then 0 else 8
end Go.Proofs.YthdeijdimfjceaaGreatDoor

namespace Go.Proofs.YthdeijdimfjceaaGreatDoor
open Go.RowKit
theorem sz_nil (s:ByteArray):s.size=0 ↔ s.toList=[]:=by
 rw [Lib.toList_data]
 obtain ⟨⟨l⟩⟩:=s
 cases l <;> simp [ByteArray.size]
theorem emp_nil (s:ByteArray):s=ByteArray.empty ↔ s.toList=[]:=by
 rw [← sz_nil];simp
theorem len_nil {α:Type} (l:List α) [Decidable (l=[])]:((l.length:Int) == 0)=decide (l=[]):=by
 cases l with
 | nil => simp
 | cons x l => rw [Bool.eq_iff_iff];simp;omega
set_option maxHeartbeats 1000000 in
set_option maxRecDepth 100000 in
theorem bare_any (x:Ex) (s:Value) (w:World) (hs:RdE w x.sub s) :
  Calls Tryz.prog 77 #[x.val s] w fun e w' => e = .returned (.bool x.bare)∧Below w.heap.size w w':=by
 obtain ⟨ad,cap,rfl⟩:=hs.len
 clear hs
 unfold Ex.val
 go_enter Tryz.func77,Tryz.ntmps77
 go_wp2_with fail
 all_goals
  go_ret
  exact ⟨ret_bool' (by simp [Ex.bare,emp_nil,len_nil, *]),below_a1 _ _⟩
set_option maxRecDepth 100000 in
theorem cwithin_any (d:Int) (w:World):Calls Tryz.prog 86 #[.int .i64 d] w fun e w' => e = .returned (.bool (isDay d))∧w=w':=by
 go_enter Tryz.func86,Tryz.ntmps86
 go_wp2
 all_goals
  go_ret
  refine ⟨ret_bool' ?_,rfl⟩
  rw [Bool.eq_iff_iff];simp [isDay];omega
def risen (l:List Int) (k:Nat):Prop:=∀ j,j < k→∃ d,l[j]? = some d∧isDay d=true∧∀ i c,j=i+1→l[i]? = some c→c < d
theorem risen_lt {l:List Int} {n:Nat} (h:risen l n):∀ (j i:Nat) (c d:Int),i < j→j < n→l[i]? = some c→l[j]? = some d→c < d:=by
 intro j
 induction j with
 | zero => intro i c d hi;omega
 | succ j ih =>
  intro i c d hi hj hc hd
  obtain ⟨d',h1,_,h3⟩:=h (j+1) hj
  obtain rfl:=Option.some.inj (hd.symm.trans h1)
  obtain ⟨e,h4,_,_⟩:=h j (by omega)
  have h5:=h3 j e rfl h4
  rcases Nat.lt_or_ge i j with hij | hij
  ·have:=ih i c e hij (by omega) hc h4
   omega
  ·obtain rfl:i=j:=by omega
   obtain rfl:=Option.some.inj (hc.symm.trans h4)
   exact h5
theorem isDays_iff (l:List Int):isDays l=true ↔ 1≤l.length∧l.length≤100∧risen l l.length:=by
 unfold isDays
 simp only [Bool.and_eq_true,decide_eq_true_eq,List.all_eq_true]
 constructor
 ·rintro ⟨h1,h2,h3,h4⟩
  refine ⟨h1,h2,fun j hj => ⟨l[j],List.getElem?_eq_getElem hj,h3 _ (List.getElem_mem hj),fun i c e hc => ?_⟩⟩
  subst e
  have hi:i < l.length:=by omega
  rw [List.getElem?_eq_getElem hi] at hc
  obtain rfl:=Option.some.inj hc
  exact List.pairwise_iff_getElem.1 h4 i (i+1) hi hj (by omega)
 ·rintro ⟨h1,h2,h3⟩
  refine ⟨h1,h2,fun x hx => ?_,?_⟩
  ·obtain ⟨j,hj,rfl⟩:=List.mem_iff_getElem.1 hx
   obtain ⟨d,h4,h5,_⟩:=h3 j hj
   rw [List.getElem?_eq_getElem hj] at h4
   obtain rfl:=Option.some.inj h4
   exact h5
  ·rw [List.pairwise_iff_getElem]
   intro i j hi hj hij
   exact risen_lt h3 j i _ _ hij hj (List.getElem?_eq_getElem hi) (List.getElem?_eq_getElem hj)
theorem isDays_no {l:List Int} {k:Nat} {d:Int} (hd:l[k]? = some d) (h:isDay d=false∨∃ i c,k=i+1∧l[i]? = some c∧d≤c):isDays l=false:=by
 rw [Bool.eq_false_iff]
 intro hh
 have hk:k < l.length:=(List.getElem?_eq_some_iff.1 hd).1
 obtain ⟨d',h1,h2,h3⟩:=((isDays_iff l).1 hh).2.2 k hk
 obtain rfl:=Option.some.inj (hd.symm.trans h1)
 rcases h with h | ⟨i,c,e,hc,hle⟩
 ·rw [h] at h2;cases h2
 ·have:=h3 i c e hc;omega
theorem risen_succ {l:List Int} {k:Nat} {d:Int} (h:risen l k) (hd:l[k]? = some d) (h1:isDay d=true) (h2:∀ i c,k=i+1→l[i]? = some c→c < d):risen l (k+1):=by
 intro j hj
 rcases Nat.lt_or_ge j k with hjk | hjk
 ·exact h j hjk
 ·obtain rfl:j=k:=by omega
  exact ⟨d,hd,h1,h2⟩
set_option maxHeartbeats 1000000 in
set_option maxRecDepth 100000 in
theorem days_any (l:List Int) (v:Value) (w:World) (hn:l.length≤2000000) (hr:RdI w l v) :
  Calls Tryz.prog 87 #[v] w fun e w' => e = .returned (.bool (isDays l))∧w=w':=by
 obtain ⟨ad,cap,rfl,_,hr⟩:=hr
 have HR:=Lib.hid hr
 clear hr
 by_cases h0:l.length=0
 ·have HF:Hid (isDays l=false):=by
   show _=_
   rw [Bool.eq_false_iff]
   intro h
   have:=((isDays_iff l).1 h).1
   omega
  rw [h0]
  go_enter Tryz.func87,Tryz.ntmps87
  go_wp2_with fail
  go_ret
  exact ⟨ret_bool' HF.out.symm,rfl⟩
 by_cases h1:100 < l.length
 ·have HF:Hid (isDays l=false):=by
   show _=_
   rw [Bool.eq_false_iff]
   intro h
   have:=((isDays_iff l).1 h).2.1
   omega
  have t1:decide ((l.length:Int) < 1)=false:=by rw [decide_eq_false_iff_not];omega
  have t2 : ¬ l.length < 1:=by omega
  have t3:(100:Int) < (l.length:Int):=by omega
  go_enter Tryz.func87,Tryz.ntmps87
  go_wp2_with fail
  go_ret
  exact ⟨ret_bool' HF.out.symm,rfl⟩
 have t1:decide ((l.length:Int) < 1)=false:=by rw [decide_eq_false_iff_not];omega
 have t2 : ¬ l.length < 1:=by omega
 have t3:decide ((100:Int) < (l.length:Int))=false:=by rw [decide_eq_false_iff_not];omega
 have t4:decide (100 < l.length)=false:=by rw [decide_eq_false_iff_not];omega
 go_enter Tryz.func87,Tryz.ntmps87
 go_wp2_with fail
 go_loopw [15] (fun i wr => ∃ (k:Nat),k≤l.length∧i = .int .i64 (k:Int)∧Hid (risen l k)∧wr=w) (fun i _ => l.length - (intOf i).toNat)
 case atStart => exact ⟨0,Nat.zero_le _,rfl,Lib.hid (fun j hj => by omega),rfl⟩
 case round =>
  obtain ⟨k,hk,rfl,HRi,rfl⟩:=hrel
  by_cases hlt:k < l.length
  ·obtain ⟨d,hd⟩:∃ d,l[k]? = some d:=⟨_,List.getElem?_eq_getElem hlt⟩
   obtain ⟨b,off,rfl,c0⟩:=HR.out k d hd
   have hk1:(0:Int)≤(k:Int):=by omega
   have hk2:(k:Int) < (l.length:Int):=by omega
   have HW:=Lib.hid (fun W => cwithin_any d W)
   cases hday:isDay d with
   | false =>
    rw [hday] at HW
    have HF:Hid (isDays l=false):=Lib.hid (isDays_no hd (.inl hday))
    clear hd hday
    go_wp2_with fail
    refine (HW.out _).mono ?_
    rintro e w1 ⟨rfl,rfl⟩
    go_wp2
    go_ret
    exact ⟨ret_bool' HF.out.symm,rfl⟩
   | true =>
    rw [hday] at HW
    cases k with
    | zero =>
     rw [Nat.add_zero] at c0
     have HN:Hid (risen l (0+1)):=Lib.hid (risen_succ HRi.out hd hday (fun i c e => by omega))
     clear hd hday
     go_wp2_with fail
     refine (HW.out _).mono ?_
     rintro e w1 ⟨rfl,rfl⟩
     go_wp2
     go_roundw
     case rel => exact ⟨1,by omega,by go_num,HN,by first | rfl | trivial⟩
     case measure => simp [intOf];omega
    | succ j =>
     obtain ⟨c,hc⟩:∃ c,l[j]? = some c:=⟨_,List.getElem?_eq_getElem (by omega)⟩
     have c1:wr.cell? ⟨b,off+j,none⟩=some (.int .i64 c):=by
      obtain ⟨b',off',e,h⟩:=HR.out j c hc
      cases e
      exact h
     have e1:IntKind.i64.wrap (((j+1:Nat):Int) - 1)=(j:Int):=by rw [IntWalk.i64_in _ (by omega)];omega
     have hj0:(0:Int) < ((j+1:Nat):Int):=by omega
     have hj2:(j:Int) < (l.length:Int):=by omega
     have hj3:j < l.length:=by omega
     by_cases hcd:d≤c
     ·have HF:Hid (isDays l=false):=Lib.hid (isDays_no hd (.inr ⟨j,c,rfl,hc,hcd⟩))
      clear hd hday hc
      go_wp2_with fail
      refine (HW.out _).mono ?_
      rintro e w1 ⟨rfl,rfl⟩
      go_wp2
      go_ret
      exact ⟨ret_bool' HF.out.symm,rfl⟩
     ·have HN:Hid (risen l (j+1+1)):=Lib.hid (risen_succ HRi.out hd hday (fun i c' e hc' => by
       obtain rfl:i=j:=by omega
       obtain rfl:=Option.some.inj (hc.symm.trans hc')
       omega))
      have hcd':decide (d≤c)=false:=by rw [decide_eq_false_iff_not];exact hcd
      clear hd hday hc
      go_wp2_with fail
      refine (HW.out _).mono ?_
      rintro e w1 ⟨rfl,rfl⟩
      go_wp2
      go_roundw
      case rel => exact ⟨j+1+1,by omega,by go_num,HN,by first | rfl | trivial⟩
      case measure => simp [intOf];omega
  ·obtain rfl:k=l.length:=by omega
   have HF:Hid (isDays l=true):=Lib.hid ((isDays_iff l).2 ⟨by omega,by omega,HRi.out⟩)
   go_wp2
   go_ret
   exact ⟨ret_bool' HF.out.symm,rfl⟩
end Go.Proofs.YthdeijdimfjceaaGreatDoor

namespace Go.Proofs.YthdeijdimfjceaaGreatDoor
open Go.RowKit
theorem leafSort_yes {k:Nat} {ra nm:ByteArray} {d:Int} {n:Nat} (h:leafOk k ra nm d n):leafSort k ra nm d n=1:=by unfold leafSort;rw [if_pos h]
theorem leafSort_no {k:Nat} {ra nm:ByteArray} {d:Int} {n:Nat} (h : ¬ leafOk k ra nm d n):leafSort k ra nm d n=0:=by unfold leafSort;rw [if_neg h]
set_option maxHeartbeats 2000000 in
set_option maxRecDepth 100000 in
theorem leaf_core (k n:Nat) (ra nm:ByteArray) (d:Int) (ad:Option Addr) (cap:Nat) (w:World) (hn:n≤2000000) (h1:ra.size≤2000000) (h2:nm.size≤2000000) :
  Calls Tryz.prog 142 #[.agg #[.int .u8 (k:Int),.string ra,.string nm,.int .i64 d,.slice ad n cap]] w fun e w' => e = .returned (.int .u8 ((leafSort k ra nm d n:Nat):Int))∧Below w.heap.size w w':=by
 have HR:=Lib.hid (fun W => rat_any ra W (by omega))
 have HN:=Lib.hid (fun W => name_any nm W (by omega))
 have HD:=Lib.hid (fun W => within_any d W)
 have HY:=Lib.hid (@leafSort_yes k ra nm d n)
 have HX:=Lib.hid (@leafSort_no k ra nm d n)
 generalize hLS:leafSort k ra nm d n=LS at *
 clear hLS
 by_cases hz:n=0
 ·subst hz
  by_cases hk1:k=1
  ·subst hk1
   go_enter Tryz.func142,Tryz.ntmps142
   go_wp2_with fail
   refine (HR.out _).mono ?_
   rintro e w1 ⟨rfl,hb1⟩
   have q2:w1.cell? ⟨w.heap.size,2,none⟩=some (.string nm):=by rw [hb1.cell (p:=⟨w.heap.size,2,none⟩) (by simp)];go_simp
   have q3:w1.cell? ⟨w.heap.size,3,none⟩=some (.int .i64 d):=by rw [hb1.cell (p:=⟨w.heap.size,3,none⟩) (by simp)];go_simp
   have hb2:Below w.heap.size w w1:=(below_a1 _ _).trans (hb1.mono (by simp))
   clear hb1
   go_wp2
   all_goals
    go_ret
    first
     | exact ⟨by rw [HY.out (by clear HR HN HD;simp_all [leafOk,emp_nil])];rfl,hb2⟩
     | exact ⟨by rw [HX.out (by clear HR HN HD;simp_all [leafOk,emp_nil])];rfl,hb2⟩
  ·by_cases hk2:k=2
   ·subst hk2
    cases hnm:isNm (bl nm) <;> cases hdy:isDay d <;> rw [hnm] at HN <;> rw [hdy] at HD
    all_goals
     go_enter Tryz.func142,Tryz.ntmps142
     go_wp2_with (first | (refine (HN.out _).mono ?_;rintro e w1 ⟨rfl,rfl⟩) | (refine (HD.out _).mono ?_;rintro e w1 ⟨rfl,rfl⟩))
     all_goals
      go_ret
      first
       | exact ⟨by rw [HY.out (by clear HR HN HD;simp_all [leafOk,emp_nil])];rfl,below_a1 _ _⟩
       | exact ⟨by rw [HX.out (by clear HR HN HD;simp_all [leafOk,emp_nil])];rfl,below_a1 _ _⟩
   ·by_cases hk3:k=3
    ·subst hk3
     cases hnm:isNm (bl nm) <;> rw [hnm] at HN
     all_goals
      go_enter Tryz.func142,Tryz.ntmps142
      go_wp2_with (first | (refine (HN.out _).mono ?_;rintro e w1 ⟨rfl,rfl⟩))
      all_goals
       go_ret
       first
        | exact ⟨by rw [HY.out (by clear HR HN HD;simp_all [leafOk,emp_nil])];rfl,below_a1 _ _⟩
        | exact ⟨by rw [HX.out (by clear HR HN HD;simp_all [leafOk,emp_nil])];rfl,below_a1 _ _⟩
    ·have HF:Hid (LS=0):=Lib.hid (HX.out (by simp [leafOk, *]))
     go_enter Tryz.func142,Tryz.ntmps142
     go_wp2_with fail
     all_goals
      go_ret
      exact ⟨by rw [HF.out];rfl,below_a1 _ _⟩
 ·have HF:Hid (LS=0):=Lib.hid (HX.out (by simp [leafOk,hz]))
  have hz':((n:Int) == 0)=false:=by simpa using hz
  go_enter Tryz.func142,Tryz.ntmps142
  go_wp2_with fail
  all_goals
   go_ret
   exact ⟨by rw [HF.out];rfl,below_a1 _ _⟩
end Go.Proofs.YthdeijdimfjceaaGreatDoor

namespace Go.Proofs.YthdeijdimfjceaaGreatDoor
open Go.RowKit
set_option maxHeartbeats 1000000 in
set_option maxRecDepth 100000 in
theorem osize_any:∀ (N:Nat) (x:Ex) (s:Value) (w:World),x.bulk≤N→x.bulk≤2000000→RdE w x.sub s →
  Calls Tryz.prog 78 #[x.val s] w fun e w' => e = .returned (.int .i64 (x.size:Int))∧Below w.heap.size w w':=by
 intro N
 induction N with
 | zero =>
  intro x s w h0 _ _
  rw [Ex.bulk_eq] at h0
  omega
 | succ N ih =>
  intro x s w hN hB hs
  obtain ⟨ad,cap,rfl⟩:=hs.len
  have HS:=Lib.hid hs
  have HI:=Lib.hid ih
  have hlen:=Ex.bulks_len x.sub
  have hlt0:=x.sub_lt
  have hsz:=x.size_le
  have hsq:=x.size_eq
  have hn:x.sub.length≤2000000:=by omega
  have hb0:=below_a1 w (.cells #[.int .u8 x.k,.string x.ra,.string x.nm,.int .i64 x.d,.slice ad x.sub.length cap] 47)
  clear hs ih
  unfold Ex.val
  go_enter Tryz.func78,Tryz.ntmps78
  go_wp2_with fail
  go_loopw [3,9] (fun n i wr => ∃ (k S:Nat),k≤x.sub.length∧i = .int .i64 (k:Int)∧n = .int .i64 (S:Int)∧S≤2000000∧Hid (S=1+Ex.sizes (x.sub.take k))∧Below w.heap.size w wr∧wr.cell? ⟨w.heap.size,4,none⟩=some (.slice ad x.sub.length cap)) (fun _ i _ => x.sub.length - (intOf i).toNat)
  case atStart => exact ⟨0,1,Nat.zero_le _,rfl,rfl,by omega,rfl,hb0,by go_simp⟩
  case round =>
   clear hb0
   obtain ⟨k,S,hk,rfl,rfl,hS,HSz,hbel,q0⟩:=hrel
   by_cases hlt:k < x.sub.length
   ·obtain ⟨y,hy⟩:∃ y,x.sub[k]? = some y:=⟨_,List.getElem?_eq_getElem hlt⟩
    obtain ⟨b,off,s',rfl,c0,c1,c2,c3,c4,hs',_⟩:=(HS.out.frame hbel).at hy
    obtain ⟨ad',cap',rfl⟩:=hs'.len
    have hym:=Ex.mem_lt (List.mem_of_getElem? hy)
    have hblk:b < wr.heap.size:=World.block_lt_of_cell? wr _ c0
    have hbx:w.heap.size < wr.heap.size:=World.block_lt_of_cell? wr _ q0
    have hzw:=hbel.size
    have HSn:Hid (S+y.size=1+Ex.sizes (x.sub.take (k+1))):=by show _=_;rw [Ex.sizes_snoc hy,HSz.out];omega
    have hSn:S+y.size≤2000000:=by have:=HSn.out;have:=Ex.sizes_take x.sub (k+1);omega
    have e1:IntKind.i64.wrap ((S:Int)+(y.size:Int))=((S+y.size:Nat):Int):=by rw [IntWalk.i64_in _ (by omega)];omega
    have hk1:(0:Int)≤(k:Int):=by omega
    have hk2:(k:Int) < (x.sub.length:Int):=by omega
    have HC:=Lib.hid (HI.out y _ (wr.alloc (.cells #[.int .u8 y.k,.string y.ra,.string y.nm,.int .i64 y.d,.slice ad' y.sub.length cap'] 47)) (by omega) (by omega) (hs'.frame (below_a1 _ _)))
    unfold Ex.val at HC
    clear hy hym hs'
    go_wp2_with fail
    refine HC.out.mono ?_
    rintro e w1 ⟨rfl,hb1⟩
    have q1:w1.cell? ⟨w.heap.size,4,none⟩=some (.slice (some ⟨b,off,none⟩) x.sub.length cap):=by rw [hb1.cell (p:=⟨w.heap.size,4,none⟩) (by simp;omega)];go_simp
    have hb2:=(hbel.alloc hzw _).trans (hb1.mono (by simp;omega))
    clear hb1 hbel q0
    go_wp2
    go_roundw
    case rel => exact ⟨k+1,S+y.size,by omega,by go_num,rfl,hSn,HSn,hb2,q1⟩
    case measure => simp [intOf];omega
   ·obtain rfl:k=x.sub.length:=by omega
    have HF:Hid ((S:Int)=(x.size:Int)):=by
     show _=_
     have h:=HSz.out
     rw [List.take_length] at h
     omega
    go_wp2
    go_ret
    exact ⟨by rw [HF.out];rfl,hbel⟩
end Go.Proofs.YthdeijdimfjceaaGreatDoor
