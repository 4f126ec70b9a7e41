/- A part. -/
import Derived.Test.YtcnpaciljmekcaaGreatDoorB02
import Derived.Shelf.Lays
import Derived.Ground.NamesProg
namespace Go.Proofs.YtcnpaciljmekcaaGreatDoor
open Go.RowKit
def Con.pays (c:Con):Nat:=(c.nodes.filter fun n => n.k == 2).length
def Con.payss (l:List Con):Nat:=((Con.nodess l).filter fun n => n.k == 2).length
theorem Con.pays_eq (c:Con):c.pays=(if c.k=2 then 1 else 0)+Con.payss c.sub:=by
 unfold Con.pays Con.payss
 rw [c.nodes_eq,List.filter_cons]
 by_cases h:c.k=2
 ·rw [if_pos (by simp [h]),if_pos h,List.length_cons];omega
 ·rw [if_neg (by simp [h]),if_neg h];omega
theorem Con.payss_one (x:Con):Con.payss [x]=x.pays:=by simp [Con.payss,Con.nodess,Con.pays]
theorem Con.payss_two (x y:Con):Con.payss [x,y]=x.pays+y.pays:=by simp [Con.payss,Con.nodess,Con.pays]
theorem paidS_who {d:Int} {fr rc cy am:ByteArray}:∀ f ∈ paidS d fr rc cy am,(f.fr=fr∧f.rc=rc∨f.fr=rc∧f.rc=fr)∧f.cy=cy:=by
 intro f hf
 unfold paidS at hf
 split at hf
 ·cases hf
 ·split at hf
  ·rw [List.mem_singleton] at hf;subst hf;exact ⟨.inr ⟨rfl,rfl⟩,rfl⟩
  ·rw [List.mem_singleton] at hf;subst hf;exact ⟨.inl ⟨rfl,rfl⟩,rfl⟩
theorem paidS_one {d:Int} {fr rc cy am:ByteArray}:(paidS d fr rc cy am).length≤1:=by
 unfold paidS
 split
 ·simp
 ·split <;> simp
theorem mulAll_pay (k:ByteArray) {c:Con}:∀ l:List Fl,(∀ f ∈ l,PayOf c f)→∀ f ∈ (mulAll k l).2,PayOf c f
 | [],_ => by intro f hf;cases hf
 | g :: l,h => by
  unfold mulAll
  refine andR_all fun _ => andR_all fun _ => ?_
  intro f hf
  rcases List.mem_append.1 hf with hf | hf
  ·obtain ⟨n,hn,h2,hw,hc⟩:=h g (List.mem_cons_self ..)
   obtain ⟨e1,e2⟩:=paidS_who f hf
   refine ⟨n,hn,h2,?_,e2.trans hc⟩
   rcases e1 with ⟨a,b⟩ | ⟨a,b⟩ <;> rcases hw with ⟨u,v⟩ | ⟨u,v⟩ <;> rw [a,b,u,v] <;> simp
  ·exact mulAll_pay k l (fun f hf => h f (List.mem_cons_of_mem _ hf)) f hf
theorem andR_cnt {α:Type} {N:Nat} {a:Int × α} {f:α→Int × List Fl} (h:(f a.2).2.length≤N):(andR a [] f).2.length≤N:=by
 unfold andR
 split
 ·exact Nat.zero_le _
 ·exact h
theorem mulAll_cnt (k:ByteArray):∀ l:List Fl,(mulAll k l).2.length≤l.length
 | [] => Nat.le_refl _
 | g :: l => by
  unfold mulAll
  refine andR_cnt (andR_cnt ?_)
  rw [List.length_append,List.length_cons]
  have h1:=mulAll_cnt k l
  have h2:(paidS g.d g.fr g.rc g.cy (mkB (mulS g.am k))).length≤1:=paidS_one
  show (paidS g.d g.fr g.rc g.cy (mkB (mulS g.am k))).length+(mulAll k l).2.length≤l.length+1
  omega
theorem flows_pays (F:List Fx) (C:List Ch):∀ (N:Nat) (c:Con),c.bulk≤N→c.formed=true→∀ day fin,(∀ f ∈ (c.flows F C day fin).2,PayOf c f)∧(c.flows F C day fin).2.length≤c.pays
 | 0,c,hN,_ => by have:=c.sub_lt;omega
 | N+1,c,hN,hw => fun day fin => by
  have IH:∀ y ∈ c.sub,∀ day fin,(∀ f ∈ (y.flows F C day fin).2,PayOf c f)∧(y.flows F C day fin).2.length≤y.pays:=fun y hy day fin => by
   have h:=flows_pays F C N y (by have:=Con.mem_lt hy;omega) (by rw [Con.formed_eq,Bool.and_eq_true,Con.formeds_eq] at hw;exact List.all_eq_true.1 hw.2 y hy) day fin
   exact ⟨fun f hf => (h.1 f hf).up hy,h.2⟩
  have hcs:=con_cases c hw
  have hP:∀ f:Fl,c.k=2→(f.fr=c.fr∧f.rc=c.rc∨f.fr=c.rc∧f.rc=c.fr)∧f.cy=c.nm→PayOf c f:=fun f hk h => ⟨c,by rw [c.nodes_eq];exact List.mem_cons_self ..,hk,h⟩
  have hp:=c.pays_eq
  generalize c.pays=P at *
  have hM:∀ (a:ByteArray) (l:List Fl),(∀ f ∈ l,PayOf c f)→∀ f ∈ (mulAll a l).2,PayOf c f:=fun a l => mulAll_pay a l
  generalize hQ:PayOf c=Q at *
  obtain ⟨k,fr,rc,nm,ex,d,ds,l⟩:=c
  simp only [Con.k,Con.sub,Con.ex,Con.d,Con.ds,Con.fr,Con.rc,Con.nm] at hcs IH hP hp
  clear hQ
  unfold Con.flows
  by_cases hn:fin≤day
  ·rw [if_pos hn];exact ⟨fun f hf => (by cases hf),Nat.zero_le _⟩
  ·rw [if_neg hn]
   have one:∀ {x:Con} {day fin:Int},l=[x]→(∀ f ∈ (x.flows F C day fin).2,Q f)∧(x.flows F C day fin).2.length≤P:=fun {x day fin} h => by
    subst h
    have h:=IH x (by simp) day fin
    exact ⟨h.1,by rw [Con.payss_one] at hp;omega⟩
   have nil:(∀ f ∈ ((0,[]):Int × List Fl).2,Q f)∧((0,[]):Int × List Fl).2.length≤P:=⟨fun f hf => (by cases hf),Nat.zero_le _⟩
   have and1:∀ {α:Type} {a:Int × α} {f:α→Int × List Fl},((∀ g ∈ (f a.2).2,Q g)∧(f a.2).2.length≤P)→(∀ g ∈ (andR a [] f).2,Q g)∧(andR a [] f).2.length≤P:=fun h => ⟨andR_all fun _ => h.1,andR_cnt h.2⟩
   rcases hcs with ⟨rfl,rfl⟩ | ⟨rfl,rfl,hA⟩ | ⟨rfl,x,y,rfl⟩ | ⟨rfl,hA,x,rfl⟩ | ⟨rfl,hA,x,y,rfl⟩ | ⟨rfl,hd,x,rfl⟩ | ⟨rfl,x,y,rfl⟩ | ⟨rfl,hd,x,rfl⟩ | ⟨hk,hd,hA,x,rfl⟩
   ·exact nil
   ·dsimp only
    rw [if_pos rfl]
    exact and1 ⟨fun f hf => hP f rfl (paidS_who f hf),Nat.le_trans paidS_one (by simp at hp;omega)⟩
   ·dsimp only
    rw [if_pos rfl]
    rw [Con.payss_two] at hp
    have hx:=IH x (by simp) day fin
    have hy:=IH y (by simp) day fin
    refine and1 (and1 ⟨fun f hf => ?_,?_⟩)
    ·rcases List.mem_append.1 hf with hf | hf
     ·exact hx.1 f hf
     ·exact hy.1 f hf
    ·show ((x.flows F C day fin).2 ++ (y.flows F C day fin).2).length≤P
     rw [List.length_append];omega
   ·dsimp only
    rw [if_pos rfl]
    exact and1 (and1 ⟨hM _ _ (one rfl).1,Nat.le_trans (mulAll_cnt _ _) (one rfl).2⟩)
   ·dsimp only
    rw [if_neg (by decide),if_pos rfl]
    rw [Con.payss_two] at hp
    refine and1 ?_
    split
    ·exact ⟨(IH x (by simp) day fin).1,by have:=(IH x (by simp) day fin).2;omega⟩
    ·exact ⟨(IH y (by simp) day fin).1,by have:=(IH y (by simp) day fin).2;omega⟩
   ·dsimp only
    rw [if_neg (by decide),if_pos rfl]
    split
    ·exact one rfl
    ·exact nil
   ·dsimp only
    rw [if_neg (by decide),if_neg (by decide)]
    rw [Con.payss_two] at hp
    split
    ·exact ⟨(IH x (by simp) day fin).1,by have:=(IH x (by simp) day fin).2;omega⟩
    ·exact ⟨(IH y (by simp) day fin).1,by have:=(IH y (by simp) day fin).2;omega⟩
   ·dsimp only
    rw [if_neg (by decide),if_neg (by decide),if_pos rfl]
    exact one rfl
   ·dsimp only
    rcases hk with rfl | rfl
    ·rw [if_neg (by decide),if_neg (by decide),if_neg (by decide),if_pos rfl]
     exact and1 (one rfl)
    ·rw [if_neg (by decide),if_neg (by decide),if_neg (by decide),if_neg (by decide)]
     exact and1 (one rfl)
end Go.Proofs.YtcnpaciljmekcaaGreatDoor

namespace Go.Proofs.YtcnpaciljmekcaaGreatDoor
open Go.RowKit
def flGood (f:Fl):Prop:=isNm (bl f.fr)=true∧isNm (bl f.rc)=true∧isNm (bl f.cy)=true∧f.fr ≠ f.rc∧ratErr f.am=0∧bl f.am ≠ [48]∧isNeg (bl f.am)=false∧isDay f.d=true
def okP (l:List Fl):Prop:=∀ (j:Nat) (f:Fl),l[j]? = some f→flGood f∧∀ (i:Nat) (g:Fl),i+1=j→l[i]? = some g→g.d≤f.d
noncomputable def flowsErr (l:List Fl):Int:=if 5000 < l.length then 4 else if eqB (okP l) then 0 else 8
def lastD (l:List Fl) (k:Nat):Int:=if k=0 then 0 else match l[k - 1]? with | some f => f.d | none => 0
theorem lastD_succ {l:List Fl} {k:Nat} {f:Fl} (h:l[k]? = some f):lastD l (k+1)=f.d:=by
 simp [lastD,h]
theorem isDay_iff {d:Int}:isDay d=true ↔ 0≤d∧d≤99999:=by simp [isDay]
theorem okP_nil:okP []:=fun j f h => by simp at h
theorem okP_step {l:List Fl} {k:Nat} {f:Fl} (h:okP (l.take k)) (hf:l[k]? = some f) (hg:flGood f) (hd:lastD l k≤f.d):okP (l.take (k+1)):=by
 intro j g hj
 rw [List.getElem?_take] at hj
 split at hj
 ·rename_i hjk
  by_cases hk:j=k
  ·subst hk
   obtain rfl:f=g:=Option.some.inj (hf.symm.trans hj)
   refine ⟨hg,fun i g2 hi hg2 => ?_⟩
   subst hi
   rw [List.getElem?_take,if_pos (by omega)] at hg2
   rw [lastD_succ hg2] at hd
   exact hd
  ·have hj2:(l.take k)[j]? = some g:=by rw [List.getElem?_take,if_pos (by omega)];exact hj
   refine ⟨(h j g hj2).1,fun i g2 hi hg2 => (h j g hj2).2 i g2 hi ?_⟩
   rw [List.getElem?_take,if_pos (by omega)] at hg2 ⊢
   exact hg2
 ·cases hj
theorem okP_bad {l:List Fl} {k:Nat} {f:Fl} (hf:l[k]? = some f) (hb : ¬ flGood f∨f.d < lastD l k) : ¬ okP l:=by
 intro h
 obtain ⟨h1,h2⟩:=h k f hf
 rcases hb with hb | hb
 ·exact hb h1
 ·cases k with
  | zero =>
   have:=(isDay_iff.1 h1.2.2.2.2.2.2.2).1
   simp [lastD] at hb
   omega
  | succ k =>
   obtain ⟨g,hg⟩:∃ g,l[k]? = some g:=⟨_,List.getElem?_eq_getElem (by have:=(List.getElem?_eq_some_iff.1 hf).1;omega)⟩
   rw [lastD_succ hg] at hb
   have:=h2 k g rfl hg
   omega
theorem lastD_nonneg {l:List Fl} {k:Nat} (h:okP (l.take k)):0≤lastD l k:=by
 cases k with
 | zero => simp [lastD]
 | succ k =>
  unfold lastD
  rw [if_neg (by omega)]
  split
  ·rename_i f hf
   have hf2:(l.take (k+1))[k]? = some f:=by rw [List.getElem?_take,if_pos (by omega)];exact hf
   exact (isDay_iff.1 (h k f hf2).1.2.2.2.2.2.2.2).1
  ·omega
theorem flowsErr_bad {l:List Fl} (h5 : ¬ 5000 < l.length) (h : ¬ okP l):flowsErr l=8:=by rw [flowsErr,if_neg h5,eqB_false h];rfl
theorem flowsErr_ok {l:List Fl} (h5 : ¬ 5000 < l.length) (h:okP l):flowsErr l=0:=by rw [flowsErr,if_neg h5,eqB_true h];rfl
theorem am_pos {s:ByteArray} (h:ratErr s=0):0 < s.size:=by
 have h1:=(rat_parts h).1
 have h2:=canonI_pos (intErr_zero h1).1
 have:=numS_size s
 omega
set_option maxHeartbeats 4000000 in
set_option maxRecDepth 100000 in
theorem chkFl_any (l:List Fl) (ad:Option Addr) (cap:Nat) (w:World) (hn:l.length≤1100000) (hr:Rd Fl.cells 5 w ad l) (hs:∀ f ∈ l,f.small) :
  Calls Tryz.prog 12 #[.slice ad l.length cap] w fun e w' => e = .returned (.int .i64 (flowsErr l))∧Below w.heap.size w w':=by
 have HR:=Lib.hid hr
 have HS:=Lib.hid hs
 clear hr hs
 by_cases h5:5000 < l.length
 ·have HE:Hid (flowsErr l=4):=by show _=_;rw [flowsErr,if_pos h5]
  have t1:decide ((5000:Int) < (l.length:Int))=true:=by rw [decide_eq_true_eq];omega
  clear h5
  go_enter Tryz.func12,Tryz.ntmps12
  go_wp2
  go_ret
  exact ⟨ret_int' HE.out.symm,Below.refl _ _⟩
 ·have t1:decide ((5000:Int) < (l.length:Int))=false:=by rw [decide_eq_false_iff_not];omega
  have H5:=Lib.hid h5
  have hl5:l.length≤5000:=by omega
  clear h5
  go_enter Tryz.func12,Tryz.ntmps12
  go_wp2_with fail
  go_loopw [3,12] (fun z i wr => ∃ (k:Nat) (la:Int),k≤l.length∧i = .int .i64 k∧z = .int .i64 la∧Hid (la=lastD l k∧okP (l.take k))∧Below w.heap.size w wr) (fun _ i _ => l.length - (intOf i).toNat)
  case atStart => exact ⟨0,0,Nat.zero_le _,rfl,rfl,Lib.hid ⟨rfl,by simpa using okP_nil⟩,Below.refl _ _⟩
  case round =>
   obtain ⟨k,la,hk,rfl,rfl,HI,hbel⟩:=hrel
   by_cases hlt:k < l.length
   ·obtain ⟨f,hf⟩:∃ f,l[k]? = some f:=⟨_,List.getElem?_eq_getElem hlt⟩
    obtain ⟨b,off,rfl,c0,c1,c2,c3,c4⟩:=(HR.out.below hbel).fl hf
    obtain ⟨s1,s2,s3,s4⟩:=HS.out f (List.mem_of_getElem? hf)
    have HF:=Lib.hid hf
    clear hf
    have hsz:=hbel.size
    have hblk:b < wr.heap.size:=World.block_lt_of_cell? wr _ c0
    have HN:=Lib.hid (fun W (s:ByteArray) (h:s.size≤1100000) => name_any s W (by omega))
    have HC:=Lib.hid (fun W => rat_any f.am W (by omega))
    have HBad:Hid (¬ (flGood f∧la≤f.d)→flowsErr l=8):=fun h => flowsErr_bad H5.out (okP_bad HF.out (by
     by_cases hg:flGood f
     ·right;rw [← HI.out.1];rcases Int.lt_or_le f.d la with h2 | h2
      ·exact h2
      ·exact absurd ⟨hg,h2⟩ h
     ·exact .inl hg))
    have HGood:Hid (flGood f→la≤f.d→okP (l.take (k+1))∧lastD l (k+1)=f.d):=fun h1 h2 => ⟨okP_step HI.out.2 HF.out h1 (by rw [← HI.out.1];exact h2),lastD_succ HF.out⟩
    have hla:0≤la:=by rw [HI.out.1];exact lastD_nonneg HI.out.2
    have hk1:(0:Int)≤(k:Int):=by omega
    have hk2:(k:Int) < (l.length:Int):=by omega
    have hb1:=hbel.alloc hsz (.cells #[.int .i64 f.d,.string f.fr,.string f.rc,.string f.cy,.string f.am] 46)
    have HB1:=Lib.hid hb1
    clear hb1 hbel
    obtain ⟨er,h4⟩:∃ a,a=ratErr f.am:=⟨_,rfl⟩
    rw [← h4] at HC
    have HG:Hid (flGood f ↔ (isNm (bl f.fr)=true∧isNm (bl f.rc)=true∧isNm (bl f.cy)=true∧f.fr ≠ f.rc∧er=0∧bl f.am ≠ [48]∧isNeg (bl f.am)=false∧isDay f.d=true)):=by show _ ↔ _;rw [h4];exact Iff.rfl
    have HAp:Hid (er=0→0 < f.am.size):=by rw [h4];exact am_pos
    clear h4
    generalize f.fr=fr at *
    generalize f.rc=rc at *
    generalize f.cy=cy at *
    generalize f.am=am at *
    generalize f.d=d at *
    cases ha1:isNm (bl fr) with
    | false =>
     have Ha1:=Lib.hid ha1
     have HE:=Lib.hid (HBad.out (fun h => by have:=(HG.out.1 h.1).1;rw [Ha1.out] at this;cases this))
     clear HBad HGood HG HAp
     go_wp2_with (first | (go_at_call 36;refine (HN.out _ _ ?_).mono ?_;(assumption);rintro e w' ⟨rfl,rfl⟩) | (go_at_call 37;refine (HC.out _).mono ?_;rintro e w' ⟨rfl,hb9⟩;have hc9:w'.cell? ⟨wr.heap.size,4,none⟩=some (.string am):=by rw [hb9.cell (by simp)];go_simp))
     go_ret
     exact ⟨ret_int' HE.out.symm,HB1.out⟩
    | true =>
     cases ha2:isNm (bl rc) with
     | false =>
      have Ha2:=Lib.hid ha2
      have HE:=Lib.hid (HBad.out (fun h => by have:=(HG.out.1 h.1).2.1;rw [Ha2.out] at this;cases this))
      clear HBad HGood HG HAp
      go_wp2_with (first | (go_at_call 36;refine (HN.out _ _ ?_).mono ?_;(assumption);rintro e w' ⟨rfl,rfl⟩) | (go_at_call 37;refine (HC.out _).mono ?_;rintro e w' ⟨rfl,hb9⟩;have hc9:w'.cell? ⟨wr.heap.size,4,none⟩=some (.string am):=by rw [hb9.cell (by simp)];go_simp))
      go_ret
      exact ⟨ret_int' HE.out.symm,HB1.out⟩
     | true =>
      cases ha3:isNm (bl cy) with
      | false =>
       have Ha3:=Lib.hid ha3
       have HE:=Lib.hid (HBad.out (fun h => by have:=(HG.out.1 h.1).2.2.1;rw [Ha3.out] at this;cases this))
       clear HBad HGood HG HAp
       go_wp2_with (first | (go_at_call 36;refine (HN.out _ _ ?_).mono ?_;(assumption);rintro e w' ⟨rfl,rfl⟩) | (go_at_call 37;refine (HC.out _).mono ?_;rintro e w' ⟨rfl,hb9⟩;have hc9:w'.cell? ⟨wr.heap.size,4,none⟩=some (.string am):=by rw [hb9.cell (by simp)];go_simp))
       go_ret
       exact ⟨ret_int' HE.out.symm,HB1.out⟩
      | true =>
       by_cases hft:fr=rc
       ·have u1:(fr.toList == rc.toList)=true:=by rw [hft];simp
        have u1':(fr.toList != rc.toList)=false:=by rw [hft];simp
        have Hft:=Lib.hid hft
        clear hft
        have HE:=Lib.hid (HBad.out (fun h => (HG.out.1 h.1).2.2.2.1 Hft.out))
        clear HBad HGood HG HAp
        go_wp2_with (first | (go_at_call 36;refine (HN.out _ _ ?_).mono ?_;(assumption);rintro e w' ⟨rfl,rfl⟩) | (go_at_call 37;refine (HC.out _).mono ?_;rintro e w' ⟨rfl,hb9⟩;have hc9:w'.cell? ⟨wr.heap.size,4,none⟩=some (.string am):=by rw [hb9.cell (by simp)];go_simp))
        go_ret
        exact ⟨ret_int' HE.out.symm,HB1.out⟩
       ·have u1:(fr.toList == rc.toList)=false:=by rw [toList_beq,decide_eq_false hft]
        have u1':(fr.toList != rc.toList)=true:=by rw [bne,toList_beq,decide_eq_false hft];rfl
        have Hft:=Lib.hid hft
        clear hft
        by_cases hd1:d < la
        ·have u2:decide (d < la)=true:=by simpa using hd1
         have Hd1:=Lib.hid hd1
         clear hd1
         have HE:=Lib.hid (HBad.out (fun h => by have:=Hd1.out;have:=h.2;omega))
         clear HBad HGood HG HAp
         go_wp2_with (first | (go_at_call 36;refine (HN.out _ _ ?_).mono ?_;(assumption);rintro e w' ⟨rfl,rfl⟩) | (go_at_call 37;refine (HC.out _).mono ?_;rintro e w' ⟨rfl,hb9⟩;have hc9:w'.cell? ⟨wr.heap.size,4,none⟩=some (.string am):=by rw [hb9.cell (by simp)];go_simp))
         go_ret
         exact ⟨ret_int' HE.out.symm,HB1.out⟩
        ·have u2:decide (d < la)=false:=by simpa using hd1
         have Hd1:=Lib.hid hd1
         clear hd1
         by_cases hd2:99999 < d
         ·have u3:decide (99999 < d)=true:=by simpa using hd2
          have Hd2:=Lib.hid hd2
          clear hd2
          have HE:=Lib.hid (HBad.out (fun h => by have:=Hd2.out;have:=(isDay_iff.1 (HG.out.1 h.1).2.2.2.2.2.2.2).2;omega))
          clear HBad HGood HG HAp
          go_wp2_with (first | (go_at_call 36;refine (HN.out _ _ ?_).mono ?_;(assumption);rintro e w' ⟨rfl,rfl⟩) | (go_at_call 37;refine (HC.out _).mono ?_;rintro e w' ⟨rfl,hb9⟩;have hc9:w'.cell? ⟨wr.heap.size,4,none⟩=some (.string am):=by rw [hb9.cell (by simp)];go_simp))
          go_ret
          exact ⟨ret_int' HE.out.symm,HB1.out⟩
         ·have u3:decide (99999 < d)=false:=by simpa using hd2
          have Hd2:=Lib.hid hd2
          clear hd2
          by_cases her:er=0
          ·subst her
           have hpos:=HAp.out rfl
           have hbc:=bl_cons am hpos
           obtain ⟨ch,hch⟩:∃ c,am[0]=c:=⟨_,rfl⟩
           rw [hch] at hbc
           by_cases hz:bl am=[48]
           ·have ez:(am.toList == [48])=true:=by rw [Lib.toList_data];show (bl am == [48])=true;rw [hz];rfl
            have Hz:=Lib.hid hz
            clear hz hbc
            have HE:=Lib.hid (HBad.out (fun h => (HG.out.1 h.1).2.2.2.2.2.1 Hz.out))
            clear HBad HGood HG HAp
            go_wp2_with (first | (go_at_call 36;refine (HN.out _ _ ?_).mono ?_;(assumption);rintro e w' ⟨rfl,rfl⟩) | (go_at_call 37;refine (HC.out _).mono ?_;rintro e w' ⟨rfl,hb9⟩;have hc9:w'.cell? ⟨wr.heap.size,4,none⟩=some (.string am):=by rw [hb9.cell (by simp)];go_simp))
            go_ret
            exact ⟨ret_int' HE.out.symm,HB1.out.trans (hb9.mono (by have:=HB1.out.size;simpa using this))⟩
           ·have ez:(am.toList == [48])=false:=ne_lit hz
            by_cases hm:ch=45
            ·have em:((ch.toNat:Int) == 45)=true:=by rw [hm];rfl
             have Hm:Hid (isNeg (bl am)=true):=by show _=_;rw [hbc,hm];rfl
             clear hz hbc hm
             have HE:=Lib.hid (HBad.out (fun h => by have:=(HG.out.1 h.1).2.2.2.2.2.2.1;rw [Hm.out] at this;cases this))
             clear HBad HGood HG HAp
             go_wp2_with (first | (go_at_call 36;refine (HN.out _ _ ?_).mono ?_;(assumption);rintro e w' ⟨rfl,rfl⟩) | (go_at_call 37;refine (HC.out _).mono ?_;rintro e w' ⟨rfl,hb9⟩;have hc9:w'.cell? ⟨wr.heap.size,4,none⟩=some (.string am):=by rw [hb9.cell (by simp)];go_simp))
             go_ret
             exact ⟨ret_int' HE.out.symm,HB1.out.trans (hb9.mono (by have:=HB1.out.size;simpa using this))⟩
            ·have em:((ch.toNat:Int) == 45)=false:=by rw [beq_eq_false_iff_ne];intro e;apply hm;apply UInt8.toNat_inj.1;show ch.toNat=45;omega
             have hgood:=HGood.out (HG.out.2 ⟨ha1,ha2,ha3,Hft.out,rfl,hz,by rw [hbc];simp [isNeg,hm],isDay_iff.2 ⟨by have:=Hd1.out;omega,by have:=Hd2.out;omega⟩⟩) (by have:=Hd1.out;omega)
             have HGd:Hid (d=lastD l (k+1)∧okP (l.take (k+1))):=⟨hgood.2.symm,hgood.1⟩
             clear hgood HBad HGood HG HAp hz hbc hm
             go_wp2_with (first | (go_at_call 36;refine (HN.out _ _ ?_).mono ?_;(assumption);rintro e w' ⟨rfl,rfl⟩) | (go_at_call 37;refine (HC.out _).mono ?_;rintro e w' ⟨rfl,hb9⟩;have hc9:w'.cell? ⟨wr.heap.size,4,none⟩=some (.string am):=(by rw [hb9.cell (by simp)];go_simp);have hc8:w'.cell? ⟨wr.heap.size,0,none⟩=some (.int .i64 d):=by rw [hb9.cell (by simp)];go_simp))
             have hbel9:=HB1.out.trans (hb9.mono (by have:=HB1.out.size;simpa using this))
             go_roundw
             case rel => exact ⟨k+1,d,by omega,by go_num,rfl,HGd,hbel9⟩
             case measure => simp [intOf];omega
          ·have u4:(er != 0)=true:=by rw [bne_iff_ne];exact her
           have Her:=Lib.hid her
           clear her
           have HE:=Lib.hid (HBad.out (fun h => Her.out (HG.out.1 h.1).2.2.2.2.1))
           clear HBad HGood HG HAp
           go_wp2_with (first | (go_at_call 36;refine (HN.out _ _ ?_).mono ?_;(assumption);rintro e w' ⟨rfl,rfl⟩) | (go_at_call 37;refine (HC.out _).mono ?_;rintro e w' ⟨rfl,hb9⟩;have hc9:w'.cell? ⟨wr.heap.size,4,none⟩=some (.string am):=by rw [hb9.cell (by simp)];go_simp))
           go_ret
           exact ⟨ret_int' HE.out.symm,HB1.out.trans (hb9.mono (by have:=HB1.out.size;simpa using this))⟩
   ·obtain rfl:k=l.length:=by omega
    have HE:Hid (flowsErr l=0):=flowsErr_ok H5.out (by have:=HI.out.2;rw [List.take_of_length_le (Nat.le_refl _)] at this;exact this)
    go_wp2
    go_ret
    exact ⟨ret_int' HE.out.symm,hbel⟩
end Go.Proofs.YtcnpaciljmekcaaGreatDoor

namespace Go.Proofs.YtcnpaciljmekcaaGreatDoor
open Go.RowKit
def netStep (p c:ByteArray) (st:ByteArray × Int) (f:Fl):ByteArray × Int :=
 if st.2 ≠ 0 then st else if f.cy ≠ c then st else if f.rc=p then (mkB (sumS st.1 f.am (addZ st.1 f.am)),sumE st.1 f.am (addZ st.1 f.am))
 else if f.fr=p then (mkB (sumS st.1 f.am (subZ st.1 f.am)),sumE st.1 f.am (subZ st.1 f.am)) else st
def netAcc (p c:ByteArray) (l:List Fl) (k:Nat):ByteArray × Int:=(l.take k).foldl (netStep p c) (⟨#[48]⟩,0)
theorem netAcc_succ (p c:ByteArray) {l:List Fl} {k:Nat} {f:Fl} (h:l[k]? = some f):netAcc p c l (k+1)=netStep p c (netAcc p c l k) f:=by
 rw [netAcc,take_snoc_get h,List.foldl_append];rfl
theorem netFold_err (p c:ByteArray) (st:ByteArray × Int) (h:st.2 ≠ 0):∀ m:List Fl,m.foldl (netStep p c) st=st
 | [] => rfl
 | f :: m => by rw [List.foldl_cons,netStep,if_pos h];exact netFold_err p c st h m
theorem netAcc_err {p c:ByteArray} {l:List Fl} {k:Nat} (h:(netAcc p c l k).2 ≠ 0):netAcc p c l l.length=netAcc p c l k:=by
 have e:l.take l.length=l.take k ++ l.drop k:=by rw [List.take_of_length_le (Nat.le_refl _),List.take_append_drop]
 rw [netAcc,e,List.foldl_append]
 exact netFold_err p c _ h _
theorem netStep_size (p c:ByteArray) (st:ByteArray × Int) (f:Fl) (h:st.1.size≤2010):(netStep p c st f).1.size≤2010:=by
 unfold netStep
 split
 ·exact h
 ·split
  ·exact h
  ·split
   ·show (mkB _).size≤_;rw [mkB_size];exact sumS_len _ _ _
   ·split
    ·show (mkB _).size≤_;rw [mkB_size];exact sumS_len _ _ _
    ·exact h
theorem netAcc_size (p c:ByteArray) (l:List Fl):∀ k,(netAcc p c l k).1.size≤2010
 | 0 => by show 1≤2010;omega
 | k+1 => by
  by_cases hk:k < l.length
  ·rw [netAcc_succ p c (List.getElem?_eq_getElem hk)]
   exact netStep_size p c _ _ (netAcc_size p c l k)
  ·have e:netAcc p c l (k+1)=netAcc p c l k:=by rw [netAcc,netAcc,List.take_of_length_le (by omega),List.take_of_length_le (by omega)]
   rw [e];exact netAcc_size p c l k
noncomputable def netE (p c:ByteArray) (l:List Fl):Int:=if flowsErr l ≠ 0 then flowsErr l else if isNm (bl p) && isNm (bl c) then (netAcc p c l l.length).2 else 2
noncomputable def netS (p c:ByteArray) (l:List Fl):ByteArray:=if flowsErr l ≠ 0 then ⟨#[]⟩ else if isNm (bl p) && isNm (bl c) then (netAcc p c l l.length).1 else ⟨#[]⟩
theorem netE_bad {p c:ByteArray} {l:List Fl} (h:flowsErr l ≠ 0):netE p c l=flowsErr l∧netS p c l=⟨#[]⟩:=by rw [netE,netS,if_pos h,if_pos h];exact ⟨rfl,rfl⟩
theorem netE_arg {p c:ByteArray} {l:List Fl} (h:flowsErr l=0) (hn:(isNm (bl p) && isNm (bl c))=false):netE p c l=2∧netS p c l=⟨#[]⟩:=by
 have h' : ¬ flowsErr l ≠ 0:=fun k => k h
 unfold netE netS
 rw [if_neg h',if_neg h',hn];exact ⟨rfl,rfl⟩
theorem netE_ok {p c:ByteArray} {l:List Fl} (h:flowsErr l=0) (hn:(isNm (bl p) && isNm (bl c))=true):netE p c l=(netAcc p c l l.length).2∧netS p c l=(netAcc p c l l.length).1:=by
 have h' : ¬ flowsErr l ≠ 0:=fun k => k h
 unfold netE netS
 rw [if_neg h',if_neg h',hn];exact ⟨rfl,rfl⟩
theorem okP_of_err {l:List Fl} (h:flowsErr l=0):okP l:=by
 unfold flowsErr at h
 split at h
 ·cases h
 ·rcases Classical.em (okP l) with k | k
  ·exact k
  ·rw [eqB_false k] at h;cases h
end Go.Proofs.YtcnpaciljmekcaaGreatDoor

namespace Go.Proofs.YtcnpaciljmekcaaGreatDoor
open Go.RowKit
theorem sgnv_times (sg:Bool) (a b:Nat):sgnv sg a * (b:Int)=sgnv sg (a * b):=by
 cases sg <;> simp [sgnv,Int.natCast_mul,Int.neg_mul]
theorem sgnv_of (z:Int):sgnv (decide (z < 0)) z.natAbs=z:=by
 by_cases h:z < 0
 ·rw [decide_eq_true h];simp [sgnv];omega
 ·rw [decide_eq_false h];simp [sgnv];omega
theorem rv_made (sg:Bool) {N D:Nat} (hN:N < ten 1000) (hD:D < ten 1000) (h0:0 < D):rv (mkB (ratTxt sg N D))=Rat.divInt (sgnv sg N) D:=by
 have hg:0 < Nat.gcd N D:=Nat.gcd_pos_of_pos_right _ h0
 have h1:Nat.gcd (N / Nat.gcd N D) (D / Nat.gcd N D)=1:=Nat.gcd_div_gcd_div_gcd_of_pos_right h0
 have e:ratTxt sg N D=ratTxt sg (N / Nat.gcd N D) (D / Nat.gcd N D):=by rw [ratTxt_low h1];rfl
 have e1:=Nat.div_mul_cancel (Nat.gcd_dvd_left N D)
 have e2:=Nat.div_mul_cancel (Nat.gcd_dvd_right N D)
 obtain ⟨_,h2,h3⟩:=rat_txt sg (Nat.lt_of_le_of_lt (Nat.div_le_self N (Nat.gcd N D)) hN) (Nat.lt_of_le_of_lt (Nat.div_le_self D (Nat.gcd N D)) hD) (Nat.div_pos (Nat.le_of_dvd h0 (Nat.gcd_dvd_right _ _)) hg) h1
 rw [e,rv,h2,h3,← Rat.divInt_mul_right (a:=((Nat.gcd N D:Nat):Int)) (by omega),sgnv_times,e1,← Int.natCast_mul,e2]
theorem rv_sum {a b:ByteArray} {z:Int} (h:sumE a b z=0):rv (mkB (sumS a b z))=Rat.divInt z (ival (bl (denS a)) * ival (bl (denS b)))∧ratErr a=0∧ratErr b=0:=by
 rw [sumS,if_pos h]
 unfold sumE at h
 by_cases hb:bE a b ≠ 0
 ·rw [if_pos hb] at h;exact absurd h hb
 ·rw [if_neg hb] at h
  obtain ⟨ra,rb,_,_,_,ea,_,eb⟩:=bE_zero (Decidable.not_not.1 hb)
  split at h
  ·cases h
  ·rename_i h2
   have h3:zErr z=0:=Decidable.not_not.1 fun k => h2 (.inr (.inr (.inl k)))
   have h4:zErr (ival (bl (pD a)) * ival (bl (pD b)))=0:=Decidable.not_not.1 fun k => h2 (.inr (.inr (.inr k)))
   have hp:0 < ival (bl (pD a)) * ival (bl (pD b)):=by rw [ea,eb];exact Int.mul_pos (ival_den ra) (ival_den rb)
   obtain ⟨h5,h6⟩:=zpos_lt h4 hp
   refine ⟨?_,ra,rb⟩
   rw [rv_made _ (zErr_lt h3) h5 h6,sgnv_of,Int.natAbs_of_nonneg (by omega),ea,eb]
theorem rv_add {a b:ByteArray} (h:sumE a b (addZ a b)=0):rv (mkB (sumS a b (addZ a b)))=rv a+rv b:=by
 obtain ⟨e,ra,rb⟩:=rv_sum h
 rw [e,rv,rv,Rat.divInt_add_divInt _ _ (by have:=ival_den ra;omega) (by have:=ival_den rb;omega),addZ,pN,pN,pD,pD,if_pos ra,if_pos rb,if_pos ra,if_pos rb]
theorem rv_sub {a b:ByteArray} (h:sumE a b (subZ a b)=0):rv (mkB (sumS a b (subZ a b)))=rv a - rv b:=by
 obtain ⟨e,ra,rb⟩:=rv_sum h
 rw [e,rv,rv,Rat.sub_eq_add_neg,Rat.neg_divInt,Rat.divInt_add_divInt _ _ (by have:=ival_den ra;omega) (by have:=ival_den rb;omega),subZ,pN,pN,pD,pD,if_pos ra,if_pos rb,if_pos ra,if_pos rb,Int.neg_mul,Int.sub_eq_add_neg]
theorem one_tens {k:Nat} (h:k ≠ 0):1 < ten k:=Nat.one_lt_pow h (by decide)
theorem one_ten:1 < ten 1000:=one_tens (by decide)
theorem rv_zero:rv ⟨#[48]⟩=0:=by
 have e:(⟨#[48]⟩:ByteArray)=mkB (ratTxt false 0 1):=rfl
 rw [e,rv_made _ (Nat.lt_trans Nat.zero_lt_one one_ten) one_ten (by decide)]
 exact Rat.zero_divInt _
theorem rv_nil {s:ByteArray} (h:ratErr s=0) (hz:rv s=0):bl s=[48]:=by
 obtain ⟨sg,N,D,rfl,h1,h2,h3,h4,_⟩:=rat_is h
 rw [rv_made sg h1 h2 h3,← Rat.zero_divInt 1,Rat.divInt_eq_divInt_iff (by omega) (by decide)] at hz
 have hN:N=0:=by cases sg <;> simp [sgnv] at hz <;> omega
 rw [bl_mkB]
 exact (ratTxt_nil sg h3).2 hN
def rsum:List Rat→Rat
 | [] => 0
 | x :: l => x+rsum l
theorem rsum_snoc (l:List Rat) (x:Rat):rsum (l ++ [x])=rsum l+x:=by
 induction l with
 | nil => simp [rsum];grind
 | cons y l ih => rw [List.cons_append,rsum,rsum,ih];grind
theorem net_val (p c:ByteArray) (l:List Fl):∀ k,k≤l.length→(netAcc p c l k).2=0→ratErr (netAcc p c l k).1=0∧rv (netAcc p c l k).1=rsum ((l.take k).map (part p c))
 | 0,_,_ => ⟨by show ratErr ⟨#[48]⟩=0;decide,rv_zero⟩
 | k+1,hk,h => by
  have hg:l[k]? = some l[k]:=List.getElem?_eq_getElem (by omega)
  rw [take_snoc_get hg,List.map_append,List.map_cons,List.map_nil,rsum_snoc]
  rw [netAcc_succ p c hg] at h ⊢
  generalize l[k]=f at *
  unfold netStep at h ⊢
  by_cases h0:(netAcc p c l k).2 ≠ 0
  ·rw [if_pos h0] at h;exact absurd h h0
  ·obtain ⟨i1,i2⟩:=net_val p c l k (by omega) (Decidable.not_not.1 h0)
   rw [if_neg h0] at h ⊢
   rw [part]
   by_cases h1:f.cy ≠ c
   ·rw [if_pos h1] at h ⊢;rw [if_pos h1];exact ⟨i1,by rw [i2,Rat.add_zero]⟩
   ·rw [if_neg h1] at h ⊢;rw [if_neg h1]
    by_cases h2:f.rc=p
    ·rw [if_pos h2] at h ⊢;rw [if_pos h2]
     exact ⟨sumS_rat h,by rw [← i2];exact rv_add h⟩
    ·rw [if_neg h2] at h ⊢;rw [if_neg h2]
     by_cases h3:f.fr=p
     ·rw [if_pos h3] at h ⊢;rw [if_pos h3]
      exact ⟨sumS_rat h,by rw [← i2,← Rat.sub_eq_add_neg];exact rv_sub h⟩
     ·rw [if_neg h3] at h ⊢;rw [if_neg h3];exact ⟨i1,by rw [i2,Rat.add_zero]⟩
end Go.Proofs.YtcnpaciljmekcaaGreatDoor

namespace Go.Proofs.YtcnpaciljmekcaaGreatDoor
open Go.RowKit
theorem rsum_add {α:Type} (g h:α→Rat) (l:List α):rsum (l.map fun x => g x+h x)=rsum (l.map g)+rsum (l.map h):=by
 induction l with
 | nil => exact (Rat.add_zero 0).symm
 | cons x l ih => rw [List.map_cons,List.map_cons,List.map_cons,rsum,rsum,rsum,ih];grind
theorem rsum_none {α:Type} (l:List α):rsum (l.map fun _ => (0:Rat))=0:=by
 induction l with
 | nil => rfl
 | cons x l ih => rw [List.map_cons,rsum,ih];exact Rat.add_zero 0
theorem rsum_no (a:ByteArray) (x:Rat):∀ l:List ByteArray,a ∉ l→rsum (l.map fun p => if a=p then x else 0)=0
 | [],_ => rfl
 | b :: l,h => by
  have h1 : ¬ (a=b∨a ∈ l):=fun k => h (List.mem_cons.2 k)
  rw [List.map_cons,rsum,rsum_no a x l fun k => h1 (.inr k),if_neg fun k => h1 (.inl k)];exact Rat.add_zero 0
theorem rsum_one (a:ByteArray) (x:Rat):∀ l:List ByteArray,l.Nodup→a ∈ l→rsum (l.map fun p => if a=p then x else 0)=x
 | b :: l,h,hm => by
  have h1:=List.nodup_cons.1 h
  rw [List.map_cons,rsum]
  by_cases e:a=b
  ·subst e
   rw [if_pos rfl,rsum_no a x l h1.1];exact Rat.add_zero _
  ·rw [if_neg e,rsum_one a x l h1.2 ((List.mem_cons.1 hm).resolve_left e)];exact Rat.zero_add _
theorem parts_zero (P:List ByteArray) (hP:P.Nodup) (f:Fl) (h1:f.fr ∈ P) (h2:f.rc ∈ P) (hne:f.fr ≠ f.rc) (c:ByteArray):rsum (P.map fun p => part p c f)=0:=by
 by_cases hc:f.cy ≠ c
 ·rw [show (fun p => part p c f)=fun _ => (0:Rat) from funext fun p => by rw [part,if_pos hc]]
  exact rsum_none _
 ·rw [show (fun p => part p c f)=fun p => (if f.rc=p then rv f.am else 0)+(if f.fr=p then -rv f.am else 0) from funext fun p => by
   rw [part,if_neg hc]
   by_cases h3:f.rc=p
   ·rw [if_pos h3,if_pos h3,if_neg (fun k => hne (k.trans h3.symm))];exact (Rat.add_zero _).symm
   ·rw [if_neg h3,if_neg h3];exact (Rat.zero_add _).symm]
  rw [rsum_add,rsum_one _ _ P hP h2,rsum_one _ _ P hP h1]
  grind
theorem nets_zero (P:List ByteArray) (hP:P.Nodup) (c:ByteArray):∀ l:List Fl,(∀ f ∈ l,f.fr ∈ P∧f.rc ∈ P∧f.fr ≠ f.rc)→rsum (P.map fun p => rsum (l.map (part p c)))=0
 | [],_ => rsum_none _
 | f :: l,h => by
  have h1:=h f (List.mem_cons_self ..)
  rw [show (fun p => rsum ((f :: l).map (part p c)))=fun p => part p c f+rsum (l.map (part p c)) from funext fun p => by rw [List.map_cons,rsum],rsum_add,
   parts_zero P hP f h1.1 h1.2.1 h1.2.2,nets_zero P hP c l fun f hf => h f (List.mem_cons_of_mem _ hf)]
  exact Rat.add_zero 0
def sumStep (st:ByteArray × Int) (a:ByteArray):ByteArray × Int:=if st.2 ≠ 0 then st else (mkB (sumS st.1 a (addZ st.1 a)),sumE st.1 a (addZ st.1 a))
def sumAcc (l:List ByteArray) (k:Nat):ByteArray × Int:=(l.take k).foldl sumStep (⟨#[48]⟩,0)
theorem sumAcc_succ {l:List ByteArray} {k:Nat} {a:ByteArray} (h:l[k]? = some a):sumAcc l (k+1)=sumStep (sumAcc l k) a:=by
 rw [sumAcc,take_snoc_get h,List.foldl_append];rfl
theorem sumAcc_err {l:List ByteArray} {k:Nat} (h:(sumAcc l k).2 ≠ 0):sumAcc l l.length=sumAcc l k:=by
 have e:l.take l.length=l.take k ++ l.drop k:=by rw [List.take_of_length_le (Nat.le_refl _),List.take_append_drop]
 rw [sumAcc,e,List.foldl_append]
 show (l.drop k).foldl sumStep (sumAcc l k)=_
 generalize l.drop k=m
 induction m with
 | nil => rfl
 | cons f m ih => rw [List.foldl_cons,sumStep,if_pos h];exact ih
theorem sumAcc_size (l:List ByteArray):∀ k,(sumAcc l k).1.size≤2010
 | 0 => by show 1≤2010;omega
 | k+1 => by
  by_cases hk:k < l.length
  ·rw [sumAcc_succ (List.getElem?_eq_getElem hk),sumStep]
   split
   ·exact sumAcc_size l k
   ·show (mkB _).size≤_;rw [mkB_size];exact sumS_len _ _ _
  ·have e:sumAcc l (k+1)=sumAcc l k:=by rw [sumAcc,sumAcc,List.take_of_length_le (by omega),List.take_of_length_le (by omega)]
   rw [e];exact sumAcc_size l k
theorem sumAcc_val (l:List ByteArray):∀ k,k≤l.length→(sumAcc l k).2=0→ratErr (sumAcc l k).1=0∧rv (sumAcc l k).1=rsum ((l.take k).map rv)
 | 0,_,_ => ⟨by show ratErr ⟨#[48]⟩=0;decide,rv_zero⟩
 | k+1,hk,h => by
  have hg:l[k]? = some l[k]:=List.getElem?_eq_getElem (by omega)
  rw [take_snoc_get hg,List.map_append,List.map_cons,List.map_nil,rsum_snoc]
  rw [sumAcc_succ hg] at h ⊢
  unfold sumStep at h ⊢
  by_cases h0:(sumAcc l k).2 ≠ 0
  ·rw [if_pos h0] at h;exact absurd h h0
  ·obtain ⟨i1,i2⟩:=sumAcc_val l k (by omega) (Decidable.not_not.1 h0)
   rw [if_neg h0] at h ⊢
   exact ⟨sumS_rat h,by rw [← i2];exact rv_add h⟩
theorem sumAcc_two (l:List ByteArray) (hl:∀ a ∈ l,ratErr a=0):∀ k,k≤l.length→((sumAcc l k).2=0∧ratErr (sumAcc l k).1=0)∨(sumAcc l k).2=14
 | 0,_ => .inl ⟨rfl,by show ratErr ⟨#[48]⟩=0;decide⟩
 | k+1,hk => by
  have hg:l[k]? = some l[k]:=List.getElem?_eq_getElem (by omega)
  have ha:=hl l[k] (List.getElem_mem _)
  rw [sumAcc_succ hg]
  unfold sumStep
  rcases sumAcc_two l hl k (by omega) with ⟨h0,hr⟩ | h0
  ·rw [if_neg (fun k => k h0)]
   by_cases h:sumE (sumAcc l k).1 l[k] (addZ (sumAcc l k).1 l[k])=0
   ·exact .inl ⟨h,sumS_rat h⟩
   ·refine .inr ?_
    show sumE _ _ _=14
    unfold sumE at h ⊢
    rw [if_neg (fun k => k (by rw [bE,if_pos hr];exact ha))] at h ⊢
    split
    ·rfl
    ·next h2 => rw [if_neg h2] at h;exact absurd rfl h
  ·rw [if_pos (by rw [h0];decide)];exact .inr h0
theorem nets_law (P:List ByteArray) (hP:P.Nodup) (c:ByteArray) (l:List Fl) (hl:∀ f ∈ l,f.fr ∈ P∧f.rc ∈ P∧f.fr ≠ f.rc) (hn:∀ p ∈ P,(netAcc p c l l.length).2=0) :
  (sumAcc (P.map fun p => (netAcc p c l l.length).1) P.length).2=14∨((sumAcc (P.map fun p => (netAcc p c l l.length).1) P.length).2=0∧(sumAcc (P.map fun p => (netAcc p c l l.length).1) P.length).1=⟨#[48]⟩):=by
 have hv:∀ p ∈ P,ratErr (netAcc p c l l.length).1=0∧rv (netAcc p c l l.length).1=rsum (l.map (part p c)):=fun p hp => by
  have:=net_val p c l l.length (Nat.le_refl _) (hn p hp)
  rwa [List.take_of_length_le (Nat.le_refl _)] at this
 have hlen:(P.map fun p => (netAcc p c l l.length).1).length=P.length:=List.length_map ..
 rcases sumAcc_two (P.map fun p => (netAcc p c l l.length).1) (fun a ha => by obtain ⟨p,hp,rfl⟩:=List.mem_map.1 ha;exact (hv p hp).1) P.length (by omega) with ⟨h0,hr⟩ | h
 ·refine .inr ⟨h0,?_⟩
  have h1:=(sumAcc_val _ P.length (by omega) h0).2
  rw [List.take_of_length_le (by omega),List.map_map] at h1
  rw [show P.map (rv ∘ fun p => (netAcc p c l l.length).1)=P.map fun p => rsum (l.map (part p c)) from List.map_congr_left fun p hp => (hv p hp).2,nets_zero P hP c l hl] at h1
  exact bl_inj (rv_nil hr h1)
 ·exact .inl h
end Go.Proofs.YtcnpaciljmekcaaGreatDoor

namespace Go.Proofs.YtcnpaciljmekcaaGreatDoor
open Go.RowKit Go.Shelf
attribute [local go_sem] Oper.semAt_some
structure KeptC (base D:Nat) (w w':World):Prop where
 below:Below base w w'
 cells:∀ b cs fr,D≤b→w.heap[b]? = some (.cells cs 29 fr)→w'.heap[b]? = some (.cells cs 29 fr)
theorem KeptC.refl (base D:Nat) (w:World):KeptC base D w w:=⟨Below.refl _ _,fun _ _ _ _ h => h⟩
theorem KeptC.trans {base D:Nat} {a b c:World} (h:KeptC base D a b) (k:KeptC base D b c):KeptC base D a c:=⟨h.below.trans k.below,fun i o fr hi ho => k.cells i o fr hi (h.cells i o fr hi ho)⟩
theorem KeptC.of_below {base D:Nat} {w w':World} (hb:base≤w.heap.size) (h:Below w.heap.size w w'):KeptC base D w w' :=
 ⟨h.mono hb,fun b o fr _ ho => by rw [h.block b (Array.getElem?_eq_some_iff.1 ho).1];exact ho⟩
theorem KeptC.alloc {base D:Nat} (w:World) (hb:base≤w.heap.size) (o:Obj):KeptC base D w (w.alloc o):=.of_below hb (below_a1 w o)
theorem KeptC.cell {base D:Nat} {w w':World} (h:KeptC base D w w') {b o:Nat} {v:Value} {cs:Array Value} {fr:Nat × Nat} (hD:D≤b) (hb:w.heap[b]? = some (.cells cs 29 fr)) (hc:w.cell? ⟨b,o,none⟩=some v):w'.cell? ⟨b,o,none⟩=some v:=by
 rw [World.cell?_of_block (w:=w) (by rw [hb];exact h.cells b cs fr hD hb)]
 exact hc
theorem KeptC.putObj {base D:Nat} (W:World) (l:Nat) (o o':Obj) (hl:base≤l) (h:W.heap[l]? = some o) (hc:o.isCells=false):KeptC base D W (W.putObj l o'):=by
 refine ⟨(Below.refl base W).grown (grownBy_putObj' W l o') (by have:=(Array.getElem?_eq_some_iff.1 h).1;omega) (fun k e => by cases e;omega),fun b cs fr _ hb => ?_⟩
 rw [World.putObj_heap_other (by rintro rfl;rw [h] at hb;cases hb;cases hc)]
 exact hb
def RoundOkC (w0:World) (F:Fence) (l D M:Nat) (J Jx:List (NdW w0)→World→Prop):Prop :=
 ∀ m pre x W,J pre W→pre.length < M→YieldAt F m Tryz.prog l (NdW.enc x) W fun e W' => (e = .returned (.bool true)∧J (pre ++ [x]) W'∧KeptC w0.heap.size D W W')∨(e = .returned (.bool false)∧Jx (pre ++ [x]) W')
def VisitPostC (w0:World) (D:Nat) (J Jx:List (NdW w0)→World→Prop) (pre:List (NdW w0)) (ns:List Con) (W:World) (e:Ending) (W':World):Prop :=
 (e = .returned (.bool true)∧∃ xs,xs.map NdW.con=ns∧J (pre ++ xs) W'∧KeptC w0.heap.size D W W')∨(e = .returned (.bool false)∧∃ xs,xs.map NdW.con <+: ns∧Jx (pre ++ xs) W')
set_option maxHeartbeats 4000000 in
set_option maxRecDepth 100000 in
theorem cvisit_inC (w0:World) (F:Fence) (hd:F.depth=none) (hF:F.fn 136) (hro:F.round=none) (l D M:Nat) (hD:w0.heap.size≤D) (J Jx:List (NdW w0)→World→Prop)
  (hJa:∀ pre W o,J pre W→J pre (W.alloc o)) (hY:RoundOkC w0 F l D M J Jx) :
  ∀ (N n:Nat) (c:Con) (es dd ss:Value) (pre:List (NdW w0)) (W:World),c.bulk≤N→c.bulk≤2000000→RdN w0 c es dd ss→Below w0.heap.size w0 W→D≤W.heap.size→J pre W→pre.length+c.nodes.length≤M →
   CallsIn F n Tryz.prog 136 #[c.val es dd ss,.func (.yield l) #[] #[]] W (VisitPostC w0 D J Jx pre c.nodes W):=by
 intro N
 induction N with
 | zero =>
  intro n c es dd ss pre W h0
  rw [Con.bulk_eq] at h0
  omega
 | succ N ih =>
  intro n c es dd ss pre W hN hB hr hbW hDW hJ hM
  obtain ⟨ad,cap,rfl⟩:=hr.2.2.1.len
  obtain ⟨ad1,cap1,rfl⟩:=hr.1.len
  obtain ⟨ad2,cap2,rfl⟩:=hr.2.1.len
  have hdd:∀ k:Nat,(F.depth.isSome=true→1≤k):=fun k h => by rw [hd] at h;cases h
  have hlen:=Con.bulks_len c.sub
  have hlt0:=c.sub_lt
  have hn:c.sub.length≤2000000:=by omega
  have HS:=Lib.hid hr.2.2.1
  have HI:=Lib.hid ih
  have HN:=Lib.hid c.nodes_eq
  have HM:Hid (pre.length+(1+(Con.nodess c.sub).length)≤M):=Lib.hid (by rw [c.nodes_eq,List.length_cons] at hM;omega)
  have hM1:pre.length < M:=by have:=HM.out;omega
  clear hM
  have hb0:KeptC w0.heap.size D W (W.alloc (.cells #[.int .u8 c.k,.string c.fr,.string c.rc,.string c.nm,.int .u8 c.ex.k,.string c.ex.ra,.string c.ex.nm,.int .i64 c.ex.d,.slice ad1 c.ex.sub.length cap1,.int .i64 c.d,.slice ad2 c.ds.length cap2,.slice ad c.sub.length cap] 29)):=KeptC.alloc W (by omega) _
  obtain ⟨x,hxe⟩:∃ x:NdW w0,x.1=(c,.slice ad1 c.ex.sub.length cap1,.slice ad2 c.ds.length cap2,.slice ad c.sub.length cap):=⟨⟨_,hr,hB⟩,rfl⟩
  have hx1:x.con=c:=congrArg Prod.fst hxe
  have hx2:NdW.enc x=#[c.val (.slice ad1 c.ex.sub.length cap1) (.slice ad2 c.ds.length cap2) (.slice ad c.sub.length cap)]:=by unfold NdW.enc;rw [hxe]
  have hy:=hY (n - 1) pre x _ (hJa pre W (.cells #[.int .u8 c.k,.string c.fr,.string c.rc,.string c.nm,.int .u8 c.ex.k,.string c.ex.ra,.string c.ex.nm,.int .i64 c.ex.d,.slice ad1 c.ex.sub.length cap1,.int .i64 c.d,.slice ad2 c.ds.length cap2,.slice ad c.sub.length cap] 29) hJ) hM1
  rw [hx2] at hy
  unfold Con.val at hy ⊢
  obtain ⟨fn,tmps,assign,body,hy,hR⟩:=hy
  have HX:=Lib.hid hx1
  have hbk:=World.alloc_heap_new W (.cells #[.int .u8 c.k,.string c.fr,.string c.rc,.string c.nm,.int .u8 c.ex.k,.string c.ex.ra,.string c.ex.nm,.int .i64 c.ex.d,.slice ad1 c.ex.sub.length cap1,.int .i64 c.d,.slice ad2 c.ds.length cap2,.slice ad c.sub.length cap] 29)
  have hc11:(W.alloc (.cells #[.int .u8 c.k,.string c.fr,.string c.rc,.string c.nm,.int .u8 c.ex.k,.string c.ex.ra,.string c.ex.nm,.int .i64 c.ex.d,.slice ad1 c.ex.sub.length cap1,.int .i64 c.d,.slice ad2 c.ds.length cap2,.slice ad c.sub.length cap] 29)).cell? ⟨W.heap.size,11,none⟩=some (.slice ad c.sub.length cap):=by go_simp
  clear hr ih hJ hxe hx1 hx2 hM1
  refine callsIn_of_wp Tryz.func136 rfl hF ?_ hro
  simp only [Tryz.ntmps136,List.size_toArray,List.length_cons,List.length_nil,Nat.reduceAdd,Nat.reduceSub,Array.replicate_succ,Array.replicate_zero,List.push_toArray,List.append_toArray,List.nil_append,List.cons_append]
  gi_wp2_with ((try refine ⟨hdd _,?_⟩);refine hR.mono ?_;clear hR;(rintro e W2 (⟨rfl,hJ2,hk2⟩ | ⟨rfl,hx2⟩) <;> (first | have q11:=hk2.cell hDW hbk hc11 | skip)))
  ·have hk3:=hb0.trans hk2
   have hz3:=hk3.below.size
   have hJ3:J (pre ++ [x] ++ []) W2:=by rw [List.append_nil];exact hJ2
   clear hb0 hk2 hJ2 hc11 q11 hbk
   gi_loopw [14] (fun i wr => ∃ (k:Nat) (xs:List (NdW w0)),k≤c.sub.length∧i = .int .i64 (k:Int)∧Hid (xs.map NdW.con=Con.nodess (c.sub.take k))∧J (pre ++ [x] ++ xs) wr∧KeptC w0.heap.size D W wr) (fun i _ => c.sub.length - (intOf i).toNat)
   case atStart => exact ⟨0,[],Nat.zero_le _,rfl,Lib.hid (by simp [Con.nodess]),hJ3,hk3⟩
   case round =>
    clear hJ3 hk3 hz3
    obtain ⟨k,xs,hk,rfl,HXS,hJr,hkr⟩:=hrel
    by_cases hlt:k < c.sub.length
    ·obtain ⟨y,hyk⟩:∃ y,c.sub[k]? = some y:=⟨_,List.getElem?_eq_getElem hlt⟩
     obtain ⟨b,off,es',dd',ss',rfl,⟨c0,c1,c2,c3,c4,c5,c6,c7,c8,c9,c10,c11⟩,hs0⟩:=HS.out.cells hyk
     have hbr:=hbW.trans hkr.below
     have hzr:=hkr.below.size
     have lift:∀ o u,w0.cell? ⟨b,o,none⟩=some u→wr.cell? ⟨b,o,none⟩=some u:=fun o u h => by
      rw [hbr.cell (p:=⟨b,o,none⟩) (World.block_lt_of_cell? w0 _ h)];exact h
     replace c0:=lift _ _ c0
     replace c1:=lift _ _ c1
     replace c2:=lift _ _ c2
     replace c3:=lift _ _ c3
     replace c4:=lift _ _ c4
     replace c5:=lift _ _ c5
     replace c6:=lift _ _ c6
     replace c7:=lift _ _ c7
     replace c8:=lift _ _ c8
     replace c9:=lift _ _ c9
     replace c10:=lift _ _ c10
     replace c11:=lift _ _ c11
     clear lift
     obtain ⟨ad',cap',rfl⟩:=hs0.2.2.1.len
     obtain ⟨ad1',cap1',rfl⟩:=hs0.1.len
     obtain ⟨ad2',cap2',rfl⟩:=hs0.2.1.len
     have hym:=Con.mem_lt (List.mem_of_getElem? hyk)
     have hblk:b < wr.heap.size:=World.block_lt_of_cell? wr _ c0
     have hk1:(0:Int)≤(k:Int):=by omega
     have hk2:(k:Int) < (c.sub.length:Int):=by omega
     have hw0:=hbW.size
     have hka:KeptC w0.heap.size D wr (wr.alloc (.cells #[.int .u8 y.k,.string y.fr,.string y.rc,.string y.nm,.int .u8 y.ex.k,.string y.ex.ra,.string y.ex.nm,.int .i64 y.ex.d,.slice ad1' y.ex.sub.length cap1',.int .i64 y.d,.slice ad2' y.ds.length cap2',.slice ad' y.sub.length cap'] 29)):=KeptC.alloc wr (by omega) _
     have HSn:=Lib.hid (Con.nodess_snoc hyk)
     have HSt:=Lib.hid (Con.nodess_take hyk)
     have hMy:(pre ++ [x] ++ xs).length+y.nodes.length≤M:=by
      obtain ⟨r,hr⟩:=HSt.out
      have h1:=congrArg List.length hr
      have h2:=congrArg List.length HXS.out
      have h3:=HM.out
      simp only [List.length_append,List.length_map,List.length_cons,List.length_nil] at h1 h2 ⊢
      omega
     have HC:=Lib.hid (HI.out (n - 1) y _ _ _ (pre ++ [x] ++ xs) _ (by omega) (by omega) hs0 (hbr.trans hka.below) (by have:=hka.below.size;omega) (hJa _ _ (.cells #[.int .u8 y.k,.string y.fr,.string y.rc,.string y.nm,.int .u8 y.ex.k,.string y.ex.ra,.string y.ex.nm,.int .i64 y.ex.d,.slice ad1' y.ex.sub.length cap1',.int .i64 y.d,.slice ad2' y.ds.length cap2',.slice ad' y.sub.length cap'] 29) hJr) hMy)
     have HKA:=Lib.hid (hkr.trans hka)
     unfold Con.val at HC
     clear hyk hym hs0 hka hbr hw0 hMy
     gi_wp2_with ((try refine ⟨hdd _,?_⟩);gi_at_call 136;refine HC.out.mono ?_;clear HC;rintro e W3 (⟨rfl,ys,hys,hJ3,hk3⟩ | ⟨rfl,ys,hys,hx3⟩))
     ·have HXS2:Hid ((xs ++ ys).map NdW.con=Con.nodess (c.sub.take (k+1))):=Lib.hid (by rw [List.map_append,HXS.out,hys,HSn.out])
      have HJ3:Hid (J (pre ++ [x] ++ (xs ++ ys)) W3):=Lib.hid (by rw [← List.append_assoc];exact hJ3)
      have HK3:=Lib.hid (HKA.out.trans hk3)
      clear hys hJ3 hk3 HXS HSn HSt HKA hkr hJr
      gi_wp2
      go_roundw
      case rel => exact ⟨k+1,xs ++ ys,by omega,by go_num,HXS2,HJ3.out,HK3.out⟩
      case measure => simp [intOf];omega
     ·have HF:Hid (VisitPostC w0 D J Jx pre c.nodes W (.returned (.bool false)) W3):=by
       refine .inr ⟨rfl,[x] ++ (xs ++ ys),?_,by rw [← List.append_assoc,← List.append_assoc];exact hx3⟩
       obtain ⟨r,hr⟩:=hys
       obtain ⟨r2,hr2⟩:=HSt.out
       rw [HN.out,hr2,← hr,List.map_append,List.map_append,HXS.out]
       exact ⟨r ++ r2,by simp [HX.out]⟩
      clear hys hx3 HXS HSn HSt HKA hkr hJr
      gi_wp2
      go_ret
      exact HF.out
    ·obtain rfl:k=c.sub.length:=by omega
     have HF:Hid (VisitPostC w0 D J Jx pre c.nodes W (.returned (.bool true)) wr):=by
      refine .inl ⟨rfl,[x] ++ xs,?_,by rw [← List.append_assoc];exact hJr,hkr⟩
      have h:=HXS.out
      rw [List.take_length] at h
      rw [HN.out,List.map_append,h]
      simp [HX.out]
     gi_wp2
     go_ret
     exact HF.out
  ·have HF:Hid (VisitPostC w0 D J Jx pre c.nodes W (.returned (.bool false)) W2):=by
    refine .inr ⟨rfl,[x],?_,hx2⟩
    rw [HN.out]
    exact ⟨Con.nodess c.sub,by simp [HX.out]⟩
   clear hx2 hc11 hbk
   gi_wp2
   go_ret
   exact HF.out
set_option maxHeartbeats 2000000 in
set_option maxRecDepth 100000 in
theorem cnodes_stopsC (w0:World) (F:Fence) (hd:F.depth=none) (hF:F.fn 136) (hF1:F.fn 135) (hro:F.round=none) (n:Nat) (c:Con) (es dd ss:Value) (w:World) (hB:c.bulk≤2000000) (hr:RdN w0 c es dd ss) (hbw:Below w0.heap.size w0 w) (B:Nat)
  (hc:CBox w B c es dd ss) :
  SeqStopsK F n Tryz.prog 135 #[.pointer (some ⟨B,0,none⟩)] (NdW.enc (w0:=w0)) (KeptC w0.heap.size w.heap.size) (fun xs => xs.map NdW.con=c.nodes) (fun xs => xs.map NdW.con <+: c.nodes) c.nodes.length w:=by
 intro l J Jx W hW hJ hJx hY h0
 have hz:=hbw.size
 have hV:=cvisit_inC w0 F hd hF hro l w.heap.size c.nodes.length hz J Jx (fun pre W o h => hJ pre W (W.alloc o) none h (World.grownBy_alloc W o none) (fun r e => by cases e))
  (fun m pre x W1 hJ1 hl => YieldAt.anyDepth hd m (hY pre x W1 hJ1 hl)) c.bulk (n - 1) c es dd ss [] W (Nat.le_refl _) hB hr (hbw.trans (hW.mono hz)) hW.size h0 (by simp)
 obtain ⟨c0,c1,c2,c3,c4,c5,c6,c7,c8,c9,c10,c11⟩:=hc.low hW
 have hBl:=World.block_lt_of_cell? W _ c0
 have hdd:∀ k:Nat,(F.depth.isSome=true→1≤k):=fun k h => by rw [hd] at h;cases h
 obtain ⟨ad,cap,rfl⟩:=hr.2.2.1.len
 obtain ⟨ad1,cap1,rfl⟩:=hr.1.len
 obtain ⟨ad2,cap2,rfl⟩:=hr.2.1.len
 have HV:=Lib.hid hV
 unfold Con.val at HV
 clear hV hr hc hY hJ hJx h0
 show CallsIn F n Tryz.prog 135 #[.func (.yield l) #[] #[],.pointer (some ⟨B,0,none⟩)] W _
 refine callsIn_of_wp Tryz.func135 rfl hF1 ?_ hro
 simp only [Tryz.ntmps135,List.size_toArray,List.length_cons,List.length_nil,Nat.reduceAdd,Nat.reduceSub,Array.replicate_succ,Array.replicate_zero,List.push_toArray,List.append_toArray,List.nil_append,List.cons_append]
 gi_wp2_with ((try refine ⟨hdd _,?_⟩);gi_at_call 136;refine HV.out.mono ?_;clear HV;rintro e W3 (⟨rfl,ys,hys,hJ3,hk3⟩ | ⟨rfl,ys,hys,hx3⟩))
 ·go_end0
  exact ⟨⟨_,rfl⟩,.inl ⟨ys,hys,by simpa using hJ3⟩⟩
 ·go_end0
  exact ⟨⟨_,rfl⟩,.inr ⟨ys,hys,by simpa using hx3⟩⟩
end Go.Proofs.YtcnpaciljmekcaaGreatDoor

namespace Go.Proofs
open Go.Shelf
def Tryz.laysStr_ren:Go.Shelf.Ren:=⟨fun | 190 => 79 | 125 => 138 | 258 => 137 | 128 => 180 | 129 => 181 | 302 => 171 | 303 => 172 | 304 => 173 | 305 => 174 | 306 => 175 | 307 => 176 | 308 => 177 | 309 => 178 | 310 => 179 | 333 => 225 | 329 => 226 | 330 => 227 | 334 => 228 | 335 => 229 | 336 => 169 | 344 => 246 | n => n,fun | 31 => 40 | 9 => 9 | 3 => 3 | 46 => 187 | 0 => 0 | 51 => 229 | 53 => 231 | 4 => 4 | 183 => 222 | 182 => 221 | 131 => 86 | 5 => 5 | 218 => 265 | 222 => 269 | 228 => 291 | 229 => 292 | n => n,fun | n => n⟩
theorem Tryz.laysStr:Go.Proofs.Lays.n190 Tryz.prog Tryz.laysStr_ren:={
 mixed:=by kernel_rfl
 f125:=Tryz.func138.trans (congrArg some (by kernel_rfl))
 f128:=Tryz.func180.trans (congrArg some (by kernel_rfl))
 f129:=Tryz.func181.trans (congrArg some (by kernel_rfl))
 f190:=Tryz.func79.trans (congrArg some (by kernel_rfl))
 f258:=Tryz.func137.trans (congrArg some (by kernel_rfl))
 f302:=Tryz.func171.trans (congrArg some (by kernel_rfl))
 f303:=Tryz.func172.trans (congrArg some (by kernel_rfl))
 f304:=Tryz.func173.trans (congrArg some (by kernel_rfl))
 f305:=Tryz.func174.trans (congrArg some (by kernel_rfl))
 f306:=Tryz.func175.trans (congrArg some (by kernel_rfl))
 f307:=Tryz.func176.trans (congrArg some (by kernel_rfl))
 f308:=Tryz.func177.trans (congrArg some (by kernel_rfl))
 f309:=Tryz.func178.trans (congrArg some (by kernel_rfl))
 f310:=Tryz.func179.trans (congrArg some (by kernel_rfl))
 f329:=Tryz.func226.trans (congrArg some (by kernel_rfl))
 f330:=Tryz.func227.trans (congrArg some (by kernel_rfl))
 f333:=Tryz.func225.trans (congrArg some (by kernel_rfl))
 f334:=Tryz.func228.trans (congrArg some (by kernel_rfl))
 f335:=Tryz.func229.trans (congrArg some (by kernel_rfl))
 f336:=Tryz.func169.trans (congrArg some (by kernel_rfl))
 f344:=Tryz.func246.trans (congrArg some (by kernel_rfl))
 t0:=Tryz.underlying0
 a0:=Tryz.isAgg0
 z0:=Tryz.sizeOf0
 v0:=Tryz.zeroValue0
 t3:=Tryz.underlying3
 a3:=Tryz.isAgg3
 z3:=Tryz.sizeOf3
 v3:=Tryz.zeroValue3
 t4:=Tryz.underlying4
 a4:=Tryz.isAgg4
 z4:=Tryz.sizeOf4
 v4:=Tryz.zeroValue4
 t5:=Tryz.underlying5
 a5:=Tryz.isAgg5
 z5:=Tryz.sizeOf5
 v5:=Tryz.zeroValue5
 t9:=Tryz.underlying9
 a9:=Tryz.isAgg9
 z9:=Tryz.sizeOf9
 v9:=Tryz.zeroValue9
 t31:=Tryz.underlying40
 a31:=Tryz.isAgg40
 z31:=Tryz.sizeOf40
 v31:=Tryz.zeroValue40
 t46:=Tryz.underlying187
 a46:=Tryz.isAgg187
 z46:=Tryz.sizeOf187
 v46:=Tryz.zeroValue187
 t51:=Tryz.underlying229
 a51:=Tryz.isAgg229
 z51:=Tryz.sizeOf229
 v51:=Tryz.zeroValue229
 t53:=Tryz.underlying231
 a53:=Tryz.isAgg231
 z53:=Tryz.sizeOf231
 v53:=Tryz.zeroValue231
 t131:=Tryz.underlying86
 a131:=Tryz.isAgg86
 z131:=Tryz.sizeOf86
 v131:=Tryz.zeroValue86
 t182:=Tryz.underlying221
 a182:=Tryz.isAgg221
 z182:=Tryz.sizeOf221
 v182:=Tryz.zeroValue221
 t183:=Tryz.underlying222
 a183:=Tryz.isAgg222
 z183:=Tryz.sizeOf222
 v183:=Tryz.zeroValue222
 t218:=Tryz.underlying265
 a218:=Tryz.isAgg265
 z218:=Tryz.sizeOf265
 v218:=Tryz.zeroValue265
 t222:=Tryz.underlying269
 a222:=Tryz.isAgg269
 z222:=Tryz.sizeOf269
 v222:=Tryz.zeroValue269
 t228:=Tryz.underlying291
 a228:=Tryz.isAgg291
 z228:=Tryz.sizeOf291
 v228:=Tryz.zeroValue291
 t229:=Tryz.underlying292
 a229:=Tryz.isAgg292
 z229:=Tryz.sizeOf292
 v229:=Tryz.zeroValue292 }
def Tryz.laysStrC_ren:Go.Shelf.Ren:=⟨fun | 194 => 80 | n => n,fun | 31 => 40 | 9 => 9 | 3 => 3 | 4 => 4 | 0 => 0 | n => n,fun | n => n⟩
theorem Tryz.laysStrC:Go.Proofs.Lays.n194 Tryz.prog Tryz.laysStrC_ren:={
 mixed:=by kernel_rfl
 f194:=Tryz.func80.trans (congrArg some (by kernel_rfl))
 t0:=Tryz.underlying0
 a0:=Tryz.isAgg0
 z0:=Tryz.sizeOf0
 v0:=Tryz.zeroValue0
 t3:=Tryz.underlying3
 a3:=Tryz.isAgg3
 z3:=Tryz.sizeOf3
 v3:=Tryz.zeroValue3
 t4:=Tryz.underlying4
 a4:=Tryz.isAgg4
 z4:=Tryz.sizeOf4
 v4:=Tryz.zeroValue4
 t9:=Tryz.underlying9
 a9:=Tryz.isAgg9
 z9:=Tryz.sizeOf9
 v9:=Tryz.zeroValue9
 t31:=Tryz.underlying40
 a31:=Tryz.isAgg40
 z31:=Tryz.sizeOf40
 v31:=Tryz.zeroValue40 }
end Go.Proofs
