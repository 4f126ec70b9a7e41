/- A part. -/
import Derived.Test.YthdeijdimfjceaaGreatDoorD01
namespace Go.Proofs.YthdeijdimfjceaaGreatDoor
open Go.ChangeShapes Go.WideShapes Go.ChangeAt Go.RowKit Go.Joins Go.Deep
section
variable {H:Type} {enc:TypeId × Value→H} {P:Program} {w:World} {base:Nat} {sp:Nat→Bool} {held:Bool}
end
section
variable {H:Type} {enc:TypeId × Value→H} {w:World} {sp:Nat→Bool} {held:Bool}
end
theorem bulk_pos {H:Type} (d:DataW H):1≤Rows.uptoBulk d:=by
 cases d with
 | lit l => cases l <;> simp [Rows.uptoBulk]
 | _ => simp [Rows.uptoBulk]
theorem bulks_len {H:Type}:∀ D:List (DataW H),D.length≤Rows.uptoBulkAll D
 | [] => Nat.zero_le _
 | x :: D => by
  have h1:=bulk_pos x
  have h2:=bulks_len D
  simp only [Rows.uptoBulkAll,List.length_cons];omega
end Go.Proofs.YthdeijdimfjceaaGreatDoor

namespace Go.Proofs.YthdeijdimfjceaaGreatDoor
open Go.RowKit
theorem small_of_scn {l:List Sh} (h:scnGreat l=false):l.length≤110∧∀ x ∈ l,x.nm.size≤1000∧x.ra.size≤1000∧x.ex.size≤1000:=by
 unfold scnGreat at h
 simp only [Bool.or_eq_false_iff,decide_eq_false_iff_not,List.any_eq_false] at h
 refine ⟨by omega,fun x hx => ?_⟩
 have:=h.2 x hx
 unfold shGreat at this
 simp only [decide_eq_true_eq] at this
 omega
theorem fxSum_mem {l:List Fx} {f:Fx} (h:f ∈ l):f.vl.size≤fxSum l:=by
 induction l with
 | nil => cases h
 | cons x l ih =>
  rw [fxSum]
  rcases List.mem_cons.1 h with rfl | h
  ·omega
  ·have:=ih h;omega
theorem small_of_great {fs:List Fx} {cs:List Ch} (h:greatB fs cs=false):∀ f ∈ fs,f.vl.size≤20000:=fun f hf => by
 unfold greatB at h
 simp only [decide_eq_false_iff_not,not_or] at h
 have:=fxSum_mem hf
 omega
theorem scnSz_of {l:List Sh} (h:scnGreat l=false):ScnSz l:=by
 obtain ⟨h1,h2⟩:=small_of_scn h
 exact ⟨by omega,fun x hx => by have:=h2 x hx;exact ⟨⟨by omega,by omega,by omega⟩,by omega,by omega⟩⟩
def GrP (w:World) (P:Prop) (e:Ending) (w':World):Prop:=∃ b:Bool,e = .returned (.bool b)∧(b=false→P)∧Below w.heap.size w w'
def ListOk (l:List (List Sh)):Prop:=l.length≤110∧∀ s ∈ l,scnGreat s=false
set_option maxHeartbeats 2000000 in
set_option maxRecDepth 100000 in
theorem greatList_any (l:List (List Sh)) (al:Option Addr) (cl:Nat) (w:World) (hl:l.length≤1100000) (hr:RdS w al l) (hs:∀ s ∈ l,s.length≤1100000∧∀ x ∈ s,x.small) :
  Calls Tryz.prog 41 #[.slice al l.length cl] w (GrP w (ListOk l)):=by
 have HR:=Lib.hid hr
 have HS:=Lib.hid hs
 obtain ⟨n,hn⟩:∃ n,l.length=n:=⟨_,rfl⟩
 have HN:=Lib.hid hn
 rw [hn] at hl ⊢
 clear hr hs hn
 by_cases h1:110 < n
 ·have t1:decide ((110:Int) < (n:Int))=true:=by rw [decide_eq_true_eq];omega
  clear h1
  go_enter Tryz.func41,Tryz.ntmps41
  go_wp2
  go_ret
  exact ⟨_,rfl,(fun h => by cases h),Below.refl _ _⟩
 have t1:decide ((110:Int) < (n:Int))=false:=by rw [decide_eq_false_iff_not];omega
 have H1:=Lib.hid h1
 clear h1
 go_enter Tryz.func41,Tryz.ntmps41
 go_wp2_with fail
 go_loopw [3] (fun i wr => ∃ k:Nat,k≤n∧i = .int .i64 k∧Hid (∀ y ∈ l.take k,scnGreat y=false)∧Below w.heap.size w wr) (fun i _ => n - (intOf i).toNat)
 case atStart => exact ⟨0,Nat.zero_le _,rfl,Lib.hid (by simp),Below.refl _ _⟩
 case round =>
  obtain ⟨k,hk,rfl,Hall,hbel⟩:=hrel
  by_cases hlt:k < n
  ·obtain ⟨s,hsg⟩:∃ s,l[k]? = some s:=⟨_,List.getElem?_eq_getElem (by rw [HN.out];exact hlt)⟩
   obtain ⟨b,off,a,cp,rfl,c0,hsr⟩:=(HR.out.below hbel) k s hsg
   have hsm:=HS.out s (List.mem_of_getElem? hsg)
   have HG:=Lib.hid (scnGreat_any s a cp wr hsm.1 hsr hsm.2)
   have hk1:(0:Int)≤(k:Int):=by omega
   have hk2:(k:Int) < (n:Int):=by omega
   have hsz:=hbel.size
   have hblk:b < wr.heap.size:=World.block_lt_of_cell? wr _ c0
   have hsl:∃ q,s.length=q:=⟨_,rfl⟩
   have HT:Hid (scnGreat s=false→∀ y ∈ l.take (k+1),scnGreat y=false):=Lib.hid fun h y hy => by
    rw [take_snoc_get hsg,List.mem_append,List.mem_singleton] at hy
    rcases hy with hy | rfl
    ·exact Hall.out y hy
    ·exact h
   generalize scnGreat s=g at HG HT
   obtain ⟨q,hq⟩:=hsl
   rw [hq] at HG c0
   have hsg2:=Lib.hid hsg
   clear hsm hsr hsg hq
   go_wp2_with fail
   refine HG.out.mono ?_
   rintro e w1 ⟨rfl,hb1⟩
   have hbA:=hbel.trans (hb1.mono hsz)
   have d0:w1.cell? ⟨b,off+k,none⟩=some (.slice a q cp):=by rw [hb1.cell (p:=⟨b,off+k,none⟩) hblk];exact c0
   clear HG hb1 hbel c0
   cases g with
   | true =>
    go_wp2
    go_ret
    exact ⟨_,rfl,(fun h => by cases h),hbA⟩
   | false =>
    have HT2:=Lib.hid (HT.out rfl)
    clear HT
    by_cases h5:5 < n
    ·have u5:(5:Int) < (n:Int):=by omega
     have v5:decide ((5:Int) < (n:Int))=true:=by rw [decide_eq_true_eq];omega
     by_cases h100:n < 100
     ·have u6:(n:Int) < 100:=by omega
      have v6:decide ((n:Int) < 100)=true:=by rw [decide_eq_true_eq];omega
      clear h5 h100
      go_wp2
      go_ret
      exact ⟨_,rfl,(fun h => by cases h),hbA⟩
     ·have u6 : ¬ (n:Int) < 100:=by omega
      have v6:decide ((n:Int) < 100)=false:=by rw [decide_eq_false_iff_not];omega
      by_cases hq0:0 < q
      ·have u7:(0:Int) < (q:Int):=by omega
       have v7:decide ((0:Int) < (q:Int))=true:=by rw [decide_eq_true_eq];omega
       clear h5 h100
       go_wp2
       go_ret
       exact ⟨_,rfl,(fun h => by cases h),hbA⟩
      ·have u7 : ¬ (0:Int) < (q:Int):=by omega
       have v7:decide ((0:Int) < (q:Int))=false:=by rw [decide_eq_false_iff_not];omega
       clear h5 h100 hq0
       go_wp2
       go_roundw
       case rel => exact ⟨k+1,by omega,by go_num,HT2,hbA⟩
       case measure => simp [intOf];omega
    ·have u5 : ¬ (5:Int) < (n:Int):=by omega
     have v5:decide ((5:Int) < (n:Int))=false:=by rw [decide_eq_false_iff_not];omega
     clear h5
     go_wp2
     go_roundw
     case rel => exact ⟨k+1,by omega,by go_num,HT2,hbA⟩
     case measure => simp [intOf];omega
  ·obtain rfl:k=n:=by omega
   have HX:Hid (ListOk l):=Lib.hid ⟨by have:=H1.out;have:=HN.out;omega,fun s hs => by
    have h:=Hall.out
    rw [List.take_of_length_le (by rw [HN.out];exact Nat.le_refl _)] at h
    exact h s hs⟩
   go_wp2
   go_ret
   exact ⟨_,rfl,fun _ => HX.out,hbel⟩
structure GrOk (l:List (List Sh)) (p m:ByteArray) (E:EvD):Prop where
 n:l.length≤110
 z:∀ s ∈ l,ScnSz s
 v:∀ f ∈ E.F,f.vl.size≤1000000
 p:p.size≤1000
 m:m.size≤1000
set_option maxHeartbeats 4000000 in
set_option maxRecDepth 100000 in
theorem great32_any (l:List (List Sh)) (c:Con) (es dd ss:Value) (p m:ByteArray) (E:EvD) (al:Option Addr) (cl:Nat) (w:World) (hl:l.length≤1100000) (hr:RdS w al l) (hz:∀ s ∈ l,s.length≤1100000∧∀ x ∈ s,x.small)
  (hB:c.bulk≤2000000) (hs:RdN w c es dd ss) (hE:E.Rd w) (hf:∀ f ∈ E.F,f.small) (hc:∀ c ∈ E.C,c.small) :
  Calls Tryz.prog 21 #[.slice al l.length cl,c.val es dd ss,.string p,.string m,E.val] w (GrP w (GrOk l p m E)):=by
 obtain ⟨ad,cap,rfl⟩:=hs.2.2.1.len
 obtain ⟨ad1,cap1,rfl⟩:=hs.1.len
 obtain ⟨ad2,cap2,rfl⟩:=hs.2.1.len
 obtain ⟨W0,hW0,hb0,hz0,bx⟩:=bx2_world w c (.slice ad1 c.ex.sub.length cap1) (.slice ad2 c.ds.length cap2) (.slice ad c.sub.length cap) E
 have HL:=Lib.hid (greatList_any l al cl W0 hl (hr.below hb0) hz)
 have HG:Hid (∀ W,Below W0.heap.size W0 W→Calls Tryz.prog 42 #[.agg #[.int .u8 c.k,.string c.fr,.string c.rc,.string c.nm,.int .u8 c.ex.k,.string c.ex.ra,.string c.ex.nm,.int .i64 c.ex.d,.slice ad1 c.ex.sub.length cap1,.int .i64 c.d,.slice ad2 c.ds.length cap2,.slice ad c.sub.length cap]] W (BoolPost W)):=Lib.hid fun W hb => cgreat_any c _ _ _ W hB ((hs.frame hb0).frame hb)
 have HE:Hid (∀ W,Below W0.heap.size W0 W→Calls Tryz.prog 19 #[.agg #[.slice E.af E.F.length E.cf,.slice E.ac E.C.length E.cc]] W fun e w' => e = .returned (.bool (greatB E.F E.C))∧Below W.heap.size W w'):=Lib.hid fun W hb => great_any E.F E.C E.af E.ac E.cf E.cc W hE.nf hE.nc ((hE.frame hb0).frame hb).f ((hE.frame hb0).frame hb).c hf hc
 have HH:Hid (∀ W,Below W0.heap.size W0 W→Calls Tryz.prog 43 #[.agg #[.int .u8 c.k,.string c.fr,.string c.rc,.string c.nm,.int .u8 c.ex.k,.string c.ex.ra,.string c.ex.nm,.int .i64 c.ex.d,.slice ad1 c.ex.sub.length cap1,.int .i64 c.d,.slice ad2 c.ds.length cap2,.slice ad c.sub.length cap],.agg #[.slice E.af E.F.length E.cf,.slice E.ac E.C.length E.cc]] W (BoolPost W)):=Lib.hid fun W hb => heavy_any c _ _ _ E W hB ((hs.frame hb0).frame hb) ((hE.frame hb0).frame hb)
 have HOk:Hid (ListOk l→greatB E.F E.C=false→p.size≤1000→m.size≤1000→GrOk l p m E):=Lib.hid fun h1 h2 h3 h4 =>
  ⟨h1.1,fun s hs => scnSz_of (h1.2 s hs),fun f hf => by have:=small_of_great h2 f hf;omega,h3,h4⟩
 generalize greatB E.F E.C=g at HE HOk
 unfold GrP at HL
 have HB:=Lib.hid bx
 have Hb0:=Lib.hid hb0
 clear hs bx hE hb0 hf hc hr hz
 show Calls _ _ #[.slice al l.length cl,.agg #[.int .u8 c.k,.string c.fr,.string c.rc,.string c.nm,.int .u8 c.ex.k,.string c.ex.ra,.string c.ex.nm,.int .i64 c.ex.d,.slice ad1 c.ex.sub.length cap1,.int .i64 c.d,.slice ad2 c.ds.length cap2,.slice ad c.sub.length cap],.string p,.string m,.agg #[.slice E.af E.F.length E.cf,.slice E.ac E.C.length E.cc]] _ _
 go_enter Tryz.func21,Tryz.ntmps21
 go_upto_region 1 with (fail)
 clear hW0
 go_wp2_with fail
 refine HL.out.mono ?_
 rintro e w1 ⟨b1,rfl,hp,hb1⟩
 have hbA:=Lib.hid (Hb0.out.trans (hb1.mono Hb0.out.size))
 have HPl:=Lib.hid hp
 clear HL hp
 cases b1
 case true =>
  clear hb1
  go_wp2
  go_ret
  exact ⟨_,rfl,(fun h => by cases h),hbA.out⟩
 have HP1:=Lib.hid (HPl.out rfl)
 clear HPl
 obtain ⟨x0,x1,x2,x3,x4,x5,x6,x7,x8,x9,x10,x11,x12,x13⟩:=(HB.out.below hb1).all
 go_wp2_with fail
 refine (HG.out _ hb1).mono ?_
 rintro e w2 ⟨⟨b2,rfl⟩,hb2⟩
 have hbB:=Lib.hid (hbA.out.trans (hb2.mono hbA.out.size))
 have hb12:=hb1.trans (hb2.mono hb1.size)
 clear x0 x1 x2 x3 x4 x5 x6 x7 x8 x9 x10 x11 x12 x13 HG hb1 hb2
 cases b2
 case true =>
  clear hb12
  go_wp2
  go_ret
  exact ⟨_,rfl,(fun h => by cases h),hbB.out⟩
 obtain ⟨x0,x1,x2,x3,x4,x5,x6,x7,x8,x9,x10,x11,x12,x13⟩:=(HB.out.below hb12).all
 go_wp2_with fail
 refine (HE.out _ hb12).mono ?_
 rintro e w3 ⟨rfl,hb3⟩
 have hbC:=Lib.hid (hbB.out.trans (hb3.mono hbB.out.size))
 have hb13:=hb12.trans (hb3.mono hb12.size)
 clear x0 x1 x2 x3 x4 x5 x6 x7 x8 x9 x10 x11 x12 x13 HE hb12 hb3
 cases g
 case true =>
  clear hb13
  go_wp2
  go_ret
  exact ⟨_,rfl,(fun h => by cases h),hbC.out⟩
 obtain ⟨x0,x1,x2,x3,x4,x5,x6,x7,x8,x9,x10,x11,x12,x13⟩:=(HB.out.below hb13).all
 go_wp2_with fail
 refine (HH.out _ hb13).mono ?_
 rintro e w4 ⟨⟨b4,rfl⟩,hb4⟩
 have hbD:=Lib.hid (hbC.out.trans (hb4.mono hbC.out.size))
 clear x0 x1 x2 x3 x4 x5 x6 x7 x8 x9 x10 x11 x12 x13 HH hb13 hb4
 cases b4
 case true =>
  go_wp2
  go_ret
  exact ⟨_,rfl,(fun h => by cases h),hbD.out⟩
 by_cases h5:1000 < p.size
 ·have u5:(1000:Int) < (p.size:Int):=by omega
  have v5:decide ((1000:Int) < (p.size:Int))=true:=decide_eq_true u5
  clear h5
  go_wp2
  go_ret
  exact ⟨_,rfl,(fun h => by cases h),hbD.out⟩
 have u5 : ¬ (1000:Int) < (p.size:Int):=by omega
 have v5:decide ((1000:Int) < (p.size:Int))=false:=decide_eq_false u5
 by_cases h6:1000 < m.size
 ·have u6:(1000:Int) < (m.size:Int):=by omega
  have v6:decide ((1000:Int) < (m.size:Int))=true:=decide_eq_true u6
  clear h5 h6
  go_wp2
  go_ret
  exact ⟨_,rfl,(fun h => by cases h),hbD.out⟩
 have u6 : ¬ (1000:Int) < (m.size:Int):=by omega
 have v6:decide ((1000:Int) < (m.size:Int))=false:=decide_eq_false u6
 have HX:=Lib.hid (HOk.out HP1.out (by first | rfl | trivial) (by omega) (by omega))
 clear h5 h6
 go_wp2
 go_ret
 exact ⟨_,rfl,fun _ => HX.out,hbD.out⟩
end Go.Proofs.YthdeijdimfjceaaGreatDoor

namespace Go.Proofs.YthdeijdimfjceaaGreatDoor
open Go.RowKit
structure By2 (W:World) (B:Nat) (a b:Con) (es dd ss es2 dd2 ss2:Value) (E:EvD):Prop where
 a:BoxN W B 51 (a.cells es dd ss)
 b:BoxN W (B+1) 51 (b.cells es2 dd2 ss2)
 v:BoxN W (B+1+1) 32 [.slice E.af E.F.length E.cf,.slice E.ac E.C.length E.cc]
theorem By2.below {W W':World} {B:Nat} {a b:Con} {es dd ss es2 dd2 ss2:Value} {E:EvD} (h:By2 W B a b es dd ss es2 dd2 ss2 E) (hb:Below W.heap.size W W'):By2 W' B a b es dd ss es2 dd2 ss2 E :=
 ⟨h.a.below hb h.a.lt,h.b.below hb h.b.lt,h.v.below hb h.v.lt⟩
def LosQ (w:World) (E:Int) (L:List ByteArray) (e:Ending) (w':World):Prop:=∃ a n,e = .returned (.tuple #[.slice a L.length n,.int .i64 E])∧Rd sC 1 w' a L∧Below w.heap.size w w'
theorem LosP.q {w w':World} {E:Int} {L:List ByteArray} {e:Ending} (h:LosP w E L e w'):LosQ w E L e w':=by
 obtain ⟨v,rfl,ho,hb⟩:=h
 have hv:∃ a n,v = .slice a L.length n:=by
  rcases ho.2 with ⟨e1,h0⟩ | ⟨g,cap,cur,e1,_⟩
  ·exact ⟨none,0,by rw [e1,h0]⟩
  ·exact ⟨_,_,e1⟩
 obtain ⟨a,n,rfl⟩:=hv
 exact ⟨a,n,rfl,rd_st ho rfl,hb⟩
end Go.Proofs.YthdeijdimfjceaaGreatDoor

namespace Go.Proofs.YthdeijdimfjceaaGreatDoor
open Go.RowKit
structure By3 (W:World) (B:Nat) (s:Value) (c:Con) (es dd ss:Value) (E:EvD):Prop where
 s:BoxN W B 28 [s]
 c:BoxN W (B+1) 51 (c.cells es dd ss)
 v:BoxN W (B+1+1) 32 [.slice E.af E.F.length E.cf,.slice E.ac E.C.length E.cc]
theorem By3.below {W W':World} {B:Nat} {s:Value} {c:Con} {es dd ss:Value} {E:EvD} (h:By3 W B s c es dd ss E) (hb:Below W.heap.size W W'):By3 W' B s c es dd ss E :=
 ⟨h.s.below hb h.s.lt,h.c.below hb h.c.lt,h.v.below hb h.v.lt⟩
theorem by3_world (w:World) (s:Value) (c:Con) (es dd ss:Value) (E:EvD):∃ W,((w.alloc (.cells #[s] 28)).alloc (.cells (c.cells es dd ss).toArray 51)).alloc (.cells #[.slice E.af E.F.length E.cf,.slice E.ac E.C.length E.cc] 32)=W∧Below w.heap.size w W∧w.heap.size+3≤W.heap.size∧By3 W w.heap.size s c es dd ss E:=by
 refine ⟨_,rfl,below_a3 _ _ _ _,by simp,?_⟩
 have h1:=BoxN.new w [s] 28
 have h2:=BoxN.new (w.alloc (.cells #[s] 28)) (c.cells es dd ss) 51
 have h3:=BoxN.new ((w.alloc (.cells #[s] 28)).alloc (.cells (c.cells es dd ss).toArray 51)) [.slice E.af E.F.length E.cf,.slice E.ac E.C.length E.cc] 32
 simp only [World.size_alloc] at h2 h3
 exact ⟨(h1.alloc _).alloc _,h2.alloc _,h3⟩
theorem By3.all {W:World} {B:Nat} {s:Value} {c:Con} {es dd ss:Value} {E:EvD} (h:By3 W B s c es dd ss E):W.cell? ⟨B+1,0,none⟩=some (.int .u8 c.k)∧W.cell? ⟨B+1,1,none⟩=some (.string c.fr)∧W.cell? ⟨B+1,2,none⟩=some (.string c.rc)∧W.cell? ⟨B+1,3,none⟩=some (.string c.nm)∧W.cell? ⟨B+1,4,none⟩=some (.int .u8 c.ex.k)∧W.cell? ⟨B+1,5,none⟩=some (.string c.ex.ra)∧W.cell? ⟨B+1,6,none⟩=some (.string c.ex.nm)∧W.cell? ⟨B+1,7,none⟩=some (.int .i64 c.ex.d)∧W.cell? ⟨B+1,8,none⟩=some (es)∧W.cell? ⟨B+1,9,none⟩=some (.int .i64 c.d)∧W.cell? ⟨B+1,10,none⟩=some (dd)∧W.cell? ⟨B+1,11,none⟩=some (ss)∧W.cell? ⟨B+1+1,0,none⟩=some (.slice E.af E.F.length E.cf)∧W.cell? ⟨B+1+1,1,none⟩=some (.slice E.ac E.C.length E.cc)∧W.cell? ⟨B,0,none⟩=some s :=
 ⟨h.c.cell (j:=0) rfl,h.c.cell (j:=1) rfl,h.c.cell (j:=2) rfl,h.c.cell (j:=3) rfl,h.c.cell (j:=4) rfl,h.c.cell (j:=5) rfl,h.c.cell (j:=6) rfl,h.c.cell (j:=7) rfl,h.c.cell (j:=8) rfl,h.c.cell (j:=9) rfl,h.c.cell (j:=10) rfl,h.c.cell (j:=11) rfl,h.v.cell (j:=0) rfl,h.v.cell (j:=1) rfl,h.s.cell (j:=0) rfl⟩
theorem rdS_one {W:World} {B n:Nat} {a:Option Addr} {s:List Sh} (h:BoxN W B 28 [.slice a s.length n]) (hr:Rd Sh.cells 4 W a s):RdS W (some ⟨B,0,none⟩) [s]:=fun j t hj => by
 match j,hj with
 | 0,hj => cases hj;exact ⟨B,0,a,n,rfl,h.cell (j:=0) rfl,hr⟩
theorem rdS_two {W:World} {B n n2:Nat} {a a2:Option Addr} {s t:List Sh} (h:BoxN W B 28 [.slice a s.length n,.slice a2 t.length n2]) (hr:Rd Sh.cells 4 W a s) (hr2:Rd Sh.cells 4 W a2 t):RdS W (some ⟨B,0,none⟩) [s,t]:=fun j u hj => by
 match j,hj with
 | 0,hj => cases hj;exact ⟨B,0,a,n,rfl,h.cell (j:=0) rfl,hr⟩
 | 1,hj => cases hj;exact ⟨B,0,a2,n2,rfl,h.cell (j:=1) rfl,hr2⟩
theorem wpList_append_new {P:Program} {w:World} {ops:Array Oper} {rest:List Oper} {o:Oper} {a:Act} {Q:Exit→Act→World→Prop} (hgd:o.guard=none) (s x:Operand) (t:TypeId)
  (ho:o.op = .call { callee:=.builtin .append,args:=#[s,x],argTypes:=#[t,t] }) (base:Nat) (e:TypeId) (i:TypeInfo) (z:Value) (size bytes:Nat) (ht:P.underlying t=some (.slice e)) (hi:P.info? e=some i) (hz:i.zero=some z)
  (hsize:i.size=size) (hby:i.bytes=bytes) (hzs:z.cells.size=size) (hsz:0 < size) (g0:Nat) (hg0:base≤g0) (hc0:w.heap[g0]? = some (.cells #[] e (0,0))) (A:Option Addr) (m c:Nat) (news:List Value) (hs:a.eval s = .slice (some ⟨g0,0,none⟩) 0 0) (hx:a.eval x = .slice A m c) (hl:Sl w (.slice A m c) size m news) (hA:A=none→c=0)
  (h1:∀ u ∈ news,u.oneCell'=true) (h63:m≤maxLen) (hbytes:m * bytes≤140737488355328) (hbase:base≤w.heap.size)
  (h:∀ g cap w',w'.ownsRow base e size (.slice (some ⟨g,0,none⟩) m cap) m news→Below base w w'→wpList P ops Q rest (a.put o.dst (.slice (some ⟨g,0,none⟩) m cap)) w'):wpList P ops Q (o :: rest) a w:=by
 have hown:w.ownsRow base e size (.slice (some ⟨g0,0,none⟩) 0 0) 0 []:=⟨by simp,.inr ⟨g0,0,#[],rfl,hg0,hc0,Nat.le_refl _,by simp [maxLen],by simp,by simp⟩⟩
 obtain ⟨ad',cap',he,hl1,hl2,hl3⟩:=hl
 obtain ⟨rfl,_,rfl⟩:=Value.slice.inj he
 rcases Nat.eq_zero_or_pos m with h0 | h0
 ·subst h0
  have hn:news=[]:=List.eq_nil_of_length_eq_zero (by simpa using hl2)
  subst hn
  refine wpList_plain hgd fun K hK => ?_
  have hr:(Builtin.append_ #[t,t] o.type #[.slice (some ⟨g0,0,none⟩) 0 0,.slice A 0 c]).run P w = .ok (.slice (some ⟨g0,0,none⟩) 0 0) w:=by
   cases A with
   | none =>
    obtain rfl:=hA rfl
    simp [Builtin.append_,run_underlying ht,sizeOf,typeInfo,hi,Builtin.lenOf,Builtin.firstCells,storeCells]
   | some a => simp [Builtin.append_,run_underlying ht,sizeOf,typeInfo,hi,Builtin.lenOf,Builtin.firstCells,storeCells,loadCells,loadCellsFrom]
  unfold Oper.wp execOp
  simp only [ho,resolve,invoke,builtin,Sem.run_bind,Sem.run_pure,Result.andThen_ok,List.map_toArray,List.map_cons,List.map_nil,hs,hx,hr]
  exact hK _ _ (h g0 0 w hown (Below.refl _ _))
 ·rcases hl3 with h3 | ⟨b,off,rfl,h3⟩
  ·exfalso;rw [h3] at hl2;have:=Nat.mul_pos h0 hsz;omega
  ·refine wpList_append_own w hgd s x t ho base e i z size bytes ht hi hz hsize hby hzs hsz _ 0 [] hs hown ⟨b,off,none⟩ m c news hx hl2 (fun j v hj => ?_) h1 (by omega) (by rw [Nat.zero_add];exact hbytes) hbase fun v' w' ho' hg' _ => ?_
   ·have h:=h3 j v hj
    by_cases h0:j=0
    ·subst h0;simpa [Addr.add] using h
    ·simpa [Addr.add,h0] using h
   ·rw [Nat.zero_add,List.nil_append] at ho'
    have hbel:Below base w w':=(Below.refl _ _).grown hg' hbase fun k hk => by
     obtain rfl:=Option.some.inj hk;exact hg0
    rcases ho'.2 with ⟨_,e0⟩ | ⟨g,cap,cur,rfl,_⟩
    ·omega
    ·exact h g cap w' ho' hbel
structure LitI (Fs cur:List Value) (L:Nat→Bool):Prop where
 h:∀ i u v,L i=true→Fs[i]? = some u→cur[i]? = some v→v=u
section
variable {Fs cur:List Value} {L:Nat→Bool}
theorem LitI.start:LitI Fs cur (fun _ => false):=⟨fun _ _ _ h => by cases h⟩
theorem LitI.step (h:LitI Fs cur L) {i:Nat} {u:Value} (hF:Fs[i]? = some u):LitI Fs (cur.set i u) (upd L i) :=
 ⟨fun j G v hL hG hv => by
  by_cases hj:j=i
  ·subst hj
   rw [hF] at hG;cases hG
   have hlt:j < cur.length:=by
    rw [List.getElem?_set] at hv
    by_cases hl:j < cur.length
    ·exact hl
    ·simp [hl] at hv
   rw [List.getElem?_set_self hlt] at hv
   cases hv
   rfl
  ·rw [List.getElem?_set_ne (fun e => hj e.symm)] at hv
   exact h.h j G v (by unfold upd at hL;rwa [if_neg hj] at hL) hG hv⟩
theorem LitI.at (h:LitI Fs cur L) {i:Nat} {u v:Value} (hL:L i=true) (hF:Fs[i]? = some u) (hv:cur[i]? = some v):v=u:=h.h i u v hL hF hv
end
end Go.Proofs.YthdeijdimfjceaaGreatDoor

namespace Go.Proofs.YthdeijdimfjceaaGreatDoor
open Go.RowKit
def hasSh (s:List Sh) (nm:ByteArray):Bool:=s.any fun x => decide (nm=x.nm)
mutual
def menB (s:List Sh):Ex→Bool
 | .mk _ _ nm _ l => hasSh s nm || menBs s l
def menBs (s:List Sh):List Ex→Bool
 | [] => false
 | x :: l => menB s x || menBs s l
end
mutual
def depB (s:List Sh):Con→Bool
 | .mk _ _ _ _ ex _ _ l => menB s ex || depBs s l
def depBs (s:List Sh):List Con→Bool
 | [] => false
 | x :: l => depB s x || depBs s l
end
theorem menBs_any (s:List Sh):∀ l,menBs s l=l.any (menB s)
 | [] => by rw [menBs];rfl
 | x :: l => by rw [menBs,menBs_any s l];rfl
theorem depBs_any (s:List Sh):∀ l,depBs s l=l.any (depB s)
 | [] => by rw [depBs];rfl
 | x :: l => by rw [depBs,depBs_any s l];rfl
theorem menB_eq (s:List Sh) (x:Ex):menB s x=(hasSh s x.nm || x.sub.any (menB s)):=by
 cases x;rw [menB,menBs_any];rfl
theorem depB_eq (s:List Sh) (c:Con):depB s c=(menB s c.ex || c.sub.any (depB s)):=by
 cases c;rw [depB,depBs_any];rfl
theorem ex_apart {s:List Sh} {F G:List Fx} (hF:∀ nm d,hasSh s nm=false→fixR F nm d=fixR G nm d):∀ (N:Nat) (x:Ex),x.bulk≤N→menB s x=false→∀ e,x.value F e=x.value G e∧x.hold F e=x.hold G e
 | 0,x,hN,_ => by have:=x.sub_lt;omega
 | N+1,.mk k ra nm d l,hN,hA => fun e => by
  rw [menB_eq,Bool.or_eq_false_iff] at hA
  have hl:∀ y ∈ l,menB s y=false:=fun y hy => by
   have:=List.any_eq_false.1 hA.2 y hy
   simpa using this
  have IH:∀ y ∈ l,y.value F e=y.value G e∧y.hold F e=y.hold G e:=fun y hy => ex_apart hF N y (by have:=Ex.mem_lt (x:=.mk k ra nm d l) hy;omega) (hl y hy) e
  have h2:∀ d,fixR F nm d=fixR G nm d:=fun d => hF nm d hA.1
  clear hA hl
  match l with
  | [] => exact ⟨by rw [Ex.value,Ex.value] <;> first | rw [h2,h2] | simp,rfl⟩
  | [x] =>
   refine ⟨by rw [Ex.value,Ex.value] <;> first | rw [h2,h2] | simp,?_⟩
   rw [Ex.hold,Ex.hold,(IH x (by simp)).2]
  | [x,y] =>
   refine ⟨?_,?_⟩
   ·rw [Ex.value,Ex.value,(IH x (by simp)).1,(IH y (by simp)).1,h2,h2]
   ·rw [Ex.hold,Ex.hold,(IH x (by simp)).1,(IH y (by simp)).1,(IH x (by simp)).2,(IH y (by simp)).2]
  | [p,x,y] =>
   refine ⟨?_,rfl⟩
   rw [Ex.value,Ex.value,(IH p (by simp)).2,(IH x (by simp)).1,(IH y (by simp)).1,h2,h2]
  | a :: b :: c :: d' :: r => exact ⟨by rw [Ex.value,Ex.value] <;> first | rw [h2,h2] | simp,rfl⟩
theorem flows_apart {s:List Sh} {F G:List Fx} (C:List Ch) (hF:∀ nm d,hasSh s nm=false→fixR F nm d=fixR G nm d):∀ (N:Nat) (c:Con),c.bulk≤N→depB s c=false→∀ day fin,c.flows F C day fin=c.flows G C day fin
 | 0,c,hN,_ => by have:=c.sub_lt;omega
 | N+1,.mk k fr rc nm ex d ds l,hN,hA => fun day fin => by
  rw [depB_eq,Bool.or_eq_false_iff] at hA
  have hl:∀ y ∈ l,depB s y=false:=fun y hy => by
   have:=List.any_eq_false.1 hA.2 y hy
   simpa using this
  have IH:∀ y ∈ l,∀ day fin,y.flows F C day fin=y.flows G C day fin:=fun y hy => flows_apart C hF N y (by have:=Con.mem_lt (x:=.mk k fr rc nm ex d ds l) hy;omega) (hl y hy)
  have hx:=ex_apart hF ex.bulk ex (Nat.le_refl _) hA.1
  have hv:∀ e,ex.value F e=ex.value G e:=fun e => (hx e).1
  have hh:∀ e,ex.hold F e=ex.hold G e:=fun e => (hx e).2
  clear hA hl hx
  match l with
  | [] => rw [Con.flows,Con.flows];simp only [hv]
  | [x] => rw [Con.flows,Con.flows];simp only [hv,hh,IH x (by simp)]
  | [x,y] => rw [Con.flows,Con.flows];simp only [hh,IH x (by simp),IH y (by simp)]
  | a :: b :: c :: r => rw [Con.flows,Con.flows] <;> simp
theorem fix_apart {s:List Sh} (F:List Fx) (nm:ByteArray) (d:Int) (h:hasSh s nm=false):fixR (F.map (newF s)) nm d=fixR F nm d:=by
 unfold fixR
 rw [List.find?_map]
 have e:(fxIs ⟨nm,d,⟨#[]⟩⟩ ∘ newF s)=fxIs ⟨nm,d,⟨#[]⟩⟩:=rfl
 rw [e]
 cases hf:F.find? (fxIs ⟨nm,d,⟨#[]⟩⟩) with
 | none => rfl
 | some f =>
  have h1:=List.find?_some hf
  have h2:f.nm=nm:=by
   unfold fxIs at h1
   simp only [Bool.and_eq_true,decide_eq_true_eq] at h1
   exact h1.1
  have h3:s.find? (hits f)=none:=by
   rw [List.find?_eq_none]
   intro x hx k
   unfold hits at k
   simp only [Bool.and_eq_true,decide_eq_true_eq] at k
   have:=List.any_eq_false.1 h x hx
   rw [decide_eq_true_eq] at this
   exact this (by rw [← h2,k.1])
  show ((0:Int),newV s f)=(0,f.vl)
  unfold newV
  rw [h3]
theorem loss_as {c:Con} {p m:ByteArray} {day:Int} {F:List Fx} {C:List Ch} {s:List Sh} (h0:(conR c p m day F C).2=0) (hs:scnB s=true) (hv:applyE s F C=0→conR c p m day (applyF s F C) (applyC s F C)=conR c p m day F C) :
  (lossR c p m day F C (conR c p m day F C).1 s).2=14∨((lossR c p m day F C (conR c p m day F C).1 s).2=0∧(lossR c p m day F C (conR c p m day F C).1 s).1=⟨#[48]⟩):=by
 rcases apply_two hs (val_ok h0).2.1 with h | h
 ·exact loss_same h0 h (hv h)
 ·left
  unfold lossR
  rw [if_pos (by rw [h];decide)];exact h
theorem loss_bad {c:Con} {p m:ByteArray} {day:Int} {F:List Fx} {C:List Ch} {s:List Sh} {b:ByteArray} (hs:scnB s=false):(lossR c p m day F C b s).2=8:=by
 have h:=(apply_bad (fs:=F) (cs:=C) hs).1
 unfold lossR
 rw [if_pos (by rw [h];decide)];exact h
theorem los_none {l:List (List Sh)} {c:Con} {p m:ByteArray} {day:Int} {F:List Fx} {C:List Ch} (hl:l.length≤100) (h0:(conR c p m day F C).2=0)
  (hh:∀ s ∈ l,(lossR c p m day F C (conR c p m day F C).1 s).2=14∨((lossR c p m day F C (conR c p m day F C).1 s).2=0∧(lossR c p m day F C (conR c p m day F C).1 s).1=⟨#[48]⟩)) :
  losE l c p m day F C=14∨(losE l c p m day F C=0∧losL l c p m day F C=l.map fun _ => ⟨#[48]⟩):=by
 have e:losE l c p m day F C=errs (l.map fun s => (lossR c p m day F C (conR c p m day F C).1 s).2):=by
  unfold losE;rw [if_neg (by omega),if_neg (fun k => k h0)]
 rcases errs_two (l:=l.map fun s => (lossR c p m day F C (conR c p m day F C).1 s).2) (fun e he => by
  obtain ⟨s,hs,rfl⟩:=List.mem_map.1 he
  exact (hh s hs).elim .inr fun k => .inl k.1) with h | h
 ·rw [← e] at h
  refine .inr ⟨h,?_⟩
  obtain ⟨_,_,a3,a4⟩:=los_ok h
  rw [a4]
  exact List.map_congr_left fun s hs => ((hh s hs).resolve_left (by rw [a3 s hs];decide)).2
 ·exact .inl (e.trans h)
def stil (x:Sh):Sh:={ x with ra:=⟨#[49]⟩,ex:=⟨#[48]⟩ }
theorem stil_new {l:List Sh} (hl:∀ x ∈ l,x.ra=⟨#[49]⟩∧x.ex=⟨#[48]⟩) {f:Fx} (hf:ratErr f.vl=0) (h:newE l f=0):newF l f=f:=by
 have e:newV l f=f.vl:=by
  unfold newE at h
  unfold newV
  split
  ·rfl
  ·next x hx =>
   rw [hx] at h
   obtain ⟨e1,e2⟩:=hl x (List.mem_of_find?_eq_some hx)
   obtain ⟨h1,h2⟩:=sh_val h
   refine rv_inj h1 hf ?_
   rw [h2,e1,e2,rv_one,rv_zero,Rat.one_mul,Rat.add_zero]
 cases f;unfold newF;rw [e]
theorem con_id {c:Con} {p m:ByteArray} {day:Int} {F:List Fx} {C:List Ch} {s:List Sh} (hl:∀ x ∈ s,x.ra=⟨#[49]⟩∧x.ex=⟨#[48]⟩) (h:applyE s F C=0):conR c p m day (applyF s F C) (applyC s F C)=conR c p m day F C:=by
 obtain ⟨_,hv,hn,e1,e2⟩:=apply_parts h
 have e3:F.map (newF s)=F:=by
  have:∀ f ∈ F,newF s f=id f:=fun f hf => stil_new hl (fx_vals hv f hf) (hn f hf)
  rw [List.map_congr_left this,List.map_id]
 rw [e1,e2,e3]
theorem con_apart {c:Con} {p m:ByteArray} {day:Int} {F:List Fx} {C:List Ch} {s:List Sh} (h0:(conR c p m day F C).2=0) (hd:depB s c=false) (h:applyE s F C=0):conR c p m day (applyF s F C) (applyC s F C)=conR c p m day F C:=by
 obtain ⟨_,hv,hn,e1,e2⟩:=apply_parts h
 obtain ⟨hb,_⟩:=val_ok h0
 have hc:=(befR_fin hb).1
 have henv:envErr (F.map (newF s)) C=0:=env_map hv (newF s) (fun _ => ⟨rfl,rfl⟩) fun f hf => new_rat (fx_vals hv f hf) (hn f hf)
 have e:befR c day 100000 (F.map (newF s)) C=befR c day 100000 F C:=by
  rw [befR_ok hc,befR_ok hc,henv,hv,flows_apart C (fun nm d hh => fix_apart F nm d hh) c.bulk c (Nat.le_refl _) hd]
 rw [e1,e2]
 unfold conR
 rw [e]
theorem still_law {c:Con} {p m:ByteArray} {day:Int} {F:List Fx} {C:List Ch} {s:List Sh} (h0:(conR c p m day F C).2=0) (hs:scnB (s.map stil)=true) :
  losE [[],s.map stil] c p m day F C=14∨(losE [[],s.map stil] c p m day F C=0∧losL [[],s.map stil] c p m day F C=[⟨#[48]⟩,⟨#[48]⟩]) :=
 los_none (l:=[[],s.map stil]) (by show 2≤100;decide) h0 fun t ht => by
  rcases List.mem_cons.1 ht with rfl | ht
  ·exact loss_as h0 rfl fun h => con_id (fun x hx => by cases hx) h
  ·obtain rfl:=List.mem_singleton.1 ht
   exact loss_as h0 hs fun h => con_id (fun x hx => by obtain ⟨y,_,rfl⟩:=List.mem_map.1 hx;exact ⟨rfl,rfl⟩) h
theorem apart_law {c:Con} {p m:ByteArray} {day:Int} {F:List Fx} {C:List Ch} {s:List Sh} (h0:(conR c p m day F C).2=0) (hd:depB s c=false) :
  losE [s] c p m day F C=8∨losE [s] c p m day F C=14∨(losE [s] c p m day F C=0∧losL [s] c p m day F C=[⟨#[48]⟩]):=by
 by_cases hs:scnB s=true
 ·exact .inr (los_none (l:=[s]) (by show 1≤100;decide) h0 fun t ht => by
   obtain rfl:=List.mem_singleton.1 ht
   exact loss_as h0 hs fun h => con_apart h0 hd h)
 ·left
  have hb:scnB s=false:=by simpa using hs
  unfold losE
  rw [if_neg (by show ¬ 100 < 1;decide),if_neg (fun k => k h0)]
  show errs [(lossR c p m day F C (conR c p m day F C).1 s).2]=8
  rw [loss_bad hb];decide
end Go.Proofs.YthdeijdimfjceaaGreatDoor

namespace Go.Proofs.YthdeijdimfjceaaGreatDoor
open Go.RowKit
theorem hasSh_hit {s:List Sh} {nm:ByteArray} {k:Nat} {y:Sh} (hy:s[k]? = some y) (h:nm=y.nm):hasSh s nm=true :=
 List.any_eq_true.2 ⟨y,List.mem_of_getElem? hy,decide_eq_true h⟩
theorem hasSh_none {s:List Sh} {nm:ByteArray} (h:∀ y ∈ s,nm ≠ y.nm):hasSh s nm=false :=
 List.any_eq_false.2 fun y hy => by simpa using h y hy
theorem any_hit {α:Type} {p:α→Bool} {l:List α} {k:Nat} {y:α} (hy:l[k]? = some y) (h:p y=true):l.any p=true:=List.any_eq_true.2 ⟨y,List.mem_of_getElem? hy,h⟩
theorem take_step {α:Type} {P:α→Prop} {l:List α} {k:Nat} {y:α} (hy:l[k]? = some y) (h:∀ x ∈ l.take k,P x) (h1:P y):∀ x ∈ l.take (k+1),P x:=fun x hx => by
 rw [take_snoc_get hy,List.mem_append,List.mem_singleton] at hx
 rcases hx with hx | rfl
 ·exact h x hx
 ·exact h1
theorem take_done {α:Type} {P:α→Prop} {l:List α} {n:Nat} (hn:l.length=n) (h:∀ x ∈ l.take n,P x):∀ x ∈ l,P x:=fun x hx => h x (by rw [List.take_of_length_le (by omega)];exact hx)
theorem ret_b2 {w w':World} {b c:Bool} (h:b=c) (hb:Below w.heap.size w w'):Ending.returned (.bool b) = .returned (.bool c)∧Below w.heap.size w w':=⟨by rw [h],hb⟩
set_option maxHeartbeats 4000000 in
set_option maxRecDepth 100000 in
theorem mentions_any (l:List Sh) (a:Option Addr) (cp:Nat) (hl:l.length≤1100000):∀ (N:Nat) (x:Ex) (es:Value) (w:World),x.bulk≤N→x.bulk≤2000000→RdE w x.sub es→Rd Sh.cells 4 w a l →
  Calls Tryz.prog 53 #[x.val es,.agg #[.slice a l.length cp]] w fun e w' => e = .returned (.bool (menB l x))∧Below w.heap.size w w':=by
 intro N
 induction N with
 | zero => intro x es w h0;rw [Ex.bulk_eq] at h0;omega
 | succ N ih =>
  intro x es w hN hB hs hr
  obtain ⟨ad,cap,rfl⟩:=hs.len
  have HS:=Lib.hid hs
  have HR:=Lib.hid hr
  have HI:=Lib.hid ih
  have hlen:=Ex.bulks_len x.sub
  have hlt2:=x.sub_lt
  have hn:x.sub.length≤2000000:=by omega
  obtain ⟨W0,hW0,hb0,be,bs⟩:∃ W,(w.alloc (.cells #[.int .u8 x.k,.string x.ra,.string x.nm,.int .i64 x.d,.slice ad x.sub.length cap] 47)).alloc (.cells #[.slice a l.length cp] 28)=W∧Below w.heap.size w W∧BoxN W w.heap.size 47 (x.cells (.slice ad x.sub.length cap))∧BoxN W (w.heap.size+1) 28 [.slice a l.length cp]:=by
   have h2:=BoxN.new (w.alloc (.cells #[.int .u8 x.k,.string x.ra,.string x.nm,.int .i64 x.d,.slice ad x.sub.length cap] 47)) [.slice a l.length cp] 28
   rw [World.size_alloc] at h2
   exact ⟨_,rfl,below_a2 _ _ _,(BoxN.new w _ _).alloc _,h2⟩
  have HCe:Hid (∀ W,Below W0.heap.size W0 W→W.cell? ⟨w.heap.size,2,none⟩=some (.string x.nm)∧W.cell? ⟨w.heap.size,4,none⟩=some (.slice ad x.sub.length cap)∧W.cell? ⟨w.heap.size+1,0,none⟩=some (.slice a l.length cp)):=Lib.hid fun W hW => by
   have h:=be.below hW be.lt
   exact ⟨h.cell (j:=2) rfl,h.cell (j:=4) rfl,(bs.below hW bs.lt).cell (j:=0) rfl⟩
  have Hb0:=Lib.hid hb0
  have H1:Hid (∀ (k:Nat) (y:Sh),l[k]? = some y→x.nm=y.nm→true=menB l x):=Lib.hid fun k y hy h => by rw [menB_eq,hasSh_hit hy h];rfl
  have H2:Hid (∀ (k:Nat) (y:Ex),x.sub[k]? = some y→menB l y=true→true=menB l x):=Lib.hid fun k y hy h => by rw [menB_eq,any_hit hy h,Bool.or_true]
  have H3:Hid ((∀ y ∈ l,x.nm ≠ y.nm)→(∀ y ∈ x.sub,menB l y=false)→false=menB l x):=Lib.hid fun h1 h2 => by
   rw [menB_eq,hasSh_none h1,Bool.false_or,eq_comm]
   exact List.any_eq_false.2 fun y hy => by rw [h2 y hy];decide
  obtain ⟨n,hnl⟩:∃ n,l.length=n:=⟨_,rfl⟩
  obtain ⟨q,hq⟩:∃ n,x.sub.length=n:=⟨_,rfl⟩
  have HNl:=Lib.hid hnl
  have HNq:=Lib.hid hq
  rw [hnl] at HCe HI hl hW0 ⊢
  rw [hq] at HCe hW0 hn HS ⊢
  generalize menB l x=R at H1 H2 H3 ⊢
  obtain ⟨c2,c4,c5⟩:=HCe.out W0 (Below.refl _ _)
  clear hs hr ih be bs hb0 hlen hlt2 hnl hq
  unfold Ex.val
  go_enter Tryz.func53,Tryz.ntmps53
  go_upto_region 1 with (fail)
  clear hW0
  go_wp2_with fail
  go_loopw [5] (fun i wr => ∃ (k nq:Nat),k≤n∧i = .int .i64 k∧wr=W0.drewN nq∧Hid (∀ y ∈ l.take k,x.nm ≠ y.nm)) (fun i _ => n - (intOf i).toNat)
  case atStart => exact ⟨0,0,Nat.zero_le _,rfl,rfl,Lib.hid (by simp)⟩
  case round =>
   obtain ⟨k,nq,hk,rfl,rfl,HA⟩:=hrel
   by_cases hlt:k < n
   ·obtain ⟨y,hy⟩:∃ y,l[k]? = some y:=⟨_,List.getElem?_eq_getElem (by rw [HNl.out];exact hlt)⟩
    obtain ⟨b,off,rfl,d0,d1,d2,d3⟩:=(HR.out.below Hb0.out).sh hy
    have hk1:(k:Int) < (n:Int):=by omega
    have hk0:(0:Int)≤(k:Int):=by omega
    by_cases he:x.nm=y.nm
    ·have u:(x.nm.toList == y.nm.toList)=true:=by rw [toList_beq,decide_eq_true he]
     have HF:=Lib.hid (H1.out k y hy he)
     clear hy he
     go_wp2
     go_quiet (fail)
     go_wp2
     go_ret
     exact ret_b2 HF.out (below_drewN (below_drewN Hb0.out _) _)
    ·have u:(x.nm.toList == y.nm.toList)=false:=by rw [toList_beq,decide_eq_false he]
     have HA2:=Lib.hid (take_step (P:=fun y => x.nm ≠ y.nm) hy HA.out he)
     clear hy he
     go_wp2
     go_quiet (fail)
     go_wp2
     go_roundw
     case rel => exact ⟨k+1,_,by omega,by go_num,rfl,HA2⟩
     case measure => simp [intOf];omega
   ·obtain rfl:n=k:=by omega
    have HL:=Lib.hid (take_done (P:=fun y => x.nm ≠ y.nm) HNl.out HA.out)
    have hbw:=below_drewN (Below.refl W0.heap.size W0) nq
    clear hlt c2 c4 c5 H1 HA
    generalize W0.drewN nq=V at hbw ⊢
    obtain ⟨c2,c4,c5⟩:=HCe.out V hbw
    go_wp2_with fail
    clear c2 c4 c5
    go_loopw [6] (fun i wr => ∃ k:Nat,k≤q∧i = .int .i64 k∧Below W0.heap.size W0 wr∧Hid (∀ y ∈ x.sub.take k,menB l y=false)) (fun i _ => q - (intOf i).toNat)
    case atStart => exact ⟨0,Nat.zero_le _,rfl,hbw,Lib.hid (by simp)⟩
    case round =>
     clear hbw
     obtain ⟨k,hk,rfl,hbel,HA⟩:=hrel
     obtain ⟨c2,c4,c5⟩:=HCe.out wr hbel
     by_cases hlt:k < q
     ·obtain ⟨y,hy⟩:∃ y,x.sub[k]? = some y:=⟨_,List.getElem?_eq_getElem (by rw [HNq.out];exact hlt)⟩
      obtain ⟨b,off,s',rfl,d0,d1,d2,d3,d4,hs',h8⟩:=(HS.out.frame (Hb0.out.trans (hbel.mono Hb0.out.size))).at hy
      have hym:=Ex.mem_lt (List.mem_of_getElem? hy)
      have hblk:b < wr.heap.size:=World.block_lt_of_cell? wr _ d0
      have hk1:(k:Int) < (q:Int):=by omega
      have hk0:(0:Int)≤(k:Int):=by omega
      have HC:Hid (∀ W,Below wr.heap.size wr W→Calls Tryz.prog 53 #[.agg #[.int .u8 y.k,.string y.ra,.string y.nm,.int .i64 y.d,s'],.agg #[.slice a n cp]] W fun e w' => e = .returned (.bool (menB l y))∧Below W.heap.size W w'):=Lib.hid fun W hW =>
       HI.out y s' W (by omega) (by omega) (hs'.frame hW) ((HR.out.below (Hb0.out.trans (hbel.mono Hb0.out.size))).below hW)
      have HCl:Hid (∀ W,Below wr.heap.size wr W→W.cell? ⟨w.heap.size,4,none⟩=some (.slice (some ⟨b,off,none⟩) q cap)∧W.cell? ⟨w.heap.size+1,0,none⟩=some (.slice a n cp)∧W.cell? ⟨b,off+k * 5,none⟩=some (.int .u8 y.k)∧W.cell? ⟨b,off+k * 5+1,none⟩=some (.string y.ra)∧W.cell? ⟨b,off+k * 5+2,none⟩=some (.string y.nm)∧W.cell? ⟨b,off+k * 5+3,none⟩=some (.int .i64 y.d)∧W.cell? ⟨b,off+k * 5+4,none⟩=some s'):=Lib.hid fun W hW => by
       have h:=HCe.out W (hbel.trans (hW.mono hbel.size))
       have kk:∀ o u,wr.cell? ⟨b,o,none⟩=some u→W.cell? ⟨b,o,none⟩=some u:=fun o u hu => by rw [hW.cell (p:=⟨b,o,none⟩) hblk];exact hu
       exact ⟨h.2.1,h.2.2,kk _ _ d0,kk _ _ d1,kk _ _ d2,kk _ _ d3,kk _ _ d4⟩
      have HH:=Lib.hid (H2.out k y hy)
      have HA2:Hid (menB l y=false→∀ y ∈ x.sub.take (k+1),menB l y=false):=Lib.hid fun h => take_step (P:=fun y => menB l y=false) hy HA.out h
      generalize menB l y=g at HC HH HA2
      clear hy hym hs' h8 c2
      have hd:Below wr.heap.size wr wr.drew:=(Below.refl _ _).drew
      go_wp2_with fail
      go_region_held3 (fun W => W.cell? ⟨w.heap.size,4,none⟩=some (.slice (some ⟨b,off,none⟩) q cap)∧W.cell? ⟨w.heap.size+1,0,none⟩=some (.slice a n cp)∧W.cell? ⟨b,off+k * 5,none⟩=some (.int .u8 y.k)∧W.cell? ⟨b,off+k * 5+1,none⟩=some (.string y.ra)∧W.cell? ⟨b,off+k * 5+2,none⟩=some (.string y.nm)∧W.cell? ⟨b,off+k * 5+3,none⟩=some (.int .i64 y.d)∧W.cell? ⟨b,off+k * 5+4,none⟩=some s')
       (first | assumption | exact ⟨by assumption,by assumption,by assumption,by assumption,by assumption,by assumption,by assumption⟩ | go_keep)
       (first | (go_at_call 53;refine (HC.out _ hd).mono ?_;rintro e w5 ⟨rfl,hb5⟩;have hb6:=hd.trans hb5;obtain ⟨x1,x2,x3,x4,x5,x6,x7⟩:=HCl.out _ hb6))
      have hbN:=hbel.trans (hb6.mono hbel.size)
      clear hb5 hb6 hd HC HCl x1 x2 x3 x4 x5 x6 x7 d0 d1 d2 d3 d4 c4 c5
      cases g with
      | true =>
       have HF:=Lib.hid (HH.out rfl)
       go_wp2
       go_ret
       exact ret_b2 HF.out (Hb0.out.trans (hbN.mono Hb0.out.size))
      | false =>
       have HA3:=Lib.hid (HA2.out rfl)
       clear HH HA2
       go_wp2
       go_roundw
       case rel => exact ⟨k+1,by omega,by go_num,hbN,HA3⟩
       case measure => simp [intOf];omega
     ·obtain rfl:q=k:=by omega
      have HF:=Lib.hid (H3.out HL.out (take_done (P:=fun y => menB l y=false) HNq.out HA.out))
      go_wp2
      go_ret
      exact ret_b2 HF.out (Hb0.out.trans (hbel.mono Hb0.out.size))
set_option maxHeartbeats 4000000 in
set_option maxRecDepth 100000 in
theorem depends_any (l:List Sh) (a:Option Addr) (cp:Nat) (hl:l.length≤1100000):∀ (N:Nat) (c:Con) (es dd ss:Value) (w:World),c.bulk≤N→c.bulk≤2000000→RdN w c es dd ss→Rd Sh.cells 4 w a l →
  Calls Tryz.prog 25 #[c.val es dd ss,.agg #[.slice a l.length cp]] w fun e w' => e = .returned (.bool (depB l c))∧Below w.heap.size w w':=by
 intro N
 induction N with
 | zero => intro c es dd ss w h0;rw [Con.bulk_eq] at h0;omega
 | succ N ih =>
  intro c es dd ss w hN hB hs hr
  obtain ⟨ad,cap,rfl⟩:=hs.2.2.1.len
  obtain ⟨ad1,cap1,rfl⟩:=hs.1.len
  obtain ⟨ad2,cap2,rfl⟩:=hs.2.1.len
  have HS:=Lib.hid hs.2.2.1
  have HE:=Lib.hid hs.1
  have HR:=Lib.hid hr
  have HI:=Lib.hid ih
  have hsq1:=c.bulk_eq
  have hlen:=Con.bulks_len c.sub
  have hn:c.sub.length≤2000000:=by omega
  have hexb:c.ex.bulk≤2000000:=by omega
  obtain ⟨W0,hW0,hb0,be,bs⟩:∃ W,(w.alloc (.cells #[.int .u8 c.k,.string c.fr,.string c.rc,.string c.nm,.int .u8 c.ex.k,.string c.ex.ra,.string c.ex.nm,.int .i64 c.ex.d,.slice ad1 c.ex.sub.length cap1,.int .i64 c.d,.slice ad2 c.ds.length cap2,.slice ad c.sub.length cap] 51)).alloc (.cells #[.slice a l.length cp] 28)=W∧Below w.heap.size w W∧BoxN W w.heap.size 51 (c.cells (.slice ad1 c.ex.sub.length cap1) (.slice ad2 c.ds.length cap2) (.slice ad c.sub.length cap))∧BoxN W (w.heap.size+1) 28 [.slice a l.length cp]:=by
   have h2:=BoxN.new (w.alloc (.cells #[.int .u8 c.k,.string c.fr,.string c.rc,.string c.nm,.int .u8 c.ex.k,.string c.ex.ra,.string c.ex.nm,.int .i64 c.ex.d,.slice ad1 c.ex.sub.length cap1,.int .i64 c.d,.slice ad2 c.ds.length cap2,.slice ad c.sub.length cap] 51)) [.slice a l.length cp] 28
   rw [World.size_alloc] at h2
   exact ⟨_,rfl,below_a2 _ _ _,(BoxN.new w _ _).alloc _,h2⟩
  have HCe:Hid (∀ W,Below W0.heap.size W0 W→W.cell? ⟨w.heap.size,11,none⟩=some (.slice ad c.sub.length cap)∧W.cell? ⟨w.heap.size+1,0,none⟩=some (.slice a l.length cp)):=Lib.hid fun W hW =>
   ⟨(be.below hW be.lt).cell (j:=11) rfl,(bs.below hW bs.lt).cell (j:=0) rfl⟩
  have Hb0:=Lib.hid hb0
  have HM:Hid (Calls Tryz.prog 53 #[.agg #[.int .u8 c.ex.k,.string c.ex.ra,.string c.ex.nm,.int .i64 c.ex.d,.slice ad1 c.ex.sub.length cap1],.agg #[.slice a l.length cp]] W0 fun e w' => e = .returned (.bool (menB l c.ex))∧Below W0.heap.size W0 w'):=Lib.hid (mentions_any l a cp hl c.ex.bulk c.ex _ W0 (Nat.le_refl _) hexb (hs.1.frame hb0) (hr.below hb0))
  have H1:Hid (menB l c.ex=true→true=depB l c):=Lib.hid fun h => by rw [depB_eq,h];rfl
  have H2:Hid (∀ (k:Nat) (y:Con),c.sub[k]? = some y→depB l y=true→true=depB l c):=Lib.hid fun k y hy h => by rw [depB_eq,any_hit hy h,Bool.or_true]
  have H3:Hid (menB l c.ex=false→(∀ y ∈ c.sub,depB l y=false)→false=depB l c):=Lib.hid fun h1 h2 => by
   rw [depB_eq,h1,Bool.false_or,eq_comm]
   exact List.any_eq_false.2 fun y hy => by rw [h2 y hy];decide
  obtain ⟨n,hnl⟩:∃ n,l.length=n:=⟨_,rfl⟩
  obtain ⟨q,hq⟩:∃ n,c.sub.length=n:=⟨_,rfl⟩
  have HNq:=Lib.hid hq
  have x4:W0.cell? ⟨w.heap.size,4,none⟩=some (.int .u8 c.ex.k):=be.cell (j:=4) rfl
  have x5:W0.cell? ⟨w.heap.size,5,none⟩=some (.string c.ex.ra):=be.cell (j:=5) rfl
  have x6:W0.cell? ⟨w.heap.size,6,none⟩=some (.string c.ex.nm):=be.cell (j:=6) rfl
  have x7:W0.cell? ⟨w.heap.size,7,none⟩=some (.int .i64 c.ex.d):=be.cell (j:=7) rfl
  have x8:W0.cell? ⟨w.heap.size,8,none⟩=some (.slice ad1 c.ex.sub.length cap1):=be.cell (j:=8) rfl
  rw [hnl] at HCe HI HM hl hW0 ⊢
  rw [hq] at HCe hW0 hn HS ⊢
  generalize depB l c=R at H1 H2 H3 ⊢
  generalize menB l c.ex=g at HM H1 H3
  obtain ⟨_,c5⟩:=HCe.out W0 (Below.refl _ _)
  clear hs hr ih be bs hb0 hlen hnl hq HE hsq1
  unfold Con.val
  go_enter Tryz.func25,Tryz.ntmps25
  go_upto_region 1 with (fail)
  clear hW0
  go_wp2_with fail
  refine HM.out.mono ?_
  rintro e w1 ⟨rfl,hb1⟩
  have Hb1:=Lib.hid (Hb0.out.trans (hb1.mono Hb0.out.size))
  obtain ⟨c11,c5⟩:=HCe.out w1 hb1
  clear HM x4 x5 x6 x7 x8
  cases g with
  | true =>
   have HF:=Lib.hid (H1.out rfl)
   go_wp2
   go_ret
   exact ret_b2 HF.out Hb1.out
  | false =>
   have H4:=Lib.hid (H3.out rfl)
   clear H1 H3
   go_wp2_with fail
   clear c11 c5
   go_loopw [5] (fun i wr => ∃ k:Nat,k≤q∧i = .int .i64 k∧Below W0.heap.size W0 wr∧Hid (∀ y ∈ c.sub.take k,depB l y=false)) (fun i _ => q - (intOf i).toNat)
   case atStart => exact ⟨0,Nat.zero_le _,rfl,hb1,Lib.hid (by simp)⟩
   case round =>
    clear hb1 Hb1
    obtain ⟨k,hk,rfl,hbel,HA⟩:=hrel
    obtain ⟨c11,c5⟩:=HCe.out wr hbel
    by_cases hlt:k < q
    ·obtain ⟨y,hy⟩:∃ y,c.sub[k]? = some y:=⟨_,List.getElem?_eq_getElem (by rw [HNq.out];exact hlt)⟩
     obtain ⟨b,off,es',dd',ss',rfl,⟨d0,d1,d2,d3,d4,d5,d6,d7,d8,d9,d10,d11⟩,hs'⟩:=(HS.out.frame (Hb0.out.trans (hbel.mono Hb0.out.size))).cells hy
     have hym:=Con.mem_lt (List.mem_of_getElem? hy)
     have hblk:b < wr.heap.size:=World.block_lt_of_cell? wr _ d0
     have hk1:(k:Int) < (q:Int):=by omega
     have hk0:(0:Int)≤(k:Int):=by omega
     have HC:Hid (∀ W,Below wr.heap.size wr W→Calls Tryz.prog 25 #[.agg #[.int .u8 y.k,.string y.fr,.string y.rc,.string y.nm,.int .u8 y.ex.k,.string y.ex.ra,.string y.ex.nm,.int .i64 y.ex.d,es',.int .i64 y.d,dd',ss'],.agg #[.slice a n cp]] W fun e w' => e = .returned (.bool (depB l y))∧Below W.heap.size W w'):=Lib.hid fun W hW =>
      HI.out y es' dd' ss' W (by omega) (by omega) (hs'.frame hW) ((HR.out.below (Hb0.out.trans (hbel.mono Hb0.out.size))).below hW)
     have HCl:Hid (∀ W,Below wr.heap.size wr W→W.cell? ⟨w.heap.size,11,none⟩=some (.slice (some ⟨b,off,none⟩) q cap)∧W.cell? ⟨w.heap.size+1,0,none⟩=some (.slice a n cp)∧W.cell? ⟨b,off+k * 12,none⟩=some (.int .u8 y.k)∧W.cell? ⟨b,off+k * 12+1,none⟩=some (.string y.fr)∧W.cell? ⟨b,off+k * 12+2,none⟩=some (.string y.rc)∧W.cell? ⟨b,off+k * 12+3,none⟩=some (.string y.nm)∧W.cell? ⟨b,off+k * 12+4,none⟩=some (.int .u8 y.ex.k)∧W.cell? ⟨b,off+k * 12+5,none⟩=some (.string y.ex.ra)∧W.cell? ⟨b,off+k * 12+6,none⟩=some (.string y.ex.nm)∧W.cell? ⟨b,off+k * 12+7,none⟩=some (.int .i64 y.ex.d)∧W.cell? ⟨b,off+k * 12+8,none⟩=some es'∧W.cell? ⟨b,off+k * 12+9,none⟩=some (.int .i64 y.d)∧W.cell? ⟨b,off+k * 12+10,none⟩=some dd'∧W.cell? ⟨b,off+k * 12+11,none⟩=some ss'):=Lib.hid fun W hW => by
      have h:=HCe.out W (hbel.trans (hW.mono hbel.size))
      have kk:∀ o u,wr.cell? ⟨b,o,none⟩=some u→W.cell? ⟨b,o,none⟩=some u:=fun o u hu => by rw [hW.cell (p:=⟨b,o,none⟩) hblk];exact hu
      exact ⟨h.1,h.2,kk _ _ d0,kk _ _ d1,kk _ _ d2,kk _ _ d3,kk _ _ d4,kk _ _ d5,kk _ _ d6,kk _ _ d7,kk _ _ d8,kk _ _ d9,kk _ _ d10,kk _ _ d11⟩
     have HH:=Lib.hid (H2.out k y hy)
     have HA2:Hid (depB l y=false→∀ y ∈ c.sub.take (k+1),depB l y=false):=Lib.hid fun h => take_step (P:=fun y => depB l y=false) hy HA.out h
     generalize depB l y=g at HC HH HA2
     clear hy hym hs'
     have hd:Below wr.heap.size wr wr.drew:=(Below.refl _ _).drew
     go_wp2_with fail
     go_region_held3 (fun W => W.cell? ⟨w.heap.size,11,none⟩=some (.slice (some ⟨b,off,none⟩) q cap)∧W.cell? ⟨w.heap.size+1,0,none⟩=some (.slice a n cp)∧W.cell? ⟨b,off+k * 12,none⟩=some (.int .u8 y.k)∧W.cell? ⟨b,off+k * 12+1,none⟩=some (.string y.fr)∧W.cell? ⟨b,off+k * 12+2,none⟩=some (.string y.rc)∧W.cell? ⟨b,off+k * 12+3,none⟩=some (.string y.nm)∧W.cell? ⟨b,off+k * 12+4,none⟩=some (.int .u8 y.ex.k)∧W.cell? ⟨b,off+k * 12+5,none⟩=some (.string y.ex.ra)∧W.cell? ⟨b,off+k * 12+6,none⟩=some (.string y.ex.nm)∧W.cell? ⟨b,off+k * 12+7,none⟩=some (.int .i64 y.ex.d)∧W.cell? ⟨b,off+k * 12+8,none⟩=some es'∧W.cell? ⟨b,off+k * 12+9,none⟩=some (.int .i64 y.d)∧W.cell? ⟨b,off+k * 12+10,none⟩=some dd'∧W.cell? ⟨b,off+k * 12+11,none⟩=some ss')
      (first | assumption | exact ⟨by assumption,by assumption,by assumption,by assumption,by assumption,by assumption,by assumption,by assumption,by assumption,by assumption,by assumption,by assumption,by assumption,by assumption⟩ | go_keep)
      (first | (go_at_call 25;refine (HC.out _ hd).mono ?_;rintro e w5 ⟨rfl,hb5⟩;have hb6:=hd.trans hb5;obtain ⟨x0,x1,x2,x3,x4,x5,x6,x7,x8,x9,x10,x11,x12,x13⟩:=HCl.out _ hb6))
     have hbN:=hbel.trans (hb6.mono hbel.size)
     clear hb5 hb6 hd HC HCl x0 x1 x2 x3 x4 x5 x6 x7 x8 x9 x10 x11 x12 x13 d0 d1 d2 d3 d4 d5 d6 d7 d8 d9 d10 d11 c11 c5
     cases g with
     | true =>
      have HF:=Lib.hid (HH.out rfl)
      go_wp2
      go_ret
      exact ret_b2 HF.out (Hb0.out.trans (hbN.mono Hb0.out.size))
     | false =>
      have HA3:=Lib.hid (HA2.out rfl)
      clear HH HA2
      go_wp2
      go_roundw
      case rel => exact ⟨k+1,by omega,by go_num,hbN,HA3⟩
      case measure => simp [intOf];omega
    ·obtain rfl:q=k:=by omega
     have HF:=Lib.hid (H4.out (take_done (P:=fun y => depB l y=false) HNq.out HA.out))
     go_wp2
     go_ret
     exact ret_b2 HF.out (Hb0.out.trans (hbel.mono Hb0.out.size))
end Go.Proofs.YthdeijdimfjceaaGreatDoor
