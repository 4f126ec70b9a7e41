/- A part. -/
import Derived.Test.YthdeijdimfjceaaGreatDoorA10
namespace Go.Proofs.YthdeijdimfjceaaGreatDoor
open Go.RowKit
def mkB (l:List UInt8):ByteArray:=⟨l.toArray⟩
theorem bl_mkB (l:List UInt8):bl (mkB l)=l:=by simp [bl,mkB]
theorem mkB_bl {t:ByteArray} {l:List UInt8} (h:bl t=l):t=mkB l:=bl_inj (by rw [bl_mkB];exact h)
def addZ (s am:ByteArray):Int:=ival (bl (pN s)) * ival (bl (pD am))+ival (bl (pN am)) * ival (bl (pD s))
def subZ (s am:ByteArray):Int:=ival (bl (pN s)) * ival (bl (pD am)) - ival (bl (pN am)) * ival (bl (pD s))
theorem ratTxt_len {sg:Bool} {N D:Nat} (hN:N < ten 1000) (hD:D < ten 1000):(ratTxt sg N D).length≤2010:=by
 have h1:∀ (g:Bool) (n:Nat),n < ten 1000→(istr g n).length≤1002:=fun g n h => by
  by_cases h0:n=0
  ·subst h0;simp [istr]
  ·rw [istr_ne g h0]
   have:=dig10_ten h
   cases g <;> simp [asc] <;> omega
 have a:=h1 sg (N / Nat.gcd N D) (Nat.lt_of_le_of_lt (Nat.div_le_self _ _) hN)
 have b:=h1 false (D / Nat.gcd N D) (Nat.lt_of_le_of_lt (Nat.div_le_self _ _) hD)
 unfold ratTxt
 split
 ·omega
 ·simp only [List.length_append,List.length_singleton];omega
theorem zErr_lt {z:Int} (h:zErr z=0):z.natAbs < ten 1000:=by
 rw [zErr,wErr] at h
 split at h
 ·cases h
 ·rename_i hl
  have h1:z.natAbs < ten (dig10 z.natAbs).length:=by
   have h2:=val_lt (dig10_nrm z.natAbs).1
   rw [dig10_val] at h2
   exact h2
  exact Nat.lt_of_lt_of_le h1 (ten_mono (by omega))
theorem sumS_len (a b:ByteArray) (z:Int):(sumS a b z).length≤2010:=by
 unfold sumS
 split
 ·rename_i h
  unfold sumE at h
  split at h
  ·rename_i h0;exact absurd h h0
  ·split at h
   ·cases h
   ·rename_i h2
    have h3:zErr z=0:=by
     rcases Int.decEq (zErr z) 0 with k | k
     ·exact absurd (.inr (.inr (.inl k))) h2
     ·exact k
    have h4:zErr (ival (bl (pD a)) * ival (bl (pD b)))=0:=by
     rcases Int.decEq (zErr (ival (bl (pD a)) * ival (bl (pD b)))) 0 with k | k
     ·exact absurd (.inr (.inr (.inr k))) h2
     ·exact k
    exact ratTxt_len (zErr_lt h3) (zErr_lt h4)
 ·simp
theorem mkB_size (l:List UInt8):(mkB l).size=l.length:=by rw [← bl_length,bl_mkB]
theorem sumS_err {a b:ByteArray} {z:Int} (h:sumE a b z ≠ 0):sumS a b z=[]:=by rw [sumS,if_neg h]
end Go.Proofs.YthdeijdimfjceaaGreatDoor

namespace Go.Proofs.YthdeijdimfjceaaGreatDoor
open Go.RowKit
def envErr (fs:List Fx) (cs:List Ch):Int :=
 if 1000 < fs.length∨1000 < cs.length then 4
 else if (fs.any fxBad || (cs.any chBad || (!incB Fx.lt fs || !incB Ch.lt cs)))=true then 8 else 0
set_option maxHeartbeats 1000000 in
set_option maxRecDepth 100000 in
theorem checkEnv_any (fs:List Fx) (cs:List Ch) (af ac:Option Addr) (cf cc:Nat) (w:World) (hn:fs.length≤1100000) (hm:cs.length≤1100000)
  (hf:Rd Fx.cells 3 w af fs) (hc:Rd Ch.cells 4 w ac cs) (hfs:∀ f ∈ fs,f.small) (hcs:∀ c ∈ cs,c.small) :
  Calls Tryz.prog 28 #[.agg #[.slice af fs.length cf,.slice ac cs.length cc]] w fun e w' => e = .returned (.int .i64 (envErr fs cs))∧Below w.heap.size w w':=by
 have HF:=Lib.hid (fun W (h:Below w.heap.size w W) => containsFx_any fs af cf W hn (hf.below h) hfs)
 have HC:=Lib.hid (fun W (h:Below w.heap.size w W) => containsCh_any cs ac cc W hm (hc.below h) hcs)
 have HOF:=Lib.hid (fun W (h:Below w.heap.size w W) => orderedFx_any fs af cf W hn (hf.below h))
 have HOC:=Lib.hid (fun W (h:Below w.heap.size w W) => orderedCh_any cs ac cc W hm (hc.below h))
 obtain ⟨E,hE⟩:∃ E,envErr fs cs=E:=⟨_,rfl⟩
 rw [hE]
 unfold envErr at hE
 have HE:=Lib.hid hE
 clear hf hc hfs hcs hE
 have hb0:=fun o => below_a1 w o
 by_cases h1:1000 < fs.length
 ·have d1:decide ((1000:Int) < (fs.length:Int))=true:=by rw [decide_eq_true_eq];omega
  rw [if_pos (.inl h1)] at HE
  clear h1
  go_enter Tryz.func28,Tryz.ntmps28
  go_wp2
  go_ret
  exact ⟨ret_int' HE.out,hb0 _⟩
 ·have d1:decide ((1000:Int) < (fs.length:Int))=false:=by rw [decide_eq_false_iff_not];omega
  by_cases h2:1000 < cs.length
  ·have d2:decide ((1000:Int) < (cs.length:Int))=true:=by rw [decide_eq_true_eq];omega
   rw [if_pos (.inr h2)] at HE
   clear h2 h1
   go_enter Tryz.func28,Tryz.ntmps28
   go_wp2
   go_ret
   exact ⟨ret_int' HE.out,hb0 _⟩
  ·have d2:decide ((1000:Int) < (cs.length:Int))=false:=by rw [decide_eq_false_iff_not];omega
   rw [if_neg (by omega)] at HE
   clear h2 h1
   generalize fs.any fxBad=A at HF HE
   generalize cs.any chBad=B at HC HE
   generalize incB Fx.lt fs=C at HOF HE
   generalize incB Ch.lt cs=D at HOC HE
   cases A with
   | true =>
    simp only [Bool.true_or,if_true] at HE
    go_enter Tryz.func28,Tryz.ntmps28
    go_wp2_with fail
    refine (HF.out _ (hb0 _)).mono ?_
    rintro e w1 ⟨rfl,hb1⟩
    have hw1:Below w.heap.size w w1:=(hb0 _).trans (hb1.mono (by simp))
    have k0:w1.cell? ⟨w.heap.size,0,none⟩=some (.slice af fs.length cf):=by rw [hb1.cell (by simp)];go_simp
    have k1:w1.cell? ⟨w.heap.size,1,none⟩=some (.slice ac cs.length cc):=by rw [hb1.cell (by simp)];go_simp
    have hs1:w.heap.size < w1.heap.size:=by have:=hb1.size;simp at this;omega
    clear hb1
    go_wp2
    go_ret
    exact ⟨ret_int' HE.out,hw1⟩
   | false =>
    cases B with
    | true =>
     simp only [Bool.true_or,Bool.false_or,if_true] at HE
     go_enter Tryz.func28,Tryz.ntmps28
     go_wp2_with fail
     refine (HF.out _ (hb0 _)).mono ?_
     rintro e w1 ⟨rfl,hb1⟩
     have hw1:Below w.heap.size w w1:=(hb0 _).trans (hb1.mono (by simp))
     have k0:w1.cell? ⟨w.heap.size,0,none⟩=some (.slice af fs.length cf):=by rw [hb1.cell (by simp)];go_simp
     have k1:w1.cell? ⟨w.heap.size,1,none⟩=some (.slice ac cs.length cc):=by rw [hb1.cell (by simp)];go_simp
     have hs1:w.heap.size < w1.heap.size:=by have:=hb1.size;simp at this;omega
     clear hb1
     go_wp2_with fail
     refine (HC.out _ hw1).mono ?_
     rintro e w2 ⟨rfl,hb2⟩
     have hw2:Below w.heap.size w w2:=hw1.trans (hb2.mono hw1.size)
     have k0':w2.cell? ⟨w.heap.size,0,none⟩=some (.slice af fs.length cf):=by rw [hb2.cell hs1];exact k0
     have k1':w2.cell? ⟨w.heap.size,1,none⟩=some (.slice ac cs.length cc):=by rw [hb2.cell hs1];exact k1
     have hs2:w.heap.size < w2.heap.size:=by have:=hb2.size;omega
     clear hb2 k0 k1
     have k0:=k0'
     have k1:=k1'
     clear k0' k1'
     go_wp2
     go_ret
     exact ⟨ret_int' HE.out,hw2⟩
    | false =>
     cases C with
     | false =>
      simp only [Bool.true_or,Bool.false_or,Bool.not_false,if_true] at HE
      go_enter Tryz.func28,Tryz.ntmps28
      go_wp2_with fail
      refine (HF.out _ (hb0 _)).mono ?_
      rintro e w1 ⟨rfl,hb1⟩
      have hw1:Below w.heap.size w w1:=(hb0 _).trans (hb1.mono (by simp))
      have k0:w1.cell? ⟨w.heap.size,0,none⟩=some (.slice af fs.length cf):=by rw [hb1.cell (by simp)];go_simp
      have k1:w1.cell? ⟨w.heap.size,1,none⟩=some (.slice ac cs.length cc):=by rw [hb1.cell (by simp)];go_simp
      have hs1:w.heap.size < w1.heap.size:=by have:=hb1.size;simp at this;omega
      clear hb1
      go_wp2_with fail
      refine (HC.out _ hw1).mono ?_
      rintro e w2 ⟨rfl,hb2⟩
      have hw2:Below w.heap.size w w2:=hw1.trans (hb2.mono hw1.size)
      have k0':w2.cell? ⟨w.heap.size,0,none⟩=some (.slice af fs.length cf):=by rw [hb2.cell hs1];exact k0
      have k1':w2.cell? ⟨w.heap.size,1,none⟩=some (.slice ac cs.length cc):=by rw [hb2.cell hs1];exact k1
      have hs2:w.heap.size < w2.heap.size:=by have:=hb2.size;omega
      clear hb2 k0 k1
      have k0:=k0'
      have k1:=k1'
      clear k0' k1'
      go_wp2_with fail
      refine (HOF.out _ hw2).mono ?_
      rintro e w3 ⟨rfl,hb3⟩
      have hw3:Below w.heap.size w w3:=hw2.trans (hb3.mono hw2.size)
      have k0':w3.cell? ⟨w.heap.size,0,none⟩=some (.slice af fs.length cf):=by rw [hb3.cell hs2];exact k0
      have k1':w3.cell? ⟨w.heap.size,1,none⟩=some (.slice ac cs.length cc):=by rw [hb3.cell hs2];exact k1
      have hs3:w.heap.size < w3.heap.size:=by have:=hb3.size;omega
      clear hb3 k0 k1
      have k0:=k0'
      have k1:=k1'
      clear k0' k1'
      go_wp2
      go_ret
      exact ⟨ret_int' HE.out,hw3⟩
     | true =>
      cases D with
      | false =>
       simp only [Bool.false_or,Bool.not_false,Bool.not_true,if_true] at HE
       go_enter Tryz.func28,Tryz.ntmps28
       go_wp2_with fail
       refine (HF.out _ (hb0 _)).mono ?_
       rintro e w1 ⟨rfl,hb1⟩
       have hw1:Below w.heap.size w w1:=(hb0 _).trans (hb1.mono (by simp))
       have k0:w1.cell? ⟨w.heap.size,0,none⟩=some (.slice af fs.length cf):=by rw [hb1.cell (by simp)];go_simp
       have k1:w1.cell? ⟨w.heap.size,1,none⟩=some (.slice ac cs.length cc):=by rw [hb1.cell (by simp)];go_simp
       have hs1:w.heap.size < w1.heap.size:=by have:=hb1.size;simp at this;omega
       clear hb1
       go_wp2_with fail
       refine (HC.out _ hw1).mono ?_
       rintro e w2 ⟨rfl,hb2⟩
       have hw2:Below w.heap.size w w2:=hw1.trans (hb2.mono hw1.size)
       have k0':w2.cell? ⟨w.heap.size,0,none⟩=some (.slice af fs.length cf):=by rw [hb2.cell hs1];exact k0
       have k1':w2.cell? ⟨w.heap.size,1,none⟩=some (.slice ac cs.length cc):=by rw [hb2.cell hs1];exact k1
       have hs2:w.heap.size < w2.heap.size:=by have:=hb2.size;omega
       clear hb2 k0 k1
       have k0:=k0'
       have k1:=k1'
       clear k0' k1'
       go_wp2_with fail
       refine (HOF.out _ hw2).mono ?_
       rintro e w3 ⟨rfl,hb3⟩
       have hw3:Below w.heap.size w w3:=hw2.trans (hb3.mono hw2.size)
       have k0':w3.cell? ⟨w.heap.size,0,none⟩=some (.slice af fs.length cf):=by rw [hb3.cell hs2];exact k0
       have k1':w3.cell? ⟨w.heap.size,1,none⟩=some (.slice ac cs.length cc):=by rw [hb3.cell hs2];exact k1
       have hs3:w.heap.size < w3.heap.size:=by have:=hb3.size;omega
       clear hb3 k0 k1
       have k0:=k0'
       have k1:=k1'
       clear k0' k1'
       go_wp2_with fail
       refine (HOC.out _ hw3).mono ?_
       rintro e w4 ⟨rfl,hb4⟩
       have hw4:Below w.heap.size w w4:=hw3.trans (hb4.mono hw3.size)
       have k0':w4.cell? ⟨w.heap.size,0,none⟩=some (.slice af fs.length cf):=by rw [hb4.cell hs3];exact k0
       have k1':w4.cell? ⟨w.heap.size,1,none⟩=some (.slice ac cs.length cc):=by rw [hb4.cell hs3];exact k1
       have hs4:w.heap.size < w4.heap.size:=by have:=hb4.size;omega
       clear hb4 k0 k1
       have k0:=k0'
       have k1:=k1'
       clear k0' k1'
       go_wp2
       go_ret
       exact ⟨ret_int' HE.out,hw4⟩
      | true =>
       simp only [Bool.false_or,Bool.not_true,Bool.false_eq_true,if_false] at HE
       go_enter Tryz.func28,Tryz.ntmps28
       go_wp2_with fail
       refine (HF.out _ (hb0 _)).mono ?_
       rintro e w1 ⟨rfl,hb1⟩
       have hw1:Below w.heap.size w w1:=(hb0 _).trans (hb1.mono (by simp))
       have k0:w1.cell? ⟨w.heap.size,0,none⟩=some (.slice af fs.length cf):=by rw [hb1.cell (by simp)];go_simp
       have k1:w1.cell? ⟨w.heap.size,1,none⟩=some (.slice ac cs.length cc):=by rw [hb1.cell (by simp)];go_simp
       have hs1:w.heap.size < w1.heap.size:=by have:=hb1.size;simp at this;omega
       clear hb1
       go_wp2_with fail
       refine (HC.out _ hw1).mono ?_
       rintro e w2 ⟨rfl,hb2⟩
       have hw2:Below w.heap.size w w2:=hw1.trans (hb2.mono hw1.size)
       have k0':w2.cell? ⟨w.heap.size,0,none⟩=some (.slice af fs.length cf):=by rw [hb2.cell hs1];exact k0
       have k1':w2.cell? ⟨w.heap.size,1,none⟩=some (.slice ac cs.length cc):=by rw [hb2.cell hs1];exact k1
       have hs2:w.heap.size < w2.heap.size:=by have:=hb2.size;omega
       clear hb2 k0 k1
       have k0:=k0'
       have k1:=k1'
       clear k0' k1'
       go_wp2_with fail
       refine (HOF.out _ hw2).mono ?_
       rintro e w3 ⟨rfl,hb3⟩
       have hw3:Below w.heap.size w w3:=hw2.trans (hb3.mono hw2.size)
       have k0':w3.cell? ⟨w.heap.size,0,none⟩=some (.slice af fs.length cf):=by rw [hb3.cell hs2];exact k0
       have k1':w3.cell? ⟨w.heap.size,1,none⟩=some (.slice ac cs.length cc):=by rw [hb3.cell hs2];exact k1
       have hs3:w.heap.size < w3.heap.size:=by have:=hb3.size;omega
       clear hb3 k0 k1
       have k0:=k0'
       have k1:=k1'
       clear k0' k1'
       go_wp2_with fail
       refine (HOC.out _ hw3).mono ?_
       rintro e w4 ⟨rfl,hb4⟩
       have hw4:Below w.heap.size w w4:=hw3.trans (hb4.mono hw3.size)
       have k0':w4.cell? ⟨w.heap.size,0,none⟩=some (.slice af fs.length cf):=by rw [hb4.cell hs3];exact k0
       have k1':w4.cell? ⟨w.heap.size,1,none⟩=some (.slice ac cs.length cc):=by rw [hb4.cell hs3];exact k1
       have hs4:w.heap.size < w4.heap.size:=by have:=hb4.size;omega
       clear hb4 k0 k1
       have k0:=k0'
       have k1:=k1'
       clear k0' k1'
       go_wp2
       go_ret
       exact ⟨ret_int' HE.out,hw4⟩
end Go.Proofs.YthdeijdimfjceaaGreatDoor

namespace Go.Proofs.YthdeijdimfjceaaGreatDoor
open Go.RowKit
def op2 (k:Nat) (a b:ByteArray):Int × ByteArray :=
 if k=4 then (sumE a b (addZ a b),mkB (sumS a b (addZ a b)))
 else if k=5 then (sumE a b (subZ a b),mkB (sumS a b (subZ a b)))
 else if k=6 then (mulE a b,mkB (mulS a b))
 else if k=7 then (cmpE a b,if cmpV a b < 0 then b else a)
 else (cmpE b a,if cmpV b a < 0 then b else a)
def fixR (F:List Fx) (nm:ByteArray) (d:Int):Int × ByteArray :=
 match F.find? (fxIs ⟨nm,d,⟨#[]⟩⟩) with
 | some f => (0,f.vl)
 | none => (30,ByteArray.empty)
def chosenB (C:List Ch) (pt nm:ByteArray) (d:Int):Bool:=chsB (C.find? (chIs ⟨pt,nm,d,false⟩))
def andR {α β:Type} (a:Int × α) (z:β) (f:α→Int × β):Int × β:=if a.1 ≠ 0 then (a.1,z) else f a.2
mutual
def Ex.value (F:List Fx) (day:Int):Ex→Int × ByteArray
 | .mk k ra nm d l =>
  if k=1 then (0,ra) else if k=2 then fixR F nm d else if k=3 then fixR F nm day
  else match l with
   | [p,x,y] => andR (Ex.hold F day p) ByteArray.empty fun b => if b=true then Ex.value F day x else Ex.value F day y
   | [x,y] => andR (Ex.value F day x) ByteArray.empty fun a => andR (Ex.value F day y) ByteArray.empty fun b => op2 k a b
   | _ => (0,ByteArray.empty)
def Ex.hold (F:List Fx) (day:Int):Ex→Int × Bool
 | .mk k _ _ _ l =>
  match l with
  | [x] => andR (Ex.hold F day x) false fun b => (0,!b)
  | [x,y] =>
   if k=13 then andR (Ex.hold F day x) false fun b => if b=true then Ex.hold F day y else (0,false)
   else if k=14 then andR (Ex.hold F day x) false fun b => if b=true then (0,true) else Ex.hold F day y
   else andR (Ex.value F day x) false fun a => andR (Ex.value F day y) false fun b => (cmpE a b,if k=11 then decide (cmpV a b < 0) else decide (cmpV a b=0))
  | _ => (0,false)
end
noncomputable def begE (x:Ex) (want:Nat) (day:Int) (F:List Fx) (C:List Ch):Int :=
 if x.err ≠ 0 then x.err else if x.sort ≠ want then 32 else if envErr F C ≠ 0 then envErr F C else if isDay day=true then 0 else 2
def cleanR {α:Type} (z:α) (r:Int × α):Int × α:=if r.1 ≠ 0 then (r.1,z) else r
noncomputable def valR (x:Ex) (day:Int) (F:List Fx) (C:List Ch):Int × ByteArray:=if begE x 1 day F C ≠ 0 then (begE x 1 day F C,ByteArray.empty) else cleanR ByteArray.empty (x.value F day)
noncomputable def holdR (x:Ex) (day:Int) (F:List Fx) (C:List Ch):Int × Bool:=if begE x 2 day F C ≠ 0 then (begE x 2 day F C,false) else cleanR false (x.hold F day)
end Go.Proofs.YthdeijdimfjceaaGreatDoor

namespace Go.Proofs.YthdeijdimfjceaaGreatDoor
open Go.RowKit
def BoxN (W:World) (B:Nat) (t:TypeId) (cs:List Value):Prop:=W.heap[B]? = some (.cells cs.toArray t (0,0))
section
variable {W W':World} {B:Nat} {t:TypeId} {cs:List Value}
theorem BoxN.lt (h:BoxN W B t cs):B < W.heap.size:=(Array.getElem?_eq_some_iff.1 h).1
theorem BoxN.cell (h:BoxN W B t cs) {j:Nat} {u:Value} (hj:cs[j]? = some u):W.cell? ⟨B,j,none⟩=some u:=by
 simp [World.cell?,show W.heap[B]? = _ from h,hj]
theorem BoxN.frozen (h:BoxN W B t cs) (o:Nat):W.frozen? ⟨B,o,none⟩=false:=by simp [World.frozen?,show W.heap[B]? = _ from h]
theorem BoxN.of_block (h:BoxN W B t cs) (e:W'.heap[B]? = W.heap[B]?):BoxN W' B t cs:=e.trans h
theorem BoxN.new (w:World) (cs:List Value) (t:TypeId):BoxN (w.alloc (.cells cs.toArray t)) w.heap.size t cs:=by
 show (w.heap.push _)[w.heap.size]? = _
 simp
theorem BoxN.alloc (h:BoxN W B t cs) (o:Obj):BoxN (W.alloc o) B t cs:=h.of_block (Below.heap_alloc _ _ _ h.lt)
theorem BoxN.below {B0:Nat} (h:BoxN W B t cs) (hb:Below B0 W W') (hB:B < B0):BoxN W' B t cs:=h.of_block (hb.block _ hB)
theorem BoxN.set (h:BoxN W B t cs) (j:Nat) (x:Value):BoxN (W.setCell ⟨B,j,none⟩ x) B t (cs.set j x):=by
 have e:=heap_set_same h j x
 unfold BoxN
 rw [e]
 simp
theorem BoxN.far (h:BoxN W B t cs) {a:Addr} (ha:B ≠ a.block) (x:Value):BoxN (W.setCell a x) B t cs:=h.of_block (Below.heap_setCell _ _ _ _ ha)
end
theorem Boxed2.far {W:World} {B:Nat} {t:TypeId} {u v:Value} (h:Boxed2 W B t u v) {a:Addr} (ha:B ≠ a.block) (x:Value):Boxed2 (W.setCell a x) B t u v:=h.of_block (Below.heap_setCell _ _ _ _ ha)
theorem Boxed2.low {W W':World} {B B0:Nat} {t:TypeId} {u v:Value} (h:Boxed2 W B t u v) (hb:Below B0 W W') (hB:B < B0):Boxed2 W' B t u v:=h.of_block (hb.block _ hB)
theorem Boxed2.n {W:World} {B:Nat} {t:TypeId} {u v:Value} (h:Boxed2 W B t u v):BoxN W B t [u,v]:=h
theorem BoxN.two {W:World} {B:Nat} {t:TypeId} {u v:Value} (h:BoxN W B t [u,v]):Boxed2 W B t u v:=h
end Go.Proofs.YthdeijdimfjceaaGreatDoor

namespace Go.Proofs.YthdeijdimfjceaaGreatDoor
open Go.RowKit
set_option maxHeartbeats 4000000 in
set_option maxRecDepth 100000 in
theorem ratadd_any (a b:ByteArray) (w:World) (ha:a.size≤1000000) (hb:b.size≤1000000) :
  Calls Tryz.prog 23 #[.string a,.string b] w (RatPost2 w (sumS a b ((ival (bl (pN a)) * ival (bl (pD b)))+(ival (bl (pN b)) * ival (bl (pD a))))) (sumE a b ((ival (bl (pN a)) * ival (bl (pD b)))+(ival (bl (pN b)) * ival (bl (pD a)))))):=by
 have HB:=Lib.hid (both_ab a b w (by omega) (by omega))
 have Hs:=Lib.hid (part_sizes a b ha hb)
 clear ha hb
 go_enter Tryz.func23,Tryz.ntmps23
 go_wp2_with fail
 refine HB.out.mono ?_
 rintro e w1 ⟨P,rfl,hP,hp,hb1⟩
 go_wp2_with fail
 refine (keepr_any P 50 w1).mono ?_
 rintro e w2 ⟨rfl,hm,hb2⟩
 go_wp2_with fail
 refine (keepr_any P 51 w2).mono ?_
 rintro e w3 ⟨rfl,hk,hb3⟩
 obtain ⟨Bm,hBm⟩:∃ B,B=w1.heap.size:=⟨_,rfl⟩
 obtain ⟨Ba,hBa⟩:∃ B,B=w2.heap.size:=⟨_,rfl⟩
 rw [← hBm] at hm ⊢
 rw [← hBa] at hk ⊢
 obtain ⟨n0,hn0⟩:∃ n,n=pN a:=⟨_,rfl⟩
 obtain ⟨n1,hn1⟩:∃ n,n=bN1 a b:=⟨_,rfl⟩
 obtain ⟨d0,hd0⟩:∃ n,n=pD a:=⟨_,rfl⟩
 obtain ⟨d1,hd1⟩:∃ n,n=bD1 a b:=⟨_,rfl⟩
 rw [← hn0,← hn1,← hd0,← hd1] at hp Hs
 have HN:=Lib.hid (And.intro hn0 (And.intro hn1 (And.intro hd0 hd1)))
 clear hn0 hn1 hd0 hd1
 obtain ⟨z0,z1,z2,z3⟩:=Hs.out
 have st0:PSt w w3.drew P Bm Ba 50 51 n0 n1 d0 d1 (bE a b):=PSt.drew ⟨(hp.below hb2).below hb3,hm.below hb3,hk,(hb1.trans (hb2.mono hb1.size)).trans (hb3.mono (Nat.le_trans hb1.size hb2.size)),hP⟩
 have p:=(hp.below hb2).below hb3
 obtain ⟨h0,h1,h2,h3,_⟩:=p.cells
 clear p hp hm hk hb1 hb2 hb3 hBm hBa hP HB Hs
 obtain ⟨e0,he0⟩:∃ e,e=bE a b:=⟨_,rfl⟩
 rw [← he0] at st0
 have HE0:=Lib.hid he0
 clear he0
 have HM:Hid (∀ W er x y,PSt w W P Bm Ba 50 51 n0 n1 d0 d1 er→x.size≤1100000→y.size≤1100000→Calls Tryz.prog 89 #[.string x,.string y,.pointer (some ⟨Bm,0,none⟩),.pointer (some ⟨Bm+1,0,none⟩)] W fun e w' => ∃ t er',e = .returned (.string t)∧Hid (StepR (bl x) (bl y) (ival (bl x) * ival (bl y)) er (bl t) er')∧PSt w w' P Bm Ba 50 51 n0 n1 d0 d1 er'∧t.size≤1100000∧w'.cell? ⟨P,0,none⟩=some (.string n0)∧w'.cell? ⟨P,1,none⟩=some (.string n1)∧w'.cell? ⟨P,2,none⟩=some (.string d0)∧w'.cell? ⟨P,3,none⟩=some (.string d1)):=by
  intro W er x y hst hx hy
  refine (pst_mul hst x y hx hy).mono ?_
  rintro e w' ⟨t,er',rfl,hr,hst'⟩
  obtain ⟨c0,c1,c2,c3,_⟩:=hst'.p.cells
  exact ⟨t,er',rfl,hr,hst',by have:=hr.out.len;rw [← bl_length];omega,c0,c1,c2,c3⟩
 have HO:Hid (∀ W er x y,PSt w W P Bm Ba 50 51 n0 n1 d0 d1 er→x.size≤1100000→y.size≤1100000→Calls Tryz.prog 89 #[.string x,.string y,.pointer (some ⟨Ba,0,none⟩),.pointer (some ⟨Ba+1,0,none⟩)] W fun e w' => ∃ t er',e = .returned (.string t)∧Hid (StepR (bl x) (bl y) (ival (bl x)+ival (bl y)) er (bl t) er')∧PSt w w' P Bm Ba 50 51 n0 n1 d0 d1 er'∧t.size≤1100000∧w'.cell? ⟨P,0,none⟩=some (.string n0)∧w'.cell? ⟨P,1,none⟩=some (.string n1)∧w'.cell? ⟨P,2,none⟩=some (.string d0)∧w'.cell? ⟨P,3,none⟩=some (.string d1)):=by
  intro W er x y hst hx hy
  refine (pst_add hst x y hx hy).mono ?_
  rintro e w' ⟨t,er',rfl,hr,hst'⟩
  obtain ⟨c0,c1,c2,c3,_⟩:=hst'.p.cells
  exact ⟨t,er',rfl,hr,hst',by have:=hr.out.len;rw [← bl_length];omega,c0,c1,c2,c3⟩
 have HD:Hid (∀ W er x y,PSt w W P Bm Ba 50 51 n0 n1 d0 d1 er→x.size≤1100000→y.size≤1100000→(er=0→intErr (bl x)=0∧intErr (bl y)=0∧dval (body (bl y)) ≠ 0)→Calls Tryz.prog 52 #[.pointer (some ⟨P,0,none⟩),.string x,.string y] W fun e w' => ∃ s er2,e = .returned (.tuple #[.string s,.int .i64 er2])∧Hid (MadeR (bl x) (bl y) er (bl s) er2)∧Below w.heap.size w w'∧w'.cell? ⟨P,0,none⟩=some (.string n0)∧w'.cell? ⟨P,1,none⟩=some (.string n1)∧w'.cell? ⟨P,2,none⟩=some (.string d0)∧w'.cell? ⟨P,3,none⟩=some (.string d1)):=by
  intro W er x y hst hx hy hpre
  have hcc:=fun W' (hb:Below W.heap.size W W') => (hst.p.below hb).cells
  by_cases he:er=0
  ·subst he
   obtain ⟨i1,i2,i3⟩:=hpre rfl
   refine (made_ok x y P n0 n1 d0 d1 W hst.p _ (Lib.hid fun W' => make_ok x y W' hx hy i1 i2 i3)).mono ?_
   rintro e w' ⟨s,rfl,hs,hb⟩
   obtain ⟨c0,c1,c2,c3,_⟩:=hcc _ hb
   exact ⟨s,0,rfl,.inr ⟨rfl,rfl,hs⟩,hst.b.trans (hb.mono hst.b.size),c0,c1,c2,c3⟩
  ·refine (made_err x y P n0 n1 d0 d1 er W hst.p he).mono ?_
   rintro e w' ⟨rfl,hb⟩
   obtain ⟨c0,c1,c2,c3,_⟩:=hcc _ hb
   exact ⟨_,er,rfl,.inl ⟨he,rfl,rfl⟩,hst.b.trans (hb.mono hst.b.size),c0,c1,c2,c3⟩
 have HC:Hid (∀ t1 t2 t3 t4 e1 e2 e3 e4,StepR (bl n0) (bl d1) (ival (bl n0) * ival (bl d1)) e0 t1 e1→StepR (bl n1) (bl d0) (ival (bl n1) * ival (bl d0)) e1 t2 e2→StepR t1 t2 (ival t1+ival t2) e2 t3 e3→StepR (bl d0) (bl d1) (ival (bl d0) * ival (bl d1)) e3 t4 e4→Chain a b (fun x y => x+y) t1 t2 t3 t4 e1 e2 e3 e4):=by
  obtain ⟨q1,q2,q3,q4⟩:=HN.out
  have q5:=HE0.out
  subst q1 q2 q3 q4 q5
  exact fun _ _ _ _ _ _ _ _ r1 r2 r3 r4 => ⟨r1,r2,r3,r4⟩
 clear HN HE0
 go_wp2_with fail
 go_region_held3 (fun w' => w'.cell? ⟨P,0,none⟩=some (.string n0)∧w'.cell? ⟨P,1,none⟩=some (.string n1)∧w'.cell? ⟨P,2,none⟩=some (.string d0)∧w'.cell? ⟨P,3,none⟩=some (.string d1))
  (first | assumption | exact ⟨by assumption,by assumption,by assumption,by assumption⟩ | go_keep)
  (first | (go_at_call 89;first | (refine (HM.out _ _ _ _ st3 z2 z3).mono ?_;rintro e w7 ⟨t4,e4,rfl,r4,st4,l4,p0,p1,p2,p3⟩) | (refine (HO.out _ _ _ _ st2 l1 l2).mono ?_;rintro e w6 ⟨t3,e3,rfl,r3,st3,l3,p0,p1,p2,p3⟩) | (refine (HM.out _ _ _ _ st1 z1 z2).mono ?_;rintro e w5 ⟨t2,e2,rfl,r2,st2,l2,p0,p1,p2,p3⟩) | (refine (HM.out _ _ _ _ st0 z0 z3).mono ?_;rintro e w4 ⟨t1,e1,rfl,r1,st1,l1,p0,p1,p2,p3⟩)) | (go_at_call 52;refine (HD.out _ _ _ _ st4 l3 l4 (fun h => by obtain ⟨h1,h2,h3,_⟩:=((HC.out _ _ _ _ _ _ _ _ r1.out r2.out r3.out r4.out).done).2 h;exact ⟨h1,h2,h3⟩)).mono ?_;rintro e w8 ⟨s,e5,rfl,r5,hbz,p0,p1,p2,p3⟩))
 have HF:Hid (RatPost2 w (sumS a b ((ival (bl (pN a)) * ival (bl (pD b)))+(ival (bl (pN b)) * ival (bl (pD a))))) (sumE a b ((ival (bl (pN a)) * ival (bl (pD b)))+(ival (bl (pN b)) * ival (bl (pD a))))) (.returned (.tuple #[.string s,.int .i64 e5])) w8):=by
  have hc:=(HC.out _ _ _ _ _ _ _ _ r1.out r2.out r3.out r4.out).done
  rcases r5.out with ⟨h1,h2,rfl⟩ | ⟨h1,rfl,h2⟩
  ·have hne:sumE a b ((ival (bl (pN a)) * ival (bl (pD b)))+(ival (bl (pN b)) * ival (bl (pD a)))) ≠ 0:=by rw [← hc.1];exact h1
   refine ⟨s,?_,?_,hbz⟩
   ·rw [hc.1]
   ·rw [sumS,if_neg hne];exact h2
  ·refine ⟨s,?_,?_,hbz⟩
   ·rw [← hc.1,h1]
   ·rw [h2];exact (hc.2 h1).2.2.2.2
 clear HC HD HO HM r1 r2 r3 r4 r5 st0 st1 st2 st3 st4
 go_wp2
 go_ret2
 exact HF.out
end Go.Proofs.YthdeijdimfjceaaGreatDoor

namespace Go.Proofs.YthdeijdimfjceaaGreatDoor
open Go.RowKit
set_option maxHeartbeats 2000000 in
set_option maxRecDepth 100000 in
theorem keep1_sub (a b:ByteArray) (P B:Nat) (n0 n1 d0 d1:ByteArray) (w:World) (hc:Cap w P B 73) (hp:Pair5 w P n0 n1 d0 d1 0) (Q:ByteArray→Int→Prop)
  (HO:Hid (∀ W,Calls Tryz.prog 73 #[.string a,.string b] W fun e w' => ∃ t er,e = .returned (.tuple #[.string t,.int .i64 er])∧Hid (Q t er)∧Below W.heap.size W w')) :
  Calls Tryz.prog 89 #[.string a,.string b,.pointer (some ⟨B,0,none⟩),.pointer (some ⟨B+1,0,none⟩)] w (KPost w P Q):=by
 obtain ⟨c1,c2⟩:=hc.cells
 have q4:=hp.cells.2.2.2.2
 have HZ:Hid (∀ W,Below w.heap.size w W→W.cell? ⟨B,0,none⟩=some (.pointer (some ⟨P,0,none⟩))∧W.cell? ⟨B+1,0,none⟩=some (.func (.func 73) #[] #[])∧W.cell? ⟨P,4,none⟩=some (.int .i64 0)∧W.frozen? ⟨P,4,none⟩=false) :=
  fun W hb => ⟨(hc.below hb).cells.1,(hc.below hb).cells.2,(hp.below hb).cells.2.2.2.2,(hp.below hb).frozen 4⟩
 have hne:=hc.ne hp
 have Hne:=Lib.hid hne
 clear hne
 clear hc hp
 go_enter Tryz.func89,Tryz.ntmps89
 go_wp2_with fail
 have hne:=Hne.out
 have hb0:Below w.heap.size w w.drew:=Below.drew (Below.refl _ _)
 go_region_held3 (fun w' => w'.cell? ⟨B,0,none⟩=some (.pointer (some ⟨P,0,none⟩))∧w'.cell? ⟨B+1,0,none⟩=some (.func (.func 73) #[] #[]))
  (first | assumption | exact ⟨by assumption,by assumption⟩ | (refine ⟨?_,?_⟩ <;> (rw [World.cell?_setCell_far _ _ _ _ (by first | exact hne.1 | exact hne.2)];assumption)) | go_keep)
  (first | (go_at_call 73;refine (HO.out _).mono ?_;rintro e w2 ⟨t,er,rfl,hq,hb2⟩;have hb3:=hb0.trans hb2;obtain ⟨p1,p2,p3,p4⟩:=HZ.out _ hb3))
 have HF:Hid (KPost w P Q (.returned (.string t)) (w2.setCell ⟨P,4,none⟩ (.int .i64 er))):=⟨t,er,w2,rfl,hq,hb3,rfl⟩
 clear hq hb3 hb2 p1 p2 p3 p4
 go_wp2
 go_ret
 exact HF.out
end Go.Proofs.YthdeijdimfjceaaGreatDoor

namespace Go.Proofs.YthdeijdimfjceaaGreatDoor
open Go.RowKit
set_option maxHeartbeats 1000000 in
set_option maxRecDepth 100000 in
theorem isub_err (a b:ByteArray) (w:World) (er:Int) (h:er ≠ 0) (C:∀ W,Calls Tryz.prog 90 #[.string a,.string b] W (PairErr W er)) :
  Calls Tryz.prog 73 #[.string a,.string b] w (GcdErr w er):=by
 have HC:=Lib.hid C
 have h2:(er != 0)=true:=by rw [bne_iff_ne];exact h
 clear C h
 go_enter Tryz.func73,Tryz.ntmps73
 go_wp2_with fail
 refine (HC.out _).mono ?_
 rintro e w' ⟨rfl,hbel⟩
 go_wp2
 go_ret2
 exact ⟨rfl,(hbel.alloc hbel.size _).alloc (by have:=hbel.size;simp;omega) _⟩
set_option maxHeartbeats 2000000 in
set_option maxRecDepth 100000 in
theorem isub_ok (a b:ByteArray) (w:World) (ha:a.size≤9223372036854775807) (hb:b.size≤9223372036854775807) (h0:intErr (bl a)=0) (h:intErr (bl b)=0) :
  Calls Tryz.prog 73 #[.string a,.string b] w (IntPost w (ival (bl a) - ival (bl b))):=by
 have HC:=Lib.hid (fun W => pair_ok a b W ha hb h0 h)
 have HA:=Lib.hid (dval_body_lt h0)
 have HB:=Lib.hid (dval_body_lt h)
 clear ha hb h0 h
 go_enter Tryz.func73,Tryz.ntmps73
 go_wp2_with fail
 refine (HC.out _).mono ?_
 rintro e w1 ⟨va,vb,xs,ys,rfl,sa,sb,nx,ny,vx,vy,hb1⟩
 rw [← vx] at HA
 rw [← vy] at HB
 have HVa:Hid (ival (bl a)=sgnv (isNeg (bl a)) (val 1000000000 xs)):=by show _=_;rw [ival,vx]
 have HVb:Hid (ival (bl b)=sgnv (isNeg (bl b)) (val 1000000000 ys)):=by show _=_;rw [ival,vy]
 clear vx vy HC
 generalize isNeg (bl a)=na at *
 generalize isNeg (bl b)=nb at *
 obtain ⟨aa,ca,rfl,_⟩:=id sa
 obtain ⟨ab,cb,rfl,_⟩:=id sb
 have hb0:Below w1.heap.size w1 ((w1.alloc (.cells #[.bool na,.slice aa xs.length ca] 148)).alloc (.cells #[.bool nb,.slice ab ys.length cb] 148)):=below_a2 _ _ _
 have bx:Boxed2 ((w1.alloc (.cells #[.bool na,.slice aa xs.length ca] 148)).alloc (.cells #[.bool nb,.slice ab ys.length cb] 148)) w1.heap.size 148 (.bool na) (.slice aa xs.length ca):=(Boxed2.new _ _ _ _).alloc _
 have by1:Boxed2 ((w1.alloc (.cells #[.bool na,.slice aa xs.length ca] 148)).alloc (.cells #[.bool nb,.slice ab ys.length cb] 148)) (w1.heap.size+1) 148 (.bool nb) (.slice ab ys.length cb):=by
  have h:=Boxed2.new (w1.alloc (.cells #[.bool na,.slice aa xs.length ca] 148)) (.bool nb) (.slice ab ys.length cb) 148
  simp at h
  exact h
 have hbW:=hb1.trans (hb0.mono hb1.size)
 have sa0:=Lib.hid (sa.below hb0)
 have sb0:=Lib.hid (sb.below hb0)
 have lx:=grp_len nx HA.out
 have ly:=grp_len ny HB.out
 have x0:=bx.cell0
 have x1:=bx.cell1
 have y0:=by1.cell0
 have y1:=by1.cell1
 have BY:=Lib.hid by1
 have hb1x:=hb1
 clear bx by1 hb0 hb1
 have Sa:=Lib.hid sa
 have Sb:=Lib.hid sb
 have HB1:=Lib.hid hb1x
 clear sa sb hb1x hbW sa0 sb0
 cases nb
 case false =>
  have hb0:Below w1.heap.size w1 ((w1.alloc (.cells #[.bool na,.slice aa xs.length ca] 148)).alloc (.cells #[.bool (decide (0 < ys.length)),.slice ab ys.length cb] 148)):=below_a2 _ _ _
  have hbW:=HB1.out.trans (hb0.mono HB1.out.size)
  have HS:=Lib.hid (sum_any na (decide (0 < ys.length)) _ _ xs ys ((w1.alloc (.cells #[.bool na,.slice aa xs.length ca] 148)).alloc (.cells #[.bool (decide (0 < ys.length)),.slice ab ys.length cb] 148)) (Sa.out.below hb0) (Sb.out.below hb0) nx ny (by omega) (by omega))
  have hneg:Hid (sgnv (decide (0 < ys.length)) (val 1000000000 ys) = -(sgnv false (val 1000000000 ys))):=by
   show _=_
   rw [show decide (0 < ys.length)=(true && decide (0 < ys.length)) by simp,sgnv_cut _ _ _ (by rw [ny.val_zero (by decide),List.length_eq_zero_iff])]
   simp [sgnv]
  clear nx ny hb0
  go_wp2_with fail
  refine HS.out.mono ?_
  rintro e w2 ⟨neg,v,rs,rfl,sv,hn,hv,hb2⟩
  have hlen:rs.length≤100000:=by
   have:=sum_len hv hn HA.out HB.out;omega
  have HW:=Lib.hid (write_any neg v rs w2 sv hn hlen)
  rw [hneg.out,← Int.sub_eq_add_neg] at hv
  clear HS x0 x1 y0 y1 sv hlen
  go_wp2_with fail
  refine HW.out.mono ?_
  rintro e w3 ⟨t,rfl,ht,hb3⟩
  have hE:Hid (wErr (val 1000000000 rs)=zErr (sgnv na (val 1000000000 xs) - sgnv false (val 1000000000 ys))):=by show _=_;rw [← hv];exact wErr_sgnv _ _
  have hS:Hid (wStr neg (val 1000000000 rs)=zStr (sgnv na (val 1000000000 xs) - sgnv false (val 1000000000 ys))):=by show _=_;rw [← hv];exact wStr_sgnv _ _
  have hbz:=hbW.trans ((hb2.mono hbW.size).trans (hb3.mono (Nat.le_trans hbW.size hb2.size)))
  rw [hE.out]
  rw [hS.out] at ht
  have Ht:=Lib.hid ht
  clear hE hS ht hv
  go_wp2
  go_ret2
  rw [HVa.out,HVb.out]
  exact ⟨t,rfl,Ht.out,hbz⟩
 case true =>
  have hb0:Below w1.heap.size w1 ((w1.alloc (.cells #[.bool na,.slice aa xs.length ca] 148)).alloc (.cells #[.bool false,.slice ab ys.length cb] 148)):=below_a2 _ _ _
  have hbW:=HB1.out.trans (hb0.mono HB1.out.size)
  have HS:=Lib.hid (sum_any na false _ _ xs ys ((w1.alloc (.cells #[.bool na,.slice aa xs.length ca] 148)).alloc (.cells #[.bool false,.slice ab ys.length cb] 148)) (Sa.out.below hb0) (Sb.out.below hb0) nx ny (by omega) (by omega))
  have hneg:Hid (sgnv false (val 1000000000 ys) = -(sgnv true (val 1000000000 ys))):=by
   show _=_
   simp [sgnv]
  clear nx ny hb0
  go_wp2_with fail
  refine HS.out.mono ?_
  rintro e w2 ⟨neg,v,rs,rfl,sv,hn,hv,hb2⟩
  have hlen:rs.length≤100000:=by
   have:=sum_len hv hn HA.out HB.out;omega
  have HW:=Lib.hid (write_any neg v rs w2 sv hn hlen)
  rw [hneg.out,← Int.sub_eq_add_neg] at hv
  clear HS x0 x1 y0 y1 sv hlen
  go_wp2_with fail
  refine HW.out.mono ?_
  rintro e w3 ⟨t,rfl,ht,hb3⟩
  have hE:Hid (wErr (val 1000000000 rs)=zErr (sgnv na (val 1000000000 xs) - sgnv true (val 1000000000 ys))):=by show _=_;rw [← hv];exact wErr_sgnv _ _
  have hS:Hid (wStr neg (val 1000000000 rs)=zStr (sgnv na (val 1000000000 xs) - sgnv true (val 1000000000 ys))):=by show _=_;rw [← hv];exact wStr_sgnv _ _
  have hbz:=hbW.trans ((hb2.mono hbW.size).trans (hb3.mono (Nat.le_trans hbW.size hb2.size)))
  rw [hE.out]
  rw [hS.out] at ht
  have Ht:=Lib.hid ht
  clear hE hS ht hv
  go_wp2
  go_ret2
  rw [HVa.out,HVb.out]
  exact ⟨t,rfl,Ht.out,hbz⟩
theorem isub_any (a b:ByteArray) (w:World) (ha:a.size≤9223372036854775807) (hb:b.size≤9223372036854775807) :
  Calls Tryz.prog 73 #[.string a,.string b] w (OpPost w (bl a) (bl b) (ival (bl a) - ival (bl b))):=by
 by_cases h0:intErr (bl a)=0
 ·by_cases h:intErr (bl b)=0
  ·exact (isub_ok a b w ha hb h0 h).mono fun e w' k => opPost_ok h0 h k
  ·exact (isub_err a b w _ h (fun W => pair_err2 a b W ha hb h0 h)).mono fun e w' k => opPost_err2 h0 h k
 ·exact (isub_err a b w _ h0 (fun W => pair_err1 a b W ha h0)).mono fun e w' k => opPost_err1 h0 k
end Go.Proofs.YthdeijdimfjceaaGreatDoor

namespace Go.Proofs.YthdeijdimfjceaaGreatDoor
open Go.RowKit
theorem pst_sub {w W:World} {P Bm Ba fm:Nat} {n0 n1 d0 d1:ByteArray} {er:Int} (h:PSt w W P Bm Ba fm 73 n0 n1 d0 d1 er) (a b:ByteArray) (ha:a.size≤1100000) (hb:b.size≤1100000) :
  Calls Tryz.prog 89 #[.string a,.string b,.pointer (some ⟨Ba,0,none⟩),.pointer (some ⟨Ba+1,0,none⟩)] W fun e w' => ∃ t er',e = .returned (.string t)∧Hid (StepR (bl a) (bl b) (ival (bl a) - ival (bl b)) er (bl t) er')∧PSt w w' P Bm Ba fm 73 n0 n1 d0 d1 er':=by
 by_cases he:er=0
 ·subst he
  refine (keep1_sub a b P Ba n0 n1 d0 d1 W h.k h.p (fun t er => StepR (bl a) (bl b) (ival (bl a) - ival (bl b)) 0 (bl t) er) (Lib.hid fun W' => ?_)).mono ?_
  ·refine (isub_any a b W' (by omega) (by omega)).mono fun e w' k => ?_
   obtain ⟨t,er,h1,h2,h3⟩:=opPost_step k
   exact ⟨t,er,h1,h2,h3⟩
  ·rintro e w' ⟨t,er',w2,rfl,hq,hb2,rfl⟩
   exact ⟨t,er',rfl,hq,h.step hb2 er'⟩
 ·refine (keep1_err a b P Ba 73 n0 n1 d0 d1 er W h.k h.p he).mono ?_
  rintro e w' ⟨rfl,rfl⟩
  exact ⟨_,er,rfl,.inl ⟨he,rfl,rfl⟩,h⟩
set_option maxHeartbeats 4000000 in
set_option maxRecDepth 100000 in
theorem ratsub_any (a b:ByteArray) (w:World) (ha:a.size≤1000000) (hb:b.size≤1000000) :
  Calls Tryz.prog 40 #[.string a,.string b] w (RatPost2 w (sumS a b ((ival (bl (pN a)) * ival (bl (pD b))) - (ival (bl (pN b)) * ival (bl (pD a))))) (sumE a b ((ival (bl (pN a)) * ival (bl (pD b))) - (ival (bl (pN b)) * ival (bl (pD a)))))):=by
 have HB:=Lib.hid (both_ab a b w (by omega) (by omega))
 have Hs:=Lib.hid (part_sizes a b ha hb)
 clear ha hb
 go_enter Tryz.func40,Tryz.ntmps40
 go_wp2_with fail
 refine HB.out.mono ?_
 rintro e w1 ⟨P,rfl,hP,hp,hb1⟩
 go_wp2_with fail
 refine (keepr_any P 50 w1).mono ?_
 rintro e w2 ⟨rfl,hm,hb2⟩
 go_wp2_with fail
 refine (keepr_any P 73 w2).mono ?_
 rintro e w3 ⟨rfl,hk,hb3⟩
 obtain ⟨Bm,hBm⟩:∃ B,B=w1.heap.size:=⟨_,rfl⟩
 obtain ⟨Ba,hBa⟩:∃ B,B=w2.heap.size:=⟨_,rfl⟩
 rw [← hBm] at hm ⊢
 rw [← hBa] at hk ⊢
 obtain ⟨n0,hn0⟩:∃ n,n=pN a:=⟨_,rfl⟩
 obtain ⟨n1,hn1⟩:∃ n,n=bN1 a b:=⟨_,rfl⟩
 obtain ⟨d0,hd0⟩:∃ n,n=pD a:=⟨_,rfl⟩
 obtain ⟨d1,hd1⟩:∃ n,n=bD1 a b:=⟨_,rfl⟩
 rw [← hn0,← hn1,← hd0,← hd1] at hp Hs
 have HN:=Lib.hid (And.intro hn0 (And.intro hn1 (And.intro hd0 hd1)))
 clear hn0 hn1 hd0 hd1
 obtain ⟨z0,z1,z2,z3⟩:=Hs.out
 have st0:PSt w w3.drew P Bm Ba 50 73 n0 n1 d0 d1 (bE a b):=PSt.drew ⟨(hp.below hb2).below hb3,hm.below hb3,hk,(hb1.trans (hb2.mono hb1.size)).trans (hb3.mono (Nat.le_trans hb1.size hb2.size)),hP⟩
 have p:=(hp.below hb2).below hb3
 obtain ⟨h0,h1,h2,h3,_⟩:=p.cells
 clear p hp hm hk hb1 hb2 hb3 hBm hBa hP HB Hs
 obtain ⟨e0,he0⟩:∃ e,e=bE a b:=⟨_,rfl⟩
 rw [← he0] at st0
 have HE0:=Lib.hid he0
 clear he0
 have HM:Hid (∀ W er x y,PSt w W P Bm Ba 50 73 n0 n1 d0 d1 er→x.size≤1100000→y.size≤1100000→Calls Tryz.prog 89 #[.string x,.string y,.pointer (some ⟨Bm,0,none⟩),.pointer (some ⟨Bm+1,0,none⟩)] W fun e w' => ∃ t er',e = .returned (.string t)∧Hid (StepR (bl x) (bl y) (ival (bl x) * ival (bl y)) er (bl t) er')∧PSt w w' P Bm Ba 50 73 n0 n1 d0 d1 er'∧t.size≤1100000∧w'.cell? ⟨P,0,none⟩=some (.string n0)∧w'.cell? ⟨P,1,none⟩=some (.string n1)∧w'.cell? ⟨P,2,none⟩=some (.string d0)∧w'.cell? ⟨P,3,none⟩=some (.string d1)):=by
  intro W er x y hst hx hy
  refine (pst_mul hst x y hx hy).mono ?_
  rintro e w' ⟨t,er',rfl,hr,hst'⟩
  obtain ⟨c0,c1,c2,c3,_⟩:=hst'.p.cells
  exact ⟨t,er',rfl,hr,hst',by have:=hr.out.len;rw [← bl_length];omega,c0,c1,c2,c3⟩
 have HO:Hid (∀ W er x y,PSt w W P Bm Ba 50 73 n0 n1 d0 d1 er→x.size≤1100000→y.size≤1100000→Calls Tryz.prog 89 #[.string x,.string y,.pointer (some ⟨Ba,0,none⟩),.pointer (some ⟨Ba+1,0,none⟩)] W fun e w' => ∃ t er',e = .returned (.string t)∧Hid (StepR (bl x) (bl y) (ival (bl x) - ival (bl y)) er (bl t) er')∧PSt w w' P Bm Ba 50 73 n0 n1 d0 d1 er'∧t.size≤1100000∧w'.cell? ⟨P,0,none⟩=some (.string n0)∧w'.cell? ⟨P,1,none⟩=some (.string n1)∧w'.cell? ⟨P,2,none⟩=some (.string d0)∧w'.cell? ⟨P,3,none⟩=some (.string d1)):=by
  intro W er x y hst hx hy
  refine (pst_sub hst x y hx hy).mono ?_
  rintro e w' ⟨t,er',rfl,hr,hst'⟩
  obtain ⟨c0,c1,c2,c3,_⟩:=hst'.p.cells
  exact ⟨t,er',rfl,hr,hst',by have:=hr.out.len;rw [← bl_length];omega,c0,c1,c2,c3⟩
 have HD:Hid (∀ W er x y,PSt w W P Bm Ba 50 73 n0 n1 d0 d1 er→x.size≤1100000→y.size≤1100000→(er=0→intErr (bl x)=0∧intErr (bl y)=0∧dval (body (bl y)) ≠ 0)→Calls Tryz.prog 52 #[.pointer (some ⟨P,0,none⟩),.string x,.string y] W fun e w' => ∃ s er2,e = .returned (.tuple #[.string s,.int .i64 er2])∧Hid (MadeR (bl x) (bl y) er (bl s) er2)∧Below w.heap.size w w'∧w'.cell? ⟨P,0,none⟩=some (.string n0)∧w'.cell? ⟨P,1,none⟩=some (.string n1)∧w'.cell? ⟨P,2,none⟩=some (.string d0)∧w'.cell? ⟨P,3,none⟩=some (.string d1)):=by
  intro W er x y hst hx hy hpre
  have hcc:=fun W' (hb:Below W.heap.size W W') => (hst.p.below hb).cells
  by_cases he:er=0
  ·subst he
   obtain ⟨i1,i2,i3⟩:=hpre rfl
   refine (made_ok x y P n0 n1 d0 d1 W hst.p _ (Lib.hid fun W' => make_ok x y W' hx hy i1 i2 i3)).mono ?_
   rintro e w' ⟨s,rfl,hs,hb⟩
   obtain ⟨c0,c1,c2,c3,_⟩:=hcc _ hb
   exact ⟨s,0,rfl,.inr ⟨rfl,rfl,hs⟩,hst.b.trans (hb.mono hst.b.size),c0,c1,c2,c3⟩
  ·refine (made_err x y P n0 n1 d0 d1 er W hst.p he).mono ?_
   rintro e w' ⟨rfl,hb⟩
   obtain ⟨c0,c1,c2,c3,_⟩:=hcc _ hb
   exact ⟨_,er,rfl,.inl ⟨he,rfl,rfl⟩,hst.b.trans (hb.mono hst.b.size),c0,c1,c2,c3⟩
 have HC:Hid (∀ t1 t2 t3 t4 e1 e2 e3 e4,StepR (bl n0) (bl d1) (ival (bl n0) * ival (bl d1)) e0 t1 e1→StepR (bl n1) (bl d0) (ival (bl n1) * ival (bl d0)) e1 t2 e2→StepR t1 t2 (ival t1 - ival t2) e2 t3 e3→StepR (bl d0) (bl d1) (ival (bl d0) * ival (bl d1)) e3 t4 e4→Chain a b (fun x y => x - y) t1 t2 t3 t4 e1 e2 e3 e4):=by
  obtain ⟨q1,q2,q3,q4⟩:=HN.out
  have q5:=HE0.out
  subst q1 q2 q3 q4 q5
  exact fun _ _ _ _ _ _ _ _ r1 r2 r3 r4 => ⟨r1,r2,r3,r4⟩
 clear HN HE0
 go_wp2_with fail
 go_region_held3 (fun w' => w'.cell? ⟨P,0,none⟩=some (.string n0)∧w'.cell? ⟨P,1,none⟩=some (.string n1)∧w'.cell? ⟨P,2,none⟩=some (.string d0)∧w'.cell? ⟨P,3,none⟩=some (.string d1))
  (first | assumption | exact ⟨by assumption,by assumption,by assumption,by assumption⟩ | go_keep)
  (first | (go_at_call 89;first | (refine (HM.out _ _ _ _ st3 z2 z3).mono ?_;rintro e w7 ⟨t4,e4,rfl,r4,st4,l4,p0,p1,p2,p3⟩) | (refine (HO.out _ _ _ _ st2 l1 l2).mono ?_;rintro e w6 ⟨t3,e3,rfl,r3,st3,l3,p0,p1,p2,p3⟩) | (refine (HM.out _ _ _ _ st1 z1 z2).mono ?_;rintro e w5 ⟨t2,e2,rfl,r2,st2,l2,p0,p1,p2,p3⟩) | (refine (HM.out _ _ _ _ st0 z0 z3).mono ?_;rintro e w4 ⟨t1,e1,rfl,r1,st1,l1,p0,p1,p2,p3⟩)) | (go_at_call 52;refine (HD.out _ _ _ _ st4 l3 l4 (fun h => by obtain ⟨h1,h2,h3,_⟩:=((HC.out _ _ _ _ _ _ _ _ r1.out r2.out r3.out r4.out).done).2 h;exact ⟨h1,h2,h3⟩)).mono ?_;rintro e w8 ⟨s,e5,rfl,r5,hbz,p0,p1,p2,p3⟩))
 have HF:Hid (RatPost2 w (sumS a b ((ival (bl (pN a)) * ival (bl (pD b))) - (ival (bl (pN b)) * ival (bl (pD a))))) (sumE a b ((ival (bl (pN a)) * ival (bl (pD b))) - (ival (bl (pN b)) * ival (bl (pD a))))) (.returned (.tuple #[.string s,.int .i64 e5])) w8):=by
  have hc:=(HC.out _ _ _ _ _ _ _ _ r1.out r2.out r3.out r4.out).done
  rcases r5.out with ⟨h1,h2,rfl⟩ | ⟨h1,rfl,h2⟩
  ·have hne:sumE a b ((ival (bl (pN a)) * ival (bl (pD b))) - (ival (bl (pN b)) * ival (bl (pD a)))) ≠ 0:=by rw [← hc.1];exact h1
   refine ⟨s,?_,?_,hbz⟩
   ·rw [hc.1]
   ·rw [sumS,if_neg hne];exact h2
  ·refine ⟨s,?_,?_,hbz⟩
   ·rw [← hc.1,h1]
   ·rw [h2];exact (hc.2 h1).2.2.2.2
 clear HC HD HO HM r1 r2 r3 r4 r5 st0 st1 st2 st3 st4
 go_wp2
 go_ret2
 exact HF.out
end Go.Proofs.YthdeijdimfjceaaGreatDoor

namespace Go.Proofs.YthdeijdimfjceaaGreatDoor
open Go.RowKit
set_option maxHeartbeats 4000000 in
set_option maxRecDepth 100000 in
theorem ratmul_any (a b:ByteArray) (w:World) (ha:a.size≤1000000) (hb:b.size≤1000000) :
  Calls Tryz.prog 31 #[.string a,.string b] w (RatPost2 w (mulS a b) (mulE a b)):=by
 have HB:=Lib.hid (both_ab a b w (by omega) (by omega))
 have Hs:=Lib.hid (part_sizes a b ha hb)
 clear ha hb
 go_enter Tryz.func31,Tryz.ntmps31
 go_wp2_with fail
 refine HB.out.mono ?_
 rintro e w1 ⟨P,rfl,hP,hp,hb1⟩
 go_wp2_with fail
 refine (keepr_any P 50 w1).mono ?_
 rintro e w2 ⟨rfl,hm,hb2⟩
 skip
 skip
 skip
 obtain ⟨Bm,hBm⟩:∃ B,B=w1.heap.size:=⟨_,rfl⟩
 rw [← hBm] at hm ⊢
 obtain ⟨n0,hn0⟩:∃ n,n=pN a:=⟨_,rfl⟩
 obtain ⟨n1,hn1⟩:∃ n,n=bN1 a b:=⟨_,rfl⟩
 obtain ⟨d0,hd0⟩:∃ n,n=pD a:=⟨_,rfl⟩
 obtain ⟨d1,hd1⟩:∃ n,n=bD1 a b:=⟨_,rfl⟩
 rw [← hn0,← hn1,← hd0,← hd1] at hp Hs
 have HN:=Lib.hid (And.intro hn0 (And.intro hn1 (And.intro hd0 hd1)))
 clear hn0 hn1 hd0 hd1
 obtain ⟨z0,z1,z2,z3⟩:=Hs.out
 have st0:PSt w w2.drew P Bm Bm 50 50 n0 n1 d0 d1 (bE a b):=PSt.drew ⟨hp.below hb2,hm,hm,hb1.trans (hb2.mono hb1.size),hP⟩
 have p:=hp.below hb2
 obtain ⟨h0,h1,h2,h3,_⟩:=p.cells
 clear p hp hm hb1 hb2 hBm hP HB Hs
 obtain ⟨e0,he⟩:∃ e,e=bE a b:=⟨_,rfl⟩
 rw [← he] at st0
 have HE0:=Lib.hid he
 clear he
 have HM:Hid (∀ W er x y,PSt w W P Bm Bm 50 50 n0 n1 d0 d1 er→x.size≤1100000→y.size≤1100000→Calls Tryz.prog 89 #[.string x,.string y,.pointer (some ⟨Bm,0,none⟩),.pointer (some ⟨Bm+1,0,none⟩)] W fun e w' => ∃ t er',e = .returned (.string t)∧Hid (StepR (bl x) (bl y) (ival (bl x) * ival (bl y)) er (bl t) er')∧PSt w w' P Bm Bm 50 50 n0 n1 d0 d1 er'∧t.size≤1100000∧w'.cell? ⟨P,0,none⟩=some (.string n0)∧w'.cell? ⟨P,1,none⟩=some (.string n1)∧w'.cell? ⟨P,2,none⟩=some (.string d0)∧w'.cell? ⟨P,3,none⟩=some (.string d1)):=by
  intro W er x y hst hx hy
  refine (pst_mul hst x y hx hy).mono ?_
  rintro e w' ⟨t,er',rfl,hr,hst'⟩
  obtain ⟨c0,c1,c2,c3,_⟩:=hst'.p.cells
  exact ⟨t,er',rfl,hr,hst',by have:=hr.out.len;rw [← bl_length];omega,c0,c1,c2,c3⟩
 have HD:Hid (∀ W er x y,PSt w W P Bm Bm 50 50 n0 n1 d0 d1 er→x.size≤1100000→y.size≤1100000→(er=0→intErr (bl x)=0∧intErr (bl y)=0∧dval (body (bl y)) ≠ 0)→Calls Tryz.prog 52 #[.pointer (some ⟨P,0,none⟩),.string x,.string y] W fun e w' => ∃ s er2,e = .returned (.tuple #[.string s,.int .i64 er2])∧Hid (MadeR (bl x) (bl y) er (bl s) er2)∧Below w.heap.size w w'∧w'.cell? ⟨P,0,none⟩=some (.string n0)∧w'.cell? ⟨P,1,none⟩=some (.string n1)∧w'.cell? ⟨P,2,none⟩=some (.string d0)∧w'.cell? ⟨P,3,none⟩=some (.string d1)):=by
  intro W er x y hst hx hy hpre
  have hcc:=fun W' (hb:Below W.heap.size W W') => (hst.p.below hb).cells
  by_cases he:er=0
  ·subst he
   obtain ⟨i1,i2,i3⟩:=hpre rfl
   refine (made_ok x y P n0 n1 d0 d1 W hst.p _ (Lib.hid fun W' => make_ok x y W' hx hy i1 i2 i3)).mono ?_
   rintro e w' ⟨s,rfl,hs,hb⟩
   obtain ⟨c0,c1,c2,c3,_⟩:=hcc _ hb
   exact ⟨s,0,rfl,.inr ⟨rfl,rfl,hs⟩,hst.b.trans (hb.mono hst.b.size),c0,c1,c2,c3⟩
  ·refine (made_err x y P n0 n1 d0 d1 er W hst.p he).mono ?_
   rintro e w' ⟨rfl,hb⟩
   obtain ⟨c0,c1,c2,c3,_⟩:=hcc _ hb
   exact ⟨_,er,rfl,.inl ⟨he,rfl,rfl⟩,hst.b.trans (hb.mono hst.b.size),c0,c1,c2,c3⟩
 have HC:Hid (∀ t1 t2 e1 e2,StepR (bl n0) (bl n1) (ival (bl n0) * ival (bl n1)) e0 t1 e1→StepR (bl d0) (bl d1) (ival (bl d0) * ival (bl d1)) e1 t2 e2→e2=mulE a b∧(e2=0→intErr t1=0∧intErr t2=0∧dval (body t2) ≠ 0∧ratTxt (!(isNeg t1 == isNeg t2)) (dval (body t1)) (dval (body t2))=mulS a b)):=by
  obtain ⟨q1,q2,q3,q4⟩:=HN.out
  have q5:=HE0.out
  subst q1 q2 q3 q4 q5
  exact fun _ _ _ _ r1 r2 => mul_done ⟨r1,r2⟩
 have HS:Hid (mulE a b ≠ 0→mulS a b=[]):=fun k => frS_err k
 clear HN HE0
 go_wp2_with fail
 go_region_held3 (fun w' => w'.cell? ⟨P,0,none⟩=some (.string n0)∧w'.cell? ⟨P,1,none⟩=some (.string n1)∧w'.cell? ⟨P,2,none⟩=some (.string d0)∧w'.cell? ⟨P,3,none⟩=some (.string d1))
  (first | assumption | exact ⟨by assumption,by assumption,by assumption,by assumption⟩ | go_keep)
  (first | (go_at_call 89;first | (refine (HM.out _ _ _ _ st1 z2 z3).mono ?_;rintro e w5 ⟨t2,e2,rfl,r2,st2,l2,p0,p1,p2,p3⟩) | (refine (HM.out _ _ _ _ st0 z0 z1).mono ?_;rintro e w4 ⟨t1,e1,rfl,r1,st1,l1,p0,p1,p2,p3⟩)) | (go_at_call 52;refine (HD.out _ _ _ _ st2 l1 l2 (fun h => by obtain ⟨h1,h2,h3,_⟩:=(HC.out _ _ _ _ r1.out r2.out).2 h;exact ⟨h1,h2,h3⟩)).mono ?_;rintro e w8 ⟨s,e5,rfl,r5,hbz,p0,p1,p2,p3⟩))
 have HF:Hid (RatPost2 w (mulS a b) (mulE a b) (.returned (.tuple #[.string s,.int .i64 e5])) w8):=by
  have hc:=HC.out _ _ _ _ r1.out r2.out
  rcases r5.out with ⟨h1,h2,rfl⟩ | ⟨h1,rfl,h2⟩
  ·have hne:mulE a b ≠ 0:=by rw [← hc.1];exact h1
   refine ⟨s,?_,?_,hbz⟩
   ·rw [hc.1]
   ·rw [HS.out hne];exact h2
  ·refine ⟨s,?_,?_,hbz⟩
   ·rw [← hc.1,h1]
   ·rw [h2];exact (hc.2 h1).2.2.2
 clear HC HD HM HS r1 r2 r5 st0 st1 st2
 go_wp2
 go_ret2
 exact HF.out
end Go.Proofs.YthdeijdimfjceaaGreatDoor

namespace Go.Proofs.YthdeijdimfjceaaGreatDoor
open Go.RowKit
structure EvD where
 F:List Fx
 C:List Ch
 af:Option Addr
 ac:Option Addr
 cf:Nat
 cc:Nat
def EvD.vf (E:EvD):Value:=.slice E.af E.F.length E.cf
def EvD.vc (E:EvD):Value:=.slice E.ac E.C.length E.cc
def EvD.val (E:EvD):Value:=.agg #[.slice E.af E.F.length E.cf,.slice E.ac E.C.length E.cc]
structure EvD.Rd (E:EvD) (w:World):Prop where
 f:Go.Proofs.YthdeijdimfjceaaGreatDoor.Rd Fx.cells 3 w E.af E.F
 c:Go.Proofs.YthdeijdimfjceaaGreatDoor.Rd Ch.cells 4 w E.ac E.C
 nf:E.F.length≤1100000
 nc:E.C.length≤1100000
theorem EvD.Rd.frame {E:EvD} {w w':World} (h:E.Rd w) (hb:Below w.heap.size w w'):E.Rd w':=⟨h.f.below hb,h.c.below hb,h.nf,h.nc⟩
structure Stt (w0 W:World) (S:Nat) (E:EvD) (day er:Int):Prop where
 b:Below w0.heap.size w0 W
 s:w0.heap.size≤S
 x:BoxN W S 225 [.slice E.af E.F.length E.cf,.slice E.ac E.C.length E.cc,.int .i64 day,.int .i64 er]
section
variable {w0 W W':World} {S:Nat} {E:EvD} {day er:Int}
theorem Stt.lt (h:Stt w0 W S E day er):S < W.heap.size:=h.x.lt
theorem Stt.cells (h:Stt w0 W S E day er):W.cell? ⟨S,0,none⟩=some (.slice E.af E.F.length E.cf)∧W.cell? ⟨S,1,none⟩=some (.slice E.ac E.C.length E.cc)∧W.cell? ⟨S,2,none⟩=some (.int .i64 day)∧W.cell? ⟨S,3,none⟩=some (.int .i64 er) :=
 ⟨h.x.cell (j:=0) rfl,h.x.cell (j:=1) rfl,h.x.cell (j:=2) rfl,h.x.cell (j:=3) rfl⟩
theorem Stt.below (h:Stt w0 W S E day er) (hb:Below W.heap.size W W'):Stt w0 W' S E day er :=
 ⟨h.b.trans (hb.mono h.b.size),h.s,h.x.below hb h.lt⟩
theorem Stt.set (h:Stt w0 W S E day er) (x:Int):Stt w0 (W.setCell ⟨S,3,none⟩ (.int .i64 x)) S E day x :=
 ⟨h.b.setCell h.s _,h.s,h.x.set 3 (.int .i64 x)⟩
theorem Below.but (h:Below W.heap.size W W') (o:Option Nat):W.grownBy W' o:=⟨h.os,h.tape,h.output,h.size,fun k hk _ => h.block k hk⟩
theorem grown_set (W:World) (S j:Nat) (u:Value):W.grownBy (W.setCell ⟨S,j,none⟩ u) (some S) :=
 ⟨rfl,rfl,rfl,by simp,fun k _ hne => Below.heap_setCell _ _ _ _ (fun e => hne (by rw [e]))⟩
end
def SttTo (w0 W:World) (S:Nat) (E:EvD) (day er:Int) (W':World):Prop:=Stt w0 W' S E day er∧W.grownBy W' (some S)
set_option maxHeartbeats 1000000 in
set_option maxRecDepth 100000 in
theorem keepR_any (t:ByteArray) (w0 w:World) (S:Nat) (E:EvD) (day er e0:Int) (h:Stt w0 w S E day er) :
  Calls Tryz.prog 173 #[.pointer (some ⟨S,0,none⟩),.string t,.int .i64 e0] w fun e w' => e = .returned (.string t)∧SttTo w0 w S E day (if er=0 then e0 else er) w':=by
 have q3:=h.cells.2.2.2
 have f3:=h.x.frozen 3
 have H:=Lib.hid h
 clear h
 by_cases he:er=0
 ·subst he
  have HF:=Lib.hid (And.intro (H.out.set e0) (grown_set w S 3 (.int .i64 e0)))
  go_enter Tryz.func173,Tryz.ntmps173
  go_wp2
  go_ret
  exact ⟨rfl,HF.out⟩
 ·have t1:(er == 0)=false:=by rw [beq_eq_false_iff_ne];exact he
  rw [if_neg he]
  clear he
  go_enter Tryz.func173,Tryz.ntmps173
  go_wp2
  go_ret
  exact ⟨rfl,H.out,World.grownBy.refl _ _⟩
set_option maxHeartbeats 1000000 in
set_option maxRecDepth 100000 in
theorem keepI_any (t:Int) (w0 w:World) (S:Nat) (E:EvD) (day er e0:Int) (h:Stt w0 w S E day er) :
  Calls Tryz.prog 178 #[.pointer (some ⟨S,0,none⟩),.int .i64 t,.int .i64 e0] w fun e w' => e = .returned (.int .i64 t)∧SttTo w0 w S E day (if er=0 then e0 else er) w':=by
 have q3:=h.cells.2.2.2
 have f3:=h.x.frozen 3
 have H:=Lib.hid h
 clear h
 by_cases he:er=0
 ·subst he
  have HF:=Lib.hid (And.intro (H.out.set e0) (grown_set w S 3 (.int .i64 e0)))
  go_enter Tryz.func178,Tryz.ntmps178
  go_wp2
  go_ret
  exact ⟨rfl,HF.out⟩
 ·have t1:(er == 0)=false:=by rw [beq_eq_false_iff_ne];exact he
  rw [if_neg he]
  clear he
  go_enter Tryz.func178,Tryz.ntmps178
  go_wp2
  go_ret
  exact ⟨rfl,H.out,World.grownBy.refl _ _⟩
set_option maxHeartbeats 1000000 in
set_option maxRecDepth 100000 in
theorem scmp_any (a b:ByteArray) (ha:a.size≤1000000) (hb:b.size≤1000000) (w0 w:World) (S:Nat) (E:EvD) (day:Int) (h:Stt w0 w S E day 0) :
  Calls Tryz.prog 171 #[.pointer (some ⟨S,0,none⟩),.string a,.string b] w fun e w' => e = .returned (.int .i64 (cmpV a b))∧SttTo w0 w S E day (cmpE a b) w':=by
 have q3:=h.cells.2.2.2
 have HC:=Lib.hid (ratcmp_any a b w ha hb)
 have HK:Hid (∀ W,Below w.heap.size w W→Calls Tryz.prog 178 #[.pointer (some ⟨S,0,none⟩),.int .i64 (cmpV a b),.int .i64 (cmpE a b)] W fun e w' => e = .returned (.int .i64 (cmpV a b))∧SttTo w0 w S E day (cmpE a b) w') :=
  Lib.hid fun W hb => (keepI_any (cmpV a b) w0 W S E day 0 (cmpE a b) (h.below hb)).mono fun e w' ⟨he,hs,hg⟩ => ⟨he,by rw [if_pos rfl] at hs;exact hs,(Below.but hb _).trans hg⟩
 clear h
 generalize cmpV a b=V at *
 generalize cmpE a b=Z at *
 go_enter Tryz.func171,Tryz.ntmps171
 go_wp2_with fail
 refine HC.out.mono ?_
 rintro e w1 ⟨rfl,hb1⟩
 have HK1:=Lib.hid (HK.out w1 hb1)
 clear hb1 HK HC
 go_wp2_with fail
 refine HK1.out.mono ?_
 rintro e w2 ⟨rfl,h2⟩
 have H2:=Lib.hid h2
 clear h2
 go_wp2
 go_ret
 exact ⟨rfl,H2.out⟩
set_option maxHeartbeats 1000000 in
set_option maxRecDepth 100000 in
theorem scmp_err (a b:ByteArray) (w0 w:World) (S:Nat) (E:EvD) (day er:Int) (h:Stt w0 w S E day er) (he:er ≠ 0) :
  Calls Tryz.prog 171 #[.pointer (some ⟨S,0,none⟩),.string a,.string b] w fun e w' => e = .returned (.int .i64 0)∧SttTo w0 w S E day er w':=by
 have q3:=h.cells.2.2.2
 have t1:(er != 0)=true:=by rw [bne_iff_ne];exact he
 have H:=Lib.hid h
 clear h he
 go_enter Tryz.func171,Tryz.ntmps171
 go_wp2
 go_ret
 exact ⟨rfl,H.out,World.grownBy.refl _ _⟩
theorem fixR_eq (F:List Fx) (nm:ByteArray) (d:Int):fixR F nm d=match F.find? (fxIs ⟨nm,d,⟨#[]⟩⟩) with | some f => (0,f.vl) | none => (30,ByteArray.empty):=rfl
set_option maxHeartbeats 1000000 in
set_option maxRecDepth 100000 in
theorem sfix_any (nm:ByteArray) (d:Int) (w0 w:World) (S:Nat) (E:EvD) (day:Int) (h:Stt w0 w S E day 0) (hE:E.Rd w0) :
  Calls Tryz.prog 172 #[.pointer (some ⟨S,0,none⟩),.string nm,.int .i64 d] w fun e w' => e = .returned (.string (fixR E.F nm d).2)∧SttTo w0 w S E day (fixR E.F nm d).1 w':=by
 obtain ⟨q0,q1,q2,q3⟩:=h.cells
 have HF:=Lib.hid (ofind_any E.F nm d E.af E.cf (.slice E.ac E.C.length E.cc) w hE.nf ((hE.frame h.b).f))
 have HK:Hid (∀ W,Below w.heap.size w W→Calls Tryz.prog 173 #[.pointer (some ⟨S,0,none⟩),.string ⟨#[]⟩,.int .i64 30] W fun e w' => e = .returned (.string ⟨#[]⟩)∧SttTo w0 w S E day 30 w') :=
  Lib.hid fun W hb => (keepR_any ⟨#[]⟩ w0 W S E day 0 30 (h.below hb)).mono fun e w' ⟨he,hs,hg⟩ => ⟨he,by rw [if_pos rfl] at hs;exact hs,(Below.but hb _).trans hg⟩
 have H:=Lib.hid (fun W (hb:Below w.heap.size w W) => And.intro (h.below hb) (Below.but hb (some S)))
 rw [fixR_eq]
 clear h hE
 generalize E.F.find? (fxIs ⟨nm,d,⟨#[]⟩⟩)=R at *
 cases R with
 | none =>
  have HF:Hid (Calls _ _ _ _ fun e w' => e = .returned (.tuple #[.string ⟨#[]⟩,.bool false])∧_):=HF
  go_enter Tryz.func172,Tryz.ntmps172
  go_wp2_with fail
  refine HF.out.mono ?_
  rintro e w1 ⟨rfl,hb1⟩
  have HK1:=Lib.hid (HK.out w1 hb1)
  clear hb1 HK HF
  go_wp2_with fail
  refine HK1.out.mono ?_
  rintro e w2 ⟨rfl,h2⟩
  have H2:=Lib.hid h2
  clear h2
  go_wp2
  go_ret
  exact ⟨rfl,H2.out⟩
 | some f =>
  have HF:Hid (Calls _ _ _ _ fun e w' => e = .returned (.tuple #[.string f.vl,.bool true])∧_):=HF
  go_enter Tryz.func172,Tryz.ntmps172
  go_wp2_with fail
  refine HF.out.mono ?_
  rintro e w1 ⟨rfl,hb1⟩
  have H1:=Lib.hid (H.out w1 hb1)
  clear hb1 HF
  go_wp2
  go_ret
  exact ⟨rfl,H1.out⟩
end Go.Proofs.YthdeijdimfjceaaGreatDoor

namespace Go.Proofs.YthdeijdimfjceaaGreatDoor
open Go.RowKit
theorem frS_len (a b:ByteArray) (z y:Int):(frS a b z y).length≤2010:=by
 unfold frS
 split
 ·rename_i h
  unfold frE at h
  split at h
  ·rename_i h0;exact absurd h h0
  ·split at h
   ·cases h
   ·rename_i h2
    have h3:zErr z=0:=by
     rcases Int.decEq (zErr z) 0 with k | k
     ·exact absurd (.inl k) h2
     ·exact k
    have h4:zErr y=0:=by
     rcases Int.decEq (zErr y) 0 with k | k
     ·exact absurd (.inr k) h2
     ·exact k
    exact ratTxt_len (zErr_lt h3) (zErr_lt h4)
 ·simp
theorem mulS_size (a b:ByteArray):(mkB (mulS a b)).size≤2010:=by rw [mkB_size];exact frS_len _ _ _ _
theorem RatPost2.val {w w':World} {l:List UInt8} {er:Int} {e:Ending} (h:RatPost2 w l er e w'):e = .returned (.tuple #[.string (mkB l),.int .i64 er])∧Below w.heap.size w w':=by
 obtain ⟨t,rfl,ht,hb⟩:=h
 exact ⟨by rw [mkB_bl ht],hb⟩
end Go.Proofs.YthdeijdimfjceaaGreatDoor
