/-
  Arguments opened: what the bound on the bulk gives; a list of structs as a list of records that can be read. What the listed variables give: the two tables, in this world and in every later one. What the three listed variables give: two tables of data, one of functions by name. MeaningNames: the chapter's examples, further cases and errors hold: on every schedule the call returns true; the tables contract.parts, observable.shapes and observable.operations as the program's text lays them.
-/
import Derived.Test.YtknpnhodpgajbaaGreatDoorE01
import Derived.Test.YtknpnhodpgajbaaGreatDoorRows
import Derived.Deep.Slices
import Derived.Deep.Fields
import Derived.Lib.SmallJoins
import Derived.Carry
import Derived.Test.YtknpnhodpgajbaaGreatDoorE28
import Derived.Test.YtknpnhodpgajbaaGreatDoorE19
import Derived.Maps.Keyed
import Derived.Laws.IdiomMaps
import Derived.LaidMore
import Derived.MakeChecks
import Derived.OpenShut
import Derived.WalkArith
import Derived.ProofKit
import Derived.Test.YtknpnhodpgajbaaGreatDoorE16
import Derived.Test.YtknpnhodpgajbaaGreatDoorE39
import Derived.Test.YtknpnhodpgajbaaGreatDoorCards
import Derived.Test.YtknpnhodpgajbaaGreatDoorTie
import Derived.WalkKit
import Derived.Deep.DeepHandedRow
import Derived.Deep.DeepWitnessRowRef
namespace Go.Proofs.YtknpnhodpgajbaaGreatDoor
open Go.RowKit Go.ChangeShapes Go.WideShapes Go.Deep
section
variable {H:Type} {enc:TypeId × Value→H} {P:Program} {w:World} {sp:Nat→Bool} {held:Bool}
theorem arr2 {α:Type} {l:List α} (h:l.length=2):∃ a b,l=[a,b]:=by
 match l,h with
 | [a,b],_ => exact ⟨a,b,rfl⟩
end
end Go.Proofs.YtknpnhodpgajbaaGreatDoor

namespace Go.Proofs.YtknpnhodpgajbaaGreatDoor
open Go.Deep Go.ChangeShapes Go.WideShapes Go.ChangeAt Go.WideMaps Go.WideElems Go.RowKit Go.Maps
theorem g_parts : Tryz.prog.globalNamed "novation/contract.parts" = some 0 := by kernel_rfl
theorem g_shapes : Tryz.prog.globalNamed "novation/observable.shapes" = some 2 := by kernel_rfl
theorem t_parts:(Tryz.prog.globals[0]?).map (·.type)=some 152:=by kernel_rfl
theorem t_shapes:(Tryz.prog.globals[2]?).map (·.type)=some 230:=by kernel_rfl
theorem keyed_u8:Keyed Tryz.prog 5:=int_keyed Tryz.underlying5
theorem zero_int (w:World):(zeroValue 3).run Tryz.prog w = .ok (.int .i64 0) w:=by kernel_rfl
theorem zero_shape (w:World):(zeroValue 228).run Tryz.prog w = .ok (.agg #[.slice none 0 0,.int .u8 0]) w:=by kernel_rfl
theorem key_u8 {k:Nat} (hk:k < 256):keyOf Tryz.prog 5 (.int .u8 (k:Int))=some (.int .u8 (k:Int)) :=
 keyOf_int_mk Tryz.underlying5 (WalkArith.wf_u8 (by omega))
theorem parts_at (k:Nat) (z:DataW Unit):(Rows.laid_novation_contract_parts).atKey (.int .u8 (k:Int)) z=match partOf k with | none => z | some m => .lit (.int .i64 (m:Int)):=by
 match k with
 | 0 | 1 | 2 | 3 | 4 | 5 | 6 | 7 | 8 | 9 | 10 => rfl
 | n+11 =>
  have e:partOf (n+11)=none:=by
   unfold partOf
   rw [if_neg (by omega),if_neg (by omega),if_neg (by omega),if_neg (by omega),if_neg (by omega),if_neg (by omega),if_neg (by omega),if_neg (by omega),if_neg (by omega)]
  rw [e]
  have hs:∀ m:Int,m < 11→(Lit.int .u8 m).sameKey (.int .u8 ((n+11:Nat):Int))=false:=fun m hm => by simp [Lit.sameKey];omega
  simp only [Rows.laid_novation_contract_parts,DataW.atKey,List.find?_cons,hs _ (show (1:Int) < 11 by decide),hs _ (show (2:Int) < 11 by decide),hs _ (show (3:Int) < 11 by decide),hs _ (show (4:Int) < 11 by decide),hs _ (show (5:Int) < 11 by decide),hs _ (show (6:Int) < 11 by decide),hs _ (show (7:Int) < 11 by decide),hs _ (show (8:Int) < 11 by decide),hs _ (show (9:Int) < 11 by decide),hs _ (show (10:Int) < 11 by decide),List.find?_nil]
theorem shapes_at (k:Nat) (z:DataW Unit):(Rows.laid_novation_observable_shapes).atKey (.int .u8 (k:Int)) z=match shapeOf k with | none => z | some (ps,own) => .agg [.slice (ps.map fun p:Nat => .lit (.int .u8 (p:Int))) [],.lit (.int .u8 (own:Int))]:=by
 match k with
 | 0 | 1 | 2 | 3 | 4 | 5 | 6 | 7 | 8 | 9 | 10 | 11 | 12 | 13 | 14 | 15 => rfl
 | n+16 =>
  have e:shapeOf (n+16)=none:=by
   unfold shapeOf
   rw [if_neg (by omega),if_neg (by omega),if_neg (by omega),if_neg (by omega),if_neg (by omega)]
  rw [e]
  have hs:∀ m:Int,m < 16→(Lit.int .u8 m).sameKey (.int .u8 ((n+16:Nat):Int))=false:=fun m hm => by simp [Lit.sameKey];omega
  simp only [Rows.laid_novation_observable_shapes,DataW.atKey,List.find?_cons,hs _ (show (4:Int) < 16 by decide),hs _ (show (5:Int) < 16 by decide),hs _ (show (6:Int) < 16 by decide),hs _ (show (7:Int) < 16 by decide),hs _ (show (8:Int) < 16 by decide),hs _ (show (9:Int) < 16 by decide),hs _ (show (11:Int) < 16 by decide),hs _ (show (12:Int) < 16 by decide),hs _ (show (13:Int) < 16 by decide),hs _ (show (14:Int) < 16 by decide),hs _ (show (15:Int) < 16 by decide),List.find?_nil]
theorem addr_at (b o j:Nat):Addr.add ⟨b,o,none⟩ j=⟨b,o+j,none⟩:=by
 unfold Addr.add
 split
 ·next h => subst h;rfl
 ·rfl
theorem agg_of_formed {v:Value} (hf:v.formed Tryz.prog 228=true):∃ cs,v = .agg cs∧v.cells.toList=cs.toList:=by
 cases v with
 | agg cs => exact ⟨cs,rfl,rfl⟩
 | _ => simp [Value.formed,Tryz.underlying228] at hf
set_option maxRecDepth 100000 in
theorem laid_plain {W : World} (h : laidMet Tryz.prog [("novation/observable.shapes", Rows.laid_novation_observable_shapes), ("novation/contract.parts", Rows.laid_novation_contract_parts)] W) : LookS W ∧ LookP W := by
 obtain ⟨ps,⟨g0,t0,cs0,f0,p0,q0,hg0,ht0,hv0,hd0,⟨g1,t1,cs1,f1,p1,q1,hg1,ht1,hv1,hd1,_,_⟩,_⟩,_,_⟩:=h
 obtain rfl:=Option.some.inj (g_shapes.symm.trans hg0)
 obtain rfl:=Option.some.inj (g_parts.symm.trans hg1)
 obtain rfl:=Option.some.inj (t_shapes.symm.trans ht0)
 obtain rfl:=Option.some.inj (t_parts.symm.trans ht1)
 refine ⟨?_,?_⟩
 ·rcases open_map Tryz.underlying230 hd0 with ⟨_,hx⟩ | ⟨bm,es,clock,m,_,hcs,hb,_,F,hx⟩
  ·simp [Rows.laid_novation_observable_shapes] at hx
  simp only [Prod.mk.injEq] at hx
  have hcell:W.cell? ⟨2,0,none⟩=some (.map (some bm)):=by
   have:=World.var?_cell hg0 hv0 0
   rw [Array.eq_one_of_toList hcs] at this
   simpa using this
  refine ⟨bm,hcell,fun W' hB k hk => ?_⟩
  have hb':W'.heap[bm]? = some (.map es clock):=by rw [hB.block bm (lt_of_block hb)];exact hb
  rcases fit_look true keyed_u8 Tryz.underlying230 (zero_shape W') hb' F (key_u8 hk) with ⟨hrun,_,hat⟩ | ⟨e0,y,_,_,hrun,hRv,hat,_⟩
  ·have h1:=hat .nil
   rw [← hx.1,shapes_at] at h1
   cases hs:shapeOf k with
   | none => exact hrun
   | some q => rw [hs] at h1;cases h1
  ·have h1:=hat .nil
   rw [← hx.1,shapes_at] at h1
   unfold elemAt at hRv
   split at hRv
   ·rename_i hf
    obtain ⟨cs,hv,hvc⟩:=agg_of_formed hf
    rw [hvc] at hRv
    obtain ⟨xs,n',_,hz,hcl,hxl,hfs⟩:=DataW.trod_struct Tryz.underlying228 hRv
    cases hs:shapeOf k with
    | none => rw [hs] at h1;rw [hz] at h1;cases h1
    | some q =>
     obtain ⟨pl,own⟩:=q
     rw [hs] at h1
     obtain ⟨c0,c1,hc⟩:∃ c0 c1,cs.toList=[c0,c1]:=arr2 (by rw [hcl];kernel_rfl)
     rw [hc] at hfs
     obtain ⟨x0,x1,rfl⟩:=arr2 hxl
     have f0:=hfs 0 _ rfl
     have f1:=hfs 1 _ rfl
     have c8s:Tryz.prog.cellsOf 226=1:=by kernel_rfl
     have c8:Tryz.prog.cellsOf 178=1:=by kernel_rfl
     simp [c8s,c8] at f0 f1
     rw [hz] at h1
     simp only [List.map_cons,List.map_nil,DataW.agg.injEq,List.cons.injEq,and_true] at h1
     obtain ⟨o,ho,rfl,_⟩:=DataW.trod_int Tryz.underlying178 f1
     have ho':o=(own:Int):=by have:=h1.2;cases this;rfl
     subst ho'
     rcases open_slice Tryz.underlying226 f0 with ⟨_,hy⟩ | ⟨a,len,cap,mm,n,D,Pl,hcs0,_,hl,hmx,hmm,hxx,hi⟩
     ·rw [hy] at h1;cases h1.1
     ·have e1:=h1.1
      rw [hxx] at e1
      injection e1 with e1 e2
      simp at hcs0 ho
      have hlen:pl.length=len:=by have:=congrArg List.length e1;simpa using this
      have hlm:len≤mm:=by rw [hmm];split <;> omega
      have hcell:∀ (j p:Nat),pl[j]? = some p→W.cell? (a.add j)=some (.int .u8 (p:Int)):=fun j p hj => by
       have hjl:=(List.getElem?_eq_some_iff.1 hj).1
       obtain ⟨cs',q1,q2⟩:=hi j (by omega)
       rw [c8,Nat.mul_one] at q1
       obtain ⟨v,hv1,hv2,_⟩:=DataW.trod_int Tryz.underlying178 q2
       have q3:=(World.cells?_some q1).2.2 0 (by decide)
       rw [hv1] at q3
       have q4:=congrArg (fun l => l[j]?) e1
       simp only [List.getElem?_map,hj,Option.map_some] at q4
       rw [List.getElem?_range (by omega)] at q4
       simp only [Option.map_some,Option.some.injEq] at q4
       rw [(Prod.mk.inj hv2).1] at q4
       cases q4
       simpa [Addr.add] using q3
      have hsp:0 < pl.length→a.spot=none:=fun h0 => by
       obtain ⟨p,hp⟩:∃ p,pl[0]? = some p:=⟨_,List.getElem?_eq_getElem h0⟩
       have h2:=hcell 0 p hp
       simp only [World.cell?] at h2
       cases hsp:a.spot with
       | none => rfl
       | some k => simp [Addr.add,hsp] at h2;split at h2 <;> simp at h2
      have hpos:0 < pl.length:=by
       unfold shapeOf at hs
       repeat' split at hs
       all_goals first
        | (cases hs;done)
        | (cases hs;decide)
      have hsp:=hsp hpos
      obtain ⟨ab,ao,asp⟩:=a
      simp at hsp
      subst hsp
      refine ⟨ab,ao,cap,?_,fun j p hj => by rw [← addr_at];exact hcell j p hj⟩
      rw [hrun,hv]
      have:cs=#[c0,c1]:=by cases cs;simp at hc;subst hc;rfl
      rw [this,hcs0,ho,hlen]
      rfl
   ·cases hRv
 ·rcases open_map Tryz.underlying152 hd1 with ⟨_,hx⟩ | ⟨bm,es,clock,m,_,hcs,hb,_,F,hx⟩
  ·simp [Rows.laid_novation_contract_parts] at hx
  simp only [Prod.mk.injEq] at hx
  have hcell:W.cell? ⟨0,0,none⟩=some (.map (some bm)):=by
   have:=World.var?_cell hg1 hv1 0
   rw [Array.eq_one_of_toList hcs] at this
   simpa using this
  refine ⟨bm,hcell,fun W' hB k hk => ?_⟩
  have hb':W'.heap[bm]? = some (.map es clock):=by rw [hB.block bm (lt_of_block hb)];exact hb
  rcases fit_look true keyed_u8 Tryz.underlying152 (zero_int W') hb' F (key_u8 hk) with ⟨hrun,_,hat⟩ | ⟨e0,y,_,_,hrun,hRv,hat,_⟩
  ·have h1:=hat .nil
   rw [← hx.1,parts_at] at h1
   cases hs:partOf k with
   | none => exact hrun
   | some q => rw [hs] at h1;cases h1
  ·obtain ⟨r,hr,rfl,_⟩:=elemAt_int Tryz.underlying3 hRv
   have h1:=hat .nil
   rw [← hx.1,parts_at] at h1
   cases hs:partOf k with
   | none => rw [hs] at h1;cases h1
   | some q =>
    rw [hs] at h1
    cases h1
    rw [hr] at hrun
    exact hrun
end Go.Proofs.YtknpnhodpgajbaaGreatDoor

namespace Go.Proofs.YtknpnhodpgajbaaGreatDoor
open Go.Deep Go.ChangeShapes Go.WideShapes Go.ChangeAt Go.WideMaps Go.WideElems Go.RowKit Go.Maps
theorem laidMetH_data {P:Program} {l:List (String × DataW Unit)} {w:World} (h:laidMetH P l w):laidMet P (l.filter fun x => x.2.handleName?.isNone) w:=by
 unfold laidMetH at h
 generalize hfl:(l.filter fun x => x.2.handleName?.isSome)=fl at h
 cases fl with
 | nil =>
  have e:(l.filter fun x => x.2.handleName?.isNone)=l:=by
   rw [List.filter_eq_self]
   intro x hx
   have:=(List.filter_eq_nil_iff.1 hfl) x hx
   cases hn:x.2.handleName? with
   | none => rfl
   | some s => rw [hn] at this;exact absurd rfl this
  rw [e]
  exact h
 | cons a t => exact h.1
def opsD:DataW Unit:=match (Rows.laid_novation_observable_operations:DataW Unit) with | .iface _ d => d | d => d
theorem g_ops : Tryz.prog.globalNamed "novation/observable.operations" = some 1 := by kernel_rfl
theorem t_ops:(Tryz.prog.globals[1]?).map (·.type)=some 211:=by kernel_rfl
theorem zero_fn (w:World):∃ z,(zeroValue 210).run Tryz.prog w = .ok z w:=⟨.nilFunc,by kernel_rfl⟩
theorem ops_at:∀ k:Nat,4≤k→k≤8→∃ b r,opsD.funcsOut.atKey (.int .u8 (k:Int)) .nil = .held (b :: r)∧(((List.range Tryz.prog.funcs.size).filter fun f => (Tryz.prog.funcs[f]?).any (·.name.toUTF8.data.toList == b :: r))=[opFn k]):=by
 intro k h4 h8
 match k,h4,h8 with
 | 4,_,_ => exact ⟨_,_,rfl,by kernel_rfl⟩
 | 5,_,_ => exact ⟨_,_,rfl,by kernel_rfl⟩
 | 6,_,_ => exact ⟨_,_,rfl,by kernel_rfl⟩
 | 7,_,_ => exact ⟨_,_,rfl,by kernel_rfl⟩
 | 8,_,_ => exact ⟨_,_,rfl,by kernel_rfl⟩
set_option maxRecDepth 100000 in
theorem laid_look3 {W : World} (h : laidMetH Tryz.prog [("novation/observable.shapes", Rows.laid_novation_observable_shapes), ("novation/observable.operations", Rows.laid_novation_observable_operations), ("novation/contract.parts", Rows.laid_novation_contract_parts)] W) : LookS W ∧ LookP W ∧ LookO W := by
 obtain ⟨hS,hP⟩:=laid_plain (laidMetH_data h)
 refine ⟨hS,hP,?_⟩
 obtain ⟨g, t, cs, fuel, p, hg, ht, hv, hd⟩ := h.funcs (n := "novation/observable.operations") (d := opsD) (.tail _ (.head _))
 obtain rfl:=Option.some.inj (g_ops.symm.trans hg)
 obtain rfl:=Option.some.inj (t_ops.symm.trans ht)
 rcases open_map Tryz.underlying211 hd with ⟨_,hx⟩ | ⟨bm,es,clock,m,_,hcs,hb,_,F,hx⟩
 ·have:opsD.funcsOut = .nil:=(Prod.mk.inj hx).1
  cases this
 simp only [Prod.mk.injEq] at hx
 have hcell:W.cell? ⟨1,0,none⟩=some (.map (some bm)):=by
  have:=World.var?_cell hg hv 0
  rw [Array.eq_one_of_toList hcs] at this
  simpa using this
 refine ⟨bm,hcell,fun W' hB k h4 h8 => ?_⟩
 have hb':W'.heap[bm]? = some (.map es clock):=by rw [hB.block bm (lt_of_block hb)];exact hb
 obtain ⟨b,r,hat0,hone⟩:=ops_at k h4 h8
 obtain ⟨z,hz⟩:=zero_fn W'
 rcases fit_look false keyed_u8 Tryz.underlying211 hz hb' F (key_u8 (k:=k) (by omega)) with ⟨hrun,_,hat⟩ | ⟨e0,y,_,_,hrun,hRv,hat,_⟩
 ·have h1:=hat .nil
  rw [← hx.1,hat0] at h1
  cases h1
 ·have h1:=hat .nil
  rw [← hx.1,hat0] at h1
  unfold elemAt at hRv
  split at hRv
  ·rename_i hf
   obtain ⟨y1,y2⟩:=y
   dsimp only at h1
   subst h1
   have hc:e0.val.cells.toList=[e0.val]:=by
    cases hv:e0.val <;> rw [hv] at hf <;> simp [Value.formed,Tryz.underlying210] at hf <;> rfl
   rw [hc] at hRv
   have:=func_of_trod (f0:=opFn k) Tryz.underlying210 hone hRv
   rw [hrun,this]
   rfl
  ·cases hRv
end Go.Proofs.YtknpnhodpgajbaaGreatDoor

namespace Go.Proofs.YtknpnhodpgajbaaGreatDoor
open Go.ChangeShapes Go.WideShapes Go.ChangeAt Go.RowKit Go.Joins Go.Deep
theorem ownM:ownKnob Tryz.prog.godebug=none:=by kernel_rfl
set_option maxRecDepth 100000 in
theorem contractM (H:Type) (enc:TypeId × Value→H) (W:World) (args:Array Value) (ds gs:List (DataW H)) (before:List MemPlace)
  (hW:DataW.Whole enc Tryz.prog Tryz.f8.params.toList Rows.meaningNamesSpec.vars false W args.toList ds gs before)
  (hL:laidMetH Tryz.prog Rows.meaningNamesRow.laid W) :
  Calls Tryz.prog 8 args W fun e W' => ∃ v,e = .returned v∧Rows.meaningNamesSpec.post enc Tryz.prog Tryz.f8 false true false false W args v W':=by
 have hW':=hW
 obtain ⟨p,q,hA0,hV,rfl,hfz,hnd⟩:=hW
 have hA:DataW.TrodAll enc Tryz.prog W 0 (fun _ => true) true Tryz.f8.params.toList args.toList ds p:=hA0
 rw [Tryz.params8] at hA
 obtain ⟨hv,rfl,rfl⟩:=trodAll_nil hA
 obtain rfl:args=#[]:=by cases args;simp_all
 obtain ⟨rfl,rfl⟩:=trodVars_none hV
 obtain ⟨hS,hP,hO⟩:=laid_look3 hL
 clear hA0
 refine (names10_any W ⟨hS,hP,hO⟩).mono fun e W' ⟨he,bel⟩ => ?_
 subst he
 exact ⟨_,rfl,_,_,_,[],_,[],hW',trodAll_mk1 (shut_bool Tryz.underlying4 _),trodAll_mk0,rfl,bel.frame _,fun h => by cases h⟩
theorem metM (os:Os):laidMetH Tryz.prog Rows.meaningNamesRow.laid ((World.doorLaid Tryz.prog 176 os).forCall (fun _ _ => 0) ⟨#[],#[],[]⟩).memory :=
 laidMetH_of_parts3 (fuel:=8) (laidMet_of_run' 8 (by kernel_rfl) (by kernel_rfl)) (by kernel_rfl) (by kernel_rfl)
theorem readsM (os:Os) {H:Type} (enc:TypeId × Value→H):∃ places,DataW.whole enc Tryz.prog ((World.doorLaid Tryz.prog 176 os).forCall (fun _ _ => 0) ⟨#[],#[],[]⟩).memory Tryz.f8.params.toList Rows.meaningNamesSpec.vars false (#[]:Array Value).toList 8=some ([],[],places) :=
 ⟨[],by kernel_rfl⟩
set_option maxRecDepth 100000 in
theorem liftedM (os:Os) (started:os.Started) (H:Type) (enc:TypeId × Value→H) (F:Stop.Interp) :
  ReturnsInHanded {} Tryz.checked os 8 .any ((OpenSpec.ofChange Rows.meaningNamesSpec).preRow enc Tryz.prog Tryz.f8 Rows.meaningNamesRow.domain false Rows.meaningNamesRow.laid) (((OpenSpec.ofChange Rows.meaningNamesSpec).at F).post enc Tryz.prog Tryz.f8 false true false false):=by
 obtain ⟨places,hx⟩:=readsM os enc
 refine returnsInHanded_of_row (C:=Tryz.checked) (s:=OpenSpec.ofChange Rows.meaningNamesSpec) ownM started (by kernel_rfl) Tryz.func8
  (witness_row_atRef (enc:=enc) (C:=Tryz.checked) false (World.doorLaid Tryz.prog 176 os) #[] rfl (by kernel_rfl) (by kernel_rfl) (by kernel_rfl)
   (OpenSpec.preRow_of_cond 8 hx (by kernel_rfl) (fun k hk => by cases hk) (by kernel_rfl) (metM os))) ?_
 intro W base args ds gs before _ hW _ _ _ hL _ _
 exact contractM H enc W args ds gs before hW hL
theorem meaningNames_said:Rows.MeaningNamesSaid :=
 OpenClaim.holds_of_cond 8 Tryz.f8 rfl rfl rfl rfl rfl rfl rfl ⟨rfl,rfl,rfl,rfl,rfl⟩ rfl rfl rfl rfl rfl (by kernel_rfl) Tryz.func8 (by kernel_rfl)
  (of_decide_eq_true (by kernel_rfl)) (by unfold Func.isWrapper;first | (rw [if_pos (by decide +kernel)];kernel_rfl) | (rw [if_neg (by decide +kernel)];exact ⟨rfl,rfl⟩))
  (fun os started H enc _ F => by rw [OpenClaim.pre_eq_preRow];exact liftedM os started H enc F)
theorem plainM (f : FuncId) (fn : Func) (hf : Tryz.pinned.checked.prog.funcNamed "novation/novationlaw10.MeaningNames" = some f) (hfn : Tryz.pinned.checked.prog.funcs[f]? = some fn) :
  true=Tryz.pinned.checked.prog.looks []∧∀ (j:Nat) t,fn.params[j]? = some t→Tryz.pinned.checked.prog.wantsStandIn t=false:=by
 obtain rfl : f = 8 := Option.some.inj ((show Tryz.prog.funcNamed "novation/novationlaw10.MeaningNames" = some 8 by kernel_rfl).symm.trans hf) |>.symm
 obtain rfl:fn=Tryz.f8:=(Option.some.inj (Tryz.func8.symm.trans hfn)).symm
 refine ⟨by kernel_rfl,fun j t ht => ?_⟩
 rw [Tryz.params8] at ht
 simp at ht
theorem meaningNames_card:Rows.MeaningNamesCardSaid :=
 Claim7.holds_tied_plain_at .later [] _ _ _ _ meaningNames_said (fun _ h => by cases h) (by kernel_rfl) (fun _ h => by cases h) meaningNames_row_tie rfl ⟨rfl,rfl⟩ (by kernel_rfl) rfl plainM (by kernel_rfl)
#print axioms meaningNames_card
end Go.Proofs.YtknpnhodpgajbaaGreatDoor
