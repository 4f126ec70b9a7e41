/-
  The layings of slices.SortFunc at Need, Choice and int (written by the kit's lay-plain.mjs: tools/laysort.sh). Variables of any number of cells. observable.within. Orders: observable.fixings and choices; novationref08.fixBefore and pickBefore. integer.Check. (Printed by a program of this work.) rational.form.
-/
import Derived.Shelf.SlSortCmp.NoneTotal
import Derived.Ground.SlsfProg
import Derived.Test.YtflddbgadkndlaaGreatDoorProg
import Derived.Test.YtflddbgadkndlaaGreatDoorC04
import Derived.Test.YtflddbgadkndlaaGreatDoorC02
import Derived.Test.YtflddbgadkndlaaGreatDoorC01
namespace Go.Proofs
open Go.Shelf
def Tryz.laysNeed_ren : Go.Shelf.Ren := ⟨fun | 6 => 66 | 15 => 99 | 14 => 98 | 28 => 139 | 29 => 140 | 20 => 131 | 21 => 132 | 22 => 133 | 23 => 134 | 24 => 135 | 25 => 136 | 26 => 137 | 27 => 138 | 46 => 171 | 47 => 172 | 48 => 173 | 49 => 174 | 50 => 175 | 57 => 197 | n => n, fun | 22 => 32 | 24 => 58 | 25 => 87 | 3 => 3 | 39 => 144 | 0 => 0 | 53 => 171 | 55 => 173 | 4 => 4 | 46 => 165 | 45 => 164 | 50 => 72 | 5 => 5 | 9 => 9 | 66 => 199 | 70 => 203 | 76 => 226 | 77 => 227 | n => n, fun | n => n⟩
theorem Tryz.laysNeed : Go.Proofs.SlLaysF0.n6 Tryz.prog Tryz.laysNeed_ren := {
  mixed := by kernel_rfl
  f6 := ⟨Tryz.f66.name, by decide, Tryz.func66.trans (congrArg some (by kernel_rfl))⟩
  f14 := ⟨Tryz.f98.name, by decide, Tryz.func98.trans (congrArg some (by kernel_rfl))⟩
  f15 := Tryz.func99.trans (congrArg some (by kernel_rfl))
  f20 := ⟨Tryz.f131.name, by decide, Tryz.func131.trans (congrArg some (by kernel_rfl))⟩
  f21 := ⟨Tryz.f132.name, by decide, Tryz.func132.trans (congrArg some (by kernel_rfl))⟩
  f22 := ⟨Tryz.f133.name, by decide, Tryz.func133.trans (congrArg some (by kernel_rfl))⟩
  f23 := ⟨Tryz.f134.name, by decide, Tryz.func134.trans (congrArg some (by kernel_rfl))⟩
  f24 := ⟨Tryz.f135.name, by decide, Tryz.func135.trans (congrArg some (by kernel_rfl))⟩
  f25 := ⟨Tryz.f136.name, by decide, Tryz.func136.trans (congrArg some (by kernel_rfl))⟩
  f26 := ⟨Tryz.f137.name, by decide, Tryz.func137.trans (congrArg some (by kernel_rfl))⟩
  f27 := ⟨Tryz.f138.name, by decide, Tryz.func138.trans (congrArg some (by kernel_rfl))⟩
  f28 := Tryz.func139.trans (congrArg some (by kernel_rfl))
  f29 := Tryz.func140.trans (congrArg some (by kernel_rfl))
  f46 := ⟨Tryz.f171.name, by decide, Tryz.func171.trans (congrArg some (by kernel_rfl))⟩
  f47 := Tryz.func172.trans (congrArg some (by kernel_rfl))
  f48 := Tryz.func173.trans (congrArg some (by kernel_rfl))
  f49 := ⟨Tryz.f174.name, by decide, Tryz.func174.trans (congrArg some (by kernel_rfl))⟩
  f50 := ⟨Tryz.f175.name, by decide, Tryz.func175.trans (congrArg some (by kernel_rfl))⟩
  f57 := ⟨Tryz.f197.name, by decide, Tryz.func197.trans (congrArg some (by kernel_rfl))⟩
  t0 := Tryz.underlying0
  a0 := Tryz.isAgg0
  z0 := Tryz.sizeOf0
  v0 := Tryz.zeroValue0
  t3 := Tryz.underlying3
  a3 := Tryz.isAgg3
  z3 := Tryz.sizeOf3
  v3 := Tryz.zeroValue3
  t4 := Tryz.underlying4
  a4 := Tryz.isAgg4
  z4 := Tryz.sizeOf4
  v4 := Tryz.zeroValue4
  t5 := Tryz.underlying5
  a5 := Tryz.isAgg5
  z5 := Tryz.sizeOf5
  v5 := Tryz.zeroValue5
  t9 := Tryz.underlying9
  a9 := Tryz.isAgg9
  z9 := Tryz.sizeOf9
  v9 := Tryz.zeroValue9
  t22 := Tryz.underlying32
  a22 := Tryz.isAgg32
  z22 := Tryz.sizeOf32
  v22 := Tryz.zeroValue32
  t25 := Tryz.underlying87
  a25 := Tryz.isAgg87
  z25 := Tryz.sizeOf87
  v25 := Tryz.zeroValue87
  t39 := Tryz.underlying144
  a39 := Tryz.isAgg144
  z39 := Tryz.sizeOf144
  v39 := Tryz.zeroValue144
  t45 := Tryz.underlying164
  a45 := Tryz.isAgg164
  z45 := Tryz.sizeOf164
  v45 := Tryz.zeroValue164
  t46 := Tryz.underlying165
  a46 := Tryz.isAgg165
  z46 := Tryz.sizeOf165
  v46 := Tryz.zeroValue165
  t50 := Tryz.underlying72
  a50 := Tryz.isAgg72
  z50 := Tryz.sizeOf72
  v50 := Tryz.zeroValue72
  t53 := Tryz.underlying171
  a53 := Tryz.isAgg171
  z53 := Tryz.sizeOf171
  v53 := Tryz.zeroValue171
  t55 := Tryz.underlying173
  a55 := Tryz.isAgg173
  z55 := Tryz.sizeOf173
  v55 := Tryz.zeroValue173
  t66 := Tryz.underlying199
  a66 := Tryz.isAgg199
  z66 := Tryz.sizeOf199
  v66 := Tryz.zeroValue199
  t70 := Tryz.underlying203
  a70 := Tryz.isAgg203
  z70 := Tryz.sizeOf203
  v70 := Tryz.zeroValue203
  t76 := Tryz.underlying226
  a76 := Tryz.isAgg226
  z76 := Tryz.sizeOf226
  v76 := Tryz.zeroValue226
  t77 := Tryz.underlying227
  a77 := Tryz.isAgg227
  z77 := Tryz.sizeOf227
  v77 := Tryz.zeroValue227 }
def Tryz.laysChoice_ren : Go.Shelf.Ren := ⟨fun | 6 => 75 | 15 => 99 | 14 => 109 | 28 => 139 | 29 => 140 | 20 => 149 | 21 => 150 | 22 => 151 | 23 => 152 | 24 => 153 | 25 => 154 | 26 => 155 | 27 => 156 | 46 => 180 | 47 => 172 | 48 => 173 | 49 => 181 | 50 => 182 | 57 => 199 | n => n, fun | 22 => 38 | 24 => 60 | 25 => 97 | 3 => 3 | 39 => 144 | 0 => 0 | 53 => 171 | 55 => 173 | 4 => 4 | 46 => 165 | 45 => 164 | 50 => 72 | 5 => 5 | 9 => 9 | 66 => 199 | 70 => 203 | 76 => 226 | 77 => 227 | n => n, fun | n => n⟩
theorem Tryz.laysChoice : Go.Proofs.SlLaysF0.n6 Tryz.prog Tryz.laysChoice_ren := {
  mixed := by kernel_rfl
  f6 := ⟨Tryz.f75.name, by decide, Tryz.func75.trans (congrArg some (by kernel_rfl))⟩
  f14 := ⟨Tryz.f109.name, by decide, Tryz.func109.trans (congrArg some (by kernel_rfl))⟩
  f15 := Tryz.func99.trans (congrArg some (by kernel_rfl))
  f20 := ⟨Tryz.f149.name, by decide, Tryz.func149.trans (congrArg some (by kernel_rfl))⟩
  f21 := ⟨Tryz.f150.name, by decide, Tryz.func150.trans (congrArg some (by kernel_rfl))⟩
  f22 := ⟨Tryz.f151.name, by decide, Tryz.func151.trans (congrArg some (by kernel_rfl))⟩
  f23 := ⟨Tryz.f152.name, by decide, Tryz.func152.trans (congrArg some (by kernel_rfl))⟩
  f24 := ⟨Tryz.f153.name, by decide, Tryz.func153.trans (congrArg some (by kernel_rfl))⟩
  f25 := ⟨Tryz.f154.name, by decide, Tryz.func154.trans (congrArg some (by kernel_rfl))⟩
  f26 := ⟨Tryz.f155.name, by decide, Tryz.func155.trans (congrArg some (by kernel_rfl))⟩
  f27 := ⟨Tryz.f156.name, by decide, Tryz.func156.trans (congrArg some (by kernel_rfl))⟩
  f28 := Tryz.func139.trans (congrArg some (by kernel_rfl))
  f29 := Tryz.func140.trans (congrArg some (by kernel_rfl))
  f46 := ⟨Tryz.f180.name, by decide, Tryz.func180.trans (congrArg some (by kernel_rfl))⟩
  f47 := Tryz.func172.trans (congrArg some (by kernel_rfl))
  f48 := Tryz.func173.trans (congrArg some (by kernel_rfl))
  f49 := ⟨Tryz.f181.name, by decide, Tryz.func181.trans (congrArg some (by kernel_rfl))⟩
  f50 := ⟨Tryz.f182.name, by decide, Tryz.func182.trans (congrArg some (by kernel_rfl))⟩
  f57 := ⟨Tryz.f199.name, by decide, Tryz.func199.trans (congrArg some (by kernel_rfl))⟩
  t0 := Tryz.underlying0
  a0 := Tryz.isAgg0
  z0 := Tryz.sizeOf0
  v0 := Tryz.zeroValue0
  t3 := Tryz.underlying3
  a3 := Tryz.isAgg3
  z3 := Tryz.sizeOf3
  v3 := Tryz.zeroValue3
  t4 := Tryz.underlying4
  a4 := Tryz.isAgg4
  z4 := Tryz.sizeOf4
  v4 := Tryz.zeroValue4
  t5 := Tryz.underlying5
  a5 := Tryz.isAgg5
  z5 := Tryz.sizeOf5
  v5 := Tryz.zeroValue5
  t9 := Tryz.underlying9
  a9 := Tryz.isAgg9
  z9 := Tryz.sizeOf9
  v9 := Tryz.zeroValue9
  t22 := Tryz.underlying38
  a22 := Tryz.isAgg38
  z22 := Tryz.sizeOf38
  v22 := Tryz.zeroValue38
  t25 := Tryz.underlying97
  a25 := Tryz.isAgg97
  z25 := Tryz.sizeOf97
  v25 := Tryz.zeroValue97
  t39 := Tryz.underlying144
  a39 := Tryz.isAgg144
  z39 := Tryz.sizeOf144
  v39 := Tryz.zeroValue144
  t45 := Tryz.underlying164
  a45 := Tryz.isAgg164
  z45 := Tryz.sizeOf164
  v45 := Tryz.zeroValue164
  t46 := Tryz.underlying165
  a46 := Tryz.isAgg165
  z46 := Tryz.sizeOf165
  v46 := Tryz.zeroValue165
  t50 := Tryz.underlying72
  a50 := Tryz.isAgg72
  z50 := Tryz.sizeOf72
  v50 := Tryz.zeroValue72
  t53 := Tryz.underlying171
  a53 := Tryz.isAgg171
  z53 := Tryz.sizeOf171
  v53 := Tryz.zeroValue171
  t55 := Tryz.underlying173
  a55 := Tryz.isAgg173
  z55 := Tryz.sizeOf173
  v55 := Tryz.zeroValue173
  t66 := Tryz.underlying199
  a66 := Tryz.isAgg199
  z66 := Tryz.sizeOf199
  v66 := Tryz.zeroValue199
  t70 := Tryz.underlying203
  a70 := Tryz.isAgg203
  z70 := Tryz.sizeOf203
  v70 := Tryz.zeroValue203
  t76 := Tryz.underlying226
  a76 := Tryz.isAgg226
  z76 := Tryz.sizeOf226
  v76 := Tryz.zeroValue226
  t77 := Tryz.underlying227
  a77 := Tryz.isAgg227
  z77 := Tryz.sizeOf227
  v77 := Tryz.zeroValue227 }
def Tryz.laysInt_ren : Go.Shelf.Ren := ⟨fun | 6 => 78 | 15 => 99 | 14 => 110 | 28 => 139 | 29 => 140 | 20 => 157 | 21 => 158 | 22 => 159 | 23 => 160 | 24 => 161 | 25 => 162 | 26 => 163 | 27 => 164 | 46 => 183 | 47 => 172 | 48 => 173 | 49 => 184 | 50 => 185 | 57 => 200 | n => n, fun | 22 => 26 | 24 => 3 | 25 => 102 | 3 => 3 | 39 => 144 | 0 => 0 | 53 => 171 | 55 => 173 | 4 => 4 | 46 => 165 | 45 => 164 | 50 => 72 | 5 => 5 | 9 => 9 | 66 => 199 | 70 => 203 | 76 => 226 | 77 => 227 | n => n, fun | n => n⟩
theorem Tryz.laysInt : Go.Proofs.SlLaysF.n6 Tryz.prog Tryz.laysInt_ren := {
  mixed := by kernel_rfl
  f6 := ⟨Tryz.f78.name, by decide, Tryz.func78.trans (congrArg some (by kernel_rfl))⟩
  f14 := ⟨Tryz.f110.name, by decide, Tryz.func110.trans (congrArg some (by kernel_rfl))⟩
  f15 := Tryz.func99.trans (congrArg some (by kernel_rfl))
  f20 := ⟨Tryz.f157.name, by decide, Tryz.func157.trans (congrArg some (by kernel_rfl))⟩
  f21 := ⟨Tryz.f158.name, by decide, Tryz.func158.trans (congrArg some (by kernel_rfl))⟩
  f22 := ⟨Tryz.f159.name, by decide, Tryz.func159.trans (congrArg some (by kernel_rfl))⟩
  f23 := ⟨Tryz.f160.name, by decide, Tryz.func160.trans (congrArg some (by kernel_rfl))⟩
  f24 := ⟨Tryz.f161.name, by decide, Tryz.func161.trans (congrArg some (by kernel_rfl))⟩
  f25 := ⟨Tryz.f162.name, by decide, Tryz.func162.trans (congrArg some (by kernel_rfl))⟩
  f26 := ⟨Tryz.f163.name, by decide, Tryz.func163.trans (congrArg some (by kernel_rfl))⟩
  f27 := ⟨Tryz.f164.name, by decide, Tryz.func164.trans (congrArg some (by kernel_rfl))⟩
  f28 := Tryz.func139.trans (congrArg some (by kernel_rfl))
  f29 := Tryz.func140.trans (congrArg some (by kernel_rfl))
  f46 := ⟨Tryz.f183.name, by decide, Tryz.func183.trans (congrArg some (by kernel_rfl))⟩
  f47 := Tryz.func172.trans (congrArg some (by kernel_rfl))
  f48 := Tryz.func173.trans (congrArg some (by kernel_rfl))
  f49 := ⟨Tryz.f184.name, by decide, Tryz.func184.trans (congrArg some (by kernel_rfl))⟩
  f50 := ⟨Tryz.f185.name, by decide, Tryz.func185.trans (congrArg some (by kernel_rfl))⟩
  f57 := ⟨Tryz.f200.name, by decide, Tryz.func200.trans (congrArg some (by kernel_rfl))⟩
  t0 := Tryz.underlying0
  a0 := Tryz.isAgg0
  z0 := Tryz.sizeOf0
  v0 := Tryz.zeroValue0
  t3 := Tryz.underlying3
  a3 := Tryz.isAgg3
  z3 := Tryz.sizeOf3
  v3 := Tryz.zeroValue3
  t4 := Tryz.underlying4
  a4 := Tryz.isAgg4
  z4 := Tryz.sizeOf4
  v4 := Tryz.zeroValue4
  t5 := Tryz.underlying5
  a5 := Tryz.isAgg5
  z5 := Tryz.sizeOf5
  v5 := Tryz.zeroValue5
  t9 := Tryz.underlying9
  a9 := Tryz.isAgg9
  z9 := Tryz.sizeOf9
  v9 := Tryz.zeroValue9
  t22 := Tryz.underlying26
  a22 := Tryz.isAgg26
  z22 := Tryz.sizeOf26
  v22 := Tryz.zeroValue26
  a24 := Tryz.isAgg3
  z24 := Tryz.sizeOf3
  t25 := Tryz.underlying102
  a25 := Tryz.isAgg102
  z25 := Tryz.sizeOf102
  v25 := Tryz.zeroValue102
  t39 := Tryz.underlying144
  a39 := Tryz.isAgg144
  z39 := Tryz.sizeOf144
  v39 := Tryz.zeroValue144
  t45 := Tryz.underlying164
  a45 := Tryz.isAgg164
  z45 := Tryz.sizeOf164
  v45 := Tryz.zeroValue164
  t46 := Tryz.underlying165
  a46 := Tryz.isAgg165
  z46 := Tryz.sizeOf165
  v46 := Tryz.zeroValue165
  t50 := Tryz.underlying72
  a50 := Tryz.isAgg72
  z50 := Tryz.sizeOf72
  v50 := Tryz.zeroValue72
  t53 := Tryz.underlying171
  a53 := Tryz.isAgg171
  z53 := Tryz.sizeOf171
  v53 := Tryz.zeroValue171
  t55 := Tryz.underlying173
  a55 := Tryz.isAgg173
  z55 := Tryz.sizeOf173
  v55 := Tryz.zeroValue173
  t66 := Tryz.underlying199
  a66 := Tryz.isAgg199
  z66 := Tryz.sizeOf199
  v66 := Tryz.zeroValue199
  t70 := Tryz.underlying203
  a70 := Tryz.isAgg203
  z70 := Tryz.sizeOf203
  v70 := Tryz.zeroValue203
  t76 := Tryz.underlying226
  a76 := Tryz.isAgg226
  z76 := Tryz.sizeOf226
  v76 := Tryz.zeroValue226
  t77 := Tryz.underlying227
  a77 := Tryz.isAgg227
  z77 := Tryz.sizeOf227
  v77 := Tryz.zeroValue227 }
end Go.Proofs

namespace Go.Proofs.YtflddbgadkndlaaGreatDoor
open Go.RowKit

def BoxN (W : World) (B : Nat) (t : TypeId) (cs : List Value) : Prop := W.heap[B]? = some (.cells cs.toArray t (0, 0))
section
variable {W W' : World} {B : Nat} {t : TypeId} {cs : List Value}
theorem BoxN.lt (h : BoxN W B t cs) : B < W.heap.size := (Array.getElem?_eq_some_iff.1 h).1
theorem BoxN.cell (h : BoxN W B t cs) {j : Nat} {u : Value} (hj : cs[j]? = some u) : W.cell? ⟨B, j, none⟩ = some u := by
  simp [World.cell?, show W.heap[B]? = _ from h, hj]
theorem BoxN.frozen (h : BoxN W B t cs) (o : Nat) : W.frozen? ⟨B, o, none⟩ = false := by simp [World.frozen?, show W.heap[B]? = _ from h]
theorem BoxN.of_block (h : BoxN W B t cs) (e : W'.heap[B]? = W.heap[B]?) : BoxN W' B t cs := e.trans h
theorem BoxN.new (w : World) (cs : List Value) (t : TypeId) : BoxN (w.alloc (.cells cs.toArray t)) w.heap.size t cs := by
  show (w.heap.push _)[w.heap.size]? = _
  simp
theorem BoxN.alloc (h : BoxN W B t cs) (o : Obj) : BoxN (W.alloc o) B t cs := h.of_block (Below.heap_alloc _ _ _ h.lt)
theorem BoxN.below {B0 : Nat} (h : BoxN W B t cs) (hb : Below B0 W W') (hB : B < B0) : BoxN W' B t cs := h.of_block (hb.block _ hB)
theorem BoxN.set (h : BoxN W B t cs) (j : Nat) (x : Value) : BoxN (W.setCell ⟨B, j, none⟩ x) B t (cs.set j x) := by
  have e := heap_set_same h j x
  unfold BoxN
  rw [e]
  simp
theorem BoxN.far (h : BoxN W B t cs) {a : Addr} (ha : B ≠ a.block) (x : Value) : BoxN (W.setCell a x) B t cs := h.of_block (Below.heap_setCell _ _ _ _ ha)
end
theorem Boxed2.far {W : World} {B : Nat} {t : TypeId} {u v : Value} (h : Boxed2 W B t u v) {a : Addr} (ha : B ≠ a.block) (x : Value) : Boxed2 (W.setCell a x) B t u v := h.of_block (Below.heap_setCell _ _ _ _ ha)
theorem Boxed2.low {W W' : World} {B B0 : Nat} {t : TypeId} {u v : Value} (h : Boxed2 W B t u v) (hb : Below B0 W W') (hB : B < B0) : Boxed2 W' B t u v := h.of_block (hb.block _ hB)
theorem Boxed2.n {W : World} {B : Nat} {t : TypeId} {u v : Value} (h : Boxed2 W B t u v) : BoxN W B t [u, v] := h
theorem BoxN.two {W : World} {B : Nat} {t : TypeId} {u v : Value} (h : BoxN W B t [u, v]) : Boxed2 W B t u v := h
end Go.Proofs.YtflddbgadkndlaaGreatDoor

namespace Go.Proofs.YtflddbgadkndlaaGreatDoor
open Go.RowKit
set_option maxRecDepth 100000 in
theorem within_any (d : Int) (w : World) : Calls Tryz.prog 82 #[.int .i64 d] w fun e w' => e = .returned (.bool (isDay d)) ∧ w = w' := by
  go_enter Tryz.func82, Tryz.ntmps82
  go_wp2
  all_goals
    go_ret
    refine ⟨ret_bool' ?_, rfl⟩
    rw [Bool.eq_iff_iff]; simp [isDay]; omega
end Go.Proofs.YtflddbgadkndlaaGreatDoor

namespace Go.Proofs.YtflddbgadkndlaaGreatDoor
open Go.RowKit

/-- A fixing, a choice, as a value. -/
def fxV (n : ByteArray) (d : Int) (v : ByteArray) : Value := .agg #[.string n, .int .i64 d, .string v]
def chV (p n : ByteArray) (d : Int) (f : Bool) : Value := .agg #[.string p, .string n, .int .i64 d, .bool f]

set_option maxHeartbeats 400000 in
set_option maxRecDepth 100000 in
theorem fixings_any (n1 v1 n2 v2 : ByteArray) (d1 d2 : Int) (w : World) :
    Calls Tryz.prog 88 #[fxV n1 d1 v1, fxV n2 d2 v2] w fun e w' => e = .returned (.int .i64 (fxCmp n1 d1 n2 d2)) ∧ Below w.heap.size w w' := by
  unfold fxV fxCmp
  go_enter Tryz.func88, Tryz.ntmps88
  go_wp2
  go_region_held3 (fun w' => w'.cell? ⟨w.heap.size, 0, none⟩ = some (.string n1) ∧ w'.cell? ⟨w.heap.size, 1, none⟩ = some (.int .i64 d1) ∧ w'.cell? ⟨w.heap.size + 1, 0, none⟩ = some (.string n2) ∧ w'.cell? ⟨w.heap.size + 1, 1, none⟩ = some (.int .i64 d2)) (go_keep)
    (first | (go_at_call 70; refine (cmpS_any _ _ _).mono ?_; rintro e w' ⟨rfl, rfl⟩) | (go_at_call 71; refine (cmpI_any _ _ _).mono ?_; rintro e w' ⟨rfl, rfl⟩) | (go_at_call 69; refine (or2_any (cmpS n1 n2) (cmpI d1 d2) _ _ ?_ ?_).mono ?_; (go_simp); (go_simp); rintro e w' ⟨rfl, rfl⟩))
  all_goals
    go_wp2
    go_ret
    exact ⟨rfl, (below_a3 _ _ _ _).drew⟩

set_option maxHeartbeats 1000000 in
set_option maxRecDepth 100000 in
theorem choices_any (p1 n1 p2 n2 : ByteArray) (d1 d2 : Int) (f1 f2 : Bool) (w : World) :
    Calls Tryz.prog 90 #[chV p1 n1 d1 f1, chV p2 n2 d2 f2] w fun e w' => e = .returned (.int .i64 (chCmp p1 n1 d1 p2 n2 d2)) ∧ Below w.heap.size w w' := by
  unfold chV chCmp
  go_enter Tryz.func90, Tryz.ntmps90
  go_wp2
  go_region_held3 (fun w' => w'.cell? ⟨w.heap.size, 0, none⟩ = some (.string p1) ∧ w'.cell? ⟨w.heap.size, 1, none⟩ = some (.string n1) ∧ w'.cell? ⟨w.heap.size, 2, none⟩ = some (.int .i64 d1) ∧ w'.cell? ⟨w.heap.size + 1, 0, none⟩ = some (.string p2) ∧ w'.cell? ⟨w.heap.size + 1, 1, none⟩ = some (.string n2) ∧ w'.cell? ⟨w.heap.size + 1, 2, none⟩ = some (.int .i64 d2)) (go_keep)
    (first | (go_at_call 70; refine (cmpS_any _ _ _).mono ?_; rintro e w' ⟨rfl, rfl⟩) | (go_at_call 71; refine (cmpI_any _ _ _).mono ?_; rintro e w' ⟨rfl, rfl⟩) | (go_at_call 69; refine (or3_any (cmpS p1 p2) (cmpS n1 n2) (cmpI d1 d2) _ _ ?_ ?_ ?_).mono ?_; (go_simp); (go_simp); (go_simp); rintro e w' ⟨rfl, rfl⟩))
  all_goals
    go_wp2
    go_ret
    exact ⟨rfl, (below_a3 _ _ _ _).drew⟩
end Go.Proofs.YtflddbgadkndlaaGreatDoor

namespace Go.Proofs.YtflddbgadkndlaaGreatDoor
open Go.RowKit

set_option maxHeartbeats 1000000 in
set_option maxRecDepth 100000 in
theorem check_empty (s : ByteArray) (w : World) (_hl : s.size ≤ 9223372036854775807) (h0 : s.size = 0) :
    Calls Tryz.prog 114 #[.string s] w fun e w' => e = .returned (.int .i64 (intErr (bl s))) ∧ w = w' := by
  have HF : Hid (intErr (bl s) = 12) := by
    have : bl s = [] := List.eq_nil_of_length_eq_zero (by rw [bl_length]; exact h0)
    rw [this]; rfl
  have h1 : s.toList = [] := by rw [Lib.toList_data]; exact List.eq_nil_of_length_eq_zero (by rw [← bl_length] at h0; exact h0)
  have h2 : ¬ 0 < s.size := by omega
  clear h0
  go_enter Tryz.func114, Tryz.ntmps114
  go_wp2
  go_ret
  exact ⟨ret_int' HF.out.symm, rfl⟩

set_option maxHeartbeats 1000000 in
set_option maxRecDepth 100000 in
theorem check_zero (s : ByteArray) (w : World) (hl : s.size ≤ 9223372036854775807) (h1 : 1 < s.size) (h0 : s[0] = 48) :
    Calls Tryz.prog 114 #[.string s] w fun e w' => e = .returned (.int .i64 (intErr (bl s))) ∧ w = w' := by
  have HF : Hid (intErr (bl s) = 12) := by
    have e := bl_cons s (by omega)
    rw [h0] at e
    have hn : (bl s).tail ≠ [] := fun hh => by have := congrArg List.length e; rw [hh, bl_length] at this; simp at this; omega
    rw [e]
    cases ht : (bl s).tail with
    | nil => exact absurd ht hn
    | cons a b => show _ = _; simp [intErr, canonI, body, isNeg, canonD]
  have h2 : s.toList.isEmpty = false := toList_ne s (by omega)
  have h4 : (0 : Nat) < s.size := by omega
  go_enter Tryz.func114, Tryz.ntmps114
  go_wp2
  go_ret
  exact ⟨ret_int' HF.out.symm, rfl⟩

set_option maxHeartbeats 1000000 in
set_option maxRecDepth 100000 in
theorem check_digits (s : ByteArray) (w : World) (hl : s.size ≤ 9223372036854775807) (h1 : 0 < s.size) (hm : s[0] ≠ 45) (h0 : s[0] ≠ 48 ∨ s.size = 1) :
    Calls Tryz.prog 114 #[.string s] w fun e w' => e = .returned (.int .i64 (intErr (bl s))) ∧ w = w' := by
  have HC : Hid (intErr (bl s) = if (bl s).all isDig = true then (if 1000 < s.size then 14 else 0) else 12) := by
    show _ = _
    have e := bl_cons s h1
    rw [intErr_pos (by rw [e]; simpa using hm), canonD, ← bl_length]
    have a1 : (bl s).isEmpty = false := by rw [e]; rfl
    have a2 : ((bl s).head? == some 48 && (decide (1 < (bl s).length) || false)) = false := by
      rcases h0 with h0 | h0
      · rw [e]; simp; intro hh; exact absurd hh h0
      · rw [bl_length, h0]; simp
    rw [a1, a2]; simp
  obtain ⟨c0, hc0⟩ : ∃ c, s[0] = c := ⟨_, rfl⟩
  have hm1 : ((c0.toNat : Int) == 45) = false := by rw [hc0] at hm; simpa using fun hh : (c0.toNat : Int) = 45 => hm (UInt8.toNat_inj.1 (by simpa using (by omega : c0.toNat = 45)))
  have h2 : s.toList.isEmpty = false := toList_ne s h1
  rw [hc0] at h0 hm
  have H0 := Lib.hid h0; clear h0 hm
  have hpre : (((c0.toNat : Int) == 48) = false) ∨ (((c0.toNat : Int) == 48) = true ∧ ¬ 1 < s.size) := by
    rcases H0.out with h | h
    · exact .inl (by simpa using fun hh : (c0.toNat : Int) = 48 => h (UInt8.toNat_inj.1 (by simpa using (by omega : c0.toNat = 48))))
    · cases hb : ((c0.toNat : Int) == 48)
      · exact .inl rfl
      · exact .inr ⟨rfl, by omega⟩
  rcases hpre with hp | ⟨hp, hq⟩
  · go_enter Tryz.func114, Tryz.ntmps114
    go_wp2_with fail
    go_loopw [32] (fun i wr => ∃ k : Nat, k ≤ s.size ∧ i = .int .i64 k ∧ Hid (((bl s).take k).all isDig = true) ∧ wr = w)
      (fun i _ => s.size - (intOf i).toNat)
    case atStart => exact ⟨0, Nat.zero_le _, rfl, rfl, rfl⟩
    case round =>
      obtain ⟨k, hk, rfl, Hk, rfl⟩ := hrel
      by_cases hlt : k < s.size
      · obtain ⟨c, hc⟩ : ∃ c, s[k] = c := ⟨_, rfl⟩
        have hcb : c.toNat < 256 := c.toNat_lt
        have Hcl := Lib.hid (take_succ_all isDig s k hlt)
        rw [hc] at Hcl
        by_cases h1 : c.toNat < 48
        · have HF : Hid (intErr (bl s) = 12) := by
            show _ = _
            rw [HC.out, if_neg]
            intro hall
            have := all_take_of_all isDig (bl s) (k + 1) hall
            rw [Hcl.out] at this
            simp [isDig] at this
            omega
          have d1 : decide (((c.toNat : Nat) : Int) < 48) = true := by rw [decide_eq_true_eq]; omega
          have d1' : ¬ ((48 : Int) ≤ ((c.toNat : Nat) : Int)) := by omega
          go_wp2
          go_ret
          exact ⟨ret_int' HF.out.symm, rfl⟩
        · have d1 : decide (((c.toNat : Nat) : Int) < 48) = false := by rw [decide_eq_false_iff_not]; omega
          by_cases h2 : c.toNat ≤ 57
          · have d2 : decide ((57 : Int) < ((c.toNat : Nat) : Int)) = false := by rw [decide_eq_false_iff_not]; omega
            have Hk2 : Hid (((bl s).take (k + 1)).all isDig = true) := by
              show _ = true
              rw [Hcl.out, Hk.out]
              simp [isDig]; omega
            clear Hcl Hk
            go_wp2
            go_roundw
            case rel => exact ⟨k + 1, by omega, by go_num, Hk2, by trivial⟩
            case measure => simp [intOf]; omega
          · have d2 : decide ((57 : Int) < ((c.toNat : Nat) : Int)) = true := by rw [decide_eq_true_eq]; omega
            have d2' : ¬ (((c.toNat : Nat) : Int) ≤ 57) := by omega
            have HF : Hid (intErr (bl s) = 12) := by
              show _ = _
              rw [HC.out, if_neg]
              intro hall
              have := all_take_of_all isDig (bl s) (k + 1) hall
              rw [Hcl.out] at this
              simp [isDig] at this
              omega
            clear Hcl Hk
            go_wp2
            go_ret
            exact ⟨ret_int' HF.out.symm, rfl⟩
      · obtain rfl : k = s.size := by omega
        have hall : (bl s).all isDig = true := by
          have := Hk.out
          rw [List.take_of_length_le (by rw [bl_length]; exact Nat.le_refl _)] at this
          exact this
        have Hall := Lib.hid hall; clear hall
        by_cases hbig : 1000 < s.size
        · have HF : Hid (intErr (bl s) = 14) := by show _ = _; rw [HC.out, if_pos Hall.out, if_pos hbig]
          have d3 : decide ((1000 : Int) < ((s.size : Nat) : Int)) = true := by rw [decide_eq_true_eq]; omega
          have d3' : ¬ (((s.size : Nat) : Int) ≤ 1000) := by omega
          go_wp2
          go_ret
          exact ⟨ret_int' HF.out.symm, rfl⟩
        · have HF : Hid (intErr (bl s) = 0) := by show _ = _; rw [HC.out, if_pos Hall.out, if_neg hbig]
          have d3 : decide ((1000 : Int) < ((s.size : Nat) : Int)) = false := by rw [decide_eq_false_iff_not]; omega
          go_wp2
          go_ret
          exact ⟨ret_int' HF.out.symm, rfl⟩
  · go_enter Tryz.func114, Tryz.ntmps114
    go_wp2_with fail
    go_loopw [32] (fun i wr => ∃ k : Nat, k ≤ s.size ∧ i = .int .i64 k ∧ Hid (((bl s).take k).all isDig = true) ∧ wr = w)
      (fun i _ => s.size - (intOf i).toNat)
    case atStart => exact ⟨0, Nat.zero_le _, rfl, rfl, rfl⟩
    case round =>
      obtain ⟨k, hk, rfl, Hk, rfl⟩ := hrel
      by_cases hlt : k < s.size
      · obtain ⟨c, hc⟩ : ∃ c, s[k] = c := ⟨_, rfl⟩
        have hcb : c.toNat < 256 := c.toNat_lt
        have Hcl := Lib.hid (take_succ_all isDig s k hlt)
        rw [hc] at Hcl
        by_cases h1 : c.toNat < 48
        · have HF : Hid (intErr (bl s) = 12) := by
            show _ = _
            rw [HC.out, if_neg]
            intro hall
            have := all_take_of_all isDig (bl s) (k + 1) hall
            rw [Hcl.out] at this
            simp [isDig] at this
            omega
          have d1 : decide (((c.toNat : Nat) : Int) < 48) = true := by rw [decide_eq_true_eq]; omega
          have d1' : ¬ ((48 : Int) ≤ ((c.toNat : Nat) : Int)) := by omega
          go_wp2
          go_ret
          exact ⟨ret_int' HF.out.symm, rfl⟩
        · have d1 : decide (((c.toNat : Nat) : Int) < 48) = false := by rw [decide_eq_false_iff_not]; omega
          by_cases h2 : c.toNat ≤ 57
          · have d2 : decide ((57 : Int) < ((c.toNat : Nat) : Int)) = false := by rw [decide_eq_false_iff_not]; omega
            have Hk2 : Hid (((bl s).take (k + 1)).all isDig = true) := by
              show _ = true
              rw [Hcl.out, Hk.out]
              simp [isDig]; omega
            clear Hcl Hk
            go_wp2
            go_roundw
            case rel => exact ⟨k + 1, by omega, by go_num, Hk2, by trivial⟩
            case measure => simp [intOf]; omega
          · have d2 : decide ((57 : Int) < ((c.toNat : Nat) : Int)) = true := by rw [decide_eq_true_eq]; omega
            have d2' : ¬ (((c.toNat : Nat) : Int) ≤ 57) := by omega
            have HF : Hid (intErr (bl s) = 12) := by
              show _ = _
              rw [HC.out, if_neg]
              intro hall
              have := all_take_of_all isDig (bl s) (k + 1) hall
              rw [Hcl.out] at this
              simp [isDig] at this
              omega
            clear Hcl Hk
            go_wp2
            go_ret
            exact ⟨ret_int' HF.out.symm, rfl⟩
      · obtain rfl : k = s.size := by omega
        have hall : (bl s).all isDig = true := by
          have := Hk.out
          rw [List.take_of_length_le (by rw [bl_length]; exact Nat.le_refl _)] at this
          exact this
        have Hall := Lib.hid hall; clear hall
        by_cases hbig : 1000 < s.size
        · have HF : Hid (intErr (bl s) = 14) := by show _ = _; rw [HC.out, if_pos Hall.out, if_pos hbig]
          have d3 : decide ((1000 : Int) < ((s.size : Nat) : Int)) = true := by rw [decide_eq_true_eq]; omega
          have d3' : ¬ (((s.size : Nat) : Int) ≤ 1000) := by omega
          go_wp2
          go_ret
          exact ⟨ret_int' HF.out.symm, rfl⟩
        · have HF : Hid (intErr (bl s) = 0) := by show _ = _; rw [HC.out, if_pos Hall.out, if_neg hbig]
          have d3 : decide ((1000 : Int) < ((s.size : Nat) : Int)) = false := by rw [decide_eq_false_iff_not]; omega
          go_wp2
          go_ret
          exact ⟨ret_int' HF.out.symm, rfl⟩

set_option maxHeartbeats 1000000 in
set_option maxRecDepth 100000 in
theorem check_neg_bad (s : ByteArray) (w : World) (hl : s.size ≤ 9223372036854775807) (h1 : 0 < s.size) (hm : s[0] = 45) (t : ByteArray) (ht : s.extract 1 s.size = t) (hb : t.size = 0 ∨ ∃ h : 0 < t.size, t[0] = 48) :
    Calls Tryz.prog 114 #[.string s] w fun e w' => e = .returned (.int .i64 (intErr (bl s))) ∧ w = w' := by
  have e := bl_cons s h1
  have et := bl_tail s h1
  rw [ht] at et
  have HF : Hid (intErr (bl s) = 12) := by
    show _ = _
    rw [e, hm, ← et, intErr_cons_neg, if_neg]
    rcases hb with hb | ⟨hb, hc⟩
    · have : bl t = [] := List.eq_nil_of_length_eq_zero (by rw [bl_length]; exact hb)
      rw [this]; decide
    · rw [bl_cons t hb, hc]; simp [canonD]
  have hsz : s.size - 1 = t.size := by rw [← bl_length, ← bl_length, et]; simp
  have hme : t.size ≤ 9223372036854775807 := by omega
  clear e et
  have Hsz := Lib.hid hsz; clear hsz
  rcases hb with hb | ⟨hb, hc⟩
  · have h2 : t.toList = [] := by rw [Lib.toList_data]; exact List.eq_nil_of_length_eq_zero (by rw [← bl_length] at hb; exact hb)
    have h3 : (t.toList == [48]) = false := by rw [h2]; rfl
    have h4 : ¬ 0 < t.size := by omega
    clear hb
    go_enter Tryz.func114, Tryz.ntmps114
    go_wp2
    go_ret
    exact ⟨ret_int' HF.out.symm, rfl⟩
  · by_cases h5 : t.size = 1
    · have h3 : (t.toList == [48]) = true := by
        rw [Lib.toList_data]
        have := bl_cons t hb
        have hn : (bl t).tail = [] := List.eq_nil_of_length_eq_zero (by rw [List.length_tail, bl_length]; omega)
        rw [hn, hc] at this
        show ((bl t) == [48]) = true
        rw [this]; rfl
      clear h5
      go_enter Tryz.func114, Tryz.ntmps114
      go_wp2
      go_ret
      exact ⟨ret_int' HF.out.symm, rfl⟩
    · have h2 : t.toList.isEmpty = false := toList_ne t hb
      have h3 : (t.toList == [48]) = false := by
        rw [Lib.toList_data, Bool.eq_false_iff]
        intro hh
        have := congrArg List.length (eq_of_beq hh)
        have h6 : (bl t).length = t.size := bl_length t
        simp [bl] at h6
        simp at this
        omega
      have h6 : 1 < t.size := by omega
      clear h5
      go_enter Tryz.func114, Tryz.ntmps114
      go_wp2
      go_ret
      exact ⟨ret_int' HF.out.symm, rfl⟩

set_option maxHeartbeats 1000000 in
set_option maxRecDepth 100000 in
theorem check_neg (s : ByteArray) (w : World) (hl : s.size ≤ 9223372036854775807) (h1 : 0 < s.size) (hm : s[0] = 45) (t : ByteArray) (ht : s.extract 1 s.size = t) (h2 : 0 < t.size) (h0 : t[0] ≠ 48) :
    Calls Tryz.prog 114 #[.string s] w fun e w' => e = .returned (.int .i64 (intErr (bl s))) ∧ w = w' := by
  have e := bl_cons s h1
  have et := bl_tail s h1
  rw [ht] at et
  have HC : Hid (intErr (bl s) = if (bl t).all isDig = true then (if 1000 < t.size then 14 else 0) else 12) := by
    show _ = _
    rw [e, hm, ← et, intErr_cons_neg, canonD, ← bl_length]
    have a1 : (bl t).isEmpty = false := by rw [bl_cons t h2]; rfl
    have a2 : ((bl t).head? == some 48 && (decide (1 < (bl t).length) || true)) = false := by rw [bl_cons t h2]; simpa using h0
    rw [a1, a2]; simp
  have hsz : s.size - 1 = t.size := by rw [← bl_length, ← bl_length, et]; simp
  have hme : t.size ≤ 9223372036854775807 := by omega
  clear e et
  have Hsz := Lib.hid hsz; clear hsz
  obtain ⟨c0, hc0⟩ : ∃ c, t[0] = c := ⟨_, rfl⟩
  have h5 : t.toList.isEmpty = false := toList_ne t h2
  have h3 : (t.toList == [48]) = false := by
    rw [Lib.toList_data, Bool.eq_false_iff]
    intro hh
    have h6 := bl_cons t h2
    have h7 : bl t = [48] := eq_of_beq hh
    rw [h7] at h6
    exact h0 (List.cons.inj h6).1.symm
  rw [hc0] at h0
  have hp : ((c0.toNat : Int) == 48) = false := by simpa using fun hh : (c0.toNat : Int) = 48 => h0 (UInt8.toNat_inj.1 (by simpa using (by omega : c0.toNat = 48)))
  clear h0
  go_enter Tryz.func114, Tryz.ntmps114
  go_wp2_with fail
  go_loopw [32] (fun i wr => ∃ k : Nat, k ≤ t.size ∧ i = .int .i64 k ∧ Hid (((bl t).take k).all isDig = true) ∧ wr = w)
    (fun i _ => t.size - (intOf i).toNat)
  case atStart => exact ⟨0, Nat.zero_le _, rfl, rfl, rfl⟩
  case round =>
    obtain ⟨k, hk, rfl, Hk, rfl⟩ := hrel
    by_cases hlt : k < t.size
    · obtain ⟨c, hc⟩ : ∃ c, t[k] = c := ⟨_, rfl⟩
      have hcb : c.toNat < 256 := c.toNat_lt
      have Hcl := Lib.hid (take_succ_all isDig t k hlt)
      rw [hc] at Hcl
      by_cases h1 : c.toNat < 48
      · have HF : Hid (intErr (bl s) = 12) := by
          show _ = _
          rw [HC.out, if_neg]
          intro hall
          have := all_take_of_all isDig (bl t) (k + 1) hall
          rw [Hcl.out] at this
          simp [isDig] at this
          omega
        have d1 : decide (((c.toNat : Nat) : Int) < 48) = true := by rw [decide_eq_true_eq]; omega
        have d1' : ¬ ((48 : Int) ≤ ((c.toNat : Nat) : Int)) := by omega
        go_wp2
        go_ret
        exact ⟨ret_int' HF.out.symm, rfl⟩
      · have d1 : decide (((c.toNat : Nat) : Int) < 48) = false := by rw [decide_eq_false_iff_not]; omega
        by_cases h2 : c.toNat ≤ 57
        · have d2 : decide ((57 : Int) < ((c.toNat : Nat) : Int)) = false := by rw [decide_eq_false_iff_not]; omega
          have Hk2 : Hid (((bl t).take (k + 1)).all isDig = true) := by
            show _ = true
            rw [Hcl.out, Hk.out]
            simp [isDig]; omega
          clear Hcl Hk
          go_wp2
          go_roundw
          case rel => exact ⟨k + 1, by omega, by go_num, Hk2, by trivial⟩
          case measure => simp [intOf]; omega
        · have d2 : decide ((57 : Int) < ((c.toNat : Nat) : Int)) = true := by rw [decide_eq_true_eq]; omega
          have d2' : ¬ (((c.toNat : Nat) : Int) ≤ 57) := by omega
          have HF : Hid (intErr (bl s) = 12) := by
            show _ = _
            rw [HC.out, if_neg]
            intro hall
            have := all_take_of_all isDig (bl t) (k + 1) hall
            rw [Hcl.out] at this
            simp [isDig] at this
            omega
          clear Hcl Hk
          go_wp2
          go_ret
          exact ⟨ret_int' HF.out.symm, rfl⟩
    · obtain rfl : k = t.size := by omega
      have hall : (bl t).all isDig = true := by
        have := Hk.out
        rw [List.take_of_length_le (by rw [bl_length]; exact Nat.le_refl _)] at this
        exact this
      have Hall := Lib.hid hall; clear hall
      by_cases hbig : 1000 < t.size
      · have HF : Hid (intErr (bl s) = 14) := by show _ = _; rw [HC.out, if_pos Hall.out, if_pos hbig]
        have d3 : decide ((1000 : Int) < ((t.size : Nat) : Int)) = true := by rw [decide_eq_true_eq]; omega
        have d3' : ¬ (((t.size : Nat) : Int) ≤ 1000) := by omega
        go_wp2
        go_ret
        exact ⟨ret_int' HF.out.symm, rfl⟩
      · have HF : Hid (intErr (bl s) = 0) := by show _ = _; rw [HC.out, if_pos Hall.out, if_neg hbig]
        have d3 : decide ((1000 : Int) < ((t.size : Nat) : Int)) = false := by rw [decide_eq_false_iff_not]; omega
        go_wp2
        go_ret
        exact ⟨ret_int' HF.out.symm, rfl⟩

/-- integer.Check. -/
theorem check_any (s : ByteArray) (w : World) (hl : s.size ≤ 9223372036854775807) :
    Calls Tryz.prog 114 #[.string s] w fun e w' => e = .returned (.int .i64 (intErr (bl s))) ∧ w = w' := by
  by_cases h1 : 0 < s.size
  · by_cases hm : s[0] = 45
    · by_cases h2 : 0 < (s.extract 1 s.size).size
      · by_cases h0 : (s.extract 1 s.size)[0] = 48
        · exact check_neg_bad s w hl h1 hm _ rfl (.inr ⟨h2, h0⟩)
        · exact check_neg s w hl h1 hm _ rfl h2 h0
      · exact check_neg_bad s w hl h1 hm _ rfl (.inl (by omega))
    · by_cases h0 : s[0] = 48
      · by_cases h2 : 1 < s.size
        · exact check_zero s w hl h2 h0
        · exact check_digits s w hl h1 hm (.inr (by omega))
      · exact check_digits s w hl h1 hm (.inl h0)
  · exact check_empty s w hl (by omega)
end Go.Proofs.YtflddbgadkndlaaGreatDoor

namespace Go.Proofs.YtflddbgadkndlaaGreatDoor
open Go.RowKit

theorem intErr_cases (l : List UInt8) : intErr l = 0 ∨ intErr l = 12 ∨ intErr l = 14 := by
  unfold intErr
  split
  · split
    · exact .inr (.inr rfl)
    · exact .inl rfl
  · exact .inr (.inl rfl)

set_option maxHeartbeats 400000 in
set_option maxRecDepth 100000 in
theorem form_any (s : ByteArray) (w : World) (hl : s.size ≤ 9223372036854775807) :
    Calls Tryz.prog 113 #[.string s] w fun e w' => e = .returned (.int .i64 (formErr (bl s))) ∧ w = w' := by
  have C := check_any s w hl
  have HF : Hid (formErr (bl s) = if intErr (bl s) = 14 then 0 else intErr (bl s)) := by
    show _ = _
    unfold formErr intErr
    split <;> split <;> simp_all
  obtain ⟨E, hE⟩ : ∃ E, intErr (bl s) = E := ⟨_, rfl⟩
  obtain ⟨F, hF⟩ : ∃ F, formErr (bl s) = F := ⟨_, rfl⟩
  rw [hE] at C HF
  rw [hF] at HF ⊢
  have HC := Lib.hid C
  clear C hE hF hl
  by_cases h : E = 14
  · subst h
    have e : F = 0 := HF.out
    subst e
    clear HF
    go_enter Tryz.func113, Tryz.ntmps113
    go_wp2_with fail
    refine HC.out.mono ?_
    rintro e w' ⟨rfl, rfl⟩
    go_wp2
    go_ret
    exact ⟨rfl, rfl⟩
  · have e : F = E := by have := HF.out; rw [if_neg h] at this; exact this
    subst e
    clear HF
    have d1 : (F != 14) = true := by simpa using h
    have d2 : (F == 14) = false := by simpa using h
    go_enter Tryz.func113, Tryz.ntmps113
    go_wp2_with fail
    refine HC.out.mono ?_
    rintro e w' ⟨rfl, rfl⟩
    go_wp2
    go_ret
    exact ⟨rfl, rfl⟩
end Go.Proofs.YtflddbgadkndlaaGreatDoor
