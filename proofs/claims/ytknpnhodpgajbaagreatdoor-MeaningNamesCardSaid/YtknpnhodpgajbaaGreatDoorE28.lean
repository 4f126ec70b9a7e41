/-
  The closures of contract.node. contract.node. contract.node at a mask.  Printed by tools/gennode.py. contract.node at a mask.  Printed by tools/gennode.py. contract.node at a mask.  Printed by tools/gennode.py. contract.node at a mask.  Printed by tools/gennode.py. contract.node at a mask.  Printed by tools/gennode.py. contract.node at a mask.  Printed by tools/gennode.py.
-/
import Derived.Test.YtknpnhodpgajbaaGreatDoorE17
import Derived.Test.YtknpnhodpgajbaaGreatDoorE19
import Derived.Laws.EntriesVeiled
namespace Go.Proofs.YtknpnhodpgajbaaGreatDoor
open Go.RowKit
set_option maxRecDepth 100000 in
theorem has_any (p part:Int) (r:Bool) (hr:(bits BinOp.and IntKind.i64 p part != 0)=r) (B:Nat) (w:World) (hc:w.cell? ⟨B,0,none⟩=some (.int .i64 p)) :
  Calls Tryz.prog 112 #[.int .i64 part,.pointer (some ⟨B,0,none⟩)] w fun e w' => e = .returned (.bool r)∧w=w':=by
 have hB:B < w.heap.size:=World.block_lt_of_cell? w _ hc
 go_enter Tryz.func112,Tryz.ntmps112
 go_wp2
 go_ret
 exact ⟨rfl,rfl⟩
def wordB (r:Bool) (s:ByteArray):Bool:=if r=true then isNm (bl s) else decide (s.size=0)
set_option maxRecDepth 100000 in
theorem word_any (p part:Int) (r:Bool) (hr:(bits BinOp.and IntKind.i64 p part != 0)=r) (s:ByteArray) (hl:s.size≤2000000) (B B2:Nat) (w:World) (hc:w.cell? ⟨B,0,none⟩=some (.int .i64 p))
  (hc2:w.cell? ⟨B2,0,none⟩=some (.func (.func 112) #[] #[.pointer (some ⟨B,0,none⟩)])) :
  Calls Tryz.prog 113 #[.int .i64 part,.string s,.pointer (some ⟨B2,0,none⟩)] w fun e w' => e = .returned (.bool (wordB r s))∧w=w':=by
 have hB:B < w.heap.size:=World.block_lt_of_cell? w _ hc
 have hB2:B2 < w.heap.size:=World.block_lt_of_cell? w _ hc2
 have HH:=Lib.hid (has_any p part r hr B w hc)
 have HN:=Lib.hid (name_any s w (by omega))
 clear hr
 cases r with
 | true =>
  have HF:Hid (wordB true s=isNm (bl s)):=Lib.hid rfl
  generalize wordB true s=R at *
  cases hnm:isNm (bl s) <;> rw [hnm] at HN HF
  all_goals
   go_enter Tryz.func113,Tryz.ntmps113
   go_wp2_with (first | (go_at_call 112;refine HH.out.mono ?_;rintro e w1 ⟨rfl,rfl⟩) | (go_at_call 67;refine HN.out.mono ?_;rintro e w1 ⟨rfl,rfl⟩))
   go_ret
   exact ⟨ret_bool' HF.out.symm,rfl⟩
 | false =>
  have HF:Hid (wordB false s=decide (s.size=0)):=Lib.hid rfl
  generalize wordB false s=R at *
  go_enter Tryz.func113,Tryz.ntmps113
  go_wp2_with (first | (go_at_call 112;refine HH.out.mono ?_;rintro e w1 ⟨rfl,rfl⟩))
  all_goals
   go_ret
   exact ⟨ret_bool' (by rw [HF.out];cases hq:s.toList <;> simp_all [emp_nil]),rfl⟩
end Go.Proofs.YtknpnhodpgajbaaGreatDoor

namespace Go.Proofs.YtknpnhodpgajbaaGreatDoor
open Go.RowKit
theorem len_one {α:Type} (l:List α):((l.length:Int) == 1)=decide (l.length=1):=by rw [Bool.eq_iff_iff];simp;omega
theorem len_two {α:Type} (l:List α):((l.length:Int) == 2)=decide (l.length=2):=by rw [Bool.eq_iff_iff];simp;omega
def partOf (k:Nat):Option Nat :=
 if k=1 then some 0 else if k=2 then some 15 else if k=3 then some 256 else if k=4 then some 136 else if k=5 then some 272 else if k=6 then some 160
 else if k=7 then some 261 else if k=8 then some 197 else if k=9∨k=10 then some 208 else none
def PartAt (bm:Nat) (W:World) (k:Nat):Option Nat→Prop
 | none => (Instr.lookup 152 (.map (some bm)) (.int .u8 (k:Int)) true).run Tryz.prog W = .ok (.tuple #[.int .i64 0,.bool false]) W
 | some m => (Instr.lookup 152 (.map (some bm)) (.int .u8 (k:Int)) true).run Tryz.prog W = .ok (.tuple #[.int .i64 (m:Int),.bool true]) W
def LookP (w:World):Prop:=∃ bm,w.cell? ⟨0,0,none⟩=some (.map (some bm))∧∀ W,Below w.heap.size w W→∀ k,k < 256→PartAt bm W k (partOf k)
theorem LookP.frame {w w':World} (h:LookP w) (hb:Below w.heap.size w w'):LookP w':=by
 obtain ⟨bm,hc,h2⟩:=h
 exact ⟨bm,by rw [hb.cell (p:=⟨0,0,none⟩) (World.block_lt_of_cell? w _ hc)];exact hc,fun W hW k hk => h2 W (hb.trans (hW.mono hb.size)) k hk⟩
noncomputable def nodeP (b1 b2 b4 b8 b16 b32 b64:Bool) (n:Nat) (c:Con):Bool :=
 wordB b1 c.fr && (wordB b2 c.rc && (wordB b4 c.nm && (!(b2 && decide (c.fr=c.rc)) && ((if b8=true then c.ex.isA 1 else if b16=true then c.ex.isA 2 else c.ex.bare) &&
  ((if b32=true then isDay c.d else decide (c.d=0)) && ((if b64=true then isDays c.ds else decide (c.ds.length=0)) && decide (c.sub.length=n)))))))
theorem node_world (w:World) (c:Con) (ad ad1 ad2:Option Addr) (cap cap1 cap2:Nat) (m:Int):∃ W,((w.alloc (.cells #[.int .u8 c.k,.string c.fr,.string c.rc,.string c.nm,.int .u8 c.ex.k,.string c.ex.ra,.string c.ex.nm,.int .i64 c.ex.d,.slice ad1 c.ex.sub.length cap1,.int .i64 c.d,.slice ad2 c.ds.length cap2,.slice ad c.sub.length cap] 29)).alloc (.cells #[.int .i64 m] 3)).alloc (.cells #[.func (.func 112) #[] #[.pointer (some ⟨w.heap.size+1,0,none⟩)]] 89)=W∧Below w.heap.size w W∧w.heap.size+3≤W.heap.size ∧
  W.cell? ⟨w.heap.size,1,none⟩=some (.string c.fr)∧W.cell? ⟨w.heap.size,2,none⟩=some (.string c.rc)∧W.cell? ⟨w.heap.size,3,none⟩=some (.string c.nm)∧W.cell? ⟨w.heap.size,4,none⟩=some (.int .u8 c.ex.k)∧W.cell? ⟨w.heap.size,5,none⟩=some (.string c.ex.ra)∧W.cell? ⟨w.heap.size,6,none⟩=some (.string c.ex.nm)∧W.cell? ⟨w.heap.size,7,none⟩=some (.int .i64 c.ex.d)∧W.cell? ⟨w.heap.size,8,none⟩=some (.slice ad1 c.ex.sub.length cap1)∧W.cell? ⟨w.heap.size,9,none⟩=some (.int .i64 c.d)∧W.cell? ⟨w.heap.size,10,none⟩=some (.slice ad2 c.ds.length cap2)∧W.cell? ⟨w.heap.size,11,none⟩=some (.slice ad c.sub.length cap) ∧
  W.cell? ⟨w.heap.size+1,0,none⟩=some (.int .i64 m)∧W.cell? ⟨w.heap.size+1+1,0,none⟩=some (.func (.func 112) #[] #[.pointer (some ⟨w.heap.size+1,0,none⟩)]) :=
 ⟨_,rfl,below_a3 _ _ _ _,by simp,by go_simp,by go_simp,by go_simp,by go_simp,by go_simp,by go_simp,by go_simp,by go_simp,by go_simp,by go_simp,by go_simp,by go_simp,by go_simp⟩
theorem node_keep {w W:World} {u9 u10 u11 u12 u13:Value} (hbW:Below w.heap.size w W) (hzW:w.heap.size+3≤W.heap.size) (q9:W.cell? ⟨w.heap.size,9,none⟩=some u9) (q10:W.cell? ⟨w.heap.size,10,none⟩=some u10) (q11:W.cell? ⟨w.heap.size,11,none⟩=some u11)
  (q12:W.cell? ⟨w.heap.size+1,0,none⟩=some u12) (q13:W.cell? ⟨w.heap.size+1+1,0,none⟩=some u13):∀ W2,Below W.heap.size W W2→W2.cell? ⟨w.heap.size,9,none⟩=some u9∧W2.cell? ⟨w.heap.size,10,none⟩=some u10∧W2.cell? ⟨w.heap.size,11,none⟩=some u11∧W2.cell? ⟨w.heap.size+1,0,none⟩=some u12 ∧
   W2.cell? ⟨w.heap.size+1+1,0,none⟩=some u13∧Below w.heap.size w W2:=fun W2 h => by
 have k:∀ p u,W.cell? p=some u→W2.cell? p=some u:=fun p u hu => by rw [h.cell (p:=p) (World.block_lt_of_cell? W _ hu)];exact hu
 exact ⟨k _ _ q9,k _ _ q10,k _ _ q11,k _ _ q12,k _ _ q13,hbW.trans (h.mono (by omega))⟩
end Go.Proofs.YtknpnhodpgajbaaGreatDoor

namespace Go.Proofs.YtknpnhodpgajbaaGreatDoor
open Go.RowKit
set_option maxHeartbeats 4000000 in
set_option maxRecDepth 100000 in
theorem node_m0 (c:Con) (w:World) (bm:Nat) (ad ad1 ad2:Option Addr) (cap cap1 cap2:Nat) (hB:c.bulk≤2000000) (hm:w.cell? ⟨0,0,none⟩=some (.map (some bm)))
  (hr:RdN w c (.slice ad1 c.ex.sub.length cap1) (.slice ad2 c.ds.length cap2) (.slice ad c.sub.length cap)) (_HLS:Hid (LookS w))
  (hlk:∀ W,Below w.heap.size w W→(Instr.lookup 152 (.map (some bm)) (.int .u8 (c.k:Int)) true).run Tryz.prog W = .ok (.tuple #[.int .i64 0,.bool true]) W) :
  Calls Tryz.prog 56 #[c.val (.slice ad1 c.ex.sub.length cap1) (.slice ad2 c.ds.length cap2) (.slice ad c.sub.length cap)] w fun e w' => e = .returned (.bool (nodeP false false false false false false false 0 c))∧Below w.heap.size w w':=by
 have hmb:0 < w.heap.size:=World.block_lt_of_cell? w _ hm
 have hlk1:=hlk _ (below_a1 w (.cells #[.int .u8 c.k,.string c.fr,.string c.rc,.string c.nm,.int .u8 c.ex.k,.string c.ex.ra,.string c.ex.nm,.int .i64 c.ex.d,.slice ad1 c.ex.sub.length cap1,.int .i64 c.d,.slice ad2 c.ds.length cap2,.slice ad c.sub.length cap] 29))
 have hbq:=c.bulk_eq
 have hl1:=Con.bulks_len c.sub
 have hk8:=hr.2.2.2.2
 have hB2:c.ex.bulk≤2000000:=by omega
 have hn1:c.sub.length≤2000000:=by omega
 have hn2:c.ds.length≤2000000:=by omega
 have hf1:c.fr.size≤2000000:=by omega
 have hf2:c.rc.size≤2000000:=by omega
 have hf3:c.nm.size≤2000000:=by omega
 have HE:Hid (∀ W,Below w.heap.size w W→RdE W c.ex.sub (.slice ad1 c.ex.sub.length cap1)):=Lib.hid fun W hb => hr.1.frame hb
 have HX:Hid (∀ W,Below w.heap.size w W→Calls Tryz.prog 107 #[.agg #[.int .u8 c.ex.k,.string c.ex.ra,.string c.ex.nm,.int .i64 c.ex.d,.slice ad1 c.ex.sub.length cap1]] W fun e w' => e = .returned (.bool (c.ex.bare))∧Below W.heap.size W w'):=Lib.hid fun W hb => bare_any c.ex _ W (HE.out W hb)
 have HD:Hid (∀ W,Below w.heap.size w W→Calls Tryz.prog 117 #[.slice ad2 c.ds.length cap2] W fun e w' => e = .returned (.bool (isDays c.ds))∧W=w'):=Lib.hid fun W hb => days_any c.ds _ W hn2 (hr.2.1.frame hb)
 have HY:Hid (∀ W,Calls Tryz.prog 116 #[.int .i64 c.d] W fun e w' => e = .returned (.bool (isDay c.d))∧W=w'):=Lib.hid fun W => cwithin_any c.d W
 clear hlk hbq hl1 hr
 have hh1:(bits BinOp.and IntKind.i64 0 1 != 0)=false:=by decide
 have hh2:(bits BinOp.and IntKind.i64 0 2 != 0)=false:=by decide
 have hh4:(bits BinOp.and IntKind.i64 0 4 != 0)=false:=by decide
 have hh8:(bits BinOp.and IntKind.i64 0 8 != 0)=false:=by decide
 have hh16:(bits BinOp.and IntKind.i64 0 16 != 0)=false:=by decide
 have hh32:(bits BinOp.and IntKind.i64 0 32 != 0)=false:=by decide
 have hh64:(bits BinOp.and IntKind.i64 0 64 != 0)=false:=by decide
 have hh128:(bits BinOp.and IntKind.i64 0 128 != 0)=false:=by decide
 have hh256:(bits BinOp.and IntKind.i64 0 256 != 0)=false:=by decide
 have HR:Hid (nodeP false false false false false false false 0 c=(wordB false c.fr && (wordB false c.rc && (wordB false c.nm && (!(false && (c.fr.toList == c.rc.toList)) && ((c.ex.bare) && ((decide (c.d=0)) && ((decide (c.ds.length=0)) && decide (c.sub.length=0))))))))):=Lib.hid (by unfold nodeP;rw [toList_beq];rfl)
 generalize nodeP false false false false false false false 0 c=R at *
 unfold Con.val
 go_enter Tryz.func56,Tryz.ntmps56
 go_wp2_with fail
 obtain ⟨W,hW,hbW,hzW,q1,q2,q3,q4,q5,q6,q7,q8,q9,q10,q11,q12,q13⟩:=node_world w c ad ad1 ad2 cap cap1 cap2 0
 rw [hW]
 clear hW hlk1
 have HW1:=Lib.hid (word_any 0 1 _ hh1 c.fr hf1 _ _ W q12 q13)
 have HW2:=Lib.hid (word_any 0 2 _ hh2 c.rc hf2 _ _ W q12 q13)
 have HW4:=Lib.hid (word_any 0 4 _ hh4 c.nm hf3 _ _ W q12 q13)
 have HH:Hid (∀ (part:Int) (r:Bool),(bits BinOp.and IntKind.i64 0 part != 0)=r→∀ W',W'.cell? ⟨w.heap.size+1,0,none⟩=some (.int .i64 0)→Calls Tryz.prog 112 #[.int .i64 part,.pointer (some ⟨w.heap.size+1,0,none⟩)] W' fun e w' => e = .returned (.bool r)∧W'=w'):=Lib.hid fun part r h W' hc => has_any 0 part r h _ W' hc
 have HK:=Lib.hid (node_keep hbW hzW q9 q10 q11 q12 q13)
 have hx0:w.heap.size < W.heap.size:=by omega
 have hx1:w.heap.size+1 < W.heap.size:=by omega
 have hx2:w.heap.size+1+1 < W.heap.size:=by omega
 clear hzW hm hmb
 generalize wordB false c.fr=B1 at *
 generalize wordB false c.rc=B2 at *
 generalize wordB false c.nm=B3 at *
 generalize c.ex.bare=E at *
 generalize isDay c.d=DY at *
 generalize isDays c.ds=DS at *
 go_wp2_with (first
  | (go_at_call 113;(first | with_reducible refine HW1.out.mono ?_ | with_reducible refine HW2.out.mono ?_ | with_reducible refine HW4.out.mono ?_);rintro e w1 ⟨rfl,rfl⟩)
  | (go_at_call 112;refine (HH.out _ _ (by assumption) _ (by assumption)).mono ?_;rintro e w1 ⟨rfl,rfl⟩)
  | (go_at_call 107;refine (HX.out _ (by assumption)).mono ?_;rintro e W2 ⟨rfl,hb2⟩;obtain ⟨r9,r10,r11,r12,r13,hbW2⟩:=HK.out W2 hb2;clear hb2)
  | (go_at_call 116;refine (HY.out _).mono ?_;rintro e w1 ⟨rfl,rfl⟩)
  | (go_at_call 117;refine (HD.out _ (by assumption)).mono ?_;rintro e w1 ⟨rfl,rfl⟩))
 all_goals
  go_ret
  first
   | exact ⟨ret_bool' (by rw [HR.out];simp [*,len_nil]),hbW2⟩
   | exact ⟨ret_bool' (by rw [HR.out];simp [*]),hbW⟩
end Go.Proofs.YtknpnhodpgajbaaGreatDoor

namespace Go.Proofs.YtknpnhodpgajbaaGreatDoor
open Go.RowKit
set_option maxHeartbeats 4000000 in
set_option maxRecDepth 100000 in
theorem node_m15 (c:Con) (w:World) (bm:Nat) (ad ad1 ad2:Option Addr) (cap cap1 cap2:Nat) (hB:c.bulk≤2000000) (hm:w.cell? ⟨0,0,none⟩=some (.map (some bm)))
  (hr:RdN w c (.slice ad1 c.ex.sub.length cap1) (.slice ad2 c.ds.length cap2) (.slice ad c.sub.length cap)) (HLS:Hid (LookS w))
  (hlk:∀ W,Below w.heap.size w W→(Instr.lookup 152 (.map (some bm)) (.int .u8 (c.k:Int)) true).run Tryz.prog W = .ok (.tuple #[.int .i64 15,.bool true]) W) :
  Calls Tryz.prog 56 #[c.val (.slice ad1 c.ex.sub.length cap1) (.slice ad2 c.ds.length cap2) (.slice ad c.sub.length cap)] w fun e w' => e = .returned (.bool (nodeP true true true true false false false 0 c))∧Below w.heap.size w w':=by
 have hmb:0 < w.heap.size:=World.block_lt_of_cell? w _ hm
 have hlk1:=hlk _ (below_a1 w (.cells #[.int .u8 c.k,.string c.fr,.string c.rc,.string c.nm,.int .u8 c.ex.k,.string c.ex.ra,.string c.ex.nm,.int .i64 c.ex.d,.slice ad1 c.ex.sub.length cap1,.int .i64 c.d,.slice ad2 c.ds.length cap2,.slice ad c.sub.length cap] 29))
 have hbq:=c.bulk_eq
 have hl1:=Con.bulks_len c.sub
 have hk8:=hr.2.2.2.2
 have hB2:c.ex.bulk≤2000000:=by omega
 have hn1:c.sub.length≤2000000:=by omega
 have hn2:c.ds.length≤2000000:=by omega
 have hf1:c.fr.size≤2000000:=by omega
 have hf2:c.rc.size≤2000000:=by omega
 have hf3:c.nm.size≤2000000:=by omega
 have HE:Hid (∀ W,Below w.heap.size w W→RdE W c.ex.sub (.slice ad1 c.ex.sub.length cap1)):=Lib.hid fun W hb => hr.1.frame hb
 have HX:Hid (∀ W,Below w.heap.size w W→Calls Tryz.prog 114 #[.agg #[.int .u8 c.ex.k,.string c.ex.ra,.string c.ex.nm,.int .i64 c.ex.d,.slice ad1 c.ex.sub.length cap1]] W fun e w' => e = .returned (.bool (c.ex.isA 1))∧Below W.heap.size W w'):=Lib.hid fun W hb => onum_any c.ex _ W hB2 (HE.out W hb) hk8 (HLS.out.frame hb)
 have HD:Hid (∀ W,Below w.heap.size w W→Calls Tryz.prog 117 #[.slice ad2 c.ds.length cap2] W fun e w' => e = .returned (.bool (isDays c.ds))∧W=w'):=Lib.hid fun W hb => days_any c.ds _ W hn2 (hr.2.1.frame hb)
 have HY:Hid (∀ W,Calls Tryz.prog 116 #[.int .i64 c.d] W fun e w' => e = .returned (.bool (isDay c.d))∧W=w'):=Lib.hid fun W => cwithin_any c.d W
 clear hlk hbq hl1 hr
 have hh1:(bits BinOp.and IntKind.i64 15 1 != 0)=true:=by decide
 have hh2:(bits BinOp.and IntKind.i64 15 2 != 0)=true:=by decide
 have hh4:(bits BinOp.and IntKind.i64 15 4 != 0)=true:=by decide
 have hh8:(bits BinOp.and IntKind.i64 15 8 != 0)=true:=by decide
 have hh16:(bits BinOp.and IntKind.i64 15 16 != 0)=false:=by decide
 have hh32:(bits BinOp.and IntKind.i64 15 32 != 0)=false:=by decide
 have hh64:(bits BinOp.and IntKind.i64 15 64 != 0)=false:=by decide
 have hh128:(bits BinOp.and IntKind.i64 15 128 != 0)=false:=by decide
 have hh256:(bits BinOp.and IntKind.i64 15 256 != 0)=false:=by decide
 have HR:Hid (nodeP true true true true false false false 0 c=(wordB true c.fr && (wordB true c.rc && (wordB true c.nm && (!(true && (c.fr.toList == c.rc.toList)) && ((c.ex.isA 1) && ((decide (c.d=0)) && ((decide (c.ds.length=0)) && decide (c.sub.length=0))))))))):=Lib.hid (by unfold nodeP;rw [toList_beq];rfl)
 generalize nodeP true true true true false false false 0 c=R at *
 unfold Con.val
 go_enter Tryz.func56,Tryz.ntmps56
 go_wp2_with fail
 obtain ⟨W,hW,hbW,hzW,q1,q2,q3,q4,q5,q6,q7,q8,q9,q10,q11,q12,q13⟩:=node_world w c ad ad1 ad2 cap cap1 cap2 15
 rw [hW]
 clear hW hlk1
 have HW1:=Lib.hid (word_any 15 1 _ hh1 c.fr hf1 _ _ W q12 q13)
 have HW2:=Lib.hid (word_any 15 2 _ hh2 c.rc hf2 _ _ W q12 q13)
 have HW4:=Lib.hid (word_any 15 4 _ hh4 c.nm hf3 _ _ W q12 q13)
 have HH:Hid (∀ (part:Int) (r:Bool),(bits BinOp.and IntKind.i64 15 part != 0)=r→∀ W',W'.cell? ⟨w.heap.size+1,0,none⟩=some (.int .i64 15)→Calls Tryz.prog 112 #[.int .i64 part,.pointer (some ⟨w.heap.size+1,0,none⟩)] W' fun e w' => e = .returned (.bool r)∧W'=w'):=Lib.hid fun part r h W' hc => has_any 15 part r h _ W' hc
 have HK:=Lib.hid (node_keep hbW hzW q9 q10 q11 q12 q13)
 have hx0:w.heap.size < W.heap.size:=by omega
 have hx1:w.heap.size+1 < W.heap.size:=by omega
 have hx2:w.heap.size+1+1 < W.heap.size:=by omega
 clear hzW hm hmb
 generalize wordB true c.fr=B1 at *
 generalize wordB true c.rc=B2 at *
 generalize wordB true c.nm=B3 at *
 generalize c.ex.isA 1=E at *
 generalize isDay c.d=DY at *
 generalize isDays c.ds=DS at *
 go_wp2_with (first
  | (go_at_call 113;(first | with_reducible refine HW1.out.mono ?_ | with_reducible refine HW2.out.mono ?_ | with_reducible refine HW4.out.mono ?_);rintro e w1 ⟨rfl,rfl⟩)
  | (go_at_call 112;refine (HH.out _ _ (by assumption) _ (by assumption)).mono ?_;rintro e w1 ⟨rfl,rfl⟩)
  | (go_at_call 114;refine (HX.out _ (by assumption)).mono ?_;rintro e W2 ⟨rfl,hb2⟩;obtain ⟨r9,r10,r11,r12,r13,hbW2⟩:=HK.out W2 hb2;clear hb2)
  | (go_at_call 116;refine (HY.out _).mono ?_;rintro e w1 ⟨rfl,rfl⟩)
  | (go_at_call 117;refine (HD.out _ (by assumption)).mono ?_;rintro e w1 ⟨rfl,rfl⟩))
 all_goals
  go_ret
  first
   | exact ⟨ret_bool' (by rw [HR.out];simp [*,len_nil]),hbW2⟩
   | exact ⟨ret_bool' (by rw [HR.out];simp [*]),hbW⟩
end Go.Proofs.YtknpnhodpgajbaaGreatDoor

namespace Go.Proofs.YtknpnhodpgajbaaGreatDoor
open Go.RowKit
set_option maxHeartbeats 4000000 in
set_option maxRecDepth 100000 in
theorem node_m256 (c:Con) (w:World) (bm:Nat) (ad ad1 ad2:Option Addr) (cap cap1 cap2:Nat) (hB:c.bulk≤2000000) (hm:w.cell? ⟨0,0,none⟩=some (.map (some bm)))
  (hr:RdN w c (.slice ad1 c.ex.sub.length cap1) (.slice ad2 c.ds.length cap2) (.slice ad c.sub.length cap)) (_HLS:Hid (LookS w))
  (hlk:∀ W,Below w.heap.size w W→(Instr.lookup 152 (.map (some bm)) (.int .u8 (c.k:Int)) true).run Tryz.prog W = .ok (.tuple #[.int .i64 256,.bool true]) W) :
  Calls Tryz.prog 56 #[c.val (.slice ad1 c.ex.sub.length cap1) (.slice ad2 c.ds.length cap2) (.slice ad c.sub.length cap)] w fun e w' => e = .returned (.bool (nodeP false false false false false false false 2 c))∧Below w.heap.size w w':=by
 have hmb:0 < w.heap.size:=World.block_lt_of_cell? w _ hm
 have hlk1:=hlk _ (below_a1 w (.cells #[.int .u8 c.k,.string c.fr,.string c.rc,.string c.nm,.int .u8 c.ex.k,.string c.ex.ra,.string c.ex.nm,.int .i64 c.ex.d,.slice ad1 c.ex.sub.length cap1,.int .i64 c.d,.slice ad2 c.ds.length cap2,.slice ad c.sub.length cap] 29))
 have hbq:=c.bulk_eq
 have hl1:=Con.bulks_len c.sub
 have hk8:=hr.2.2.2.2
 have hB2:c.ex.bulk≤2000000:=by omega
 have hn1:c.sub.length≤2000000:=by omega
 have hn2:c.ds.length≤2000000:=by omega
 have hf1:c.fr.size≤2000000:=by omega
 have hf2:c.rc.size≤2000000:=by omega
 have hf3:c.nm.size≤2000000:=by omega
 have HE:Hid (∀ W,Below w.heap.size w W→RdE W c.ex.sub (.slice ad1 c.ex.sub.length cap1)):=Lib.hid fun W hb => hr.1.frame hb
 have HX:Hid (∀ W,Below w.heap.size w W→Calls Tryz.prog 107 #[.agg #[.int .u8 c.ex.k,.string c.ex.ra,.string c.ex.nm,.int .i64 c.ex.d,.slice ad1 c.ex.sub.length cap1]] W fun e w' => e = .returned (.bool (c.ex.bare))∧Below W.heap.size W w'):=Lib.hid fun W hb => bare_any c.ex _ W (HE.out W hb)
 have HD:Hid (∀ W,Below w.heap.size w W→Calls Tryz.prog 117 #[.slice ad2 c.ds.length cap2] W fun e w' => e = .returned (.bool (isDays c.ds))∧W=w'):=Lib.hid fun W hb => days_any c.ds _ W hn2 (hr.2.1.frame hb)
 have HY:Hid (∀ W,Calls Tryz.prog 116 #[.int .i64 c.d] W fun e w' => e = .returned (.bool (isDay c.d))∧W=w'):=Lib.hid fun W => cwithin_any c.d W
 clear hlk hbq hl1 hr
 have hh1:(bits BinOp.and IntKind.i64 256 1 != 0)=false:=by decide
 have hh2:(bits BinOp.and IntKind.i64 256 2 != 0)=false:=by decide
 have hh4:(bits BinOp.and IntKind.i64 256 4 != 0)=false:=by decide
 have hh8:(bits BinOp.and IntKind.i64 256 8 != 0)=false:=by decide
 have hh16:(bits BinOp.and IntKind.i64 256 16 != 0)=false:=by decide
 have hh32:(bits BinOp.and IntKind.i64 256 32 != 0)=false:=by decide
 have hh64:(bits BinOp.and IntKind.i64 256 64 != 0)=false:=by decide
 have hh128:(bits BinOp.and IntKind.i64 256 128 != 0)=false:=by decide
 have hh256:(bits BinOp.and IntKind.i64 256 256 != 0)=true:=by decide
 have HR:Hid (nodeP false false false false false false false 2 c=(wordB false c.fr && (wordB false c.rc && (wordB false c.nm && (!(false && (c.fr.toList == c.rc.toList)) && ((c.ex.bare) && ((decide (c.d=0)) && ((decide (c.ds.length=0)) && decide (c.sub.length=2))))))))):=Lib.hid (by unfold nodeP;rw [toList_beq];rfl)
 generalize nodeP false false false false false false false 2 c=R at *
 unfold Con.val
 go_enter Tryz.func56,Tryz.ntmps56
 go_wp2_with fail
 obtain ⟨W,hW,hbW,hzW,q1,q2,q3,q4,q5,q6,q7,q8,q9,q10,q11,q12,q13⟩:=node_world w c ad ad1 ad2 cap cap1 cap2 256
 rw [hW]
 clear hW hlk1
 have HW1:=Lib.hid (word_any 256 1 _ hh1 c.fr hf1 _ _ W q12 q13)
 have HW2:=Lib.hid (word_any 256 2 _ hh2 c.rc hf2 _ _ W q12 q13)
 have HW4:=Lib.hid (word_any 256 4 _ hh4 c.nm hf3 _ _ W q12 q13)
 have HH:Hid (∀ (part:Int) (r:Bool),(bits BinOp.and IntKind.i64 256 part != 0)=r→∀ W',W'.cell? ⟨w.heap.size+1,0,none⟩=some (.int .i64 256)→Calls Tryz.prog 112 #[.int .i64 part,.pointer (some ⟨w.heap.size+1,0,none⟩)] W' fun e w' => e = .returned (.bool r)∧W'=w'):=Lib.hid fun part r h W' hc => has_any 256 part r h _ W' hc
 have HK:=Lib.hid (node_keep hbW hzW q9 q10 q11 q12 q13)
 have hx0:w.heap.size < W.heap.size:=by omega
 have hx1:w.heap.size+1 < W.heap.size:=by omega
 have hx2:w.heap.size+1+1 < W.heap.size:=by omega
 clear hzW hm hmb
 generalize wordB false c.fr=B1 at *
 generalize wordB false c.rc=B2 at *
 generalize wordB false c.nm=B3 at *
 generalize c.ex.bare=E at *
 generalize isDay c.d=DY at *
 generalize isDays c.ds=DS at *
 go_wp2_with (first
  | (go_at_call 113;(first | with_reducible refine HW1.out.mono ?_ | with_reducible refine HW2.out.mono ?_ | with_reducible refine HW4.out.mono ?_);rintro e w1 ⟨rfl,rfl⟩)
  | (go_at_call 112;refine (HH.out _ _ (by assumption) _ (by assumption)).mono ?_;rintro e w1 ⟨rfl,rfl⟩)
  | (go_at_call 107;refine (HX.out _ (by assumption)).mono ?_;rintro e W2 ⟨rfl,hb2⟩;obtain ⟨r9,r10,r11,r12,r13,hbW2⟩:=HK.out W2 hb2;clear hb2)
  | (go_at_call 116;refine (HY.out _).mono ?_;rintro e w1 ⟨rfl,rfl⟩)
  | (go_at_call 117;refine (HD.out _ (by assumption)).mono ?_;rintro e w1 ⟨rfl,rfl⟩))
 all_goals
  go_ret
  first
   | exact ⟨ret_bool' (by rw [HR.out];simp [*,len_two]),hbW2⟩
   | exact ⟨ret_bool' (by rw [HR.out];simp [*]),hbW⟩
end Go.Proofs.YtknpnhodpgajbaaGreatDoor

namespace Go.Proofs.YtknpnhodpgajbaaGreatDoor
open Go.RowKit
set_option maxHeartbeats 4000000 in
set_option maxRecDepth 100000 in
theorem node_m136 (c:Con) (w:World) (bm:Nat) (ad ad1 ad2:Option Addr) (cap cap1 cap2:Nat) (hB:c.bulk≤2000000) (hm:w.cell? ⟨0,0,none⟩=some (.map (some bm)))
  (hr:RdN w c (.slice ad1 c.ex.sub.length cap1) (.slice ad2 c.ds.length cap2) (.slice ad c.sub.length cap)) (HLS:Hid (LookS w))
  (hlk:∀ W,Below w.heap.size w W→(Instr.lookup 152 (.map (some bm)) (.int .u8 (c.k:Int)) true).run Tryz.prog W = .ok (.tuple #[.int .i64 136,.bool true]) W) :
  Calls Tryz.prog 56 #[c.val (.slice ad1 c.ex.sub.length cap1) (.slice ad2 c.ds.length cap2) (.slice ad c.sub.length cap)] w fun e w' => e = .returned (.bool (nodeP false false false true false false false 1 c))∧Below w.heap.size w w':=by
 have hmb:0 < w.heap.size:=World.block_lt_of_cell? w _ hm
 have hlk1:=hlk _ (below_a1 w (.cells #[.int .u8 c.k,.string c.fr,.string c.rc,.string c.nm,.int .u8 c.ex.k,.string c.ex.ra,.string c.ex.nm,.int .i64 c.ex.d,.slice ad1 c.ex.sub.length cap1,.int .i64 c.d,.slice ad2 c.ds.length cap2,.slice ad c.sub.length cap] 29))
 have hbq:=c.bulk_eq
 have hl1:=Con.bulks_len c.sub
 have hk8:=hr.2.2.2.2
 have hB2:c.ex.bulk≤2000000:=by omega
 have hn1:c.sub.length≤2000000:=by omega
 have hn2:c.ds.length≤2000000:=by omega
 have hf1:c.fr.size≤2000000:=by omega
 have hf2:c.rc.size≤2000000:=by omega
 have hf3:c.nm.size≤2000000:=by omega
 have HE:Hid (∀ W,Below w.heap.size w W→RdE W c.ex.sub (.slice ad1 c.ex.sub.length cap1)):=Lib.hid fun W hb => hr.1.frame hb
 have HX:Hid (∀ W,Below w.heap.size w W→Calls Tryz.prog 114 #[.agg #[.int .u8 c.ex.k,.string c.ex.ra,.string c.ex.nm,.int .i64 c.ex.d,.slice ad1 c.ex.sub.length cap1]] W fun e w' => e = .returned (.bool (c.ex.isA 1))∧Below W.heap.size W w'):=Lib.hid fun W hb => onum_any c.ex _ W hB2 (HE.out W hb) hk8 (HLS.out.frame hb)
 have HD:Hid (∀ W,Below w.heap.size w W→Calls Tryz.prog 117 #[.slice ad2 c.ds.length cap2] W fun e w' => e = .returned (.bool (isDays c.ds))∧W=w'):=Lib.hid fun W hb => days_any c.ds _ W hn2 (hr.2.1.frame hb)
 have HY:Hid (∀ W,Calls Tryz.prog 116 #[.int .i64 c.d] W fun e w' => e = .returned (.bool (isDay c.d))∧W=w'):=Lib.hid fun W => cwithin_any c.d W
 clear hlk hbq hl1 hr
 have hh1:(bits BinOp.and IntKind.i64 136 1 != 0)=false:=by decide
 have hh2:(bits BinOp.and IntKind.i64 136 2 != 0)=false:=by decide
 have hh4:(bits BinOp.and IntKind.i64 136 4 != 0)=false:=by decide
 have hh8:(bits BinOp.and IntKind.i64 136 8 != 0)=true:=by decide
 have hh16:(bits BinOp.and IntKind.i64 136 16 != 0)=false:=by decide
 have hh32:(bits BinOp.and IntKind.i64 136 32 != 0)=false:=by decide
 have hh64:(bits BinOp.and IntKind.i64 136 64 != 0)=false:=by decide
 have hh128:(bits BinOp.and IntKind.i64 136 128 != 0)=true:=by decide
 have hh256:(bits BinOp.and IntKind.i64 136 256 != 0)=false:=by decide
 have HR:Hid (nodeP false false false true false false false 1 c=(wordB false c.fr && (wordB false c.rc && (wordB false c.nm && (!(false && (c.fr.toList == c.rc.toList)) && ((c.ex.isA 1) && ((decide (c.d=0)) && ((decide (c.ds.length=0)) && decide (c.sub.length=1))))))))):=Lib.hid (by unfold nodeP;rw [toList_beq];rfl)
 generalize nodeP false false false true false false false 1 c=R at *
 unfold Con.val
 go_enter Tryz.func56,Tryz.ntmps56
 go_wp2_with fail
 obtain ⟨W,hW,hbW,hzW,q1,q2,q3,q4,q5,q6,q7,q8,q9,q10,q11,q12,q13⟩:=node_world w c ad ad1 ad2 cap cap1 cap2 136
 rw [hW]
 clear hW hlk1
 have HW1:=Lib.hid (word_any 136 1 _ hh1 c.fr hf1 _ _ W q12 q13)
 have HW2:=Lib.hid (word_any 136 2 _ hh2 c.rc hf2 _ _ W q12 q13)
 have HW4:=Lib.hid (word_any 136 4 _ hh4 c.nm hf3 _ _ W q12 q13)
 have HH:Hid (∀ (part:Int) (r:Bool),(bits BinOp.and IntKind.i64 136 part != 0)=r→∀ W',W'.cell? ⟨w.heap.size+1,0,none⟩=some (.int .i64 136)→Calls Tryz.prog 112 #[.int .i64 part,.pointer (some ⟨w.heap.size+1,0,none⟩)] W' fun e w' => e = .returned (.bool r)∧W'=w'):=Lib.hid fun part r h W' hc => has_any 136 part r h _ W' hc
 have HK:=Lib.hid (node_keep hbW hzW q9 q10 q11 q12 q13)
 have hx0:w.heap.size < W.heap.size:=by omega
 have hx1:w.heap.size+1 < W.heap.size:=by omega
 have hx2:w.heap.size+1+1 < W.heap.size:=by omega
 clear hzW hm hmb
 generalize wordB false c.fr=B1 at *
 generalize wordB false c.rc=B2 at *
 generalize wordB false c.nm=B3 at *
 generalize c.ex.isA 1=E at *
 generalize isDay c.d=DY at *
 generalize isDays c.ds=DS at *
 go_wp2_with (first
  | (go_at_call 113;(first | with_reducible refine HW1.out.mono ?_ | with_reducible refine HW2.out.mono ?_ | with_reducible refine HW4.out.mono ?_);rintro e w1 ⟨rfl,rfl⟩)
  | (go_at_call 112;refine (HH.out _ _ (by assumption) _ (by assumption)).mono ?_;rintro e w1 ⟨rfl,rfl⟩)
  | (go_at_call 114;refine (HX.out _ (by assumption)).mono ?_;rintro e W2 ⟨rfl,hb2⟩;obtain ⟨r9,r10,r11,r12,r13,hbW2⟩:=HK.out W2 hb2;clear hb2)
  | (go_at_call 116;refine (HY.out _).mono ?_;rintro e w1 ⟨rfl,rfl⟩)
  | (go_at_call 117;refine (HD.out _ (by assumption)).mono ?_;rintro e w1 ⟨rfl,rfl⟩))
 all_goals
  go_ret
  first
   | exact ⟨ret_bool' (by rw [HR.out];simp [*,len_one]),hbW2⟩
   | exact ⟨ret_bool' (by rw [HR.out];simp [*]),hbW⟩
end Go.Proofs.YtknpnhodpgajbaaGreatDoor

namespace Go.Proofs.YtknpnhodpgajbaaGreatDoor
open Go.RowKit
set_option maxHeartbeats 4000000 in
set_option maxRecDepth 100000 in
theorem node_m272 (c:Con) (w:World) (bm:Nat) (ad ad1 ad2:Option Addr) (cap cap1 cap2:Nat) (hB:c.bulk≤2000000) (hm:w.cell? ⟨0,0,none⟩=some (.map (some bm)))
  (hr:RdN w c (.slice ad1 c.ex.sub.length cap1) (.slice ad2 c.ds.length cap2) (.slice ad c.sub.length cap)) (HLS:Hid (LookS w))
  (hlk:∀ W,Below w.heap.size w W→(Instr.lookup 152 (.map (some bm)) (.int .u8 (c.k:Int)) true).run Tryz.prog W = .ok (.tuple #[.int .i64 272,.bool true]) W) :
  Calls Tryz.prog 56 #[c.val (.slice ad1 c.ex.sub.length cap1) (.slice ad2 c.ds.length cap2) (.slice ad c.sub.length cap)] w fun e w' => e = .returned (.bool (nodeP false false false false true false false 2 c))∧Below w.heap.size w w':=by
 have hmb:0 < w.heap.size:=World.block_lt_of_cell? w _ hm
 have hlk1:=hlk _ (below_a1 w (.cells #[.int .u8 c.k,.string c.fr,.string c.rc,.string c.nm,.int .u8 c.ex.k,.string c.ex.ra,.string c.ex.nm,.int .i64 c.ex.d,.slice ad1 c.ex.sub.length cap1,.int .i64 c.d,.slice ad2 c.ds.length cap2,.slice ad c.sub.length cap] 29))
 have hbq:=c.bulk_eq
 have hl1:=Con.bulks_len c.sub
 have hk8:=hr.2.2.2.2
 have hB2:c.ex.bulk≤2000000:=by omega
 have hn1:c.sub.length≤2000000:=by omega
 have hn2:c.ds.length≤2000000:=by omega
 have hf1:c.fr.size≤2000000:=by omega
 have hf2:c.rc.size≤2000000:=by omega
 have hf3:c.nm.size≤2000000:=by omega
 have HE:Hid (∀ W,Below w.heap.size w W→RdE W c.ex.sub (.slice ad1 c.ex.sub.length cap1)):=Lib.hid fun W hb => hr.1.frame hb
 have HX:Hid (∀ W,Below w.heap.size w W→Calls Tryz.prog 115 #[.agg #[.int .u8 c.ex.k,.string c.ex.ra,.string c.ex.nm,.int .i64 c.ex.d,.slice ad1 c.ex.sub.length cap1]] W fun e w' => e = .returned (.bool (c.ex.isA 2))∧Below W.heap.size W w'):=Lib.hid fun W hb => otruth_any c.ex _ W hB2 (HE.out W hb) hk8 (HLS.out.frame hb)
 have HD:Hid (∀ W,Below w.heap.size w W→Calls Tryz.prog 117 #[.slice ad2 c.ds.length cap2] W fun e w' => e = .returned (.bool (isDays c.ds))∧W=w'):=Lib.hid fun W hb => days_any c.ds _ W hn2 (hr.2.1.frame hb)
 have HY:Hid (∀ W,Calls Tryz.prog 116 #[.int .i64 c.d] W fun e w' => e = .returned (.bool (isDay c.d))∧W=w'):=Lib.hid fun W => cwithin_any c.d W
 clear hlk hbq hl1 hr
 have hh1:(bits BinOp.and IntKind.i64 272 1 != 0)=false:=by decide
 have hh2:(bits BinOp.and IntKind.i64 272 2 != 0)=false:=by decide
 have hh4:(bits BinOp.and IntKind.i64 272 4 != 0)=false:=by decide
 have hh8:(bits BinOp.and IntKind.i64 272 8 != 0)=false:=by decide
 have hh16:(bits BinOp.and IntKind.i64 272 16 != 0)=true:=by decide
 have hh32:(bits BinOp.and IntKind.i64 272 32 != 0)=false:=by decide
 have hh64:(bits BinOp.and IntKind.i64 272 64 != 0)=false:=by decide
 have hh128:(bits BinOp.and IntKind.i64 272 128 != 0)=false:=by decide
 have hh256:(bits BinOp.and IntKind.i64 272 256 != 0)=true:=by decide
 have HR:Hid (nodeP false false false false true false false 2 c=(wordB false c.fr && (wordB false c.rc && (wordB false c.nm && (!(false && (c.fr.toList == c.rc.toList)) && ((c.ex.isA 2) && ((decide (c.d=0)) && ((decide (c.ds.length=0)) && decide (c.sub.length=2))))))))):=Lib.hid (by unfold nodeP;rw [toList_beq];rfl)
 generalize nodeP false false false false true false false 2 c=R at *
 unfold Con.val
 go_enter Tryz.func56,Tryz.ntmps56
 go_wp2_with fail
 obtain ⟨W,hW,hbW,hzW,q1,q2,q3,q4,q5,q6,q7,q8,q9,q10,q11,q12,q13⟩:=node_world w c ad ad1 ad2 cap cap1 cap2 272
 rw [hW]
 clear hW hlk1
 have HW1:=Lib.hid (word_any 272 1 _ hh1 c.fr hf1 _ _ W q12 q13)
 have HW2:=Lib.hid (word_any 272 2 _ hh2 c.rc hf2 _ _ W q12 q13)
 have HW4:=Lib.hid (word_any 272 4 _ hh4 c.nm hf3 _ _ W q12 q13)
 have HH:Hid (∀ (part:Int) (r:Bool),(bits BinOp.and IntKind.i64 272 part != 0)=r→∀ W',W'.cell? ⟨w.heap.size+1,0,none⟩=some (.int .i64 272)→Calls Tryz.prog 112 #[.int .i64 part,.pointer (some ⟨w.heap.size+1,0,none⟩)] W' fun e w' => e = .returned (.bool r)∧W'=w'):=Lib.hid fun part r h W' hc => has_any 272 part r h _ W' hc
 have HK:=Lib.hid (node_keep hbW hzW q9 q10 q11 q12 q13)
 have hx0:w.heap.size < W.heap.size:=by omega
 have hx1:w.heap.size+1 < W.heap.size:=by omega
 have hx2:w.heap.size+1+1 < W.heap.size:=by omega
 clear hzW hm hmb
 generalize wordB false c.fr=B1 at *
 generalize wordB false c.rc=B2 at *
 generalize wordB false c.nm=B3 at *
 generalize c.ex.isA 2=E at *
 generalize isDay c.d=DY at *
 generalize isDays c.ds=DS at *
 go_wp2_with (first
  | (go_at_call 113;(first | with_reducible refine HW1.out.mono ?_ | with_reducible refine HW2.out.mono ?_ | with_reducible refine HW4.out.mono ?_);rintro e w1 ⟨rfl,rfl⟩)
  | (go_at_call 112;refine (HH.out _ _ (by assumption) _ (by assumption)).mono ?_;rintro e w1 ⟨rfl,rfl⟩)
  | (go_at_call 115;refine (HX.out _ (by assumption)).mono ?_;rintro e W2 ⟨rfl,hb2⟩;obtain ⟨r9,r10,r11,r12,r13,hbW2⟩:=HK.out W2 hb2;clear hb2)
  | (go_at_call 116;refine (HY.out _).mono ?_;rintro e w1 ⟨rfl,rfl⟩)
  | (go_at_call 117;refine (HD.out _ (by assumption)).mono ?_;rintro e w1 ⟨rfl,rfl⟩))
 all_goals
  go_ret
  first
   | exact ⟨ret_bool' (by rw [HR.out];simp [*,len_two]),hbW2⟩
   | exact ⟨ret_bool' (by rw [HR.out];simp [*]),hbW⟩
end Go.Proofs.YtknpnhodpgajbaaGreatDoor

namespace Go.Proofs.YtknpnhodpgajbaaGreatDoor
open Go.RowKit
set_option maxHeartbeats 4000000 in
set_option maxRecDepth 100000 in
theorem node_m160 (c:Con) (w:World) (bm:Nat) (ad ad1 ad2:Option Addr) (cap cap1 cap2:Nat) (hB:c.bulk≤2000000) (hm:w.cell? ⟨0,0,none⟩=some (.map (some bm)))
  (hr:RdN w c (.slice ad1 c.ex.sub.length cap1) (.slice ad2 c.ds.length cap2) (.slice ad c.sub.length cap)) (_HLS:Hid (LookS w))
  (hlk:∀ W,Below w.heap.size w W→(Instr.lookup 152 (.map (some bm)) (.int .u8 (c.k:Int)) true).run Tryz.prog W = .ok (.tuple #[.int .i64 160,.bool true]) W) :
  Calls Tryz.prog 56 #[c.val (.slice ad1 c.ex.sub.length cap1) (.slice ad2 c.ds.length cap2) (.slice ad c.sub.length cap)] w fun e w' => e = .returned (.bool (nodeP false false false false false true false 1 c))∧Below w.heap.size w w':=by
 have hmb:0 < w.heap.size:=World.block_lt_of_cell? w _ hm
 have hlk1:=hlk _ (below_a1 w (.cells #[.int .u8 c.k,.string c.fr,.string c.rc,.string c.nm,.int .u8 c.ex.k,.string c.ex.ra,.string c.ex.nm,.int .i64 c.ex.d,.slice ad1 c.ex.sub.length cap1,.int .i64 c.d,.slice ad2 c.ds.length cap2,.slice ad c.sub.length cap] 29))
 have hbq:=c.bulk_eq
 have hl1:=Con.bulks_len c.sub
 have hk8:=hr.2.2.2.2
 have hB2:c.ex.bulk≤2000000:=by omega
 have hn1:c.sub.length≤2000000:=by omega
 have hn2:c.ds.length≤2000000:=by omega
 have hf1:c.fr.size≤2000000:=by omega
 have hf2:c.rc.size≤2000000:=by omega
 have hf3:c.nm.size≤2000000:=by omega
 have HE:Hid (∀ W,Below w.heap.size w W→RdE W c.ex.sub (.slice ad1 c.ex.sub.length cap1)):=Lib.hid fun W hb => hr.1.frame hb
 have HX:Hid (∀ W,Below w.heap.size w W→Calls Tryz.prog 107 #[.agg #[.int .u8 c.ex.k,.string c.ex.ra,.string c.ex.nm,.int .i64 c.ex.d,.slice ad1 c.ex.sub.length cap1]] W fun e w' => e = .returned (.bool (c.ex.bare))∧Below W.heap.size W w'):=Lib.hid fun W hb => bare_any c.ex _ W (HE.out W hb)
 have HD:Hid (∀ W,Below w.heap.size w W→Calls Tryz.prog 117 #[.slice ad2 c.ds.length cap2] W fun e w' => e = .returned (.bool (isDays c.ds))∧W=w'):=Lib.hid fun W hb => days_any c.ds _ W hn2 (hr.2.1.frame hb)
 have HY:Hid (∀ W,Calls Tryz.prog 116 #[.int .i64 c.d] W fun e w' => e = .returned (.bool (isDay c.d))∧W=w'):=Lib.hid fun W => cwithin_any c.d W
 clear hlk hbq hl1 hr
 have hh1:(bits BinOp.and IntKind.i64 160 1 != 0)=false:=by decide
 have hh2:(bits BinOp.and IntKind.i64 160 2 != 0)=false:=by decide
 have hh4:(bits BinOp.and IntKind.i64 160 4 != 0)=false:=by decide
 have hh8:(bits BinOp.and IntKind.i64 160 8 != 0)=false:=by decide
 have hh16:(bits BinOp.and IntKind.i64 160 16 != 0)=false:=by decide
 have hh32:(bits BinOp.and IntKind.i64 160 32 != 0)=true:=by decide
 have hh64:(bits BinOp.and IntKind.i64 160 64 != 0)=false:=by decide
 have hh128:(bits BinOp.and IntKind.i64 160 128 != 0)=true:=by decide
 have hh256:(bits BinOp.and IntKind.i64 160 256 != 0)=false:=by decide
 have HR:Hid (nodeP false false false false false true false 1 c=(wordB false c.fr && (wordB false c.rc && (wordB false c.nm && (!(false && (c.fr.toList == c.rc.toList)) && ((c.ex.bare) && ((isDay c.d) && ((decide (c.ds.length=0)) && decide (c.sub.length=1))))))))):=Lib.hid (by unfold nodeP;rw [toList_beq];rfl)
 generalize nodeP false false false false false true false 1 c=R at *
 unfold Con.val
 go_enter Tryz.func56,Tryz.ntmps56
 go_wp2_with fail
 obtain ⟨W,hW,hbW,hzW,q1,q2,q3,q4,q5,q6,q7,q8,q9,q10,q11,q12,q13⟩:=node_world w c ad ad1 ad2 cap cap1 cap2 160
 rw [hW]
 clear hW hlk1
 have HW1:=Lib.hid (word_any 160 1 _ hh1 c.fr hf1 _ _ W q12 q13)
 have HW2:=Lib.hid (word_any 160 2 _ hh2 c.rc hf2 _ _ W q12 q13)
 have HW4:=Lib.hid (word_any 160 4 _ hh4 c.nm hf3 _ _ W q12 q13)
 have HH:Hid (∀ (part:Int) (r:Bool),(bits BinOp.and IntKind.i64 160 part != 0)=r→∀ W',W'.cell? ⟨w.heap.size+1,0,none⟩=some (.int .i64 160)→Calls Tryz.prog 112 #[.int .i64 part,.pointer (some ⟨w.heap.size+1,0,none⟩)] W' fun e w' => e = .returned (.bool r)∧W'=w'):=Lib.hid fun part r h W' hc => has_any 160 part r h _ W' hc
 have HK:=Lib.hid (node_keep hbW hzW q9 q10 q11 q12 q13)
 have hx0:w.heap.size < W.heap.size:=by omega
 have hx1:w.heap.size+1 < W.heap.size:=by omega
 have hx2:w.heap.size+1+1 < W.heap.size:=by omega
 clear hzW hm hmb
 generalize wordB false c.fr=B1 at *
 generalize wordB false c.rc=B2 at *
 generalize wordB false c.nm=B3 at *
 generalize c.ex.bare=E at *
 generalize isDay c.d=DY at *
 generalize isDays c.ds=DS at *
 go_wp2_with (first
  | (go_at_call 113;(first | with_reducible refine HW1.out.mono ?_ | with_reducible refine HW2.out.mono ?_ | with_reducible refine HW4.out.mono ?_);rintro e w1 ⟨rfl,rfl⟩)
  | (go_at_call 112;refine (HH.out _ _ (by assumption) _ (by assumption)).mono ?_;rintro e w1 ⟨rfl,rfl⟩)
  | (go_at_call 107;refine (HX.out _ (by assumption)).mono ?_;rintro e W2 ⟨rfl,hb2⟩;obtain ⟨r9,r10,r11,r12,r13,hbW2⟩:=HK.out W2 hb2;clear hb2)
  | (go_at_call 116;refine (HY.out _).mono ?_;rintro e w1 ⟨rfl,rfl⟩)
  | (go_at_call 117;refine (HD.out _ (by assumption)).mono ?_;rintro e w1 ⟨rfl,rfl⟩))
 all_goals
  go_ret
  first
   | exact ⟨ret_bool' (by rw [HR.out];simp [*,len_one]),hbW2⟩
   | exact ⟨ret_bool' (by rw [HR.out];simp [*]),hbW⟩
end Go.Proofs.YtknpnhodpgajbaaGreatDoor
