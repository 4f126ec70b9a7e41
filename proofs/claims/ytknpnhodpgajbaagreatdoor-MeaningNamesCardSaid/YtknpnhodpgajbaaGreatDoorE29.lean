/-
  contract.node at a mask.  Printed by tools/gennode.py. contract.node at a mask.  Printed by tools/gennode.py. contract.node at a mask.  Printed by tools/gennode.py. contract.node at every contract. contract.Check.
-/
import Derived.Test.YtknpnhodpgajbaaGreatDoorE28
import Derived.Test.YtknpnhodpgajbaaGreatDoorE27
namespace Go.Proofs.YtknpnhodpgajbaaGreatDoor
open Go.RowKit
set_option maxHeartbeats 4000000 in
set_option maxRecDepth 100000 in
theorem node_m261 (c:Con) (w:World) (bm:Nat) (ad ad1 ad2:Option Addr) (cap cap1 cap2:Nat) (hB:c.bulk≤2000000) (hm:w.cell? ⟨0,0,none⟩=some (.map (some bm)))
  (hr:RdN w c (.slice ad1 c.ex.sub.length cap1) (.slice ad2 c.ds.length cap2) (.slice ad c.sub.length cap)) (_HLS:Hid (LookS w))
  (hlk:∀ W,Below w.heap.size w W→(Instr.lookup 152 (.map (some bm)) (.int .u8 (c.k:Int)) true).run Tryz.prog W = .ok (.tuple #[.int .i64 261,.bool true]) W) :
  Calls Tryz.prog 56 #[c.val (.slice ad1 c.ex.sub.length cap1) (.slice ad2 c.ds.length cap2) (.slice ad c.sub.length cap)] w fun e w' => e = .returned (.bool (nodeP true false true false false false false 2 c))∧Below w.heap.size w w':=by
 have hmb:0 < w.heap.size:=World.block_lt_of_cell? w _ hm
 have hlk1:=hlk _ (below_a1 w (.cells #[.int .u8 c.k,.string c.fr,.string c.rc,.string c.nm,.int .u8 c.ex.k,.string c.ex.ra,.string c.ex.nm,.int .i64 c.ex.d,.slice ad1 c.ex.sub.length cap1,.int .i64 c.d,.slice ad2 c.ds.length cap2,.slice ad c.sub.length cap] 29))
 have hbq:=c.bulk_eq
 have hl1:=Con.bulks_len c.sub
 have hk8:=hr.2.2.2.2
 have hB2:c.ex.bulk≤2000000:=by omega
 have hn1:c.sub.length≤2000000:=by omega
 have hn2:c.ds.length≤2000000:=by omega
 have hf1:c.fr.size≤2000000:=by omega
 have hf2:c.rc.size≤2000000:=by omega
 have hf3:c.nm.size≤2000000:=by omega
 have HE:Hid (∀ W,Below w.heap.size w W→RdE W c.ex.sub (.slice ad1 c.ex.sub.length cap1)):=Lib.hid fun W hb => hr.1.frame hb
 have HX:Hid (∀ W,Below w.heap.size w W→Calls Tryz.prog 107 #[.agg #[.int .u8 c.ex.k,.string c.ex.ra,.string c.ex.nm,.int .i64 c.ex.d,.slice ad1 c.ex.sub.length cap1]] W fun e w' => e = .returned (.bool (c.ex.bare))∧Below W.heap.size W w'):=Lib.hid fun W hb => bare_any c.ex _ W (HE.out W hb)
 have HD:Hid (∀ W,Below w.heap.size w W→Calls Tryz.prog 117 #[.slice ad2 c.ds.length cap2] W fun e w' => e = .returned (.bool (isDays c.ds))∧W=w'):=Lib.hid fun W hb => days_any c.ds _ W hn2 (hr.2.1.frame hb)
 have HY:Hid (∀ W,Calls Tryz.prog 116 #[.int .i64 c.d] W fun e w' => e = .returned (.bool (isDay c.d))∧W=w'):=Lib.hid fun W => cwithin_any c.d W
 clear hlk hbq hl1 hr
 have hh1:(bits BinOp.and IntKind.i64 261 1 != 0)=true:=by decide
 have hh2:(bits BinOp.and IntKind.i64 261 2 != 0)=false:=by decide
 have hh4:(bits BinOp.and IntKind.i64 261 4 != 0)=true:=by decide
 have hh8:(bits BinOp.and IntKind.i64 261 8 != 0)=false:=by decide
 have hh16:(bits BinOp.and IntKind.i64 261 16 != 0)=false:=by decide
 have hh32:(bits BinOp.and IntKind.i64 261 32 != 0)=false:=by decide
 have hh64:(bits BinOp.and IntKind.i64 261 64 != 0)=false:=by decide
 have hh128:(bits BinOp.and IntKind.i64 261 128 != 0)=false:=by decide
 have hh256:(bits BinOp.and IntKind.i64 261 256 != 0)=true:=by decide
 have HR:Hid (nodeP true false true false false false false 2 c=(wordB true c.fr && (wordB false c.rc && (wordB true c.nm && (!(false && (c.fr.toList == c.rc.toList)) && ((c.ex.bare) && ((decide (c.d=0)) && ((decide (c.ds.length=0)) && decide (c.sub.length=2))))))))):=Lib.hid (by unfold nodeP;rw [toList_beq];rfl)
 generalize nodeP true false true false false false false 2 c=R at *
 unfold Con.val
 go_enter Tryz.func56,Tryz.ntmps56
 go_wp2_with fail
 obtain ⟨W,hW,hbW,hzW,q1,q2,q3,q4,q5,q6,q7,q8,q9,q10,q11,q12,q13⟩:=node_world w c ad ad1 ad2 cap cap1 cap2 261
 rw [hW]
 clear hW hlk1
 have HW1:=Lib.hid (word_any 261 1 _ hh1 c.fr hf1 _ _ W q12 q13)
 have HW2:=Lib.hid (word_any 261 2 _ hh2 c.rc hf2 _ _ W q12 q13)
 have HW4:=Lib.hid (word_any 261 4 _ hh4 c.nm hf3 _ _ W q12 q13)
 have HH:Hid (∀ (part:Int) (r:Bool),(bits BinOp.and IntKind.i64 261 part != 0)=r→∀ W',W'.cell? ⟨w.heap.size+1,0,none⟩=some (.int .i64 261)→Calls Tryz.prog 112 #[.int .i64 part,.pointer (some ⟨w.heap.size+1,0,none⟩)] W' fun e w' => e = .returned (.bool r)∧W'=w'):=Lib.hid fun part r h W' hc => has_any 261 part r h _ W' hc
 have HK:=Lib.hid (node_keep hbW hzW q9 q10 q11 q12 q13)
 have hx0:w.heap.size < W.heap.size:=by omega
 have hx1:w.heap.size+1 < W.heap.size:=by omega
 have hx2:w.heap.size+1+1 < W.heap.size:=by omega
 clear hzW hm hmb
 generalize wordB true c.fr=B1 at *
 generalize wordB false c.rc=B2 at *
 generalize wordB true c.nm=B3 at *
 generalize c.ex.bare=E at *
 generalize isDay c.d=DY at *
 generalize isDays c.ds=DS at *
 go_wp2_with (first
  | (go_at_call 113;(first | with_reducible refine HW1.out.mono ?_ | with_reducible refine HW2.out.mono ?_ | with_reducible refine HW4.out.mono ?_);rintro e w1 ⟨rfl,rfl⟩)
  | (go_at_call 112;refine (HH.out _ _ (by assumption) _ (by assumption)).mono ?_;rintro e w1 ⟨rfl,rfl⟩)
  | (go_at_call 107;refine (HX.out _ (by assumption)).mono ?_;rintro e W2 ⟨rfl,hb2⟩;obtain ⟨r9,r10,r11,r12,r13,hbW2⟩:=HK.out W2 hb2;clear hb2)
  | (go_at_call 116;refine (HY.out _).mono ?_;rintro e w1 ⟨rfl,rfl⟩)
  | (go_at_call 117;refine (HD.out _ (by assumption)).mono ?_;rintro e w1 ⟨rfl,rfl⟩))
 all_goals
  go_ret
  first
   | exact ⟨ret_bool' (by rw [HR.out];simp [*,len_two]),hbW2⟩
   | exact ⟨ret_bool' (by rw [HR.out];simp [*]),hbW⟩
end Go.Proofs.YtknpnhodpgajbaaGreatDoor

namespace Go.Proofs.YtknpnhodpgajbaaGreatDoor
open Go.RowKit
set_option maxHeartbeats 4000000 in
set_option maxRecDepth 100000 in
theorem node_m197 (c:Con) (w:World) (bm:Nat) (ad ad1 ad2:Option Addr) (cap cap1 cap2:Nat) (hB:c.bulk≤2000000) (hm:w.cell? ⟨0,0,none⟩=some (.map (some bm)))
  (hr:RdN w c (.slice ad1 c.ex.sub.length cap1) (.slice ad2 c.ds.length cap2) (.slice ad c.sub.length cap)) (_HLS:Hid (LookS w))
  (hlk:∀ W,Below w.heap.size w W→(Instr.lookup 152 (.map (some bm)) (.int .u8 (c.k:Int)) true).run Tryz.prog W = .ok (.tuple #[.int .i64 197,.bool true]) W) :
  Calls Tryz.prog 56 #[c.val (.slice ad1 c.ex.sub.length cap1) (.slice ad2 c.ds.length cap2) (.slice ad c.sub.length cap)] w fun e w' => e = .returned (.bool (nodeP true false true false false false true 1 c))∧Below w.heap.size w w':=by
 have hmb:0 < w.heap.size:=World.block_lt_of_cell? w _ hm
 have hlk1:=hlk _ (below_a1 w (.cells #[.int .u8 c.k,.string c.fr,.string c.rc,.string c.nm,.int .u8 c.ex.k,.string c.ex.ra,.string c.ex.nm,.int .i64 c.ex.d,.slice ad1 c.ex.sub.length cap1,.int .i64 c.d,.slice ad2 c.ds.length cap2,.slice ad c.sub.length cap] 29))
 have hbq:=c.bulk_eq
 have hl1:=Con.bulks_len c.sub
 have hk8:=hr.2.2.2.2
 have hB2:c.ex.bulk≤2000000:=by omega
 have hn1:c.sub.length≤2000000:=by omega
 have hn2:c.ds.length≤2000000:=by omega
 have hf1:c.fr.size≤2000000:=by omega
 have hf2:c.rc.size≤2000000:=by omega
 have hf3:c.nm.size≤2000000:=by omega
 have HE:Hid (∀ W,Below w.heap.size w W→RdE W c.ex.sub (.slice ad1 c.ex.sub.length cap1)):=Lib.hid fun W hb => hr.1.frame hb
 have HX:Hid (∀ W,Below w.heap.size w W→Calls Tryz.prog 107 #[.agg #[.int .u8 c.ex.k,.string c.ex.ra,.string c.ex.nm,.int .i64 c.ex.d,.slice ad1 c.ex.sub.length cap1]] W fun e w' => e = .returned (.bool (c.ex.bare))∧Below W.heap.size W w'):=Lib.hid fun W hb => bare_any c.ex _ W (HE.out W hb)
 have HD:Hid (∀ W,Below w.heap.size w W→Calls Tryz.prog 117 #[.slice ad2 c.ds.length cap2] W fun e w' => e = .returned (.bool (isDays c.ds))∧W=w'):=Lib.hid fun W hb => days_any c.ds _ W hn2 (hr.2.1.frame hb)
 have HY:Hid (∀ W,Calls Tryz.prog 116 #[.int .i64 c.d] W fun e w' => e = .returned (.bool (isDay c.d))∧W=w'):=Lib.hid fun W => cwithin_any c.d W
 clear hlk hbq hl1 hr
 have hh1:(bits BinOp.and IntKind.i64 197 1 != 0)=true:=by decide
 have hh2:(bits BinOp.and IntKind.i64 197 2 != 0)=false:=by decide
 have hh4:(bits BinOp.and IntKind.i64 197 4 != 0)=true:=by decide
 have hh8:(bits BinOp.and IntKind.i64 197 8 != 0)=false:=by decide
 have hh16:(bits BinOp.and IntKind.i64 197 16 != 0)=false:=by decide
 have hh32:(bits BinOp.and IntKind.i64 197 32 != 0)=false:=by decide
 have hh64:(bits BinOp.and IntKind.i64 197 64 != 0)=true:=by decide
 have hh128:(bits BinOp.and IntKind.i64 197 128 != 0)=true:=by decide
 have hh256:(bits BinOp.and IntKind.i64 197 256 != 0)=false:=by decide
 have HR:Hid (nodeP true false true false false false true 1 c=(wordB true c.fr && (wordB false c.rc && (wordB true c.nm && (!(false && (c.fr.toList == c.rc.toList)) && ((c.ex.bare) && ((decide (c.d=0)) && ((isDays c.ds) && decide (c.sub.length=1))))))))):=Lib.hid (by unfold nodeP;rw [toList_beq];rfl)
 generalize nodeP true false true false false false true 1 c=R at *
 unfold Con.val
 go_enter Tryz.func56,Tryz.ntmps56
 go_wp2_with fail
 obtain ⟨W,hW,hbW,hzW,q1,q2,q3,q4,q5,q6,q7,q8,q9,q10,q11,q12,q13⟩:=node_world w c ad ad1 ad2 cap cap1 cap2 197
 rw [hW]
 clear hW hlk1
 have HW1:=Lib.hid (word_any 197 1 _ hh1 c.fr hf1 _ _ W q12 q13)
 have HW2:=Lib.hid (word_any 197 2 _ hh2 c.rc hf2 _ _ W q12 q13)
 have HW4:=Lib.hid (word_any 197 4 _ hh4 c.nm hf3 _ _ W q12 q13)
 have HH:Hid (∀ (part:Int) (r:Bool),(bits BinOp.and IntKind.i64 197 part != 0)=r→∀ W',W'.cell? ⟨w.heap.size+1,0,none⟩=some (.int .i64 197)→Calls Tryz.prog 112 #[.int .i64 part,.pointer (some ⟨w.heap.size+1,0,none⟩)] W' fun e w' => e = .returned (.bool r)∧W'=w'):=Lib.hid fun part r h W' hc => has_any 197 part r h _ W' hc
 have HK:=Lib.hid (node_keep hbW hzW q9 q10 q11 q12 q13)
 have hx0:w.heap.size < W.heap.size:=by omega
 have hx1:w.heap.size+1 < W.heap.size:=by omega
 have hx2:w.heap.size+1+1 < W.heap.size:=by omega
 clear hzW hm hmb
 generalize wordB true c.fr=B1 at *
 generalize wordB false c.rc=B2 at *
 generalize wordB true c.nm=B3 at *
 generalize c.ex.bare=E at *
 generalize isDay c.d=DY at *
 generalize isDays c.ds=DS at *
 go_wp2_with (first
  | (go_at_call 113;(first | with_reducible refine HW1.out.mono ?_ | with_reducible refine HW2.out.mono ?_ | with_reducible refine HW4.out.mono ?_);rintro e w1 ⟨rfl,rfl⟩)
  | (go_at_call 112;refine (HH.out _ _ (by assumption) _ (by assumption)).mono ?_;rintro e w1 ⟨rfl,rfl⟩)
  | (go_at_call 107;refine (HX.out _ (by assumption)).mono ?_;rintro e W2 ⟨rfl,hb2⟩;obtain ⟨r9,r10,r11,r12,r13,hbW2⟩:=HK.out W2 hb2;clear hb2)
  | (go_at_call 116;refine (HY.out _).mono ?_;rintro e w1 ⟨rfl,rfl⟩)
  | (go_at_call 117;refine (HD.out _ (by assumption)).mono ?_;rintro e w1 ⟨rfl,rfl⟩))
 all_goals
  go_ret
  first
   | exact ⟨ret_bool' (by rw [HR.out];simp [*,len_one]),hbW2⟩
   | exact ⟨ret_bool' (by rw [HR.out];simp [*]),hbW⟩
end Go.Proofs.YtknpnhodpgajbaaGreatDoor

namespace Go.Proofs.YtknpnhodpgajbaaGreatDoor
open Go.RowKit
set_option maxHeartbeats 4000000 in
set_option maxRecDepth 100000 in
theorem node_m208 (c:Con) (w:World) (bm:Nat) (ad ad1 ad2:Option Addr) (cap cap1 cap2:Nat) (hB:c.bulk≤2000000) (hm:w.cell? ⟨0,0,none⟩=some (.map (some bm)))
  (hr:RdN w c (.slice ad1 c.ex.sub.length cap1) (.slice ad2 c.ds.length cap2) (.slice ad c.sub.length cap)) (HLS:Hid (LookS w))
  (hlk:∀ W,Below w.heap.size w W→(Instr.lookup 152 (.map (some bm)) (.int .u8 (c.k:Int)) true).run Tryz.prog W = .ok (.tuple #[.int .i64 208,.bool true]) W) :
  Calls Tryz.prog 56 #[c.val (.slice ad1 c.ex.sub.length cap1) (.slice ad2 c.ds.length cap2) (.slice ad c.sub.length cap)] w fun e w' => e = .returned (.bool (nodeP false false false false true false true 1 c))∧Below w.heap.size w w':=by
 have hmb:0 < w.heap.size:=World.block_lt_of_cell? w _ hm
 have hlk1:=hlk _ (below_a1 w (.cells #[.int .u8 c.k,.string c.fr,.string c.rc,.string c.nm,.int .u8 c.ex.k,.string c.ex.ra,.string c.ex.nm,.int .i64 c.ex.d,.slice ad1 c.ex.sub.length cap1,.int .i64 c.d,.slice ad2 c.ds.length cap2,.slice ad c.sub.length cap] 29))
 have hbq:=c.bulk_eq
 have hl1:=Con.bulks_len c.sub
 have hk8:=hr.2.2.2.2
 have hB2:c.ex.bulk≤2000000:=by omega
 have hn1:c.sub.length≤2000000:=by omega
 have hn2:c.ds.length≤2000000:=by omega
 have hf1:c.fr.size≤2000000:=by omega
 have hf2:c.rc.size≤2000000:=by omega
 have hf3:c.nm.size≤2000000:=by omega
 have HE:Hid (∀ W,Below w.heap.size w W→RdE W c.ex.sub (.slice ad1 c.ex.sub.length cap1)):=Lib.hid fun W hb => hr.1.frame hb
 have HX:Hid (∀ W,Below w.heap.size w W→Calls Tryz.prog 115 #[.agg #[.int .u8 c.ex.k,.string c.ex.ra,.string c.ex.nm,.int .i64 c.ex.d,.slice ad1 c.ex.sub.length cap1]] W fun e w' => e = .returned (.bool (c.ex.isA 2))∧Below W.heap.size W w'):=Lib.hid fun W hb => otruth_any c.ex _ W hB2 (HE.out W hb) hk8 (HLS.out.frame hb)
 have HD:Hid (∀ W,Below w.heap.size w W→Calls Tryz.prog 117 #[.slice ad2 c.ds.length cap2] W fun e w' => e = .returned (.bool (isDays c.ds))∧W=w'):=Lib.hid fun W hb => days_any c.ds _ W hn2 (hr.2.1.frame hb)
 have HY:Hid (∀ W,Calls Tryz.prog 116 #[.int .i64 c.d] W fun e w' => e = .returned (.bool (isDay c.d))∧W=w'):=Lib.hid fun W => cwithin_any c.d W
 clear hlk hbq hl1 hr
 have hh1:(bits BinOp.and IntKind.i64 208 1 != 0)=false:=by decide
 have hh2:(bits BinOp.and IntKind.i64 208 2 != 0)=false:=by decide
 have hh4:(bits BinOp.and IntKind.i64 208 4 != 0)=false:=by decide
 have hh8:(bits BinOp.and IntKind.i64 208 8 != 0)=false:=by decide
 have hh16:(bits BinOp.and IntKind.i64 208 16 != 0)=true:=by decide
 have hh32:(bits BinOp.and IntKind.i64 208 32 != 0)=false:=by decide
 have hh64:(bits BinOp.and IntKind.i64 208 64 != 0)=true:=by decide
 have hh128:(bits BinOp.and IntKind.i64 208 128 != 0)=true:=by decide
 have hh256:(bits BinOp.and IntKind.i64 208 256 != 0)=false:=by decide
 have HR:Hid (nodeP false false false false true false true 1 c=(wordB false c.fr && (wordB false c.rc && (wordB false c.nm && (!(false && (c.fr.toList == c.rc.toList)) && ((c.ex.isA 2) && ((decide (c.d=0)) && ((isDays c.ds) && decide (c.sub.length=1))))))))):=Lib.hid (by unfold nodeP;rw [toList_beq];rfl)
 generalize nodeP false false false false true false true 1 c=R at *
 unfold Con.val
 go_enter Tryz.func56,Tryz.ntmps56
 go_wp2_with fail
 obtain ⟨W,hW,hbW,hzW,q1,q2,q3,q4,q5,q6,q7,q8,q9,q10,q11,q12,q13⟩:=node_world w c ad ad1 ad2 cap cap1 cap2 208
 rw [hW]
 clear hW hlk1
 have HW1:=Lib.hid (word_any 208 1 _ hh1 c.fr hf1 _ _ W q12 q13)
 have HW2:=Lib.hid (word_any 208 2 _ hh2 c.rc hf2 _ _ W q12 q13)
 have HW4:=Lib.hid (word_any 208 4 _ hh4 c.nm hf3 _ _ W q12 q13)
 have HH:Hid (∀ (part:Int) (r:Bool),(bits BinOp.and IntKind.i64 208 part != 0)=r→∀ W',W'.cell? ⟨w.heap.size+1,0,none⟩=some (.int .i64 208)→Calls Tryz.prog 112 #[.int .i64 part,.pointer (some ⟨w.heap.size+1,0,none⟩)] W' fun e w' => e = .returned (.bool r)∧W'=w'):=Lib.hid fun part r h W' hc => has_any 208 part r h _ W' hc
 have HK:=Lib.hid (node_keep hbW hzW q9 q10 q11 q12 q13)
 have hx0:w.heap.size < W.heap.size:=by omega
 have hx1:w.heap.size+1 < W.heap.size:=by omega
 have hx2:w.heap.size+1+1 < W.heap.size:=by omega
 clear hzW hm hmb
 generalize wordB false c.fr=B1 at *
 generalize wordB false c.rc=B2 at *
 generalize wordB false c.nm=B3 at *
 generalize c.ex.isA 2=E at *
 generalize isDay c.d=DY at *
 generalize isDays c.ds=DS at *
 go_wp2_with (first
  | (go_at_call 113;(first | with_reducible refine HW1.out.mono ?_ | with_reducible refine HW2.out.mono ?_ | with_reducible refine HW4.out.mono ?_);rintro e w1 ⟨rfl,rfl⟩)
  | (go_at_call 112;refine (HH.out _ _ (by assumption) _ (by assumption)).mono ?_;rintro e w1 ⟨rfl,rfl⟩)
  | (go_at_call 115;refine (HX.out _ (by assumption)).mono ?_;rintro e W2 ⟨rfl,hb2⟩;obtain ⟨r9,r10,r11,r12,r13,hbW2⟩:=HK.out W2 hb2;clear hb2)
  | (go_at_call 116;refine (HY.out _).mono ?_;rintro e w1 ⟨rfl,rfl⟩)
  | (go_at_call 117;refine (HD.out _ (by assumption)).mono ?_;rintro e w1 ⟨rfl,rfl⟩))
 all_goals
  go_ret
  first
   | exact ⟨ret_bool' (by rw [HR.out];simp [*,len_one]),hbW2⟩
   | exact ⟨ret_bool' (by rw [HR.out];simp [*]),hbW⟩
end Go.Proofs.YtknpnhodpgajbaaGreatDoor

namespace Go.Proofs.YtknpnhodpgajbaaGreatDoor
open Go.RowKit
theorem nodeOk_none {c:Con} (h:partOf c.k=none):nodeOk c=false:=by
 unfold partOf at h
 repeat' split at h
 all_goals first
  | (cases h;done)
  | skip
 unfold nodeOk
 simp [*]
theorem nodeOk_some {c:Con}:∀ {m:Nat},partOf c.k=some m →
  (m=0∧nodeOk c=nodeP false false false false false false false 0 c)∨(m=15∧nodeOk c=nodeP true true true true false false false 0 c)∨(m=256∧nodeOk c=nodeP false false false false false false false 2 c) ∨
  (m=136∧nodeOk c=nodeP false false false true false false false 1 c)∨(m=272∧nodeOk c=nodeP false false false false true false false 2 c)∨(m=160∧nodeOk c=nodeP false false false false false true false 1 c) ∨
  (m=261∧nodeOk c=nodeP true false true false false false false 2 c)∨(m=197∧nodeOk c=nodeP true false true false false false true 1 c)∨(m=208∧nodeOk c=nodeP false false false false true false true 1 c):=by
 intro m h
 unfold partOf at h
 split at h
 ·next hk =>
  cases h
  left
  refine ⟨rfl,?_⟩
  unfold nodeOk nodeP wordB
  simp only [hk,if_true,if_false,Bool.false_eq_true,Bool.false_and,Bool.not_false,Bool.true_and]
  ac_rfl
 split at h
 ·next hk =>
  cases h
  right;left
  refine ⟨rfl,?_⟩
  unfold nodeOk nodeP wordB
  rw [hk]
  simp only [show (2:Nat) ≠ 1 by decide,if_true,if_false,Bool.false_eq_true,Bool.true_and]
  ac_rfl
 split at h
 ·next hk =>
  cases h
  right;right;left
  refine ⟨rfl,?_⟩
  unfold nodeOk nodeP wordB
  rw [hk]
  simp only [show (3:Nat) ≠ 1 by decide,show (3:Nat) ≠ 2 by decide,if_true,if_false,Bool.false_eq_true,Bool.false_and,Bool.not_false,Bool.true_and]
  ac_rfl
 split at h
 ·next hk =>
  cases h
  right;right;right;left
  refine ⟨rfl,?_⟩
  unfold nodeOk nodeP wordB
  rw [hk]
  simp only [show (4:Nat) ≠ 1 by decide,show (4:Nat) ≠ 2 by decide,show (4:Nat) ≠ 3 by decide,if_true,if_false,Bool.false_eq_true,Bool.false_and,Bool.not_false,Bool.true_and]
  ac_rfl
 split at h
 ·next hk =>
  cases h
  right;right;right;right;left
  refine ⟨rfl,?_⟩
  unfold nodeOk nodeP wordB
  rw [hk]
  simp only [show (5:Nat) ≠ 1 by decide,show (5:Nat) ≠ 2 by decide,show (5:Nat) ≠ 3 by decide,show (5:Nat) ≠ 4 by decide,if_true,if_false,Bool.false_eq_true,Bool.false_and,Bool.not_false,Bool.true_and]
  ac_rfl
 split at h
 ·next hk =>
  cases h
  right;right;right;right;right;left
  refine ⟨rfl,?_⟩
  unfold nodeOk nodeP wordB
  rw [hk]
  simp only [show (6:Nat) ≠ 1 by decide,show (6:Nat) ≠ 2 by decide,show (6:Nat) ≠ 3 by decide,show (6:Nat) ≠ 4 by decide,show (6:Nat) ≠ 5 by decide,if_true,if_false,Bool.false_eq_true,Bool.false_and,Bool.not_false,Bool.true_and]
  ac_rfl
 split at h
 ·next hk =>
  cases h
  right;right;right;right;right;right;left
  refine ⟨rfl,?_⟩
  unfold nodeOk nodeP wordB
  rw [hk]
  simp only [show (7:Nat) ≠ 1 by decide,show (7:Nat) ≠ 2 by decide,show (7:Nat) ≠ 3 by decide,show (7:Nat) ≠ 4 by decide,show (7:Nat) ≠ 5 by decide,show (7:Nat) ≠ 6 by decide,if_true,if_false,Bool.false_eq_true,Bool.false_and,Bool.not_false,Bool.true_and]
  ac_rfl
 split at h
 ·next hk =>
  cases h
  right;right;right;right;right;right;right;left
  refine ⟨rfl,?_⟩
  unfold nodeOk nodeP wordB
  rw [hk]
  simp only [show (8:Nat) ≠ 1 by decide,show (8:Nat) ≠ 2 by decide,show (8:Nat) ≠ 3 by decide,show (8:Nat) ≠ 4 by decide,show (8:Nat) ≠ 5 by decide,show (8:Nat) ≠ 6 by decide,show (8:Nat) ≠ 7 by decide,if_true,if_false,Bool.false_eq_true,Bool.false_and,Bool.not_false,Bool.true_and]
  ac_rfl
 split at h
 ·next hk =>
  cases h
  right;right;right;right;right;right;right;right
  refine ⟨rfl,?_⟩
  unfold nodeOk nodeP wordB
  rcases hk with hk | hk <;> rw [hk]
  ·simp only [show (9:Nat) ≠ 1 by decide,show (9:Nat) ≠ 2 by decide,show (9:Nat) ≠ 3 by decide,show (9:Nat) ≠ 4 by decide,show (9:Nat) ≠ 5 by decide,show (9:Nat) ≠ 6 by decide,show (9:Nat) ≠ 7 by decide,show (9:Nat) ≠ 8 by decide,true_or,if_true,if_false,Bool.false_eq_true,Bool.false_and,Bool.not_false,Bool.true_and]
   ac_rfl
  ·simp only [show (10:Nat) ≠ 1 by decide,show (10:Nat) ≠ 2 by decide,show (10:Nat) ≠ 3 by decide,show (10:Nat) ≠ 4 by decide,show (10:Nat) ≠ 5 by decide,show (10:Nat) ≠ 6 by decide,show (10:Nat) ≠ 7 by decide,show (10:Nat) ≠ 8 by decide,or_true,if_true,if_false,Bool.false_eq_true,Bool.false_and,Bool.not_false,Bool.true_and]
   ac_rfl
 ·cases h
set_option maxHeartbeats 1000000 in
set_option maxRecDepth 100000 in
theorem node_any (c:Con) (es dd ss:Value) (w:World) (hB:c.bulk≤2000000) (hr:RdN w c es dd ss) (hS:LookS w) (hP:LookP w) :
  Calls Tryz.prog 56 #[c.val es dd ss] w fun e w' => e = .returned (.bool (nodeOk c))∧Below w.heap.size w w':=by
 obtain ⟨ad,cap,rfl⟩:=hr.2.2.1.len
 obtain ⟨ad1,cap1,rfl⟩:=hr.1.len
 obtain ⟨ad2,cap2,rfl⟩:=hr.2.1.len
 obtain ⟨bm,hm,hlk⟩:=hP
 have hk8:=hr.2.2.2.1
 cases hp:partOf c.k with
 | none =>
  have HF:Hid (nodeOk c=false):=nodeOk_none hp
  have hmb:0 < w.heap.size:=World.block_lt_of_cell? w _ hm
  have hlk1:=hlk _ (below_a1 w (.cells #[.int .u8 c.k,.string c.fr,.string c.rc,.string c.nm,.int .u8 c.ex.k,.string c.ex.ra,.string c.ex.nm,.int .i64 c.ex.d,.slice ad1 c.ex.sub.length cap1,.int .i64 c.d,.slice ad2 c.ds.length cap2,.slice ad c.sub.length cap] 29)) c.k hk8
  have hbW:=below_a2 w (.cells #[.int .u8 c.k,.string c.fr,.string c.rc,.string c.nm,.int .u8 c.ex.k,.string c.ex.ra,.string c.ex.nm,.int .i64 c.ex.d,.slice ad1 c.ex.sub.length cap1,.int .i64 c.d,.slice ad2 c.ds.length cap2,.slice ad c.sub.length cap] 29) (.cells #[.int .i64 0] 3)
  rw [hp] at hlk1
  unfold PartAt at hlk1
  clear hlk hr hp
  unfold Con.val
  go_enter Tryz.func56,Tryz.ntmps56
  go_wp2_with fail
  go_ret
  exact ⟨ret_bool' HF.out.symm,hbW⟩
 | some m =>
  have hlk2:∀ W,Below w.heap.size w W→(Instr.lookup 152 (.map (some bm)) (.int .u8 (c.k:Int)) true).run Tryz.prog W = .ok (.tuple #[.int .i64 (m:Int),.bool true]) W:=fun W hb => by
   have h:=hlk W hb c.k hk8
   rw [hp] at h
   exact h
  rcases nodeOk_some hp with ⟨rfl,e⟩ | ⟨rfl,e⟩ | ⟨rfl,e⟩ | ⟨rfl,e⟩ | ⟨rfl,e⟩ | ⟨rfl,e⟩ | ⟨rfl,e⟩ | ⟨rfl,e⟩ | ⟨rfl,e⟩ <;> rw [e]
  ·exact node_m0 c w bm ad ad1 ad2 cap cap1 cap2 hB hm hr (Lib.hid hS) hlk2
  ·exact node_m15 c w bm ad ad1 ad2 cap cap1 cap2 hB hm hr (Lib.hid hS) hlk2
  ·exact node_m256 c w bm ad ad1 ad2 cap cap1 cap2 hB hm hr (Lib.hid hS) hlk2
  ·exact node_m136 c w bm ad ad1 ad2 cap cap1 cap2 hB hm hr (Lib.hid hS) hlk2
  ·exact node_m272 c w bm ad ad1 ad2 cap cap1 cap2 hB hm hr (Lib.hid hS) hlk2
  ·exact node_m160 c w bm ad ad1 ad2 cap cap1 cap2 hB hm hr (Lib.hid hS) hlk2
  ·exact node_m261 c w bm ad ad1 ad2 cap cap1 cap2 hB hm hr (Lib.hid hS) hlk2
  ·exact node_m197 c w bm ad ad1 ad2 cap cap1 cap2 hB hm hr (Lib.hid hS) hlk2
  ·exact node_m208 c w bm ad ad1 ad2 cap cap1 cap2 hB hm hr (Lib.hid hS) hlk2
end Go.Proofs.YtknpnhodpgajbaaGreatDoor

namespace Go.Proofs.YtknpnhodpgajbaaGreatDoor
open Go.RowKit Go.Shelf
attribute [local go_sem] Oper.semAt_some
mutual
theorem Con.formed_nodes:∀ c:Con,c.formed=c.nodes.all nodeOk
 | .mk k f t n x d dd l => by rw [Con.formed,Con.nodes,List.all_cons,Con.formeds_nodes l]
theorem Con.formeds_nodes:∀ l:List Con,Con.formeds l=(Con.nodess l).all nodeOk
 | [] => by rw [Con.formeds,Con.nodess];rfl
 | x :: l => by rw [Con.formeds,Con.nodess,List.all_append,Con.formed_nodes x,Con.formeds_nodes l]
end
theorem Con.err_many {c:Con} (h:500 < c.size∨60 < c.depth):c.err=4:=by unfold Con.err;rw [if_pos h]
theorem Con.err_ok {c:Con} (h : ¬ (500 < c.size∨60 < c.depth)) (h2:∀ x ∈ c.nodes,nodeOk x=true):c.err=0:=by
 unfold Con.err
 rw [if_neg h,if_pos (by rw [Con.formed_nodes];exact List.all_eq_true.2 h2)]
theorem Con.err_bad {c:Con} (h : ¬ (500 < c.size∨60 < c.depth)) {x:Con} (hx:x ∈ c.nodes) (h2:nodeOk x=false):c.err=8:=by
 unfold Con.err
 rw [if_neg h,if_neg (fun hf => by rw [Con.formed_nodes,List.all_eq_true] at hf;have:=hf x hx;rw [h2] at this;cases this)]
set_option maxHeartbeats 4000000 in
set_option maxRecDepth 100000 in
theorem cchk_any (c:Con) (es dd ss:Value) (w:World) (hB:c.bulk≤2000000) (hr:RdN w c es dd ss) (hS:LookS w) (hP:LookP w) :
  Calls Tryz.prog 20 #[c.val es dd ss] w fun e w' => e = .returned (.int .i64 c.err)∧Below w.heap.size w w':=by
 obtain ⟨ad,cap,rfl⟩:=hr.2.2.1.len
 obtain ⟨ad1,cap1,rfl⟩:=hr.1.len
 obtain ⟨ad2,cap2,rfl⟩:=hr.2.1.len
 have HNo:=Lib.hid (fun W => cnodes_any c (.slice ad1 c.ex.sub.length cap1) (.slice ad2 c.ds.length cap2) (.slice ad c.sub.length cap) W)
 have HSi:=Lib.hid (fun W (hb:Below w.heap.size w W) => csize_any c _ _ _ W hB (hr.frame hb))
 have HDe:=Lib.hid (fun W (hb:Below w.heap.size w W) => cdepth_any c.bulk c _ _ _ W (Nat.le_refl _) hB (hr.frame hb))
 have HLk:=Lib.hid (And.intro hS hP)
 have hb0:=below_a2 w (.cells #[.int .u8 c.k,.string c.fr,.string c.rc,.string c.nm,.int .u8 c.ex.k,.string c.ex.ra,.string c.ex.nm,.int .i64 c.ex.d,.slice ad1 c.ex.sub.length cap1,.int .i64 c.d,.slice ad2 c.ds.length cap2,.slice ad c.sub.length cap] 29) (.cells #[.int .i64 0] 38)
 have bC:=(CBox.new w c (.slice ad1 c.ex.sub.length cap1) (.slice ad2 c.ds.length cap2) (.slice ad c.sub.length cap) 29).low (below_a1 _ (.cells #[.int .i64 0] 38))
 have bR:=Boxed.new (w.alloc (.cells #[.int .u8 c.k,.string c.fr,.string c.rc,.string c.nm,.int .u8 c.ex.k,.string c.ex.ra,.string c.ex.nm,.int .i64 c.ex.d,.slice ad1 c.ex.sub.length cap1,.int .i64 c.d,.slice ad2 c.ds.length cap2,.slice ad c.sub.length cap] 29)) 38 (.int .i64 0)
 simp only [World.size_alloc] at bR
 have hsz:((w.alloc (.cells #[.int .u8 c.k,.string c.fr,.string c.rc,.string c.nm,.int .u8 c.ex.k,.string c.ex.ra,.string c.ex.nm,.int .i64 c.ex.d,.slice ad1 c.ex.sub.length cap1,.int .i64 c.d,.slice ad2 c.ds.length cap2,.slice ad c.sub.length cap] 29)).alloc (.cells #[.int .i64 0] 38)).heap.size=w.heap.size+2:=by simp
 have hszb:=c.size_le
 have hdzb:=c.depth_le
 clear hS hP
 refine (callsIn_wide (n:=10)).1 ?_
 unfold Con.val at HNo HSi HDe ⊢
 refine callsIn_of_wp_marks Tryz.func20 rfl trivial ?_ rfl
 simp only [Tryz.ntmps20,List.size_toArray,List.length_cons,List.length_nil,Nat.reduceAdd,Nat.reduceSub,Array.replicate_succ,Array.replicate_zero,List.push_toArray,List.append_toArray,List.nil_append,List.cons_append]
 by_cases h5:500 < c.size
 ·have HF:Hid (c.err=4):=Con.err_many (.inl h5)
  have t1:(500:Int) < (c.size:Int):=by omega
  gi_wp2_with (refine ⟨trivial,?_⟩;gi_at_call 53;refine (callsIn_wide.2 (HSi.out _ hb0)).mono ?_;rintro e w1 ⟨rfl,hb1⟩;have hz1:=hb1.size;(simp only [World.size_alloc] at hz1);have bR1:Boxed w1 (w.heap.size+1) 38 (.int .i64 0):=(hb1.block _ bR.lt).trans bR;have hc1:=bR1.cell;have hf1:=bR1.frozen)
  refine ⟨trivial,?_⟩
  have hb2:=hb0.trans (hb1.mono (by rw [hsz];omega))
  have hb3:=hb2.setCell (p:=⟨w.heap.size+1,0,none⟩) (by simp) (.int .i64 4)
  have hc4:=(bR1.set (.int .i64 4)).cell
  clear hb0 hb1 hb2
  gi_wp2
  refine ⟨.int .i64 4,?_,by rw [HF.out],hb3⟩
  simp [results,Tryz.f20,go_sem,hc4]
 ·have t1:decide ((500:Int) < (c.size:Int))=false:=by rw [decide_eq_false_iff_not];omega
  have t1b:decide (500 < c.size)=false:=by rw [decide_eq_false_iff_not];omega
  by_cases h6:60 < c.depth
  ·have HF:Hid (c.err=4):=Con.err_many (.inr h6)
   have t2:(60:Int) < (c.depth:Int):=by omega
   gi_wp2_with (first
    | (refine ⟨trivial,?_⟩;gi_at_call 53;refine (callsIn_wide.2 (HSi.out _ hb0)).mono ?_;rintro e w1 ⟨rfl,hb1⟩;have hz1:=hb1.size;(simp only [World.size_alloc] at hz1);have hb2:=hb0.trans (hb1.mono (by rw [hsz];omega));obtain ⟨c0,c1,c2,c3,c4,c5,c6,c7,c8,c9,c10,c11⟩:=bC.low hb1)
    | (refine ⟨trivial,?_⟩;gi_at_call 54;refine (callsIn_wide.2 (HDe.out _ hb2)).mono ?_;rintro e w2 ⟨rfl,hb3⟩;have hz2:=hb3.size;have bR2:Boxed w2 (w.heap.size+1) 38 (.int .i64 0):=(hb3.block _ (by omega)).trans ((hb1.block _ bR.lt).trans bR);have hc2:=bR2.cell;have hf2:=bR2.frozen))
   have hb4:=hb2.trans (hb3.mono (by omega))
   have hb5:=hb4.setCell (p:=⟨w.heap.size+1,0,none⟩) (by simp) (.int .i64 4)
   have hc4:=(bR2.set (.int .i64 4)).cell
   clear hb0 hb1 hb2 hb3 hb4
   gi_wp2
   refine ⟨.int .i64 4,?_,by rw [HF.out],hb5⟩
   simp [results,Tryz.f20,go_sem,hc4]
  ·have t2:decide ((60:Int) < (c.depth:Int))=false:=by rw [decide_eq_false_iff_not];omega
   have t2b:decide (60 < c.depth)=false:=by rw [decide_eq_false_iff_not];omega
   gi_wp2_with (first
    | (refine ⟨trivial,?_⟩;gi_at_call 53;refine (callsIn_wide.2 (HSi.out _ hb0)).mono ?_;rintro e w1 ⟨rfl,hb1⟩;have hz1:=hb1.size;(simp only [World.size_alloc] at hz1);have hb2:=hb0.trans (hb1.mono (by rw [hsz];omega));obtain ⟨c0,c1,c2,c3,c4,c5,c6,c7,c8,c9,c10,c11⟩:=bC.low hb1)
    | (refine ⟨trivial,?_⟩;gi_at_call 54;refine (callsIn_wide.2 (HDe.out _ hb2)).mono ?_;rintro e w2 ⟨rfl,hb3⟩;have hz2:=hb3.size;have bR2:Boxed w2 (w.heap.size+1) 38 (.int .i64 0):=(hb3.block _ (by omega)).trans ((hb1.block _ bR.lt).trans bR);have hb4:=hb2.trans (hb3.mono (by omega));obtain ⟨d0,d1,d2,d3,d4,d5,d6,d7,d8,d9,d10,d11⟩:=(bC.low hb1).low hb3)
    | (refine ⟨trivial,?_⟩;gi_at_call 55;refine (callsIn_wide.2 (HNo.out _)).mono ?_;rintro e w3 ⟨rfl,rfl⟩))
   have bC0:=CBox.new w2 c (.slice ad1 c.ex.sub.length cap1) (.slice ad2 c.ds.length cap2) (.slice ad c.sub.length cap) 29
   have bR0:=bR2.alloc (.cells #[.int .u8 c.k,.string c.fr,.string c.rc,.string c.nm,.int .u8 c.ex.k,.string c.ex.ra,.string c.ex.nm,.int .i64 c.ex.d,.slice ad1 c.ex.sub.length cap1,.int .i64 c.d,.slice ad2 c.ds.length cap2,.slice ad c.sub.length cap] 29)
   have hbW:=hb4.alloc hb4.size (.cells #[.int .u8 c.k,.string c.fr,.string c.rc,.string c.nm,.int .u8 c.ex.k,.string c.ex.ra,.string c.ex.nm,.int .i64 c.ex.d,.slice ad1 c.ex.sub.length cap1,.int .i64 c.d,.slice ad2 c.ds.length cap2,.slice ad c.sub.length cap] 29)
   have hsz0:w.heap.size+2≤(w2.alloc (.cells #[.int .u8 c.k,.string c.fr,.string c.rc,.string c.nm,.int .u8 c.ex.k,.string c.ex.ra,.string c.ex.nm,.int .i64 c.ex.d,.slice ad1 c.ex.sub.length cap1,.int .i64 c.d,.slice ad2 c.ds.length cap2,.slice ad c.sub.length cap] 29)).heap.size:=by simp;omega
   obtain ⟨W0,hW0⟩:∃ W0,w2.alloc (.cells #[.int .u8 c.k,.string c.fr,.string c.rc,.string c.nm,.int .u8 c.ex.k,.string c.ex.ra,.string c.ex.nm,.int .i64 c.ex.d,.slice ad1 c.ex.sub.length cap1,.int .i64 c.d,.slice ad2 c.ds.length cap2,.slice ad c.sub.length cap] 29)=W0:=⟨_,rfl⟩
   rw [hW0] at bC0 bR0 hbW hsz0 ⊢
   have hE : ¬ (500 < c.size∨60 < c.depth):=by omega
   have HOk:=Lib.hid (fun h2 => Con.err_ok (c:=c) hE h2)
   have HBad:=Lib.hid (fun x hx h2 => Con.err_bad (c:=c) hE (x:=x) hx h2)
   have hw2:w2.heap.size < W0.heap.size:=by rw [← hW0];simp
   clear hW0 HNo HSi HDe hb0 bC bR hb1 hz1 hb2 hb3 hz2 bR2 hb4 d0 d1 d2 d3 d4 d5 d6 d7 d8 d9 d10 d11 c0 c1 c2 c3 c4 c5 c6 c7 c8 c9 c10 c11 hsz t1 t1b t2 t2b hE
   refine wpIn_rangeFunc_ownH rfl (by decide) (gf:=110) (lb:=#[.pointer (some ⟨w2.heap.size,0,none⟩)]) rfl trivial (enters_of Tryz.func110 (by kernel_rfl) rfl)
    (cnodes_stops w Fence.wide rfl trivial trivial rfl 9 c _ _ _ W0 hB hr hbW _ bC0) (fun h k => h.trans k) (fun W l o o' hl h hc _ => Kept.putObj W l o o' (by omega) h hc) (Below.refl _ _) (fun _ => rfl)
    (fun pre W => (Boxed W (w.heap.size+1) 38 (.int .i64 0)∧(∀ x ∈ pre.map NdW.con,nodeOk x=true))∧(Below w.heap.size w W∧W0.heap.size≤W.heap.size))
    (fun cd pre W => (cd = .ret∧(∃ x ∈ pre.map NdW.con,nodeOk x=false)∧Boxed W (w.heap.size+1) 38 (.int .i64 8))∧(Below w.heap.size w W∧W0.heap.size≤W.heap.size))
    (OwnFrom.and (Own.from (fun s A B row hs hg hr => ⟨boxed_own (β:=Unit) _ _ (fun _ => .int .i64 0) () A B row hs.1 hg hr,hs.2⟩) _) (OwnFrom.and (ownFrom_below (Nat.le_refl _) (by omega)) (fun _ _ _ _ hs hg _ => Nat.le_trans hs hg.size)))
    (fun cd => OwnFrom.and (Own.from (fun s A B row hs hg hr => ⟨hs.1,hs.2.1,boxed_own (β:=Unit) _ _ (fun _ => .int .i64 8) () A B row hs.2.2 hg hr⟩) _) (OwnFrom.and (ownFrom_below (Nat.le_refl _) (by omega)) (fun _ _ _ _ hs hg _ => Nat.le_trans hs hg.size)))
    ⟨⟨bR0,by simp⟩,hbW,Nat.le_refl _⟩
    (fun x a' W => ∃ Bx,W0.heap.size≤Bx∧CBox W Bx x.1.1 x.1.2.1 x.1.2.2.1 x.1.2.2.2∧a'={ tmps:=#[.agg #[.int .u8 c.k,.string c.fr,.string c.rc,.string c.nm,.int .u8 c.ex.k,.string c.ex.ra,.string c.ex.nm,.int .i64 c.ex.d,.slice ad1 c.ex.sub.length cap1,.int .i64 c.d,.slice ad2 c.ds.length cap2,.slice ad c.sub.length cap],.pointer (some ⟨w.heap.size,0,none⟩),.pointer (some ⟨w.heap.size+1,0,none⟩),.pointer (some ⟨Bx,0,none⟩),.agg #[.int .u8 c.k,.string c.fr,.string c.rc,.string c.nm,.int .u8 c.ex.k,.string c.ex.ra,.string c.ex.nm,.int .i64 c.ex.d,.slice ad1 c.ex.sub.length cap1,.int .i64 c.d,.slice ad2 c.ds.length cap2,.slice ad c.sub.length cap],.int .i64 c.size,.bool false,.bool false,.agg #[.int .u8 c.k,.string c.fr,.string c.rc,.string c.nm,.int .u8 c.ex.k,.string c.ex.ra,.string c.ex.nm,.int .i64 c.ex.d,.slice ad1 c.ex.sub.length cap1,.int .i64 c.d,.slice ad2 c.ds.length cap2,.slice ad c.sub.length cap],.int .i64 c.depth,.bool false,.bool false,.agg #[.int .u8 c.k,.string c.fr,.string c.rc,.string c.nm,.int .u8 c.ex.k,.string c.ex.ra,.string c.ex.nm,.int .i64 c.ex.d,.slice ad1 c.ex.sub.length cap1,.int .i64 c.d,.slice ad2 c.ds.length cap2,.slice ad c.sub.length cap],.func (.func 110) #[] #[.pointer (some ⟨w2.heap.size,0,none⟩)],x.1.1.val x.1.2.1 x.1.2.2.1 x.1.2.2.2,undef,undef,undef],defers:=[] })
    (fun x a' s A B row hs hg hr => by
     obtain ⟨Bx,h1,h2,h3⟩:=hs
     exact ⟨Bx,h1,cbox_own (β:=Unit) Bx _ _ _ _ () A B row h2 hg (fun r e => (hr r e).2),h3⟩)
    ?assign ?body ?done ?stop
   case assign =>
    rintro l pre ⟨⟨y,es',dd',ss'⟩,hy,hyB⟩ W K ⟨⟨hi,hall⟩,hbi,hZ0⟩ hK
    have hy2:RdN w y es' dd' ss':=hy
    obtain ⟨bd,bcap,rfl⟩:=hy2.2.2.1.len
    obtain ⟨bd1,bcap1,rfl⟩:=hy2.1.len
    obtain ⟨bd2,bcap2,rfl⟩:=hy2.2.1.len
    have hz:=hbi.size
    have hl:=hi.lt
    have hk:=hK _ _ ((KeepsOthers.alloc W (.cells #[.int .u8 y.k,.string y.fr,.string y.rc,.string y.nm,.int .u8 y.ex.k,.string y.ex.ra,.string y.ex.nm,.int .i64 y.ex.d,.slice bd1 y.ex.sub.length bcap1,.int .i64 y.d,.slice bd2 y.ds.length bcap2,.slice bd y.sub.length bcap] 29)).from _) (Kept.alloc W hz _) ⟨⟨hi.alloc _,hall⟩,hbi.alloc hz _,Nat.le_trans hZ0 (by simp)⟩ ⟨W.heap.size,hZ0,CBox.new W y _ _ _ _,rfl⟩
    unfold NdW.enc Con.val
    unfold Con.val at hk
    clear hK
    gi_wp2
    exact hk
   case body =>
    rintro l pre ⟨⟨y,es',dd',ss'⟩,hy,hyB⟩ a' W hl ⟨r,hlr⟩ ⟨⟨hi,hall⟩,hbi,hZ0⟩ ⟨Bx,hBx,hbox,rfl⟩ hlt
    have hy2:RdN w y es' dd' ss':=hy
    obtain ⟨bd,bcap,rfl⟩:=hy2.2.2.1.len
    obtain ⟨bd1,bcap1,rfl⟩:=hy2.1.len
    obtain ⟨bd2,bcap2,rfl⟩:=hy2.2.1.len
    have hyb:y.bulk≤2000000:=hyB
    have HNd:=Lib.hid (node_any y _ _ _ W hyb (hy2.frame hbi) (HLk.out.1.frame hbi) (HLk.out.2.frame hbi))
    unfold Con.val at HNd ⊢
    obtain ⟨c0,c1,c2,c3,c4,c5,c6,c7,c8,c9,c10,c11⟩:=hbox
    have hall':nodeOk y=true→∀ x ∈ (pre ++ [(⟨(y,.slice bd1 y.ex.sub.length bcap1,.slice bd2 y.ds.length bcap2,.slice bd y.sub.length bcap),hy,hyB⟩:NdW w)]).map NdW.con,nodeOk x=true:=fun h x hx => by
     rw [List.map_append,List.mem_append] at hx
     rcases hx with hx | hx
     ·exact hall x hx
     ·obtain rfl:x=y:=by simpa [NdW.con] using hx
      exact h
    have hbad':nodeOk y=false→∃ x ∈ (pre ++ [(⟨(y,.slice bd1 y.ex.sub.length bcap1,.slice bd2 y.ds.length bcap2,.slice bd y.sub.length bcap),hy,hyB⟩:NdW w)]).map NdW.con,nodeOk x=false:=fun h => ⟨y,by simp [NdW.con],h⟩
    have HA:=Lib.hid hall'
    have HB:=Lib.hid hbad'
    clear hall hall' hbad' hyb hlr bC0 bR0
    cases hq:nodeOk y with
    | true =>
     rw [hq] at HNd
     have HA2:=Lib.hid (HA.out hq)
     clear hq HA HB
     gi_wp2_with (refine ⟨trivial,?_⟩;gi_at_call 56;refine (CallsIn.inRound l (callsIn_wide.2 HNd.out)).mono ?_;rintro e w4 ⟨rfl,hb5⟩)
     exact ⟨(KeepsOthers.of_below hb5).from _,Kept.of_below hbi.size hb5,⟨(hb5.block _ hi.lt).trans hi,HA2.out⟩,hbi.trans (hb5.mono hbi.size),Nat.le_trans hZ0 hb5.size⟩
    | false =>
     rw [hq] at HNd
     have HB2:=Lib.hid (HB.out hq)
     clear hq HA HB
     gi_wp2_with (refine ⟨trivial,?_⟩;gi_at_call 56;refine (CallsIn.inRound l (callsIn_wide.2 HNd.out)).mono ?_;rintro e w4 ⟨rfl,hb5⟩;have hi5:Boxed w4 (w.heap.size+1) 38 (.int .i64 0):=(hb5.block _ hi.lt).trans hi;have hc5:=hi5.cell;have hf5:=hi5.frozen)
     exact ⟨((KeepsOthers.of_below hb5).trans (KeepsOthers.setCell _ _ _)).from _,⟨rfl,HB2.out,hi5.set _⟩,(hbi.trans (hb5.mono hbi.size)).setCell (p:=⟨w.heap.size+1,0,none⟩) (by simp) _,Nat.le_trans (Nat.le_trans hZ0 hb5.size) (by simp)⟩
   case done =>
    rintro D xs W hD hS ⟨⟨hi,hall⟩,hbi,hZ0⟩ hK
    rw [hS] at hall
    have HF:=Lib.hid (HOk.out hall)
    have hf:=hi.frozen
    have hlt:=hi.lt
    have hc:=hi.cell
    have hK2:=(KeepsOthers.setCell W ⟨w.heap.size+1,0,none⟩ (.int .i64 0)).same D _ hK rfl
    have hb7:=(hbi.setCell (p:=⟨w.heap.size+1,0,none⟩) (by simp) (.int .i64 0)).trans (belowK_b (w:=w) (Nat.le_refl _) _ D (.deferred (some [])) (.deferred none) (by omega) hK2 rfl rfl)
    have hc5:=cell_kept (hi.set (.int .i64 0)).cell (grownBy_putObj' _ D (.deferred none)) (fun r e => by cases e;exact ⟨_,hK2,rfl⟩)
    clear hall hi hbi
    gi_wp2
    refine ⟨by simp,.inl ⟨_,_,rfl,run_takeDeferred hK2,?_⟩⟩
    refine ⟨.int .i64 0,?_,by rw [HF.out],hb7⟩
    simp [results,Tryz.f20,go_sem,hc5]
   case stop =>
    rintro D cd pre W hD hpre ⟨⟨rfl,⟨x,hx,hxb⟩,hi⟩,hbi,hZ0⟩ hK
    have HF:=Lib.hid (HBad.out x (hpre.subset hx) hxb)
    have hb7:=hbi.trans (belowK_b (w:=w) (Nat.le_refl _) W D (.deferred (some [])) (.deferred none) (by omega) hK rfl rfl)
    have hc5:=cell_kept hi.cell (grownBy_putObj' _ D (.deferred none)) (fun r e => by cases e;exact ⟨_,hK,rfl⟩)
    clear hi hbi hx hxb
    gi_wp2
    refine ⟨by simp,.inl ⟨_,_,rfl,run_takeDeferred hK,?_⟩⟩
    refine ⟨.int .i64 8,?_,by rw [HF.out],hb7⟩
    simp [results,Tryz.f20,go_sem,hc5]
end Go.Proofs.YtknpnhodpgajbaaGreatDoor
