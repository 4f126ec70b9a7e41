/- A part. -/
import Derived.Test.YtcnpaciljmekcaaGreatDoorA08
namespace Go.Proofs.YtcnpaciljmekcaaGreatDoor
open Go.RowKit
set_option maxHeartbeats 60000000 in
set_option maxRecDepth 100000 in
theorem node_mask2 (c:Con) (w:World) (m:Int) {b1 b2 b4 b8 b16 b32 b64 b128 b256:Bool} (hh1:(bits BinOp.and IntKind.i64 m 1 != 0)=b1) (hh2:(bits BinOp.and IntKind.i64 m 2 != 0)=b2) (hh4:(bits BinOp.and IntKind.i64 m 4 != 0)=b4) (hh8:(bits BinOp.and IntKind.i64 m 8 != 0)=b8) (hh16:(bits BinOp.and IntKind.i64 m 16 != 0)=b16) (hh32:(bits BinOp.and IntKind.i64 m 32 != 0)=b32) (hh64:(bits BinOp.and IntKind.i64 m 64 != 0)=b64) (hh128:(bits BinOp.and IntKind.i64 m 128 != 0)=b128) (hh256:(bits BinOp.and IntKind.i64 m 256 != 0)=b256) (bm:Nat) (ad ad1 ad2:Option Addr) (cap cap1 cap2:Nat) (hB:c.bulk≤2000000) (hm:w.cell? ⟨0,0,none⟩=some (.map (some bm)))
  (hr:RdN w c (.slice ad1 c.ex.sub.length cap1) (.slice ad2 c.ds.length cap2) (.slice ad c.sub.length cap)) (HLS:Hid (LookS w))
  (hc:m=160∨m=261∨m=197∨m=208)
  (hlk:∀ W,Below w.heap.size w W→(Instr.lookup 208 (.map (some bm)) (.int .u8 (c.k:Int)) true).run Tryz.prog W = .ok (.tuple #[.int .i64 m,.bool true]) W) :
  Calls Tryz.prog 113 #[c.val (.slice ad1 c.ex.sub.length cap1) (.slice ad2 c.ds.length cap2) (.slice ad c.sub.length cap)] w fun e w' => e = .returned (.bool (nodeP b1 b2 b4 b8 b16 b32 b64 (if b256=true then 2 else if b128=true then 1 else 0) c))∧Below w.heap.size w w':=by
 have hmb:0 < w.heap.size:=World.block_lt_of_cell? w _ hm
 have hlk1:=hlk _ (below_a1 w (.cells #[.int .u8 c.k,.string c.fr,.string c.rc,.string c.nm,.int .u8 c.ex.k,.string c.ex.ra,.string c.ex.nm,.int .i64 c.ex.d,.slice ad1 c.ex.sub.length cap1,.int .i64 c.d,.slice ad2 c.ds.length cap2,.slice ad c.sub.length cap] 29))
 have hbq:=c.bulk_eq
 have hl1:=Con.bulks_len c.sub
 have hk8:=hr.2.2.2.2
 have hB2:c.ex.bulk≤2000000:=by omega
 have hn1:c.sub.length≤2000000:=by omega
 have hn2:c.ds.length≤2000000:=by omega
 have hf1:c.fr.size≤2000000:=by omega
 have hf2:c.rc.size≤2000000:=by omega
 have hf3:c.nm.size≤2000000:=by omega
 have HE:Hid (∀ W,Below w.heap.size w W→RdE W c.ex.sub (.slice ad1 c.ex.sub.length cap1)):=Lib.hid fun W hb => hr.1.frame hb
 have HXb:Hid (∀ W,Below w.heap.size w W→Calls Tryz.prog 155 #[.agg #[.int .u8 c.ex.k,.string c.ex.ra,.string c.ex.nm,.int .i64 c.ex.d,.slice ad1 c.ex.sub.length cap1]] W fun e w' => e = .returned (.bool (c.ex.bare))∧Below W.heap.size W w'):=Lib.hid fun W hb => bare_any c.ex _ W (HE.out W hb)
 have HXn:Hid (∀ W,Below w.heap.size w W→Calls Tryz.prog 160 #[.agg #[.int .u8 c.ex.k,.string c.ex.ra,.string c.ex.nm,.int .i64 c.ex.d,.slice ad1 c.ex.sub.length cap1]] W fun e w' => e = .returned (.bool (c.ex.isA 1))∧Below W.heap.size W w'):=Lib.hid fun W hb => onum_any c.ex _ W hB2 (HE.out W hb) hk8 (HLS.out.frame hb)
 have HXt:Hid (∀ W,Below w.heap.size w W→Calls Tryz.prog 161 #[.agg #[.int .u8 c.ex.k,.string c.ex.ra,.string c.ex.nm,.int .i64 c.ex.d,.slice ad1 c.ex.sub.length cap1]] W fun e w' => e = .returned (.bool (c.ex.isA 2))∧Below W.heap.size W w'):=Lib.hid fun W hb => otruth_any c.ex _ W hB2 (HE.out W hb) hk8 (HLS.out.frame hb)
 have HD:Hid (∀ W,Below w.heap.size w W→Calls Tryz.prog 163 #[.slice ad2 c.ds.length cap2] W fun e w' => e = .returned (.bool (isDays c.ds))∧W=w'):=Lib.hid fun W hb => days_any c.ds _ W hn2 (hr.2.1.frame hb)
 have HY:Hid (∀ W,Calls Tryz.prog 162 #[.int .i64 c.d] W fun e w' => e = .returned (.bool (isDay c.d))∧W=w'):=Lib.hid fun W => cwithin_any c.d W
 clear hlk hbq hl1 hr
 have HR:Hid (nodeP b1 b2 b4 b8 b16 b32 b64 (if b256=true then 2 else if b128=true then 1 else 0) c=(wordB b1 c.fr && (wordB b2 c.rc && (wordB b4 c.nm && (!(b2 && (c.fr.toList == c.rc.toList)) && ((if b8=true then c.ex.isA 1 else if b16=true then c.ex.isA 2 else c.ex.bare) && ((if b32=true then isDay c.d else decide (c.d=0)) && ((if b64=true then isDays c.ds else decide (c.ds.length=0)) && decide (c.sub.length=if b256=true then 2 else if b128=true then 1 else 0))))))))):=Lib.hid (by unfold nodeP;rw [toList_beq])
 generalize nodeP b1 b2 b4 b8 b16 b32 b64 (if b256=true then 2 else if b128=true then 1 else 0) c=R at *
 rcases hc with rfl | rfl | rfl | rfl
 all_goals
  (cases b8 <;> try (exact absurd hh8 (by decide)))
  (cases b16 <;> try (exact absurd hh16 (by decide)))
  (cases b32 <;> try (exact absurd hh32 (by decide)))
  (cases b64 <;> try (exact absurd hh64 (by decide)))
  (cases b128 <;> try (exact absurd hh128 (by decide)))
  (cases b256 <;> try (exact absurd hh256 (by decide)))
  unfold Con.val
  go_enter Tryz.func113,Tryz.ntmps113
  go_wp2_with fail
  obtain ⟨W,hW,hbW,hzW,q1,q2,q3,q4,q5,q6,q7,q8,q9,q10,q11,q12,q13⟩:=node_world w c ad ad1 ad2 cap cap1 cap2 _
  rw [hW]
  clear hW hlk1
  have HW1:=Lib.hid (word_any _ 1 _ hh1 c.fr hf1 _ _ W q12 q13)
  have HW2:=Lib.hid (word_any _ 2 _ hh2 c.rc hf2 _ _ W q12 q13)
  have HW4:=Lib.hid (word_any _ 4 _ hh4 c.nm hf3 _ _ W q12 q13)
  have H2:=Lib.hid (fun W' hc => has_any _ 2 _ hh2 (w.heap.size+1) W' hc)
  have H8:=Lib.hid (fun W' hc => has_any _ 8 _ hh8 (w.heap.size+1) W' hc)
  have H16:=Lib.hid (fun W' hc => has_any _ 16 _ hh16 (w.heap.size+1) W' hc)
  have H32:=Lib.hid (fun W' hc => has_any _ 32 _ hh32 (w.heap.size+1) W' hc)
  have H64:=Lib.hid (fun W' hc => has_any _ 64 _ hh64 (w.heap.size+1) W' hc)
  have H128:=Lib.hid (fun W' hc => has_any _ 128 _ hh128 (w.heap.size+1) W' hc)
  have H256:=Lib.hid (fun W' hc => has_any _ 256 _ hh256 (w.heap.size+1) W' hc)
  clear hh1 hh2 hh4 hh8 hh16 hh32 hh64 hh128 hh256
  have HK:=Lib.hid (node_keep hbW hzW q9 q10 q11 q12 q13)
  have hx0:w.heap.size < W.heap.size:=by omega
  have hx1:w.heap.size+1 < W.heap.size:=by omega
  have hx2:w.heap.size+1+1 < W.heap.size:=by omega
  clear hzW hm hmb
  generalize wordB b1 c.fr=B1 at *
  generalize wordB b2 c.rc=B2 at *
  generalize wordB b4 c.nm=B3 at *
  generalize c.ex.isA 2=E2 at *
  generalize c.ex.isA 1=E1 at *
  generalize c.ex.bare=E at *
  generalize isDay c.d=DY at *
  generalize isDays c.ds=DS at *
  go_wp2_with (first
   | (go_at_call 159;(first | with_reducible refine HW1.out.mono ?_ | with_reducible refine HW2.out.mono ?_ | with_reducible refine HW4.out.mono ?_);rintro e w1 ⟨rfl,rfl⟩)
   | (go_at_call 158;(first | with_reducible refine (H2.out _ (by assumption)).mono ?_ | with_reducible refine (H8.out _ (by assumption)).mono ?_ | with_reducible refine (H16.out _ (by assumption)).mono ?_ | with_reducible refine (H32.out _ (by assumption)).mono ?_ | with_reducible refine (H64.out _ (by assumption)).mono ?_ | with_reducible refine (H128.out _ (by assumption)).mono ?_ | with_reducible refine (H256.out _ (by assumption)).mono ?_);rintro e w1 ⟨rfl,rfl⟩)
   | (go_at_call 155;refine (HXb.out _ (by assumption)).mono ?_;rintro e W2 ⟨rfl,hb2⟩;obtain ⟨r9,r10,r11,r12,r13,hbW2⟩:=HK.out W2 hb2;clear hb2)
   | (go_at_call 160;refine (HXn.out _ (by assumption)).mono ?_;rintro e W2 ⟨rfl,hb2⟩;obtain ⟨r9,r10,r11,r12,r13,hbW2⟩:=HK.out W2 hb2;clear hb2)
   | (go_at_call 161;refine (HXt.out _ (by assumption)).mono ?_;rintro e W2 ⟨rfl,hb2⟩;obtain ⟨r9,r10,r11,r12,r13,hbW2⟩:=HK.out W2 hb2;clear hb2)
   | (go_at_call 162;refine (HY.out _).mono ?_;rintro e w1 ⟨rfl,rfl⟩)
   | (go_at_call 163;refine (HD.out _ (by assumption)).mono ?_;rintro e w1 ⟨rfl,rfl⟩))
  all_goals
   go_ret
   first
    | exact ⟨ret_bool' (by rw [HR.out];simp [*,len_one,len_two]),hbW2⟩
    | exact ⟨ret_bool' (by rw [HR.out];simp [*]),hbW⟩
end Go.Proofs.YtcnpaciljmekcaaGreatDoor
