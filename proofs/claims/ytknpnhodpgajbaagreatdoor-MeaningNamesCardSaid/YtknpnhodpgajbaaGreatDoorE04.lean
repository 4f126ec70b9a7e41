/-
  integer.read. (Printed by a program of this work.) Variables of two cells; worlds with new blocks. A region that draws its order, whose operations read and whose calls at most make memory: one walk in the order of the text.
-/
import Derived.Test.YtknpnhodpgajbaaGreatDoorE02
import Derived.Test.YtknpnhodpgajbaaGreatDoorE03
import Derived.Deep.RegionHeld3
import Derived.Test.YtknpnhodpgajbaaGreatDoorE01
import Derived.Deep.Quiet
namespace Go.Proofs.YtknpnhodpgajbaaGreatDoor
open Go.RowKit Go.Shelf
attribute [local go_sem] Oper.semAt_some
def Boxed2 (W:World) (B:Nat) (t:TypeId) (u v:Value):Prop:=W.heap[B]? = some (.cells #[u,v] t (0,0))
theorem Boxed2.lt {W:World} {B:Nat} {t:TypeId} {u v:Value} (h:Boxed2 W B t u v):B < W.heap.size:=(Array.getElem?_eq_some_iff.1 h).1
theorem Boxed2.cell0 {W:World} {B:Nat} {t:TypeId} {u v:Value} (h:Boxed2 W B t u v):W.cell? ⟨B,0,none⟩=some u:=by simp [World.cell?,show W.heap[B]? = _ from h]
theorem Boxed2.cell1 {W:World} {B:Nat} {t:TypeId} {u v:Value} (h:Boxed2 W B t u v):W.cell? ⟨B,1,none⟩=some v:=by simp [World.cell?,show W.heap[B]? = _ from h]
theorem Boxed2.frozen {W:World} {B:Nat} {t:TypeId} {u v:Value} (h:Boxed2 W B t u v) (o:Nat):W.frozen? ⟨B,o,none⟩=false:=by simp [World.frozen?,show W.heap[B]? = _ from h]
theorem Boxed2.of_block {W W':World} {B:Nat} {t:TypeId} {u v:Value} (h:Boxed2 W B t u v) (e:W'.heap[B]? = W.heap[B]?):Boxed2 W' B t u v:=e.trans h
theorem heap_set_same {W:World} {B:Nat} {c:Array Value} {t:TypeId} {q:Nat × Nat} (h:W.heap[B]? = some (.cells c t q)) (o:Nat) (x:Value):(W.setCell ⟨B,o,none⟩ x).heap[B]? = some (.cells (c.setIfInBounds o x) t q):=by
 obtain ⟨hlt,hk⟩:=Array.getElem?_eq_some_iff.1 h
 show (W.heap.modify B _)[B]? = _
 rw [Array.getElem?_eq_getElem (by rw [Array.size_modify];exact hlt),Array.getElem_modify_self,hk]
 rfl
theorem Boxed2.set1 {W:World} {B:Nat} {t:TypeId} {u v:Value} (h:Boxed2 W B t u v) (x:Value):Boxed2 (W.setCell ⟨B,1,none⟩ x) B t u x:=heap_set_same h 1 x
theorem Boxed2.set0 {W:World} {B:Nat} {t:TypeId} {u v:Value} (h:Boxed2 W B t u v) (x:Value):Boxed2 (W.setCell ⟨B,0,none⟩ x) B t x v:=heap_set_same h 0 x
theorem own_not_block {W:World} {e t:TypeId} {base size k B:Nat} {v:Value} {xs:List Value} {c:Array Value} (hr:W.ownsRow base e size v k xs) (hb:W.heap[B]? = some (.cells c t (0,0))) (hte:t ≠ e):v.ownBlock ≠ some B:=by
 intro e'
 rcases hr.2 with ⟨rfl,_⟩ | ⟨g,cap,cur,rfl,_,hgb,_⟩
 ·simp [Value.ownBlock] at e'
 ·obtain rfl:g=B:=by simpa [Value.ownBlock] using e'
  rw [hb] at hgb
  simp at hgb
  exact hte hgb.2
theorem Boxed2.appended {W w1:World} {n₀ B:Nat} {t e:TypeId} {u v v':Value} {k m:Nat} {xs ys:List Value} {tmp:Obj}
  (hv:Boxed2 W B t u v) (hte:t ≠ e) (hrow:W.ownsRow n₀ e 1 v k xs) (hn₀:n₀≤W.heap.size) (hB:n₀≤B)
  (hown':w1.ownsRow n₀ e 1 v' m ys) (hgrow:(W.alloc tmp).grownBy w1 v.ownBlock) :
  Boxed2 w1 B t u v∧Boxed2 (w1.setCell ⟨B,1,none⟩ v') B t u v'∧(w1.setCell ⟨B,1,none⟩ v').ownsRow n₀ e 1 v' m ys∧KeepsOthers W (w1.setCell ⟨B,1,none⟩ v')∧Below n₀ W (w1.setCell ⟨B,1,none⟩ v') ∧
   (∀ (C:Nat) (c:Array Value) (tc:TypeId),W.heap[C]? = some (.cells c tc (0,0))→tc ≠ e→C ≠ B→(w1.setCell ⟨B,1,none⟩ v').heap[C]? = W.heap[C]?):=by
 have ha:∀ C,C < W.heap.size→(W.alloc tmp).heap[C]? = W.heap[C]?:=fun C hC => Below.heap_alloc W tmp C hC
 have hne:v.ownBlock ≠ some B:=own_not_block hrow hv hte
 have hv1:Boxed2 w1 B t u v:=hv.of_block ((hgrow.block B (by have:=hv.lt;simp;omega) (Ne.symm hne)).trans (ha B hv.lt))
 refine ⟨hv1,hv1.set1 v',ownsRow_kept hown' (fun g hg _ => Below.heap_setCell _ _ _ _ (fun e2 => own_not_block hown' hv1 hte (by rw [hg];exact congrArg some e2))),?_,?_,?_⟩
 ·refine ((KeepsOthers.alloc W tmp).trans (KeepsOthers.of_grownBy hgrow fun j o ej hj => ?_)).trans (KeepsOthers.setCell _ _ _)
  rcases (hrow.alloc tmp).2 with ⟨rfl,_⟩ | ⟨g,cap,cur,rfl,_,hgb,_⟩
  ·simp [Value.ownBlock] at ej
  ·obtain rfl:g=j:=by simpa [Value.ownBlock] using ej
   rw [hgb] at hj;cases hj;rfl
 ·refine (((Below.refl n₀ W).alloc hn₀ tmp).grown hgrow (by simp;omega) fun j ej => (hrow.lt j ej).1).setCell (p:=⟨B,1,none⟩) hB v'
 ·intro C c tc hC htc hCB
  have hlt:=(Array.getElem?_eq_some_iff.1 hC).1
  rw [Below.heap_setCell _ _ _ _ hCB,hgrow.block C (by simp;omega) (Ne.symm (own_not_block hrow hC htc)),ha C hlt]
def ReadI (w:World) (neg:Bool) (t:ByteArray) (pre:List Grp) (W:World):Prop :=
 (∃ v,Boxed2 W (w.heap.size+1) 159 (.bool neg) v∧W.ownsRow w.heap.size 197 1 v pre.length (nums .u32 (pre.map gval))) ∧
  Boxed2 W w.heap.size 159 (.bool false) (.slice none 0 0)∧W.heap[w.heap.size+1+1]? = some (.cells #[.string t] 9 (0,0))∧Below w.heap.size w W
theorem kept_cells {X Y:World} {row:Option Nat} {B:Nat} {c:Array Value} {t:TypeId} {q:Nat × Nat} (h:X.heap[B]? = some (.cells c t q)) (hg:X.grownBy Y row)
  (hrow:∀ r,row=some r→∃ o:Obj,X.heap[r]? = some o∧o.isCells=false):Y.heap[B]? = X.heap[B]?:=by
 refine hg.block B (Array.getElem?_eq_some_iff.1 h).1 (fun e => ?_)
 obtain ⟨o,ho,hc⟩:=hrow B e.symm
 rw [h] at ho;cases ho;cases hc
theorem readI_own (w:World) (neg:Bool) (t:ByteArray) (B:Nat) (hB:w.heap.size≤B):OwnFrom B (ReadI w neg t):=by
 rintro pre X Y row ⟨⟨v,hv,hr⟩,hb,hs,hbel⟩ hg hrow
 have hrow2:∀ r,row=some r→∃ o:Obj,X.heap[r]? = some o∧o.isCells=false:=fun r e => (hrow r e).2
 refine ⟨⟨v,hv.of_block (kept_cells hv hg hrow2),?_⟩,hb.of_block (kept_cells hb hg hrow2),(kept_cells hs hg hrow2).trans hs,hbel.grown hg hbel.size (fun k e => Nat.le_trans hB (hrow k e).1)⟩
 refine ownsRow_kept hr (fun k hk _ => ?_)
 rcases hr.2 with ⟨rfl,_⟩ | ⟨g,cap,cur,rfl,_,hgb,_⟩
 ·simp [Value.ownBlock] at hk
 ·obtain rfl:g=k:=by simpa [Value.ownBlock] using hk
  exact kept_cells hgb hg hrow2
def ReadPost (w:World) (neg:Bool) (n:Nat) (e:Ending) (w':World):Prop :=
 ∃ v rs,e = .returned (.agg #[.bool neg,v])∧Sl w' v 1 rs.length (nums .u32 rs)∧Nrm 1000000000 rs∧Go.Proofs.YtknpnhodpgajbaaGreatDoor.val 1000000000 rs=n∧Below w.heap.size w w'
set_option maxHeartbeats 2000000 in
set_option maxRecDepth 100000 in
theorem read_pos (s:ByteArray) (w:World) (hs:s.size≤100000) (h0:0 < s.size) (hd:(bl s).all isDig=true) :
  Calls Tryz.prog 161 #[.string s] w (ReadPost w false (dval (bl s))):=by
 obtain ⟨i0,hi,hz0,hz1,hz2⟩:=info_parts Tryz.info_u32
 obtain ⟨c0,hc0⟩:∃ c,s[0]=c:=⟨_,rfl⟩
 have hcd:=isDig_at s hd 0 h0
 rw [hc0] at hcd
 have hm1:((c0.toNat:Int) == 45)=false:=by rw [beq_eq_false_iff_ne];omega
 refine (callsIn_wide (n:=4)).1 ?_
 refine callsIn_of_wp_marks Tryz.func161 rfl trivial ?_ rfl
 simp only [Tryz.ntmps161,List.size_toArray,List.length_cons,List.length_nil,Nat.reduceAdd,Nat.reduceSub,Array.replicate_succ,Array.replicate_zero,List.push_toArray,List.append_toArray,List.nil_append,List.cons_append]
 gi_wp2_with (refine ⟨trivial,?_⟩;gi_at_call 192;refine (groups_in Fence.wide _ trivial rfl _ _).mono ?_;rintro e w' ⟨rfl,rfl⟩)
 obtain ⟨W0,hW0⟩:∃ W0,W0=(((w.alloc (.cells #[.bool false,.slice none 0 0] 159)).alloc (.cells #[.bool false,.slice none 0 0] 159)).alloc (.cells #[.string s] 9)):=⟨_,rfl⟩
 rw [← hW0]
 have hsz:W0.heap.size=w.heap.size+3:=by rw [hW0];simp
 have hI0:ReadI w false s [] W0:=by
  rw [hW0]
  refine ⟨⟨.slice none 0 0,?_,World.ownsRow_nil _ _ _ _⟩,?_,?_,?_⟩
  ·show (((w.heap.push _).push _).push _)[w.heap.size+1]? = _
   rw [Array.getElem?_push,if_neg (by simp),Array.getElem?_push,if_pos (by simp)]
  ·show (((w.heap.push _).push _).push _)[w.heap.size]? = _
   rw [Array.getElem?_push,if_neg (by simp;omega),Array.getElem?_push,if_neg (by simp),Array.getElem?_push,if_pos rfl]
  ·show (((w.heap.push _).push _).push _)[w.heap.size+1+1]? = _
   rw [Array.getElem?_push,if_pos (by simp)]
  ·exact (((Below.refl _ w).alloc (Nat.le_refl _) _).alloc (by simp) _).alloc (by simp;omega) _
 clear hW0
 refine wpIn_rangeFunc_ownG rfl (by decide) (gf:=207) (lb:=#[.pointer (some ⟨w.heap.size+1+1,0,none⟩)]) rfl trivial (enters_of Tryz.func207 (by kernel_rfl) rfl)
  (groups_stops Fence.wide _ trivial rfl (by decide) (w.heap.size+1+1) s hd (by omega) W0 hI0.2.2.1) (fun h k => Eq.trans k h) (fun W l o o' hl ho hc hk => World.putObj_heap_other (by omega)) (Below.refl _ _) (fun _ => rfl)
  (ReadI w false s) (fun _ _ _ => False) (readI_own _ _ _ _ (by omega)) (fun _ _ _ _ _ hs _ _ => hs) hI0
  (fun x => { tmps:=#[.string s,undef,.pointer (some ⟨w.heap.size,0,none⟩),.pointer (some ⟨w.heap.size+1,0,none⟩),.string s,.string x.1,undef,undef,.string s,.string s,.int .u8 c0.toNat,.bool false,undef,undef,undef,.string s,.func (.func 207) #[] #[.pointer (some ⟨w.heap.size+1+1,0,none⟩)],.string x.1,undef,undef,undef,undef,undef,undef,undef,undef,undef,undef,undef,undef,undef,undef,undef,undef,undef,undef,undef,undef,undef,undef,undef,undef,undef],defers:=[] }) ?assign ?body ?done ?stop
 case assign =>
  intro l x W K hK
  gi_wp2
  exact hK
 case body =>
  rintro l pre x W ⟨⟨v,hv,hrow⟩,hb0,hst,hbel⟩ hlt
  obtain ⟨g,hg9,hgd⟩:=x
  have hg9':g.size≤9:=hg9
  have hgd':(bl g).all isDig=true:=hgd
  have hpl:pre.length≤12000:=by omega
  gi_wp2_with fail
  gi_loopw [6,20] (fun a i wr => ∃ k:Nat,k≤g.size∧i = .int .i64 k∧a = .int .u32 (dval ((bl g).take k):Nat)∧Hid (wr=W))
   (fun _ i _ => g.size - (intOf i).toNat)
  case atStart => exact ⟨0,Nat.zero_le _,rfl,rfl,rfl⟩
  case round =>
   obtain ⟨k,hk,rfl,rfl,Hw⟩:=hrel
   obtain rfl:wr=W:=Hw.out
   clear Hw
   by_cases hlt2:k < g.size
   ·have hc:=isDig_at g hgd' k hlt2
    have hs1:=dval_take_succ g k hlt2
    obtain ⟨c,hcc⟩:∃ c,g[k]=c:=⟨_,rfl⟩
    rw [hcc] at hc hs1
    have hlv:dval ((bl g).take k) < 100000000:=by
     have h1:=dval_lt ((bl g).take k) (all_take_of_all isDig _ k hgd')
     have h2:((bl g).take k).length≤8:=by rw [List.length_take];omega
     exact Nat.lt_of_lt_of_le h1 (Nat.pow_le_pow_right (by decide) h2)
    obtain ⟨d,hdd⟩:∃ d,dval ((bl g).take k)=d:=⟨_,rfl⟩
    rw [hdd] at hs1 hlv ⊢
    have Hs1:=Lib.hid hs1
    clear hs1 hdd
    gi_wp2
    go_roundw
    case rel => exact ⟨k+1,by omega,by go_num,by rw [Hs1.out];go_num,by first | exact rfl | exact trivial⟩
    case measure => simp [intOf];omega
   ·obtain rfl:k=g.size:=by omega
    have hgv:dval ((bl g).take g.size)=gval ⟨g,hg9,hgd⟩:=by rw [List.take_of_length_le (by rw [bl_length];exact Nat.le_refl _)];rfl
    rw [hgv]
    have hc0:=hv.cell1
    have hf0:=hv.frozen 1
    have hsize:=hbel.size
    clear hgv hlt2 hk
    gi_wp2_with (gi_at_builtin;refine wpListIn_append_own _ rfl _ _ 157 rfl w.heap.size 197 i0 (.int .u32 0) 1 4 Tryz.ul_u32s hi hz0 hz1 hz2 rfl (by decide) _ _ _ rfl (hrow.alloc _) ⟨wr.heap.size,0,none⟩ 1 1 [.int .u32 ((gval ⟨g,hg9,hgd⟩:Nat):Int)] rfl rfl (cell_one_new _ _ _) (int_oneCell _ _) (by unfold maxLen;omega) (by omega) (by simp;omega) ?_;intro v' w1 hown' hgrow _;obtain ⟨g',cap',rfl⟩:=ownsRow_succ hown';obtain ⟨hv1,hv2,hr2,hk2,hb2,ho2⟩:=hv.appended (by decide) hrow hsize (by omega) hown' hgrow;have hc1:=hv1.cell1;have hf1:=hv1.frozen 1)
    refine ⟨hk2.from _,ho2 _ _ _ hst (by decide) (by omega),⟨_,hv2,?_⟩,hb0.of_block (ho2 _ _ _ hb0 (by decide) (by omega)),(ho2 _ _ _ hst (by decide) (by omega)).trans hst,hbel.trans hb2⟩
    rw [List.length_append,List.length_singleton,List.map_append,List.map_singleton,← nums_snoc]
    exact hr2
 case done =>
  rintro D ys W hD rfl ⟨⟨v,hv,hrow⟩,hb0,hst,hbel⟩ hK
  have hsl:=Sl.of_owns hrow
  obtain ⟨ad,cap,rfl,_⟩:=id hsl
  have hn:=grps_length s hd ((s.size+8) / 9)
  have hval:=grps_full s hd
  obtain ⟨ms,hms⟩:∃ ms,(grps s hd ((s.size+8) / 9)).map gval=ms:=⟨_,rfl⟩
  have hdig:=grps_dig (grps s hd ((s.size+8) / 9))
  have hlen:(grps s hd ((s.size+8) / 9)).length=ms.length:=by rw [← hms,List.length_map]
  rw [hlen] at hv
  rw [hlen,hms] at hsl hrow
  rw [hms] at hval hdig
  have hml:ms.length≤100000:=by omega
  have Hval:=Lib.hid hval
  clear hval hms hlen hn
  have hc1:=hv.cell1
  have hc0:=hv.cell0
  have hf1:=hv.frozen 1
  have hr0:=hb0.cell0
  have hr1:=hb0.cell1
  have hrf0:=hb0.frozen 0
  have hrf1:=hb0.frozen 1
  have Htr:=Lib.hid (trim_any _ ms W hsl (by omega))
  clear hsl
  gi_wp2_with fail
  refine ⟨trivial,?_⟩
  refine (callsIn_wide.2 Htr.out).mono ?_
  rintro e w' ⟨v',rfl,Hv',rfl⟩
  obtain rfl:v'=Value.slice ad (trimL ms).length cap:=Hv'.out
  have HK:=Lib.hid hK
  have Hrow:=Lib.hid hrow
  clear hK hrow
  gi_wp2
  obtain ⟨W3,hW3⟩:∃ W3,W3=(((W.setCell ⟨w.heap.size+1,1,none⟩ (Value.slice ad (trimL ms).length cap)).setCell ⟨w.heap.size,0,none⟩ (Value.bool false)).setCell ⟨w.heap.size,1,none⟩ (Value.slice ad (trimL ms).length cap)):=⟨_,rfl⟩
  rw [← hW3]
  have hK3:W3.heap[D]? = some (.deferred (some [])):=by
   rw [hW3]
   exact (((KeepsOthers.setCell W _ _).trans (KeepsOthers.setCell _ _ _)).trans (KeepsOthers.setCell _ _ _)).same D _ HK.out rfl
  have hB3:Boxed2 W3 w.heap.size 159 (.bool false) (Value.slice ad (trimL ms).length cap):=by
   rw [hW3]
   exact ((hb0.of_block (Below.heap_setCell _ _ _ _ (by simp))).set0 _).set1 _
  have hB4:Boxed2 (W3.putObj D (.deferred none)) w.heap.size 159 (.bool false) (Value.slice ad (trimL ms).length cap):=hB3.of_block (World.putObj_heap_other (by omega))
  have hoth:∀ k,(Value.slice ad ms.length cap).ownBlock=some k→(W3.putObj D (.deferred none)).heap[k]? = W.heap[k]?:=by
   intro k hk
   have k1:k ≠ w.heap.size:=fun e => own_not_block Hrow.out hb0 (by decide) (by rw [hk,e])
   have k2:k ≠ w.heap.size+1:=fun e => own_not_block Hrow.out hv (by decide) (by rw [hk,e])
   have k3:k ≠ D:=fun e => by
    rcases Hrow.out.2 with ⟨he,_⟩ | ⟨g,_,_,he,_,hgb,_⟩
    ·rw [he] at hk;simp [Value.ownBlock] at hk
    ·rw [he] at hk
     obtain rfl:g=k:=by simpa [Value.ownBlock] using hk
     rw [e,HK.out] at hgb;cases hgb
   rw [World.putObj_heap_other k3,hW3,Below.heap_setCell _ _ _ _ k1,Below.heap_setCell _ _ _ _ k1,Below.heap_setCell _ _ _ _ k2]
  have hcut:=((Sl.of_owns Hrow.out).kept (w':=W3.putObj D (.deferred none)) (fun k hk _ => hoth k hk)).cut (trimL ms).length (trimL_prefix ms).2
  rw [Nat.mul_one,nums_take,← (trimL_prefix ms).1] at hcut
  have hbel4:Below w.heap.size w (W3.putObj D (.deferred none)):=by
   refine Below.trans ?_ (belowK_b (w:=w) (Nat.le_refl _) W3 D _ _ (by omega) hK3 rfl rfl)
   rw [hW3]
   exact ((hbel.setCell (p:=⟨w.heap.size+1,1,none⟩) (by simp) _).setCell (p:=⟨w.heap.size,0,none⟩) (Nat.le_refl _) _).setCell (p:=⟨w.heap.size,1,none⟩) (Nat.le_refl _) _
  refine ⟨by simp,.inl ⟨_,_,rfl,run_takeDeferred hK3,?_⟩⟩
  refine ⟨.agg #[.bool false,Value.slice ad (trimL ms).length cap],?_,?_⟩
  ·simp [results,Tryz.results161,go_sem,hB4.cell0,hB4.cell1]
  ·exact ⟨_,trimL ms,rfl,hcut,trimL_nrm hdig,by rw [trimL_val];exact Hval.out,hbel4⟩
 case stop =>
  rintro D c pre W _ _ h _
  exact h.elim
set_option maxHeartbeats 2000000 in
set_option maxRecDepth 100000 in
theorem read_neg (s:ByteArray) (w:World) (hs:s.size≤100000) (h0:0 < s.size) (hm:s[0]=45) (t:ByteArray) (ht:s.extract 1 s.size=t) (hd:(bl t).all isDig=true) :
  Calls Tryz.prog 161 #[.string s] w (ReadPost w true (dval (bl t))):=by
 obtain ⟨i0,hi,hz0,hz1,hz2⟩:=info_parts Tryz.info_u32
 have hts:t.size≤100000:=by
  have:=bl_tail s h0
  rw [ht] at this
  rw [← bl_length,this,List.length_tail,bl_length];omega
 refine (callsIn_wide (n:=4)).1 ?_
 refine callsIn_of_wp_marks Tryz.func161 rfl trivial ?_ rfl
 simp only [Tryz.ntmps161,List.size_toArray,List.length_cons,List.length_nil,Nat.reduceAdd,Nat.reduceSub,Array.replicate_succ,Array.replicate_zero,List.push_toArray,List.append_toArray,List.nil_append,List.cons_append]
 gi_wp2_with fail
 gi_region
 all_goals gi_wp2_with fail
 gi_wp2_with (refine ⟨trivial,?_⟩;gi_at_call 192;refine (groups_in Fence.wide _ trivial rfl _ _).mono ?_;rintro e w' ⟨rfl,rfl⟩)
 obtain ⟨W0,hW0⟩:∃ W0,W0=(((w.alloc (.cells #[.bool false,.slice none 0 0] 159)).alloc (.cells #[.bool true,.slice none 0 0] 159)).alloc (.cells #[.string t] 9)).drew:=⟨_,rfl⟩
 rw [← hW0]
 have hsz:W0.heap.size=w.heap.size+3:=by rw [hW0];simp
 have hI0:ReadI w true t [] W0:=by
  rw [hW0]
  refine ⟨⟨.slice none 0 0,?_,World.ownsRow_nil _ _ _ _⟩,?_,?_,?_⟩
  ·show (((w.heap.push _).push _).push _)[w.heap.size+1]? = _
   rw [Array.getElem?_push,if_neg (by simp),Array.getElem?_push,if_pos (by simp)]
  ·show (((w.heap.push _).push _).push _)[w.heap.size]? = _
   rw [Array.getElem?_push,if_neg (by simp;omega),Array.getElem?_push,if_neg (by simp),Array.getElem?_push,if_pos rfl]
  ·show (((w.heap.push _).push _).push _)[w.heap.size+1+1]? = _
   rw [Array.getElem?_push,if_pos (by simp)]
  ·exact ((((Below.refl _ w).alloc (Nat.le_refl _) _).alloc (by simp) _).alloc (by simp;omega) _).drew
 clear hW0
 refine wpIn_rangeFunc_ownG rfl (by decide) (gf:=207) (lb:=#[.pointer (some ⟨w.heap.size+1+1,0,none⟩)]) rfl trivial (enters_of Tryz.func207 (by kernel_rfl) rfl)
  (groups_stops Fence.wide _ trivial rfl (by decide) (w.heap.size+1+1) t hd (by omega) W0 hI0.2.2.1) (fun h k => Eq.trans k h) (fun W l o o' hl ho hc hk => World.putObj_heap_other (by omega)) (Below.refl _ _) (fun _ => rfl)
  (ReadI w true t) (fun _ _ _ => False) (readI_own _ _ _ _ (by omega)) (fun _ _ _ _ _ hs _ _ => hs) hI0
  (fun x => { tmps:=#[.string s,undef,.pointer (some ⟨w.heap.size,0,none⟩),.pointer (some ⟨w.heap.size+1,0,none⟩),.string t,.string x.1,undef,undef,.string s,.string s,.int .u8 45,.bool true,.string s,.string t,.pointer (some ⟨w.heap.size+1,0,none⟩),.string t,.func (.func 207) #[] #[.pointer (some ⟨w.heap.size+1+1,0,none⟩)],.string x.1,undef,undef,undef,undef,undef,undef,undef,undef,undef,undef,undef,undef,undef,undef,undef,undef,undef,undef,undef,undef,undef,undef,undef,undef,undef],defers:=[] }) ?assign ?body ?done ?stop
 case assign =>
  intro l x W K hK
  gi_wp2
  exact hK
 case body =>
  rintro l pre x W ⟨⟨v,hv,hrow⟩,hb0,hst,hbel⟩ hlt
  obtain ⟨g,hg9,hgd⟩:=x
  have hg9':g.size≤9:=hg9
  have hgd':(bl g).all isDig=true:=hgd
  have hpl:pre.length≤12000:=by omega
  gi_wp2_with fail
  gi_loopw [6,20] (fun a i wr => ∃ k:Nat,k≤g.size∧i = .int .i64 k∧a = .int .u32 (dval ((bl g).take k):Nat)∧Hid (wr=W))
   (fun _ i _ => g.size - (intOf i).toNat)
  case atStart => exact ⟨0,Nat.zero_le _,rfl,rfl,rfl⟩
  case round =>
   obtain ⟨k,hk,rfl,rfl,Hw⟩:=hrel
   obtain rfl:wr=W:=Hw.out
   clear Hw
   by_cases hlt2:k < g.size
   ·have hc:=isDig_at g hgd' k hlt2
    have hs1:=dval_take_succ g k hlt2
    obtain ⟨c,hcc⟩:∃ c,g[k]=c:=⟨_,rfl⟩
    rw [hcc] at hc hs1
    have hlv:dval ((bl g).take k) < 100000000:=by
     have h1:=dval_lt ((bl g).take k) (all_take_of_all isDig _ k hgd')
     have h2:((bl g).take k).length≤8:=by rw [List.length_take];omega
     exact Nat.lt_of_lt_of_le h1 (Nat.pow_le_pow_right (by decide) h2)
    obtain ⟨d,hdd⟩:∃ d,dval ((bl g).take k)=d:=⟨_,rfl⟩
    rw [hdd] at hs1 hlv ⊢
    have Hs1:=Lib.hid hs1
    clear hs1 hdd
    gi_wp2
    go_roundw
    case rel => exact ⟨k+1,by omega,by go_num,by rw [Hs1.out];go_num,by first | exact rfl | exact trivial⟩
    case measure => simp [intOf];omega
   ·obtain rfl:k=g.size:=by omega
    have hgv:dval ((bl g).take g.size)=gval ⟨g,hg9,hgd⟩:=by rw [List.take_of_length_le (by rw [bl_length];exact Nat.le_refl _)];rfl
    rw [hgv]
    have hc0:=hv.cell1
    have hf0:=hv.frozen 1
    have hsize:=hbel.size
    clear hgv hlt2 hk
    gi_wp2_with (gi_at_builtin;refine wpListIn_append_own _ rfl _ _ 157 rfl w.heap.size 197 i0 (.int .u32 0) 1 4 Tryz.ul_u32s hi hz0 hz1 hz2 rfl (by decide) _ _ _ rfl (hrow.alloc _) ⟨wr.heap.size,0,none⟩ 1 1 [.int .u32 ((gval ⟨g,hg9,hgd⟩:Nat):Int)] rfl rfl (cell_one_new _ _ _) (int_oneCell _ _) (by unfold maxLen;omega) (by omega) (by simp;omega) ?_;intro v' w1 hown' hgrow _;obtain ⟨g',cap',rfl⟩:=ownsRow_succ hown';obtain ⟨hv1,hv2,hr2,hk2,hb2,ho2⟩:=hv.appended (by decide) hrow hsize (by omega) hown' hgrow;have hc1:=hv1.cell1;have hf1:=hv1.frozen 1)
    refine ⟨hk2.from _,ho2 _ _ _ hst (by decide) (by omega),⟨_,hv2,?_⟩,hb0.of_block (ho2 _ _ _ hb0 (by decide) (by omega)),(ho2 _ _ _ hst (by decide) (by omega)).trans hst,hbel.trans hb2⟩
    rw [List.length_append,List.length_singleton,List.map_append,List.map_singleton,← nums_snoc]
    exact hr2
 case done =>
  rintro D ys W hD rfl ⟨⟨v,hv,hrow⟩,hb0,hst,hbel⟩ hK
  have hsl:=Sl.of_owns hrow
  obtain ⟨ad,cap,rfl,_⟩:=id hsl
  have hn:=grps_length t hd ((t.size+8) / 9)
  have hval:=grps_full t hd
  obtain ⟨ms,hms⟩:∃ ms,(grps t hd ((t.size+8) / 9)).map gval=ms:=⟨_,rfl⟩
  have hdig:=grps_dig (grps t hd ((t.size+8) / 9))
  have hlen:(grps t hd ((t.size+8) / 9)).length=ms.length:=by rw [← hms,List.length_map]
  rw [hlen] at hv
  rw [hlen,hms] at hsl hrow
  rw [hms] at hval hdig
  have hml:ms.length≤100000:=by omega
  have Hval:=Lib.hid hval
  clear hval hms hlen hn
  have hc1:=hv.cell1
  have hc0:=hv.cell0
  have hf1:=hv.frozen 1
  have hr0:=hb0.cell0
  have hr1:=hb0.cell1
  have hrf0:=hb0.frozen 0
  have hrf1:=hb0.frozen 1
  have Htr:=Lib.hid (trim_any _ ms W hsl (by omega))
  clear hsl
  gi_wp2_with fail
  refine ⟨trivial,?_⟩
  refine (callsIn_wide.2 Htr.out).mono ?_
  rintro e w' ⟨v',rfl,Hv',rfl⟩
  obtain rfl:v'=Value.slice ad (trimL ms).length cap:=Hv'.out
  have HK:=Lib.hid hK
  have Hrow:=Lib.hid hrow
  clear hK hrow
  gi_wp2
  obtain ⟨W3,hW3⟩:∃ W3,W3=(((W.setCell ⟨w.heap.size+1,1,none⟩ (Value.slice ad (trimL ms).length cap)).setCell ⟨w.heap.size,0,none⟩ (Value.bool true)).setCell ⟨w.heap.size,1,none⟩ (Value.slice ad (trimL ms).length cap)):=⟨_,rfl⟩
  rw [← hW3]
  have hK3:W3.heap[D]? = some (.deferred (some [])):=by
   rw [hW3]
   exact (((KeepsOthers.setCell W _ _).trans (KeepsOthers.setCell _ _ _)).trans (KeepsOthers.setCell _ _ _)).same D _ HK.out rfl
  have hB3:Boxed2 W3 w.heap.size 159 (.bool true) (Value.slice ad (trimL ms).length cap):=by
   rw [hW3]
   exact ((hb0.of_block (Below.heap_setCell _ _ _ _ (by simp))).set0 _).set1 _
  have hB4:Boxed2 (W3.putObj D (.deferred none)) w.heap.size 159 (.bool true) (Value.slice ad (trimL ms).length cap):=hB3.of_block (World.putObj_heap_other (by omega))
  have hoth:∀ k,(Value.slice ad ms.length cap).ownBlock=some k→(W3.putObj D (.deferred none)).heap[k]? = W.heap[k]?:=by
   intro k hk
   have k1:k ≠ w.heap.size:=fun e => own_not_block Hrow.out hb0 (by decide) (by rw [hk,e])
   have k2:k ≠ w.heap.size+1:=fun e => own_not_block Hrow.out hv (by decide) (by rw [hk,e])
   have k3:k ≠ D:=fun e => by
    rcases Hrow.out.2 with ⟨he,_⟩ | ⟨g,_,_,he,_,hgb,_⟩
    ·rw [he] at hk;simp [Value.ownBlock] at hk
    ·rw [he] at hk
     obtain rfl:g=k:=by simpa [Value.ownBlock] using hk
     rw [e,HK.out] at hgb;cases hgb
   rw [World.putObj_heap_other k3,hW3,Below.heap_setCell _ _ _ _ k1,Below.heap_setCell _ _ _ _ k1,Below.heap_setCell _ _ _ _ k2]
  have hcut:=((Sl.of_owns Hrow.out).kept (w':=W3.putObj D (.deferred none)) (fun k hk _ => hoth k hk)).cut (trimL ms).length (trimL_prefix ms).2
  rw [Nat.mul_one,nums_take,← (trimL_prefix ms).1] at hcut
  have hbel4:Below w.heap.size w (W3.putObj D (.deferred none)):=by
   refine Below.trans ?_ (belowK_b (w:=w) (Nat.le_refl _) W3 D _ _ (by omega) hK3 rfl rfl)
   rw [hW3]
   exact ((hbel.setCell (p:=⟨w.heap.size+1,1,none⟩) (by simp) _).setCell (p:=⟨w.heap.size,0,none⟩) (Nat.le_refl _) _).setCell (p:=⟨w.heap.size,1,none⟩) (Nat.le_refl _) _
  refine ⟨by simp,.inl ⟨_,_,rfl,run_takeDeferred hK3,?_⟩⟩
  refine ⟨.agg #[.bool true,Value.slice ad (trimL ms).length cap],?_,?_⟩
  ·simp [results,Tryz.results161,go_sem,hB4.cell0,hB4.cell1]
  ·exact ⟨_,trimL ms,rfl,hcut,trimL_nrm hdig,by rw [trimL_val];exact Hval.out,hbel4⟩
 case stop =>
  rintro D c pre W _ _ h _
  exact h.elim
theorem read_any (s:ByteArray) (w:World) (hs:s.size≤100000) (hc:canonI (bl s)=true) :
  Calls Tryz.prog 161 #[.string s] w (ReadPost w (isNeg (bl s)) (dval (body (bl s)))):=by
 have hne:0 < s.size:=by
  rcases Nat.eq_zero_or_pos s.size with h | h
  ·have e:bl s=[]:=List.eq_nil_of_length_eq_zero (by rw [bl_length];exact h)
   rw [e] at hc;simp [canonI,canonD,body] at hc
  ·exact h
 have e:=bl_cons s hne
 by_cases hm:s[0]=45
 ·have et:=bl_tail s hne
  have e1:isNeg (bl s)=true:=by rw [e,hm];rfl
  have e2:body (bl s)=bl (s.extract 1 s.size):=by rw [et,e,hm];rfl
  rw [e1,e2]
  refine read_neg s w hs hne hm _ rfl ?_
  rw [canonI,e2,canonD] at hc
  simp only [Bool.and_eq_true] at hc
  exact hc.1.2
 ·have e0:(bl s).head? = some s[0]:=by rw [e];rfl
  have e1:isNeg (bl s)=false:=by rw [isNeg,e0];simpa using hm
  have e2:body (bl s)=bl s:=by rw [body,e0,if_neg];simpa using hm
  rw [e1,e2]
  refine read_pos s w hs hne ?_
  rw [canonI,e2,canonD] at hc
  simp only [Bool.and_eq_true] at hc
  exact hc.1.2
end Go.Proofs.YtknpnhodpgajbaaGreatDoor

namespace Go.Proofs.YtknpnhodpgajbaaGreatDoor
open Go.RowKit
theorem below_a1 (w:World) (a:Obj):Below w.heap.size w (w.alloc a):=(Below.refl _ _).alloc (Nat.le_refl _) _
theorem below_a2 (w:World) (a b:Obj):Below w.heap.size w ((w.alloc a).alloc b):=(below_a1 w a).alloc (by simp) _
theorem below_a3 (w:World) (a b c:Obj):Below w.heap.size w (((w.alloc a).alloc b).alloc c):=(below_a2 w a b).alloc (by simp;omega) _
theorem Boxed2.new (w:World) (u v:Value) (t:TypeId):Boxed2 (w.alloc (.cells #[u,v] t)) w.heap.size t u v:=by
 show (w.heap.push _)[w.heap.size]? = _
 simp
theorem Boxed2.alloc {w:World} {B:Nat} {t:TypeId} {u v:Value} (h:Boxed2 w B t u v) (o:Obj):Boxed2 (w.alloc o) B t u v:=h.of_block (Below.heap_alloc _ _ _ h.lt)
theorem Boxed2.below {w w':World} {B:Nat} {t:TypeId} {u v:Value} (h:Boxed2 w B t u v) (hb:Below w.heap.size w w'):Boxed2 w' B t u v:=h.of_block (hb.block _ h.lt)
theorem Boxed2.store {w:World} {B:Nat} {t:TypeId} {u v:Value} (h:Boxed2 w B t u v) (x y:Value):Boxed2 ((w.setCell ⟨B,0,none⟩ x).setCell ⟨B,1,none⟩ y) B t x y:=(h.set0 x).set1 y
theorem below_store {B0 B:Nat} {w w1:World} (hb:Below B0 w w1) (h:B0≤B) (x y:Value):Below B0 w ((w1.setCell ⟨B,0,none⟩ x).setCell ⟨B,1,none⟩ y) :=
 (hb.setCell (p:=⟨B,0,none⟩) h _).setCell (p:=⟨B,1,none⟩) h _
end Go.Proofs.YtknpnhodpgajbaaGreatDoor

namespace Go.Proofs.YtknpnhodpgajbaaGreatDoor
open Go.RowKit
def Ext (w W:World):Prop:=Below w.heap.size w W
theorem Ext.cell {w W:World} (h:Ext w W) {b o:Nat} {v:Value} (hc:w.cell? ⟨b,o,none⟩=some v):W.cell? ⟨b,o,none⟩=some v:=by
 rw [Below.cell h (p:=⟨b,o,none⟩) (World.block_lt_of_cell? w _ hc)];exact hc
theorem Ext.below {w W:World} (h:Ext w W):Below w.heap.size w W:=h
theorem ext_callsE {P:Program} {f:FuncId} {args:Array Value} {v:Value} {w:World} (h:∀ W,Ext w W→Calls P f args W fun e w' => e = .returned v∧Below W.heap.size W w') (W:World) (hW:Ext w W) :
  Calls P f args W fun e w'' => e = .returned v∧Ext w w'' :=
 (h W hW).mono fun _ _ ⟨he,hb⟩ => ⟨he,Below.trans hW (hb.mono (Below.size hW))⟩
theorem wp_region_ext {P:Program} {id:Nat} {Q:Exit→Act→World→Prop} {a:Act} {w:World} {l:List Oper} (F:World→Prop) (hF:∀ W,Ext w W→F W)
  (hm:P.follows .mixedOrders=true) (hB:Region.lexB .any l.toArray=true)
  (h:(∀ W,Ext w W→F W)→wpQuiet P l.toArray (Ext w) (fun a' => ∀ w',Ext w w'→Q .normal a' w') l a):(Code.region id l.toArray true).wp P Q a w :=
 wp_region_quiet (C:=Ext w) hm hB (Below.drew (Below.refl _ _)) (by simpa using h hF)
end Go.Proofs.YtknpnhodpgajbaaGreatDoor
