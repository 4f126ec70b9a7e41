/- A part. -/
import Derived.Test.YthdeijdimfjceaaGreatDoorA04
namespace Go.Proofs.YthdeijdimfjceaaGreatDoor
open Go.RowKit
theorem sl_one (W:World) (k:IntKind) (r:Nat) (t:TypeId):Sl (W.alloc (.cells #[.int k (r:Int)] t)) (.slice (some ⟨W.heap.size,0,none⟩) 1 1) 1 [r].length (nums k [r]) :=
 ⟨_,_,rfl,Nat.le_refl _,rfl,.inr ⟨_,0,rfl,fun j u hu => by
  match j,hu with
  | 0,hu => simp [nums] at hu;subst hu;simp [World.cell?_alloc_at]
  | j+1,hu => simp [nums] at hu⟩⟩
theorem own_form {w:World} {base size n:Nat} {e:TypeId} {v:Value} {xs:List Value} (h:w.ownsRow base e size v n xs) (hn:0 < n):∃ g cap,v = .slice (some ⟨g,0,none⟩) n cap∧base≤g∧g < w.heap.size∧n≤cap:=by
 rcases h.2 with ⟨_,h0⟩ | ⟨g,cap,cur,rfl,hb,hg,hc,_⟩
 ·omega
 ·exact ⟨g,cap,rfl,hb,(Array.getElem?_eq_some_iff.1 hg).1,hc⟩
theorem seg_sl {w:World} {base g len cap j m:Nat} {e:TypeId} {k:IntKind} {us:List Nat} (h:w.ownsRow base e 1 (.slice (some ⟨g,0,none⟩) len cap) len (nums k us)) (hl:us.length=len) (hj:j+(m+2)≤len) (hc:len≤cap) :
  (seg us j m).length=m+2∧Sl w (.slice (some ⟨g,j,none⟩) (m+2) (cap - j)) 1 (m+2) (nums k (seg us j m)):=by
 have hsl:(seg us j m).length=m+2:=by simp [seg];omega
 refine ⟨hsl,_,_,rfl,by omega,by rw [nums_length,hsl];omega,.inr ⟨g,j,rfl,fun i u hu => ?_⟩⟩
 have hi:i < m+2:=by
  have:=(List.getElem?_eq_some_iff.1 hu).1
  rw [nums_length,hsl] at this
  exact this
 rw [h.cellAt (j+i) (by omega),nums_at k us (j+i) (by omega),← seg_getD us j m i hi,← nums_at k (seg us j m) i (by omega)]
 exact hu
theorem below_alloc {B:Nat} {a w:World} (h:Below B a w) (hB:B≤a.heap.size) (o:Obj):Below B a (w.alloc o):=h.alloc (Nat.le_trans hB h.size) o
set_option maxHeartbeats 4000000 in
set_option maxRecDepth 100000 in
theorem divide_long (a b:Value) (xs ys:List Nat) (w:World) (ha:Sl w a 1 xs.length (nums .u32 xs)) (hb:Sl w b 1 ys.length (nums .u32 ys))
  (hx:Nrm 1000000000 xs) (hy:Nrm 1000000000 ys) (lx:xs.length≤90000) (ly:ys.length≤90000) (hle:val 1000000000 ys≤val 1000000000 xs) (h2:2≤ys.length) :
  Calls Tryz.prog 104 #[a,b] w (DivPost w (val 1000000000 xs) (val 1000000000 ys)):=by
 have C:=compare_any a b xs ys w ha hb hx hy (by omega) (by omega)
 have hs:0≤sgn (val 1000000000 xs) (val 1000000000 ys):=by
  by_cases h:val 1000000000 xs=val 1000000000 ys
  ·rw [sgn_eq h];omega
  ·rw [sgn_gt (by omega)];omega
 generalize sgn (val 1000000000 xs) (val 1000000000 ys)=s at C hs
 have HC:=Lib.hid C;clear C
 have hlen:=nrm_len_le hx.1 hy hle
 have Hle:=Lib.hid hle;clear hle
 have HA:Hid (Sl w a 1 xs.length (nums .u32 xs)):=ha
 have HB:Hid (Sl w b 1 ys.length (nums .u32 ys)):=hb
 obtain ⟨ad,ca,rfl,_,_⟩:=ha.nums
 obtain ⟨bd,cb,rfl,h1',h3'⟩:=hb.nums
 obtain ⟨b',off,rfl,hc⟩:=h3'.resolve_left (by omega)
 obtain ⟨i0,hi,hz0,hz1,hz2⟩:=info_parts Tryz.info_u32
 obtain ⟨m,hm⟩:∃ m,ys.length=m+1:=⟨ys.length - 1,by omega⟩
 obtain ⟨l,hl⟩:∃ l,xs.length=l:=⟨_,rfl⟩
 have hcd:=hc m (by omega)
 have hy9:=hy.1.at (show 0 < 1000000000 by decide) m
 have ht:=nrm_top hy m hm
 obtain ⟨y,hyy⟩:∃ y,ys.getD m 0=y:=⟨_,rfl⟩
 rw [hyy] at hcd hy9 ht
 obtain ⟨sc,hsc⟩:∃ sc,1000000000 / (y+1)=sc:=⟨_,rfl⟩
 have hs1:sc * (y+1)≤1000000000:=by rw [← hsc];exact Nat.div_mul_le_self _ _
 have hs2:1000000000 < (sc+1) * (y+1):=by rw [← hsc];rw [Nat.mul_comm];exact Nat.lt_mul_div_succ 1000000000 (by omega)
 have Hs1:=Lib.hid hs1;clear hs1
 have Hs2:=Lib.hid hs2;clear hs2
 have hsci:(1000000000:Int) / ((y:Int)+1)=(sc:Int):=by rw [← hsc];simp
 have hscb:=scale_big ht Hs1.out Hs2.out hy9
 have hsc1:=hscb.2.1
 have hsc2:=hscb.2.2
 have Hscb:=Lib.hid hscb.1
 have Hyy:=Lib.hid hyy
 have Hm:=Lib.hid hm
 have Hl:=Lib.hid hl
 rw [hm] at HB hlen ly h2 h1' HC ⊢
 rw [hl] at HA hlen lx HC ⊢
 have hy0:((y:Int)+1 == 0)=false:=by simp;omega
 have hlen1:((((m+1:Nat):Int)) == 1)=false:=by simp;omega
 clear hscb hyy hm hl hsc hc h3' ha hb
 go_enter Tryz.func104,Tryz.ntmps104
 go_wp2_with fail
 refine HC.out.mono ?_
 rintro e w' ⟨rfl,n0,rfl⟩
 clear HC
 go_wp2_with fail
 have hsl1:=sl_one (w.drewN n0) .u32 sc 177
 have HA1:=(HA.out.drewN n0).below (below_alloc (Below.refl _ _) (Nat.le_refl _) (.cells #[.int .u32 (sc:Int)] 177))
 refine (times_any _ _ xs [sc] _ (by rw [Hl.out];exact HA1) hsl1 hx.1 (fun z hz => by rw [List.mem_singleton] at hz;omega) (by rw [Hl.out];omega) (by simp)).mono ?_
 rintro e w1 ⟨vu,us,rfl,⟨hown,hus,hbel⟩,hvu⟩
 rw [val_single] at hvu
 have Hvu:=Lib.hid hvu;clear hvu
 have hbel1:Below w.heap.size w w1:=((below_drewN (Below.refl _ _) n0).alloc (Nat.le_refl _) _).trans (hbel.mono (by simp))
 have hown1:w1.ownsRow w.heap.size 177 1 vu us.length (nums .u32 us):=ownsRow_base' hown (by simp)
 clear hown hbel hsl1 HA1
 have hul:us.length≤l+1:=hus.length_le (by decide) (l+1) (by
  rw [Hvu.out,← Hl.out,Nat.pow_succ]
  exact Nat.lt_of_le_of_lt (Nat.mul_le_mul_left _ (show sc≤1000000000 by omega)) (Nat.mul_lt_mul_of_pos_right (val_lt hx.1) (by decide)))
 obtain ⟨au,cu,rfl,_⟩:=Sl.of_owns hown1
 go_wp2_with fail
 go_loopw [10] (fun v wr => ∃ (us2:List Nat) (ad2:Option Addr) (cap:Nat),v = .slice ad2 us2.length cap∧us2.length≤l+1 ∧
   wr.ownsRow w.heap.size 177 1 (.slice ad2 us2.length cap) us2.length (nums .u32 us2)∧Hid (Dig 1000000000 us2∧val 1000000000 us2=val 1000000000 xs * sc)∧Below w.heap.size w wr)
  (fun v _ => (l+1) - (match v with | .slice _ n _ => n | _ => 0))
 case atStart => exact ⟨us,au,cu,rfl,hul,hown1,⟨hus.1,Hvu.out⟩,hbel1⟩
 case round =>
  clear hown1 hbel1 Hvu hul hus
  obtain ⟨us2,ad2,cap,rfl,hul,hown,Hu,hbel⟩:=hrel
  by_cases hgo:us2.length≤l
  ·have hsz:=hbel.size
   go_wp2_with (at_builtin;refine wpList_append_own _ rfl _ _ 146 rfl w.heap.size 177 i0 (.int .u32 0) 1 4 Tryz.ul_u32s hi hz0 hz1 hz2 rfl (by decide) _ _ _ rfl (hown.alloc _) ⟨wr.heap.size,0,none⟩ 1 1 [_] rfl rfl (cell_one_new _ _ _) (int_oneCell _ _) ?d1 ?d2 ?d3 ?_)
   case d1 => unfold maxLen;omega
   case d2 => omega
   case d3 => simp;omega
   intro v2 w2 hown2 hgrow2 _
   have hbel2:Below w.heap.size w w2:=(hbel.alloc hsz _).grown hgrow2 (by simp;omega) (fun k hk => (hown.lt k hk).1)
   rw [show (Value.int IntKind.u32 0)=Value.int IntKind.u32 ((0:Nat):Int) from rfl,nums_snoc] at hown2
   have e1:us2.length+1=(us2 ++ [0]).length:=by simp
   rw [e1] at hown2
   obtain ⟨ad3,cap3,rfl,_⟩:=Sl.of_owns hown2
   have Hu2:Hid (Dig 1000000000 (us2 ++ [0])∧val 1000000000 (us2 ++ [0])=val 1000000000 xs * sc):=⟨Hu.out.1.snoc (by decide),by rw [val_snoc];simp;exact Hu.out.2⟩
   clear hgrow2 hown hbel e1
   go_wp2
   go_roundw
   case rel => exact ⟨us2 ++ [0],ad3,cap3,rfl,by simp;omega,hown2,Hu2,hbel2⟩
   case measure => simp;omega
  ·have hulen:us2.length=l+1:=by omega
   have Hulen:=Lib.hid hulen
   rw [hulen] at hown ⊢
   clear hul hgo hulen
   go_wp2_with fail
   have hB1:=HB.out.below (hbel.trans (below_alloc (Below.refl _ _) hbel.size (.cells #[.int .u32 (sc:Int)] 177)))
   refine (times_any _ _ ys [sc] _ (by rw [Hm.out];exact hB1) (sl_one wr .u32 sc 177) hy.1 (fun z hz => by rw [List.mem_singleton] at hz;omega) (by rw [Hm.out];omega) (by simp)).mono ?_
   rintro e w3 ⟨vv,vs,rfl,⟨hownv,hvs,hbelv⟩,hvv⟩
   rw [val_single] at hvv
   have hvl:=scaled hy Hm.out (by rw [Hyy.out];exact Hs1.out) (by rw [Hyy.out];exact Hs2.out) hvs hvv
   obtain ⟨gu,cu2,hgu,hgu1,hgu2,hgu3⟩:=own_form hown (by omega)
   obtain ⟨gv,cv,rfl,hgv1,hgv2,hgv3⟩:=own_form hownv (by rw [hvl.1];omega)
   cases hgu
   have hbel3:Below w.heap.size w w3:=(below_alloc hbel (Nat.le_refl _) _).trans (hbelv.mono (by have:=hbel.size;simp;omega))
   have hU3:w3.ownsRow w.heap.size 177 1 (.slice (some ⟨gu,0,none⟩) (l+1) cap) (l+1) (nums .u32 us2):=ownsRow_below' (hown.alloc _) hbelv
   have hV3:Sl w3 (.slice (some ⟨gv,0,none⟩) (m+1) cv) 1 (m+1) (nums .u32 vs):=by rw [← hvl.1];exact Sl.of_owns hownv
   have hgu4:gu < w3.heap.size:=Nat.lt_of_lt_of_le hgu2 (by have:=hbelv.size;simp at this;omega)
   have hgvu:gu ≠ gv:=by simp at hgv1;omega
   have hV9:val 1000000000 vs < 1000000000 ^ (m+1):=by rw [← hvl.1];exact val_lt hvs.1
   have HV9:=Lib.hid hV9;clear hV9
   have Hvl:=Lib.hid hvl.1
   have Hvt:=Lib.hid hvl.2
   have Hvv:=Lib.hid hvv;clear hvv hvl
   have hB3:=hbel3.size
   rw [Hvl.out]
   clear hown hownv hbelv hB1 hgv1 hbel
   go_wp2_with (at_make;refine wpList_make_full _ rfl _ _ 146 rfl w.heap.size 177 i0 (.int .u32 0) 1 Tryz.ul_u32s hi hz0 hz1 _ _ _ _ (l - m) rfl rfl ?e0 ?e1 ?e2 ?e3 ?e4 ?_)
   case e0 => omega
   case e1 => omega
   case e2 => rw [hz2];omega
   case e3 => unfold maxLen;omega
   case e4 => exact hB3
   intro w4 hown4 hgrow4
   have hQ4:w4.ownsRow w.heap.size 177 1 (.slice (some ⟨w3.heap.size,0,none⟩) (l - m) (l - m)) (l - m) (nums .u32 (List.replicate (l - m) 0)):=by
    rw [toList_madeCells_one] at hown4
    simpa [nums] using hown4
   have hb34:Below w3.heap.size w3 w4:=(Below.refl _ _).grown hgrow4 (Nat.le_refl _) (by simp)
   have hU4:=ownsRow_below' hU3 hb34
   have hV4:=hV3.below hb34
   have hbel4:Below w.heap.size w w4:=hbel3.trans (hb34.mono hB3)
   obtain ⟨gq0,hgq⟩:∃ g,g=w3.heap.size:=⟨_,rfl⟩
   have hguq:gu ≠ gq0:=by omega
   have hgvq:gv ≠ gq0:=by omega
   rw [← hgq] at hQ4 ⊢
   have hX:Hid (DivInv (val 1000000000 xs * sc) (val 1000000000 vs) us2 (List.replicate (l - m) 0) (l - m)):=by
    refine ⟨Hu.out.1,fun x hx => by rw [(List.mem_replicate.1 hx).2];decide,?_,?_⟩
    ·rw [List.drop_of_length_le (by simp)];simp [val];exact Hu.out.2.symm
    ·rw [Hu.out.2]
     have a1:=val_lt hx.1
     rw [Hl.out] at a1
     have a2:=nrm_split (b:=1000000000) m Hvl.out
     have a3:1000000000 ^ m * 500000000≤val 1000000000 vs:=by
      have:=Nat.mul_le_mul_left (1000000000 ^ m) Hvt.out
      omega
     have a4:1000000000 ^ m * 500000000 * 1000000000 ^ (l - m)≤val 1000000000 vs * 1000000000 ^ (l - m):=Nat.mul_le_mul_right _ a3
     have a5:1000000000 ^ m * 500000000 * 1000000000 ^ (l - m)=1000000000 ^ l * 500000000:=by
      rw [Nat.mul_right_comm,← Nat.pow_add,show m+(l - m)=l by omega]
     have a6:val 1000000000 xs * sc < 1000000000 ^ l * sc:=Nat.mul_lt_mul_of_pos_right a1 hsc1
     have a7:1000000000 ^ l * sc≤1000000000 ^ l * 500000000:=Nat.mul_le_mul_left _ hsc2
     omega
   clear hown4 hgrow4 hb34 hU3 hV3 hbel3 hB3 hgq hgu2 hgu4 hgv2 HB HA
   obtain ⟨wo,hwo⟩:∃ wo:World,wo=wr:=⟨_,rfl⟩
   rw [← hwo]
   clear hwo
   go_wp2_with fail
   go_loopw [12] (fun j wr => ∃ (k:Nat) (us qs:List Nat),k≤l - m∧j = .int .i64 (k - 1) ∧
     wr.ownsRow w.heap.size 177 1 (.slice (some ⟨gu,0,none⟩) (l+1) cap) (l+1) (nums .u32 us) ∧
     wr.ownsRow w.heap.size 177 1 (.slice (some ⟨gq0,0,none⟩) (l - m) (l - m)) (l - m) (nums .u32 qs) ∧
     Sl wr (.slice (some ⟨gv,0,none⟩) (m+1) cv) 1 (m+1) (nums .u32 vs)∧Hid (us.length=l+1∧qs.length=l - m) ∧
     Hid (DivInv (val 1000000000 xs * sc) (val 1000000000 vs) us qs k)∧Below w.heap.size w wr)
    (fun j _ => (intOf j+1).toNat)
   case atStart => exact ⟨l - m,us2,_,Nat.le_refl _,by go_num,hU4,hQ4,hV4,⟨Hulen.out,by simp⟩,hX,hbel4⟩
   case round =>
    clear hU4 hQ4 hV4 hX hbel4 Hulen Hu
    obtain ⟨k,us3,qs,hk,rfl,hU,hQ,hV,Hlen,Hinv,hbel⟩:=hrel
    by_cases h0:0 < k
    ·obtain ⟨j,rfl⟩:∃ k',k=k'+1:=⟨k - 1,by omega⟩
     have Hseg:=Lib.hid (seg_val HV9.out Hinv.out.2.2.2 (by rw [Hlen.out.1];omega))
     have du:=Hinv.out.1
     have hct:=(hU.cellAt (j+(m+1)) (by omega)).trans (nums_at .u32 us3 (j+(m+1)) (by rw [Hlen.out.1];omega))
     have hcu:=(hU.cellAt (j+m) (by omega)).trans (nums_at .u32 us3 (j+m) (by rw [Hlen.out.1];omega))
     have hcw:=(hU.cellAt (j+m - 1) (by omega)).trans (nums_at .u32 us3 (j+m - 1) (by rw [Hlen.out.1];omega))
     have ht9:=du.at (show 0 < 1000000000 by decide) (j+(m+1))
     have hu9:=du.at (show 0 < 1000000000 by decide) (j+m)
     have hw9:=du.at (show 0 < 1000000000 by decide) (j+m - 1)
     have hvf:∀ i,i < m+1→wr.cell? ⟨gv,i,none⟩=some (.int .u32 ((vs.getD i 0:Nat):Int)):=fun i hi => by
      obtain ⟨_,_,he,_,_,hh⟩:=hV
      cases he
      obtain ⟨_,_,he,hh⟩:=hh.resolve_left (by omega)
      cases he
      have:=hh i _ (nums_at .u32 vs i (by rw [Hvl.out];omega))
      simpa using this
     have hcy:=hvf m (by omega)
     have hcz:=hvf (m - 1) (by omega)
     have hz9:=hvs.1.at (show 0 < 1000000000 by decide) (m - 1)
     have hy99:=hvs.1.at (show 0 < 1000000000 by decide) m
     have hyH:=Hvt.out
     clear hvf
     obtain ⟨t,hte⟩:∃ t,us3.getD (j+(m+1)) 0=t:=⟨_,rfl⟩
     obtain ⟨u,hue⟩:∃ u,us3.getD (j+m) 0=u:=⟨_,rfl⟩
     obtain ⟨u',hwe⟩:∃ u',us3.getD (j+m - 1) 0=u':=⟨_,rfl⟩
     obtain ⟨vy,hye⟩:∃ vy,vs.getD m 0=vy:=⟨_,rfl⟩
     obtain ⟨vz,hze⟩:∃ vz,vs.getD (m - 1) 0=vz:=⟨_,rfl⟩
     have hlead:=lead_le (us:=us3) (j:=j) (m:=m) Hseg.out.2 Hvl.out hvs.1 (by rw [Hlen.out.1];omega)
     have Hnear:=Lib.hid (seg_near (us:=us3) (j:=j) (m:=m) (by omega) Hseg.out.2 Hvl.out du hvs.1 (by rw [Hlen.out.1];omega) Hvt.out hte hue hwe hye hze)
     rw [hte,hye] at hlead
     clear du
     rw [hte] at hct ht9
     rw [hue] at hcu hu9
     rw [hwe] at hcw hw9
     rw [hye] at hcy hy99 hyH
     rw [hze] at hcz hz9
     go_wp2_with fail
     have k1:(0:Int)≤(j:Int)+((m:Int)+1):=by omega
     have k2:(j:Int)+((m:Int)+1) < (l:Int)+1:=by omega
     have k3:(0:Int)≤(j:Int)+((m:Int)+1) - 1:=by omega
     have k4:(j:Int)+((m:Int)+1) - 1 < (l:Int)+1:=by omega
     have k5:(0:Int)≤(j:Int)+((m:Int)+1) - 2:=by omega
     have k6:(j:Int)+((m:Int)+1) - 2 < (l:Int)+1:=by omega
     have k7:(0:Int)≤(m:Int)+1 - 2:=by omega
     have k8:(m:Int)+1 - 2 < (m:Int)+1:=by omega
     have k3':(1:Int)≤(j:Int)+((m:Int)+1):=by omega
     have k5':(2:Int)≤(j:Int)+((m:Int)+1):=by omega
     have k7':(2:Int)≤(m:Int)+1:=by omega
     have k9:(m:Int) < (m:Int)+1:=by omega
     have t1:((j:Int)+((m:Int)+1)).toNat=j+(m+1):=by omega
     have t2:((j:Int)+((m:Int)+1) - 1).toNat=j+m:=by omega
     have t3:((j:Int)+((m:Int)+1) - 2).toNat=j+m - 1:=by omega
     have t4:((m:Int)+1 - 2).toNat=m - 1:=by omega
     have x1:IntKind.i64.wrap ((j:Int)+((m:Int)+1))=(j:Int)+((m:Int)+1):=IntWalk.i64_in _ (by omega)
     have x2:IntKind.i64.wrap ((j:Int)+((m:Int)+1) - 1)=(j:Int)+((m:Int)+1) - 1:=IntWalk.i64_in _ (by omega)
     have x3:IntKind.i64.wrap ((j:Int)+((m:Int)+1) - 2)=(j:Int)+((m:Int)+1) - 2:=IntWalk.i64_in _ (by omega)
     have x4:IntKind.i64.wrap ((m:Int)+1 - 2)=(m:Int)+1 - 2:=IntWalk.i64_in _ (by omega)
     have x5:IntKind.i64.wrap (m:Int)=(m:Int):=IntWalk.i64_in _ (by omega)
     go_quiet ((go_at_call 126;exact Calls.quiet_of (guess_val _ _ _ _ _ _ hlead hu9 hw9 hyH hy99 hz9)))
     obtain ⟨d,hd⟩:∃ d,gq (t * 1000000000+u) u' vy vz=d:=⟨_,rfl⟩
     rw [hd] at Hnear ⊢
     have hd9:=Hnear.out.2.2
     clear hd hct hcu hcw hcy hcz ht9 hu9 hw9 hlead hte hue hwe hye hze
     clear k1 k2 k3 k4 k5 k6 k7 k8 k9 k3' k5' k7' t1 t2 t3 t4 x1 x2 x3 x4 x5 hyH hy99 hz9
     go_wp2_with fail
     have hslD:=sl_one (wr.drewN nq) .u32 d 177
     refine (trim_any _ [d] _ hslD (by simp)).mono ?_
     rintro e wx ⟨v1,rfl,Hv1,rfl⟩
     have hcut:=hslD.cut (trimL [d]).length (trimL_prefix [d]).2
     rw [Nat.mul_one,nums_take,← (trimL_prefix [d]).1,← Hv1.out] at hcut
     clear hslD
     have hVx:Sl ((wr.drewN nq).alloc (.cells #[.int .u32 (d:Int)] 177)) (.slice (some ⟨gv,0,none⟩) (m+1) cv) 1 (m+1) (nums .u32 vs):=(hV.drewN nq).below (below_alloc (Below.refl _ _) (Nat.le_refl _) _)
     go_wp2_with fail
     refine (times_any _ v1 vs (trimL [d]) _ (by rw [Hvl.out];exact hVx) hcut hvs.1 (trimL_nrm (fun z hz => by rw [List.mem_singleton] at hz;omega)).1 (by rw [Hvl.out];omega) (by have:=(trimL_prefix [d]).2;simp at this;omega)).mono ?_
     rintro e w5 ⟨vp,ps,rfl,⟨hownp,hps,hbelp⟩,hpv⟩
     rw [trimL_val,val_single] at hpv
     have hb5:Below wr.heap.size wr w5:=((below_drewN (Below.refl _ _) nq).alloc (Nat.le_refl _) _).trans (hbelp.mono (by simp))
     have hP5:=Sl.of_owns hownp
     have hU5:=ownsRow_below' hU hb5
     have hQ5:=ownsRow_below' hQ hb5
     have hV5:=hV.below hb5
     have Hpv:=Lib.hid hpv
     clear hpv hownp hbelp hcut hVx
     have hjc : ¬ cap=j:=by omega
     obtain ⟨hsl,hS5⟩:=seg_sl (m:=m) (j:=j) hU5 Hlen.out.1 (by omega) hgu3
     have Hsl:=Lib.hid hsl
     go_wp2_with fail
     rw [show j+(m+1)+1 - j=m+2 by omega]
     refine (trim_any _ (seg us3 j m) _ (by rw [hsl];exact hS5) (by rw [hsl];omega)).mono ?_
     rintro e wx ⟨v2,rfl,Hv2,rfl⟩
     have hS6:=hS5.cut (trimL (seg us3 j m)).length (by rw [← hsl];exact (trimL_prefix _).2)
     rw [Nat.mul_one,nums_take,← (trimL_prefix (seg us3 j m)).1,← Hv2.out] at hS6
     have C2:=compare_any v2 vp (trimL (seg us3 j m)) ps w5 hS6 hP5 (trimL_nrm (seg_dig Hinv.out.1 j m)) hps (by have:=(trimL_prefix (seg us3 j m)).2;omega)
      (Nat.le_trans (hps.length_le (by decide) (m+3) (by
       rw [Hpv.out,show m+3=m+1+2 from rfl,Nat.pow_add]
       exact Nat.lt_of_lt_of_le (Nat.mul_lt_mul'' HV9.out hd9) (Nat.mul_le_mul_left _ (by decide)))) (by omega))
     rw [trimL_val,Hpv.out] at C2
     obtain ⟨sg,hsg⟩:∃ sg,sgn (val 1000000000 (seg us3 j m)) (val 1000000000 vs * d)=sg:=⟨_,rfl⟩
     rw [hsg] at C2
     have Hsg:=Lib.hid hsg
     have HC2:=Lib.hid C2
     clear C2 hsg hsl hS5 hS6
     go_wp2_with fail
     refine HC2.out.mono ?_
     rintro e wx ⟨rfl,n6,rfl⟩
     clear HC2
     go_upto_if 131 with (fail)
     go_cut [13,14] (fun s13 s14 wc => ∃ (d2:Nat) (ps2:List Nat),s13 = .int .u64 d2∧d2 < 1000000000∧Sl wc s14 1 ps2.length (nums .u32 ps2) ∧
      Hid (Nrm 1000000000 ps2∧val 1000000000 ps2=val 1000000000 vs * d2∧d2=val 1000000000 (seg us3 j m) / val 1000000000 vs)∧Below wr.heap.size wr wc)
     case first =>
      have hVp:0 < val 1000000000 vs:=by
       have e2:=nrm_split (b:=1000000000) m Hvl.out
       have h0:0 < 1000000000 ^ m * vs.getD m 0:=Nat.mul_pos (Nat.pow_pos (by decide)) (by have:=Hvt.out;omega)
       omega
      by_cases hcmp:val 1000000000 (seg us3 j m) < val 1000000000 vs * d
      ·obtain rfl:sg = -1:=by rw [← Hsg.out,sgn_lt hcmp]
       have hd1:1≤d:=Nat.pos_of_ne_zero (fun e => by rw [e] at hcmp;simp at hcmp)
       have hdq:d - 1=val 1000000000 (seg us3 j m) / val 1000000000 vs:=by
        have h1:val 1000000000 (seg us3 j m) / val 1000000000 vs < d:=(Nat.div_lt_iff_lt_mul hVp).2 (by rw [Nat.mul_comm];exact hcmp)
        have h2:=Hnear.out.2.1
        omega
       have Hdq:=Lib.hid hdq
       have hVx:=(hV5.drewN n6).below (below_alloc (Below.refl _ _) (Nat.le_refl _) (.cells #[.int .u32 ((d - 1:Nat):Int)] 177))
       have hslD:=sl_one (w5.drewN n6) .u32 (d - 1) 177
       have HVx:=Lib.hid hVx
       have HslD:=Lib.hid hslD
       clear hdq hVx hslD hcmp hVp
       have ed:((d:Int) - 1)=((d - 1:Nat):Int):=by omega
       have Hed:=Lib.hid ed
       clear ed
       go_wp2_with fail
       simp only [Hed.out]
       refine (trim_any _ [d - 1] _ HslD.out (by simp)).mono ?_
       rintro e wx ⟨v1,rfl,Hv1,rfl⟩
       have hcut:=HslD.out.cut (trimL [d - 1]).length (trimL_prefix [d - 1]).2
       rw [Nat.mul_one,nums_take,← (trimL_prefix [d - 1]).1,← Hv1.out] at hcut
       go_wp2_with fail
       refine (times_any _ v1 vs (trimL [d - 1]) _ (by rw [Hvl.out];exact HVx.out) hcut hvs.1 (trimL_nrm (fun z hz => by rw [List.mem_singleton] at hz;omega)).1 (by rw [Hvl.out];omega) (by have:=(trimL_prefix [d - 1]).2;simp at this;omega)).mono ?_
       rintro e w8 ⟨vp2,ps2,rfl,⟨hownp,hps2,hbelp⟩,hpv⟩
       rw [trimL_val,val_single] at hpv
       have hb8:Below wr.heap.size wr w8:=hb5.trans (((below_drewN (Below.refl _ _) n6).alloc hb5.size _).trans (hbelp.mono (by have:=hb5.size;simp;omega)))
       have hP8:=Sl.of_owns hownp
       have HQ:=Lib.hid (show Nrm 1000000000 ps2∧val 1000000000 ps2=val 1000000000 vs * (d - 1)∧d - 1=val 1000000000 (seg us3 j m) / val 1000000000 vs from ⟨hps2,hpv,Hdq.out⟩)
       clear hpv hownp hbelp hcut
       go_wp2
       go_meet
       case rel => exact ⟨d - 1,ps2,rfl,by omega,hP8,HQ,hb8⟩
      ·have hsg0:0≤sg:=by
        rw [← Hsg.out]
        by_cases h:val 1000000000 (seg us3 j m)=val 1000000000 vs * d
        ·rw [sgn_eq h];omega
        ·rw [sgn_gt (by omega)];omega
       have hdq:d=val 1000000000 (seg us3 j m) / val 1000000000 vs:=by
        have h1:d≤val 1000000000 (seg us3 j m) / val 1000000000 vs:=(Nat.le_div_iff_mul_le hVp).2 (by rw [Nat.mul_comm];omega)
        have h2:=Hnear.out.1
        omega
       have HQ:=Lib.hid (show Nrm 1000000000 ps∧val 1000000000 ps=val 1000000000 vs * d∧d=val 1000000000 (seg us3 j m) / val 1000000000 vs from ⟨hps,Hpv.out,hdq⟩)
       have hsg1:decide (sg < 0)=false:=by rw [decide_eq_false_iff_not];omega
       have hP6:=hP5.drewN n6
       have hb6:=below_drewN hb5 n6
       have hfin:∃ (d2:Nat) (ps2:List Nat),Value.int .u64 (d:Int) = .int .u64 d2∧d2 < 1000000000∧Sl (w5.drewN n6) vp 1 ps2.length (nums .u32 ps2) ∧
         Hid (Nrm 1000000000 ps2∧val 1000000000 ps2=val 1000000000 vs * d2∧d2=val 1000000000 (seg us3 j m) / val 1000000000 vs)∧Below wr.heap.size wr (w5.drewN n6):=⟨d,ps,rfl,hd9,hP6,HQ,hb6⟩
       have Hfin:=Lib.hid hfin
       clear hdq hcmp hVp hfin
       go_wp2
       go_meet
       case rel => exact Hfin.out
     case rest =>
      obtain ⟨d2,ps2,rfl,hd2,hP6,H6,hb6⟩:=hcut
      have hU6:=ownsRow_below' hU hb6
      have hQ6:=ownsRow_below' hQ hb6
      have hV6:=hV.below hb6
      clear hU5 hQ5 hV5 hb5 hP5 hU hQ hV
      obtain ⟨hsl,hS7⟩:=seg_sl (m:=m) (j:=j) hU6 Hlen.out.1 (by omega) hgu3
      have hgw:gu < wc.heap.size:=by
       have hlt:=(hU6.lt gu rfl).2
       exact hlt
      go_wp2_with fail
      rw [show j+(m+1)+1 - j=m+2 by omega]
      refine (trim_any _ (seg us3 j m) _ (by rw [hsl];exact hS7) (by rw [hsl];omega)).mono ?_
      rintro e wx ⟨v3,rfl,Hv3,rfl⟩
      have hS8:=hS7.cut (trimL (seg us3 j m)).length (by rw [← hsl];exact (trimL_prefix _).2)
      rw [Nat.mul_one,nums_take,← (trimL_prefix (seg us3 j m)).1,← Hv3.out] at hS8
      go_wp2_with fail
      refine (minus_any v3 _ (trimL (seg us3 j m)) ps2 _ hS8 hP6 (trimL_nrm (seg_dig Hinv.out.1 j m)).1 H6.out.1 (by
       rw [trimL_val,H6.out.2.1,H6.out.2.2];exact Nat.mul_div_le _ _) (by have:=(trimL_prefix (seg us3 j m)).2;omega)).mono ?_
      rintro e w7 ⟨vl,ls,rfl,⟨hownl,hls,hbell⟩,hlv⟩
      rw [trimL_val,H6.out.2.1,H6.out.2.2,← Nat.mod_eq_sub_mul_div] at hlv
      have hb7:Below w.heap.size w w7:=hbel.trans ((hb6.trans (hbell.mono hb6.size)).mono hbel.size)
      have hU7:=ownsRow_below' hU6 hbell
      have hQ7:=ownsRow_below' hQ6 hbell
      have hV7:=hV6.below hbell
      have hL7:=Sl.of_owns hownl
      have hlne:∀ k,vl.ownBlock=some k→k ≠ gu:=fun k hk => by have:=(hownl.lt k hk).1;omega
      have Hlv:=Lib.hid hlv
      have Hlne:=Lib.hid hlne
      have hll:ls.length≤m+2:=by
       have h1:=hls.length_le (by decide) (m+1) (by rw [hlv];exact Nat.lt_trans (Nat.mod_lt _ (by have:=HV9.out;have h2:=H6.out.2.1;exact Nat.pos_of_ne_zero (fun e => by have:=Hvt.out;have e2:=nrm_split (b:=1000000000) m Hvl.out;rw [e] at e2;have:0 < 1000000000 ^ m * vs.getD m 0:=Nat.mul_pos (Nat.pow_pos (by decide)) (by omega);omega))) HV9.out)
       omega
      clear hlv hlne hownl hbell hU6 hQ6 hV6 hb6 hS7 hS8 hP6 hsl hbel hgw
      obtain ⟨al,cl,rfl,hlc,_⟩:=id hL7
      go_wp2_with fail
      go_loopw [152] (fun i wr => ∃ (i1:Nat) (us4:List Nat),i1≤m+2∧i = .int .i64 i1 ∧
        wr.ownsRow w.heap.size 177 1 (.slice (some ⟨gu,0,none⟩) (l+1) cap) (l+1) (nums .u32 us4) ∧
        wr.ownsRow w.heap.size 177 1 (.slice (some ⟨gq0,0,none⟩) (l - m) (l - m)) (l - m) (nums .u32 qs) ∧
        Sl wr (.slice (some ⟨gv,0,none⟩) (m+1) cv) 1 (m+1) (nums .u32 vs)∧Sl wr (.slice al ls.length cl) 1 ls.length (nums .u32 ls) ∧
        Hid (BackInv us3 us4 ls j i1)∧Below w.heap.size w wr)
       (fun i _ => m+2 - (intOf i).toNat)
      case atStart => exact ⟨0,us3,by omega,rfl,hU7,hQ7,hV7,hL7,BackInv.start Hinv.out.1 j,hb7⟩
      case round =>
       clear hU7 hQ7 hV7 hL7 hb7
       obtain ⟨i1,us4,hi1,rfl,hU,hQ,hV,hL,HB4,hbel⟩:=hrel
       have hu4l:us4.length=l+1:=HB4.out.1.trans Hlen.out.1
       by_cases hit:i1 < m+2
       ·have hok:=(hU.cellAt (j+i1) (by omega)).trans (nums_at .u32 us4 (j+i1) (by omega))
        have hfr:=hU.frozenAt (j+i1)
        have Hu4l:=Lib.hid hu4l
        have HB5:=Lib.hid (HB4.out.step (hls.1) (by rw [Hlen.out.1];omega))
        have e0:=hU.stored (j+i1) (.int .u32 ((0:Nat):Int))
        rw [nums_set] at e0
        have hne:∀ (X:World) (u:Value) (v:Value) (k:Nat),v.ownBlock=some k→k ≠ gu→(X.setCell ⟨gu,j+i1,none⟩ u).heap[k]? = X.heap[k]?:=fun X u v k _ hk => Below.heap_setCell _ _ _ _ hk
        have hQ1:=ownsRow_kept (w':=wr.setCell ⟨gu,j+i1,none⟩ (.int .u32 ((0:Nat):Int))) hQ (fun k hk _ => hne _ _ _ k hk (fun e => hguq (by cases hk;exact e.symm)))
        have hV1:=Sl.kept (w':=wr.setCell ⟨gu,j+i1,none⟩ (.int .u32 ((0:Nat):Int))) hV (fun k hk _ => hne _ _ _ k hk (fun e => hgvu (by cases hk;exact e.symm)))
        have hL1:=Sl.kept (w':=wr.setCell ⟨gu,j+i1,none⟩ (.int .u32 ((0:Nat):Int))) hL (fun k hk _ => hne _ _ _ k hk (Hlne.out k hk))
        have hb1:=hbel.grown e0.2 hbel.size (by intro k hk;have:=(hU.lt gu rfl).1;cases hk;exact this)
        clear hu4l
        by_cases hil:i1 < ls.length
        ·obtain ⟨bl,offl,rfl,hlc2⟩:=(Sl.nums hL).elim (fun _ h => by obtain ⟨_,he,_,h3⟩:=h;cases he;exact h3.resolve_left (by omega))
         have hcl:=hlc2 i1 hil
         have hblne:bl ≠ gu:=Hlne.out bl rfl
         have hok1:=(e0.1.cellAt (j+i1) (by omega)).trans (nums_at .u32 _ (j+i1) (by rw [List.length_set,Hu4l.out];omega))
         have hfr1:=e0.1.frozenAt (j+i1)
         obtain ⟨x,hx⟩:∃ x,ls.getD i1 0=x:=⟨_,rfl⟩
         rw [hx] at hcl HB5
         have e1:=e0.1.stored (j+i1) (.int .u32 (x:Int))
         rw [nums_set,List.set_set] at e1
         have hQ2:=ownsRow_kept (w':=(wr.setCell ⟨gu,j+i1,none⟩ (.int .u32 ((0:Nat):Int))).setCell ⟨gu,j+i1,none⟩ (.int .u32 (x:Int))) hQ1 (fun k hk _ => hne _ _ _ k hk (fun e => hguq (by cases hk;exact e.symm)))
         have hV2:=Sl.kept (w':=(wr.setCell ⟨gu,j+i1,none⟩ (.int .u32 ((0:Nat):Int))).setCell ⟨gu,j+i1,none⟩ (.int .u32 (x:Int))) hV1 (fun k hk _ => hne _ _ _ k hk (fun e => hgvu (by cases hk;exact e.symm)))
         have hL2:=Sl.kept (w':=(wr.setCell ⟨gu,j+i1,none⟩ (.int .u32 ((0:Nat):Int))).setCell ⟨gu,j+i1,none⟩ (.int .u32 (x:Int))) hL1 (fun k hk _ => hne _ _ _ k hk (Hlne.out k hk))
         have hb2:=hb1.grown e1.2 hb1.size (by intro k hk;have:=(hU.lt gu rfl).1;cases hk;exact this)
         have HE:=Lib.hid (And.intro e1.1 (And.intro hQ2 (And.intro hV2 (And.intro hL2 hb2))))
         clear e0 e1 hQ1 hV1 hL1 hb1 hQ2 hV2 hL2 hb2 hne hlc2 hx hU hQ hV hL hbel
         go_wp2
         go_roundw
         case rel => exact ⟨i1+1,_,by omega,by go_num,HE.out.1,HE.out.2.1,HE.out.2.2.1,HE.out.2.2.2.1,HB5,HE.out.2.2.2.2⟩
         case measure => simp [intOf];omega
        ·have hx:ls.getD i1 0=0:=by simp only [List.getD,List.getElem?_eq_none (by omega:ls.length≤i1),Option.getD_none]
         rw [hx] at HB5
         have HE:=Lib.hid (And.intro e0.1 (And.intro hQ1 (And.intro hV1 (And.intro hL1 hb1))))
         clear e0 hQ1 hV1 hL1 hb1 hne hx hU hQ hV hL hbel
         go_wp2
         go_roundw
         case rel => exact ⟨i1+1,_,by omega,by go_num,HE.out.1,HE.out.2.1,HE.out.2.2.1,HE.out.2.2.2.1,HB5,HE.out.2.2.2.2⟩
         case measure => simp [intOf];omega
       ·obtain rfl:i1=m+2:=by omega
        have HF4:=HB4.out.fin (n:=m) hll
        rw [Hlv.out] at HF4
        have hD:=Hinv.out.step HV9.out (by have:=Hvt.out;have e2:=nrm_split (b:=1000000000) m Hvl.out;have h0:0 < 1000000000 ^ m * vs.getD m 0:=Nat.mul_pos (Nat.pow_pos (by decide)) (by omega);omega) (by rw [Hlen.out.1];omega) (by rw [Hlen.out.2];omega) HF4.2.1 HF4.2.2
        rw [← H6.out.2.2] at hD
        have HD:=Lib.hid hD.1
        have hql:qs.length=l - m:=Hlen.out.2
        have hok:=(hQ.cellAt j (by omega)).trans (nums_at .u32 qs j (by omega))
        have hfr:=hQ.frozenAt j
        have e0:=hQ.stored j (.int .u32 (d2:Int))
        rw [nums_set] at e0
        have hU1:=ownsRow_kept (w':=wr.setCell ⟨gq0,j,none⟩ (.int .u32 (d2:Int))) hU (fun k hk _ => Below.heap_setCell _ _ _ _ (fun e => hguq (by cases hk;exact e)))
        have hV1:=Sl.kept (w':=wr.setCell ⟨gq0,j,none⟩ (.int .u32 (d2:Int))) hV (fun k hk _ => Below.heap_setCell _ _ _ _ (fun e => hgvq (by cases hk;exact e)))
        have hb1:=hbel.grown e0.2 hbel.size (by intro k hk;have:=(hQ.lt gq0 rfl).1;cases hk;exact this)
        have HE:=Lib.hid (And.intro hU1 (And.intro e0.1 (And.intro hV1 hb1)))
        have HL4:Hid (us4.length=l+1∧(qs.set j d2).length=l - m):=⟨hu4l,by simpa using hql⟩
        clear hD e0 hU1 hV1 hb1 hql HF4 hU hQ hV hL hbel hu4l
        go_wp2
        go_roundw
        case rel => exact ⟨j,us4,_,by omega,by go_num,HE.out.1,HE.out.2.1,HE.out.2.2.1,HL4,HD,HE.out.2.2.2⟩
        case measure => simp [intOf]
    ·obtain rfl:k=0:=by omega
     have hq0:(qs.drop 0)=qs:=rfl
     have hfin:=div_fin (X:=val 1000000000 xs) (Y:=val 1000000000 ys) (s:=sc) (Q:=val 1000000000 qs) (R:=val 1000000000 us3) hsc1
      (by have:=Hinv.out.2.2.1;rw [Hvv.out] at this;simpa using this) (by have:=Hinv.out.2.2.2;rw [Hvv.out] at this;simpa using this)
     have Hfin:=Lib.hid hfin
     have hsU:=Sl.of_owns hU
     have hsQ:=Sl.of_owns hQ
     clear hfin hq0
     go_wp2_with fail
     refine (trim_any _ us3 _ (by rw [Hlen.out.1];exact hsU) (by rw [Hlen.out.1];omega)).mono ?_
     rintro e wx ⟨v1,rfl,Hv1,rfl⟩
     have hcut:=hsU.cut (trimL us3).length (by rw [← Hlen.out.1];exact (trimL_prefix us3).2)
     rw [Nat.mul_one,nums_take,← (trimL_prefix us3).1,← Hv1.out] at hcut
     go_wp2_with fail
     refine (short_any v1 (trimL us3) sc _ hcut (trimL_nrm Hinv.out.1).1 (by have:=(trimL_prefix us3).2;rw [Hlen.out.1] at this;omega) hsc1 (by omega)).mono ?_
     rintro e w9 ⟨v9,rs,r9,rfl,⟨hown9,hrs,hbel9⟩,hq9,hr9⟩
     rw [trimL_val] at hq9
     have Hq9:=Lib.hid hq9
     clear hq9 hr9
     have hsQ9:=hsQ.below hbel9
     go_wp2_with fail
     refine (trim_any _ qs _ (by rw [Hlen.out.2];exact hsQ9) (by rw [Hlen.out.2];omega)).mono ?_
     rintro e wx ⟨v10,rfl,Hv10,rfl⟩
     have hcut2:=hsQ9.cut (trimL qs).length (by rw [← Hlen.out.2];exact (trimL_prefix qs).2)
     rw [Nat.mul_one,nums_take,← (trimL_prefix qs).1,← Hv10.out] at hcut2
     have hbelE:Below w.heap.size w w9:=hbel.trans (hbel9.mono hbel.size)
     have HE:=Lib.hid (show DivPost w (val 1000000000 xs) (val 1000000000 ys) (.returned (.tuple #[v10,v9])) w9 from
      ⟨v10,v9,trimL qs,rs,rfl,hcut2,Sl.of_owns hown9,trimL_nrm Hinv.out.2.1,hrs,by rw [trimL_val];exact Hfin.out.1,by rw [Hq9.out];exact Hfin.out.2,hbelE⟩)
     clear hcut2 hsQ9 hown9 hbel9 hcut hsU hsQ
     go_wp2
     go_ret2
     exact HE.out
theorem divide_any (a b:Value) (xs ys:List Nat) (w:World) (ha:Sl w a 1 xs.length (nums .u32 xs)) (hb:Sl w b 1 ys.length (nums .u32 ys))
  (hx:Nrm 1000000000 xs) (hy:Nrm 1000000000 ys) (lx:xs.length≤90000) (ly:ys.length≤90000) (h0:ys ≠ []) :
  Calls Tryz.prog 104 #[a,b] w (DivPost w (val 1000000000 xs) (val 1000000000 ys)):=by
 by_cases hlt:val 1000000000 xs < val 1000000000 ys
 ·exact divide_small a b xs ys w ha hb hx hy lx ly hlt
 ·by_cases h2:2≤ys.length
  ·exact divide_long a b xs ys w ha hb hx hy lx ly (by omega) h2
  ·match ys,h0 with
   | [d],_ => exact divide_one a b xs d w ha hb hx hy lx (by omega)
   | d :: d' :: ds,_ => simp at h2
end Go.Proofs.YthdeijdimfjceaaGreatDoor

namespace Go.Proofs.YthdeijdimfjceaaGreatDoor
open Go.RowKit
def GcdErr (w:World) (er:Int) (e:Ending) (w':World):Prop:=e = .returned (.tuple #[.string ⟨#[]⟩,.int .i64 er])∧Below w.heap.size w w'
def GcdOk (w:World) (n:Nat) (e:Ending) (w':World):Prop:=∃ t,e = .returned (.tuple #[.string t,.int .i64 0])∧bl t=istr false n∧Below w.heap.size w w'
def ten (k:Nat):Nat:=10 ^ k
theorem ten_mono {a b:Nat} (h:a≤b):ten a≤ten b:=Nat.pow_le_pow_right (by decide) h
theorem ten_grp (k:Nat):ten (9 * k)=1000000000 ^ k:=by rw [ten,Nat.pow_mul]
theorem dval_ten {l:List UInt8} (h:l.all isDig=true):dval l < ten l.length:=dval_lt l h
theorem dig10_ten {n k:Nat} (h:n < ten k):(dig10 n).length≤k:=dig10_le h
theorem grp_ten {xs:List Nat} {k:Nat} (h:Nrm 1000000000 xs) (hv:val 1000000000 xs < ten (9 * k)):xs.length≤k:=h.length_le (by decide) k (by rw [← ten_grp];exact hv)
theorem dval_body_lt {l:List UInt8} (h:intErr l=0):dval (body l) < ten 1000:=by
 obtain ⟨h1,h2⟩:=intErr_zero h
 rw [canonI,canonD] at h1
 simp only [Bool.and_eq_true] at h1
 exact Nat.lt_of_lt_of_le (dval_ten h1.1.2) (ten_mono h2)
theorem gcd_lt {x y:Nat} (hx:x < ten 1000) (hy:y < ten 1000):Nat.gcd x y < ten 1000:=by
 by_cases h:x=0
 ·subst h;rw [Nat.gcd_zero_left];exact hy
 ·exact Nat.lt_of_le_of_lt (Nat.le_of_dvd (Nat.pos_of_ne_zero h) (Nat.gcd_dvd_left x y)) hx
theorem grp_len {xs:List Nat} (h:Nrm 1000000000 xs) (hv:val 1000000000 xs < ten 1000):xs.length≤112 :=
 grp_ten h (Nat.lt_of_lt_of_le hv (ten_mono (by decide)))
theorem wErr_zero {n:Nat} (h:n < ten 1000) (neg:Bool):wErr n=0∧wStr neg n=istr neg n:=by
 have:=dig10_ten h
 constructor
 ·rw [wErr,if_neg (by omega)]
 ·rw [wStr,if_neg (by omega)]
def GcdInv (N:Nat) (xs ys:List Nat):Prop:=Nrm 1000000000 xs∧Nrm 1000000000 ys∧val 1000000000 xs < ten 1000∧val 1000000000 ys < ten 1000∧Nat.gcd (val 1000000000 xs) (val 1000000000 ys)=N
set_option maxHeartbeats 2000000 in
set_option maxRecDepth 100000 in
theorem gcd_ok (a b:ByteArray) (w:World) (ha:a.size≤9223372036854775807) (hb:b.size≤9223372036854775807) (h0:intErr (bl a)=0) (h:intErr (bl b)=0) :
  Calls Tryz.prog 70 #[.string a,.string b] w (GcdOk w (Nat.gcd (dval (body (bl a))) (dval (body (bl b))))):=by
 have HC:=Lib.hid (fun W => pair_ok a b W ha hb h0 h)
 have HA:=Lib.hid (dval_body_lt h0)
 have HB:=Lib.hid (dval_body_lt h)
 clear ha hb h0 h
 go_enter Tryz.func70,Tryz.ntmps70
 go_wp2_with fail
 refine (HC.out _).mono ?_
 rintro e w1 ⟨va,vb,xs,ys,rfl,sa,sb,nx,ny,vx,vy,hb1⟩
 obtain ⟨N,hN⟩:∃ N,Nat.gcd (dval (body (bl a))) (dval (body (bl b)))=N:=⟨_,rfl⟩
 have HN:=Lib.hid hN
 have hI:Hid (GcdInv N xs ys):=⟨nx,ny,by rw [vx];exact HA.out,by rw [vy];exact HB.out,by rw [vx,vy];exact hN⟩
 have hNlt:=gcd_lt HA.out HB.out
 rw [hN] at hNlt
 have HNlt:=Lib.hid hNlt
 clear hN hNlt vx vy nx ny HC HA HB
 obtain ⟨na,hna⟩:∃ na,isNeg (bl a)=na:=⟨_,rfl⟩
 obtain ⟨nb,hnb⟩:∃ nb,isNeg (bl b)=nb:=⟨_,rfl⟩
 rw [hna,hnb]
 clear hna hnb
 obtain ⟨aa,ca,rfl,_⟩:=id sa
 obtain ⟨ab,cb,rfl,_⟩:=id sb
 have Hsa:=Lib.hid sa
 have Hsb:=Lib.hid sb
 clear sa sb
 go_wp2_with fail
 obtain ⟨W0,hW0⟩:∃ W0,W0=(w1.alloc (.cells #[.bool na,.slice aa xs.length ca] 148)).alloc (.cells #[.bool nb,.slice ab ys.length cb] 148):=⟨_,rfl⟩
 rw [← hW0]
 have hb0:Below w1.heap.size w1 W0:=by rw [hW0];exact ((Below.refl _ _).alloc (Nat.le_refl _) _).alloc (by simp) _
 have bx:Boxed2 W0 w1.heap.size 148 (.bool na) (.slice aa xs.length ca):=by
  rw [hW0]
  show ((w1.heap.push _).push _)[w1.heap.size]? = _
  rw [Array.getElem?_push,if_neg (by simp),Array.getElem?_push,if_pos rfl]
 have by1:Boxed2 W0 (w1.heap.size+1) 148 (.bool nb) (.slice ab ys.length cb):=by
  rw [hW0]
  show ((w1.heap.push _).push _)[w1.heap.size+1]? = _
  rw [Array.getElem?_push,if_pos (by simp)]
 have hbW:Below w.heap.size w W0:=hb1.trans (hb0.mono hb1.size)
 have hw1:=hb1.size
 have sa0:=Hsa.out.below hb0
 have sb0:=Hsb.out.below hb0
 clear hW0 hb0 hb1 Hsa Hsb
 go_loopg [] (val 1000000000 ys) (fun k wr => ∃ (xs ys:List Nat) (aa ab:Option Addr) (ca cb:Nat),val 1000000000 ys=k ∧
  Boxed2 wr w1.heap.size 148 (.bool na) (.slice aa xs.length ca)∧Boxed2 wr (w1.heap.size+1) 148 (.bool nb) (.slice ab ys.length cb) ∧
  Sl wr (.slice aa xs.length ca) 1 xs.length (nums .u32 xs)∧Sl wr (.slice ab ys.length cb) 1 ys.length (nums .u32 ys)∧Hid (GcdInv N xs ys)∧Below w.heap.size w wr)
 case atStart => exact ⟨xs,ys,aa,ab,ca,cb,rfl,bx,by1,sa0,sb0,hI,hbW⟩
 case round =>
  clear bx by1 sa0 sb0 hI hbW
  obtain ⟨xs,ys,aa,ab,ca,cb,hk,bx,by1,sa,sb,HI,hbel⟩:=hrel
  have Hk:=Lib.hid hk
  clear hk
  have cx:=bx.cell1
  have cy:=by1.cell1
  by_cases hy:0 < ys.length
  ·have hyne:ys ≠ []:=List.length_pos_iff.1 hy
   have HD:=Lib.hid (divide_any _ _ xs ys wr sa sb HI.out.1 HI.out.2.1 (by have:=grp_len HI.out.1 HI.out.2.2.1;omega) (by have:=grp_len HI.out.2.1 HI.out.2.2.2.1;omega) hyne)
   have Hyne:=Lib.hid hyne
   clear hyne
   go_wp2_with fail
   refine HD.out.mono ?_
   rintro e w2 ⟨vq,vr,qs,rs,rfl,sq,sr,nq,nr,eq,er,hb2⟩
   have sb2:=sb.below hb2
   have hbx:=hbel.size
   have bx2:=bx.of_block (hb2.block _ bx.lt)
   have by2:=by1.of_block (hb2.block _ by1.lt)
   obtain ⟨ar,cr,rfl,_⟩:=id sr
   have k1:=bx2.cell1
   have k2:=by2.cell1
   have f1:=bx2.frozen 1
   have f2:=by2.frozen 1
   have HI2:Hid (GcdInv N ys rs):=by
    obtain ⟨g1,g2,g3,g4,g5⟩:=HI.out
    refine ⟨g2,nr,g4,?_,?_⟩
    ·rw [er]
     exact Nat.lt_trans (Nat.mod_lt _ (Nat.pos_of_ne_zero (fun e => Hyne.out ((g2.val_zero (by decide)).1 e)))) g4
    ·rw [er,← g5,Nat.gcd_comm,← Nat.gcd_rec,Nat.gcd_comm]
   have hlt:Hid (val 1000000000 rs < val 1000000000 ys):=by
    show _ < _
    rw [er]
    exact Nat.mod_lt _ (Nat.pos_of_ne_zero (fun e => Hyne.out ((HI.out.2.1.val_zero (by decide)).1 e)))
   have hbel2:Below w.heap.size w w2:=hbel.trans (hb2.mono hbel.size)
   obtain ⟨W3,hW3⟩:∃ W3,W3=(w2.setCell ⟨w1.heap.size,1,none⟩ (.slice ab ys.length cb)).setCell ⟨w1.heap.size+1,1,none⟩ (.slice ar rs.length cr):=⟨_,rfl⟩
   have HW3:=Lib.hid hW3
   have d0:Boxed2 (w2.setCell ⟨w1.heap.size,1,none⟩ (.slice ab ys.length cb)) w1.heap.size 148 (.bool na) (.slice ab ys.length cb):=bx2.set1 _
   have d1:Boxed2 (w2.setCell ⟨w1.heap.size,1,none⟩ (.slice ab ys.length cb)) (w1.heap.size+1) 148 (.bool nb) (.slice ab ys.length cb):=by2.of_block (Below.heap_setCell _ _ _ _ (by simp))
   have e0:Boxed2 W3 w1.heap.size 148 (.bool na) (.slice ab ys.length cb):=by rw [hW3];exact d0.of_block (Below.heap_setCell _ _ _ _ (by simp))
   have e1:Boxed2 W3 (w1.heap.size+1) 148 (.bool nb) (.slice ar rs.length cr):=by rw [hW3];exact d1.set1 _
   have t1:=sl_keep_box (W':=w2.setCell ⟨w1.heap.size,1,none⟩ (.slice ab ys.length cb)) sb2 bx2 (fun j hj => Below.heap_setCell _ _ _ _ hj)
   have t2:=sl_keep_box (W':=w2.setCell ⟨w1.heap.size,1,none⟩ (.slice ab ys.length cb)) sr bx2 (fun j hj => Below.heap_setCell _ _ _ _ hj)
   have t3:=sl_keep_box (W':=W3) t1 d1 (fun j hj => by rw [hW3];exact Below.heap_setCell _ _ _ _ hj)
   have t4:=sl_keep_box (W':=W3) t2 d1 (fun j hj => by rw [hW3];exact Below.heap_setCell _ _ _ _ hj)
   have hbel3:Below w.heap.size w W3:=by
    rw [hW3]
    exact (hbel2.setCell (p:=⟨w1.heap.size,1,none⟩) (by simp;omega) _).setCell (p:=⟨w1.heap.size+1,1,none⟩) (by simp;omega) _
   have HE:=Lib.hid (And.intro e0 (And.intro e1 (And.intro t3 (And.intro t4 hbel3))))
   clear hW3 d0 d1 e0 e1 t1 t2 t3 t4 hbel3 hbel2 bx2 by2 sb2 sr sq eq er nq nr hb2 hbel sa sb bx by1 cx cy HD
   go_wp2
   rw [← HW3.out]
   go_roundg (val 1000000000 rs)
   case measure => rw [← Hk.out];exact hlt.out
   case rel => exact ⟨ys,rs,ab,ar,cb,cr,rfl,HE.out.1,HE.out.2.1,HE.out.2.2.1,HE.out.2.2.2.1,HI2,HE.out.2.2.2.2⟩
  ·have hy0:ys=[]:=List.eq_nil_of_length_eq_zero (by omega)
   have hval:val 1000000000 xs=N:=by
    have e:=HI.out.2.2.2.2
    rw [hy0] at e
    simpa [val] using e
   have Hval:=Lib.hid hval
   have HWr:=Lib.hid (fun W (hS:Sl W (.slice aa xs.length ca) 1 xs.length (nums .u32 xs)) => write_any false _ xs W hS HI.out.1 (by have:=grp_len HI.out.1 HI.out.2.2.1;omega))
   clear hy0 hval
   go_wp2_with fail
   refine (HWr.out _ sa).mono ?_
   rintro e w2 ⟨t,rfl,ht,hb2⟩
   rw [Hval.out] at ht ⊢
   obtain ⟨z1,z2⟩:=wErr_zero HNlt.out false
   rw [z2] at ht
   rw [z1]
   have Ht:=Lib.hid ht
   have hbel2:Below w.heap.size w w2:=hbel.trans (hb2.mono hbel.size)
   clear z1 z2 ht hb2 hbel
   go_wp2
   go_ret2
   exact ⟨t,rfl,by rw [HN.out];exact Ht.out,hbel2⟩
end Go.Proofs.YthdeijdimfjceaaGreatDoor

namespace Go.Proofs.YthdeijdimfjceaaGreatDoor
open Go.RowKit
def RatPost (w:World) (v:Int) (e:Ending) (w':World):Prop:=e = .returned (.int .i64 v)∧Below w.heap.size w w'
set_option maxHeartbeats 1000000 in
set_option maxRecDepth 100000 in
theorem rat_none (s:ByteArray) (w:World) (hl:s.size≤4611686018427387904) (h:slashI s = -1) :
  Calls Tryz.prog 36 #[.string s] w (RatPost w (ratErr s)):=by
 have e:ratErr s=intErr (bl s):=by rw [ratErr,if_pos h]
 have C1:=Lib.hid (fun W => split_none s W h)
 have C2:=Lib.hid (fun W => form_any s W (by omega))
 have C3:=Lib.hid (fun W => check_any s W (by omega))
 rw [e]
 have Hn:=Lib.hid (intErr_of_not (l:=bl s))
 have Hc:=Lib.hid (intErr_of (l:=bl s))
 clear e h hl
 by_cases hc:canonI (bl s)=true
 ·have f0:formErr (bl s)=0:=by rw [formErr,if_pos hc]
  have Hf:=Lib.hid f0
  by_cases h0:intErr (bl s)=0
  ·have Hi:=Lib.hid h0
   clear hc f0 h0
   rw [Hi.out]
   go_enter Tryz.func36,Tryz.ntmps36
   go_wp2_with fail
   refine (C1.out _).mono ?_
   rintro e w' ⟨rfl,n,rfl⟩
   go_wp2_with fail
   refine (C2.out _).mono ?_
   rintro e w' ⟨rfl,rfl⟩
   rw [Hf.out]
   go_wp2_with fail
   refine (C3.out _).mono ?_
   rintro e w' ⟨rfl,rfl⟩
   rw [Hi.out]
   go_wp2
   go_ret
   exact ⟨rfl,below_drewN (Below.refl _ _) _⟩
  ·have Hi:=Lib.hid (intErr_of hc h0)
   clear hc f0 h0
   rw [Hi.out]
   go_enter Tryz.func36,Tryz.ntmps36
   go_wp2_with fail
   refine (C1.out _).mono ?_
   rintro e w' ⟨rfl,n,rfl⟩
   go_wp2_with fail
   refine (C2.out _).mono ?_
   rintro e w' ⟨rfl,rfl⟩
   rw [Hf.out]
   go_wp2_with fail
   refine (C3.out _).mono ?_
   rintro e w' ⟨rfl,rfl⟩
   rw [Hi.out]
   go_wp2
   go_ret
   exact ⟨rfl,below_drewN (Below.refl _ _) _⟩
 ·have hc':canonI (bl s)=false:=by simpa using hc
  have Hf:Hid (formErr (bl s)=12):=by show _=_;rw [formErr,if_neg hc]
  have Hi:=Lib.hid (intErr_of_not hc')
  clear hc hc'
  rw [Hi.out]
  go_enter Tryz.func36,Tryz.ntmps36
  go_wp2_with fail
  refine (C1.out _).mono ?_
  rintro e w' ⟨rfl,n,rfl⟩
  go_wp2_with fail
  refine (C2.out _).mono ?_
  rintro e w' ⟨rfl,rfl⟩
  rw [Hf.out]
  go_wp2
  go_ret
  exact ⟨rfl,below_drewN (Below.refl _ _) _⟩
end Go.Proofs.YthdeijdimfjceaaGreatDoor

namespace Go.Proofs.YthdeijdimfjceaaGreatDoor
open Go.RowKit
theorem canonI_pos {b:ByteArray} (h:canonI (bl b)=true):0 < b.size:=by
 rcases Nat.eq_zero_or_pos b.size with h0 | h0
 ·have e:bl b=[]:=List.eq_nil_of_length_eq_zero (by rw [bl_length];exact h0)
  rw [e] at h
  exact absurd h (by decide)
 ·exact h0
theorem ne_lit {b:ByteArray} {x:UInt8} (h:bl b ≠ [x]):(b.toList == [x])=false:=by
 rw [Lib.toList_data];show (bl b == [x])=false;simpa using h
theorem eq_lit {b:ByteArray} {x:UInt8} (h:bl b=[x]):b=⟨#[x]⟩:=bl_inj h
theorem lit_yes {b:ByteArray} {x:UInt8} (h:bl b=[x]):(b.toList == [x])=true:=by
 rw [Lib.toList_data];show (bl b == [x])=true;rw [h];exact beq_self_eq_true _
theorem head_45 {b:ByteArray} (hcb:canonI (bl b)=true):∃ (hp:0 < b.size) (c:UInt8),b[0]=c∧((bl b).head? = some 45→((c.toNat:Int) == 45)=true)∧((bl b).head? ≠ some 45→((c.toNat:Int) == 45)=false):=by
 have hp:=canonI_pos hcb
 refine ⟨hp,_,rfl,fun h => ?_,fun h => ?_⟩
 ·rw [bl_cons b hp] at h
  have:b[0]=45:=by simpa using h
  rw [this];rfl
 ·rw [bl_cons b hp] at h
  simpa using fun hh:(b[0].toNat:Int)=45 => h (by rw [show b[0]=45 from UInt8.toNat_inj.1 (by simpa using (by omega:b[0].toNat=45):b[0].toNat=(45:UInt8).toNat)];rfl)
set_option maxHeartbeats 4000000 in
set_option maxRecDepth 100000 in
theorem frac_any (s a b:ByteArray) (w:World) (HS:Hid (∀ W,Calls Tryz.prog 67 #[.string s] W (CutPost W a b true))) (ha:a.size≤4611686018427387904) (hb:b.size≤4611686018427387904) :
  Calls Tryz.prog 36 #[.string s] w (RatPost w (fracErr (bl a) (bl b))):=by
 have FA:=Lib.hid (fun W => form_any a W (by omega))
 have FB:=Lib.hid (fun W => form_any b W (by omega))
 have CA:=Lib.hid (fun W => check_any a W (by omega))
 have CB:=Lib.hid (fun W => check_any b W (by omega))
 have GC:=Lib.hid (fun hi hj W => gcd_ok a b W (by omega) (by omega) hi hj)
 obtain ⟨R,hR⟩:∃ R,R=fracErr (bl a) (bl b):=⟨_,rfl⟩
 rw [← hR]
 unfold fracErr at hR
 clear ha hb
 go_enter Tryz.func36,Tryz.ntmps36
 have HR:=Lib.hid hR
 clear hR
 go_wp2_with fail
 refine (HS.out _).mono ?_
 rintro e w' ⟨rfl,n,rfl⟩
 have HB:=Lib.hid (below_drewN (Below.refl w.heap.size w) n)
 clear HS
 go_wp2_with fail
 refine (FA.out _).mono ?_
 rintro e w' ⟨rfl,rfl⟩
 clear FA
 by_cases hca:canonI (bl a)=false
 ·rw [if_pos hca] at HR
  rw [show formErr (bl a)=12 by rw [formErr,if_neg (by simp [hca])]]
  clear hca
  go_wp2
  go_ret
  exact ⟨by rw [HR.out];rfl,HB.out⟩
 rw [if_neg hca] at HR
 rw [show formErr (bl a)=0 by rw [formErr,if_pos (by simpa using hca)]]
 go_wp2_with fail
 refine (FB.out _).mono ?_
 rintro e w' ⟨rfl,rfl⟩
 clear FB
 by_cases hcb:canonI (bl b)=false
 ·rw [if_pos hcb] at HR
  rw [show formErr (bl b)=12 by rw [formErr,if_neg (by simp [hcb])]]
  clear hcb hca
  go_wp2
  go_ret
  exact ⟨by rw [HR.out];rfl,HB.out⟩
 rw [if_neg hcb] at HR
 rw [show formErr (bl b)=0 by rw [formErr,if_pos (by simpa using hcb)]]
 obtain ⟨hp,c,hc,h4y,h4n⟩:=head_45 (b:=b) (by simpa using hcb)
 have HcA:Hid (canonI (bl a)=true):=Lib.hid (by simpa using hca)
 have HcB:Hid (canonI (bl b)=true):=Lib.hid (by simpa using hcb)
 clear hca hcb
 by_cases h45:(bl b).head? = some 45
 ·rw [if_pos h45] at HR
  have h4:=h4y h45
  clear h45 h4y h4n
  go_wp2
  go_ret
  exact ⟨by rw [HR.out];rfl,HB.out⟩
 rw [if_neg h45] at HR
 have h4:=h4n h45
 clear h45 h4y h4n
 by_cases h0:bl b=[48]
 ·rw [if_pos h0] at HR
  have n0:=lit_yes h0
  clear h0
  go_wp2
  go_ret
  exact ⟨by rw [HR.out];rfl,HB.out⟩
 rw [if_neg h0] at HR
 have n0:=ne_lit h0
 clear h0
 by_cases h1:bl b=[49]
 ·rw [if_pos h1] at HR
  have n1:=lit_yes h1
  clear h1
  go_wp2
  go_ret
  exact ⟨by rw [HR.out];rfl,HB.out⟩
 rw [if_neg h1] at HR
 have n1:=ne_lit h1
 clear h1
 go_wp2_with fail
 refine (CA.out _).mono ?_
 rintro e w' ⟨rfl,rfl⟩
 by_cases hi:intErr (bl a)=0
 rotate_left
 ·have E:Hid (R=14):=Lib.hid (by rw [HR.out,if_pos hi])
  rw [intErr_of HcA.out hi]
  clear hi
  go_wp2
  go_ret
  exact ⟨by rw [E.out];rfl,HB.out⟩
 have Hi:=Lib.hid hi
 rw [hi]
 clear hi
 go_wp2_with fail
 refine (CB.out _).mono ?_
 rintro e w' ⟨rfl,rfl⟩
 by_cases hj:intErr (bl b)=0
 rotate_left
 ·have E:Hid (R=14):=Lib.hid (by rw [HR.out,if_neg (by rw [Hi.out];simp),if_pos hj])
  rw [intErr_of HcB.out hj]
  clear hj
  go_wp2
  go_ret
  exact ⟨by rw [E.out];rfl,HB.out⟩
 have HC:=Lib.hid (GC.out Hi.out hj)
 have Hj:=Lib.hid hj
 rw [hj]
 clear hj GC
 go_wp2_with fail
 refine (HC.out _).mono ?_
 rintro e w' ⟨t,rfl,ht,hbel⟩
 replace HB:=Lib.hid (HB.out.trans (hbel.mono HB.out.size))
 replace HR:Hid (R=if Nat.gcd (dval (body (bl a))) (dval (body (bl b)))=1 then 0 else 12):=Lib.hid (by rw [HR.out,if_neg (by rw [Hi.out];simp),if_neg (by rw [Hj.out];simp)])
 clear hbel HC
 by_cases hg:Nat.gcd (dval (body (bl a))) (dval (body (bl b)))=1
 ·have nt:=lit_yes (b:=t) (x:=49) (by rw [ht];exact (istr_one _).2 hg)
  replace HR:=Lib.hid (HR.out.trans (if_pos hg))
  clear ht hg
  go_wp2
  go_ret
  exact ⟨by rw [HR.out];rfl,HB.out⟩
 ·have nt:=ne_lit (b:=t) (x:=49) (by rw [ht];exact fun e => hg ((istr_one _).1 e))
  replace HR:=Lib.hid (HR.out.trans (if_neg hg))
  clear ht hg
  go_wp2
  go_ret
  exact ⟨by rw [HR.out];rfl,HB.out⟩
theorem rat_any (s:ByteArray) (w:World) (hs:s.size≤4611686018427387904) :
  Calls Tryz.prog 36 #[.string s] w (RatPost w (ratErr s)):=by
 rcases slash_cases s with h | ⟨o,h,ho⟩
 ·exact rat_none s w hs h
 ·have e:ratErr s=fracErr (bl (s.extract 0 o)) (bl (s.extract (o+1) s.size)):=by
   rw [ratErr,if_neg (by rw [h];omega),h,bl_drop,bl_extract]
   rfl
  rw [e]
  refine frac_any s _ _ w (Lib.hid (fun W => split_some s W o h ho hs)) ?_ ?_
  ·rw [← bl_length,bl_extract,List.length_take];omega
  ·rw [← bl_length,bl_drop,List.length_drop,bl_length];omega
end Go.Proofs.YthdeijdimfjceaaGreatDoor

namespace Go.Proofs.YthdeijdimfjceaaGreatDoor
open Go.RowKit
structure Fx where
 nm:ByteArray
 d:Int
 vl:ByteArray
structure Ch where
 pt:ByteArray
 nm:ByteArray
 d:Int
 first:Bool
def Fx.val (f:Fx):Value:=fxV f.nm f.d f.vl
def Ch.val (c:Ch):Value:=chV c.pt c.nm c.d c.first
def Fx.cells (f:Fx):List Value:=[.string f.nm,.int .i64 f.d,.string f.vl]
def Ch.cells (c:Ch):List Value:=[.string c.pt,.string c.nm,.int .i64 c.d,.bool c.first]
theorem Rd.fx {w:World} {ad:Option Addr} {l:List Fx} (h:Rd Fx.cells 3 w ad l) {j:Nat} {f:Fx} (hj:l[j]? = some f) :
  ∃ b off,ad=some ⟨b,off,none⟩∧w.cell? ⟨b,off+j * 3,none⟩=some (.string f.nm)∧w.cell? ⟨b,off+j * 3+1,none⟩=some (.int .i64 f.d)∧w.cell? ⟨b,off+j * 3+2,none⟩=some (.string f.vl):=by
 obtain ⟨b,off,rfl,h3⟩:=h j f hj
 exact ⟨b,off,rfl,h3 0 _ rfl,h3 1 _ rfl,h3 2 _ rfl⟩
theorem Rd.ch {w:World} {ad:Option Addr} {l:List Ch} (h:Rd Ch.cells 4 w ad l) {j:Nat} {f:Ch} (hj:l[j]? = some f) :
  ∃ b off,ad=some ⟨b,off,none⟩∧w.cell? ⟨b,off+j * 4,none⟩=some (.string f.pt)∧w.cell? ⟨b,off+j * 4+1,none⟩=some (.string f.nm)∧w.cell? ⟨b,off+j * 4+2,none⟩=some (.int .i64 f.d)∧w.cell? ⟨b,off+j * 4+3,none⟩=some (.bool f.first):=by
 obtain ⟨b,off,rfl,h3⟩:=h j f hj
 exact ⟨b,off,rfl,h3 0 _ rfl,h3 1 _ rfl,h3 2 _ rfl,h3 3 _ rfl⟩
def fxBad (f:Fx):Bool:=!(isNm (bl f.nm) && (isDay f.d && decide (ratErr f.vl=0)))
def chBad (c:Ch):Bool:=!(isNm (bl c.pt) && (isNm (bl c.nm) && isDay c.d))
set_option maxHeartbeats 1000000 in
set_option maxRecDepth 100000 in
theorem fixCl_any (f:Fx) (w:World) (h1:f.nm.size≤1100000) (h2:f.vl.size≤1100000) :
  Calls Tryz.prog 57 #[f.val] w fun e w' => e = .returned (.bool (fxBad f))∧Below w.heap.size w w':=by
 have HN:=Lib.hid (fun W => name_any f.nm W (by omega))
 have HW:=Lib.hid (fun W => within_any f.d W)
 have HR:=Lib.hid (fun W => rat_any f.vl W (by omega))
 unfold Fx.val fxV fxBad
 obtain ⟨nm,d,vl⟩:=f
 dsimp only at HN HW HR ⊢
 clear h1 h2
 generalize isNm (bl nm)=a at HN ⊢
 generalize isDay d=b at HW ⊢
 generalize ratErr vl=E at HR ⊢
 cases a with
 | false =>
  go_enter Tryz.func57,Tryz.ntmps57
  go_wp2_with (go_at_call 35;refine (HN.out _).mono ?_;rintro e w' ⟨rfl,rfl⟩)
  go_ret
  exact ⟨rfl,below_a1 _ _⟩
 | true =>
  cases b with
  | false =>
   go_enter Tryz.func57,Tryz.ntmps57
   go_wp2_with (first | (go_at_call 35;refine (HN.out _).mono ?_;rintro e w' ⟨rfl,rfl⟩) | (go_at_call 58;refine (HW.out _).mono ?_;rintro e w' ⟨rfl,rfl⟩))
   go_ret
   exact ⟨rfl,below_a1 _ _⟩
  | true =>
   have HE:Hid (decide (E=0) = !(E != 0)):=by show _=_;rw [Bool.eq_iff_iff];simp
   go_enter Tryz.func57,Tryz.ntmps57
   go_wp2_with (first | (go_at_call 35;refine (HN.out _).mono ?_;rintro e w' ⟨rfl,rfl⟩) | (go_at_call 58;refine (HW.out _).mono ?_;rintro e w' ⟨rfl,rfl⟩) | (go_at_call 36;refine (HR.out _).mono ?_;rintro e w1 ⟨rfl,hb1⟩))
   go_ret
   refine ⟨ret_bool' ?_,(below_a1 _ _).trans (hb1.mono (by simp))⟩
   rw [HE.out];simp
set_option maxHeartbeats 1000000 in
set_option maxRecDepth 100000 in
theorem pickCl_any (c:Ch) (w:World) (h1:c.pt.size≤1100000) (h2:c.nm.size≤1100000) :
  Calls Tryz.prog 59 #[c.val] w fun e w' => e = .returned (.bool (chBad c))∧Below w.heap.size w w':=by
 have HP:=Lib.hid (fun W => name_any c.pt W (by omega))
 have HN:=Lib.hid (fun W => name_any c.nm W (by omega))
 have HW:=Lib.hid (fun W => within_any c.d W)
 unfold Ch.val chV chBad
 obtain ⟨pt,nm,d,first⟩:=c
 dsimp only at HN HW HP ⊢
 clear h1 h2
 generalize isNm (bl pt)=a0 at HP ⊢
 generalize isNm (bl nm)=a at HN ⊢
 generalize isDay d=b at HW ⊢
 cases a0 with
 | false =>
  go_enter Tryz.func59,Tryz.ntmps59
  go_wp2_with (go_at_call 35;refine (HP.out _).mono ?_;rintro e w' ⟨rfl,rfl⟩)
  go_ret
  exact ⟨rfl,below_a1 _ _⟩
 | true =>
  cases a with
  | false =>
   go_enter Tryz.func59,Tryz.ntmps59
   go_wp2_with fail
   refine (HP.out _).mono ?_
   rintro e w' ⟨rfl,rfl⟩
   go_wp2_with fail
   refine (HN.out _).mono ?_
   rintro e w' ⟨rfl,rfl⟩
   go_wp2
   go_ret
   exact ⟨rfl,below_a1 _ _⟩
  | true =>
   go_enter Tryz.func59,Tryz.ntmps59
   go_wp2_with fail
   refine (HP.out _).mono ?_
   rintro e w' ⟨rfl,rfl⟩
   go_wp2_with fail
   refine (HN.out _).mono ?_
   rintro e w' ⟨rfl,rfl⟩
   go_wp2_with (go_at_call 58;refine (HW.out _).mono ?_;rintro e w' ⟨rfl,rfl⟩)
   go_ret
   refine ⟨ret_bool' ?_,below_a1 _ _⟩
   simp
end Go.Proofs.YthdeijdimfjceaaGreatDoor
