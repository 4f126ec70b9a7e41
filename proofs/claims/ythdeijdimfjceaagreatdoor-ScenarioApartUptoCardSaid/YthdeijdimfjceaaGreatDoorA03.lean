/- A part. -/
import Derived.Test.YthdeijdimfjceaaGreatDoorA02
namespace Go.Proofs.YthdeijdimfjceaaGreatDoor
def formErr (l:List UInt8):Int:=if canonI l then 0 else 12
def fracErr (n d:List UInt8):Int :=
 if canonI n=false then 12 else if canonI d=false then 12 else if d.head? = some 45 then 12 else if d=[48] then 12 else if d=[49] then 12
 else if intErr n ≠ 0 then 14 else if intErr d ≠ 0 then 14 else if Nat.gcd (dval (body n)) (dval (body d))=1 then 0 else 12
def ratErr (s:ByteArray):Int:=if slashI s = -1 then intErr (bl s) else fracErr ((bl s).take (slashI s).toNat) ((bl s).drop ((slashI s).toNat+1))
theorem intErr_of_not {l:List UInt8} (h:canonI l=false):intErr l=12:=by rw [intErr,if_neg (by rw [h];simp)]
theorem intErr_of {l:List UInt8} (h:canonI l=true) (h0:intErr l ≠ 0):intErr l=14:=by
 rw [intErr,if_pos h] at h0 ⊢
 by_cases hb:1000 < (body l).length
 ·rw [if_pos hb]
 ·rw [if_neg hb] at h0;exact absurd rfl h0
theorem istr_one (n:Nat):istr false n=[49] ↔ n=1:=by
 constructor
 ·intro h
  unfold istr at h
  by_cases h0:n=0
  ·rw [if_pos h0] at h;simp at h
  ·rw [if_neg h0] at h
   simp only [Bool.false_eq_true,if_false,List.nil_append] at h
   have hl:=congrArg List.length h
   simp [asc] at hl
   match hd:dig10 n,hl with
   | [x],_ =>
    rw [hd] at h
    simp [asc] at h
    have hx:x < 10:=(dig10_nrm n).1 x (by rw [hd];simp)
    have hv:=dig10_val n
    rw [hd] at hv
    simp [val] at hv
    have e:=congrArg UInt8.toNat h
    rw [UInt8.toNat_add,UInt8.toNat_ofNat'] at e
    have e48:(48:UInt8).toNat=48:=rfl
    have e49:(49:UInt8).toNat=49:=rfl
    rw [e48,e49] at e
    omega
 ·rintro rfl;rfl
end Go.Proofs.YthdeijdimfjceaaGreatDoor

namespace Go.Proofs.YthdeijdimfjceaaGreatDoor
open Go.RowKit
set_option maxHeartbeats 1000000 in
set_option maxRecDepth 100000 in
theorem check_empty (s:ByteArray) (w:World) (_hl:s.size≤9223372036854775807) (h0:s.size=0) :
  Calls Tryz.prog 69 #[.string s] w fun e w' => e = .returned (.int .i64 (intErr (bl s)))∧w=w':=by
 have HF:Hid (intErr (bl s)=12):=by
  have:bl s=[]:=List.eq_nil_of_length_eq_zero (by rw [bl_length];exact h0)
  rw [this];rfl
 have h1:s.toList=[]:=by rw [Lib.toList_data];exact List.eq_nil_of_length_eq_zero (by rw [← bl_length] at h0;exact h0)
 have h2 : ¬ 0 < s.size:=by omega
 clear h0
 go_enter Tryz.func69,Tryz.ntmps69
 go_wp2
 go_ret
 exact ⟨ret_int' HF.out.symm,rfl⟩
set_option maxHeartbeats 1000000 in
set_option maxRecDepth 100000 in
theorem check_zero (s:ByteArray) (w:World) (hl:s.size≤9223372036854775807) (h1:1 < s.size) (h0:s[0]=48) :
  Calls Tryz.prog 69 #[.string s] w fun e w' => e = .returned (.int .i64 (intErr (bl s)))∧w=w':=by
 have HF:Hid (intErr (bl s)=12):=by
  have e:=bl_cons s (by omega)
  rw [h0] at e
  have hn:(bl s).tail ≠ []:=fun hh => by have:=congrArg List.length e;rw [hh,bl_length] at this;simp at this;omega
  rw [e]
  cases ht:(bl s).tail with
  | nil => exact absurd ht hn
  | cons a b => show _=_;simp [intErr,canonI,body,isNeg,canonD]
 have h2:s.toList.isEmpty=false:=toList_ne s (by omega)
 have h4:(0:Nat) < s.size:=by omega
 go_enter Tryz.func69,Tryz.ntmps69
 go_wp2
 go_ret
 exact ⟨ret_int' HF.out.symm,rfl⟩
set_option maxHeartbeats 1000000 in
set_option maxRecDepth 100000 in
theorem check_digits (s:ByteArray) (w:World) (hl:s.size≤9223372036854775807) (h1:0 < s.size) (hm:s[0] ≠ 45) (h0:s[0] ≠ 48∨s.size=1) :
  Calls Tryz.prog 69 #[.string s] w fun e w' => e = .returned (.int .i64 (intErr (bl s)))∧w=w':=by
 have HC:Hid (intErr (bl s)=if (bl s).all isDig=true then (if 1000 < s.size then 14 else 0) else 12):=by
  show _=_
  have e:=bl_cons s h1
  rw [intErr_pos (by rw [e];simpa using hm),canonD,← bl_length]
  have a1:(bl s).isEmpty=false:=by rw [e];rfl
  have a2:((bl s).head? == some 48 && (decide (1 < (bl s).length) || false))=false:=by
   rcases h0 with h0 | h0
   ·rw [e];simp;intro hh;exact absurd hh h0
   ·rw [bl_length,h0];simp
  rw [a1,a2];simp
 obtain ⟨c0,hc0⟩:∃ c,s[0]=c:=⟨_,rfl⟩
 have hm1:((c0.toNat:Int) == 45)=false:=by rw [hc0] at hm;simpa using fun hh:(c0.toNat:Int)=45 => hm (UInt8.toNat_inj.1 (by simpa using (by omega:c0.toNat=45)))
 have h2:s.toList.isEmpty=false:=toList_ne s h1
 rw [hc0] at h0 hm
 have H0:=Lib.hid h0;clear h0 hm
 have hpre:(((c0.toNat:Int) == 48)=false)∨(((c0.toNat:Int) == 48)=true∧¬ 1 < s.size):=by
  rcases H0.out with h | h
  ·exact .inl (by simpa using fun hh:(c0.toNat:Int)=48 => h (UInt8.toNat_inj.1 (by simpa using (by omega:c0.toNat=48))))
  ·cases hb:((c0.toNat:Int) == 48)
   ·exact .inl rfl
   ·exact .inr ⟨rfl,by omega⟩
 rcases hpre with hp | ⟨hp,hq⟩
 ·go_enter Tryz.func69,Tryz.ntmps69
  go_wp2_with fail
  go_loopw [32] (fun i wr => ∃ k:Nat,k≤s.size∧i = .int .i64 k∧Hid (((bl s).take k).all isDig=true)∧wr=w)
   (fun i _ => s.size - (intOf i).toNat)
  case atStart => exact ⟨0,Nat.zero_le _,rfl,rfl,rfl⟩
  case round =>
   obtain ⟨k,hk,rfl,Hk,rfl⟩:=hrel
   by_cases hlt:k < s.size
   ·obtain ⟨c,hc⟩:∃ c,s[k]=c:=⟨_,rfl⟩
    have hcb:c.toNat < 256:=c.toNat_lt
    have Hcl:=Lib.hid (take_succ_all isDig s k hlt)
    rw [hc] at Hcl
    by_cases h1:c.toNat < 48
    ·have HF:Hid (intErr (bl s)=12):=by
      show _=_
      rw [HC.out,if_neg]
      intro hall
      have:=all_take_of_all isDig (bl s) (k+1) hall
      rw [Hcl.out] at this
      simp [isDig] at this
      omega
     have d1:decide (((c.toNat:Nat):Int) < 48)=true:=by rw [decide_eq_true_eq];omega
     have d1' : ¬ ((48:Int)≤((c.toNat:Nat):Int)):=by omega
     go_wp2
     go_ret
     exact ⟨ret_int' HF.out.symm,rfl⟩
    ·have d1:decide (((c.toNat:Nat):Int) < 48)=false:=by rw [decide_eq_false_iff_not];omega
     by_cases h2:c.toNat≤57
     ·have d2:decide ((57:Int) < ((c.toNat:Nat):Int))=false:=by rw [decide_eq_false_iff_not];omega
      have Hk2:Hid (((bl s).take (k+1)).all isDig=true):=by
       show _=true
       rw [Hcl.out,Hk.out]
       simp [isDig];omega
      clear Hcl Hk
      go_wp2
      go_roundw
      case rel => exact ⟨k+1,by omega,by go_num,Hk2,by trivial⟩
      case measure => simp [intOf];omega
     ·have d2:decide ((57:Int) < ((c.toNat:Nat):Int))=true:=by rw [decide_eq_true_eq];omega
      have d2' : ¬ (((c.toNat:Nat):Int)≤57):=by omega
      have HF:Hid (intErr (bl s)=12):=by
       show _=_
       rw [HC.out,if_neg]
       intro hall
       have:=all_take_of_all isDig (bl s) (k+1) hall
       rw [Hcl.out] at this
       simp [isDig] at this
       omega
      clear Hcl Hk
      go_wp2
      go_ret
      exact ⟨ret_int' HF.out.symm,rfl⟩
   ·obtain rfl:k=s.size:=by omega
    have hall:(bl s).all isDig=true:=by
     have:=Hk.out
     rw [List.take_of_length_le (by rw [bl_length];exact Nat.le_refl _)] at this
     exact this
    have Hall:=Lib.hid hall;clear hall
    by_cases hbig:1000 < s.size
    ·have HF:Hid (intErr (bl s)=14):=by show _=_;rw [HC.out,if_pos Hall.out,if_pos hbig]
     have d3:decide ((1000:Int) < ((s.size:Nat):Int))=true:=by rw [decide_eq_true_eq];omega
     have d3' : ¬ (((s.size:Nat):Int)≤1000):=by omega
     go_wp2
     go_ret
     exact ⟨ret_int' HF.out.symm,rfl⟩
    ·have HF:Hid (intErr (bl s)=0):=by show _=_;rw [HC.out,if_pos Hall.out,if_neg hbig]
     have d3:decide ((1000:Int) < ((s.size:Nat):Int))=false:=by rw [decide_eq_false_iff_not];omega
     go_wp2
     go_ret
     exact ⟨ret_int' HF.out.symm,rfl⟩
 ·go_enter Tryz.func69,Tryz.ntmps69
  go_wp2_with fail
  go_loopw [32] (fun i wr => ∃ k:Nat,k≤s.size∧i = .int .i64 k∧Hid (((bl s).take k).all isDig=true)∧wr=w)
   (fun i _ => s.size - (intOf i).toNat)
  case atStart => exact ⟨0,Nat.zero_le _,rfl,rfl,rfl⟩
  case round =>
   obtain ⟨k,hk,rfl,Hk,rfl⟩:=hrel
   by_cases hlt:k < s.size
   ·obtain ⟨c,hc⟩:∃ c,s[k]=c:=⟨_,rfl⟩
    have hcb:c.toNat < 256:=c.toNat_lt
    have Hcl:=Lib.hid (take_succ_all isDig s k hlt)
    rw [hc] at Hcl
    by_cases h1:c.toNat < 48
    ·have HF:Hid (intErr (bl s)=12):=by
      show _=_
      rw [HC.out,if_neg]
      intro hall
      have:=all_take_of_all isDig (bl s) (k+1) hall
      rw [Hcl.out] at this
      simp [isDig] at this
      omega
     have d1:decide (((c.toNat:Nat):Int) < 48)=true:=by rw [decide_eq_true_eq];omega
     have d1' : ¬ ((48:Int)≤((c.toNat:Nat):Int)):=by omega
     go_wp2
     go_ret
     exact ⟨ret_int' HF.out.symm,rfl⟩
    ·have d1:decide (((c.toNat:Nat):Int) < 48)=false:=by rw [decide_eq_false_iff_not];omega
     by_cases h2:c.toNat≤57
     ·have d2:decide ((57:Int) < ((c.toNat:Nat):Int))=false:=by rw [decide_eq_false_iff_not];omega
      have Hk2:Hid (((bl s).take (k+1)).all isDig=true):=by
       show _=true
       rw [Hcl.out,Hk.out]
       simp [isDig];omega
      clear Hcl Hk
      go_wp2
      go_roundw
      case rel => exact ⟨k+1,by omega,by go_num,Hk2,by trivial⟩
      case measure => simp [intOf];omega
     ·have d2:decide ((57:Int) < ((c.toNat:Nat):Int))=true:=by rw [decide_eq_true_eq];omega
      have d2' : ¬ (((c.toNat:Nat):Int)≤57):=by omega
      have HF:Hid (intErr (bl s)=12):=by
       show _=_
       rw [HC.out,if_neg]
       intro hall
       have:=all_take_of_all isDig (bl s) (k+1) hall
       rw [Hcl.out] at this
       simp [isDig] at this
       omega
      clear Hcl Hk
      go_wp2
      go_ret
      exact ⟨ret_int' HF.out.symm,rfl⟩
   ·obtain rfl:k=s.size:=by omega
    have hall:(bl s).all isDig=true:=by
     have:=Hk.out
     rw [List.take_of_length_le (by rw [bl_length];exact Nat.le_refl _)] at this
     exact this
    have Hall:=Lib.hid hall;clear hall
    by_cases hbig:1000 < s.size
    ·have HF:Hid (intErr (bl s)=14):=by show _=_;rw [HC.out,if_pos Hall.out,if_pos hbig]
     have d3:decide ((1000:Int) < ((s.size:Nat):Int))=true:=by rw [decide_eq_true_eq];omega
     have d3' : ¬ (((s.size:Nat):Int)≤1000):=by omega
     go_wp2
     go_ret
     exact ⟨ret_int' HF.out.symm,rfl⟩
    ·have HF:Hid (intErr (bl s)=0):=by show _=_;rw [HC.out,if_pos Hall.out,if_neg hbig]
     have d3:decide ((1000:Int) < ((s.size:Nat):Int))=false:=by rw [decide_eq_false_iff_not];omega
     go_wp2
     go_ret
     exact ⟨ret_int' HF.out.symm,rfl⟩
set_option maxHeartbeats 1000000 in
set_option maxRecDepth 100000 in
theorem check_neg_bad (s:ByteArray) (w:World) (hl:s.size≤9223372036854775807) (h1:0 < s.size) (hm:s[0]=45) (t:ByteArray) (ht:s.extract 1 s.size=t) (hb:t.size=0∨∃ h:0 < t.size,t[0]=48) :
  Calls Tryz.prog 69 #[.string s] w fun e w' => e = .returned (.int .i64 (intErr (bl s)))∧w=w':=by
 have e:=bl_cons s h1
 have et:=bl_tail s h1
 rw [ht] at et
 have HF:Hid (intErr (bl s)=12):=by
  show _=_
  rw [e,hm,← et,intErr_cons_neg,if_neg]
  rcases hb with hb | ⟨hb,hc⟩
  ·have:bl t=[]:=List.eq_nil_of_length_eq_zero (by rw [bl_length];exact hb)
   rw [this];decide
  ·rw [bl_cons t hb,hc];simp [canonD]
 have hsz:s.size - 1=t.size:=by rw [← bl_length,← bl_length,et];simp
 have hme:t.size≤9223372036854775807:=by omega
 clear e et
 have Hsz:=Lib.hid hsz;clear hsz
 rcases hb with hb | ⟨hb,hc⟩
 ·have h2:t.toList=[]:=by rw [Lib.toList_data];exact List.eq_nil_of_length_eq_zero (by rw [← bl_length] at hb;exact hb)
  have h3:(t.toList == [48])=false:=by rw [h2];rfl
  have h4 : ¬ 0 < t.size:=by omega
  clear hb
  go_enter Tryz.func69,Tryz.ntmps69
  go_wp2
  go_ret
  exact ⟨ret_int' HF.out.symm,rfl⟩
 ·by_cases h5:t.size=1
  ·have h3:(t.toList == [48])=true:=by
    rw [Lib.toList_data]
    have:=bl_cons t hb
    have hn:(bl t).tail=[]:=List.eq_nil_of_length_eq_zero (by rw [List.length_tail,bl_length];omega)
    rw [hn,hc] at this
    show ((bl t) == [48])=true
    rw [this];rfl
   clear h5
   go_enter Tryz.func69,Tryz.ntmps69
   go_wp2
   go_ret
   exact ⟨ret_int' HF.out.symm,rfl⟩
  ·have h2:t.toList.isEmpty=false:=toList_ne t hb
   have h3:(t.toList == [48])=false:=by
    rw [Lib.toList_data,Bool.eq_false_iff]
    intro hh
    have:=congrArg List.length (eq_of_beq hh)
    have h6:(bl t).length=t.size:=bl_length t
    simp [bl] at h6
    simp at this
    omega
   have h6:1 < t.size:=by omega
   clear h5
   go_enter Tryz.func69,Tryz.ntmps69
   go_wp2
   go_ret
   exact ⟨ret_int' HF.out.symm,rfl⟩
set_option maxHeartbeats 1000000 in
set_option maxRecDepth 100000 in
theorem check_neg (s:ByteArray) (w:World) (hl:s.size≤9223372036854775807) (h1:0 < s.size) (hm:s[0]=45) (t:ByteArray) (ht:s.extract 1 s.size=t) (h2:0 < t.size) (h0:t[0] ≠ 48) :
  Calls Tryz.prog 69 #[.string s] w fun e w' => e = .returned (.int .i64 (intErr (bl s)))∧w=w':=by
 have e:=bl_cons s h1
 have et:=bl_tail s h1
 rw [ht] at et
 have HC:Hid (intErr (bl s)=if (bl t).all isDig=true then (if 1000 < t.size then 14 else 0) else 12):=by
  show _=_
  rw [e,hm,← et,intErr_cons_neg,canonD,← bl_length]
  have a1:(bl t).isEmpty=false:=by rw [bl_cons t h2];rfl
  have a2:((bl t).head? == some 48 && (decide (1 < (bl t).length) || true))=false:=by rw [bl_cons t h2];simpa using h0
  rw [a1,a2];simp
 have hsz:s.size - 1=t.size:=by rw [← bl_length,← bl_length,et];simp
 have hme:t.size≤9223372036854775807:=by omega
 clear e et
 have Hsz:=Lib.hid hsz;clear hsz
 obtain ⟨c0,hc0⟩:∃ c,t[0]=c:=⟨_,rfl⟩
 have h5:t.toList.isEmpty=false:=toList_ne t h2
 have h3:(t.toList == [48])=false:=by
  rw [Lib.toList_data,Bool.eq_false_iff]
  intro hh
  have h6:=bl_cons t h2
  have h7:bl t=[48]:=eq_of_beq hh
  rw [h7] at h6
  exact h0 (List.cons.inj h6).1.symm
 rw [hc0] at h0
 have hp:((c0.toNat:Int) == 48)=false:=by simpa using fun hh:(c0.toNat:Int)=48 => h0 (UInt8.toNat_inj.1 (by simpa using (by omega:c0.toNat=48)))
 clear h0
 go_enter Tryz.func69,Tryz.ntmps69
 go_wp2_with fail
 go_loopw [32] (fun i wr => ∃ k:Nat,k≤t.size∧i = .int .i64 k∧Hid (((bl t).take k).all isDig=true)∧wr=w)
  (fun i _ => t.size - (intOf i).toNat)
 case atStart => exact ⟨0,Nat.zero_le _,rfl,rfl,rfl⟩
 case round =>
  obtain ⟨k,hk,rfl,Hk,rfl⟩:=hrel
  by_cases hlt:k < t.size
  ·obtain ⟨c,hc⟩:∃ c,t[k]=c:=⟨_,rfl⟩
   have hcb:c.toNat < 256:=c.toNat_lt
   have Hcl:=Lib.hid (take_succ_all isDig t k hlt)
   rw [hc] at Hcl
   by_cases h1:c.toNat < 48
   ·have HF:Hid (intErr (bl s)=12):=by
     show _=_
     rw [HC.out,if_neg]
     intro hall
     have:=all_take_of_all isDig (bl t) (k+1) hall
     rw [Hcl.out] at this
     simp [isDig] at this
     omega
    have d1:decide (((c.toNat:Nat):Int) < 48)=true:=by rw [decide_eq_true_eq];omega
    have d1' : ¬ ((48:Int)≤((c.toNat:Nat):Int)):=by omega
    go_wp2
    go_ret
    exact ⟨ret_int' HF.out.symm,rfl⟩
   ·have d1:decide (((c.toNat:Nat):Int) < 48)=false:=by rw [decide_eq_false_iff_not];omega
    by_cases h2:c.toNat≤57
    ·have d2:decide ((57:Int) < ((c.toNat:Nat):Int))=false:=by rw [decide_eq_false_iff_not];omega
     have Hk2:Hid (((bl t).take (k+1)).all isDig=true):=by
      show _=true
      rw [Hcl.out,Hk.out]
      simp [isDig];omega
     clear Hcl Hk
     go_wp2
     go_roundw
     case rel => exact ⟨k+1,by omega,by go_num,Hk2,by trivial⟩
     case measure => simp [intOf];omega
    ·have d2:decide ((57:Int) < ((c.toNat:Nat):Int))=true:=by rw [decide_eq_true_eq];omega
     have d2' : ¬ (((c.toNat:Nat):Int)≤57):=by omega
     have HF:Hid (intErr (bl s)=12):=by
      show _=_
      rw [HC.out,if_neg]
      intro hall
      have:=all_take_of_all isDig (bl t) (k+1) hall
      rw [Hcl.out] at this
      simp [isDig] at this
      omega
     clear Hcl Hk
     go_wp2
     go_ret
     exact ⟨ret_int' HF.out.symm,rfl⟩
  ·obtain rfl:k=t.size:=by omega
   have hall:(bl t).all isDig=true:=by
    have:=Hk.out
    rw [List.take_of_length_le (by rw [bl_length];exact Nat.le_refl _)] at this
    exact this
   have Hall:=Lib.hid hall;clear hall
   by_cases hbig:1000 < t.size
   ·have HF:Hid (intErr (bl s)=14):=by show _=_;rw [HC.out,if_pos Hall.out,if_pos hbig]
    have d3:decide ((1000:Int) < ((t.size:Nat):Int))=true:=by rw [decide_eq_true_eq];omega
    have d3' : ¬ (((t.size:Nat):Int)≤1000):=by omega
    go_wp2
    go_ret
    exact ⟨ret_int' HF.out.symm,rfl⟩
   ·have HF:Hid (intErr (bl s)=0):=by show _=_;rw [HC.out,if_pos Hall.out,if_neg hbig]
    have d3:decide ((1000:Int) < ((t.size:Nat):Int))=false:=by rw [decide_eq_false_iff_not];omega
    go_wp2
    go_ret
    exact ⟨ret_int' HF.out.symm,rfl⟩
theorem check_any (s:ByteArray) (w:World) (hl:s.size≤9223372036854775807) :
  Calls Tryz.prog 69 #[.string s] w fun e w' => e = .returned (.int .i64 (intErr (bl s)))∧w=w':=by
 by_cases h1:0 < s.size
 ·by_cases hm:s[0]=45
  ·by_cases h2:0 < (s.extract 1 s.size).size
   ·by_cases h0:(s.extract 1 s.size)[0]=48
    ·exact check_neg_bad s w hl h1 hm _ rfl (.inr ⟨h2,h0⟩)
    ·exact check_neg s w hl h1 hm _ rfl h2 h0
   ·exact check_neg_bad s w hl h1 hm _ rfl (.inl (by omega))
  ·by_cases h0:s[0]=48
   ·by_cases h2:1 < s.size
    ·exact check_zero s w hl h2 h0
    ·exact check_digits s w hl h1 hm (.inr (by omega))
   ·exact check_digits s w hl h1 hm (.inl h0)
 ·exact check_empty s w hl (by omega)
end Go.Proofs.YthdeijdimfjceaaGreatDoor

namespace Go.Proofs.YthdeijdimfjceaaGreatDoor
open Go.RowKit
set_option maxHeartbeats 400000 in
set_option maxRecDepth 100000 in
theorem form_any (s:ByteArray) (w:World) (hl:s.size≤9223372036854775807) :
  Calls Tryz.prog 68 #[.string s] w fun e w' => e = .returned (.int .i64 (formErr (bl s)))∧w=w':=by
 have C:=check_any s w hl
 have HF:Hid (formErr (bl s)=if intErr (bl s)=14 then 0 else intErr (bl s)):=by
  show _=_
  unfold formErr intErr
  split <;> split <;> simp_all
 obtain ⟨E,hE⟩:∃ E,intErr (bl s)=E:=⟨_,rfl⟩
 obtain ⟨F,hF⟩:∃ F,formErr (bl s)=F:=⟨_,rfl⟩
 rw [hE] at C HF
 rw [hF] at HF ⊢
 have HC:=Lib.hid C
 clear C hE hF hl
 by_cases h:E=14
 ·subst h
  have e:F=0:=HF.out
  subst e
  clear HF
  go_enter Tryz.func68,Tryz.ntmps68
  go_wp2_with fail
  refine HC.out.mono ?_
  rintro e w' ⟨rfl,rfl⟩
  go_wp2
  go_ret
  exact ⟨rfl,rfl⟩
 ·have e:F=E:=by have:=HF.out;rw [if_neg h] at this;exact this
  subst e
  clear HF
  have d1:(F != 14)=true:=by simpa using h
  have d2:(F == 14)=false:=by simpa using h
  go_enter Tryz.func68,Tryz.ntmps68
  go_wp2_with fail
  refine HC.out.mono ?_
  rintro e w' ⟨rfl,rfl⟩
  go_wp2
  go_ret
  exact ⟨rfl,rfl⟩
end Go.Proofs.YthdeijdimfjceaaGreatDoor

namespace Go.Proofs.YthdeijdimfjceaaGreatDoor
open Go.RowKit
theorem intErr_zero {l:List UInt8} (h:intErr l=0):canonI l=true∧(body l).length≤1000:=by
 unfold intErr at h
 by_cases hc:canonI l=true
 ·rw [if_pos hc] at h
  by_cases hb:1000 < (body l).length
  ·rw [if_pos hb] at h;omega
  ·exact ⟨hc,by omega⟩
 ·rw [if_neg hc] at h;omega
theorem body_len (l:List UInt8):l.length≤(body l).length+1:=by
 unfold body;split <;> simp;omega
theorem sl_keep_box {w W':World} {v:Value} {k:IntKind} {xs:List Nat} {B:Nat} {t:TypeId} {u:Bool} {a:Option Addr} {n c:Nat} (h:Sl w v 1 xs.length (nums k xs)) (hb:Boxed2 w B t (.bool u) (.slice a n c))
  (hW:∀ j,j ≠ B→W'.heap[j]? = w.heap[j]?):Sl W' v 1 xs.length (nums k xs):=by
 obtain ⟨ad,cap,rfl,h1,h2,h3⟩:=h
 refine ⟨ad,cap,rfl,h1,h2,?_⟩
 rcases h3 with h3 | ⟨b,off,rfl,h3⟩
 ·exact .inl h3
 ·by_cases h0:xs.length=0
  ·exact .inl h0
  ·refine .inr ⟨b,off,rfl,fun j x hj => ?_⟩
   have hne:b ≠ B:=by
    intro e
    subst e
    have e1:=h3 0 _ (nums_at k xs 0 (by omega))
    have e2:w.cell? ⟨b,off+0,none⟩=#[Value.bool u,Value.slice a n c][off+0]?:=by simp [World.cell?,show w.heap[b]? = _ from hb]
    rw [e2] at e1
    match off,e1 with
    | 0,e1 => simp at e1
    | 1,e1 => simp at e1
    | off+2,e1 => simp at e1
   rw [World.cell?_of_block (w:=w) (hW b hne)]
   exact h3 j x hj
def PairErr (w:World) (er:Int) (e:Ending) (w':World):Prop:=e = .returned (.tuple #[.agg #[.bool false,.slice none 0 0],.agg #[.bool false,.slice none 0 0],.int .i64 er])∧Below w.heap.size w w'
set_option maxHeartbeats 1000000 in
set_option maxRecDepth 100000 in
theorem pair_err1 (a b:ByteArray) (w:World) (ha:a.size≤9223372036854775807) (h:intErr (bl a) ≠ 0) :
  Calls Tryz.prog 90 #[.string a,.string b] w (PairErr w (intErr (bl a))):=by
 have C:=fun W => check_any a W ha
 obtain ⟨er,her⟩:∃ er,intErr (bl a)=er:=⟨_,rfl⟩
 rw [her] at h ⊢
 simp only [her] at C
 have HC:=Lib.hid C
 clear C her
 have h1:(er == 0)=false:=by rw [beq_eq_false_iff_ne];exact h
 have h2:(er != 0)=true:=by rw [bne_iff_ne];exact h
 clear h
 go_enter Tryz.func90,Tryz.ntmps90
 go_wp2_with fail
 refine (HC.out _).mono ?_
 rintro e w' ⟨rfl,rfl⟩
 go_wp2_with fail
 go_region
 all_goals (try go_wp2)
 all_goals refine bodyPost_ret (v:=.tuple #[.agg #[.bool false,.slice none 0 0],.agg #[.bool false,.slice none 0 0],.int .i64 er]) (by simp [results,Tryz.results90,go_sem]) rfl ⟨rfl,?_⟩
 all_goals exact (((Below.refl _ _).alloc (Nat.le_refl _) _).alloc (by simp) _).drew
set_option maxHeartbeats 1000000 in
set_option maxRecDepth 100000 in
theorem pair_err2 (a b:ByteArray) (w:World) (ha:a.size≤9223372036854775807) (hb:b.size≤9223372036854775807) (h0:intErr (bl a)=0) (h:intErr (bl b) ≠ 0) :
  Calls Tryz.prog 90 #[.string a,.string b] w (PairErr w (intErr (bl b))):=by
 have CA:=fun W => check_any a W ha
 simp only [h0] at CA
 have C:=fun W => check_any b W hb
 obtain ⟨er,her⟩:∃ er,intErr (bl b)=er:=⟨_,rfl⟩
 rw [her] at h ⊢
 simp only [her] at C
 have HC:=Lib.hid C
 have HCA:=Lib.hid CA
 clear C CA her h0
 have h1:(er == 0)=false:=by rw [beq_eq_false_iff_ne];exact h
 have h2:(er != 0)=true:=by rw [bne_iff_ne];exact h
 clear h
 go_enter Tryz.func90,Tryz.ntmps90
 go_wp2_with fail
 refine (HCA.out _).mono ?_
 rintro e w' ⟨rfl,rfl⟩
 go_wp2_with fail
 refine (HC.out _).mono ?_
 rintro e w' ⟨rfl,rfl⟩
 go_wp2_with fail
 go_region
 all_goals (try go_wp2)
 all_goals refine bodyPost_ret (v:=.tuple #[.agg #[.bool false,.slice none 0 0],.agg #[.bool false,.slice none 0 0],.int .i64 er]) (by simp [results,Tryz.results90,go_sem]) rfl ⟨rfl,?_⟩
 all_goals exact (((Below.refl _ _).alloc (Nat.le_refl _) _).alloc (by simp) _).drew
def PairOk (w:World) (a b:List UInt8) (e:Ending) (w':World):Prop :=
 ∃ va vb xs ys,e = .returned (.tuple #[.agg #[.bool (isNeg a),va],.agg #[.bool (isNeg b),vb],.int .i64 0])∧Sl w' va 1 xs.length (nums .u32 xs)∧Sl w' vb 1 ys.length (nums .u32 ys) ∧
  Nrm 1000000000 xs∧Nrm 1000000000 ys∧val 1000000000 xs=dval (body a)∧val 1000000000 ys=dval (body b)∧Below w.heap.size w w'
set_option maxHeartbeats 1000000 in
set_option maxRecDepth 100000 in
theorem pair_ok (a b:ByteArray) (w:World) (ha:a.size≤9223372036854775807) (hb:b.size≤9223372036854775807) (h0:intErr (bl a)=0) (h:intErr (bl b)=0) :
  Calls Tryz.prog 90 #[.string a,.string b] w (PairOk w (bl a) (bl b)):=by
 have CA:=fun W => check_any a W ha
 simp only [h0] at CA
 have CB:=fun W => check_any b W hb
 simp only [h] at CB
 have HCA:=Lib.hid CA
 have HCB:=Lib.hid CB
 have la:a.size≤100000:=by have:=body_len (bl a);have:=(intErr_zero h0).2;have:=bl_length a;omega
 have lb:b.size≤100000:=by have:=body_len (bl b);have:=(intErr_zero h).2;have:=bl_length b;omega
 have RA:=fun W => read_any a W la (intErr_zero h0).1
 have RB:=fun W => read_any b W lb (intErr_zero h).1
 obtain ⟨na,hna⟩:∃ na,isNeg (bl a)=na:=⟨_,rfl⟩
 obtain ⟨nb,hnb⟩:∃ nb,isNeg (bl b)=nb:=⟨_,rfl⟩
 simp only [hna] at RA
 simp only [hnb] at RB
 have HRA:=Lib.hid RA
 have HRB:=Lib.hid RB
 have Hna:=Lib.hid hna
 have Hnb:=Lib.hid hnb
 clear CA CB RA RB h0 h la lb hna hnb
 go_enter Tryz.func90,Tryz.ntmps90
 go_wp2_with fail
 refine (HCA.out _).mono ?_
 rintro e w' ⟨rfl,rfl⟩
 go_wp2_with fail
 refine (HCB.out _).mono ?_
 rintro e w' ⟨rfl,rfl⟩
 go_wp2_with fail
 obtain ⟨W0,hW0⟩:∃ W0,W0=((w.alloc (.cells #[.bool false,.slice none 0 0] 148)).alloc (.cells #[.bool false,.slice none 0 0] 148)):=⟨_,rfl⟩
 rw [← hW0]
 have hsz:W0.heap.size=w.heap.size+2:=by rw [hW0];simp
 have b0:Boxed2 W0 w.heap.size 148 (.bool false) (.slice none 0 0):=by
  rw [hW0]
  show ((w.heap.push _).push _)[w.heap.size]? = _
  rw [Array.getElem?_push,if_neg (by simp),Array.getElem?_push,if_pos rfl]
 have b1:Boxed2 W0 (w.heap.size+1) 148 (.bool false) (.slice none 0 0):=by
  rw [hW0]
  show ((w.heap.push _).push _)[w.heap.size+1]? = _
  rw [Array.getElem?_push,if_pos (by simp)]
 have hb0:Below w.heap.size w W0:=by rw [hW0];exact ((Below.refl _ _).alloc (Nat.le_refl _) _).alloc (by simp) _
 clear hW0
 refine (HRA.out _).mono ?_
 rintro e w1 ⟨va,xs,rfl,sa,nxs,vxs,hb1⟩
 go_wp2_with fail
 refine (HRB.out _).mono ?_
 rintro e w2 ⟨vb,ys,rfl,sb,nys,vys,hb2⟩
 have sa2:=sa.below hb2
 have c0:=b0.of_block ((hb2.block _ (by have:=hb1.size;omega)).trans (hb1.block _ (by omega)))
 have c1:=b1.of_block ((hb2.block _ (by have:=hb1.size;omega)).trans (hb1.block _ (by omega)))
 obtain ⟨aa,ca,rfl,_⟩:=id sa2
 obtain ⟨ab,cb,rfl,_⟩:=id sb
 have k1:=c0.cell0
 have k2:=c0.cell1
 have k3:=c1.cell0
 have k4:=c1.cell1
 have f1:=c0.frozen 0
 have f2:=c0.frozen 1
 have f3:=c1.frozen 0
 have f4:=c1.frozen 1
 have Hsa:=Lib.hid sa2
 have Hsb:=Lib.hid sb
 clear sa sa2 sb
 go_wp2
 obtain ⟨W3,hW3⟩:∃ W3,W3=(w2.setCell ⟨w.heap.size,0,none⟩ (.bool na)).setCell ⟨w.heap.size,1,none⟩ (.slice aa xs.length ca):=⟨_,rfl⟩
 rw [← hW3]
 have d0:Boxed2 W3 w.heap.size 148 (.bool na) (.slice aa xs.length ca):=by rw [hW3];exact (c0.set0 _).set1 _
 have d1:Boxed2 W3 (w.heap.size+1) 148 (.bool false) (.slice none 0 0):=by
  rw [hW3]
  exact c1.of_block ((Below.heap_setCell _ _ _ _ (by simp)).trans (Below.heap_setCell _ _ _ _ (by simp)))
 have oth3:∀ j,j ≠ w.heap.size→W3.heap[j]? = w2.heap[j]?:=fun j hj => by
  rw [hW3];exact (Below.heap_setCell _ _ _ _ hj).trans (Below.heap_setCell _ _ _ _ hj)
 have ta:=sl_keep_box Hsa.out c0 oth3
 have tb:=sl_keep_box Hsb.out c0 oth3
 obtain ⟨W4,hW4⟩:∃ W4,W4=(W3.setCell ⟨w.heap.size+1,0,none⟩ (.bool nb)).setCell ⟨w.heap.size+1,1,none⟩ (.slice ab ys.length cb):=⟨_,rfl⟩
 rw [← hW4]
 have e1:Boxed2 W4 (w.heap.size+1) 148 (.bool nb) (.slice ab ys.length cb):=by rw [hW4];exact (d1.set0 _).set1 _
 have oth4:∀ j,j ≠ w.heap.size+1→W4.heap[j]? = W3.heap[j]?:=fun j hj => by
  rw [hW4];exact (Below.heap_setCell _ _ _ _ hj).trans (Below.heap_setCell _ _ _ _ hj)
 have e0:Boxed2 W4 w.heap.size 148 (.bool na) (.slice aa xs.length ca):=d0.of_block (oth4 _ (by omega))
 have ta4:=sl_keep_box ta d1 oth4
 have tb4:=sl_keep_box tb d1 oth4
 have hbel:Below w.heap.size w W4:=by
  refine hb0.trans ((hb1.mono (by omega)).trans ((hb2.mono (by have:=hb1.size;omega)).trans ?_))
  rw [hW4,hW3]
  exact ((((Below.refl _ w2).setCell (p:=⟨w.heap.size,0,none⟩) (Nat.le_refl _) _).setCell (p:=⟨w.heap.size,1,none⟩) (Nat.le_refl _) _).setCell (p:=⟨w.heap.size+1,0,none⟩) (by simp) _).setCell (p:=⟨w.heap.size+1,1,none⟩) (by simp) _
 refine bodyPost_ret (v:=.tuple #[.agg #[.bool na,.slice aa xs.length ca],.agg #[.bool nb,.slice ab ys.length cb],.int .i64 0]) (by simp [results,Tryz.results90,go_sem,e0.cell0,e0.cell1,e1.cell0,e1.cell1]) rfl ?_
 exact ⟨_,_,xs,ys,by rw [Hna.out,Hnb.out],ta4,tb4,nxs,nys,vxs,vys,hbel⟩
end Go.Proofs.YthdeijdimfjceaaGreatDoor

namespace Go.Proofs.YthdeijdimfjceaaGreatDoor
open Go.RowKit
def RevInv (ds cur:List Nat) (k:Nat):Prop :=
 cur.length=ds.length∧∀ i,i < ds.length→cur.getD i 0=if i < k∨ds.length≤i+k then ds.getD (ds.length - 1 - i) 0 else ds.getD i 0
theorem RevInv.start (ds:List Nat):RevInv ds ds 0:=⟨rfl,fun i hi => by rw [if_neg (by omega)]⟩
theorem getD_set (l:List Nat) (i j v:Nat) (hi:i < l.length):(l.set i v).getD j 0=if i=j then v else l.getD j 0:=by
 by_cases h:i=j
 ·subst h;simp [List.getD,hi]
 ·rw [if_neg h];simp only [List.getD];rw [List.getElem?_set_ne h]
theorem RevInv.step {ds cur:List Nat} {k:Nat} (h:RevInv ds cur k) (hk:k+k+1 < ds.length) :
  RevInv ds ((cur.set k (cur.getD (ds.length - 1 - k) 0)).set (ds.length - 1 - k) (cur.getD k 0)) (k+1):=by
 obtain ⟨h1,h2⟩:=h
 refine ⟨by simpa using h1,fun i hi => ?_⟩
 rw [getD_set _ _ _ _ (by simp;omega),getD_set _ _ _ _ (by omega)]
 have a1:=h2 k (by omega)
 have a2:=h2 (ds.length - 1 - k) (by omega)
 rw [if_neg (by omega)] at a1 a2
 by_cases c1:ds.length - 1 - k=i
 ·rw [if_pos c1,if_pos (by omega),a1,← c1];congr 1;omega
 ·rw [if_neg c1]
  by_cases c2:k=i
  ·rw [if_pos c2,if_pos (by omega),a2,← c2]
  ·rw [if_neg c2,h2 i hi]
   by_cases c3:i < k∨ds.length≤i+k
   ·rw [if_pos c3,if_pos (by omega)]
   ·rw [if_neg c3,if_neg (by omega)]
theorem RevInv.fin {ds cur:List Nat} {k:Nat} (h:RevInv ds cur k) (hk:ds.length≤k+k+1):cur=ds.reverse:=by
 obtain ⟨h1,h2⟩:=h
 apply List.ext_getElem?
 intro i
 by_cases hi:i < ds.length
 ·have a:=h2 i hi
  have e:ds.reverse[i]? = some (ds.getD (ds.length - 1 - i) 0):=by
   rw [List.getElem?_reverse hi]
   simp [List.getD,show ds.length - 1 - i < ds.length by omega]
  rw [e]
  have e2:cur[i]? = some (cur.getD i 0):=by simp [List.getD,show i < cur.length by omega]
  rw [e2,a]
  by_cases c:i < k∨ds.length≤i+k
  ·rw [if_pos c]
  ·rw [if_neg c]
   have:ds.length - 1 - i=i:=by omega
   rw [this]
 ·rw [List.getElem?_eq_none (by omega),List.getElem?_eq_none (by simp;omega)]
theorem own_shape {w:World} {base size n:Nat} {e:TypeId} {v:Value} {xs:List Value} (h:w.ownsRow base e size v n xs) (hn:0 < n):∃ g cap,v = .slice (some ⟨g,0,none⟩) n cap∧base≤g∧g < w.heap.size∧n≤cap:=by
 rcases h.2 with ⟨_,h0⟩ | ⟨g,cap,cur,rfl,hb,hg,hc,_⟩
 ·omega
 ·exact ⟨g,cap,rfl,hb,(Array.getElem?_eq_some_iff.1 hg).1,hc⟩
theorem grown_trans {a b c:World} {row:Option Nat} (h:a.grownBy b row) (k:b.grownBy c row):a.grownBy c row :=
 ⟨k.os.trans h.os,k.tape.trans h.tape,k.output.trans h.output,Nat.le_trans h.size k.size,fun j hj hr => (k.block j (Nat.lt_of_lt_of_le hj h.size) hr).trans (h.block j hj hr)⟩
theorem grown_drew {a b:World} {row:Option Nat} (h:a.grownBy b row):a.grownBy b.drew row:=⟨h.os,h.tape,h.output,h.size,h.block⟩
set_option maxHeartbeats 1000000 in
set_option maxRecDepth 100000 in
theorem reverse_any (g cap base:Nat) (ds:List Nat) (w:World) (hown:w.ownsRow base 5 1 (.slice (some ⟨g,0,none⟩) ds.length cap) ds.length (nums .u8 ds)) (hl:ds.length≤10000000) :
  Calls Tryz.prog 97 #[.slice (some ⟨g,0,none⟩) ds.length cap] w fun e w' => e = .returned (.tuple #[]) ∧
   w'.ownsRow base 5 1 (.slice (some ⟨g,0,none⟩) ds.length cap) ds.length (nums .u8 ds.reverse)∧w.grownBy w' (some g):=by
 obtain ⟨n,hn⟩:∃ n,ds.length=n:=⟨_,rfl⟩
 have Hn:=Lib.hid hn
 rw [hn] at hown hl ⊢
 clear hn
 go_enter Tryz.func97,Tryz.ntmps97
 go_wp2_with fail
 go_loopw [2,3] (fun i j wr => ∃ (k:Nat) (cur:List Nat),k≤n∧i = .int .i64 k∧j = .int .i64 ((n:Int) - 1 - k) ∧
   wr.ownsRow base 5 1 (.slice (some ⟨g,0,none⟩) n cap) n (nums .u8 cur)∧Hid (RevInv ds cur k)∧Hid (w.grownBy wr (some g)))
  (fun i _ _ => n - (intOf i).toNat)
 case atStart => exact ⟨0,ds,Nat.zero_le _,rfl,by go_num,hown,RevInv.start ds,World.grownBy.refl _ _⟩
 case round =>
  clear hown
  obtain ⟨k,cur,hk,rfl,rfl,hown,Hinv,Hg⟩:=hrel
  have hcl:cur.length=n:=by rw [← Hn.out];exact Hinv.out.1
  have Hcl:=Lib.hid hcl
  by_cases hlt:k+k+1 < n
  ·have c1:=(hown.cellAt k (by omega)).trans (nums_at .u8 cur k (by omega))
   have c2:=(hown.cellAt (n - 1 - k) (by omega)).trans (nums_at .u8 cur (n - 1 - k) (by omega))
   have f1:=hown.frozenAt k
   have f2:=hown.frozenAt (n - 1 - k)
   have HR:=Hinv.out.step (by rw [Hn.out];exact hlt)
   rw [Hn.out] at HR
   obtain ⟨x,hx⟩:∃ x,cur.getD k 0=x:=⟨_,rfl⟩
   obtain ⟨y,hy⟩:∃ y,cur.getD (n - 1 - k) 0=y:=⟨_,rfl⟩
   rw [hx,hy] at HR
   rw [hx] at c1
   rw [hy] at c2
   have hR:=Lib.hid HR
   clear HR hx hy hcl
   have e1:=hown.stored k (.int .u8 (y:Int))
   rw [nums_set] at e1
   have e2:=e1.1.stored (n - 1 - k) (.int .u8 (x:Int))
   rw [nums_set] at e2
   have HE:=Lib.hid (And.intro e2.1 (And.intro e1.2 e2.2))
   clear e1 e2 hown
   have t1:((n:Int) - 1 - (k:Int)).toNat=n - 1 - k:=by omega
   have i1:(0:Int)≤(n:Int) - 1 - (k:Int):=by omega
   have i2:(n:Int) - 1 - (k:Int) < (n:Int):=by omega
   have i3:(k:Int) < (n:Int) - 1 - (k:Int):=by omega
   go_wp2_with fail
   go_region
   all_goals (try go_wp2)
   all_goals go_roundw
   case rel => exact ⟨k+1,_,by omega,by go_num,by go_num,HE.out.1.drew,hR,grown_drew (grown_trans Hg.out (grown_trans HE.out.2.1 HE.out.2.2))⟩
   case measure => simp [intOf];omega
  ·have HF:=Hinv.out.fin (by rw [Hn.out];omega)
   have hF:Hid (wr.ownsRow base 5 1 (.slice (some ⟨g,0,none⟩) n cap) n (nums .u8 ds.reverse)∧w.grownBy wr (some g)):=⟨by rw [← HF];exact hown,Hg.out⟩
   have i3 : ¬ (k:Int) < (n:Int) - 1 - (k:Int):=by omega
   clear HF hown hcl
   go_wp2
   go_end0
   exact ⟨rfl,hF.out.1,hF.out.2⟩
end Go.Proofs.YthdeijdimfjceaaGreatDoor

namespace Go.Proofs.YthdeijdimfjceaaGreatDoor
open Go.RowKit
theorem Tryz.ul_bytes:Tryz.prog.underlying 156=some (.slice 5):=by kernel_rfl
theorem Tryz.ul_u8:Tryz.prog.underlying 5=some (.int .u8):=by kernel_rfl
theorem Tryz.ul_Int:Tryz.prog.underlying 108=some .string:=by kernel_rfl
theorem Tryz.info_u8:(Tryz.prog.info? 5).map (fun i => (i.zero,i.size,i.bytes))=some (some (.int .u8 0),1,1):=by kernel_rfl
def asN (ds:List Nat):List Nat:=ds.map fun d => 48+d
theorem asN_length (ds:List Nat):(asN ds).length=ds.length:=by simp [asN]
theorem asN_take (ds:List Nat) (k:Nat):(asN ds).take k=asN (ds.take k):=by simp [asN]
theorem asN_snoc (ds:List Nat) (d:Nat):asN ds ++ [48+d]=asN (ds ++ [d]):=by simp [asN]
theorem asN_getD (ds:List Nat) (k:Nat) (h:k < ds.length):(asN ds).getD k 0=48+ds.getD k 0:=by simp [asN,List.getD,h]
theorem cells_bytes {w:World} {base g n cap:Nat} {e:TypeId} {ns:List Nat} (h:w.ownsRow base e 1 (.slice (some ⟨g,0,none⟩) n cap) n (nums .u8 ns)) (hn:ns.length=n) (h9:∀ x ∈ ns,x < 256) :
  ∀ j (hj:j < (ns.map UInt8.ofNat).length),w.cell? ((⟨g,0,none⟩:Addr).add j)=some (.int .u8 ((ns.map UInt8.ofNat)[j].toNat:Int)):=by
 intro j hj
 have hj':j < ns.length:=by simpa using hj
 rw [Addr.add_lit,Nat.zero_add,h.cellAt j (by omega),nums_at .u8 ns j hj']
 have hx:=h9 ns[j] (List.getElem_mem hj')
 have e1:(ns.map UInt8.ofNat)[j].toNat=ns[j]:=by
  rw [List.getElem_map]
  show (UInt8.ofNat ns[j]).toNat=_
  rw [UInt8.toNat_ofNat']
  omega
 rw [e1]
 simp [List.getD,hj']
def WritePost (w:World) (neg:Bool) (n:Nat) (e:Ending) (w':World):Prop :=
 ∃ t,e = .returned (.tuple #[.string t,.int .i64 (wErr n)])∧bl t=wStr neg n∧Below w.heap.size w w'
set_option maxHeartbeats 1000000 in
set_option maxRecDepth 100000 in
theorem write_zero (neg:Bool) (v:Value) (w:World) (hv:Sl w v 1 0 (nums .u32 [])) :
  Calls Tryz.prog 91 #[.agg #[.bool neg,v]] w (WritePost w neg 0):=by
 obtain ⟨ad,cap,rfl,h1,_⟩:=hv
 go_enter Tryz.func91,Tryz.ntmps91
 go_wp2
 go_ret2
 exact ⟨_,rfl,rfl,(Below.refl _ _).alloc (Nat.le_refl _) _⟩
def WIn (E:List Nat) (x g j:Nat):Prop:=E.length=j∧Dig 10 E∧val 10 E+10 ^ j * g=x
theorem WIn.step {E:List Nat} {x g j:Nat} (h:WIn E x g j):WIn (E ++ [g % 10]) x (g / 10) (j+1):=by
 obtain ⟨h1,h2,h3⟩:=h
 refine ⟨by simp [h1],h2.snoc (Nat.mod_lt _ (by decide)),?_⟩
 rw [val_snoc,h1,Nat.pow_succ,Nat.mul_assoc,Nat.add_assoc,← Nat.mul_add,Nat.add_comm (g % 10),Nat.div_add_mod]
 exact h3
theorem WIn.fin {E:List Nat} {x g:Nat} (h:WIn E x g 9) (hx:x < 1000000000):E.length=9∧Dig 10 E∧val 10 E=x:=by
 obtain ⟨h1,h2,h3⟩:=h
 refine ⟨h1,h2,?_⟩
 by_cases h0:g=0
 ·subst h0;simpa using h3
 ·have:10 ^ 9 * 1≤10 ^ 9 * g:=Nat.mul_le_mul_left _ (by omega)
  omega
theorem GInv.step {D E:List Nat} {xs:List Nat} {k:Nat} (h:GInv D 1000000000 xs k) (he:E.length=9∧Dig 10 E∧val 10 E=xs.getD k 0):GInv (D ++ E) 1000000000 xs (k+1):=by
 obtain ⟨h1,h2,h3⟩:=h
 refine ⟨by rw [List.length_append,h1,he.1];omega,h2.append he.2.1,?_⟩
 rw [val_append,h3,he.2.2,val_take_succ,h1,show (1000000000:Nat)=10 ^ 9 from rfl,← Nat.pow_mul]
set_option maxHeartbeats 2000000 in
set_option maxRecDepth 100000 in
theorem write_pos (neg:Bool) (v:Value) (xs:List Nat) (w:World) (hv:Sl w v 1 xs.length (nums .u32 xs)) (hx:Nrm 1000000000 xs) (hne:xs ≠ []) (hl:xs.length≤100000) :
  Calls Tryz.prog 91 #[.agg #[.bool neg,v]] w (WritePost w neg (val 1000000000 xs)):=by
 have hpos:0 < xs.length:=List.length_pos_iff.2 hne
 have hv0:val 1000000000 xs ≠ 0:=fun e => hne ((hx.val_zero (by decide)).1 e)
 have Hv0:=Lib.hid hv0
 clear hv0 hne
 have hlen0:((xs.length:Int) == 0)=false:=by rw [beq_eq_false_iff_ne];omega
 obtain ⟨i0,hi,hz0,hz1,hz2⟩:=info_parts Tryz.info_u8
 obtain ⟨ad,cap,rfl,h1,h3⟩:=hv.nums
 obtain ⟨b,off,rfl,hc⟩:=h3.resolve_left (by omega)
 clear h3 hv
 go_enter Tryz.func91,Tryz.ntmps91
 go_wp2_with fail
 obtain ⟨W0,hW0⟩:∃ W0,W0=w.alloc (.cells #[.bool neg,.slice (some ⟨b,off,none⟩) xs.length cap] 148):=⟨_,rfl⟩
 rw [← hW0]
 have hbx:Boxed2 W0 w.heap.size 148 (.bool neg) (.slice (some ⟨b,off,none⟩) xs.length cap):=by rw [hW0];exact heap_alloc_new w _
 have hbel0:Below w.heap.size w W0:=by rw [hW0];exact (Below.refl _ _).alloc (Nat.le_refl _) _
 clear hW0
 go_loopw [4,14] (fun bv i wr => ∃ (k:Nat) (D:List Nat) (adb:Option Addr) (capb:Nat),k≤xs.length∧i = .int .i64 k∧bv = .slice adb D.length capb ∧
   wr.ownsRow w.heap.size 5 1 (.slice adb D.length capb) D.length (nums .u8 (asN D))∧Hid (GInv D 1000000000 xs k) ∧
   Boxed2 wr w.heap.size 148 (.bool neg) (.slice (some ⟨b,off,none⟩) xs.length cap)∧Below w.heap.size w wr)
  (fun _ i _ => xs.length - (intOf i).toNat)
 case atStart => exact ⟨0,[],none,0,Nat.zero_le _,rfl,rfl,World.ownsRow_nil _ _ _ _,⟨rfl,Dig.nil _,by simp [val]⟩,hbx,hbel0⟩
 case round =>
  clear hbx hbel0
  obtain ⟨k,D,adb,capb,hk,rfl,rfl,hown,Hinv,hbx,hbel⟩:=hrel
  by_cases hlt:k < xs.length
  ·have hck:=cell_later hbel (hc k hlt)
   have hx9:=hx.1.at (show 0 < 1000000000 by decide) k
   obtain ⟨x,hxe⟩:∃ x,xs.getD k 0=x:=⟨_,rfl⟩
   rw [hxe] at hck hx9
   have Hx:=Lib.hid hxe
   clear hxe
   have hDl:D.length=9 * k:=Hinv.out.1
   have HDl:=Lib.hid hDl
   have hDb:D.length≤900000:=by omega
   clear hDl
   obtain ⟨wo,hwo⟩:∃ wo:World,wo=wr:=⟨_,rfl⟩
   go_wp2_with fail
   go_loopw [4,6,18] (fun bv g i wr => ∃ (j gg:Nat) (E:List Nat) (adb:Option Addr) (capb:Nat),j≤9∧i = .int .i64 j∧gg < 1000000000∧g = .int .u32 gg∧bv = .slice adb (D ++ E).length capb ∧
     wr.ownsRow w.heap.size 5 1 (.slice adb (D ++ E).length capb) (D ++ E).length (nums .u8 (asN (D ++ E)))∧Hid (WIn E x gg j) ∧
     Boxed2 wr w.heap.size 148 (.bool neg) (.slice (some ⟨b,off,none⟩) xs.length cap)∧Below w.heap.size w wr)
    (fun _ _ i _ => 9 - (intOf i).toNat)
   case atStart => exact ⟨0,x,[],adb,capb,by omega,rfl,hx9,rfl,by rw [List.append_nil],by rw [List.append_nil];exact hown,⟨rfl,Dig.nil _,by simp [val]⟩,hbx,hbel⟩
   case round =>
    clear hown hbx hbel hck
    obtain ⟨j,gg,E,adb,capb,hj,rfl,hgg,rfl,rfl,hown,Hin,hbx,hbel⟩:=hrel
    have hEl:(D ++ E).length=D.length+j:=by rw [List.length_append,Hin.out.1]
    have hDE:(D ++ E).length≤900009:=by omega
    clear hEl
    by_cases hj9:j < 9
    ·have hsz:=hbel.size
     obtain ⟨N,hN⟩:∃ N,(D ++ E).length=N:=⟨_,rfl⟩
     have HN:=Lib.hid hN
     rw [hN] at hown hDE ⊢
     clear hN
     go_wp2_with (at_builtin;refine wpList_append_own _ rfl _ _ 156 rfl w.heap.size 5 i0 (.int .u8 0) 1 1 Tryz.ul_bytes hi hz0 hz1 hz2 rfl (by decide) _ _ _ rfl (hown.alloc _) ⟨wr.heap.size,0,none⟩ 1 1 [_] rfl rfl (cell_one_new _ _ _) (int_oneCell _ _) ?d1 ?d2 ?d3 ?_)
     case d1 => unfold maxLen;omega
     case d2 => omega
     case d3 => simp;omega
     intro v2 w2 hown2 hgrow2 _
     have hbel2:Below w.heap.size w w2:=(hbel.alloc hsz _).grown hgrow2 (by simp;omega) (fun k hk => (hown.lt k hk).1)
     have ed:(48:Int)+(gg:Int) % 10=((48+gg % 10:Nat):Int):=by omega
     rw [ed,nums_snoc,asN_snoc,List.append_assoc] at hown2
     have e1:N+1=(D ++ (E ++ [gg % 10])).length:=by rw [← List.append_assoc,List.length_append,HN.out];rfl
     rw [e1] at hown2
     obtain ⟨ad3,cap3,rfl,_⟩:=Sl.of_owns hown2
     have hbx2:Boxed2 w2 w.heap.size 148 (.bool neg) (.slice (some ⟨b,off,none⟩) xs.length cap):=by
      refine hbx.of_block ((hgrow2.block _ (by have:=hbx.lt;simp;omega) (Ne.symm (own_not_block hown hbx (by decide)))).trans (Below.heap_alloc _ _ _ hbx.lt))
     have HI2:=Lib.hid Hin.out.step
     clear hgrow2 hown hbel hbx e1 ed
     go_wp2
     go_roundw
     case rel => exact ⟨j+1,gg / 10,E ++ [gg % 10],ad3,cap3,by omega,by go_num,by omega,by go_num,rfl,hown2,HI2,hbx2,hbel2⟩
     case measure => simp [intOf];omega
    ·obtain rfl:j=9:=by omega
     have HG:=Lib.hid (Hinv.out.step (by rw [Hx.out];exact Hin.out.fin hx9))
     go_wp2
     go_roundw
     case rel => exact ⟨k+1,D ++ E,adb,capb,by omega,by go_num,rfl,hown,HG,hbx,hbel⟩
     case measure => simp [intOf];omega
  ·obtain rfl:k=xs.length:=by omega
   have hT:val 10 (trimL D)=val 1000000000 xs:=by
    have e:=Hinv.out.2.2
    rw [List.take_of_length_le (Nat.le_refl _)] at e
    rw [trimL_val];exact e
   have hTn:Nrm 10 (trimL D):=trimL_nrm Hinv.out.2.1
   have hTd:dig10 (val 1000000000 xs)=trimL D:=by rw [← hT];exact dig10_of hTn
   have HT:=Lib.hid hTd
   have hTne:0 < (trimL D).length:=by
    rw [← hTd];exact List.length_pos_iff.2 (dig10_ne Hv0.out)
   have hTD:=Lib.hid (trimL_prefix D)
   have hDb:D.length≤900000:=by have:=Hinv.out.1;omega
   have hdig:=Hinv.out.2.1
   have Hdig:=Lib.hid hdig
   clear hT hTn hTd hdig Hinv hlt hk
   obtain ⟨g0,capb2,hform,hg0,_,_⟩:=own_shape hown (by have:=hTD.out.2;omega)
   cases hform
   go_wp2_with fail
   go_loopw [4] (fun bv wr2 => ∃ (k:Nat),(trimL D).length≤k∧k≤D.length∧bv = .slice (some ⟨g0,0,none⟩) k capb∧Hid (trimL (D.take k)=trimL D)∧Hid (wr2=wr))
    (fun bv _ => match bv with | .slice _ n _ => n | _ => 0)
   case atStart => exact ⟨D.length,hTD.out.2,Nat.le_refl _,rfl,by show _=_;rw [List.take_of_length_le (Nat.le_refl _)],rfl⟩
   case round =>
    obtain ⟨k,hk1,hk2,rfl,Htr,Hw⟩:=hrel
    have hWeq:=Hw.out
    subst hWeq
    clear Hw
    have hk0:0 < k:=by omega
    have ck:=(hown.cellAt (k - 1) (by omega)).trans (nums_at .u8 (asN D) (k - 1) (by rw [asN_length];omega))
    rw [asN_getD D (k - 1) (by omega)] at ck
    have hd10:=Hdig.out.at (show 0 < 10 by decide) (k - 1)
    obtain ⟨d,hd⟩:∃ d,D.getD (k - 1) 0=d:=⟨_,rfl⟩
    rw [hd] at ck hd10
    have Hd:=Lib.hid hd
    clear hd
    have hkk:k - 1+1=k:=by omega
    by_cases hz:d=0
    ·subst hz
     have Htr2:Hid (trimL (D.take (k - 1))=trimL D):=by
      show _=_
      rw [← Htr.out]
      have e:=trimL_take_zero D (k - 1) (by omega) Hd.out
      rw [hkk] at e
      exact e.symm
     have hk3:(trimL D).length≤k - 1:=by
      have e:=congrArg List.length Htr2.out
      have h2:=(trimL_prefix (D.take (k - 1))).2
      rw [e,List.length_take] at h2
      omega
     clear hkk
     go_wp2
     go_roundw
     case rel => exact ⟨k - 1,hk3,by omega,rfl,Htr2,by first | exact rfl | exact trivial⟩
     case measure => simp;omega
    ·have hfull:D.take k=trimL D:=by
      have e:=trimL_take_ne D (k - 1) (by omega) (by rw [Hd.out];exact hz)
      rw [hkk] at e
      rw [← Htr.out,e]
     have hkT:k=(trimL D).length:=by
      have e:=congrArg List.length hfull
      rw [List.length_take] at e
      omega
     have hownT:=ownsRow_cut hown k hk2
     rw [Nat.mul_one,nums_take,asN_take,hfull] at hownT
     have hownT2:wr.ownsRow w.heap.size 5 1 (.slice (some ⟨g0,0,none⟩) k capb) k (nums .u8 (asN (trimL D))):=hownT
     have HkT:=Lib.hid hkT
     have hzz:((48+d:Nat):Int) ≠ 48:=by omega
     have hzb:(((48+d:Nat):Int) == 48)=false:=by rw [beq_eq_false_iff_ne];exact hzz
     have hcx:=hbx.cell0
     clear hownT hown hfull hkk hz hkT hk1 Htr
     by_cases hbig:1000 < k
     ·have hd3:decide ((1000:Int) < (k:Int))=true:=by rw [decide_eq_true_eq];omega
      have hd3' : ¬ ((k:Int)≤1000):=by omega
      have HF:Hid (wErr (val 1000000000 xs)=14∧wStr neg (val 1000000000 xs)=[]):=by
       constructor
       ·rw [wErr,HT.out,if_pos (by rw [← HkT.out];exact hbig)]
       ·rw [wStr,HT.out,if_pos (by rw [← HkT.out];exact hbig)]
      go_wp2
      go_ret2
      exact ⟨⟨#[]⟩,by rw [HF.out.1];rfl,by rw [HF.out.2];rfl,hbel⟩
     ·have hd3:decide ((1000:Int) < (k:Int))=false:=by rw [decide_eq_false_iff_not];omega
      have HF:Hid (wErr (val 1000000000 xs)=0∧wStr neg (val 1000000000 xs)=(if neg then [45] else []) ++ asc (trimL D).reverse):=by
       constructor
       ·rw [wErr,HT.out,if_neg (by rw [← HkT.out];exact hbig)]
       ·rw [wStr,HT.out,if_neg (by rw [← HkT.out];exact hbig),istr,if_neg Hv0.out,HT.out]
      have hTdig:∀ x ∈ trimL D,x < 10:=(trimL_nrm Hdig.out).1
      have HTd:=Lib.hid hTdig
      clear hTdig
      cases neg with
      | false =>
       have hkA:(asN (trimL D)).length=k:=by rw [asN_length,HkT.out]
       have C:=reverse_any g0 capb w.heap.size (asN (trimL D)) wr (by rw [hkA];exact hownT2) (by rw [hkA];omega)
       rw [hkA] at C
       have HC:=Lib.hid C
       have HkA:=Lib.hid hkA
       clear C hkA
       go_wp2_with fail
       refine HC.out.mono ?_
       rintro e w2 ⟨rfl,hr,hg⟩
       have hcv:=run_convert_bytes_back (P:=Tryz.prog) w2 156 108 5 ⟨g0,0,none⟩ capb ((asN (trimL D)).reverse.map UInt8.ofNat) Tryz.ul_bytes Tryz.ul_u8 Tryz.ul_Int
        (cells_bytes hr (by rw [List.length_reverse,HkA.out]) (fun x hx => by
         obtain ⟨y,hy,rfl⟩:=List.mem_map.1 (List.mem_reverse.1 hx);have:=HTd.out y hy;omega))
       rw [List.length_map,List.length_reverse,HkA.out] at hcv
       have hbel2:Below w.heap.size w w2:=hbel.grown hg hbel.size (fun k hk => by cases hk;exact hg0)
       obtain ⟨ll,hll⟩:∃ ll,(asN (trimL D)).reverse.map UInt8.ofNat=ll:=⟨_,rfl⟩
       rw [hll] at hcv
       have HE:=Lib.hid (show bl ⟨ll.toArray⟩=wStr false (val 1000000000 xs) by
        rw [HF.out.2,bl_mk,← hll];simp [asN,asc,List.map_reverse])
       clear hll
       clear hr hg hbel HC
       go_wp2
       go_ret2
       exact ⟨_,by rw [HF.out.1];rfl,HE.out,hbel2⟩
      | true =>
       have hsz:=hbel.size
       go_wp2_with (at_builtin;refine wpList_append_own _ rfl _ _ 156 rfl w.heap.size 5 i0 (.int .u8 0) 1 1 Tryz.ul_bytes hi hz0 hz1 hz2 rfl (by decide) _ _ _ rfl (hownT2.alloc _) ⟨wr.heap.size,0,none⟩ 1 1 [_] rfl rfl (cell_one_new _ _ _) (int_oneCell _ _) ?q1 ?q2 ?q3 ?_)
       case q1 => unfold maxLen;omega
       case q2 => omega
       case q3 => first | omega | (simp;omega)
       intro v3 w3 hown3 hgrow3 _
       have hbel3:Below w.heap.size w w3:=(hbel.alloc hsz _).grown hgrow3 (by simp;omega) (fun k hk => (hownT2.lt k hk).1)
       rw [show (Value.int IntKind.u8 45)=Value.int IntKind.u8 ((45:Nat):Int) from rfl,nums_snoc] at hown3
       obtain ⟨g3,cap3,rfl,hg3,_,_⟩:=own_shape hown3 (by omega)
       have hkA:(asN (trimL D) ++ [45]).length=k+1:=by rw [List.length_append,asN_length,HkT.out];rfl
       have C:=reverse_any g3 cap3 w.heap.size (asN (trimL D) ++ [45]) w3 (by rw [hkA];exact hown3) (by rw [hkA];omega)
       rw [hkA] at C
       have HC:=Lib.hid C
       have HkA:=Lib.hid hkA
       clear C hkA hgrow3 hbel hown3
       go_wp2_with fail
       refine HC.out.mono ?_
       rintro e w2 ⟨rfl,hr,hg⟩
       have hcv:=run_convert_bytes_back (P:=Tryz.prog) w2 156 108 5 ⟨g3,0,none⟩ cap3 ((asN (trimL D) ++ [45]).reverse.map UInt8.ofNat) Tryz.ul_bytes Tryz.ul_u8 Tryz.ul_Int
        (cells_bytes hr (by rw [List.length_reverse,HkA.out]) (fun x hx => by
         rcases List.mem_append.1 (List.mem_reverse.1 hx) with hx | hx
         ·obtain ⟨y,hy,rfl⟩:=List.mem_map.1 hx;have:=HTd.out y hy;omega
         ·rw [List.mem_singleton] at hx;omega))
       rw [List.length_map,List.length_reverse,HkA.out] at hcv
       have hbel2:Below w.heap.size w w2:=hbel3.grown hg hbel3.size (fun k hk => by cases hk;exact hg3)
       obtain ⟨ll,hll⟩:∃ ll,(asN (trimL D) ++ [45]).reverse.map UInt8.ofNat=ll:=⟨_,rfl⟩
       rw [hll] at hcv
       have HE:=Lib.hid (show bl ⟨ll.toArray⟩=wStr true (val 1000000000 xs) by
        rw [HF.out.2,bl_mk,← hll];simp [asN,asc,List.map_reverse])
       clear hll
       clear hr hg hbel3 HC
       go_wp2
       go_ret2
       exact ⟨_,by rw [HF.out.1];rfl,HE.out,hbel2⟩
theorem write_any (neg:Bool) (v:Value) (xs:List Nat) (w:World) (hv:Sl w v 1 xs.length (nums .u32 xs)) (hx:Nrm 1000000000 xs) (hl:xs.length≤100000) :
  Calls Tryz.prog 91 #[.agg #[.bool neg,v]] w (WritePost w neg (val 1000000000 xs)):=by
 by_cases hne:xs=[]
 ·subst hne;exact write_zero neg v w hv
 ·exact write_pos neg v xs w hv hx hne hl
end Go.Proofs.YthdeijdimfjceaaGreatDoor

namespace Go.Proofs.YthdeijdimfjceaaGreatDoor
open Go.RowKit
theorem getD_zero_of_lt {b:Nat} {os:List Nat} {m:Nat} (h:val b os < b ^ m):os.getD m 0=0:=by
 by_cases hm:m < os.length
 ·have e1:=val_split b os m (by omega)
  have e2:=val_drop b os m hm
  rw [e2,Nat.mul_add] at e1
  have h3:b ^ m * os.getD m 0 < b ^ m * 1:=by omega
  have:=Nat.lt_of_mul_lt_mul_left h3
  omega
 ·simp only [List.getD,List.getElem?_eq_none (by omega:os.length≤m),Option.getD_none]
def TimesOut (xs ys os:List Nat) (k:Nat):Prop :=
 os.length=xs.length+ys.length∧Dig 1000000000 os∧val 1000000000 os=val 1000000000 (xs.take k) * val 1000000000 ys
def TimesIn (xs ys os:List Nat) (k x j c:Nat):Prop :=
 os.length=xs.length+ys.length∧Dig 1000000000 os∧os.getD (k+ys.length) 0=0 ∧
  val 1000000000 os+c * 1000000000 ^ (k+j)=val 1000000000 (xs.take k) * val 1000000000 ys+x * val 1000000000 (ys.take j) * 1000000000 ^ k
theorem TimesOut.start (xs ys:List Nat):TimesOut xs ys (List.replicate (xs.length+ys.length) 0) 0 :=
 ⟨by simp,fun x hx => by rw [(List.mem_replicate.1 hx).2];decide,by rw [val_zeros];simp [val]⟩
theorem take_val_lt {xs:List Nat} (h:Dig 1000000000 xs) (k:Nat):val 1000000000 (xs.take k) < 1000000000 ^ k :=
 Nat.lt_of_lt_of_le (val_lt (h.take k)) (Nat.pow_le_pow_right (by decide) (by simp;omega))
theorem TimesOut.into {xs ys os:List Nat} {k:Nat} (h:TimesOut xs ys os k) (dx:Dig 1000000000 xs) (dy:Dig 1000000000 ys) (x:Nat):TimesIn xs ys os k x 0 0:=by
 obtain ⟨h1,h2,h3⟩:=h
 refine ⟨h1,h2,getD_zero_of_lt (b:=1000000000) ?_,by simp [val,h3]⟩
 rw [h3,Nat.pow_add]
 have a:=take_val_lt dx k
 have b:=val_lt dy
 have hp:0 < 1000000000 ^ ys.length:=Nat.pow_pos (by decide)
 calc val 1000000000 (xs.take k) * val 1000000000 ys≤val 1000000000 (xs.take k) * 1000000000 ^ ys.length:=Nat.mul_le_mul_left _ (by omega)
  _ < 1000000000 ^ k * 1000000000 ^ ys.length:=Nat.mul_lt_mul_of_pos_right a hp
theorem TimesIn.step {xs ys os:List Nat} {k x j c v:Nat} (h:TimesIn xs ys os k x j c) (hk:k < xs.length) (hj:j < ys.length) (hv:v=x * ys.getD j 0+os.getD (k+j) 0+c) :
  TimesIn xs ys (os.set (k+j) (v % 1000000000)) k x (j+1) (v / 1000000000):=by
 obtain ⟨h1,h2,h3,h4⟩:=h
 refine ⟨by simpa using h1,h2.set _ (Nat.mod_lt _ (by decide)),?_,?_⟩
 ·simp only [List.getD] at h3 ⊢
  rw [List.getElem?_set_ne (by omega)];exact h3
 ·have e1:=val_set 1000000000 os (k+j) (v % 1000000000) (by omega)
  have e2:=Nat.div_add_mod v 1000000000
  generalize hP:1000000000 ^ (k+j)=P at *
  have e3:1000000000 ^ (k+(j+1))=P * 1000000000:=by rw [← Nat.add_assoc,Nat.pow_succ,hP]
  rw [e3,val_take_succ]
  have e4:1000000000 ^ j * 1000000000 ^ k=P:=by rw [← hP,← Nat.pow_add,Nat.add_comm]
  have e5:P * (1000000000 * (v / 1000000000)+v % 1000000000)=P * (x * ys.getD j 0+os.getD (k+j) 0+c):=by rw [e2,hv]
  rw [Nat.mul_add,Nat.mul_add,Nat.mul_add] at e5
  have e6:v / 1000000000 * (P * 1000000000)=P * (1000000000 * (v / 1000000000)):=by
   rw [Nat.mul_comm (v / 1000000000),Nat.mul_assoc]
  have e7:x * (val 1000000000 (ys.take j)+1000000000 ^ j * ys.getD j 0) * 1000000000 ^ k=x * val 1000000000 (ys.take j) * 1000000000 ^ k+P * (x * ys.getD j 0):=by
   rw [← e4];grind
  rw [e6,e7]
  have e8:c * P=P * c:=Nat.mul_comm _ _
  omega
theorem TimesIn.fin {xs ys os:List Nat} {k c:Nat} (h:TimesIn xs ys os k (xs.getD k 0) ys.length c) (hk:k < xs.length) (hc:c < 1000000000) :
  TimesOut xs ys (os.set (k+ys.length) c) (k+1):=by
 obtain ⟨h1,h2,h3,h4⟩:=h
 refine ⟨by simpa using h1,h2.set _ hc,?_⟩
 have e1:=val_set 1000000000 os (k+ys.length) c (by omega)
 rw [h3] at e1
 rw [List.take_of_length_le (Nat.le_refl _)] at h4
 rw [val_take_succ,Nat.add_mul]
 have e2:1000000000 ^ k * xs.getD k 0 * val 1000000000 ys=xs.getD k 0 * val 1000000000 ys * 1000000000 ^ k:=by
  rw [Nat.mul_comm (1000000000 ^ k),Nat.mul_assoc,Nat.mul_comm (1000000000 ^ k),Nat.mul_assoc]
 have e3:=Nat.mul_comm c (1000000000 ^ (k+ys.length))
 rw [e2]
 omega
theorem mul_bound {x y:Nat} (hx:x < 1000000000) (hy:y < 1000000000):x * y≤999999998000000001:=by
 have h1:x * y≤999999999 * 999999999:=Nat.mul_le_mul (by omega) (by omega)
 omega
set_option maxHeartbeats 2000000 in
set_option maxRecDepth 100000 in
theorem times_any (a b:Value) (xs ys:List Nat) (w:World) (ha:Sl w a 1 xs.length (nums .u32 xs)) (hb:Sl w b 1 ys.length (nums .u32 ys))
  (dx:Dig 1000000000 xs) (dy:Dig 1000000000 ys) (lx:xs.length≤100000) (ly:ys.length≤100000) :
  Calls Tryz.prog 92 #[a,b] w fun e w' => ∃ v rs,e = .returned v∧OwnMag w w' v rs∧val 1000000000 rs=val 1000000000 xs * val 1000000000 ys:=by
 obtain ⟨ad,ca,rfl,h1,h3⟩:=ha.nums
 obtain ⟨bd,cb,rfl,h1',h3'⟩:=hb.nums
 obtain ⟨i0,hi,hz0,hz1,hz2⟩:=info_parts Tryz.info_u32
 clear ha hb
 obtain ⟨N,hN⟩:∃ N,N=xs.length+ys.length:=⟨_,rfl⟩
 have HN:=Lib.hid hN
 have hNl:N≤200000:=by omega
 have hN1:xs.length+ys.length≤N:=by omega
 have hN2:N≤xs.length+ys.length:=by omega
 clear hN
 go_enter Tryz.func92,Tryz.ntmps92
 go_wp2_with (at_make;refine wpList_make_full _ rfl _ _ 146 rfl w.heap.size 177 i0 (.int .u32 0) 1 Tryz.ul_u32s hi hz0 hz1 _ _ _ _ N rfl rfl ?b0 ?b1 ?b2 ?b3 ?b4 ?_)
 case b0 => rw [HN.out];simp
 case b1 => rw [HN.out];simp
 case b2 => rw [hz2];omega
 case b3 => unfold maxLen;omega
 case b4 => exact Nat.le_refl _
 intro w1 hown hgrow
 have hbel:Below w.heap.size w w1:=(Below.refl _ _).grown hgrow (Nat.le_refl _) (by simp)
 have hown1:w1.ownsRow w.heap.size 177 1 (.slice (some ⟨w.heap.size,0,none⟩) N N) N (nums .u32 (List.replicate (xs.length+ys.length) 0)):=by
  rw [← HN.out]
  rw [toList_madeCells_one] at hown
  simpa [nums] using hown
 clear hgrow hown
 go_wp2_with fail
 go_loopw [20] (fun i wr => ∃ (k:Nat) (os:List Nat),k≤xs.length∧i = .int .i64 k ∧
   wr.ownsRow w.heap.size 177 1 (.slice (some ⟨w.heap.size,0,none⟩) N N) N (nums .u32 os)∧Hid (TimesOut xs ys os k)∧Below w.heap.size w wr)
  (fun i _ => xs.length - (intOf i).toNat)
 case atStart => exact ⟨0,_,Nat.zero_le _,rfl,hown1,TimesOut.start _ _,hbel⟩
 case round =>
  clear hown1 hbel
  obtain ⟨k,os,hk,rfl,hown,Hinv,hbel⟩:=hrel
  by_cases hlt:k < xs.length
  ·obtain ⟨b,off,rfl,hc⟩:=h3.resolve_left (by omega)
   have hck:=cell_later hbel (hc k hlt)
   have hx9:=dx.at (by decide) k
   obtain ⟨x,hx⟩:∃ x,x=xs.getD k 0:=⟨_,rfl⟩
   rw [← hx] at hck hx9
   have Hx:=Lib.hid hx;clear hx
   clear hc h3
   obtain ⟨wo,rfl⟩:∃ wo:World,wo=wr:=⟨_,rfl⟩
   go_wp2_with fail
   go_loopw [8,27] (fun c i wr => ∃ (j c1:Nat) (os:List Nat),j≤ys.length∧c1 < 1000000000∧i = .int .i64 j∧c = .int .u64 c1 ∧
     wr.ownsRow w.heap.size 177 1 (.slice (some ⟨w.heap.size,0,none⟩) N N) N (nums .u32 os)∧Hid (TimesIn xs ys os k x j c1)∧Below w.heap.size w wr)
    (fun _ i _ => ys.length - (intOf i).toNat)
   case atStart => exact ⟨0,0,_,Nat.zero_le _,by omega,rfl,rfl,hown,Hinv.out.into dx dy x,hbel⟩
   case round =>
    clear hown Hinv hbel
    obtain ⟨j,c1,os,hj,hc1,rfl,rfl,hown,Hin,hbel⟩:=hrel
    by_cases hjt:j < ys.length
    ·obtain ⟨b',off',rfl,hd⟩:=h3'.resolve_left (by omega)
     have hdk:=cell_later hbel (hd j hjt)
     have hy9:=dy.at (by decide) j
     obtain ⟨y,hy⟩:∃ y,y=ys.getD j 0:=⟨_,rfl⟩
     rw [← hy] at hdk hy9
     have Hy:=Lib.hid hy;clear hy
     clear hd h3'
     have hol:os.length=N:=by rw [HN.out];exact Hin.out.1
     have ho9:=Hin.out.2.1.at (by decide) (k+j)
     have hok:=(hown.cellAt (k+j) (by omega)).trans (nums_at .u32 os (k+j) (by omega))
     have hfr:=hown.frozenAt (k+j)
     obtain ⟨q,hq⟩:∃ q,q=os.getD (k+j) 0:=⟨_,rfl⟩
     rw [← hq] at hok ho9
     have Hq:=Lib.hid hq;clear hq
     have Hol:=Lib.hid hol;clear hol
     have hm:=mul_bound hx9 hy9
     obtain ⟨p,hp⟩:∃ p,p=x * y:=⟨_,rfl⟩
     have hpi:(x:Int) * (y:Int)=(p:Int):=by rw [hp];simp
     rw [← hp] at hm
     have Hp:=Lib.hid hp;clear hp
     have est:=hown.stored (k+j) (.int .u32 (((p:Int)+q+c1) % 1000000000))
     have hbel2:=hbel.grown est.2 hbel.size (by intro k hk;simp at hk;omega)
     have ed:((p:Int)+q+c1) % 1000000000=(((p+q+c1) % 1000000000:Nat):Int):=by omega
     have eo:wr.setCell ⟨w.heap.size,k+j,none⟩ (.int .u32 (((p:Int)+q+c1) % 1000000000))=wr.setCell ⟨w.heap.size,k+j,none⟩ (.int .u32 (((p+q+c1) % 1000000000:Nat):Int)):=by rw [ed]
     have Eo:=Lib.hid eo;clear eo
     rw [ed,nums_set] at est
     rw [ed] at hbel2
     clear ed
     have HR:Hid (TimesIn xs ys (os.set (k+j) ((p+q+c1) % 1000000000)) k x (j+1) ((p+q+c1) / 1000000000)) :=
      Hin.out.step hlt hjt (by rw [← Hy.out,← Hq.out,← Hp.out])
     have Est:=Lib.hid est;clear est
     have Hbel2:=Lib.hid hbel2;clear hbel2
     go_wp2
     go_roundw
     case rel => exact ⟨j+1,(p+q+c1) / 1000000000,_,by omega,by omega,by go_num,by go_num,by rw [Eo.out];exact Est.out.1,HR,by rw [Eo.out];exact Hbel2.out⟩
     case measure => simp [intOf];omega
    ·obtain rfl:j=ys.length:=by omega
     have hol:os.length=N:=by rw [HN.out];exact Hin.out.1
     have hok:=(hown.cellAt (k+ys.length) (by omega)).trans (nums_at .u32 os (k+ys.length) (by omega))
     have hfr:=hown.frozenAt (k+ys.length)
     have Hol:=Lib.hid hol;clear hol
     rw [Hin.out.2.2.1] at hok
     have est:=hown.stored (k+ys.length) (.int .u32 (c1:Int))
     have hbel2:=hbel.grown est.2 hbel.size (by intro k hk;simp at hk;omega)
     rw [nums_set] at est
     have HR:Hid (TimesOut xs ys (os.set (k+ys.length) c1) (k+1)):=by
      have e:=Hin.out
      rw [Hx.out] at e
      exact e.fin hlt hc1
     have Est:=Lib.hid est;clear est
     have Hbel2:=Lib.hid hbel2;clear hbel2
     go_wp2
     go_roundw
     case rel => exact ⟨k+1,_,by omega,by go_num,Est.out.1,HR,Hbel2.out⟩
     case measure => simp [intOf];omega
  ·obtain rfl:k=xs.length:=by omega
   have hos:os.length=N:=by rw [HN.out];exact Hinv.out.1
   have hdg:=Hinv.out.2.1
   have HF:val 1000000000 (trimL os)=val 1000000000 xs * val 1000000000 ys:=by
    have e:=Hinv.out.2.2
    rw [List.take_of_length_le (Nat.le_refl _)] at e
    rw [trimL_val];exact e
   have hsl:=Sl.of_owns hown
   rw [← hos] at hsl hown
   have HF':=Lib.hid HF;clear HF
   have Hos:=Lib.hid hos;clear hos
   rw [show N=os.length from Hos.out.symm]
   go_wp2_with fail
   refine (trim_any _ os _ hsl (by have:=Hos.out;omega)).mono ?_
   rintro e w' ⟨v',rfl,Hv,rfl⟩
   go_wp2
   go_ret
   exact ⟨_,_,rfl,⟨own_trim hown Hv.out,trimL_nrm hdg,hbel⟩,HF'.out⟩
end Go.Proofs.YthdeijdimfjceaaGreatDoor
