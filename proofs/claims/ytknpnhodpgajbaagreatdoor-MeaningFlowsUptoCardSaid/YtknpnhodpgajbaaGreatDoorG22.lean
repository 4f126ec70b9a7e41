/- A part. -/
import Derived.Test.YtknpnhodpgajbaaGreatDoorG21
set_option maxHeartbeats 8000000
set_option maxRecDepth 100000
namespace Go.Proofs.YtknpnhodpgajbaaGreatDoor
open Go.RowKit
theorem Zzb:(Tryz.prog.info? 29).map (fun i=>(i.zero,i.size,i.bytes))=some (some (.agg #[.int .u8 0,.string ⟨#[]⟩,.string ⟨#[]⟩,.string ⟨#[]⟩,.int .u8 0,.string ⟨#[]⟩,.string ⟨#[]⟩,.int .i64 0,.slice none 0 0,.int .i64 0,.slice none 0 0,.slice none 0 0]),12,184):=by kernel_rfl
theorem Z2h:Tryz.prog.underlying 27=some (.slice 29):=by kernel_rfl
abbrev CoV:Type:=Con × (Value × Value × Value)
def conC (p:CoV):List Value:=p.1.cells p.2.1 p.2.2.1 p.2.2.2
theorem Zmz (p:CoV):(conC p).length=12:=rfl
def conR (p:CoV) (w:World):Prop:=RdN w p.1 p.2.1 p.2.2.1 p.2.2.2
def Zpz (s:Value × Value × Value):Prop:=exCS s.1∧exCS s.2.1∧exCS s.2.2
theorem Zyu (p:CoV) (hp:Zpz p.2):∀ u ∈ conC p,u.oneCell'=true:=by
 obtain ⟨x,s1,s2,s3⟩:=p;obtain ⟨⟨_,_,_,h1⟩,⟨_,_,_,h2⟩,_,_,_,h3⟩:=hp;simp only at h1 h2 h3
 subst h1 h2 h3;intro u hu;simp [conC,Con.cells] at hu
 rcases hu with rfl | rfl | rfl | rfl | rfl | rfl | rfl | rfl | rfl | rfl | rfl | rfl <;> rfl
theorem Zpt {P:Program} {w w':World} {t ty e:TypeId} {i:TypeInfo} (ht:P.underlying t=some (.slice e)) (hi:P.info? e=some i) {a0:Addr} {A ad:Option Addr} {c cap:Nat} (hA:A=none→c=0)
  (hr:(Builtin.append_ #[t,t] ty #[.slice (some a0) 0 0,.slice A 0 c]).run P w = .ok (.slice ad 0 cap) w'):ad ≠ none:=by
 rintro rfl
 cases A with
 | none =>
  obtain rfl:=hA rfl;simp [Builtin.append_,run_underlying ht,sizeOf,typeInfo,hi,Builtin.lenOf,Builtin.firstCells,storeCells] at hr
 | some a=>simp [Builtin.append_,run_underlying ht,sizeOf,typeInfo,hi,Builtin.lenOf,Builtin.firstCells,storeCells,loadCells,loadCellsFrom] at hr
theorem Zgy {P:Program} {w:World} {ops:Array Oper} {rest:List Oper} {o:Oper} {a:Act} {Q:Exit→Act→World→Prop} (hgd:o.guard=none) (s x:Operand) (t:TypeId)
  (ho:o.op = .call { callee:=.builtin .append,args:=#[s,x],argTypes:=#[t,t] }) (e:TypeId) (i:TypeInfo) (z:Value) (size bytes:Nat) (ht:P.underlying t=some (.slice e)) (hi:P.info? e=some i) (hz:i.zero=some z)
  (hsize:i.size=size) (hby:i.bytes=bytes) (hsz:0 < size) (a0:Addr) (A:Option Addr) (m c:Nat) (news:List Value) (hs:a.eval s = .slice (some a0) 0 0) (hx:a.eval x = .slice A m c) (hl:Sl w (.slice A m c) size m news) (hA:A=none→c=0)
  (h63:m≤9223372036854775807) (hbytes:m * bytes≤140737488355328)
  (h:∀ ad cap w',Sl w' (.slice ad m cap) size m news→(m=0∨∃ g,ad=some ⟨g,0,none⟩∧w.heap.size≤g)→ad ≠ none→Below w.heap.size w w'→wpList P ops Q rest (a.put o.dst (.slice ad m cap)) w') :
  wpList P ops Q (o :: rest) a w:=by
 refine wpList_plain hgd fun K hK=>?_
 obtain ⟨ad,cap,w',hr,h2,h4,h3⟩:=Zfv (P:=P) (w:=w) t o.type e i z size bytes ht hi hz hsize hby hsz a0 A m c news hl hA h63 hbytes;have hne:ad ≠ none:=by
  rcases h4 with rfl | ⟨g,rfl,_⟩
  ·exact Zpt ht hi hA hr
  ·simp
 unfold Oper.wp execOp;simp only [ho,resolve,invoke,builtin,Sem.run_bind,Sem.run_pure,Result.andThen_ok,List.map_toArray,List.map_cons,List.map_nil,hs,hx,hr];exact hK _ _ (h ad cap w' h2 h4 hne ((Below.refl _ _).grown h3 (Nat.le_refl _) (by simp)))
theorem RdI.sl {w:World} {l:List Int} {ad:Option Addr} {n cap:Nat} (h:RdI w l (.slice ad n cap)):Sl w (.slice ad n cap) 1 n (l.map fun d=>.int .i64 d)∧(ad=none→cap=0):=by
 obtain ⟨_,_,e,⟨h1,h2⟩,h3⟩:=h
 cases e
 refine ⟨⟨_,_,rfl,h1,by simp,?_⟩,h2⟩
 cases l with
 | nil=>exact .inl rfl
 | cons d r =>
  obtain ⟨b,off,rfl,_⟩:=h3 0 d rfl;refine .inr ⟨b,off,rfl,fun j u hj=>?_⟩;rw [List.getElem?_map] at hj
  cases hd:(d :: r)[j]? with
  | none=>rw [hd] at hj;cases hj
  | some x =>
   rw [hd] at hj
   cases hj
   obtain ⟨_,_,e,hc⟩:=h3 j x hd
   cases e
   exact hc
theorem RdI.of_sl {w:World} {l:List Int} {ad:Option Addr} {cap:Nat} (h:Sl w (.slice ad l.length cap) 1 l.length (l.map fun d=>.int .i64 d)) (hn:ad=none→cap=0):RdI w l (.slice ad l.length cap):=by
 obtain ⟨_,_,e,h1,_,h3⟩:=h
 cases e
 refine ⟨_,_,rfl,⟨h1,hn⟩,fun j d hj=>?_⟩;rcases h3 with h3 | ⟨b,off,rfl,h3⟩
 ·rw [List.eq_nil_of_length_eq_zero h3] at hj;cases hj
 ·exact ⟨b,off,rfl,h3 j _ (by rw [List.getElem?_map,hj];rfl)⟩
theorem Zwm {W2:World} {l:List Int} {a:Option Addr} {c D:Nat} (hsl:Sl W2 (.slice a l.length c) 1 l.length (l.map fun d=>.int .i64 d)) (hg:l.length=0∨∃ g,a=some ⟨g,0,none⟩∧D≤g) (hne:a ≠ none) :
  Keep none D W2 (fun W=>RdI W l (.slice a l.length c)):=fun w' _ hag=>RdI.of_sl (by
   rcases hg with h0 | ⟨g,rfl,hD⟩
   ·obtain rfl:l=[]:=List.eq_nil_of_length_eq_zero h0;exact Sl.empty _ _ _ _
   ·exact hsl.kept fun k hk hk2=>by
     obtain rfl:g=k:=by simpa [Value.ownBlock] using hk
     exact hag g hD hk2 (by simp)) fun h=>absurd h hne
theorem Zui {w wr w2:World} {D n:Nat} {R0:World→Prop} {LL:List CoV} {a2:Option Addr} {c2:Nat} {xs:List Con} (hL:LL.map Prod.fst=xs) (hn:LL.length=n) (h:PRow conC 29 12 conR R0 w D LL a2 c2 wr)
  (h8:∀ y ∈ xs,y.k < 256∧y.ex.k < 256) (hz:wr.heap.size≤w2.heap.size) (hag:∀ b,D≤b→b < wr.heap.size→w2.heap[b]? = wr.heap[b]?):RdC w2 xs (.slice a2 n c2):=by
 subst hL;have e:n=(LL.map Prod.fst).length:=by rw [List.length_map,hn]
 rw [e];have hat:∀ (j:Nat) (x:Con),(LL.map Prod.fst)[j]? = some x→∃ s:Value × Value × Value,LL[j]? = some (x,s):=by
  intro j x hx;rw [List.getElem?_map] at hx
  cases hp:LL[j]? with
  | none=>rw [hp] at hx;cases hx
  | some p=>rw [hp] at hx;cases hx;exact ⟨p.2,rfl⟩
 have hk:∀ (j:Nat) (x:Con) (s:Value × Value × Value),LL[j]? = some (x,s)→RdN w2 x s.1 s.2.1 s.2.2:=fun j x s hs=>h.2.1 _ (List.mem_of_getElem? hs) w2 hz fun b hb1 hb2 _=>hag b hb1 hb2
 refine .mk a2 c2 _ (fun j=>(LL[j]?.map fun p=>p.2.1).getD undef) (fun j=>(LL[j]?.map fun p=>p.2.2.1).getD undef) (fun j=>(LL[j]?.map fun p=>p.2.2.2).getD undef) (fun j x hx=>?_) (fun j x hx=>?_) (fun j x hx=>?_) fun j x hx=>?_
 ·obtain ⟨s,hs⟩:=hat j x hx;refine ⟨h8 x (List.mem_of_getElem? hx),?_⟩;obtain ⟨g,rfl,_⟩:=h.cell Zmz hs (j:=0) rfl hag;refine ⟨g,0,rfl,fun i u hu=>?_⟩;simp only [hs] at hu;obtain ⟨_,e1,c1⟩:=h.cell Zmz hs (j:=i) hu hag
  cases e1
  exact c1
 all_goals
  obtain ⟨s,hs⟩:=hat j x hx;simp only [hs]
 ·exact (hk j x s hs).1
 ·exact (hk j x s hs).2.1
 ·exact (hk j x s hs).2.2.1
theorem Zuw:∀ (B:Nat) (x:Con) (es dd ss:Value) (w:World),x.bulk≤B→x.bulk≤2000000→RdN w x es dd ss →
  Calls Tryz.prog 10 #[x.val es dd ss] w fun e w'=>∃ s':Value × Value × Value,e = .returned (x.val s'.1 s'.2.1 s'.2.2)∧Keep none w.heap.size w' (conR (x,s'))∧Zpz s'∧Below w.heap.size w w':=by
 intro B;induction B with
 | zero =>
  intro x es dd ss w h0;rw [Con.bulk_eq] at h0;omega
 | succ B ih =>
  intro x es dd ss w hB hM hs;obtain ⟨i0,hi,hz0,hz1,hz2⟩:=info_parts Zzb;obtain ⟨ad,cap,rfl⟩:=hs.2.2.1.len;obtain ⟨ad1,cap1,rfl⟩:=hs.1.len;obtain ⟨ad2,cap2,rfl⟩:=hs.2.1.len;have HS:=Lh hs;have HI:=Lh ih;have hbq:=x.bulk_eq;have hlen:=Con.bulks_len x.sub;have hlt0:=x.sub_lt;have hn:x.sub.length≤2000000:=by omega
  have hnd:x.ds.length≤2000000:=by omega
  have HE:=Lh fun (V:World) (hV:Below w.heap.size w V)=>Zux x.ex.bulk x.ex _ V (Nat.le_refl _) (by omega) (hs.1.frame hV)
  unfold Ex.val at HE;clear hs ih hbq;unfold Con.val;go_enter Tryz.func10,Tryz.ntmps10
  have hx0:∃ W0,W0=(((w.alloc (.cells #[.int .u8 x.k,.string x.fr,.string x.rc,.string x.nm,.int .u8 x.ex.k,.string x.ex.ra,.string x.ex.nm,.int .i64 x.ex.d,.slice ad1 x.ex.sub.length cap1,.int .i64 x.d,.slice ad2 x.ds.length cap2,.slice ad x.sub.length cap] 29)).alloc (.cells #[.int .u8 0,.string ⟨#[]⟩,.string ⟨#[]⟩,.string ⟨#[]⟩,.int .u8 0,.string ⟨#[]⟩,.string ⟨#[]⟩,.int .i64 0,.slice none 0 0,.int .i64 0,.slice none 0 0,.slice none 0 0] 29)).alloc (.cells #[.int .u8 x.k,.string x.fr,.string x.rc,.string x.nm,.int .u8 0,.string ⟨#[]⟩,.string ⟨#[]⟩,.int .i64 0,.slice none 0 0,.int .i64 x.d,.slice none 0 0,.slice none 0 0] 29))∧BoxN W0 w.heap.size 29 [.int .u8 x.k,.string x.fr,.string x.rc,.string x.nm,.int .u8 x.ex.k,.string x.ex.ra,.string x.ex.nm,.int .i64 x.ex.d,.slice ad1 x.ex.sub.length cap1,.int .i64 x.d,.slice ad2 x.ds.length cap2,.slice ad x.sub.length cap]∧BoxN W0 (w.heap.size+1) 29 [.int .u8 0,.string ⟨#[]⟩,.string ⟨#[]⟩,.string ⟨#[]⟩,.int .u8 0,.string ⟨#[]⟩,.string ⟨#[]⟩,.int .i64 0,.slice none 0 0,.int .i64 0,.slice none 0 0,.slice none 0 0]∧BoxN W0 (w.heap.size+1+1) 29 [.int .u8 x.k,.string x.fr,.string x.rc,.string x.nm,.int .u8 0,.string ⟨#[]⟩,.string ⟨#[]⟩,.int .i64 0,.slice none 0 0,.int .i64 x.d,.slice none 0 0,.slice none 0 0]∧Below w.heap.size w W0∧W0.heap.size=w.heap.size+1+1+1 :=
   ⟨_,rfl,((BoxN.new w [.int .u8 x.k,.string x.fr,.string x.rc,.string x.nm,.int .u8 x.ex.k,.string x.ex.ra,.string x.ex.nm,.int .i64 x.ex.d,.slice ad1 x.ex.sub.length cap1,.int .i64 x.d,.slice ad2 x.ds.length cap2,.slice ad x.sub.length cap] _).alloc _).alloc _,by have h:=BoxN.new (w.alloc (.cells #[.int .u8 x.k,.string x.fr,.string x.rc,.string x.nm,.int .u8 x.ex.k,.string x.ex.ra,.string x.ex.nm,.int .i64 x.ex.d,.slice ad1 x.ex.sub.length cap1,.int .i64 x.d,.slice ad2 x.ds.length cap2,.slice ad x.sub.length cap] 29)) [.int .u8 0,.string ⟨#[]⟩,.string ⟨#[]⟩,.string ⟨#[]⟩,.int .u8 0,.string ⟨#[]⟩,.string ⟨#[]⟩,.int .i64 0,.slice none 0 0,.int .i64 0,.slice none 0 0,.slice none 0 0] 29;rw [World.size_alloc] at h;exact h.alloc _,
    by have h:=BoxN.new ((w.alloc (.cells #[.int .u8 x.k,.string x.fr,.string x.rc,.string x.nm,.int .u8 x.ex.k,.string x.ex.ra,.string x.ex.nm,.int .i64 x.ex.d,.slice ad1 x.ex.sub.length cap1,.int .i64 x.d,.slice ad2 x.ds.length cap2,.slice ad x.sub.length cap] 29)).alloc (.cells #[.int .u8 0,.string ⟨#[]⟩,.string ⟨#[]⟩,.string ⟨#[]⟩,.int .u8 0,.string ⟨#[]⟩,.string ⟨#[]⟩,.int .i64 0,.slice none 0 0,.int .i64 0,.slice none 0 0,.slice none 0 0] 29)) [.int .u8 x.k,.string x.fr,.string x.rc,.string x.nm,.int .u8 0,.string ⟨#[]⟩,.string ⟨#[]⟩,.int .i64 0,.slice none 0 0,.int .i64 x.d,.slice none 0 0,.slice none 0 0] 29;rw [World.size_alloc,World.size_alloc] at h;exact h,Zdh _ _ _ _,by rw [World.size_alloc,World.size_alloc,World.size_alloc]⟩
  obtain ⟨W0,hW0,bx,br,bo,hb0,hz00⟩:=hx0;have hy00:=bo.lt;go_wp2_with fail;rw [← hW0];clear hW0;refine (HE.out _ hb0).mono ?_;rintro e w1 ⟨s1,rfl,hk1,⟨aX,nX,cX,rfl⟩,hb1⟩;obtain ⟨_,_,eX⟩:=(show RdE w1 x.ex.sub (.slice aX nX cX) from hk1.rd).len
  cases eX
  replace bx:=bx.below hb1 bx.lt;replace br:=br.below hb1 br.lt;replace bo:=bo.below hb1 bo.lt;have hb01:=hb0.trans (hb1.mono hb0.size);have o4:w1.cell? ⟨w.heap.size+1+1,4,none⟩=some (.int .u8 0):=bo.cell rfl;have f4:=bo.frozen 4;have o5:w1.cell? ⟨w.heap.size+1+1,5,none⟩=some (.string ⟨#[]⟩):=bo.cell rfl;have f5:=bo.frozen 5;have o6:w1.cell? ⟨w.heap.size+1+1,6,none⟩=some (.string ⟨#[]⟩):=bo.cell rfl
  have f6:=bo.frozen 6;have o7:w1.cell? ⟨w.heap.size+1+1,7,none⟩=some (.int .i64 0):=bo.cell rfl;have f7:=bo.frozen 7;have o8:w1.cell? ⟨w.heap.size+1+1,8,none⟩=some (.slice none 0 0):=bo.cell rfl;have f8:=bo.frozen 8;have q10:w1.cell? ⟨w.heap.size,10,none⟩=some (.slice ad2 x.ds.length cap2):=bx.cell rfl;have hn1:w.heap.size ≠ w.heap.size+1+1:=by omega
  have hn2:w.heap.size+1 ≠ w.heap.size+1+1:=by omega
  have hn3:w.heap.size+1+1 < W0.heap.size:=hy00;have hn4:w.heap.size≤w.heap.size+1+1:=by omega
  have hx1:∃ W1,(((((w1.setCell ⟨w.heap.size+1+1,4,none⟩ (.int .u8 x.ex.k)).setCell ⟨w.heap.size+1+1,5,none⟩ (.string x.ex.ra)).setCell ⟨w.heap.size+1+1,6,none⟩ (.string x.ex.nm)).setCell ⟨w.heap.size+1+1,7,none⟩ (.int .i64 x.ex.d)).setCell ⟨w.heap.size+1+1,8,none⟩ (.slice aX x.ex.sub.length cX))=W1∧BoxN W1 w.heap.size 29 [.int .u8 x.k,.string x.fr,.string x.rc,.string x.nm,.int .u8 x.ex.k,.string x.ex.ra,.string x.ex.nm,.int .i64 x.ex.d,.slice ad1 x.ex.sub.length cap1,.int .i64 x.d,.slice ad2 x.ds.length cap2,.slice ad x.sub.length cap] ∧
    BoxN W1 (w.heap.size+1) 29 [.int .u8 0,.string ⟨#[]⟩,.string ⟨#[]⟩,.string ⟨#[]⟩,.int .u8 0,.string ⟨#[]⟩,.string ⟨#[]⟩,.int .i64 0,.slice none 0 0,.int .i64 0,.slice none 0 0,.slice none 0 0] ∧
    BoxN W1 (w.heap.size+1+1) 29 [.int .u8 x.k,.string x.fr,.string x.rc,.string x.nm,.int .u8 x.ex.k,.string x.ex.ra,.string x.ex.nm,.int .i64 x.ex.d,.slice aX x.ex.sub.length cX,.int .i64 x.d,.slice none 0 0,.slice none 0 0] ∧
    Keep none W0.heap.size W1 (exR (x.ex,.slice aX x.ex.sub.length cX))∧Below w.heap.size w W1 :=
   ⟨_,rfl,(((((bx.far (a:=⟨w.heap.size+1+1,_,none⟩) hn1 _).far (a:=⟨w.heap.size+1+1,_,none⟩) hn1 _).far (a:=⟨w.heap.size+1+1,_,none⟩) hn1 _).far (a:=⟨w.heap.size+1+1,_,none⟩) hn1 _).far (a:=⟨w.heap.size+1+1,_,none⟩) hn1 _),(((((br.far (a:=⟨w.heap.size+1+1,_,none⟩) hn2 _).far (a:=⟨w.heap.size+1+1,_,none⟩) hn2 _).far (a:=⟨w.heap.size+1+1,_,none⟩) hn2 _).far (a:=⟨w.heap.size+1+1,_,none⟩) hn2 _).far (a:=⟨w.heap.size+1+1,_,none⟩) hn2 _),(((((bo.set 4 _).set 5 _).set 6 _).set 7 _).set 8 _),(Keep.set (Keep.set (Keep.set (Keep.set (Keep.set hk1 (a:=⟨w.heap.size+1+1,_,none⟩) hn3 _) (a:=⟨w.heap.size+1+1,_,none⟩) hn3 _) (a:=⟨w.heap.size+1+1,_,none⟩) hn3 _) (a:=⟨w.heap.size+1+1,_,none⟩) hn3 _) (a:=⟨w.heap.size+1+1,_,none⟩) hn3 _),(Below.setCell (Below.setCell (Below.setCell (Below.setCell (Below.setCell hb01 (p:=⟨w.heap.size+1+1,_,none⟩) hn4 _) (p:=⟨w.heap.size+1+1,_,none⟩) hn4 _) (p:=⟨w.heap.size+1+1,_,none⟩) hn4 _) (p:=⟨w.heap.size+1+1,_,none⟩) hn4 _) (p:=⟨w.heap.size+1+1,_,none⟩) hn4 _)⟩
  obtain ⟨W1,hW1,bx,br,bo,hk1,hb01⟩:=hx1;go_upto_region 3 with fail
  clear hW1 HE hb1;obtain ⟨hds,hdn⟩:=(HS.out.2.1.frame hb01).sl;have HDS:=Lh hds;have HDN:=Lh hdn;clear hds hdn;have q10:W1.cell? ⟨w.heap.size,10,none⟩=some (.slice ad2 x.ds.length cap2):=bx.cell rfl;have o10:W1.cell? ⟨w.heap.size+1+1,10,none⟩=some (.slice none 0 0):=bo.cell rfl;have f10:=bo.frozen 10;obtain ⟨j0,hj,jz0,jz1,jz2⟩:=info_parts Z1k;have hy0:=bx.lt;have hy2:=bo.lt;have hba:=Zac W1 (.cells #[] 3)
  go_wp2_with (at_builtin;refine Zgy rfl (.tmp 20) (.tmp 22) 26 rfl 3 j0 _ 1 8 Z3h hj jz0 jz1 jz2 (by decide) ⟨W1.heap.size,0,none⟩ ad2 x.ds.length cap2 _ rfl rfl (HDS.out.below hba) HDN.out (by omega) (by omega) ?_;intro a4 c4 W2 hsl4 hg4 hne4 hb4;have hb14:Below W1.heap.size W1 W2:=hba.trans (hb4.mono hba.size);have p10:W2.cell? ⟨w.heap.size+1+1,10,none⟩=some (.slice none 0 0):=Zad hb14 o10;have g10:W2.frozen? ⟨w.heap.size+1+1,10,none⟩=false:=(bo.below hb14 bo.lt).frozen 10)
  have hx3:∃ W3,W2.setCell ⟨w.heap.size+1+1,10,none⟩ (.slice a4 x.ds.length c4)=W3∧BoxN W3 w.heap.size 29 [.int .u8 x.k,.string x.fr,.string x.rc,.string x.nm,.int .u8 x.ex.k,.string x.ex.ra,.string x.ex.nm,.int .i64 x.ex.d,.slice ad1 x.ex.sub.length cap1,.int .i64 x.d,.slice ad2 x.ds.length cap2,.slice ad x.sub.length cap]∧BoxN W3 (w.heap.size+1) 29 [.int .u8 0,.string ⟨#[]⟩,.string ⟨#[]⟩,.string ⟨#[]⟩,.int .u8 0,.string ⟨#[]⟩,.string ⟨#[]⟩,.int .i64 0,.slice none 0 0,.int .i64 0,.slice none 0 0,.slice none 0 0]∧BoxN W3 (w.heap.size+1+1) 29 [.int .u8 x.k,.string x.fr,.string x.rc,.string x.nm,.int .u8 x.ex.k,.string x.ex.ra,.string x.ex.nm,.int .i64 x.ex.d,.slice aX x.ex.sub.length cX,.int .i64 x.d,.slice a4 x.ds.length c4,.slice none 0 0] ∧
    Keep none (w.heap.size+1+1+1) W3 (fun W=>exR (x.ex,.slice aX x.ex.sub.length cX) W∧RdI W x.ds (.slice a4 x.ds.length c4))∧Below w.heap.size w W3∧(w.heap.size+1+1+1)≤W3.heap.size:=by
   refine ⟨_,rfl,(bx.below hb14 bx.lt).far (a:=⟨w.heap.size+1+1,_,none⟩) hn1 _,(br.below hb14 br.lt).far (a:=⟨w.heap.size+1+1,_,none⟩) hn2 _,(bo.below hb14 bo.lt).set 10 _,Keep.set (base:=w.heap.size+1+1+1) (fun w' hz hag=>⟨?_,?_⟩) (a:=⟨w.heap.size+1+1,_,none⟩) (Nat.lt_succ_self _) _,Below.setCell (hb01.trans (hb14.mono hb01.size)) (p:=⟨w.heap.size+1+1,_,none⟩) hn4 _,?_⟩
   ·exact hk1.below hb14 w' hz fun b hb1 hb2 hb3=>hag b (hz00 ▸ hb1) hb2 hb3
   ·exact Zwm hsl4 (hg4.imp id fun ⟨g,e,hg⟩=>⟨g,e,Nat.le_trans (Nat.le_of_lt_succ (Nat.lt_succ_of_le (Nat.le_trans hy2 hba.size))) hg⟩) hne4 w' hz hag
   ·show _≤(W2.setCell _ _).heap.size;simp only [World.setCell,Array.size_modify];exact Nat.le_trans hy2 hb14.size
  obtain ⟨W3,hW3,bx,br,bo,hk3,hb03,hz3⟩:=hx3;obtain ⟨S1,hS1⟩:∃ S1,W1.heap.size=S1:=⟨_,rfl⟩
  rw [hS1];first | rw [hW3] | skip
  clear hW3 hS1 HDS HDN hba q10 o10 f10 hy0 hy2 hb01 hb14 p10 g10 hb4 hsl4 hg4 hk1 o4 o5 o6 o7 o8 f4 f5 f6 f7 f8;go_loopw [4] (fun i wr=>∃ (LL:List CoV) (a2:Option Addr) (c2:Nat),LL.length≤x.sub.length∧i = .int .i64 (LL.length:Int)∧Hid (LL.map Prod.fst=x.sub.take LL.length∧PRow conC 29 12 conR (fun W=>exR (x.ex,.slice aX x.ex.sub.length cX) W∧RdI W x.ds (.slice a4 x.ds.length c4)) w (w.heap.size+1+1+1) LL a2 c2 wr) ∧
   BoxN wr w.heap.size 29 [.int .u8 x.k,.string x.fr,.string x.rc,.string x.nm,.int .u8 x.ex.k,.string x.ex.ra,.string x.ex.nm,.int .i64 x.ex.d,.slice ad1 x.ex.sub.length cap1,.int .i64 x.d,.slice ad2 x.ds.length cap2,.slice ad x.sub.length cap]∧BoxN wr (w.heap.size+1) 29 [.int .u8 0,.string ⟨#[]⟩,.string ⟨#[]⟩,.string ⟨#[]⟩,.int .u8 0,.string ⟨#[]⟩,.string ⟨#[]⟩,.int .i64 0,.slice none 0 0,.int .i64 0,.slice none 0 0,.slice none 0 0] ∧
   BoxN wr (w.heap.size+1+1) 29 [.int .u8 x.k,.string x.fr,.string x.rc,.string x.nm,.int .u8 x.ex.k,.string x.ex.ra,.string x.ex.nm,.int .i64 x.ex.d,.slice aX x.ex.sub.length cX,.int .i64 x.d,.slice a4 x.ds.length c4,.slice a2 LL.length c2]) (fun i _=>x.sub.length - (intOf i).toNat)
  case atStart =>
   exact ⟨[],none,0,Nat.zero_le _,rfl,Lh ⟨rfl,World.ownsRow_nil _ _ _ _,fun _ h=>(by cases h),hb03,hz3,hk3⟩,bx,br,bo⟩
  case round =>
   obtain ⟨LL,a2,c2,hk,rfl,HL,hbx,hbr,hbo⟩:=hrel;obtain ⟨k,hkk⟩:∃ k,LL.length=k:=⟨_,rfl⟩
   have HK:=Lh hkk;rw [hkk] at hk hbo ⊢;have q0:wr.cell? ⟨w.heap.size,11,none⟩=some (.slice ad x.sub.length cap):=hbx.cell rfl;have q1:wr.cell? ⟨w.heap.size+1+1,11,none⟩=some (.slice a2 k c2):=hbo.cell rfl;clear hkk;by_cases hlt:k < x.sub.length
   ·obtain ⟨y,hy⟩:∃ y,x.sub[k]? = some y:=⟨_,List.getElem?_eq_getElem hlt⟩
    obtain ⟨b,off,e9,f9,s9,rfl,hc,hs'⟩:=(HS.out.2.2.1.frame HL.out.2.2.2.1).cells hy;obtain ⟨d0,d1,d2,d3,d4,d5,d6,d7,d8,d9,d10,d11⟩:=hc;have hk1:(0:Int)≤(k:Int):=by omega
    have hk2:(k:Int) < (x.sub.length:Int):=by omega
    have hym:=Con.mem_lt (List.mem_of_getElem? hy);have HC:=Lh fun (V:World) (hV:Below wr.heap.size wr V)=>HI.out y e9 f9 s9 V (by omega) (by omega) (hs'.frame hV)
    have HY:=Lh hy;unfold Con.val at HC;clear hy hym hs';go_wp2_with fail;refine Zbb (fun L a w'=>∃ (sn:Value × Value × Value) (g:Nat) (r v0 v1 v2 v3 v4 v5 v6 v7 v8 v9 v10:Value),a=⟨#[.agg #[.int .u8 (x.k:Int),.string x.fr,.string x.rc,.string x.nm,.int .u8 (x.ex.k:Int),.string x.ex.ra,.string x.ex.nm,.int .i64 x.ex.d,.slice ad1 x.ex.sub.length cap1,.int .i64 x.d,.slice ad2 x.ds.length cap2,.slice (some ⟨b,off,none⟩) x.sub.length cap],.pointer (some ⟨w.heap.size,0,none⟩),.pointer (some ⟨w.heap.size+1,0,none⟩),.pointer (some ⟨w.heap.size+1+1,0,none⟩),.int .i64 (k:Int),.pointer (some ⟨w.heap.size,0,none⟩),.int .u8 (x.k:Int),.pointer (some ⟨w.heap.size,1,none⟩),.string x.fr,.pointer (some ⟨w.heap.size,2,none⟩),.string x.rc,.pointer (some ⟨w.heap.size,3,none⟩),.string x.nm,.pointer (some ⟨w.heap.size,9,none⟩),.int .i64 x.d,.agg #[.int .u8 (x.k:Int),.string x.fr,.string x.rc,.string x.nm,.int .u8 0,.string ⟨#[]⟩,.string ⟨#[]⟩,.int .i64 0,.slice none 0 0,.int .i64 x.d,.slice none 0 0,.slice none 0 0],.pointer (some ⟨w.heap.size,4,none⟩),.agg #[.int .u8 (x.ex.k:Int),.string x.ex.ra,.string x.ex.nm,.int .i64 x.ex.d,.slice ad1 x.ex.sub.length cap1],.agg #[.int .u8 (x.ex.k:Int),.string x.ex.ra,.string x.ex.nm,.int .i64 x.ex.d,.slice aX x.ex.sub.length cX],.pointer (some ⟨w.heap.size+1+1,4,none⟩),.slice (some ⟨S1,0,none⟩) 0 0,.pointer (some ⟨w.heap.size,10,none⟩),.slice ad2 x.ds.length cap2,.slice a4 x.ds.length c4,.pointer (some ⟨w.heap.size+1+1,10,none⟩),.int .i64 (k:Int),.pointer (some ⟨w.heap.size,11,none⟩),.slice (some ⟨b,off,none⟩) x.sub.length cap,.int .i64 (x.sub.length:Int),.bool true,u30,u31,v0,v1,v2,v3,v4,v5,v6,v7,v8,v9,v10,undef],[]⟩∧VInv w' [.pointer (some ⟨w.heap.size+1+1,11,none⟩),.slice a2 k c2,.pointer (some ⟨w.heap.size,11,none⟩),.slice (some ⟨b,off,none⟩) x.sub.length cap,.int .i64 (k:Int),.pointer (some ⟨b,off+k * 12,none⟩),.agg #[.int .u8 (y.k:Int),.string y.fr,.string y.rc,.string y.nm,.int .u8 (y.ex.k:Int),.string y.ex.ra,.string y.ex.nm,.int .i64 y.ex.d,e9,.int .i64 y.d,f9,s9],.agg #[.int .u8 (y.k:Int),.string y.fr,.string y.rc,.string y.nm,.int .u8 (y.ex.k:Int),.string y.ex.ra,.string y.ex.nm,.int .i64 y.ex.d,sn.1,.int .i64 y.d,sn.2.1,sn.2.2],.slice (some ⟨g,0,none⟩) 1 1,r,.pointer (some ⟨w.heap.size+1+1,11,none⟩)] [v0,v1,v2,v3,v4,v5,v6,v7,v8,v9,v10] L w' ∧
     TwI (fun w1=>∃ q,w1=wr.drewN q) (fun w1 sn=>Below wr.heap.size wr w1∧Keep none wr.heap.size w1 (conR (y,sn))∧Zpz sn) (fun w1 sn g=>Below wr.heap.size wr w1∧Keep none wr.heap.size w1 (conR (y,sn))∧Zpz sn∧∀ j u,(conC (y,sn))[j]? = some u→w1.cell? ((⟨g,0,none⟩:Addr).add j)=some u)
      (fun w1 sn r=>∃ a3 c3,r = .slice a3 (k+1) c3∧Hid (PRow conC 29 12 conR (fun W=>exR (x.ex,.slice aX x.ex.sub.length cX) W∧RdI W x.ds (.slice a4 x.ds.length c4)) w (w.heap.size+1+1+1) (LL ++ [(y,sn)]) a3 c3 w1)∧BoxN w1 w.heap.size 29 [.int .u8 (x.k:Int),.string x.fr,.string x.rc,.string x.nm,.int .u8 (x.ex.k:Int),.string x.ex.ra,.string x.ex.nm,.int .i64 x.ex.d,.slice ad1 x.ex.sub.length cap1,.int .i64 x.d,.slice ad2 x.ds.length cap2,.slice (some ⟨b,off,none⟩) x.sub.length cap]∧BoxN w1 (w.heap.size+1) 29 [.int .u8 0,.string ⟨#[]⟩,.string ⟨#[]⟩,.string ⟨#[]⟩,.int .u8 0,.string ⟨#[]⟩,.string ⟨#[]⟩,.int .i64 0,.slice none 0 0,.int .i64 0,.slice none 0 0,.slice none 0 0]∧BoxN w1 (w.heap.size+1+1) 29 [.int .u8 (x.k:Int),.string x.fr,.string x.rc,.string x.nm,.int .u8 (x.ex.k:Int),.string x.ex.ra,.string x.ex.nm,.int .i64 x.ex.d,.slice aX x.ex.sub.length cX,.int .i64 x.d,.slice a4 x.ds.length c4,.slice a2 k c2]) (fun w1 sn r=>∃ a3 c3,Hid (PRow conC 29 12 conR (fun W=>exR (x.ex,.slice aX x.ex.sub.length cX) W∧RdI W x.ds (.slice a4 x.ds.length c4)) w (w.heap.size+1+1+1) (LL ++ [(y,sn)]) a3 c3 w1)∧BoxN w1 w.heap.size 29 [.int .u8 (x.k:Int),.string x.fr,.string x.rc,.string x.nm,.int .u8 (x.ex.k:Int),.string x.ex.ra,.string x.ex.nm,.int .i64 x.ex.d,.slice ad1 x.ex.sub.length cap1,.int .i64 x.d,.slice ad2 x.ds.length cap2,.slice (some ⟨b,off,none⟩) x.sub.length cap]∧BoxN w1 (w.heap.size+1) 29 [.int .u8 0,.string ⟨#[]⟩,.string ⟨#[]⟩,.string ⟨#[]⟩,.int .u8 0,.string ⟨#[]⟩,.string ⟨#[]⟩,.int .i64 0,.slice none 0 0,.int .i64 0,.slice none 0 0,.slice none 0 0]∧BoxN w1 (w.heap.size+1+1) 29 [.int .u8 (x.k:Int),.string x.fr,.string x.rc,.string x.nm,.int .u8 (x.ex.k:Int),.string x.ex.ra,.string x.ex.nm,.int .i64 x.ex.d,.slice aX x.ex.sub.length cX,.int .i64 x.d,.slice a4 x.ds.length c4,.slice a3 (k+1) c3]) L sn g r w') (by kernel_rfl) (by kernel_rfl) ?_ ?_ ?_
    ·exact ⟨(.slice none 0 0,.slice none 0 0,.slice none 0 0),0,.slice none 0 0,_,_,_,_,_,_,_,_,_,_,_,rfl,VInv.start (Below.refl _ _) rfl,fun _=>⟨1,rfl⟩,fun h=>(by cases h),fun h=>(by cases h),fun h=>(by cases h),fun h=>(by cases h)⟩
    ·rintro L a w' ⟨sn,g,r,v0,v1,v2,v3,v4,v5,v6,v7,v8,v9,v10,rfl,h,ht⟩ hcl i o ho hL hp;have hi9:i < 12:=by simpa using (Array.getElem?_eq_some_iff.1 ho).1
     have hi2:i=0∨i=1∨i=2∨i=3∨i=4∨i=5∨i=6∨i=7∨i=8∨i=9∨i=10∨i=11:=by omega
     clear hi9;have hbl:=fun h9=>ht.bel (wr:=wr) (fun _ ⟨q,e⟩=>e ▸ below_drewN (Below.refl _ _) q) (fun _ _ e=>e.1) (fun _ _ _ e=>e.1) h9
     rcases hi2 with rfl | rfl | rfl | rfl | rfl | rfl | rfl | rfl | rfl | rfl | rfl | rfl
     ·refine wpOp_step rfl ?_;intro K hK;go_simp;exact hK _ _ ⟨sn,g,r,_,_,_,_,_,_,_,_,_,_,_,rfl,h.step (i:=0) (v:=.pointer (some ⟨w.heap.size+1+1,11,none⟩)) rfl,ht.keep (by decide)⟩
     ·refine wpOp_step rfl ?_;intro K hK;obtain rfl:=h.at (i:=0) (Zaa ho hp (j:=0) (by kernel_rfl)) rfl rfl;have z:=Zad (hbl (Zba hcl hL 9 (by kernel_rfl))) q1;go_simp;exact hK _ _ ⟨sn,g,r,_,_,_,_,_,_,_,_,_,_,_,rfl,h.step (i:=1) (v:=.slice a2 k c2) rfl,ht.keep (by decide)⟩
     ·refine wpOp_step rfl ?_;intro K hK;go_simp;exact hK _ _ ⟨sn,g,r,_,_,_,_,_,_,_,_,_,_,_,rfl,h.step (i:=2) (v:=.pointer (some ⟨w.heap.size,11,none⟩)) rfl,ht.keep (by decide)⟩
     ·refine wpOp_step rfl ?_;intro K hK;obtain rfl:=h.at (i:=2) (Zaa ho hp (j:=2) (by kernel_rfl)) rfl rfl;obtain ⟨q,rfl⟩:=ht.a (Zba hcl (Zba hcl (Zba hcl hL 5 (by kernel_rfl)) 6 (by kernel_rfl)) 7 (by kernel_rfl));have z:=Za4 q q0;go_simp;exact hK _ _ ⟨sn,g,r,_,_,_,_,_,_,_,_,_,_,_,rfl,h.step (i:=3) (v:=.slice (some ⟨b,off,none⟩) x.sub.length cap) rfl,ht.keep (by decide)⟩
     ·refine wpOp_step rfl ?_;intro K hK;go_simp;exact hK _ _ ⟨sn,g,r,_,_,_,_,_,_,_,_,_,_,_,rfl,h.step (i:=4) (v:=.int .i64 (k:Int)) rfl,ht.keep (by decide)⟩
     ·refine wpOp_step rfl ?_;intro K hK;obtain rfl:=h.at (i:=3) (Zaa ho hp (j:=3) (by kernel_rfl)) rfl rfl;obtain rfl:=h.at (i:=4) (Zaa ho hp (j:=4) (by kernel_rfl)) rfl rfl;go_simp;exact hK _ _ ⟨sn,g,r,_,_,_,_,_,_,_,_,_,_,_,rfl,h.step (i:=5) (v:=.pointer (some ⟨b,off+k * 12,none⟩)) rfl,ht.keep (by decide)⟩
     ·refine wpOp_step rfl ?_;intro K hK;obtain rfl:=h.at (i:=5) (Zaa ho hp (j:=5) (by kernel_rfl)) rfl rfl;obtain ⟨q,rfl⟩:=ht.a (Zba hcl hL 7 (by kernel_rfl));have z0:=Za4 q d0;have z1:=Za4 q d1;have z2:=Za4 q d2;have z3:=Za4 q d3;have z4:=Za4 q d4;have z5:=Za4 q d5;have z6:=Za4 q d6;have z7:=Za4 q d7;have z8:=Za4 q d8;have z9:=Za4 q d9;have z10:=Za4 q d10;have z11:=Za4 q d11;go_simp;exact hK _ _ ⟨sn,g,r,_,_,_,_,_,_,_,_,_,_,_,rfl,h.step (i:=6) (v:=.agg #[.int .u8 (y.k:Int),.string y.fr,.string y.rc,.string y.nm,.int .u8 (y.ex.k:Int),.string y.ex.ra,.string y.ex.nm,.int .i64 y.ex.d,e9,.int .i64 y.d,f9,s9]) rfl,ht.keep (by decide)⟩
     ·refine wpOp_step rfl ?_;intro K hK;obtain rfl:=h.at (i:=6) (Zaa ho hp (j:=6) (by kernel_rfl)) rfl rfl;obtain ⟨q,rfl⟩:=ht.a hL;have h8:=Zba hcl hL 8 (by kernel_rfl);have h9:=Zba hcl h8 9 (by kernel_rfl);have h11:=Zba hcl h9 11 (by kernel_rfl);go_simp;refine (HC.out (wr.drewN q) (below_drewN (Below.refl _ _) q)).mono ?_;rintro e w4 ⟨s4,rfl,hk4,hs4,hb4⟩;exact hK _ _ ⟨s4,g,r,_,_,_,_,_,_,_,_,_,_,_,rfl,VInv.step (i:=7) (v:=.agg #[.int .u8 (y.k:Int),.string y.fr,.string y.rc,.string y.nm,.int .u8 (y.ex.k:Int),.string y.ex.ra,.string y.ex.nm,.int .i64 y.ex.d,s4.1,.int .i64 y.d,s4.2.1,s4.2.2]) (h.late hL _).re rfl,TwI.u7 h8 h9 h11 ⟨(below_drewN (Below.refl _ _) q).trans hb4,hk4,hs4⟩⟩
     ·refine wpOp_step rfl ?_;intro K hK;obtain rfl:=h.at (i:=7) (Zaa ho hp (j:=7) (by kernel_rfl)) rfl rfl;have h7:=Zaa ho hp (j:=7) (by kernel_rfl);have h9:=Zba hcl hL 9 (by kernel_rfl);have h11:=Zba hcl h9 11 (by kernel_rfl);obtain ⟨hb1,hk1,hs1⟩:=ht.b h7 hL;go_simp;exact hK _ _ ⟨sn,w'.heap.size,r,_,_,_,_,_,_,_,_,_,_,_,rfl,VInv.step (i:=8) (v:=.slice (some ⟨w'.heap.size,0,none⟩) 1 1) (h.late hL _).re rfl,TwI.u8 h7 h9 h11 ⟨hb1.alloc hb1.size _,hk1.below (Zac _ _),hs1,Zo1 _ _ _⟩⟩
     ·refine wpOp_step rfl ?_;intro K hK;obtain rfl:=h.at (i:=1) (Zaa ho hp (j:=1) (by kernel_rfl)) rfl rfl;obtain rfl:=h.at (i:=8) (Zaa ho hp (j:=8) (by kernel_rfl)) rfl rfl;have h8:=Zaa ho hp (j:=8) (by kernel_rfl);have h7:=Zcx hcl h8 (j:=7) (by kernel_rfl);have h11:=Zba hcl hL 11 (by kernel_rfl);obtain ⟨hb2,hk2,hs2,hc2⟩:=ht.c h8 hL;have hz:=HL.out.2.2.2.2.1;refine Zg4 rfl (.tmp 33) (.tmp 40) 27 rfl (w.heap.size+1+1+1) 29 i0 (.agg #[.int .u8 0,.string ⟨#[]⟩,.string ⟨#[]⟩,.string ⟨#[]⟩,.int .u8 0,.string ⟨#[]⟩,.string ⟨#[]⟩,.int .i64 0,.slice none 0 0,.int .i64 0,.slice none 0 0,.slice none 0 0]) 12 184 Z2h hi hz0 hz1 hz2 rfl (by decide) (.slice a2 k c2) k (LL.flatMap conC) rfl (Zag (HK.out ▸ HL.out.2.1) hb2) ⟨g,0,none⟩ 1 1 (conC (y,sn)) rfl (Zmz _) hc2 (Zyu _ hs2) (by simp only [maxLen];omega) (by omega) (Nat.le_trans hz hb2.size) ?_
      intro v2 w2 ho2 hg2 hl2;obtain ⟨a3,c3,rfl,hR3⟩:=PRow.append HL.out.2 (by omega) hb2 (y:=(y,sn)) hk2 (by rw [HK.out];exact ho2) (by rw [HK.out];exact hg2) (by rw [HK.out];exact hl2);have hz3:(LL ++ [(y,sn)]).length=k+1:=by rw [List.length_append,HK.out];rfl
      have hg9:w'.grownBy w2 (Value.slice a2 LL.length c2).ownBlock:=by rw [HK.out];exact hg2
      rw [hz3];exact hK _ _ ⟨sn,g,.slice a3 (k+1) c3,_,_,_,_,_,_,_,_,_,_,_,rfl,VInv.step (i:=9) (v:=.slice a3 (k+1) c3) (h.late hL _).re rfl,TwI.u9 h7 h8 h11 ⟨a3,c3,rfl,Lh hR3,PRow.kept HL.out.2 hb2 hg9 hbx (by omega),PRow.kept HL.out.2 hb2 hg9 hbr (by omega),PRow.kept HL.out.2 hb2 hg9 hbo (by omega)⟩⟩
     ·refine wpOp_step rfl ?_;intro K hK;go_simp;exact hK _ _ ⟨sn,g,r,_,_,_,_,_,_,_,_,_,_,_,rfl,h.step (i:=10) (v:=.pointer (some ⟨w.heap.size+1+1,11,none⟩)) rfl,ht.keep (by decide)⟩
     ·refine wpOp_step rfl ?_;intro K hK;obtain rfl:=h.at (i:=10) (Zaa ho hp (j:=10) (by kernel_rfl)) rfl rfl;obtain rfl:=h.at (i:=9) (Zaa ho hp (j:=9) (by kernel_rfl)) rfl rfl;have h9:=Zaa ho hp (j:=9) (by kernel_rfl);have h8:=Zcx hcl h9 (j:=8) (by kernel_rfl);have h7:=Zcx hcl h8 (j:=7) (by kernel_rfl);obtain ⟨a3,c3,rfl,hR3,hx3,hr3,ho3⟩:=ht.d h9 hL;have z:=ho3.cell (j:=11) rfl;have z1:=ho3.frozen 11
      go_simp;exact hK _ _ ⟨sn,g,_,_,_,_,_,_,_,_,_,_,_,_,rfl,(h.skip (Nat.le_refl _)).re,TwI.u11 h7 h8 h9 ⟨a3,c3,Lh (hR3.out.set (by show w.heap.size+1+1 < _;omega) (by show _≤w.heap.size+1+1;omega) _),hx3.far (by show w.heap.size ≠ w.heap.size+1+1;omega) _,hr3.far (by show w.heap.size+1 ≠ w.heap.size+1+1;omega) _,ho3.set 11 _⟩⟩
    ·rintro L a w4 ⟨sn,g,r,v0,v1,v2,v3,v4,v5,v6,v7,v8,v9,v10,rfl,h,ht⟩ hall;obtain ⟨a3,c3,hR3,hx3,hr3,ho3⟩:=ht.e (hall 11 (by decide));have hz3:(LL ++ [(y,sn)]).length=k+1:=by rw [List.length_append,HK.out];rfl
     have HZ:Hid ((LL ++ [(y,sn)]).map Prod.fst=x.sub.take (LL ++ [(y,sn)]).length):=Lh (by rw [hz3,List.map_append,HL.out.1,HK.out,Zau HY.out];rfl);clear h ht hall;go_wp2;go_roundw
     case rel=>exact ⟨LL ++ [(y,sn)],a3,c3,by omega,by rw [hz3];go_num,Lh ⟨HZ.out,hR3.out⟩,hx3,hr3,hz3 ▸ ho3⟩
     case measure=>simp [intOf];omega
   ·obtain rfl:k=x.sub.length:=by omega
    have o0:wr.cell? ⟨w.heap.size+1+1,0,none⟩=some (.int .u8 x.k):=hbo.cell rfl;have o1:wr.cell? ⟨w.heap.size+1+1,1,none⟩=some (.string x.fr):=hbo.cell rfl;have o2:wr.cell? ⟨w.heap.size+1+1,2,none⟩=some (.string x.rc):=hbo.cell rfl;have o3:wr.cell? ⟨w.heap.size+1+1,3,none⟩=some (.string x.nm):=hbo.cell rfl;have o4:wr.cell? ⟨w.heap.size+1+1,4,none⟩=some (.int .u8 x.ex.k):=hbo.cell rfl;have o5:wr.cell? ⟨w.heap.size+1+1,5,none⟩=some (.string x.ex.ra):=hbo.cell rfl
    have o6:wr.cell? ⟨w.heap.size+1+1,6,none⟩=some (.string x.ex.nm):=hbo.cell rfl;have o7:wr.cell? ⟨w.heap.size+1+1,7,none⟩=some (.int .i64 x.ex.d):=hbo.cell rfl;have o8:wr.cell? ⟨w.heap.size+1+1,8,none⟩=some (.slice aX x.ex.sub.length cX):=hbo.cell rfl;have o9:wr.cell? ⟨w.heap.size+1+1,9,none⟩=some (.int .i64 x.d):=hbo.cell rfl;have o10:wr.cell? ⟨w.heap.size+1+1,10,none⟩=some (.slice a4 x.ds.length c4):=hbo.cell rfl
    have o11:wr.cell? ⟨w.heap.size+1+1,11,none⟩=some (.slice a2 x.sub.length c2):=hbo.cell rfl;have r0:wr.cell? ⟨w.heap.size+1,0,none⟩=some (.int .u8 0):=hbr.cell rfl;have r1:wr.cell? ⟨w.heap.size+1,1,none⟩=some (.string ⟨#[]⟩):=hbr.cell rfl;have r2:wr.cell? ⟨w.heap.size+1,2,none⟩=some (.string ⟨#[]⟩):=hbr.cell rfl;have r3:wr.cell? ⟨w.heap.size+1,3,none⟩=some (.string ⟨#[]⟩):=hbr.cell rfl;have r4:wr.cell? ⟨w.heap.size+1,4,none⟩=some (.int .u8 0):=hbr.cell rfl
    have r5:wr.cell? ⟨w.heap.size+1,5,none⟩=some (.string ⟨#[]⟩):=hbr.cell rfl;have r6:wr.cell? ⟨w.heap.size+1,6,none⟩=some (.string ⟨#[]⟩):=hbr.cell rfl;have r7:wr.cell? ⟨w.heap.size+1,7,none⟩=some (.int .i64 0):=hbr.cell rfl;have r8:wr.cell? ⟨w.heap.size+1,8,none⟩=some (.slice none 0 0):=hbr.cell rfl;have r9:wr.cell? ⟨w.heap.size+1,9,none⟩=some (.int .i64 0):=hbr.cell rfl;have r10:wr.cell? ⟨w.heap.size+1,10,none⟩=some (.slice none 0 0):=hbr.cell rfl
    have r11:wr.cell? ⟨w.heap.size+1,11,none⟩=some (.slice none 0 0):=hbr.cell rfl;have f0:=hbr.frozen 0;have f1:=hbr.frozen 1;have f2:=hbr.frozen 2;have f3:=hbr.frozen 3;have f4:=hbr.frozen 4;have f5:=hbr.frozen 5;have f6:=hbr.frozen 6;have f7:=hbr.frozen 7;have f8:=hbr.frozen 8;have f9:=hbr.frozen 9;have f10:=hbr.frozen 10;have f11:=hbr.frozen 11;have HF:Hid (∀ u,PRow conC 29 12 conR (fun W=>exR (x.ex,.slice aX x.ex.sub.length cX) W∧RdI W x.ds (.slice a4 x.ds.length c4)) w (w.heap.size+1+1+1) LL a2 c2 u→Keep none w.heap.size u (conR (x,(.slice aX x.ex.sub.length cX,.slice a4 x.ds.length c4,.slice a2 x.sub.length c2)))∧Below w.heap.size w u):=Lh fun u hu=>⟨fun u2 hz2 hag=>by
     have hM2:=HL.out.1;rw [HK.out,List.take_length] at hM2;have hr0:=hu.2.2.2.2 u2 hz2 fun b hb1 hb2 _=>hag b (by omega) hb2 (by simp)
     refine ⟨hr0.1,hr0.2,Zui hM2 HK.out hu (fun y hy=>?_) hz2 fun b hb1 hb2=>hag b (by omega) hb2 (by simp),HS.out.2.2.2⟩;obtain ⟨j,hj⟩:=List.getElem?_of_mem hy;obtain ⟨_,_,_,_,_,_,_,_,_,_,h8⟩:=HS.out.2.2.1.at hj;exact h8,hu.2.2.1⟩
    go_wp2_with fail;refine bodyPost_ret (v:=.agg #[.int .u8 x.k,.string x.fr,.string x.rc,.string x.nm,.int .u8 x.ex.k,.string x.ex.ra,.string x.ex.nm,.int .i64 x.ex.d,.slice aX x.ex.sub.length cX,.int .i64 x.d,.slice a4 x.ds.length c4,.slice a2 x.sub.length c2]) (by simp [results,Tryz.results10,go_sem,r0,r1,r2,r3,r4,r5,r6,r7,r8,r9,r10,r11]) rfl ?_;have hs5:=fun (u:World) (hu:PRow conC 29 12 conR (fun W=>exR (x.ex,.slice aX x.ex.sub.length cX) W∧RdI W x.ds (.slice a4 x.ds.length c4)) w (w.heap.size+1+1+1) LL a2 c2 u) (j:Nat) (v:Value)=>hu.set (a:=⟨w.heap.size+1,j,none⟩) (by show w.heap.size+1 < _;omega) (by show _≤w.heap.size+1;omega) v
    refine ⟨(.slice aX x.ex.sub.length cX,.slice a4 x.ds.length c4,.slice a2 x.sub.length c2),rfl,(HF.out _ ?_).1,⟨⟨_,_,_,rfl⟩,⟨_,_,_,rfl⟩,⟨_,_,_,rfl⟩⟩,(HF.out _ ?_).2⟩ <;> exact hs5 _ (hs5 _ (hs5 _ (hs5 _ (hs5 _ (hs5 _ (hs5 _ (hs5 _ (hs5 _ (hs5 _ (hs5 _ (hs5 _ HL.out.2 0 _) 1 _) 2 _) 3 _) 4 _) 5 _) 6 _) 7 _) 8 _) 9 _) 10 _) 11 _
def fndV:Option Fx→ByteArray
 | some f=>f.vl
 | none=>⟨#[]⟩
theorem Zvx {α:Type} {p:α→Bool} {l:List α} {k:Nat} {x:α} (hk:l[k]? = some x) (hp:p x=true) (ha:∀ y ∈ l.take k,p y=false):l.find? p=some x:=by
 rw [Zjl,Zd2 hk hp ha,Option.bind_some,hk]
theorem Zuc (F:List Fx) (C:List Ch) (af ac:Option Addr) (cf cc:Nat) (nm:ByteArray) (d:Int) (w:World) (hn:F.length≤1100000) (hr:Rd Fx.cells 3 w af F) :
  Calls Tryz.prog 182 #[.agg #[.slice af F.length cf,.slice ac C.length cc],.string nm,.int .i64 d] w fun e w'=>e = .returned (.tuple #[.string (fndV (F.find? (fxIs ⟨nm,d,⟨#[]⟩⟩))),.bool (F.find? (fxIs ⟨nm,d,⟨#[]⟩⟩)).isSome])∧Below w.heap.size w w':=by
 obtain ⟨W1,hW1⟩:∃ W,w.alloc (.cells #[.slice af F.length cf,.slice ac C.length cc] 33)=W:=⟨_,rfl⟩
 have hb1:Below w.heap.size w W1:=by rw [← hW1];exact Zac _ _
 have bx:Zai W1 w.heap.size 33 (.slice af F.length cf) (.slice ac C.length cc):=by rw [← hW1];exact Zai.new _ _ _ _
 have HD:=Lh (hr.below hb1);have Hb1:=Lh hb1;have hz1:=hb1.size;clear hr hb1;go_enter Tryz.func182,Tryz.ntmps182
 go_upto_region 1 with (fail);clear hW1;go_wp2;go_loopw [8] (fun i wr=>∃ k:Nat,k≤F.length∧i = .int .i64 k∧Hid (∀ y ∈ F.take k,fxIs ⟨nm,d,⟨#[]⟩⟩ y=false)∧Below W1.heap.size W1 wr) (fun i _=>F.length - (intOf i).toNat)
 case atStart=>exact ⟨0,Nat.zero_le _,rfl,Lh (by simp),Below.refl _ _⟩
 case round =>
  obtain ⟨k,hk,rfl,Hall,hbel⟩:=hrel;have bE:=bx.below hbel;have k0:=bE.cell0;have k1:=bE.cell1;have hbz:=Hb1.out.trans (hbel.mono hz1);by_cases hlt:k < F.length
  ·obtain ⟨f,hf⟩:∃ f,F[k]? = some f:=⟨_,List.getElem?_eq_getElem hlt⟩
   obtain ⟨b,off,rfl,hc1,hc2,hc3⟩:=(HD.out.below hbel).fx hf;have hk1:(0:Int)≤(k:Int):=by omega
   have hk2:(k:Int) < (F.length:Int):=by omega
   have HF:=Lh hf;have hsz:=hbel.size;clear hf;by_cases h1:f.nm=nm
   ·have t1:(f.nm.toList == nm.toList)=true:=by rw [Zbm];exact decide_eq_true h1
    by_cases h2:f.d=d
    ·have t2:(f.d == d)=true:=by rw [beq_iff_eq];exact h2
     have HP:Hid (fxIs ⟨nm,d,⟨#[]⟩⟩ f=true):=by show _=_;unfold fxIs;rw [decide_eq_true h1,decide_eq_true h2];rfl
     clear h1 h2;have HR:Hid (F.find? (fxIs ⟨nm,d,⟨#[]⟩⟩)=some f):=Zvx HF.out HP.out Hall.out;clear HP;go_wp2_with fail;go_ret2;exact ⟨by rw [HR.out];rfl,hbz⟩
    ·have t2:(f.d == d)=false:=by rw [beq_eq_false_iff_ne];exact h2
     have HP:Hid (fxIs ⟨nm,d,⟨#[]⟩⟩ f=false):=by show _=_;unfold fxIs;rw [decide_eq_false h2,Bool.and_false]
     have Hall2:Hid (∀ y ∈ F.take (k+1),fxIs ⟨nm,d,⟨#[]⟩⟩ y=false):=Za3 HF.out HP.out Hall.out;clear h1 h2;clear HP;go_wp2_with fail;go_roundw
     case rel=>exact ⟨k+1,by omega,by go_num,Hall2,hbel⟩
     case measure=>simp [intOf];omega
   ·have t1:(f.nm.toList == nm.toList)=false:=by rw [Zbm];exact decide_eq_false h1
    have HP:Hid (fxIs ⟨nm,d,⟨#[]⟩⟩ f=false):=by show _=_;unfold fxIs;rw [decide_eq_false h1,Bool.false_and]
    have Hall2:Hid (∀ y ∈ F.take (k+1),fxIs ⟨nm,d,⟨#[]⟩⟩ y=false):=Za3 HF.out HP.out Hall.out;clear h1;clear HP;go_wp2_with fail;go_roundw
    case rel=>exact ⟨k+1,by omega,by go_num,Hall2,hbel⟩
    case measure=>simp [intOf];omega
  ·obtain rfl:k=F.length:=by omega
   have HR:Hid (F.find? (fxIs ⟨nm,d,⟨#[]⟩⟩)=none):=List.find?_eq_none.2 fun y hy=>by
    have:=Hall.out y (by rwa [List.take_length]);rw [this];decide
   go_wp2;go_ret2;exact ⟨by rw [HR.out];rfl,hbz⟩
theorem Zpa (F:List Fx) (C:List Ch) (af ac:Option Addr) (cf cc:Nat) (pt nm:ByteArray) (d:Int) (w:World) (hn:C.length≤1100000) (hr:Rd Ch.cells 4 w ac C) :
  Calls Tryz.prog 104 #[.agg #[.slice af F.length cf,.slice ac C.length cc],.string pt,.string nm,.int .i64 d] w fun e w'=>e = .returned (.bool (chsB (C.find? (chIs ⟨pt,nm,d,false⟩))))∧Below w.heap.size w w':=by
 obtain ⟨W1,hW1⟩:∃ W,w.alloc (.cells #[.slice af F.length cf,.slice ac C.length cc] 33)=W:=⟨_,rfl⟩
 have hb1:Below w.heap.size w W1:=by rw [← hW1];exact Zac _ _
 have bx:Zai W1 w.heap.size 33 (.slice af F.length cf) (.slice ac C.length cc):=by rw [← hW1];exact Zai.new _ _ _ _
 have HD:=Lh (hr.below hb1);have Hb1:=Lh hb1;have hz1:=hb1.size;clear hr hb1;go_enter Tryz.func104,Tryz.ntmps104
 go_upto_region 1 with (fail);clear hW1;go_wp2;go_loopw [9,10] (fun i _ wr=>∃ k:Nat,k≤C.length∧i = .int .i64 k∧Hid (∀ y ∈ C.take k,chIs ⟨pt,nm,d,false⟩ y=false)∧Below W1.heap.size W1 wr) (fun i _ _=>C.length - (intOf i).toNat)
 case atStart=>exact ⟨0,Nat.zero_le _,rfl,Lh (by simp),Below.refl _ _⟩
 case round =>
  obtain ⟨k,hk,rfl,Hall,hbel⟩:=hrel;have bE:=bx.below hbel;have k0:=bE.cell0;have k1:=bE.cell1;have hbz:=Hb1.out.trans (hbel.mono hz1);by_cases hlt:k < C.length
  ·obtain ⟨f,hf⟩:∃ f,C[k]? = some f:=⟨_,List.getElem?_eq_getElem hlt⟩
   obtain ⟨b,off,rfl,hc1,hc2,hc3,hc4⟩:=(HD.out.below hbel).ch hf;have hk1:(0:Int)≤(k:Int):=by omega
   have hk2:(k:Int) < (C.length:Int):=by omega
   have HF:=Lh hf;have hsz:=hbel.size;clear hf;obtain ⟨W2,hW2⟩:∃ W,wr.alloc (.cells #[.string f.pt,.string f.nm,.int .i64 f.d,.bool f.first] 67)=W:=⟨_,rfl⟩
   have hb3:Below wr.heap.size wr W2:=by rw [← hW2];exact Zac _ _
   have b4:BoxN W2 wr.heap.size 67 [.string f.pt,.string f.nm,.int .i64 f.d,.bool f.first]:=by rw [← hW2];exact BoxN.new _ _ _
   have y0:=b4.cell (j:=0) (u:=.string f.pt) rfl;have y1:=b4.cell (j:=1) (u:=.string f.nm) rfl;have y2:=b4.cell (j:=2) (u:=.int .i64 f.d) rfl;have y3:=b4.cell (j:=3) (u:=.bool f.first) rfl;go_upto_region 5 with (fail);clear hW2 b4 k0 k1 hc1 hc2 hc3 hc4;by_cases h1:f.pt=pt
   ·have t1:(f.pt.toList == pt.toList)=true:=by rw [Zbm];exact decide_eq_true h1
    by_cases h2:f.nm=nm
    ·have t2:(f.nm.toList == nm.toList)=true:=by rw [Zbm];exact decide_eq_true h2
     by_cases h3:f.d=d
     ·have t3:(f.d == d)=true:=by rw [beq_iff_eq];exact h3
      have HP:Hid (chIs ⟨pt,nm,d,false⟩ f=true):=by show _=_;unfold chIs;rw [decide_eq_true h1,decide_eq_true h2,decide_eq_true h3];rfl
      clear h1 h2 h3;have HR:Hid (C.find? (chIs ⟨pt,nm,d,false⟩)=some f):=Zvx HF.out HP.out Hall.out;clear HP;go_wp2_with fail;go_ret;exact ⟨by rw [HR.out];rfl,hbz.trans (hb3.mono hbz.size)⟩
     ·have t3:(f.d == d)=false:=by rw [beq_eq_false_iff_ne];exact h3
      have HP:Hid (chIs ⟨pt,nm,d,false⟩ f=false):=by show _=_;unfold chIs;rw [decide_eq_false h3,Bool.and_false,Bool.and_false]
      have Hall2:Hid (∀ y ∈ C.take (k+1),chIs ⟨pt,nm,d,false⟩ y=false):=Za3 HF.out HP.out Hall.out;clear h1 h2 h3;clear HP;go_wp2_with fail;go_roundw
      case rel=>exact ⟨k+1,by omega,by go_num,Hall2,hbel.trans (hb3.mono hbel.size)⟩
      case measure=>simp [intOf];omega
    ·have t2:(f.nm.toList == nm.toList)=false:=by rw [Zbm];exact decide_eq_false h2
     have HP:Hid (chIs ⟨pt,nm,d,false⟩ f=false):=by show _=_;unfold chIs;rw [decide_eq_false h2,Bool.false_and,Bool.and_false]
     have Hall2:Hid (∀ y ∈ C.take (k+1),chIs ⟨pt,nm,d,false⟩ y=false):=Za3 HF.out HP.out Hall.out;clear h1 h2;clear HP;go_wp2_with fail;go_roundw
     case rel=>exact ⟨k+1,by omega,by go_num,Hall2,hbel.trans (hb3.mono hbel.size)⟩
     case measure=>simp [intOf];omega
   ·have t1:(f.pt.toList == pt.toList)=false:=by rw [Zbm];exact decide_eq_false h1
    have HP:Hid (chIs ⟨pt,nm,d,false⟩ f=false):=by show _=_;unfold chIs;rw [decide_eq_false h1,Bool.false_and]
    have Hall2:Hid (∀ y ∈ C.take (k+1),chIs ⟨pt,nm,d,false⟩ y=false):=Za3 HF.out HP.out Hall.out;clear h1;clear HP;go_wp2_with fail;go_roundw
    case rel=>exact ⟨k+1,by omega,by go_num,Hall2,hbel.trans (hb3.mono hbel.size)⟩
    case measure=>simp [intOf];omega
  ·obtain rfl:k=C.length:=by omega
   have HR:Hid (C.find? (chIs ⟨pt,nm,d,false⟩)=none):=List.find?_eq_none.2 fun y hy=>by
    have:=Hall.out y (by rwa [List.take_length]);rw [this];decide
   go_wp2;go_ret;exact ⟨by rw [HR.out];rfl,hbz⟩
section
variable {E:EvD} {w:World}
theorem Zub (h:E.Rd w) (nm:ByteArray) (d:Int):Calls Tryz.prog 182 #[.agg #[.slice E.af E.F.length E.cf,.slice E.ac E.C.length E.cc],.string nm,.int .i64 d] w fun e w'=>e = .returned (.tuple #[.string (fndV (E.F.find? (fxIs ⟨nm,d,⟨#[]⟩⟩))),.bool (E.F.find? (fxIs ⟨nm,d,⟨#[]⟩⟩)).isSome])∧Below w.heap.size w w' :=
 Zuc E.F E.C E.af E.ac E.cf E.cc nm d w h.nf h.f
theorem Zi9 (h:E.Rd w) (pt nm:ByteArray) (d:Int):Calls Tryz.prog 104 #[.agg #[.slice E.af E.F.length E.cf,.slice E.ac E.C.length E.cc],.string pt,.string nm,.int .i64 d] w fun e w'=>e = .returned (.bool (Za5 E.C pt nm d))∧Below w.heap.size w w' :=
 Zpa E.F E.C E.af E.ac E.cf E.cc pt nm d w h.nc h.c
end
theorem Zqw {E:EvD} {w:World} (h:E.Rd w) (nm:ByteArray) (d:Int):Calls Tryz.prog 150 #[.agg #[.slice E.af E.F.length E.cf,.slice E.ac E.C.length E.cc],.string nm,.int .i64 d] w fun e w'=>e = .returned (.tuple #[.string (fixR E.F nm d).2,.int .i64 (fixR E.F nm d).1])∧Below w.heap.size w w':=by
 have hb0:=Zac w (.cells #[.slice E.af E.F.length E.cf,.slice E.ac E.C.length E.cc] 33);have HC:=Lh (Zub (h.frame hb0) nm d);have Hb0:=Lh hb0;have hz0:=hb0.size;clear h hb0
 cases hR:E.F.find? (fxIs ⟨nm,d,⟨#[]⟩⟩) with
 | none =>
  have HF:Hid (fixR E.F nm d=(30,⟨#[]⟩)):=by show _=_;rw [fixR,hR];rfl
  rw [hR] at HC;clear hR;go_enter Tryz.func150,Tryz.ntmps150
  go_wp2_with fail;refine HC.out.mono ?_;rintro e w1 ⟨rfl,hb1⟩;have hbz:=Hb0.out.trans (hb1.mono hz0);clear HC;go_wp2;go_ret2;exact ⟨by rw [HF.out];rfl,hbz⟩
 | some f =>
  have HF:Hid (fixR E.F nm d=(0,f.vl)):=by show _=_;rw [fixR,hR]
  rw [hR] at HC;clear hR;go_enter Tryz.func150,Tryz.ntmps150
  go_wp2_with fail;refine HC.out.mono ?_;rintro e w1 ⟨rfl,hb1⟩;have hbz:=Hb0.out.trans (hb1.mono hz0);clear HC;go_wp2;go_ret2;exact ⟨by rw [HF.out];rfl,hbz⟩
theorem Zvi (b:ByteArray):bl (⟨#[45]⟩ ++ b)=45 :: bl b:=by rw [Zfc];rfl
theorem Zpv {d:List UInt8} (h:Zcg d false=true) (h48:d ≠ [48]):Zcg d true=true:=by
 unfold Zcg at h ⊢;simp only [Bool.and_eq_true,Bool.not_eq_true',Bool.or_false,Bool.or_true,Bool.and_true] at h ⊢;refine ⟨h.1,?_⟩
 cases d with
 | nil=>rfl
 | cons c t =>
  by_cases hc:c=48
  ·subst hc;have:=h.2
   simp at this
   exact absurd (by rw [this]) h48
  ·simp [hc]
theorem Zj1 {n:List UInt8} (hc:Zar n=true) (hn:Zaj n=false) (h48:n ≠ [48]):Zar (45 :: n)=true∧body (45 :: n)=body n:=by
 have hb:body n=n:=by
  unfold body;rw [if_neg];intro e;rw [Zaj,e] at hn;cases hn
 refine ⟨?_,by rw [hb,Zjk]⟩;rw [Zar,hb,hn] at hc;rw [Zar,Zjk,Zhz];exact Zpv hc h48
theorem Zl3 {n:List UInt8} (hc:Zar n=true) (hn:Zaj n=false) (h48:n ≠ [48]):Zab (45 :: n)=Zab n:=by
 obtain ⟨h1,h2⟩:=Zj1 hc hn h48;rw [Zab,Zab,if_pos h1,if_pos hc,h2]
theorem Zqd {n d:List UInt8} (hc:Zar n=true) (hn:Zaj n=false) (h48:n ≠ [48]):Zbq (45 :: n) d=Zbq n d:=by
 obtain ⟨h1,h2⟩:=Zj1 hc hn h48;rw [Zbq,Zbq,h1,hc,h2,Zl3 hc hn h48]
theorem Zxw (b:ByteArray):Za2 (⟨#[45]⟩ ++ b)=if Za2 b = -1 then -1 else Za2 b+1:=by
 unfold Za2;rw [Zvi,Lib.indexByte];simp
theorem Zr7 {n:List UInt8} (hc:Zar n=true) (hn:Zaj n=false) (h48:n ≠ [48]):ival (45 :: n) = -(ival n):=by
 obtain ⟨h1,h2⟩:=Zj1 hc hn h48;rw [ival,ival,h2,hn,Zhz];rfl
theorem Zw5 {b:ByteArray} (h:Zah b=0) (hz:bl b ≠ [48]) (hn:Zaj (bl b)=false) :
  Zah (⟨#[45]⟩ ++ b)=0∧ival (bl (numS (⟨#[45]⟩ ++ b))) = -(ival (bl (numS b)))∧bl (denS (⟨#[45]⟩ ++ b))=bl (denS b):=by
 have hs:=Zxw b;rcases Zbr b with h1 | ⟨o,h1,ho⟩
 ·rw [if_pos h1] at hs;have hi:Zab (bl b)=0:=by rw [Zah,if_pos h1] at h;exact h
  have hc:=(Zao hi).1;unfold numS denS;rw [if_pos hs,if_pos hs,if_pos h1,if_pos h1,Zah,if_pos hs,Zvi];exact ⟨(Zl3 hc hn hz).trans hi,Zr7 hc hn hz,rfl⟩
 ·have hne : ¬ Za2 b = -1:=by rw [h1];omega
  rw [if_neg hne,h1] at hs;have hne2 : ¬ Za2 (⟨#[45]⟩ ++ b) = -1:=by rw [hs];omega
  have hp:=Zbg h;unfold numS denS at hp ⊢;rw [if_neg hne,if_neg hne] at hp;rw [if_neg hne,if_neg hne,if_neg hne2,if_neg hne2,Zah,if_neg hne2];rw [Zah,if_neg hne] at h;rw [h1,Int.toNat_natCast] at hp h ⊢;have et:(Za2 (⟨#[45]⟩ ++ b)).toNat=o+1:=by rw [hs];omega
  rw [et,Zbe,Zfl,Zbe,Zfl,Zvi,List.drop_zero,List.drop_zero,Nat.sub_zero,Nat.sub_zero,List.take_succ_cons,List.drop_succ_cons];rw [Zbe,Zfl,List.drop_zero,Nat.sub_zero] at hp;have hnn:Zaj ((bl b).take o)=false:=by
   unfold Zaj at hn ⊢;rw [beq_eq_false_iff_ne] at hn ⊢;intro e;apply hn
   cases hb:bl b with
   | nil=>rw [hb] at e;simp at e
   | cons c t =>
    rw [hb] at e
    cases o with
    | zero=>simp at e
    | succ o=>simpa using e
  generalize (bl b).take o=n at *;generalize (bl b).drop (o+1)=d at *;have hc:=(Zao hp.1).1;have h48:n ≠ [48]:=by
   rintro rfl;have hcd:=(Zao hp.2.1).1;have ht:=Zdt hcd;rw [hp.2.2.1] at ht;unfold Zbq at h;rw [if_neg (by rw [hc];simp),if_neg (by rw [hcd];simp)] at h;split at h
   ·cases h
   ·split at h
    ·cases h
    ·rename_i c3 c4
     have c5:d ≠ [49]:=fun e=>by rw [if_pos e] at h;cases h
     rw [if_neg c5,if_neg (fun k=>k hp.1),if_neg (fun k=>k hp.2.1)] at h;split at h
     ·rename_i c6
      have c7:dval (body d)=1:=by
       have e0:dval (body [48])=0:=by decide
       rw [e0,Nat.gcd_zero_left] at c6;exact c6
      rw [c7] at ht;exact c5 (by rw [← ht];decide)
     ·cases h
  exact ⟨(Zqd hc hnn h48).trans h,Zr7 hc hnn h48,rfl⟩
theorem Z0f (z:Int):zErr (-z)=zErr z:=by rw [zErr,zErr,Int.natAbs_neg]
theorem Zxm (b:ByteArray) (w:World) (hs:b.size≤1100000) (h0:0 < b.size) (hz:bl b ≠ [48]) (hn:Zaj (bl b)=false) :
  Calls Tryz.prog 154 #[.string b] w fun e w'=>e = .returned (.string (⟨#[45]⟩ ++ b))∧w=w':=by
 have ez:(b.toList == [48])=false:=Zgb hz;have hbc:=Zby b h0;obtain ⟨ch,hch⟩:∃ c,b[0]=c:=⟨_,rfl⟩
 rw [hch] at hbc;have em:((ch.toNat:Int) == 45)=false:=by
  rw [hbc] at hn;simp [Zaj] at hn
  rw [beq_eq_false_iff_ne];intro e;apply hn;apply UInt8.toNat_inj.1;show ch.toNat=45;omega
 clear hz hn hbc;go_enter Tryz.func154,Tryz.ntmps154
 go_wp2;go_ret;exact ⟨rfl,rfl⟩
end Go.Proofs.YtknpnhodpgajbaaGreatDoor
