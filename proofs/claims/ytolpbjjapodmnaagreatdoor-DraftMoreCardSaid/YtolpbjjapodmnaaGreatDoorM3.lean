/- Texts of this claim, one after the other: Collect, Text, Runes, Word, Ref9b, Own, Quiet, Term, GrmP, Grm0, Gen, Term2. -/
import Derived.Test.YtolpbjjapodmnaaGreatDoorM1
import Derived.Test.YtolpbjjapodmnaaGreatDoorM2
import Derived.Test.YtolpbjjapodmnaaGreatDoorShelf2
import Derived.RangeFuncBound
import Derived.RangeFuncBox
import Derived.Maps.AppendAt
import Derived.Deep.QuietTactic
/- slices.Collect and slices.AppendSeq at int: what an iterator yields, in a new slice. -/
namespace Go.Proofs.YtolpbjjapodmnaaGreatDoor
open Go.RowKit Go.Han
attribute [local go_sem] Oper.semAt_some
theorem Xzl:(Tryz.prog.info? 3).map (fun i=>(i.zero,i.size,i.bytes))=some (some (.int .i64 0),1,8):=by kernel_rfl
def Xtn (M:Nat->Prop) (E:Nat) (w:World) (ys:List Value) (pe:Option (List PanicEntry)) (e:Ending) (w':World):Prop :=
 Only M w w'/\((pe=none/\∃v,e = .returned v/\w'.ownsRow w.heap.size E 1 v ys.length ys)\/(∃ch,pe=some ch/\e = .panicked ch))
def Xqj {α:Type} (M:Nat->Prop) (w:World) (enc:α->Int) (own:Nat->Prop) (pre:List α) (W:World):Prop :=
 ∃v,(∀k,own k↔(k=w.heap.size\/v.ownBlock=some k))/\Boxed W w.heap.size 49 v/\W.ownsRow w.heap.size 3 1 v pre.length (pre.map fun x => .int .i64 (enc x))/\Only M w W
theorem Xc9 {α:Type} (M:Nat->Prop) (w:World) (enc:α->Int):Yp (w.heap.size+1) M (Xqj M w enc):=by
 rintro own pre W W' ⟨v,ho,hv,hr,hon⟩ st;refine⟨v,ho,(st.block _ hv.lt (.inr ((ho _).2 (.inl rfl)))).trans hv,Xae hr fun g hg=>st.block g (hr.lt g hg).2 (.inr ((ho _).2 (.inr hg))),hon.iter st (by omega)⟩
def Xyh {α:Type} (M:Nat->Prop) (w:World) (enc:α->Int) (gf:Nat) (lb:Array Value) (x:α) (a':Act) (own:Nat->Prop) (pre:List α) (W:World):Prop :=
 a'={tmps:=#[.slice none 0 0,.func (.func gf) #[] lb,.pointer (some ⟨w.heap.size,0,none⟩),undef,.slice none 0 0,.int .i64 (enc x),.func (.func gf) #[] lb,.int .i64 (enc x),undef,undef,undef,undef,undef],defers:=[]}/\Xqj M w enc own pre W
def Xup {α:Type} (M:Nat->Prop) (w:World) (enc:α->Int) (gf:Nat) (lb:Array Value) (x:α) (own:Nat->Prop) (pre:List α) (W:World) (a':Act) (W':World):Prop :=
 ∃own',BodyStep own own' W W'/\Xyh M w enc gf lb x a' own' pre W'
set_option maxRecDepth 100000 in
set_option maxHeartbeats 400000 in
theorem Xjt {α:Type} (gf:Nat) (lb:Array Value) (enc:α->Int) (R M:Nat->Prop) (xs:List α) (pe:Option (List PanicEntry)) (w0 w:World)
  (hit:IterC Tryz.prog gf lb (fun x=>#[.int .i64 (enc x)]) R M xs pe w0) (eg:∀args w,(callFunc gf args).run Tryz.prog w = .ok (.enter gf args) w)
  (hR:∀k,R k->k<w.heap.size/\w.heap[k]? = w0.heap[k]?) (hlen:xs.length<=1000000) :
  Calls Tryz.prog 201 #[.slice none 0 0,.func (.func gf) #[] lb] w (Xtn M 3 w (xs.map fun x => .int .i64 (enc x)) pe):=by
 obtain⟨i0,hi0,hz0,hz1,hz2⟩:=info_parts Xzl;refine Z0 Tryz.func201 rfl ?_;simp only[Tryz.ntmps201,Zr,Nat.reduceAdd,Nat.reduceSub];refine Xm fun K1 hK1=>?_;go_wp2
 refine Uq ?_;refine Xm fun K2 hK2=>?_;go_wp2
 refine Zl ?_;have hbx:Boxed (w.alloc (.cells #[.slice none 0 0] 49)) w.heap.size 49 (.slice none 0 0):=Boxed.new _ _ _
 refine Xxy (xs:=xs) (pe:=pe) (R:=R) (M:=M) (w0:=w0) Tryz.func201 rfl eg hit (fun k hk=>⟨by have:=(hR k hk).1;simp;omega,(Below.heap_alloc _ _ _ (hR k hk).1).trans (hR k hk).2⟩) (fun _=>rfl)
  (Xqj M w enc) (fun _ _ _ _=>False) (fun _ _=>False) (by simp only[World.size_alloc];exact Xc9 M w enc) (fun _ _ _ _ _ h _=>h) (fun k=>k=w.heap.size) ?_ ?_
  (Xyh M w enc gf lb)
  (fun x a' own pre W W' h st=>⟨h.1,by simp only[World.size_alloc] at st;exact Xc9 M w enc own pre W W' h.2 st⟩) ?_ ?_ ?_ ?_ ?_ ?_
 ·rintro k rfl
  exact⟨by simp,fun h=>by have:=(hR _ h).1;omega⟩
 ·exact⟨.slice none 0 0,fun k=>by simp[Value.ownBlock],hbx,World.ownsRow_nil _ _ _ _,(Only.refl M w).alloc _⟩
 ·rintro l own pre x W hi hl1 hl2 ho hpre
  refine wpIn_mono (Q:=Exit.then (Xup M w enc gf lb x own pre W) (fun _ _ _=>False)) ?_ (fun e a w h=>h);gi_wp2
  exact⟨own,⟨rfl,rfl,rfl,Nat.le_refl _,fun _ _ _=>rfl,fun _ h => .inl h,fun k h=>(ho k h).2.1⟩,rfl,hi⟩
 ·rintro l own pre x a' W ⟨rfl,v,hown,hv,hrow,hon⟩ hl1 hl2 ho hpre
  have hlen1:pre.length<xs.length:=by
   obtain⟨t,ht⟩:=hpre;rw[<- ht];simp
  have hc:=hv.cell;have hBs:=hon.size;have hl3:(pre.map fun x=>Value.int .i64 (enc x)).length=pre.length:=by simp
  have hlen2:pre.length<1000000:=by omega
  clear hlen;gi_wp2_with (gi_at_builtin;refine Za _ rfl _ _ 49 rfl w.heap.size 3 i0 (.int .i64 0) 1 8 Tryz.underlying49 hi0 hz0 hz1 hz2 rfl (by decide) _ _ _ rfl (hrow.alloc _) ⟨W.heap.size,0,none⟩ 1 1 [.int .i64 (enc x)] rfl rfl (cell_one_new _ _ _) (by simp[Value.oneCell']) (by unfold maxLen;omega) (by omega) (by simp;omega) ?_;intro v' w1 hown' hgrow hat;obtain⟨g',cap',rfl⟩:=ownsRow_succ hown';obtain⟨hv1,hv2,hr2,hk2,hb2⟩:=hv.appended (by decide) hrow hBs (Nat.le_refl _) hown' hgrow;have hc1:=hv1.cell;have hf1:=hv1.frozen)
  have hlv:∀k,own k->k<W.heap.size:=fun k hk=>(ho k hk).2.1
  have hB:BodyStep own (fun k=>k=w.heap.size\/k=g') W (w1.setCell ⟨w.heap.size,0,none⟩ (.slice (some ⟨g',0,none⟩) (pre.length+1) cap')):=by
   refine BodyStep.turn ((((BodyStep.refl hlv).alloc _).grown hgrow (fun k hk => .inl ((hown k).2 (.inr hk)))).setCell (p:=⟨w.heap.size,0,none⟩) (.inl ((hown _).2 (.inl rfl))) _) ?_ ?_
   ·rintro k (rfl|rfl)
    ·exact .inl ((hown _).2 (.inl rfl))
    ·rcases hat with h|h
     ·exact .inl ((hown _).2 (.inr h.symm))
     ·simp[Value.ownBlock] at h;exact .inr (by omega)
   ·rintro k (rfl|rfl)
    ·exact hv2.lt
    ·exact(hr2.lt k rfl).2
  exact⟨_,hB,_,fun k=>by simp[Value.ownBlock,eq_comm],hv2,by simpa using hr2,hB.only hon (fun i hi hi'=>by
   rcases(hown i).1 hi' with h|h
   ·omega
   ·have:=(hrow.lt i h).1;omega)⟩
 ·rintro D own W hD hpn ⟨v,hown,hv,hrow,hon⟩ hdef
  have hc:=hv.cell;refine Ur ?_;go_wp2
  exact Qk hdef (results_tmp rfl _ _ _) ⟨hon.of_below' (Xen _ (B:=D) _ (Nat.le_refl _)) (fun i hi _=>by simp at hD;omega),.inl ⟨hpn,v,rfl,by simpa using ownsRow_putObj hrow _ hdef rfl⟩⟩
 ·rintro D own c pre W _ _ h
  exact h.elim
 ·rintro D ch W _ h
  exact h.elim
 ·rintro D own ch W hD hpn ⟨v,hown,hv,hrow,hon⟩ hdef
  exact Xkf hdef ⟨hon.of_below' (Xen _ (B:=D) _ (Nat.le_refl _)) (fun i hi _=>by simp at hD;omega),.inr ⟨ch,hpn,rfl⟩⟩
theorem Xn2 {α:Type} (gf:Nat) (lb:Array Value) (enc:α->Int) (R M:Nat->Prop) (xs:List α) (pe:Option (List PanicEntry)) (w0 w:World)
  (hit:IterC Tryz.prog gf lb (fun x=>#[.int .i64 (enc x)]) R M xs pe w0) (eg:∀args w,(callFunc gf args).run Tryz.prog w = .ok (.enter gf args) w)
  (hR:∀k,R k->k<w.heap.size/\w.heap[k]? = w0.heap[k]?) (hlen:xs.length<=1000000) :
  Calls Tryz.prog 149 #[.func (.func gf) #[] lb] w (Xtn M 3 w (xs.map fun x => .int .i64 (enc x)) pe):=by
 go_enter Tryz.func149,Tryz.ntmps149
 go_wp2_with fail
 refine(Xjt gf lb enc R M xs pe w0 w hit eg hR hlen).mono ?_;rintro e w1 ⟨hon,(⟨hpn,v,rfl,hrow⟩|⟨ch,hpn,rfl⟩)⟩
 ·go_wp2
  go_ret;exact⟨hon,.inl ⟨hpn,v,rfl,hrow⟩⟩
 ·exact⟨rfl,hon,.inr ⟨ch,hpn,rfl⟩⟩
end Go.Proofs.YtolpbjjapodmnaaGreatDoor
/- Contracts of package text: whether a text is a word. -/
namespace Go.Proofs.YtolpbjjapodmnaaGreatDoor
open Go.RowKit Go.Han
def Xmd (g:Nat) (lb:Array Value) (p:Int->Bool) (w:World):Prop :=
 (∀args w,(callFunc g args).run Tryz.prog w = .ok (.enter g args) w)/\∀(x:Int) (W:World),Below w.heap.size w W->Calls Tryz.prog g (#[.int .i64 x]++lb) W fun e w'=>e = .returned (.bool (p x))/\Below W.heap.size W w'
def X1i (p:Int->Bool) (l:List Int) (w:World) (e:Ending) (w':World):Prop :=
 Below w.heap.size w w'/\∃i:Int,e = .returned (.int .i64 i)/\(0<=i↔l.any p=true)
set_option maxHeartbeats 400000 in
theorem Xkd (g:Nat) (lb:Array Value) (p:Int->Bool) (A:Option Addr) (c:Nat) (l:List Int) (w:World) (hp:Xmd g lb p w) (hr:Rd w A (l.map (.int .i64))) (hl:l.length<=9223372036854775807) :
  Calls Tryz.prog 151 #[.slice A l.length c,.func (.func g) #[] lb] w (X1i p l w):=by
 go_enter Tryz.func151,Tryz.ntmps151
 go_wp2
 go_loopw [5,8] (fun _ i wr=>∃k:Nat,k<=l.length/\i = .int .i64 k/\Below w.heap.size w wr/\Hid (∀x∈l.take k,p x=false)) (fun _ i _=>l.length-(intOf i).toNat)
 case atStart=>exact⟨0,Nat.zero_le _,rfl,bo_q,by simp[Hid]⟩
 case round =>
  obtain⟨k,hk,rfl,hB,HR⟩:=hrel;have hz:=hB.size;by_cases hlt:k<l.length
  ·obtain⟨b,off,rfl,hb,hc⟩:=hr.at_ (k:=k) (by simpa using hlt)
   have hck:wr.cell? ⟨b,off+k,none⟩=some (.int .i64 l[k]):=(hB.cell (p:=⟨b,off+k,none⟩) hb).trans (hc k _ (by simp[hlt]));clear hc hr;have Hp:=Xa (hp.2 l[k] wr hB);have eg:=hp.1;go_wp2_with fail
   refine Hp.out.mono ?_;rintro e w1 ⟨rfl,hb1⟩;have hB1:Below w.heap.size w w1:=hB.trans (hb1.mono hz);generalize hpb:p l[k]=pb;have Hpb:=Xa hpb;clear hpb Hp hck;cases pb
   ·go_wp2
    go_roundw
    case rel =>
     refine⟨k+1,by omega,by go_num,hB1,?_⟩;intro x hx;rw[List.take_succ_eq_append_getElem hlt,List.mem_append] at hx;rcases hx with hx|hx
     ·exact HR.out x hx
     ·simp at hx;rw[hx];exact Hpb.out
    case measure=>simp[intOf];omega
   ·go_wp2
    go_ret;exact⟨hB1,k,rfl,by simp;exact⟨l[k],List.getElem_mem _,Hpb.out⟩⟩
  ·go_wp2
   go_ret;have:k=l.length:=(by omega);subst this;refine⟨hB, -1,rfl,by simp;intro x hx;exact HR.out x (by simpa using hx)⟩
theorem Q0 (g:Nat) (lb:Array Value) (p:Int->Bool) (A:Option Addr) (c:Nat) (l:List Int) (w:World) (hp:Xmd g lb p w) (hr:Rd w A (l.map (.int .i64))) (hl:l.length<=9223372036854775807) :
  Calls Tryz.prog 92 #[.slice A l.length c,.func (.func g) #[] lb] w fun e w'=>e = .returned (.bool (l.any p))/\Below w.heap.size w w':=by
 go_enter Tryz.func92,Tryz.ntmps92
 go_wp2_with fail
 refine(Xkd g lb p A c l w hp hr hl).mono ?_;rintro e w1 ⟨hb1,i,rfl,hi⟩;by_cases h:0<=i
 ·have h2:=Xa (hi.1 h)
  clear hi;go_wp2
  go_ret;rw[h2.out];exact⟨rfl,hb1⟩
 ·have h2:Hid (l.any p=false):=by
   have:¬l.any p=true:=fun e=>h (hi.2 e)
   simpa[Hid] using this
  have h3:decide (0<=i)=false:=by simpa using h
  clear hi h;go_wp2
  go_ret;rw[h2.out];exact⟨rfl,hb1⟩
def Xb8 (r:Int):Bool:=r == 32 || r == 9 || r == 10 || r == 13
theorem Xmq (r:Int) (w:World):Calls Tryz.prog 152 #[.int .i64 r] w fun e w'=>e = .returned (.bool (Xb8 r))/\Below w.heap.size w w':=by
 go_enter Tryz.func152,Tryz.ntmps152
 go_wp2
 all_goals go_ret
 all_goals (refine⟨?_,bo_q⟩;simp[Xb8, *])
end Go.Proofs.YtolpbjjapodmnaaGreatDoor
/- package text: the code points of a string: the function that recovers. -/
namespace Go.Proofs.YtolpbjjapodmnaaGreatDoor
open Go.RowKit Go.Han
theorem Xi6 (b1 b2:Nat) (w:World) :
  CallsD Tryz.prog 148 #[.pointer (some ⟨b1,0,none⟩),.pointer (some ⟨b2,0,none⟩)] .returning w fun e u' w'=>u' = .returning/\e = .returned (.tuple #[])/\w'=w:=by
 refine callsD_of_wpS Tryz.func148 rfl fun c₀ cs hu=>?_;simp only[Tryz.ntmps148,Zr,Nat.reduceAdd,Nat.reduceSub];apply wpS_seq;apply wpS_region;simp[wpOpsS,go_sem,recoverD,hu,Exit.thenS];refine wpS_of_wp ?_;go_wp2
 cases c₀
 simp_all [bodyPostS,results,Tryz.results148]
def X1m (b1 b2:Nat) (u:FrameMode) (w:World) (e:Ending) (u':FrameMode) (w':World):Prop :=
 u'=u/\e = .returned (.tuple #[])/\Only (fun k=>k=b1\/k=b2) w w'/\w'.heap[b1]? = some (.cells #[.slice none 0 0] 49 (0,0))/\w'.heap[b2]? = some (.cells #[.int .i64 90] 33 (0,0))
set_option maxRecDepth 100000 in
set_option maxHeartbeats 400000 in
theorem Xst (b1 b2:Nat) (v1 v2:Value) (w:World) (h1:w.heap[b1]? = some (.cells #[v1] 49 (0,0))) (h2:w.heap[b2]? = some (.cells #[v2] 33 (0,0))) :
  CallsD Tryz.prog 148 #[.pointer (some ⟨b1,0,none⟩),.pointer (some ⟨b2,0,none⟩)] (.panicking [{v:=.iface 212 (.agg #[]),recovered:=false}]) w (X1m b1 b2 (.panicking [{v:=.iface 212 (.agg #[]),recovered:=true}]) w):=by
 have hne:b1≠b2:=by
  rintro rfl;rw[h1] at h2;simp at h2
 have c1:=Xe h1;have c2:=Xe h2;have f1:=Xf h1 0;have f2:=Xf h2 0;have hta:∀w,(Instr.typeAssert (.iface 212 (.agg #[])) 20 212 true).run Tryz.prog w = .ok (.tuple #[.agg #[],.bool true]) w:=fun _=>by kernel_rfl
 have l1:=Xd h1;have l2:=Xd h2;refine callsD_of_wpS Tryz.func148 rfl fun c₀ cs hu=>?_;simp only[Tryz.ntmps148,Zr,Nat.reduceAdd,Nat.reduceSub];apply wpS_seq;apply wpS_region;simp[wpOpsS,go_sem,recoverD,hu,Exit.thenS];refine wpS_of_wp ?_;go_wp2
 have hb1:=(Below.heap_setCell (w.setCell ⟨b1,0,none⟩ (.slice none 0 0)) ⟨b2,0,none⟩ (.int .i64 90) b1 hne).trans (Xcr h1 (.slice none 0 0));have hb2:=Xcr (w:=w.setCell ⟨b1,0,none⟩ (.slice none 0 0)) ((Below.heap_setCell w ⟨b1,0,none⟩ (.slice none 0 0) b2 hne.symm).trans h2) (.int .i64 90)
 exact⟨rfl,_,rfl,_,results_none rfl _ _ _,rfl,rfl,(((Only.refl (fun k=>k=b1\/k=b2) w).setCell (p:=⟨b1,0,none⟩) (.inl (.inl rfl)) _).setCell (p:=⟨b2,0,none⟩) (.inl (.inr rfl)) _).alloc _,
  (Below.heap_alloc _ _ _ (Xd hb1)).trans hb1,(Below.heap_alloc _ _ _ (Xd hb2)).trans hb2⟩
def Xuo (s:ByteArray) (w:World) (e:Ending) (w':World):Prop :=
  Below w.heap.size w w' /\
    ((s.size > 4096/\e = .returned (.tuple #[.slice none 0 0,.int .i64 2])) \/
     (s.size<=4096/\(Yt s.data.toList).2=false/\e = .returned (.tuple #[.slice none 0 0,.int .i64 90])) \/
     (s.size<=4096/\(Yt s.data.toList).2=true/\∃A c,e = .returned (.tuple #[.slice A (Yt s.data.toList).1.length c,.int .i64 0])/\Rd w' A ((Yt s.data.toList).1.map fun r:Nat => .int .i64 (r:Int))))
theorem Xse (s:ByteArray) (w:World):Calls Tryz.prog 150 #[.string s] w fun e w' =>
  e = .returned (.func (.func 202) #[] #[.pointer (some ⟨w.heap.size,0,none⟩)])/\w.alloc (.cells #[.string s] 9)=w':=by
 have hmf:∀(fn:Fn) (first cap:Array Value) (w:World),(Instr.makeFunc fn first cap).run Tryz.prog w = .ok (.func fn first cap) w:=fun _ _ _ _=>rfl;go_enter Tryz.func150,Tryz.ntmps150
 go_wp2
 go_ret;exact⟨rfl,rfl⟩
set_option maxRecDepth 100000 in
set_option maxHeartbeats 400000 in
theorem Xw2 (s:ByteArray) (w:World) (hT:Tabs w):Calls Tryz.prog 91 #[.string s] w (Xuo s w):=by
 have hmf:∀(fn:Fn) (first cap:Array Value) (w:World),(Instr.makeFunc fn first cap).run Tryz.prog w = .ok (.func fn first cap) w:=fun _ _ _ _=>rfl;by_cases hs:s.size<=4096
 ·have h1:¬(4096:Int)<(s.size:Int):=by omega
  go_enter_defers Tryz.func91,Tryz.ntmps91
  go_wp2_with fail
  refine(Xse _ _).mono ?_;rintro e w1 ⟨rfl,rfl⟩;go_wp2_with fail
  have hb0:((w.alloc (.cells #[.slice none 0 0] 49)).alloc (.cells #[.int .i64 0] 33)).heap[w.heap.size]? = some (.cells #[.slice none 0 0] 49 (0,0)):=(Below.heap_alloc _ _ _ (by simp)).trans (World.alloc_heap_new _ _)
  have hb1:((w.alloc (.cells #[.slice none 0 0] 49)).alloc (.cells #[.int .i64 0] 33)).heap[w.heap.size+1]? = some (.cells #[.int .i64 0] 33 (0,0)):=by
   have:=World.alloc_heap_new (w.alloc (.cells #[.slice none 0 0] 49)) (.cells #[.int .i64 0] 33);rwa [World.size_alloc] at this
  obtain⟨W2,hW2⟩:∃W2,(w.alloc (.cells #[.slice none 0 0] 49)).alloc (.cells #[.int .i64 0] 33)=W2:=⟨_,rfl⟩
  have hB2:Below w.heap.size w W2:=by rw[<- hW2];exact(bo_q.alloc (Nat.le_refl _) _).alloc (by simp) _
  have hz2:W2.heap.size=w.heap.size+2:=by rw[<- hW2];simp
  simp only[hW2] at hb0 hb1 ⊢;have hT2:Tabs W2:=Xa8 hT hB2;have hit:=X2b W2.heap.size s (W2.alloc (.cells #[.string s] 9)) (Xa8 hT2 (bo_q.alloc (Nat.le_refl _) _)) (World.alloc_heap_new _ _);have hlt:=Xng hT2;rw[show w.heap.size+1+1=W2.heap.size by omega];have hrl:=Xeq s.data.toList;have hsz:=Lib.size_eq s;refine(Xn2 _ _ _ _ _ _ _ _ _ hit (enters_of Tryz.func202 (by kernel_rfl) rfl) (fun k hk=>⟨?_,rfl⟩) (by omega)).mono ?_
  ·rcases hk with rfl|hk
   ·simp
   ·have:=hlt k hk;simp;omega
  rintro e w3 ⟨hon,h⟩;have hB3:Below w.heap.size w w3:=⟨hon.os.trans hB2.os,hon.tape.trans hB2.tape,hon.output.trans hB2.output,Nat.le_trans hB2.size (Nat.le_trans (by simp) hon.size),fun k hk=>(hon.block k (by simp;omega) (by omega)).trans ((Below.heap_alloc _ _ _ (by omega)).trans (hB2.block k hk))⟩
  have hb03:w3.heap[w.heap.size]? = some (.cells #[.slice none 0 0] 49 (0,0)):=(hon.block _ (by simp;omega) (by omega)).trans ((Below.heap_alloc _ _ _ (by omega)).trans hb0);have hb13:w3.heap[w.heap.size+1]? = some (.cells #[.int .i64 0] 33 (0,0)):=(hon.block _ (by simp;omega) (by omega)).trans ((Below.heap_alloc _ _ _ (by omega)).trans hb1);clear hW2 hit;rcases h with ⟨hpn,v,he,hrow⟩|⟨ch,hpn,he⟩
  ·have c0:=Xe hb03
   have c1:=Xe hb13;have f0:=Xf hb03 0;have f1:=Xf hb13 0;have hsz3:=Xd hb13
   have hok:(Yt s.data.toList).2=true:=by
    unfold Xb4 at hpn;split at hpn
    ·assumption
    ·cases hpn
   have hsl:=SlOf.of_own hrow;obtain⟨A,c,rfl,hn,hm,hl2,hrd⟩:=hsl;subst he;clear hl2 hn hm hb0 hb1 hlt hrl hsz hpn hsz3 hon hT2 hB2;rw[List.length_map];go_wp2
   refine leaves_cons (f:=148) (args:=#[.pointer (some ⟨w.heap.size,0,none⟩),.pointer (some ⟨w.heap.size+1,0,none⟩)]) (by simp) (by simp[go_sem]) ?_;refine(Xi6 _ _ _).mono ?_;rintro e u' w'' ⟨rfl,rfl,rfl⟩;simp[Leaves,settle,results,Tryz.results91,go_sem,c0,c1];have hB4:Below w.heap.size w ((w3.setCell ⟨w.heap.size,0,none⟩ (.slice A (Yt s.data.toList).1.length c)).setCell ⟨w.heap.size+1,0,none⟩ (.int .i64 0)):=(hB3.setCell (p:=⟨w.heap.size,0,none⟩) (Nat.le_refl _) _).setCell (p:=⟨w.heap.size+1,0,none⟩) (by simp) _;refine⟨hB4,.inr (.inr ⟨hs,hok,A,c,rfl,?_⟩)⟩;refine hrd.block (by simp[World.setCell]) fun a ha=>?_;subst ha;have hage:=hrow.lt a.block rfl;simp at hage;rw[Below.heap_setCell _ _ _ _ (by simp;omega),Below.heap_setCell _ _ _ _ (by simp;omega)]
  ·subst he
   have hok:(Yt s.data.toList).2=false/\ch=Xdz:=by
    unfold Xb4 at hpn;split at hpn
    ·cases hpn
    ·rename_i hf
     exact⟨by simpa using hf,by injection hpn with h;exact h.symm⟩
   obtain⟨hok,rfl⟩:=hok;refine leaves_cons (f:=148) (args:=#[.pointer (some ⟨w.heap.size,0,none⟩),.pointer (some ⟨w.heap.size+1,0,none⟩)]) (by simp) (by simp[go_sem]) ?_;refine(Xst _ _ _ _ _ hb03 hb13).mono ?_;rintro e u' w'' ⟨rfl,rfl,hon4,hx0,hx1⟩;simp[Leaves,settle,results,Tryz.results91,go_sem,Xe hx0,Xe hx1];exact⟨⟨hon4.os.trans hB3.os,hon4.tape.trans hB3.tape,hon4.output.trans hB3.output,Nat.le_trans hB3.size hon4.size,fun k hk=>(hon4.block k (Nat.lt_of_lt_of_le hk hB3.size) (by omega)).trans (hB3.block k hk)⟩,.inr (.inl ⟨hs,hok,rfl⟩)⟩
 ·have h1:(4096:Int)<(s.size:Int):=by omega
  go_enter_defers Tryz.func91,Tryz.ntmps91
  go_wp2_with fail
  refine leaves_cons (f:=148) (args:=#[.pointer (some ⟨w.heap.size,0,none⟩),.pointer (some ⟨w.heap.size+1,0,none⟩)]) (by simp) (by simp[go_sem]) ?_;refine(Xi6 _ _ _).mono ?_;rintro e u' w'' ⟨rfl,rfl,rfl⟩;simp[Leaves,settle,results,Tryz.results91,go_sem];refine⟨(bo_q.alloc (Nat.le_refl _) _).alloc (by simp) _,.inl ⟨by omega,rfl⟩⟩
end Go.Proofs.YtolpbjjapodmnaaGreatDoor
/- package text: whether a text is a word. -/
namespace Go.Proofs.YtolpbjjapodmnaaGreatDoor
open Go.RowKit Go.Han
theorem Xe2 (A:Option Addr) (n c:Nat) (w:World):Calls Tryz.prog 153 #[.slice A n c] w fun e w' =>
  (∃lb,e = .returned (.func (.func 204) #[] lb))/\Below w.heap.size w w':=by
 have hmf:∀(fn:Fn) (first cap:Array Value) (w:World),(Instr.makeFunc fn first cap).run Tryz.prog w = .ok (.func fn first cap) w:=fun _ _ _ _=>rfl;go_enter Tryz.func153,Tryz.ntmps153
 go_wp2
 go_ret;exact⟨⟨_,rfl⟩,bo_q.alloc (Nat.le_refl _) _⟩
def Xnm (w:World) (e:Ending) (w':World):Prop :=
 Below w.heap.size w w'/\∃b,e = .returned (.slice (some ⟨b,0,none⟩) 4 4)/\w'.cell? ⟨b,1,none⟩=some (.func (.func 152) #[] #[])
set_option maxRecDepth 100000 in
set_option maxHeartbeats 400000 in
theorem Xnz (w:World):Calls Tryz.prog 93 #[] w (Xnm w):=by
 go_enter Tryz.func93,Tryz.ntmps93
 go_wp2_with fail
 refine(Xe2 _ _ _ _).mono ?_;rintro e w1 ⟨⟨lb1,rfl⟩,hb1⟩;have hz1:=hb1.size;simp at hz1;go_wp2_with fail
 refine(Xe2 _ _ _ _).mono ?_;rintro e w2 ⟨⟨lb2,rfl⟩,hb2⟩;go_wp2_with fail
 refine(Xe2 _ _ _ _).mono ?_;rintro e w3 ⟨⟨lb3,rfl⟩,hb3⟩;go_wp2
 go_ret;refine⟨?_,_,rfl,?_⟩
 ·repeat (first|exact bo_q|refine Xg ?_ _|(refine Xb ?_ (by assumption)))
 ·simp[go_sem]
def Xq (s:ByteArray):Bool:=decide (s.size<=64) && decide (0<s.size) && (Yt s.data.toList).2 && !(Yt s.data.toList).1.any fun r=>Xb8 (r:Int)
theorem Xsw (w:World):Xmd 152 #[] Xb8 w :=
 ⟨enters_of Tryz.func152 (by kernel_rfl) rfl,fun x W _=>Xmq x W⟩
set_option maxRecDepth 100000 in
set_option maxHeartbeats 400000 in
theorem Xew (s:ByteArray) (w:World) (hT:Tabs w):Calls Tryz.prog 27 #[.string s] w fun e w'=>e = .returned (.bool (Xq s))/\Below w.heap.size w w':=by
 go_enter Tryz.func27,Tryz.ntmps27
 go_wp2_with fail
 refine(Xw2 s w hT).mono ?_;rintro e w1 ⟨hb1,h⟩;rcases h with ⟨hs,he⟩|⟨hs,hok,he⟩|⟨hs,hok,A,c,he,hrd⟩
 ·subst he
  have H:Hid (Xq s=false):=by unfold Xq;rw[show decide (s.size<=64)=false by simp;omega];rfl
  clear hs;go_wp2
  go_ret;exact⟨by rw[H.out];rfl,hb1⟩
 ·subst he
  have H:Hid (Xq s=false):=by unfold Xq;rw[hok];simp[Hid]
  clear hs hok;go_wp2
  go_ret;exact⟨by rw[H.out];rfl,hb1⟩
 ·subst he
  by_cases h0:0<s.size
  ·by_cases h64:s.size<=64
   ·have H:Hid (Xq s = !(Yt s.data.toList).1.any fun r=>Xb8 (r:Int)):=by unfold Xq;simp[h0,h64,hok,Hid]
    have g1:(0:Int)<s.size:=(by omega);have g2:(s.size:Int)<=64:=(by omega);have hlen:(Yt s.data.toList).1.length<=64:=by have:=Xeq s.data.toList;have:=Lib.size_eq s;omega
    clear hok h0 h64 hs;go_wp2_with fail
    refine(Xnz _).mono ?_;rintro e w2 ⟨hb2,b,rfl,hcell⟩;go_wp2_with fail
    have hrd2:Rd w2 A (((Yt s.data.toList).1.map fun r:Nat=>(r:Int)).map (.int .i64)):=by
     rw[List.map_map];exact hrd.ext hb2
    have cf:=Q0 152 #[] Xb8 A c ((Yt s.data.toList).1.map fun r:Nat=>(r:Int)) w2 (Xsw w2) hrd2 (by rw[List.length_map];omega);rw[List.length_map,List.any_map] at cf;refine cf.mono ?_;rintro e w3 ⟨rfl,hb3⟩;clear hrd hrd2 cf hcell;go_wp2
    go_ret;exact⟨by rw[H.out];rfl,Xb (Xb hb1 hb2) hb3⟩
   ·have H:Hid (Xq s=false):=by unfold Xq;rw[show decide (s.size<=64)=false by simpa using h64];rfl
    have g1:(0:Int)<s.size:=(by omega);have g2:¬(s.size:Int)<=64:=(by omega);clear hok h0 h64 hs;go_wp2
    go_ret;exact⟨by rw[H.out];rfl,hb1⟩
  ·have H:Hid (Xq s=false):=by unfold Xq;rw[show decide (0<s.size)=false by simpa using h0];simp[Hid]
   have g1:¬(0:Int)<s.size:=(by omega);clear hok h0 hs;go_wp2
   go_ret;exact⟨by rw[H.out];rfl,hb1⟩
end Go.Proofs.YtolpbjjapodmnaaGreatDoor
namespace Go.Proofs.YtolpbjjapodmnaaGreatDoor
open Go.RowKit Go.Han
set_option maxRecDepth 100000
attribute [local irreducible] wpStill wpQuiet
set_option maxHeartbeats 8000000
def sizeOf (v:Value):Nat:=match v with | .string s=>s.size|_=>0
end Go.Proofs.YtolpbjjapodmnaaGreatDoor
/- Slices of the call's own, elements of any number of cells. No program in sight. -/
namespace Go.Han
open Go.RowKit
section
variable {α:Type} {f:α->List Value} {E sz:Nat} {w w':World} {base:Nat} {v:Value} {l:List α}
def OwnL (f:α->List Value) (E sz:Nat) (w:World) (base:Nat) (v:Value) (l:List α):Prop:=w.ownsRow base E sz v l.length (l.flatMap f)
theorem OwnL.nil (f:α->List Value) (E sz:Nat) (w:World) (base:Nat):OwnL f E sz w base (.slice none 0 0) []:=⟨by simp,.inl ⟨rfl,rfl⟩⟩
theorem OwnL.form (h0:0<sz) (h:OwnL f E sz w base v l):∃A c,v = .slice A l.length c/\Rd w A (l.flatMap f)/\(A=none->l=[]):=by
 obtain⟨A,c,rfl,_,_,hl,hr⟩:=SlOf.of_own h;refine⟨A,c,rfl,hr,?_⟩;rintro rfl;rcases hr with h|⟨b,off,h,_⟩
 ·rw[h] at hl
  refine List.eq_nil_of_length_eq_zero ?_;rcases Nat.eq_zero_or_pos l.length with h|h
  ·exact h
  ·have:=Nat.mul_pos h h0
   simp at hl;omega
 ·cases h
theorem OwnL.mono {b':Nat} (h:OwnL f E sz w base v l) (hb:b'<=base):OwnL f E sz w b' v l:=by
 refine⟨h.1,?_⟩;rcases h.2 with h|⟨g,c,cur,h1,h2,h3⟩
 ·exact .inl h
 ·exact .inr ⟨g,c,cur,h1,Nat.le_trans hb h2,h3⟩
theorem OwnL.snoc (x:α) (h:w.ownsRow base E sz v (l.length+1) (l.flatMap f++f x)):OwnL f E sz w base v (l++[x]):=by
 unfold OwnL
 simpa using h
theorem OwnL.lt (h:OwnL f E sz w base v l):∀g,v.ownBlock=some g->base<=g/\g<w.heap.size:=fun g hg=>World.ownsRow.lt h g hg
theorem OwnL.block (h:OwnL f E sz w base v l) (hb:∀g,v.ownBlock=some g->w'.heap[g]? = w.heap[g]?):OwnL f E sz w' base v l:=Xae h hb
theorem OwnL.ext (h:OwnL f E sz w base v l) (hb:Below w.heap.size w w'):OwnL f E sz w' base v l:=h.block fun g hg=>hb.block g (h.lt g hg).2
theorem OwnL.far {row:Option Nat} (h:OwnL f E sz w base v l) (hg:w.grownBy w' row) (hne:∀g,v.ownBlock=some g->some g≠row):OwnL f E sz w' base v l:=h.block fun g hgv=>hg.block g (h.lt g hgv).2 (hne g hgv)
theorem Xkr {w0:World} (h:Below w0.heap.size w0 w) (ho:OwnL f E sz w base v l) (hbase:w0.heap.size<=base) (hg:w.grownBy w' v.ownBlock):Below w0.heap.size w0 w' :=
 ⟨hg.os.trans h.os,hg.tape.trans h.tape,hg.output.trans h.output,Nat.le_trans h.size hg.size,fun i hi=>(hg.block i (Nat.lt_of_lt_of_le hi h.size) (fun e=>by have:=(ho.lt i e.symm).1;omega)).trans (h.block i hi)⟩
end
end Go.Han
/- A region that draws its order, whose operations only read and whose callees may also lay blocks of their own: one walk in the order of the text. -/
namespace Go.Han
open Go.RowKit
structure Xbd (w:World) where
 wt:World
 ext:Below w.heap.size w wt
instance (w:World):Nonempty (Xbd w):=⟨⟨w,bo_q⟩⟩
theorem Th {P:Program} {id:Nat} {Q:Exit->Act->World->Prop} {a:Act} {w:World} {l:List Oper} (hm:P.follows .mixedOrders=true) (hB:Region.lexB .any l.toArray=true)
  (h:wpQuiet P l.toArray (fun w'=>∃p:Xbd w,w'=p.wt) (fun a'=>∀w',(∃p:Xbd w,w'=p.wt)->Q .normal a' w') l a):(Code.region id l.toArray true).wp P Q a w :=
 wp_region_quiet (C:=fun w'=>∃p:Xbd w,w'=p.wt) hm hB ⟨⟨_,(Below.refl _ w).drew⟩,rfl⟩ (by simpa using h)
theorem Xd9 {w:World} {a:Addr} {v:Value} (hb:a.block<w.heap.size) (h:w.cell? a=some v) (p:Xbd w):p.wt.cell? a=some v:=(p.ext.cell (p:=a) hb).trans h
end Go.Han
namespace Go.Proofs.YtolpbjjapodmnaaGreatDoor
open Go.RowKit Go.Han
set_option maxRecDepth 100000
attribute [local irreducible] wpStill wpQuiet
set_option maxHeartbeats 8000000
structure StrS where
 addr:Option Addr
 cap:Nat
 xs:List ByteArray
def StrS.val (s:StrS):Value:=.slice s.addr s.xs.length s.cap
def strs (xs:List ByteArray):List Value:=xs.map Value.string
structure StrS.lies (w:World) (s:StrS):Prop where
 rd:Rd w s.addr (strs s.xs)
 cap:s.xs.length<=s.cap
 max:s.cap<=9223372036854775807
 nil:s.addr=none->s.xs=[]
theorem StrS.lies.ext {w w':World} {s:StrS} (h:s.lies w) (hb:Below w.heap.size w w'):s.lies w':=⟨h.rd.ext hb,h.cap,h.max,h.nil⟩
structure Term where
 no:Int
 at_:Int
 known:Int
 lang:Int
 src:StrS
 tgt:StrS
 cat:ByteArray
 gone:Bool
abbrev Term.ob (x:Term):Obj:=.cells #[.int .i64 x.no,.int .i64 x.at_,.int .i64 x.known,.int .i64 x.lang,.slice x.src.addr x.src.xs.length x.src.cap,.slice x.tgt.addr x.tgt.xs.length x.tgt.cap,.string x.cat,.bool x.gone] 56
abbrev Term.vl (x:Term):Value:=.agg #[.int .i64 x.no,.int .i64 x.at_,.int .i64 x.known,.int .i64 x.lang,.slice x.src.addr x.src.xs.length x.src.cap,.slice x.tgt.addr x.tgt.xs.length x.tgt.cap,.string x.cat,.bool x.gone]
def Term.cells (x:Term):List Value:=[.int .i64 x.no,.int .i64 x.at_,.int .i64 x.known,.int .i64 x.lang,x.src.val,x.tgt.val,.string x.cat,.bool x.gone]
def Term.val (x:Term):Value:=.agg #[.int .i64 x.no,.int .i64 x.at_,.int .i64 x.known,.int .i64 x.lang,x.src.val,x.tgt.val,.string x.cat,.bool x.gone]
theorem Term.size_cells (x:Term):x.cells.length=8:=rfl
def Term.lies (w:World) (x:Term):Prop:=x.src.lies w/\x.tgt.lies w
theorem Term.lies.ext {w w':World} {x:Term} (h:x.lies w) (hb:Below w.heap.size w w'):x.lies w':=⟨h.1.ext hb,h.2.ext hb⟩
/-! ### what is right -/
def Yu (c:Int):Bool:=(decide (97<=c) && decide (c<=122)) || (decide (65<=c) && decide (c<=90))
def Xar (c:Int):Bool:=decide (48<=c) && decide (c<=57)
def Tu (c:Int):Bool:=Yu c || Xar c || decide (c=95)
def Xih (l:List UInt8):Bool:=match l with|[]=>false|c :: _=>Yu c.toNat
def V9 (s:ByteArray):Bool:=decide (0<s.size) && decide (s.size<=32) && Xih s.data.toList && s.data.toList.all (fun c=>Tu c.toNat)
def Zb (xs:List ByteArray):Bool:=decide (1<=xs.length) && decide (xs.length<=4) && xs.all Xq
def tmB (n:Int):Bool:=decide (0<=n) && decide (n<1099511627776)
def Xbe (n:Int):Bool:=decide (0<=n) && decide (n<32)
def noB (n:Int):Bool:=decide (0<=n) && decide (n<=1048576)
def Term.ok (x:Term):Bool:=noB x.no && tmB x.at_ && tmB x.known && Xbe x.lang && Zb x.src.xs && (if x.gone then decide (x.tgt.xs.length=0) && decide (x.cat.size=0) else Zb x.tgt.xs && V9 x.cat)
theorem Xaw (n:Int) (w:World):Calls Tryz.prog 89 #[.int .i64 n] w fun e w'=>e = .returned (.bool (tmB n))/\w=w':=by
 go_enter Tryz.func89,Tryz.ntmps89
 go_wp2
 all_goals go_ret
 ·simp[tmB, *]
 ·have:¬0<=n:=by omega
  simp[tmB, *]
theorem Xik (n:Int) (w:World):Calls Tryz.prog 88 #[.int .i64 n] w fun e w'=>e = .returned (.bool (Xbe n))/\w=w':=by
 go_enter Tryz.func88,Tryz.ntmps88
 go_wp2
 all_goals go_ret
 ·simp[Xbe, *]
 ·have:¬0<=n:=by omega
  simp[Xbe, *]
/-! ### letters -/
def Xhh (c k:Int):Prop:=(Yu c=true/\k=2)\/(Yu c=false/\Xar c=true/\k=3)\/(Yu c=false/\Xar c=false/\c=95/\k=5)\/(Yu c=false/\Xar c=false/\c≠95/\(k=0\/k=1\/k=4))
def Xuj (c:Int) (w:World) (e:Ending) (w':World):Prop:=∃k,e = .returned (.int .i64 k)/\Xhh c k/\w=w'
theorem Xch (c:Int) (w:World):Calls Tryz.prog 242 #[.int .u8 c] w (Xuj c w):=by
 have HI:=Xa (fun w=>Tryz.strings_IndexByte ⟨#[123,125,40,41,59,44,61,58,46,60,62,33,43,45,42,47]⟩ c w);by_cases h1:97<=c/\c<=122
 ·obtain⟨h2,h3⟩:=h1
  have H:Hid (Yu c=true):=by show _=_;simp[Yu];omega
  go_enter Tryz.func242,Tryz.ntmps242
  go_wp2_with fail
  go_ret;exact⟨2,rfl,.inl ⟨H.out,rfl⟩,rfl⟩
 by_cases h4:65<=c/\c<=90
 ·obtain⟨h2,h3⟩:=h4
  have h5:¬97<=c:=by omega
  have H:Hid (Yu c=true):=by show _=_;simp[Yu];omega
  clear h1;go_enter Tryz.func242,Tryz.ntmps242
  go_wp2_with fail
  go_ret;exact⟨2,rfl,.inl ⟨H.out,rfl⟩,rfl⟩
 have H:Hid (Yu c=false):=by show _=_;simp[Yu];omega
 have g1:(decide (97<=c) && decide (c<=122))=false:=by simp;omega
 have g2:(decide (65<=c) && decide (c<=90))=false:=by simp;omega
 by_cases h6:48<=c/\c<=57
 ·obtain⟨h2,h3⟩:=h6
  have h5:¬65<=c:=by omega
  have h7:¬97<=c:=by omega
  have HD:Hid (Xar c=true):=by show _=_;simp[Xar];omega
  clear h1 h4 g1 g2;go_enter Tryz.func242,Tryz.ntmps242
  go_wp2_with fail
  go_ret;exact⟨3,rfl,.inr (.inl ⟨H.out,HD.out,rfl⟩),rfl⟩
 have HD:Hid (Xar c=false):=by show _=_;simp[Xar];omega
 by_cases h8:c=95
 ·subst h8
  clear h1 h4 h6 g1 g2;go_enter Tryz.func242,Tryz.ntmps242
  go_wp2_with fail
  go_ret;exact⟨5,rfl,.inr (.inr (.inl ⟨H.out,HD.out,rfl,rfl⟩)),rfl⟩
 have h9:(c == 95)=false:=by simpa using h8
 have H95:=Xa h8;clear h8;go_enter Tryz.func242,Tryz.ntmps242
 go_wp2_with (refine(HI.out _).mono ?_;rintro e w' ⟨rfl,rfl⟩)
 all_goals first|omega|skip
 all_goals go_ret
 all_goals first|exact⟨1,rfl,.inr (.inr (.inr ⟨by decide,by decide,by decide,by simp⟩)),rfl⟩|exact⟨1,rfl,.inr (.inr (.inr ⟨H.out,HD.out,H95.out,by simp⟩)),rfl⟩|exact⟨4,rfl,.inr (.inr (.inr ⟨H.out,HD.out,H95.out,by simp⟩)),rfl⟩|exact⟨0,rfl,.inr (.inr (.inr ⟨H.out,HD.out,H95.out,by simp⟩)),rfl⟩
/-! ### names -/
theorem Xmi (s:ByteArray) (k:Nat) (h:k<s.size):s.data.toList[k]'(by rw[<- Lib.size_eq];exact h)=s[k]:=rfl
theorem Xc4 (s:ByteArray) (h:0<s.size):Xih s.data.toList=Yu s[0].toNat:=by
 have h1:0<s.data.toList.length:=by rw[<- Lib.size_eq];exact h
 cases hl:s.data.toList with
 | nil=>rw[hl] at h1;simp at h1
 | cons c q =>
  have:s[0]=c:=by
   rw[<- Xmi s 0 h];simp[hl]
  rw[this];rfl
theorem Xjs {f:UInt8->Bool} (s:ByteArray) (k:Nat) (h:k<s.size):(s.data.toList.take (k+1)).all f=((s.data.toList.take k).all f && f s[k]):=by
 rw[List.take_succ_eq_append_getElem (by rw[<- Lib.size_eq];exact h),List.all_append];simp[Xmi s k h]
theorem Xur {f:UInt8->Bool} (s:ByteArray) (k:Nat) (h:k<s.size) (hf:f s[k]=false):s.data.toList.all f=false:=by
 rw[List.all_eq_false];exact⟨s[k],by rw[<- Xmi s k h];exact List.getElem_mem _,by simp[hf]⟩
theorem X0c (s:ByteArray) (h0:0<s.size) (h1:s.size<=32) (h2:Yu s[0].toNat=true):V9 s=s.data.toList.all (fun c=>Tu c.toNat):=by
 unfold V9;rw[decide_eq_true h0,decide_eq_true h1,Xc4 s h0,h2];rfl
theorem Xr0 (s:ByteArray) (h0:0<s.size) (h2:Yu s[0].toNat=false):V9 s=false:=by
 unfold V9;rw[Xc4 s h0,h2];simp
theorem Xwi (s:ByteArray) (h:¬s.size<=32):V9 s=false:=by
 unfold V9;rw[decide_eq_false h];simp
theorem Xr1 (s:ByteArray) (h:¬0<s.size):V9 s=false:=by
 unfold V9;rw[decide_eq_false h];simp
/-! ### chains of categories -/
section
variable {α:Type}
def PathN (E:α->α->Prop):Nat->α->Prop
 | 0,_=>True
 | n+1,x=>∃y,E x y/\PathN E n y
inductive Leads (E:α->α->Prop):α->α->Prop
 | one {x y}:E x y->Leads E x y
 | more {x y z}:E x y->Leads E y z->Leads E x z
theorem Leads.snoc {E:α->α->Prop} {x y z:α} (h:Leads E x y) (e:E y z):Leads E x z:=by
 induction h with
 | one h=>exact .more h (.one e)
 | more h _ ih=>exact .more h (ih e)
theorem Leads.trans {E:α->α->Prop} {x y z:α} (h:Leads E x y) (k:Leads E y z):Leads E x z:=by
 induction h with
 | one h=>exact .more h k
 | more h _ ih=>exact .more h (ih k)
def Xya (E:α->α->Prop):Prop:=∃x,Leads E x x
def Xd6 (E:α->α->Prop) (x:α):Prop:=∃y,(x=y\/Leads E x y)/\Leads E y y
theorem Xda {E:α->α->Prop} {x:α} (h:Xd6 E x):∃y,E x y/\Xd6 E y:=by
 obtain⟨y,hxy,hy⟩:=h
 have hl:Leads E x y:=by
  rcases hxy with rfl|h
  ·exact hy
  ·exact h
 cases hl with
 | one e=>exact⟨y,e,y,.inl rfl,hy⟩
 | more e h=>exact⟨_,e,y,.inr h,hy⟩
theorem Xfz [DecidableEq α] {E:α->α->Prop} (l:List α) (n:Nat):∀(seen:List α) (x:α),(∀y z,E y z->z∈l)->l.length<=n+seen.length->(∀s∈seen,s∈l)->seen.Nodup->(∀s∈seen,Leads E s x)->x∈l->PathN E n x->Xya E:=by
 induction n with
 | zero =>
  intro seen x hl hn hs hd hr hx _
  have hm:x∈seen:=by
   rcases Classical.em (x∈seen) with h|h
   ·exact h
   ·exfalso
    have h1:(x :: seen).Nodup:=List.nodup_cons.2 ⟨h,hd⟩
    have h2:(x :: seen) ⊆ l:=by
     intro s hs';rcases List.mem_cons.1 hs' with rfl|h'
     ·exact hx
     ·exact hs s h'
    have h3:=h1.length_le_of_subset h2;simp at h3;omega
  exact⟨x,hr x hm⟩
 | succ n ih =>
  intro seen x hl hn hs hd hr hx hp;obtain⟨y,e,hp⟩:=hp;rcases Classical.em (x∈seen) with h|h
  ·exact⟨x,hr x h⟩
  ·refine ih (x :: seen) y hl (by simp;omega) ?_ (List.nodup_cons.2 ⟨h,hd⟩) ?_ (hl _ _ e) hp
   ·intro s hs'
    rcases List.mem_cons.1 hs' with rfl|h'
    ·exact hx
    ·exact hs s h'
   ·intro s hs'
    rcases List.mem_cons.1 hs' with rfl|h'
    ·exact .one e
    ·exact(hr s h').snoc e
end
/-! ### grammars as they lie -/
structure SlS (α:Type) where
 addr:Option Addr
 cap:Nat
 xs:List α
def SlS.val {α:Type} (s:SlS α):Value:=.slice s.addr s.xs.length s.cap
structure PartG where
 cat:ByteArray
 no:Int
 text:ByteArray
structure GiveG where
 part:Int
 text:ByteArray
structure EntryG where
 text:ByteArray
 cat:ByteArray
 no:Int
 gives:StrS
 cost:Int
abbrev EntryG.ob (x:EntryG):Obj:=.cells #[.string x.text,.string x.cat,.int .i64 x.no,.slice x.gives.addr x.gives.xs.length x.gives.cap,.int .i64 x.cost] 60
abbrev EntryG.vl (x:EntryG):Value:=.agg #[.string x.text,.string x.cat,.int .i64 x.no,.slice x.gives.addr x.gives.xs.length x.gives.cap,.int .i64 x.cost]
structure RuleG where
 cat:ByteArray
 no:Int
 parts:SlS PartG
 gives:SlS GiveG
 cost:Int
abbrev RuleG.ob (x:RuleG):Obj:=.cells #[.string x.cat,.int .i64 x.no,.slice x.parts.addr x.parts.xs.length x.parts.cap,.slice x.gives.addr x.gives.xs.length x.gives.cap,.int .i64 x.cost] 79
abbrev RuleG.vl (x:RuleG):Value:=.agg #[.string x.cat,.int .i64 x.no,.slice x.parts.addr x.parts.xs.length x.parts.cap,.slice x.gives.addr x.gives.xs.length x.gives.cap,.int .i64 x.cost]
structure Gram where
 name:ByteArray
 cats:StrS
 start:ByteArray
 startNo:Int
 entries:SlS EntryG
 rules:SlS RuleG
abbrev Gram.ob (x:Gram):Obj:=.cells #[.string x.name,.slice x.cats.addr x.cats.xs.length x.cats.cap,.string x.start,.int .i64 x.startNo,.slice x.entries.addr x.entries.xs.length x.entries.cap,.slice x.rules.addr x.rules.xs.length x.rules.cap] 26
abbrev Gram.vl (x:Gram):Value:=.agg #[.string x.name,.slice x.cats.addr x.cats.xs.length x.cats.cap,.string x.start,.int .i64 x.startNo,.slice x.entries.addr x.entries.xs.length x.entries.cap,.slice x.rules.addr x.rules.xs.length x.rules.cap]
def PartG.cells (x:PartG):List Value:=[.string x.cat,.int .i64 x.no,.string x.text]
def GiveG.cells (x:GiveG):List Value:=[.int .i64 x.part,.string x.text]
def EntryG.cells (x:EntryG):List Value:=[.string x.text,.string x.cat,.int .i64 x.no,.slice x.gives.addr x.gives.xs.length x.gives.cap,.int .i64 x.cost]
def RuleG.cells (x:RuleG):List Value:=[.string x.cat,.int .i64 x.no,.slice x.parts.addr x.parts.xs.length x.parts.cap,.slice x.gives.addr x.gives.xs.length x.gives.cap,.int .i64 x.cost]
def Gram.cells (x:Gram):List Value:=[.string x.name,.slice x.cats.addr x.cats.xs.length x.cats.cap,.string x.start,.int .i64 x.startNo,.slice x.entries.addr x.entries.xs.length x.entries.cap,.slice x.rules.addr x.rules.xs.length x.rules.cap]
/-! ### what is right -/
def kwords : List ByteArray := ["grammar".toUTF8, "category".toUTF8, "start".toUTF8, "word".toUTF8, "is".toUTF8, "gives".toUTF8, "cost".toUTF8, "rule".toUTF8]
def Zc (s:ByteArray):Bool:=V9 s && !kwords.any (fun y=>decide (y=s))
def idxF (s:ByteArray):List ByteArray->Int
 | [] => -1
 | x :: l=>if x=s then 0 else if idxF s l = -1 then -1 else idxF s l+1
def catB (cats:List ByteArray) (s:ByteArray):Bool:=decide (0<=idxF s cats)
def Xbp (n:Int):Bool:=decide (0<=n) && decide (n<=1000)
def Uz (cats:List ByteArray) (x:EntryG):Bool:=Zc x.text && catB cats x.cat && (decide (1<=x.gives.xs.length) && decide (x.gives.xs.length<=4)) && x.gives.xs.all Zc && Xbp x.cost
def Ui (cats:List ByteArray) (p:PartG):Bool:=if p.text.size=0 then catB cats p.cat else decide (p.cat.size=0) && Zc p.text
def Xej (parts:List PartG) (n:Int):Bool:=decide (0<=n) && (match parts[n.toNat]? with|some p=>decide (p.text.size=0)|none=>false)
def Xgc (parts:List PartG) (y:GiveG):Bool:=if y.text.size=0 then Xej parts y.part else decide (y.part=0) && Zc y.text
def Yw (gives:List GiveG) (n:Nat):Nat:=gives.countP (fun y=>decide (y.text.size=0) && decide (y.part=(n:Int)))
def U4 (gives:List GiveG):Nat->List PartG->Bool
 | _,[]=>true
 | k,p :: l=>(decide (p.text.size≠0) || decide (Yw gives k=1)) && U4 gives (k+1) l
def Vh (cats:List ByteArray) (x:RuleG):Bool :=
 catB cats x.cat && (decide (1<=x.parts.xs.length) && decide (x.parts.xs.length<=4)) && (decide (1<=x.gives.xs.length) && decide (x.gives.xs.length<=8)) && Xbp x.cost &&
  x.parts.xs.all (Ui cats) && x.gives.xs.all (Xgc x.parts.xs) && U4 x.gives.xs 0 x.parts.xs
def Yk (g:Gram):Bool :=
 Zc g.name && decide (1<=g.cats.xs.length) && catB g.cats.xs g.start && g.cats.xs.all Zc && decide g.cats.xs.Nodup && g.entries.xs.all (Uz g.cats.xs) && g.rules.xs.all (Vh g.cats.xs)
def Uw (a b:ByteArray) (x:RuleG):Bool:=match x.parts.xs with|[p]=>decide (x.cat=a) && decide (p.text.size=0) && decide (p.cat=b)|_=>false
def Ub (rs:List RuleG) (a b:ByteArray):Prop:=∃x∈rs,Uw a b x=true
def Xb0 (rs:List RuleG):Nat->ByteArray->Bool
 | 0,_=>true
 | n+1,a=>rs.any (fun x=>match x.parts.xs with|[p]=>decide (x.cat=a) && decide (p.text.size=0) && Xb0 rs n p.cat|_=>false)
def T8 (g:Gram):Bool:=g.cats.xs.any (fun c=>Xb0 g.rules.xs g.cats.xs.length c)
def noP (cats:List ByteArray) (p:PartG):Int:=if p.text.size=0 then idxF p.cat cats else 0
def Ua (g:Gram):Bool :=
 decide (g.startNo=idxF g.start g.cats.xs) && g.entries.xs.all (fun x=>decide (x.no=idxF x.cat g.cats.xs)) &&
  g.rules.xs.all (fun x=>decide (x.no=idxF x.cat g.cats.xs) && x.parts.xs.all (fun p=>decide (p.no=noP g.cats.xs p)))
def bigB (g:Gram):Bool:=decide (32<g.cats.xs.length) || decide (512<g.entries.xs.length) || decide (128<g.rules.xs.length)
def Yb (g:Gram):Int:=if bigB g then 2 else if !Yk g then 260 else if T8 g then 261 else if Ua g then 0 else 260
theorem Xfp (rs:List RuleG) (n:Nat):∀a,Xb0 rs n a=true↔PathN (Ub rs) n a:=by
 induction n with
 | zero=>intro a;simp[Xb0,PathN]
 | succ n ih =>
  intro a;unfold Xb0 PathN;rw[List.any_eq_true];constructor
  ·rintro⟨x,hx,h⟩
   split at h
   ·rename_i p hp
    simp only[Bool.and_eq_true,decide_eq_true_eq] at h;refine⟨p.cat,⟨x,hx,?_⟩,(ih _).1 h.2⟩;unfold Uw;rw[hp];simp[h.1]
   ·cases h
  ·rintro⟨b,⟨x,hx,h⟩,hp⟩
   refine⟨x,hx,?_⟩;unfold Uw at h;split at h
   ·rename_i p hp'
    simp only[Bool.and_eq_true,decide_eq_true_eq] at h;simp only[Bool.and_eq_true,decide_eq_true_eq];exact⟨h.1,(ih _).2 (by rw[h.2];exact hp)⟩
   ·cases h
theorem PathN.of_toCircle {α:Type} {E:α->α->Prop} (n:Nat):∀ {x:α},Xd6 E x->PathN E n x:=by
 induction n with
 | zero=>intro x _;trivial
 | succ n ih =>
  intro x h;obtain⟨y,e,hy⟩:=Xda h;exact⟨y,e,ih hy⟩
theorem Xu0 (g:Gram) (h:∀x∈g.rules.xs,∀p,x.parts.xs=[p]->p.text.size=0->p.cat∈g.cats.xs) (hc:∀x∈g.rules.xs,x.cat∈g.cats.xs):T8 g=true↔Xya (Ub g.rules.xs):=by
 unfold T8;rw[List.any_eq_true];constructor
 ·rintro⟨c,hc',hp⟩
  refine Xfz g.cats.xs g.cats.xs.length [] c ?_ (by simp) (by simp) List.nodup_nil (by simp) hc' ((Xfp _ _ _).1 hp);rintro y z ⟨x,hx,hz⟩;unfold Uw at hz;split at hz
  ·rename_i p hp'
   simp only[Bool.and_eq_true,decide_eq_true_eq] at hz;rw[<- hz.2];exact h x hx p hp' hz.1.2
  ·cases hz
 ·rintro⟨x,hx⟩
  have hxc:x∈g.cats.xs:=by
   have:∃y,Ub g.rules.xs x y:=by cases hx with
    | one e=>exact⟨_,e⟩
    | more e _=>exact⟨_,e⟩
   obtain⟨y,r,hr,e⟩:=this;unfold Uw at e;split at e
   ·simp only[Bool.and_eq_true,decide_eq_true_eq] at e
    rw[<- e.1.1];exact hc r hr
   ·cases e
  exact⟨x,hxc,(Xfp _ _ _).2 (PathN.of_toCircle _ ⟨x,.inl rfl,hx⟩)⟩
/-! ### indices -/
theorem Xhb (s:ByteArray):∀l, -1<=idxF s l
 | []=>by simp[idxF]
 | x :: l=>by
  have:=Xhb s l;unfold idxF;split
  ·omega
  ·split<;>omega
theorem Xcl (s:ByteArray):∀l,idxF s l<l.length
 | []=>by simp[idxF]
 | x :: l=>by
  have:=Xcl s l;unfold idxF;rw[List.length_cons];split
  ·omega
  ·split<;>omega
theorem Xeh (s:ByteArray):∀l,0<=idxF s l↔s∈l
 | []=>by simp[idxF]
 | x :: l=>by
  have h:=Xeh s l;have h2:=Xhb s l;unfold idxF;rw[List.mem_cons];split
  ·rename_i e;simp[e]
  ·rename_i e
   have:¬s=x:=fun e'=>e e'.symm;split
   ·constructor
    ·omega
    ·rintro(h'|h');exact absurd h' this;have:=h.2 h';omega
   ·constructor
    ·intro;right;apply h.1;omega
    ·intro;omega
theorem Xeg (s:ByteArray):∀(l:List ByteArray) (k:Nat),idxF s l=k->l[k]? = some s
 | [],k=>by simp[idxF]
 | x :: l,k=>by
  unfold idxF;split
  ·rename_i e;intro h;obtain rfl:k=0:=by omega
   simp[e]
  ·split
   ·omega
   ·intro h
    have:=Xeg s l (k-1) (by omega);obtain⟨j,rfl⟩:∃j,k=j+1:=⟨k-1,by omega⟩
    simpa using this
theorem Qx (cats:List ByteArray) (s:ByteArray):catB cats s=true↔s∈cats:=by unfold catB;rw[decide_eq_true_eq,Xeh]
structure SlS.lies {α:Type} (f:α->List Value) (w:World) (s:SlS α):Prop where
 rd:Rd w s.addr (s.xs.flatMap f)
 cap:s.xs.length<=s.cap
 max:s.cap<=9223372036854775807
 nil:s.addr=none->s.xs=[]
theorem SlS.lies.ext {α:Type} {f:α->List Value} {w w':World} {s:SlS α} (h:s.lies f w) (hb:Below w.heap.size w w'):s.lies f w':=⟨h.rd.ext hb,h.cap,h.max,h.nil⟩
theorem SlS.lies.at_ {α:Type} {f:α->List Value} {sz:Nat} (hf:∀x,(f x).length=sz) (h0:0<sz) {w:World} {s:SlS α} (h:s.lies f w) {k:Nat} (hk:k<s.xs.length):∃b off,s.addr=some ⟨b,off,none⟩/\b<w.heap.size /\
  ∀(i:Nat) (hi:i<s.xs.length) (W:World),Below w.heap.size w W->∀(j:Nat) (u:Value),(f s.xs[i])[j]? = some u->W.cell? ⟨b,off+i*sz+j,none⟩=some u:=by
 obtain⟨b,off,he,hb,_⟩:=h.rd.elem hf h0 hk;refine⟨b,off,he,hb,fun i hi W hW j u hu=>?_⟩;obtain⟨b',off',he',_,hc⟩:=h.rd.elem hf h0 hi;rw[he] at he';cases he';exact(hW.cell (p:=⟨b,off+i*sz+j,none⟩) hb).trans (hc j u hu)
theorem PartG.size_cells (x:PartG):x.cells.length=3:=rfl
theorem GiveG.size_cells (x:GiveG):x.cells.length=2:=rfl
theorem EntryG.size_cells (x:EntryG):x.cells.length=5:=rfl
theorem RuleG.size_cells (x:RuleG):x.cells.length=5:=rfl
def EntryG.lies (w:World) (x:EntryG):Prop:=x.gives.lies w
def RuleG.lies (w:World) (x:RuleG):Prop:=x.parts.lies PartG.cells w/\x.gives.lies GiveG.cells w
structure Gram.lies (w:World) (g:Gram):Prop where
 cats:g.cats.lies w
 entries:g.entries.lies EntryG.cells w
 entry:∀x∈g.entries.xs,x.lies w
 rules:g.rules.lies RuleG.cells w
 rule:∀x∈g.rules.xs,x.lies w
theorem EntryG.lies.ext {w w':World} {x:EntryG} (h:x.lies w) (hb:Below w.heap.size w w'):x.lies w':=StrS.lies.ext h hb
theorem RuleG.lies.ext {w w':World} {x:RuleG} (h:x.lies w) (hb:Below w.heap.size w w'):x.lies w':=⟨h.1.ext hb,h.2.ext hb⟩
theorem Gram.lies.ext {w w':World} {g:Gram} (h:g.lies w) (hb:Below w.heap.size w w'):g.lies w':=⟨h.cats.ext hb,h.entries.ext hb,fun x hx=>(h.entry x hx).ext hb,h.rules.ext hb,fun x hx=>(h.rule x hx).ext hb⟩
end Go.Proofs.YtolpbjjapodmnaaGreatDoor
/- Small lemmas: blocks, new slices, rows that grow. No program in sight. -/
namespace Go.Han
open Go.RowKit
theorem gblk {w:World} {b t:Nat} {cs:Array Value} {fr:Nat×Nat} (h:w.heap[b]? = some (.cells cs t fr)) (j:Nat):w.cell? ⟨b,j,none⟩=cs[j]? := by
 simp[World.cell?,h]
theorem gb2 {w:World} {b t:Nat} {cs:Array Value} {fr:Nat×Nat} (h:w.heap[b]? = some (.cells cs t fr)):w.cell? ⟨b,0,none⟩=cs[0]? /\ w.cell? ⟨b,1,none⟩=cs[1]? := ⟨gblk h 0,gblk h 1⟩
theorem gb3 {w:World} {b t:Nat} {cs:Array Value} {fr:Nat×Nat} (h:w.heap[b]? = some (.cells cs t fr)):w.cell? ⟨b,0,none⟩=cs[0]? /\ w.cell? ⟨b,1,none⟩=cs[1]? /\ w.cell? ⟨b,2,none⟩=cs[2]? := ⟨gblk h 0,gblk h 1,gblk h 2⟩
theorem gb5 {w:World} {b t:Nat} {cs:Array Value} {fr:Nat×Nat} (h:w.heap[b]? = some (.cells cs t fr)):w.cell? ⟨b,0,none⟩=cs[0]? /\ w.cell? ⟨b,1,none⟩=cs[1]? /\ w.cell? ⟨b,2,none⟩=cs[2]? /\ w.cell? ⟨b,3,none⟩=cs[3]? /\ w.cell? ⟨b,4,none⟩=cs[4]? := ⟨gblk h 0,gblk h 1,gblk h 2,gblk h 3,gblk h 4⟩
theorem gb6 {w:World} {b t:Nat} {cs:Array Value} {fr:Nat×Nat} (h:w.heap[b]? = some (.cells cs t fr)):w.cell? ⟨b,0,none⟩=cs[0]? /\ w.cell? ⟨b,1,none⟩=cs[1]? /\ w.cell? ⟨b,2,none⟩=cs[2]? /\ w.cell? ⟨b,3,none⟩=cs[3]? /\ w.cell? ⟨b,4,none⟩=cs[4]? /\ w.cell? ⟨b,5,none⟩=cs[5]? := ⟨gblk h 0,gblk h 1,gblk h 2,gblk h 3,gblk h 4,gblk h 5⟩
theorem gb8 {w:World} {b t:Nat} {cs:Array Value} {fr:Nat×Nat} (h:w.heap[b]? = some (.cells cs t fr)):w.cell? ⟨b,0,none⟩=cs[0]? /\ w.cell? ⟨b,1,none⟩=cs[1]? /\ w.cell? ⟨b,2,none⟩=cs[2]? /\ w.cell? ⟨b,3,none⟩=cs[3]? /\ w.cell? ⟨b,4,none⟩=cs[4]? /\ w.cell? ⟨b,5,none⟩=cs[5]? /\ w.cell? ⟨b,6,none⟩=cs[6]? /\ w.cell? ⟨b,7,none⟩=cs[7]? := ⟨gblk h 0,gblk h 1,gblk h 2,gblk h 3,gblk h 4,gblk h 5,gblk h 6,gblk h 7⟩
theorem Xo (w:World) (o:Obj) (n:Nat) (h:n=w.heap.size):(w.alloc o).heap[n]? = some o:=by
 subst h;exact World.alloc_heap_new _ _
theorem Zg {w:World} {b t:Nat} {cs:Array Value} {fr:Nat×Nat} {xs:List Value} (h:w.heap[b]? = some (.cells cs t fr)) (hx:cs.toList=xs):Rd w (some ⟨b,0,none⟩) xs:=by
 refine .inr ⟨b,0,rfl,Xd h,fun j u hu=>?_⟩;rw[Nat.zero_add,gblk h];rw[<- hx] at hu
 simpa using hu
theorem Qa (w:World) (cs:List Value) (t:Nat):∀(j:Nat) (u:Value),cs[j]? = some u->(w.alloc (.cells cs.toArray t)).cell? ((⟨w.heap.size,0,none⟩:Addr).add j)=some u:=by
 intro j u hu;rw[show (⟨w.heap.size,0,none⟩:Addr).add j=⟨w.heap.size,j,none⟩ from by unfold Addr.add;split<;>simp_all,gblk (Xo _ _ _ rfl)]
 simpa using hu
theorem Xgb (w:World) (o:Obj) (cs:List Value) (t:Nat):∀(j:Nat) (u:Value),cs[j]? = some u->((w.alloc o).alloc (.cells cs.toArray t)).cell? ((⟨w.heap.size+1,0,none⟩:Addr).add j)=some u:=by
 have h:=Qa (w.alloc o) cs t;rw[World.size_alloc] at h;exact h
theorem Xau {w w':World} (h:Below w.heap.size w w') (row:Option Nat):w.grownBy w' row:=⟨h.os,h.tape,h.output,h.size,fun i hi _=>h.block i hi⟩
end Go.Han
namespace Go.Proofs.YtolpbjjapodmnaaGreatDoor
open Go.RowKit Go.Han
set_option maxRecDepth 100000
attribute [local irreducible] wpStill wpQuiet
set_option maxHeartbeats 8000000
theorem Xnx {c k:Int} (h:Xhh c k) (hp:Tu c=true):k=2\/k=3\/k=5:=by
 unfold Tu at hp;rcases h with ⟨_,h⟩|⟨_,_,h⟩|⟨_,_,_,h⟩|⟨h1,h2,h3,_⟩
 ·exact .inl h
 ·exact .inr (.inl h)
 ·exact .inr (.inr h)
 ·rw[h1,h2,decide_eq_false h3] at hp;cases hp
theorem Xu1 {c k:Int} (h:Xhh c k) (hp:Tu c=false):k=0\/k=1\/k=4:=by
 unfold Tu at hp;rcases h with ⟨h,_⟩|⟨_,h,_⟩|⟨_,_,h,_⟩|⟨_,_,_,h⟩
 ·rw[h] at hp;cases hp
 ·rw[h] at hp;simp at hp
 ·rw[h] at hp;simp at hp
 ·exact h
theorem Xjw {c k:Int} (h:Xhh c k) (hp:Yu c=true):k=2:=by
 rcases h with ⟨_,h⟩|⟨h1,_,h⟩|⟨h1,_,_,h⟩|⟨h1,_,_,_⟩
 ·exact h
 all_goals rw[hp] at h1;cases h1
theorem Xmo {c k:Int} (h:Xhh c k) (hp:Yu c=false):k=0\/k=1\/k=3\/k=4\/k=5:=by
 rcases h with ⟨h1,h⟩|⟨_,_,h⟩|⟨_,_,_,h⟩|⟨_,_,_,h⟩
 ·rw[hp] at h1;cases h1
 all_goals omega
def Xmc (Q:Int->Prop) (w:World) (e:Ending) (w':World):Prop:=∃k,e = .returned (.int .i64 k)/\Q k/\w=w'
theorem Xqx (c:Int) (w:World) (h:Tu c=true):Calls Tryz.prog 242 #[.int .u8 c] w (Xmc (fun k=>k=2\/k=3\/k=5) w) :=
 (Xch c w).mono fun _ _ ⟨k,h1,h2,h3⟩=>⟨k,h1,Xnx h2 h,h3⟩
theorem Xyz (c:Int) (w:World) (h:Tu c=false):Calls Tryz.prog 242 #[.int .u8 c] w (Xmc (fun k=>k=0\/k=1\/k=4) w) :=
 (Xch c w).mono fun _ _ ⟨k,h1,h2,h3⟩=>⟨k,h1,Xu1 h2 h,h3⟩
theorem Xmp (c:Int) (w:World) (h:Yu c=true):Calls Tryz.prog 242 #[.int .u8 c] w (Xmc (fun k=>k=2) w) :=
 (Xch c w).mono fun _ _ ⟨k,h1,h2,h3⟩=>⟨k,h1,Xjw h2 h,h3⟩
theorem Xny (c:Int) (w:World) (h:Yu c=false):Calls Tryz.prog 242 #[.int .u8 c] w (Xmc (fun k=>k=0\/k=1\/k=3\/k=4\/k=5) w) :=
 (Xch c w).mono fun _ _ ⟨k,h1,h2,h3⟩=>⟨k,h1,Xmo h2 h,h3⟩
theorem Uo {s:ByteArray} (h:0<s.size):s.toList.isEmpty=false:=by
 rw[ByteArray.toList_eq];cases hl:s.data.toList with
 | nil=>rw[Lib.size_eq,hl] at h;simp at h
 | cons=>rfl
theorem Up {s:ByteArray} (h:¬0<s.size):s.toList.isEmpty=true:=by
 rw[ByteArray.toList_eq];cases hl:s.data.toList with
 | nil=>rfl
 | cons=>rw[Lib.size_eq,hl] at h;simp at h
theorem Xo3 (s:ByteArray) (w:World):Calls Tryz.prog 200 #[.string s] w fun e w'=>e = .returned (.bool (V9 s))/\w=w':=by
 by_cases h0:0<s.size
 ·have g0':(0:Int)<s.size:=by omega
  have g3:=Uo h0;by_cases h1:s.size<=32
  ·have g1:¬(32:Int)<s.size:=by omega
   cases h2:Yu s[0].toNat
   ·have H:Hid (V9 s=false):=Xr0 s h0 h2
    have CL:=Xa (fun w=>Xny s[0].toNat w h2);clear h2;go_enter Tryz.func200,Tryz.ntmps200
    go_wp2_with fail
    refine(CL.out _).mono ?_;rintro e w' ⟨k,rfl,hk,rfl⟩;rcases hk with rfl|rfl|rfl|rfl|rfl
    all_goals
     go_wp2_with fail
     go_ret;exact⟨by rw[H.out];rfl,rfl⟩
   ·have H:Hid (V9 s=s.data.toList.all (fun c=>Tu c.toNat)):=X0c s h0 h1 h2
    have CL:=Xa (fun w=>Xmp s[0].toNat w h2);clear h2;go_enter Tryz.func200,Tryz.ntmps200
    go_wp2_with fail
    refine(CL.out _).mono ?_;rintro e w' ⟨k,rfl,rfl,rfl⟩;go_wp2_with fail
    go_loop [20] (fun i=>∃k:Nat,k<=s.size/\i = .int .i64 k/\Hid ((s.data.toList.take k).all (fun c=>Tu c.toNat)=true)) (fun i=>s.size-(intOf i).toNat)
    case atStart=>exact⟨0,Nat.zero_le _,rfl,rfl⟩
    case round =>
     obtain⟨k,hk,rfl,HR⟩:=hrel;by_cases hlt:k<s.size
     ·have Hs:=Xa (Xjs (f:=fun c=>Tu c.toNat) s k hlt)
      have Hf:=Xa (fun h=>Xur (f:=fun c=>Tu c.toNat) s k hlt h);cases hp:Tu s[k].toNat
      ·have HF:=Xa (Hf.out hp)
       have CP:=Xa (fun w=>Xyz s[k].toNat w hp);clear hp Hs Hf;go_wp2_with fail
       refine(CP.out _).mono ?_;rintro e w' ⟨q,rfl,hq,rfl⟩;rcases hq with rfl|rfl|rfl
       all_goals
        go_wp2_with fail
        go_ret;exact⟨by rw[H.out,HF.out];rfl,rfl⟩
      ·have HF:Hid ((s.data.toList.take (k+1)).all (fun c=>Tu c.toNat)=true):=by show _=_;rw[Hs.out,HR.out,hp];rfl
       have CP:=Xa (fun w=>Xqx s[k].toNat w hp);clear hp Hs Hf;go_wp2_with fail
       refine(CP.out _).mono ?_;rintro e w' ⟨q,rfl,hq,rfl⟩;rcases hq with rfl|rfl|rfl
       all_goals
        go_wp2_with fail
        go_round
        case rel=>exact⟨k+1,by omega,by go_num,HF⟩
        case measure=>simp[intOf];omega
     ·have HF:Hid (s.data.toList.all (fun c=>Tu c.toNat)=true):=by
       show _=_;have h:=HR.out;rw[List.take_of_length_le (by have:=Lib.size_eq s;omega)] at h;exact h
      clear HR;go_wp2_with fail
      go_ret;exact⟨by rw[H.out,HF.out];rfl,rfl⟩
  ·have g1:(32:Int)<s.size:=by omega
   have H:=Xa (Xwi s h1);clear h1;go_enter Tryz.func200,Tryz.ntmps200
   go_wp2_with fail
   go_ret;exact⟨by rw[H.out];rfl,rfl⟩
 ·have H:=Xa (Xr1 s h0)
  have g3:=Up h0;clear h0;go_enter Tryz.func200,Tryz.ntmps200
  go_wp2_with fail
  go_ret;exact⟨by rw[H.out];rfl,rfl⟩
end Go.Proofs.YtolpbjjapodmnaaGreatDoor
