/- Texts of this claim, one after the other: Wk5, Wk6, TraQ, Wk7. -/
import Derived.Test.YtolpbjjapodmnaaGreatDoorM15
import Derived.Test.YtolpbjjapodmnaaGreatDoorM10
namespace Go.Proofs.YtolpbjjapodmnaaGreatDoor
open Go.RowKit Go.Han
set_option maxRecDepth 100000
attribute [local irreducible] wpStill wpQuiet
set_option maxHeartbeats 8000000
section
attribute [local go_sem] Oper.semAt_some
theorem Xm9 (A:Option Addr) (cp n:Nat) (W:World) (h:n<=cp) :
  (Instr.slice 49 (.slice A n cp) none (some (.int .i64 n)) (some (.int .i64 n))).run Tryz.prog W = .ok (.slice (subA A n 0 1) n n) W:=by
 have h3:(Go.sizeOf (Tryz.prog.elem 49)).run Tryz.prog W = .ok 1 W:=by kernel_rfl
 have e:(Instr.slice 49 (.slice A n cp) none (some (.int .i64 n)) (some (.int .i64 n))).run Tryz.prog W=((Go.sizeOf (Tryz.prog.elem 49)).run Tryz.prog W).andThen fun s w => .ok (sliced A 0 ((n:Int)).toNat ((n:Int)).toNat s) w:=by
  simp[Instr.slice,run_underlying (show Tryz.prog.underlying 49=some (.slice (Tryz.prog.elem 49)) by rw[Tryz.underlying49];rfl),Instr.sliceBounds,run_sliceBound,sliced,h]
 rw[e,h3];rfl
theorem Xsp {A:Option Addr} {cp n:Nat} (hA:n=0\/∃b off,A=some ⟨b,off,none⟩) (W:World) (h:n<=cp) :
  (Instr.slice 49 (.slice A n cp) none (some (.int .i64 n)) (some (.int .i64 n))).run Tryz.prog W = .ok (.slice A n n) W:=by
 rw[Xm9 A cp n W h]
 congr 2
 unfold subA;rcases hA with rfl|⟨b,off,rfl⟩
 ·simp
 ·split
  ·rfl
  ·simp[Addr.add]
section
variable {w0:World} {N l bi bg:Nat} {J:(Nat->Prop)->List TgP->World->Prop} {own own':Nat->Prop} {pre pre':List TgP} {V V':World} {g:Gram} {its:SlS ItemG}
def wkF (u:Nat->Value) (p v:Value):Array Value:=#[u 0,u 1,u 2,u 3,u 4,u 5,u 6,u 7,u 8,u 9,u 10,u 11,u 12,p,v,u 15,u 16,u 17,u 18,u 19,u 20,u 21,u 22,u 23,u 24,u 25,u 26,u 27,u 28,u 29,u 30,u 31,u 32,u 33,u 34,u 35,u 36,u 37,u 38,u 39,u 40,u 41,u 42,u 43,u 44,u 45,u 46,u 47,u 48,u 49,u 50,u 51,u 52,u 53,u 54,u 55,u 56,u 57,u 58,u 59,u 60,u 61,u 62,u 63,u 64,u 65,u 66,u 67,u 68,u 69,u 70,u 71,u 72,u 73,u 74,u 75,u 76,u 77,u 78,u 79,u 80,u 81,u 82,u 83,u 84,u 85,u 86,u 87,u 88,u 89,u 90,u 91,u 92,u 93,u 94,u 95,u 96,u 97,u 98,u 99,u 100,u 101,u 102,u 103,u 104,u 105,u 106,u 107,u 108,u 109,u 110,u 111,u 112,u 113,u 114,u 115,u 116,u 117,u 118,u 119,u 120,u 121,u 122,u 123,u 124,u 125,u 126,u 127]
def Xge (g:Gram) (its:List ItemG) (i k:Int) (ab:List Int) (kids:List TreeV) (parts:List PartG) (y:GiveG):List TgP :=
 if y.text.size≠0 then [⟨y.text,setI (Vi i k++ab), -1⟩] else match kids[kidN parts y.part.toNat]? with|some t=>Yj g its t (ab++litsV parts kids i)|none=>[]
theorem Xgy (g:Gram) (items:List ItemG) {r j i k:Int} {kids:List TreeV} {ru:RuleG} (hr:¬r<0) (h:g.rules.xs[r.toNat]? = some ru) (ab:List Int):Yj g items (.node r j i k kids) ab=ru.gives.xs.flatMap (Xge g items i k ab kids ru.parts.xs):=Xca g items hr h ab
theorem Xrd {i k:Int} {ab:List Int} {kids:List TreeV} {parts:List PartG} {y:GiveG} (h:y.text.size≠0):Xge g its.xs i k ab kids parts y=[⟨y.text,setI (Vi i k++ab), -1⟩]:=if_pos h
theorem Xvl {i k:Int} {ab:List Int} {kids:List TreeV} {parts:List PartG} {y:GiveG} {n:Nat} (h:¬y.text.size≠0) (hn:kidN parts y.part.toNat=n) (hl:n<kids.length):Xge g its.xs i k ab kids parts y=Yj g its.xs kids[n] (ab++litsV parts kids i):=by
 unfold Xge;rw[if_neg h,hn,List.getElem?_eq_getElem hl]
def Xbi (r j i k:Int) (A:Option Addr) (n c:Nat):Obj:=.cells #[.int .i64 r,.int .i64 j,.int .i64 i,.int .i64 k,.slice A n c] 37
def rowO (A:Option Addr) (n c:Nat):Obj:=.cells #[.slice A n c] 49
def Xgd (y:GiveG):Obj:=(.cells #[.int .i64 y.part,.string y.text] 176)
structure GiveSt (w0:World) (N l bi bg:Nat) (J:(Nat->Prop)->List TgP->World->Prop) (own₀:Nat->Prop) (V:World) (A:Option Addr) (cp:Nat) (ab:List Int) (A5:Option Addr) (cp5:Nat) (al:List Int) (m n:Nat) (F:Int->Option TreeG) (nt:Nat) (to_:Obj) (bo D:Nat) (ys:List TgP) (own:Nat->Prop) (W:World):Prop where
 step:BodyStep own₀ own V W
 st:WkSt w0 N l bi bg J own ys W
 abr:AbAt own W A cp ab
 alr:AbAt own W A5 cp5 al
 map:MapF W intW treeE m n F
 mo:¬own m
 tree:W.heap[nt]? = some to_
 tn:¬own nt
 row:W.heap[bo]? = some (rowO A5 al.length cp5)
 rn:¬own bo
 d:W.heap[D]? = some (.deferred (some []))
 dn:¬own D
section
variable {own₀:Nat->Prop} {A:Option Addr} {cp:Nat} {ab:List Int} {A5:Option Addr} {cp5:Nat} {al:List Int} {m n:Nat} {F:Int->Option TreeG} {nt:Nat} {to_:Obj} {bo D:Nat} {ys ys':List TgP} {W W':World}
theorem GiveSt.next (h:GiveSt w0 N l bi bg J own₀ V A cp ab A5 cp5 al m n F nt to_ bo D ys own W) (hb:BodyStep own own' W W') (hs:WkSt w0 N l bi bg J own' ys' W'):GiveSt w0 N l bi bg J own₀ V A cp ab A5 cp5 al m n F nt to_ bo D ys' own' W' :=
 ⟨h.step.trans hb,hs,h.abr.step hb,h.alr.step hb,h.map.of_block (hb.block _ h.map.lt h.mo),Y4 hb h.mo h.map.lt,(hb.block _ (Xd h.tree) h.tn).trans h.tree,Y4 hb h.tn (Xd h.tree),(hb.block _ (Xd h.row) h.rn).trans h.row,Y4 hb h.rn (Xd h.row),(hb.block _ (Xd h.d) h.dn).trans h.d,Y4 hb h.dn (Xd h.d)⟩
theorem GiveSt.ext (h:GiveSt w0 N l bi bg J own₀ V A cp ab A5 cp5 al m n F nt to_ bo D ys own W) (hJ:Xbk N J) (hb:Below W.heap.size W W'):GiveSt w0 N l bi bg J own₀ V A cp ab A5 cp5 al m n F nt to_ bo D ys own W' :=
 h.next (.grow hb fun k hk=>(h.st.ok k hk).2) (h.st.ext hJ hb)
end
structure GvC (N bi bg nt:Nat) (to_:Obj) (bo:Nat) (ro:Obj) (gb:Nat) (go_:Obj) (m:Nat) (mo:Option Obj) (X:World):Prop where
 pt:X.heap[N+1+1]? = some (.cells #[.func (.func 156) #[] #[.pointer (some ⟨N,0,none⟩)]] 227 (0,0))
 wk:X.heap[N+1]? = some (.cells #[.func (.func 160) #[] #[.pointer (some ⟨bi,0,none⟩),.pointer (some ⟨N+1+1,0,none⟩),.pointer (some ⟨bg,0,none⟩),.pointer (some ⟨N+1,0,none⟩)]] 223 (0,0))
 tree:X.heap[nt]? = some to_
 row:X.heap[bo]? = some ro
 give:X.heap[gb]? = some go_
 map:X.heap[m]? = mo
section
variable {nt:Nat} {to_:Obj} {bo:Nat} {ro:Obj} {gb:Nat} {go_:Obj} {m:Nat} {mo:Option Obj} {X X':World}
theorem GvC.step (h:GvC N bi bg nt to_ bo ro gb go_ m mo X) (hb:BodyStep own own' X X') (hf:¬own N/\¬own (N+1)/\¬own (N+1+1)) (h1:¬own nt) (h2:¬own bo) (h3:¬own gb) (h4:¬own m) (hm:m<X.heap.size):GvC N bi bg nt to_ bo ro gb go_ m mo X' :=
 ⟨(hb.block _ (Xd h.pt) hf.2.2).trans h.pt,(hb.block _ (Xd h.wk) hf.2.1).trans h.wk,(hb.block _ (Xd h.tree) h1).trans h.tree,(hb.block _ (Xd h.row) h2).trans h.row,(hb.block _ (Xd h.give) h3).trans h.give,(hb.block _ hm h4).trans h.map⟩
theorem GvC.ext (h:GvC N bi bg nt to_ bo ro gb go_ m mo X) (hb:Below X.heap.size X X') (hm:m<X.heap.size):GvC N bi bg nt to_ bo ro gb go_ m mo X' :=
 h.step (own:=fun _=>False) (.grow hb fun _ h=>h.elim) ⟨id,id,id⟩ id id id id hm
end
theorem Xgn:∀ {l:List TreeV} {t:TreeV},t∈l->Yr t<=Yv l
 | x :: l,t,h=>by
  unfold Yv;rcases List.mem_cons.1 h with rfl|h
  ·omega
  ·have:=Xgn h;omega
theorem Xw7 {α β:Type} (f:α->List β) (l:List α) {q:Nat} (h:q<l.length):(l.take (q+1)).flatMap f=(l.take q).flatMap f++f l[q]:=by
 rw[List.take_succ_eq_append_getElem h,List.flatMap_append];simp
def RuleC (w0:World) (N l bi bg:Nat) (J:(Nat->Prop)->List TgP->World->Prop) (g:Gram) (its:SlS ItemG) (xs:List TgP) (P:Nat->Prop) (t:TreeV):Prop :=
 ∀(x:TreeG) (own:Nat->Prop) (pre:List TgP) (V:World) (A:Option Addr) (cp:Nat) (ab:List Int),TreeAt w0 P t [.int .i64 x.rule,.int .i64 x.item,.int .i64 x.frm,.int .i64 x.unt,.slice x.kids.addr x.kids.len x.kids.cap]->WkSt w0 N l bi bg J own pre V->AbAt own V A cp ab->ab.length+4*Yr t<=5000->pre++Yj g its.xs t ab <+: xs ->
  Calls Tryz.prog 160 #[x.vl,.slice A ab.length cp,.pointer (some ⟨bi,0,none⟩),.pointer (some ⟨N+1+1,0,none⟩),.pointer (some ⟨bg,0,none⟩),.pointer (some ⟨N+1,0,none⟩)] V (Xd3 w0 N l bi bg J own (pre++Yj g its.xs t ab) V)
theorem Xxu {xs:List TgP} {P:Nat->Prop} (hE:Xto w0 bi bg g its) (_hm:g.rules.xs.length<=9223372036854775807) (hJ:Xbk N J) (hY:AskK Tryz.prog l (EncK w0.heap.size) (OldR w0) xs J) (H:WkSt w0 N l bi bg J own pre V) (r:Nat) (j i k:Int) (kA:Option Addr) (kc:Nat) (kids:List TreeV) (css:List (List Value)) (A:Option Addr) (cp:Nat) (ab:List Int) (hr:r<g.rules.xs.length)
  (hks:KidsAt w0 P kids css) (hrd:Rd w0 kA css.flatten) (hkc:kids.length<=kc) (hkm:kc<=9223372036854775807) (hpl:g.rules.xs[r].parts.xs.length<=4) (hgl:g.rules.xs[r].gives.xs.length<=8) (hcat:g.rules.xs[r].parts.xs.countP (fun x=>decide (x.text.size=0))<=kids.length) (hi0:0<=i) (hik:i<k) (hk5:k<=3000) (hu:∀t∈kids,0<=t.unt/\t.unt<=5000)
  (hgv:∀y∈g.rules.xs[r].gives.xs,y.text.size=0->0<=y.part/\Yo g.rules.xs[r].parts.xs y.part.toNat=true)
  (ha:AbAt own V A cp ab) (hn:ab.length+4*(1+Yv kids)<=5000) (hpre:pre++Yj g its.xs (.node (r:Int) j i k kids) ab <+: xs) (ih:∀t∈kids,RuleC w0 N l bi bg J g its xs P t) :
  Calls Tryz.prog 160 #[.agg #[.int .i64 (r:Int),.int .i64 j,.int .i64 i,.int .i64 k,.slice kA kids.length kc],.slice A ab.length cp,.pointer (some ⟨bi,0,none⟩),.pointer (some ⟨N+1+1,0,none⟩),.pointer (some ⟨bg,0,none⟩),.pointer (some ⟨N+1,0,none⟩)] V (Xd3 w0 N l bi bg J own (pre++Yj g its.xs (.node (r:Int) j i k kids) ab) V):=by
 obtain⟨bR,oR,hRa,hbR,hRc⟩:=hE.gl.rules.at_ RuleG.size_cells (by omega) hr;obtain⟨w1,hw1⟩:∃w1,V.alloc (.cells #[.int .i64 (r:Int),.int .i64 j,.int .i64 i,.int .i64 k,.slice kA kids.length kc] 37)=w1:=⟨_,rfl⟩
 have hb1:=X5 hw1;have hk1:=Yg hw1;have H1:=H.ext hJ hb1;have d0:w1.cell? ⟨bR,oR+r*5,none⟩=some (.string g.rules.xs[r].cat):=hRc r hr w1 H1.low 0 _ rfl;have d1:w1.cell? ⟨bR,oR+r*5+1,none⟩=some (.int .i64 g.rules.xs[r].no):=hRc r hr w1 H1.low 1 _ rfl;have d2:w1.cell? ⟨bR,oR+r*5+2,none⟩=some (.slice g.rules.xs[r].parts.addr g.rules.xs[r].parts.xs.length g.rules.xs[r].parts.cap):=hRc r hr w1 H1.low 2 _ rfl;have d3:w1.cell? ⟨bR,oR+r*5+3,none⟩=some (.slice g.rules.xs[r].gives.addr g.rules.xs[r].gives.xs.length g.rules.xs[r].gives.cap):=hRc r hr w1 H1.low 3 _ rfl;have d4:w1.cell? ⟨bR,oR+r*5+4,none⟩=some (.int .i64 g.rules.xs[r].cost):=hRc r hr w1 H1.low 4 _ rfl;have hbi:=(H1.low.block _ (Xd hE.gram)).trans hE.gram;have c5:=gblk hbi 5;obtain⟨y0,y1,y2,y3,y4⟩:=gb5 hk1;rw[hRa] at c5;have q1:decide ((r:Int)<0)=false:=decide_eq_false (by omega);have q2:0<=(r:Int):=by omega
 have q3:(r:Int)<(g.rules.xs.length:Int):=by omega
 have hrl:=hE.gl.rule _ (List.getElem_mem hr);have htr:=Xgy g its.xs (r:=(r:Int)) (j:=j) (i:=i) (k:=k) (kids:=kids) (by omega) (show g.rules.xs[((r:Int)).toNat]? = some g.rules.xs[r] from by rw[show ((r:Int)).toNat=r by omega];exact List.getElem?_eq_getElem hr) ab;rw[htr] at hpre ⊢;generalize g.rules.xs[r]=ru at *;clear hRc hRa hbi htr;obtain⟨w2,hw2⟩:∃w2,w1.alloc ru.ob=w2:=⟨_,rfl⟩
 have hb2:=X5 hw2;have hx2:=Yg hw2;obtain⟨w3,hw3⟩:∃w3,w2.alloc (.cells #[.slice A ab.length ab.length] 49)=w3:=⟨_,rfl⟩
 have hb3:=X5 hw3;have ho3:=Yg hw3;have hrs:=fun W=>Xsp (A:=A) (cp:=cp) (n:=ab.length) (by rcases ha.2 with rfl|⟨b,off,h,_⟩;exact .inl rfl;exact .inr ⟨b,off,h⟩) W ha.1;have hx3:=Xi hb3 hx2;have hk3:=((Xb hb2 hb3).block _ (Xd hk1)).trans hk1;obtain⟨e0,e1,e2,e3,e4⟩:=gb5 hx3;obtain⟨z0,z1,z2,z3,z4⟩:=gb5 hk3;have Hw3:=Xa hw3;refine Z0 Tryz.func160 rfl ?_;simp only[Tryz.ntmps160,Zr,Nat.reduceAdd,Nat.reduceSub];refine Xm fun K1 hK1=>?_;go_wp2
 refine Xm fun K2 hK2=>?_;go_wp2
 refine Xm fun K3 hK3=>?_;go_wp2
 refine Xm fun K4 hK4=>?_;go_wp2
 refine Uq ?_;refine Xm fun K5 hK5=>?_;go_wp2_with fail
 refine(Xwc ru ⟨(r:Int),j,i,k,⟨kA,kids.length,kc⟩⟩ _).mono ?_;rintro e w4 ⟨rfl,hw4⟩;go_wp2
 refine Zl ?_;have hw3':=Hw3.out;have hz3:w3.heap.size=w2.heap.size+1:=by rw[<- hw3'];simp
 have hb4:Below w3.heap.size w3 w4:=by rw[<- hw4];exact Xg ba_q _
 have hz4:w4.heap.size=w3.heap.size+2:=by rw[<- hw4];simp
 have hr4:w4.heap[w3.heap.size]? = some ru.ob:=by rw[<- hw4];exact(Below.heap_alloc _ _ _ (by simp)).trans (World.alloc_heap_new _ _)
 have ht4:w4.heap[w3.heap.size+1]? = some (.cells #[.int .i64 (r:Int),.int .i64 j,.int .i64 i,.int .i64 k,.slice kA kids.length kc] 37 (0,0)):=by rw[<- hw4];have:=World.alloc_heap_new (w3.alloc ru.ob) (.cells #[.int .i64 (r:Int),.int .i64 j,.int .i64 i,.int .i64 k,.slice kA kids.length kc] 37);rwa [World.size_alloc] at this
 have hlow2:Below w0.heap.size w0 w2:=Xb H1.low hb2;have hit:=lits1 w4 w2 (fun k=>k<w2.heap.size\/k=w3.heap.size+1\/k=w3.heap.size) (Xb hb3 hb4) (fun k hk => .inl hk) (fun k hk=>by have:=hb3.size;have:=hb4.size;omega) ru P (r:Int) j i k kids kA kc (w3.heap.size+1) w3.heap.size css ht4 hr4 (.inr (.inl rfl)) (.inr (.inr rfl)) (hrl.1.ext hlow2) hpl (hks.keep (fun b _ hlt=>hlow2.block b hlt) hlow2.size fun _ h=>h) (hrd.ext hlow2) hkc hcat hi0 (by omega) hu
 have hrow4:RowK own w2.heap.size ab (fun k=>k=w2.heap.size) [] w4:=by
  refine⟨.slice A ab.length ab.length,Xi hb4 ho3,.inr ⟨rfl,⟨A,rfl,?_⟩,fun _=>Iff.rfl⟩⟩;have hVw4:Below V.heap.size V w4:=Xb hb1 (Xb hb2 (Xb hb3 hb4));exact ha.2.imp id fun ⟨b,off,e1,e2,e3,e4⟩=>⟨b,off,e1,⟨by have:=(Xb hb1 hb2).size;omega,e3⟩,Nat.lt_of_lt_of_le e2 hVw4.size,fun j u hu=>(World.cell?_of_block (a:=⟨b,off+j,none⟩) (hVw4.block b e2)).trans (e4 j u hu)⟩
 have hR4:Xd4 (fun k=>k<w2.heap.size\/k=w3.heap.size+1\/k=w3.heap.size) w4 w4:=⟨rfl,rfl,rfl,Nat.le_refl _,fun k hk=>⟨by have:=hb3.size;have:=hb4.size;omega,rfl⟩⟩
 have hO4:Ti (fun k=>k<w2.heap.size\/k=w3.heap.size+1\/k=w3.heap.size) (fun k=>k=w2.heap.size) w4:=fun k hk=>by subst hk;exact⟨by have:=hb3.size;omega,by have:=hb3.size;have:=hb4.size;omega⟩
 have hwV:w2.heap.size<w4.heap.size:=by omega
 have hln:ab.length+4<=9000:=by omega
 have Hln:=Xa (show (litsV ru.parts.xs kids i).length<=4 from Nat.le_trans (Xfl _ _ _) hpl)
 refine Xl9 (xs:=litsV ru.parts.xs kids i) Tryz.func160 rfl (enters_of Tryz.func210 (by kernel_rfl) rfl) hit hR4 (fun _ x vs _ h=>by rw[show vs=_ from h];rfl) (fun _ _ _ _ _ _ h=>h)
  (RowK own w2.heap.size ab) (Xlr _ (Nat.le_of_lt hwV) _) (fun k=>k=w2.heap.size) hO4 hrow4
  (fun x a' own5 s X=>a'={tmps:=wkF (fun n=>a'.tmps.getD n undef) (.pointer (some ⟨w2.heap.size,0,none⟩)) (.int .i64 x),defers:=[]}/\RowK own w2.heap.size ab own5 s X) (fun x a' own5 s X X' l5 o h hl hno _ _ hs=>⟨h.1,Xpl h.2 (by omega) hno hs⟩) ?_ ?_ ?_
 ·rintro l5 own5 s x vs X hi hs hvs hok hbs
  obtain rfl:vs=#[.int .i64 x]:=hvs;refine wpIn_mono (Q:=Exit.then (fun a' W'=>∃own',BodyStep own5 own' X W'/\(a'={tmps:=wkF (fun n=>a'.tmps.getD n undef) (.pointer (some ⟨w2.heap.size,0,none⟩)) (.int .i64 x),defers:=[]}/\RowK own w2.heap.size ab own' s W')) (fun _ _ _=>False)) ?_ (fun e a w h=>h);have Hi:=Xa hi;have Hok:=Xa hok;clear hi hok hbs hs hit hrow4 hR4 hO4;gi_wp2
  exact⟨own5,.refl fun k hk=>(Hok.out k hk).2,by kernel_rfl,Hi.out⟩
 ·rintro l5 own5 s x a' X ⟨ha5,hi⟩ hs hok hbs
  generalize (fun n=>a'.tmps.getD n undef)=u at ha5;subst ha5
  have hsl:s.length<4:=by
   obtain⟨t,ht⟩:=hs;have:=Hln.out;rw[<- ht] at this;simp at this;omega
  have h6:=Xm8 ((Xlr _ (Nat.le_of_lt hwV) _).1 _ _ _ _ hi (Xg (Below.refl X.heap.size X) (.cells #[.int .i64 x] 3))) x X.heap.size (by rw[gblk (World.alloc_heap_new X _)];rfl) (by omega) 49;obtain⟨A1,n1,c1,A2,n2,c2,w7,hbx6,hrun,hbx7,hfin⟩:=h6
  have hbX:X.heap[w2.heap.size]? = some (.cells #[.slice A1 n1 c1] 49 (0,0)):=by
   obtain⟨v8,h8,_⟩:=hi;exact(Below.heap_alloc X (.cells #[.int .i64 x] 3) _ (Xd h8)).symm.trans hbx6
  have c0:=Xe hbX;have c7:=Xe hbx7;have f7:=Xf hbx7 0
  have hbdy:∃own',BodyStep own5 own' X (w7.setCell ⟨w2.heap.size,0,none⟩ (.slice A2 n2 c2))/\RowK own w2.heap.size ab own' (s++[x]) (w7.setCell ⟨w2.heap.size,0,none⟩ (.slice A2 n2 c2)):=by
   obtain⟨own',h1,h2⟩:=hfin;exact⟨own',(BodyStep.grow (Xg (Below.refl X.heap.size X) _) fun k hk=>(hok k hk).2).trans h1,h2⟩
  have Hb:=Xa hbdy;clear hbdy hfin hbx6 hbx7 hbX hs hok hbs hit hrow4 hR4 hO4;unfold wkF;gi_wp2_with (gi_at_builtin;refine Xcx _ rfl _ _ _ rfl rfl rfl hrun ?_)
  exact Hb.out
 ·rintro D own5 W5 hD hnD hok5 hbs5 hrow5 hdef
  have hlow5:Below w2.heap.size w2 W5:=by
   have h:=Xb hb3 hb4;exact⟨hbs5.os.trans h.os,hbs5.tape.trans h.tape,hbs5.output.trans h.output,Nat.le_trans h.size hbs5.size,fun q hq=>(hbs5.block q (by omega) (by omega)).trans (h.block q hq)⟩
  have hV5:=Xb (Xb hb1 hb2) hlow5;have hS5:=H.ext hJ hV5;obtain⟨A5,cp5,hbx5,ha5⟩:=X0m hrow5 (fun q hq=>by have:=(H.ok q hq).2;have:=(Xb hb1 hb2).size;omega);have ha0:=ha.ext hV5;have htb5:=((Xb hb2 hlow5).block _ (Xd hk1)).trans hk1;have hrb5:=Xi hlow5 hx2;obtain⟨kg,hkg⟩:=Xv4 hrd hks;obtain⟨W6,hW6⟩:∃W6,W5.alloc (.map #[] 0)=W6:=⟨_,rfl⟩
  have hb6:=X5 hW6;have hm6:MapF W6 intW treeE W5.heap.size 0 (fun _=>none):=by rw[<- hW6];exact MapF.made _ _ _
  have hmm:=@run_makeMap Tryz.prog;have hrb6:=Xi hb6 hrb5;have r2:=gblk hrb6 2;have hDlt:=Xd hdef;have hNlt:=Xd H.pt;have hVw2:V.heap.size<=w2.heap.size:=(Xb hb1 hb2).size;have Hlits:=Xa (show (litsV ru.parts.xs kids i).length<=4 from Hln.out);have hDV:V.heap.size<=D:=by have:=(Xb hb1 (Xb hb2 (Xb hb3 hb4))).size;omega
  have HownV:=Xa H.ok;have HlowV:=Xa H.low;have Hm6:=Xa (hm6.congr fun y _=>(Xzx ru.parts.xs kg y));have HS5:=Xa hS5;have Ha5:=Xa ha5;have Ha0:=Xa ha0;have Htb5:=Xa htb5;have Hrb5:=Xa hrb5;have Hbx5:=Xa hbx5;have Hdef:=Xa hdef;have HV5:=Xa hV5;have Hkg:=Xa hkg;have Hrl:=Xa hrl;have Hih:=Xa ih;have Hgv:=Xa hgv;have Hpre:=Xa hpre;have Hcat:=Xa hcat;have Hn:=Xa hn;have HE:=Xa hE;have HJ:=Xa hJ;have HY:=Xa hY;have Hu:=Xa hu;have HW6:=Xa hW6;have HB6:=Xa hb6;have hmap0:W5.heap.size<W6.heap.size:=by rw[<- hW6];simp
  have hkn1:kids.length<=9223372036854775807:=Nat.le_trans hkc hkm;clear hS5 ha5 ha0 htb5 hrb5 hbx5 hdef hV5 hkg hrl ih hgv hpre hcat hn hE hJ hY hu hb6 hm6 hrb6 hlow5 hrow5 hbs5 hok5 hnD hit hrow4 hR4 hO4 H H1 ha hrs hb1 hb2 hb3 hb4 hk1 hx2 ho3 hx3 hk3 hr4 ht4 hlow2 hks hrd;clear d0 d1 d2 d3 d4 y0 y1 y2 y3 y4 e0 e1 e2 e3 e4 z0 z1 z2 z3 z4 c5 Hw3 hw3' hw1 hw2 hw3 hw4 hz3 hz4 Hln hln hwV;refine Ur ?_;go_wp2_with fail
  go_loopw [72] (fun iv wr=>∃p:Nat,p<=ru.parts.xs.length/\iv = .int .i64 p/\Hid (MapF wr intW treeE W5.heap.size p (kmF ru.parts.xs kg p)/\Below W5.heap.size W5 wr)) (fun iv _=>ru.parts.xs.length-(intOf iv).toNat)
  case atStart=>exact⟨0,Nat.zero_le _,rfl,Hm6.out,HB6.out⟩
  case round =>
   obtain⟨p,hp,rfl,HM⟩:=hrel;by_cases hlt:p<ru.parts.xs.length
   ·have hlowr:Below w0.heap.size w0 wr:=Xb HS5.out.low HM.out.2
    obtain⟨bP,oP,hPa,hbP,hPc⟩:=Hrl.out.1.at_ PartG.size_cells (by omega) hlt;have f0:wr.cell? ⟨bP,oP+p*3,none⟩=some (.string ru.parts.xs[p].cat):=hPc p hlt wr hlowr 0 _ rfl;have f1:wr.cell? ⟨bP,oP+p*3+1,none⟩=some (.int .i64 ru.parts.xs[p].no):=hPc p hlt wr hlowr 1 _ rfl;have f2:wr.cell? ⟨bP,oP+p*3+2,none⟩=some (.string ru.parts.xs[p].text):=hPc p hlt wr hlowr 2 _ rfl;have hca:=Xux hlt;rw[hPa];have Hca:=Xa hca;clear hPc hPa hca;generalize ru.parts.xs[p]=q at *;obtain⟨w8,hw8⟩:∃w8,wr.alloc (.cells #[.string q.cat,.int .i64 q.no,.string q.text] 81)=w8:=⟨_,rfl⟩
    have hb8:=X5 hw8;have hz8:=Yg hw8;have hm8:=HM.out.1.of_block (hb8.block _ HM.out.1.lt);have hB8:=Xb HM.out.2 hb8;obtain⟨s0,s1,s2⟩:=gb3 hz8;by_cases ht:q.text.size≠0
    ·have k3:=Uo (s:=q.text) (by omega)
     have k4:¬q.text.toList=[]:=(by intro h;rw[h] at k3;cases k3);have HM8:Hid (MapF w8 intW treeE W5.heap.size (p+1) (kmF ru.parts.xs kg (p+1))/\Below W5.heap.size W5 w8):=⟨(hm8.mono (Nat.le_succ p)).congr fun y _=>Xzw (by rw[Hca.out,decide_eq_false (by omega)]) y,hB8⟩
     clear hm8 hB8 hz8 hb8 hlowr HM;go_wp2_with fail
     go_roundw
     case rel=>exact⟨p+1,by omega,by go_num,HM8.out⟩
     case measure=>simp[intOf];omega
    ·have k2:=Up (s:=q.text) (by omega)
     have k3:q.text.toList=[]:=List.isEmpty_iff.1 k2;have hcat2:Yo ru.parts.xs p=true:=(by rw[Hca.out,decide_eq_true (by omega)]);have hkl:=Xhc hcat2 Hcat.out
     have hsz:=hm8.size Vu (Xbt ru.parts.xs p) (Xm2 _ _) (fun x hx=>by
      obtain⟨n9,h9,rfl⟩:=List.mem_map.1 hx;have:=List.mem_range.1 (List.mem_filter.1 h9).1;exact Vp (by omega) (by omega)) (fun x _=>Xrl _ _ _ _) Tryz.underlying230 3
     rw[Xio] at hsz;obtain⟨_,bK,oK,hKa,hbK,g0,g1,g2,g3,g4⟩:=Hkg.out _ hkl;have hl8:=Xb hlowr hb8;have kl:∀u,w8.cell? ⟨bK,oK+kidN ru.parts.xs p*5+u,none⟩=w0.cell? ⟨bK,oK+kidN ru.parts.xs p*5+u,none⟩:=fun u=>World.cell?_of_block (a:=⟨bK,oK+kidN ru.parts.xs p*5+u,none⟩) (hl8.block bK hbK)
     replace g0:=(kl 0).trans g0
     replace g1:=(kl 1).trans g1
     replace g2:=(kl 2).trans g2
     replace g3:=(kl 3).trans g3
     replace g4:=(kl 4).trans g4
     rw[Nat.add_zero] at g0;have htb8:=Xi hB8 Htb5.out;have y4:=gblk htb8 4;rw[hKa] at y4;have hgood:intW.good (p:Int):=Vp (by omega) (by omega);have Hk2:=Xa (fun y=>X14 (kg:=kg) hcat2 y);have hkm8:p<maxLen:=(by unfold maxLen;omega);generalize hKn:kidN ru.parts.xs p=kn at *;generalize kg kn=z at *;have HB8:=Xa hB8;clear hz8 hb8 hlowr HM hl8 kl htb8 hcat2 hKn hKa hB8;go_wp2_with (at_mapUpdate;refine Vz _ rfl _ _ _ 230 rfl 37 Vu Tryz.underlying230 intW treeE W5.heap.size p _ rfl hm8 hkm8 (p:Int) z rfl rfl hgood ?_;intro w9 hm9 hg9 hs9)
     have hB9:Below W5.heap.size W5 w9:=⟨hg9.os.trans HB8.out.os,hg9.tape.trans HB8.out.tape,hg9.output.trans HB8.out.output,by have:=HB8.out.size;omega,fun q9 hq9=>(hg9.block q9 (Nat.lt_of_lt_of_le hq9 HB8.out.size) (by intro e;injection e with e;omega)).trans (HB8.out.block q9 hq9)⟩
     have HM9:Hid (MapF w9 intW treeE W5.heap.size (p+1) (kmF ru.parts.xs kg (p+1))/\Below W5.heap.size W5 w9):=⟨hm9.congr fun y _=>Hk2.out y,hB9⟩
     clear hm9 hB9 hg9 hm8 g0 g1 g2 g3 g4 y4 hsz;go_wp2_with fail
     go_roundw
     case rel=>exact⟨p+1,by omega,by go_num,HM9.out⟩
     case measure=>simp[intOf];omega
   ·obtain rfl:p=ru.parts.xs.length:=by omega
    have hlowr:Below w0.heap.size w0 wr:=Xb HS5.out.low HM.out.2;have hrb9:=(HM.out.2.block _ (Xd Hrb5.out)).trans Hrb5.out;have r3:=gblk hrb9 3;obtain⟨al,hal⟩:∃z,ab++litsV ru.parts.xs kids i=z:=⟨_,rfl⟩
    have hall:al.length<=ab.length+4:=by rw[<- hal,List.length_append];have:=Hlits.out;omega
    obtain⟨fg,hfg⟩:∃fg,Xge g its.xs i k ab kids ru.parts.xs=fg:=⟨_,rfl⟩
    have hst:GiveSt w0 N l bi bg J own V A cp ab A5 cp5 al W5.heap.size ru.parts.xs.length (kmF ru.parts.xs kg ru.parts.xs.length) V.heap.size (Xbi r j i k kA kids.length kc) w2.heap.size D (pre++(ru.gives.xs.take 0).flatMap fg) own wr:=by
     have hVr:=Xb HV5.out HM.out.2;have hnn:∀q,V.heap.size<=q->¬own q:=fun q hq h=>by have:=(HownV.out q h).2;omega
     have hz2:=HV5.out.size;refine⟨.grow hVr fun q hq=>(HownV.out q hq).2,?_,Ha0.out.ext HM.out.2,by rw[<- hal];exact Ha5.out.ext HM.out.2,HM.out.1,hnn _ hz2,(HM.out.2.block _ (Xd Htb5.out)).trans Htb5.out,hnn _ (Nat.le_refl _),?_,hnn _ ?_,(HM.out.2.block _ hDlt).trans Hdef.out,hnn _ hDV⟩
     ·rw[List.take_zero,List.flatMap_nil,List.append_nil]
      exact HS5.out.ext HJ.out HM.out.2
     ·rw[<- hal];exact(HM.out.2.block _ (Xd Hbx5.out)).trans Hbx5.out
     ·exact hVw2
    have Hst:=Xa hst;have HFg:=Xa hfg;have HAl:=Xa hal;have Hall:=Xa hall;clear hst HM Ha5 Ha0 hrb9 Hbx5 Htb5 Hrb5 Hdef Hm6 HB6 HS5 HW6 hW6 hmap0 hlowr r2 hfg hal hall;go_wp2_with fail
    go_loopw [92] (fun iv wr=>∃(q:Nat) (own6:Nat->Prop),q<=ru.gives.xs.length/\iv = .int .i64 q/\Hid (GiveSt w0 N l bi bg J own V A cp ab A5 cp5 al W5.heap.size ru.parts.xs.length (kmF ru.parts.xs kg ru.parts.xs.length) V.heap.size (Xbi r j i k kA kids.length kc) w2.heap.size D (pre++(ru.gives.xs.take q).flatMap fg) own6 wr)) (fun iv _=>ru.gives.xs.length-(intOf iv).toNat)
    case atStart=>exact⟨0,own,Nat.zero_le _,rfl,Hst.out⟩
    case round =>
     obtain⟨q,own6,hq,rfl,HG⟩:=hrel;by_cases hlt:q<ru.gives.xs.length
     ·obtain⟨bG,oG,hGa,hbG,hGc⟩:=Hrl.out.2.at_ GiveG.size_cells (by omega) hlt
      have f0:wr.cell? ⟨bG,oG+q*2,none⟩=some (.int .i64 ru.gives.xs[q].part):=hGc q hlt wr HG.out.st.low 0 _ rfl;have f1:wr.cell? ⟨bG,oG+q*2+1,none⟩=some (.string ru.gives.xs[q].text):=hGc q hlt wr HG.out.st.low 1 _ rfl;have htk:=Xw7 fg ru.gives.xs hlt
      have hpq:(pre++(ru.gives.xs.take q).flatMap fg)++fg ru.gives.xs[q] <+: xs:=by
       rw[List.append_assoc,<- htk];refine List.IsPrefix.trans ?_ Hpre.out;refine(List.prefix_append_right_inj pre).2 ?_;rw[<- HFg.out] at htk ⊢;have h9:=(List.take_append_drop (q+1) ru.gives.xs)
       conv=>rhs;rw[<- h9,List.flatMap_append]
       exact List.prefix_append _ _
      have hgy:=Hgv.out _ (List.getElem_mem hlt);rw[hGa];have Htk:=Xa htk;have Hpq:=Xa hpq;have Hgy:=Xa hgy;clear hGc hGa htk hpq hgy;generalize (ru.gives.xs.take q).flatMap fg=ys at *;generalize ru.gives.xs[q]=y at *;obtain⟨w8,hw8⟩:∃w8,wr.alloc (.cells #[.int .i64 y.part,.string y.text] 176)=w8:=⟨_,rfl⟩
      have hb8:=X5 hw8;have hz8:=Yg hw8;have hG8:=HG.out.ext HJ.out hb8;have hg6:¬own6 wr.heap.size:=fun h=>by have:=(HG.out.st.ok _ h).2;omega
      obtain⟨mo,hmo⟩:∃mo,w8.heap[W5.heap.size]? = mo:=⟨_,rfl⟩
      have HC:Hid (GvC N bi bg V.heap.size (Xbi ↑r j i k kA kids.length kc) w2.heap.size (rowO A5 al.length cp5) wr.heap.size (Xgd y) W5.heap.size mo w8):=⟨hG8.st.pt,hG8.st.wk,hG8.tree,hG8.row,hz8,hmo⟩
      have HCd:Hid (GvC N bi bg V.heap.size (Xbi ↑r j i k kA kids.length kc) w2.heap.size (rowO A5 al.length cp5) wr.heap.size (Xgd y) W5.heap.size mo w8.drew):=HC.out.ext bd_q hG8.map.lt;have hm8:=hG8.map.lt;have HG8:=Xa hG8;have Hb8:=Xa hb8;clear hG8 hz8 hb8;by_cases ht:y.text.size≠0
      ·have k2:=Xqs ht
       have k3:=Uo (s:=y.text) (by omega);have k4:¬y.text.toList=[]:=(by intro h;rw[h] at k3;cases k3);have hfy:fg y=[⟨y.text,setI (Vi i k++ab), -1⟩]:=(by rw[<- HFg.out];exact Xrd ht);have hpp:=Hpq.out;rw[hfy] at hpp;have Hpp:=Xa hpp;have Hfy:=Xa hfy;clear hpp hfy;go_wp2_with fail
       refine wpIn_wide (n:=0) |>.1 ?_
       refine Yz _ ?_ (fun _ _ h=>h);refine Xn (GvC N bi bg V.heap.size (Xbi ↑r j i k kA kids.length kc) w2.heap.size (rowO A5 al.length cp5) wr.heap.size (Xgd y) W5.heap.size mo) (by kernel_rfl) ?_;refine Xc (i:=0) (hy:=fun V hV=>(by have c1:=gblk hV.give 1;go_simp<;>rfl)) ?_;refine Xc (i:=1) (hy:=fun V hV=>(by have c1:=gblk hV.give 1;go_simp<;>rfl)) ?_;refine Xc (i:=2) ?_;refine Xc (i:=3) ?_;refine Xc (i:=4) (hy:=fun V hV=>(by have c0:=gblk hV.pt 0;go_simp<;>rfl)) ?_;refine Xc (i:=5) (hy:=fun V hV=>(by have c1:=gblk hV.give 1;go_simp<;>rfl)) ?_;refine Xc (i:=6) (hy:=fun V hV=>(by have c1:=gblk hV.give 1;go_simp<;>rfl)) ?_;refine Xc (i:=7) (hy:=fun V hV=>(by have c2:=gblk hV.tree 2;have c3:=gblk hV.tree 3;go_simp<;>rfl)) ?_;refine Xc (i:=8) (hy:=fun V hV=>(by have c2:=gblk hV.tree 2;have c3:=gblk hV.tree 3;go_simp<;>rfl)) ?_;refine Xc (i:=9) (hy:=fun V hV=>(by have c2:=gblk hV.tree 2;have c3:=gblk hV.tree 3;go_simp<;>rfl)) ?_;refine Xc (i:=10) (hy:=fun V hV=>(by have c2:=gblk hV.tree 2;have c3:=gblk hV.tree 3;go_simp<;>rfl)) ?_;refine Xc (i:=12) ?_;refine Xh (i:=11) HCd.out fun K hK=>?_;go_simp
       refine⟨trivial,rfl,callsIn_wide.2 ((Xjc i k _ hi0 (by omega) (by omega)).mono ?_)⟩;rintro e w9 ⟨v9,rfl,hv9,hb9⟩;refine hK _ _ ?_;clear hK K;have hb9:=Xb (Xr (Below.refl w8.heap.size w8)) hb9;have hG9:=HG8.out.ext HJ.out hb9;obtain⟨A9,cp9,rfl,hd9⟩:=Xsa (own:=own6) hv9 (fun u hu=>by have:=(HG8.out.st.ok u hu).2;simpa using this);have hsl:=Xjd i k;have cP:=Xa (put30 HJ.out HY.out hG9.st y.text A9 A cp9 cp (Vi i k) ab (-1) hd9 (by omega) hG9.abr (by have:=Hn.out;omega) Hpp.out);have HC9:Hid (GvC N bi bg V.heap.size (Xbi ↑r j i k kA kids.length kc) w2.heap.size (rowO A5 al.length cp5) wr.heap.size (Xgd y) W5.heap.size mo w9):=HC.out.ext hb9 hm8;have HG9:=Xa hG9;have Hb9:=Xa hb9;clear hb9 hG9 hv9 hd9 hsl;refine Xh (i:=13) HC9.out fun K hK=>?_;go_simp
       refine⟨trivial,rfl,callsIn_wide.2 (cP.out.mono ?_)⟩;rintro e wz ⟨rfl,ownz,hbz,hSz⟩;refine hK _ _ ?_;clear hK K;have hCz:=HC9.out.step hbz HG9.out.st.far HG9.out.tn HG9.out.rn hg6 HG9.out.mo HG9.out.map.lt;have HGz:Hid (GiveSt w0 N l bi bg J own V A cp ab A5 cp5 al W5.heap.size ru.parts.xs.length (kmF ru.parts.xs kg ru.parts.xs.length) V.heap.size (Xbi r j i k kA kids.length kc) w2.heap.size D (pre++(ru.gives.xs.take (q+1)).flatMap fg) ownz wz):=HG9.out.next hbz (by rw[Htk.out,Hfy.out,<- List.append_assoc];exact hSz);have HCz:=Xa hCz;clear hbz hSz hCz;refine Xc (i:=14) ?_;refine Xc (i:=15) ?_;refine Xc (i:=16) ?_;refine Xc (i:=17) (hy:=fun V hV=>(by have c1:=gblk hV.give 1;go_simp<;>rfl)) ?_;refine Xc (i:=18) (hy:=fun V hV=>(by have c1:=gblk hV.give 1;go_simp<;>rfl)) ?_;refine Xc (i:=19) ?_;refine Xc (i:=20) ?_;refine Xv (by go_simp;rfl) ?_;refine Xj (i:=21) ?_;refine Xj (i:=22) ?_;refine Xj (i:=23) ?_;refine Xj (i:=24) ?_;refine Xj (i:=25) ?_;refine Xj (i:=26) ?_;refine Xj (i:=27) ?_;refine Xj (i:=28) ?_;refine Xv (by go_simp;rfl) ?_;refine Xc (i:=29) ?_;refine Xc (i:=30) ?_;refine Xk HCz.out (by kernel_rfl) ?_ _;go_wp2_with fail
       go_roundw
       case rel=>exact⟨q+1,ownz,by omega,by go_num,HGz.out⟩
       case measure=>simp[intOf];omega
      ·have k2:=Xqr ht
       have k3:=Up (s:=y.text) (by omega);have k4:y.text.toList=[]:=List.isEmpty_iff.1 k3;obtain⟨hp0,hpc⟩:=Hgy.out (by omega);have hkl:=Xhc hpc Hcat.out;have hlp:=Xd8 hpc;obtain⟨qp,hqp⟩:∃qp:Nat,y.part=(qp:Int):=⟨y.part.toNat,by omega⟩
       have hqn:y.part.toNat=qp:=(by omega);rw[hqn] at hpc hkl hlp;have hF:=X15 (kg:=kg) hpc;have hfy:fg y=Yj g its.xs kids[kidN ru.parts.xs qp] al:=(by rw[<- HFg.out,Xvl ht (by rw[hqn]) hkl,HAl.out]);have hpp:=Hpq.out;rw[hfy] at hpp;have htr:=(Hkg.out _ hkl).1
       have hnv:al.length+4*Yr kids[kidN ru.parts.xs qp]<=5000:=by
        have h1:=Xgn (List.getElem_mem hkl);have h2:=Hn.out;have h3:=Hall.out;omega
       have hcw:=Hih.out _ (List.getElem_mem hkl) _ own6 _ w8.drew A5 cp5 al htr (HG8.out.st.ext HJ.out bd_q) (HG8.out.alr.ext bd_q) hnv hpp
       have hlk:∀X,GvC N bi bg V.heap.size (Xbi ↑r j i k kA kids.length kc) w2.heap.size (rowO A5 al.length cp5) wr.heap.size (Xgd y) W5.heap.size mo X->(Instr.lookup 230 (.map (some W5.heap.size)) (.int .i64 (qp:Int)) false).run Tryz.prog X = .ok (treeE.val (kg (kidN ru.parts.xs qp))) X:=fun X hX=>by
        have h1:=Xdr (P:=Tryz.prog) (w:=X) Vu Xzv intW treeE Xd0 (Xqe X) (HG8.out.map.of_block (hX.map.trans (HC.out.map).symm)) (qp:Int) (Vp (by omega) (by omega));rw[hF] at h1;exact h1
       obtain⟨t9,ht9⟩:∃z,kids[kidN ru.parts.xs qp]=z:=⟨_,rfl⟩
       rw[ht9] at hcw hfy hpp htr hnv;clear ht9;generalize kg (kidN ru.parts.xs qp)=z at *;have HLk:Hid (∀X,GvC N bi bg V.heap.size (Xbi ↑r j i k kA kids.length kc) w2.heap.size (rowO A5 al.length cp5) wr.heap.size (Xgd y) W5.heap.size mo X->(Instr.lookup 230 (.map (some W5.heap.size)) (.int .i64 (qp:Int)) false).run Tryz.prog X = .ok (z.vl) X):=hlk;have Hcw:=Xa hcw;have Hfy:=Xa hfy;have Hqp:=Xa hqp;clear hcw hlk hF hfy hpp htr hnv hqp hqn hpc hlp hp0 hkl;have HP:Hid (∀X,GvC N bi bg V.heap.size (Xbi ↑r j i k kA kids.length kc) w2.heap.size (rowO A5 al.length cp5) wr.heap.size (Xgd y) W5.heap.size mo X->X.cell? ⟨wr.heap.size,0,none⟩=some (.int .i64 (qp:Int))):=fun X hX=>(gblk hX.give 0).trans (by rw[show (#[Value.int .i64 y.part,.string y.text]:Array Value)[0]? = some (.int .i64 y.part) from rfl,Hqp.out]);go_wp2_with fail
       refine wpIn_wide (n:=0) |>.1 ?_
       refine Yz _ ?_ (fun _ _ h=>h);refine Xn (GvC N bi bg V.heap.size (Xbi ↑r j i k kA kids.length kc) w2.heap.size (rowO A5 al.length cp5) wr.heap.size (Xgd y) W5.heap.size mo) (by kernel_rfl) ?_;refine Xc (i:=0) (hy:=fun V hV=>(by have c1:=gblk hV.give 1;go_simp<;>rfl)) ?_;refine Xc (i:=1) (hy:=fun V hV=>(by have c1:=gblk hV.give 1;go_simp<;>rfl)) ?_;refine Xc (i:=2) ?_;refine Xc (i:=3) ?_;refine Xj (i:=4) ?_;refine Xj (i:=5) ?_;refine Xj (i:=6) ?_;refine Xj (i:=7) ?_;refine Xj (i:=8) ?_;refine Xj (i:=9) ?_;refine Xj (i:=10) ?_;refine Xj (i:=11) ?_;refine Xj (i:=12) ?_;refine Xj (i:=13) ?_;refine Xj (i:=14) ?_;refine Xv (by go_simp;rfl) ?_;refine Xc (i:=15) ?_;refine Xc (i:=16) ?_;refine Xc (i:=17) (hy:=fun V hV=>(by have c1:=gblk hV.give 1;go_simp<;>rfl)) ?_;refine Xc (i:=18) (hy:=fun V hV=>(by have c1:=gblk hV.give 1;go_simp<;>rfl)) ?_;refine Xc (i:=19) ?_;refine Xc (i:=20) ?_;refine Xc (i:=21) (hy:=fun V hV=>(by have c0:=gblk hV.wk 0;go_simp<;>rfl)) ?_;refine Xc (i:=22) ?_;refine Xc (i:=23) (hy:=fun V hV=>(by have c1:=HP.out V hV;go_simp<;>rfl)) ?_;refine Xc (i:=24) (hy:=fun V hV=>(by have c1:=HP.out V hV;go_simp<;>rfl)) ?_;refine Xc (i:=25) (v:=z.vl) (hy:=fun V hV=>(by have c1:=HLk.out V hV;go_simp)) ?_;refine Xc (i:=26) (hy:=fun V hV=>(by have c2:=gblk hV.row 0;go_simp<;>rfl)) ?_;refine Xh (i:=27) HCd.out fun K hK=>?_;go_simp
       refine⟨trivial,rfl,callsIn_wide.2 (Hcw.out.mono ?_)⟩;rintro e wz ⟨rfl,ownz,hbz,hSz⟩;refine hK _ _ ?_;clear hK K;have hdr:=Xr (Below.refl w8.heap.size w8);have hG9:=HG8.out.ext HJ.out hdr;have hCz:=HCd.out.step hbz hG9.st.far hG9.tn hG9.rn hg6 hG9.mo hG9.map.lt;have HGz:Hid (GiveSt w0 N l bi bg J own V A cp ab A5 cp5 al W5.heap.size ru.parts.xs.length (kmF ru.parts.xs kg ru.parts.xs.length) V.heap.size (Xbi r j i k kA kids.length kc) w2.heap.size D (pre++(ru.gives.xs.take (q+1)).flatMap fg) ownz wz):=hG9.next hbz (by rw[Htk.out,Hfy.out,<- List.append_assoc];exact hSz);have HCz:=Xa hCz;clear hbz hSz hCz hG9 hdr;refine Xc (i:=28) ?_;refine Xc (i:=29) ?_;refine Xc (i:=30) ?_;refine Xk HCz.out (by kernel_rfl) ?_ _;go_wp2_with fail
       go_roundw
       case rel=>exact⟨q+1,ownz,by omega,by go_num,HGz.out⟩
       case measure=>simp[intOf];omega
     ·obtain rfl:q=ru.gives.xs.length:=by omega
      have hG:=HG.out;rw[List.take_length,<- HFg.out] at hG;have hd:=hG.d;have HGf:=Xa hG;clear hG HG;go_wp2_with fail
      refine Qk hd (results_tmp rfl _ _ _) ?_;have hst:=OneStep.put wr D (.deferred none);have hG:=HGf.out;have hND:N<V.heap.size:=(by omega);refine⟨rfl,own6,⟨hst.os.trans hG.step.os,hst.tape.trans hG.step.tape,hst.output.trans hG.step.output,by rw[hst.size];exact hG.step.size,fun u hu hno=>(hst.block u (by omega)).trans (hG.step.block u hu hno),hG.step.owns,fun u hu=>by rw[hst.size];exact hG.step.live u hu⟩,?_⟩;have hs:=hG.st;have hz0:w0.heap.size<=V.heap.size:=HlowV.out.size;exact⟨HJ.out.2 _ _ _ _ _ _ hs.j (by omega) hG.dn hd (Tr _) hst,fun u hu=>⟨(hs.ok u hu).1,by rw[hst.size];exact(hs.ok u hu).2⟩,⟨hst.os.trans hs.low.os,hst.tape.trans hs.low.tape,hst.output.trans hs.low.output,by rw[hst.size];exact hs.low.size,fun u hu=>(hst.block u (by omega)).trans (hs.low.block u hu)⟩,(hst.block _ (by omega)).trans hs.y,(hst.block _ (by omega)).trans hs.wk,(hst.block _ (by omega)).trans hs.pt,hs.far⟩
end
inductive WellT (g:Gram) (its:List ItemG):TreeV->Prop
 | leaf {r j i k:Int} {l:List TreeV} {n:Nat}:r<0->j=(n:Int)->n<its.length->WellT g its (.node r j i k l)
 | rule {r:Nat} {j i k:Int} {l:List TreeV} (hr:r<g.rules.xs.length):0<=i->i<k->k<=3000->g.rules.xs[r].parts.xs.countP (fun x=>decide (x.text.size=0))<=l.length->(∀t∈l,0<=t.unt/\t.unt<=5000) ->
   (∀y∈g.rules.xs[r].gives.xs,y.text.size=0->0<=y.part/\Yo g.rules.xs[r].parts.xs y.part.toNat=true)->(∀t∈l,WellT g its t)->WellT g its (.node (r:Int) j i k l)
section
variable {w0:World} {N l bi bg:Nat} {J:(Nat->Prop)->List TgP->World->Prop} {own own':Nat->Prop} {pre pre':List TgP} {V V':World} {g:Gram} {its:SlS ItemG}
theorem X1b {xs:List TgP} {P:Nat->Prop} (hE:Xto w0 bi bg g its) (hJ:Xbk N J) (hY:AskK Tryz.prog l (EncK w0.heap.size) (OldR w0) xs J) (hI:∀x∈its.xs,0<=x.frm/\x.frm<x.unt/\x.unt<=16) (hB:∀ru∈g.rules.xs,ru.parts.xs.length<=4/\ru.gives.xs.length<=8) :
  ∀t,WellT g its.xs t->RuleC w0 N l bi bg J g its xs P t:=by
 intro t hW
 induction hW with
 | @leaf r j i k l' n h1 h2 h3 =>
  intro x own pre V A cp ab hT H ha hn hpre;subst h2;unfold TreeAt at hT;obtain⟨A',cap,css,hc,_⟩:=hT;obtain⟨xr,xj,xi,xk,⟨xa,xn,xc⟩⟩:=x;simp only[List.cons.injEq,Value.int.injEq,Value.slice.injEq,true_and,and_true] at hc;obtain⟨rfl,rfl,rfl,rfl,rfl,rfl,rfl⟩:=hc
  have e:Yj g its.xs (.node xr (n:Int) xi xk l') ab=Uf its.xs[n] ab:=by
   rw[Yj,if_pos h1,show ((n:Int)).toNat=n by omega,List.getElem?_eq_getElem h3]
  rw[e] at hpre ⊢;exact Xxt hE (Nat.le_trans hE.il.lies.cap hE.il.lies.max) hJ hY H xr n xi xk xa l'.length xc A cp ab h1 h3 (hI _ (List.getElem_mem h3)) ha (by omega) hpre
 | @rule r j i k l' hr h1 h2 h3 h4 h5 h6 _ ih =>
  intro x own pre V A cp ab hT H ha hn hpre;unfold TreeAt at hT;obtain⟨A',cap,css,hc,hcl,hcm,_,_,hrd,hks⟩:=hT;obtain⟨xr,xj,xi,xk,⟨xa,xn,xc⟩⟩:=x;simp only[List.cons.injEq,Value.int.injEq,Value.slice.injEq,true_and,and_true] at hc;obtain⟨rfl,rfl,rfl,rfl,rfl,rfl,rfl⟩:=hc;obtain⟨b1,b2⟩:=hB _ (List.getElem_mem hr);exact Xxu hE (Nat.le_trans hE.gl.rules.cap hE.gl.rules.max) hJ hY H r xj xi xk xa xc l' css A cp ab hr hks hrd hcl hcm b1 b2 h4 h1 h2 h3 h5 h6 ha (by rw[Yr] at hn;exact hn) hpre ih
end
theorem words1 {w0:World} {bi bg bt:Nat} {g:Gram} {its:SlS ItemG} {P:Nat->Prop} {t:TreeV} {x:TreeG} (hE:Xto w0 bi bg g its) (ht:w0.heap[bt]? = some x.ob) (hT:TreeAt w0 P t [.int .i64 x.rule,.int .i64 x.item,.int .i64 x.frm,.int .i64 x.unt,.slice x.kids.addr x.kids.len x.kids.cap]) (hW:WellT g its.xs t) (hn:Yr t<=1024)
  (hI:∀x∈its.xs,0<=x.frm/\x.frm<x.unt/\x.unt<=16) (hB:∀ru∈g.rules.xs,ru.parts.xs.length<=4/\ru.gives.xs.length<=8) :
  Xno Tryz.prog 155 #[.pointer (some ⟨bi,0,none⟩),.pointer (some ⟨bg,0,none⟩),.pointer (some ⟨bt,0,none⟩)] (EncK w0.heap.size) (OldR w0) (Yj g its.xs t []) w0:=by
 intro l J own₀ W hR hown hJ hY hj0;have hmf:∀(fn:Fn) (first cap:Array Value) (w:World),(Instr.makeFunc fn first cap).run Tryz.prog w = .ok (.func fn first cap) w:=fun _ _ _ _=>rfl;obtain⟨W3,hW3⟩:∃W3,((W.alloc (.cells #[.func (.yield l) #[] #[]] 222)).alloc (.cells #[.nilFunc] 223)).alloc (.cells #[.nilFunc] 227)=W3:=⟨_,rfl⟩
 have hz3:W3.heap.size=W.heap.size+1+1+1:=by rw[<- hW3];simp only[World.size_alloc]
 have hB3:Below W.heap.size W W3:=by rw[<- hW3];exact Xg (Xg ba_q _) _
 have f0:W3.heap[W.heap.size]? = some (.cells #[.func (.yield l) #[] #[]] 222 (0,0)):=by
  rw[<- hW3];iterate 2 refine(Below.heap_alloc _ _ _ (by simp only[World.size_alloc];omega)).trans ?_
  exact World.alloc_heap_new _ _
 have f1:W3.heap[W.heap.size+1]? = some (.cells #[.nilFunc] 223 (0,0)):=by
  rw[<- hW3];refine(Below.heap_alloc _ _ _ (by simp only[World.size_alloc];omega)).trans ?_;exact Xo _ _ _ (by simp)
 have f2:W3.heap[W.heap.size+1+1]? = some (.cells #[.nilFunc] 227 (0,0)):=by
  rw[<- hW3];exact Xo _ _ _ (by simp)
 obtain⟨pv,hpv⟩:∃pv:Value,Value.func (.func 156) #[] #[.pointer (some ⟨W.heap.size,0,none⟩)]=pv:=⟨_,rfl⟩
 obtain⟨fv,hfv⟩:∃fv:Value,Value.func (.func 160) #[] #[.pointer (some ⟨bi,0,none⟩),.pointer (some ⟨W.heap.size+1+1,0,none⟩),.pointer (some ⟨bg,0,none⟩),.pointer (some ⟨W.heap.size+1,0,none⟩)]=fv:=⟨_,rfl⟩
 obtain⟨Wp,hWp⟩:∃Wp,W3.setCell ⟨W.heap.size+1+1,0,none⟩ pv=Wp:=⟨_,rfl⟩
 obtain⟨W4,hW4⟩:∃W4,Wp.setCell ⟨W.heap.size+1,0,none⟩ fv=W4:=⟨_,rfl⟩
 have hBp:Below W.heap.size W Wp:=by rw[<- hWp];exact hB3.setCell (p:=⟨W.heap.size+1+1,0,none⟩) (by show W.heap.size<=W.heap.size+1+1;omega) _
 have p2:Wp.heap[W.heap.size+1+1]? = some (.cells #[pv] 227 (0,0)):=by rw[<- hWp];exact Xs f2 0 _
 have p1:Wp.heap[W.heap.size+1]? = _:=(by rw[<- hWp];exact Below.heap_setCell _ _ _ _ (by show W.heap.size+1≠W.heap.size+1+1;omega):Wp.heap[W.heap.size+1]? = W3.heap[W.heap.size+1]?).trans f1;have p0:Wp.heap[W.heap.size]? = _:=(by rw[<- hWp];exact Below.heap_setCell _ _ _ _ (by show W.heap.size≠W.heap.size+1+1;omega):Wp.heap[W.heap.size]? = W3.heap[W.heap.size]?).trans f0;have hB4:Below W.heap.size W W4:=by rw[<- hW4];exact hBp.setCell (p:=⟨W.heap.size+1,0,none⟩) (by show W.heap.size<=W.heap.size+1;omega) _
 have g1:W4.heap[W.heap.size+1]? = some (.cells #[fv] 223 (0,0)):=by rw[<- hW4];exact Xs p1 0 _
 have g0:W4.heap[W.heap.size]? = _:=(by rw[<- hW4];exact Below.heap_setCell _ _ _ _ (by show W.heap.size≠W.heap.size+1;omega):W4.heap[W.heap.size]? = Wp.heap[W.heap.size]?).trans p0;have g2:W4.heap[W.heap.size+1+1]? = _:=(by rw[<- hW4];exact Below.heap_setCell _ _ _ _ (by show W.heap.size+1+1≠W.heap.size+1;omega):W4.heap[W.heap.size+1+1]? = Wp.heap[W.heap.size+1+1]?).trans p2;have hlow4:=Xb (Xw4 hR) hB4;have hS4:WkSt w0 W.heap.size l bi bg J own₀ [] W4:=⟨hJ.1 _ _ _ _ hj0 hB4,fun k hk=>⟨(hown k hk).1,Nat.lt_of_lt_of_le (hown k hk).2 hB4.size⟩,hlow4,g0,by rw[hfv];exact g1,by rw[hpv];exact g2,fun h=>by have:=(hown _ h).2;omega,fun h=>by have:=(hown _ h).2;omega,fun h=>by have:=(hown _ h).2;omega⟩
 have hc:=X1b (P:=P) hE hJ hY hI hB t hW x own₀ [] W4 none 0 [] hT hS4 (AbAt.nil _ _) (by simp;omega) (by simp);have ct:=Xi hlow4 ht;obtain⟨y0,y1,y2,y3,y4⟩:=gb5 ct;have c1:=Xe p1;have z1:=Xf p1 0;have c2:=Xe f2;have z2:=Xf f2 0
 have hsp:(store ⟨W.heap.size+1+1,0,none⟩ (.func (.func 156) #[] #[.pointer (some ⟨W.heap.size,0,none⟩)])).run Tryz.prog W3 = .ok () Wp:=by
  rw[run_store _ _ _ _ _ rfl];rw[c2,z2,hpv,hWp];rfl
 have d1:=Xe g1
 have hst:(store ⟨W.heap.size+1,0,none⟩ (.func (.func 160) #[] #[.pointer (some ⟨bi,0,none⟩),.pointer (some ⟨W.heap.size+1+1,0,none⟩),.pointer (some ⟨bg,0,none⟩),.pointer (some ⟨W.heap.size+1,0,none⟩)])).run Tryz.prog Wp = .ok () W4:=by
  rw[run_store _ _ _ _ _ rfl];rw[c1,z1,hfv,hW4];rfl
 rw[<- hfv] at d1;have HC:=Xa hc;have HB4:=Xa hB4;have Hown:=Xa hown;clear hc hB4 hB3 f0 f1 f2 g0 g1 g2 hlow4 hS4 hR hown hJ hY hj0 ht hT hW hI hB hE hz3 ct c1 z1 c2 z2 hW4 hfv hWp hpv p0 p1 p2 hBp;go_enter Tryz.func155,Tryz.ntmps155
 go_wp2_with fail
 refine HC.out.mono ?_;rintro e w9 ⟨rfl,own',hbs,hS⟩;have Hbs:=Xa hbs;have Hj:=Xa hS.j;clear hbs hS;go_wp2_with fail
 refine bodyPost_ret (results_none rfl _ _ _) rfl ⟨⟨_,rfl⟩,own',(BodyStep.grow HB4.out fun k hk=>(Hown.out k hk).2).trans Hbs.out,?_⟩;have:=Hj.out
 rwa [List.nil_append] at this
end
/-! ### what rules give -/
structure Xti (g:Gram):Prop where
 some_:∀x∈g.rules.xs,1<=x.gives.xs.length/\x.gives.xs.length<=8
 give:∀x∈g.rules.xs,∀y∈x.gives.xs,Xgc x.parts.xs y=true
 once:∀x∈g.rules.xs,U4 x.gives.xs 0 x.parts.xs=true
theorem Xap {g:Gram} (h:Yb g=0):Xti g:=by
 unfold Yb at h;split at h
 ·cases h
 split at h
 ·cases h
 rename_i ht;unfold Yk at ht;simp only[Bool.and_eq_true,decide_eq_true_eq,List.all_eq_true,Bool.not_eq_true',Bool.not_eq_false] at ht;have h7:=ht.2;refine⟨fun x hx=>?_,fun x hx=>?_,fun x hx=>?_⟩
 all_goals
  have h1:=h7 x hx;unfold Vh at h1;simp only[Bool.and_eq_true,decide_eq_true_eq,List.all_eq_true] at h1
 ·exact h1.1.1.1.1.2
 ·exact h1.1.2
 ·exact h1.2
/-! ### the Kids of a rule -/
/-! ### each word counts -/
structure TransOk (i k:Int) (ab:List Int) (l:List TgP):Prop where
 some_:l≠[]
 cover:∀n,i<=n->n<k->∃x∈l,n∈x.deps
 above:∀x∈l,∀n∈ab,n∈x.deps
 inside:∀x∈l,IncI x.deps/\x.deps≠[]/\∀n∈x.deps,n∈ab\/(i<=n/\n<k)
 text:∀x∈l,x.text.size≠0
section
attribute [local go_sem] Oper.semAt_some
theorem Xlx (f:Nat->Nat) (n:Nat):∀ks:List Nat,(ks.map f).sum=((ks.filter (· != n)).map f).sum+(ks.filter (· == n)).length*f n
 | []=>by simp
 | k :: ks=>by
  have ih:=Xlx f n ks;rw[List.map_cons,List.sum_cons,ih];by_cases h:k=n
  ·subst h
   simp[Nat.add_mul];omega
  ·simp[h]
   omega
theorem Xle (f:Nat->Nat):∀(n:Nat) (ks:List Nat),ks.Nodup->(∀k∈ks,k<n)->(ks.map f).sum<=((List.range n).map f).sum
 | 0,ks,_,h=>by
  cases ks with
  | nil=>simp
  | cons k ks=>exact absurd (h k (List.mem_cons_self ..)) (by omega)
 | n+1,ks,hd,h=>by
  rw[Xlx f n ks,List.range_succ,List.map_append,List.sum_append]
  have h1:=Xle f n (ks.filter (· != n)) (List.Pairwise.filter _ hd) (fun k hk=>by
   obtain⟨a,b⟩:=List.mem_filter.1 hk;have:=h k a;have:k≠n:=(by simpa using b);omega)
  have h2:(ks.filter (· == n)).length<=1:=by
   have:=List.nodup_iff_count.1 hd n
   rwa [List.count_eq_countP,List.countP_eq_length_filter] at this
  have h3:(ks.filter (· == n)).length*f n<=f n:=by
   rcases(show (ks.filter (· == n)).length=0\/(ks.filter (· == n)).length=1 by omega) with e|e
   ·rw[e];simp
   ·rw[e];simp
  simp only[List.map_cons,List.map_nil,List.sum_cons,List.sum_nil];omega
theorem Xzu {parts:List PartG} {p q:Nat} (hp:Yo parts p=true) (hq:Yo parts q=true) (h:kidN parts p=kidN parts q):p=q:=by
 have key:∀ {a b:Nat},Yo parts a=true->a<b->kidN parts a<kidN parts b:=fun {a b} ha hab=>by
  have h1:=Xcm parts a;rw[if_pos ha] at h1;have h2:=Xk5 parts (show a+1<=b from hab);omega
 rcases Nat.lt_trichotomy p q with h1|h1|h1
 ·have:=key hp h1;omega
 ·exact h1
 ·have:=key hq h1;omega
def atN {α:Type} (f:α->Nat) (l:List α) (n:Nat):Nat:=match l[n]? with|some x=>f x|none=>0
theorem Xlo {α:Type} (f:α->Nat):∀l:List α,((List.range l.length).map (atN f l)).sum=(l.map f).sum
 | []=>by simp
 | x :: l=>by
  have ih:=Xlo f l;rw[List.length_cons,List.range_succ_eq_map,List.map_cons,List.sum_cons,List.map_cons,List.sum_cons,List.map_map,<- ih]
  congr 1
theorem Xk1 {gives:List GiveG}:∀ {l:List PartG} {k:Nat},U4 gives k l=true->∀n,Yo l n=true->Yw gives (k+n)=1
 | [],k,_,n,hn=>by have:=Xd8 hn;simp at this
 | p :: l,k,h,n,hn=>by
  unfold U4 at h;simp only[Bool.and_eq_true,Bool.or_eq_true,decide_eq_true_eq] at h;cases n with
  | zero =>
   rcases h.1 with h0|h0
   ·unfold Yo at hn
    simp at hn;simp[hn] at h0
   ·exact h0
  | succ n =>
   have:=Xk1 h.2 n (by unfold Yo at hn ⊢;simpa using hn);rw[<- this]
   congr 1
   omega
theorem Xr3 {gives:List GiveG} {parts:List PartG} (h:U4 gives 0 parts=true) (hv:∀y∈gives,y.text.size=0->0<=y.part/\Yo parts y.part.toNat=true) :
  ((gives.filter fun y=>decide (y.text.size=0)).map fun y=>kidN parts y.part.toNat).Nodup:=by
 rw[List.nodup_iff_count];intro v;rw[List.count_eq_countP,List.countP_map,List.countP_filter];by_cases he:∃y∈gives,y.text.size=0/\kidN parts y.part.toNat=v
 ·obtain⟨y0,hy0,ht0,hk0⟩:=he
  obtain⟨a0,b0⟩:=hv y0 hy0 ht0;have h1:=Xk1 h _ b0;rw[Nat.zero_add] at h1;refine Nat.le_trans ?_ (Nat.le_of_eq h1);unfold Yw;refine List.countP_mono_left fun y hy hp=>?_;simp only[Function.comp,Bool.and_eq_true,beq_iff_eq,decide_eq_true_eq] at hp ⊢;obtain⟨hp1,hp2⟩:=hp;obtain⟨a1,b1⟩:=hv y hy hp2;have:=Xzu b1 b0 (hp1.trans hk0.symm);exact⟨hp2,by omega⟩
 ·have:gives.countP (fun a=>((fun x=>x == v) ∘ fun y=>kidN parts y.part.toNat) a && decide (a.text.size=0))=0:=by
   rw[List.countP_eq_zero];intro y hy hp;simp only[Function.comp,Bool.and_eq_true,beq_iff_eq,decide_eq_true_eq] at hp;exact he ⟨y,hy,hp.2,hp.1⟩
  omega
theorem Xop (f:GiveG->List TgP) (F:Nat->Nat) (kd:GiveG->Nat):∀gs:List GiveG,(∀y∈gs,y.text.size=0->(f y).length<=F (kd y))->(∀y∈gs,y.text.size≠0->(f y).length<=1)->(gs.flatMap f).length<=gs.length+(((gs.filter fun y=>decide (y.text.size=0)).map kd).map F).sum
 | [],_,_=>by simp
 | y :: gs,h1,h2=>by
  have ih:=Xop f F kd gs (fun z hz=>h1 z (List.mem_cons_of_mem _ hz)) fun z hz=>h2 z (List.mem_cons_of_mem _ hz);rw[List.flatMap_cons,List.length_append,List.length_cons];by_cases hy:y.text.size=0
  ·have:=h1 y (List.mem_cons_self ..) hy
   rw[List.filter_cons_of_pos (by simpa using hy),List.map_cons,List.map_cons,List.sum_cons];omega
  ·have:=h2 y (List.mem_cons_self ..) hy
   rw[List.filter_cons_of_neg (by simpa using hy)];omega
theorem Xld:∀l:List TreeV,Yv l=(l.map Yr).sum
 | []=>rfl
 | t :: l=>by rw[Yv,List.map_cons,List.sum_cons,Xld l]
theorem Xpw (f:TreeV->Nat):∀l:List TreeV,(l.map fun t=>8*f t).sum=8*(l.map f).sum
 | []=>rfl
 | t :: l=>by rw[List.map_cons,List.map_cons,List.sum_cons,List.sum_cons,Xpw f l];omega
theorem Xlz {g:Gram} {its:List ItemG} (hs:∀x∈its,x.tgt.xs.length<=8) (hg:∀ru∈g.rules.xs,ru.gives.xs.length<=8/\U4 ru.gives.xs 0 ru.parts.xs=true):∀t,WellT g its t->∀ab,(Yj g its t ab).length<=8*Yr t:=by
 intro t hW
 induction hW with
 | @leaf r j i k l n h1 h2 h3 =>
  intro ab;rw[Yj,if_pos h1,h2,show ((n:Int)).toNat=n by omega,List.getElem?_eq_getElem h3];simp only;unfold Uf;rw[List.length_map,Yr];have:=hs _ (List.getElem_mem h3);omega
 | @rule r j i k l hr h1 h2 h3 h4 h5 h6 _ ih =>
  intro ab;obtain⟨g1,g2⟩:=hg _ (List.getElem_mem hr);rw[Xgy g its (by omega) (show g.rules.xs[((r:Int)).toNat]? = some g.rules.xs[r] from by rw[show ((r:Int)).toNat=r by omega];exact List.getElem?_eq_getElem hr) ab];generalize g.rules.xs[r]=ru at *;have hnd:=Xr3 g2 h6
  have hF:=Xop (Xge g its i k ab l ru.parts.xs) (atN (fun t=>8*Yr t) l) (fun y=>kidN ru.parts.xs y.part.toNat) ru.gives.xs (fun y hy ht=>by
   have hl:=Xhc (h6 y hy ht).2 h4;unfold Xge;rw[if_neg (by omega),List.getElem?_eq_getElem hl];unfold atN;rw[List.getElem?_eq_getElem hl];exact ih _ (List.getElem_mem hl) _) (fun y hy ht=>by
   unfold Xge;rw[if_pos ht];simp)
  have hN:=Xle (atN (fun t=>8*Yr t) l) l.length _ hnd (fun n hn=>by
   obtain⟨y,hy,rfl⟩:=List.mem_map.1 hn;obtain⟨a,b⟩:=List.mem_filter.1 hy;exact Xhc (h6 y a (by simpa using b)).2 h4)
  have hR:=Xlo (fun t=>8*Yr t) l;rw[Xpw,<- Xld] at hR;rw[Yr];omega
theorem Xc2 {w:World} {g:Gram} {its:SlS ItemG} {P:Nat->Prop} {t:TreeV} {x:TreeG} (hgl:g.lies w) (hil:ItemsAt w its) (hT:TreeAt w P t [.int .i64 x.rule,.int .i64 x.item,.int .i64 x.frm,.int .i64 x.unt,.slice x.kids.addr x.kids.len x.kids.cap]) (hW:WellT g its.xs t) (hn:Yr t<=1024)
  (hI:∀x∈its.xs,0<=x.frm/\x.frm<x.unt/\x.unt<=16) (hs:∀x∈its.xs,x.tgt.xs.length<=8) (hB:∀ru∈g.rules.xs,ru.parts.xs.length<=4) (hg:∀ru∈g.rules.xs,ru.gives.xs.length<=8/\U4 ru.gives.xs 0 ru.parts.xs=true) {w3:World} (hw3:((w.alloc g.ob).alloc (.cells #[.slice its.addr its.xs.length its.cap] 27)).alloc x.ob=w3) :
  Calls Tryz.prog 97 #[.func (.func 155) #[] #[.pointer (some ⟨w.heap.size+1,0,none⟩),.pointer (some ⟨w.heap.size,0,none⟩),.pointer (some ⟨w.heap.size+1+1,0,none⟩)]] w3 (Xd1 w3.heap.size w3 (Yj g its.xs t [])):=by
 have hB3:Below w.heap.size w w3:=by rw[<- hw3];exact Xg (Xg ba_q _) _
 have f0:w3.heap[w.heap.size]? = some g.ob:=by
  rw[<- hw3];iterate 2 refine(Below.heap_alloc _ _ _ (by simp only[World.size_alloc];omega)).trans ?_
  exact World.alloc_heap_new _ _
 have f1:w3.heap[w.heap.size+1]? = some (.cells #[.slice its.addr its.xs.length its.cap] 27 (0,0)):=by
  rw[<- hw3];refine(Below.heap_alloc _ _ _ (by simp only[World.size_alloc];omega)).trans ?_;exact Xo _ _ _ (by simp)
 have f2:w3.heap[w.heap.size+1+1]? = some x.ob:=by
  rw[<- hw3];exact Xo _ _ _ (by simp)
 have hl:=Xlz hs hg t hW [];exact Xn3 w3.heap.size 155 _ (OldR w3) _ w3 w3 (words1 (P:=P) ⟨f1,f0,hgl.ext hB3,hil.ext hB3⟩ f2 (hT.ext hB3) hW hn hI fun ru hr=>⟨hB ru hr,(hg ru hr).1⟩) (enters_of Tryz.func155 (by kernel_rfl) rfl) (X0s bo_q) (by omega)
end
end Go.Proofs.YtolpbjjapodmnaaGreatDoor
