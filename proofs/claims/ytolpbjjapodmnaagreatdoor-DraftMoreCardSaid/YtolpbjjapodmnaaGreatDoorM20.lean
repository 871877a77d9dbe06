/- Texts of this claim, one after the other: GrmO. -/
import Derived.Test.YtolpbjjapodmnaaGreatDoorM10
import Derived.Test.YtolpbjjapodmnaaGreatDoorM19
import Derived.BigRegion
import Derived.Deep.RegionWith
namespace Go.Proofs.YtolpbjjapodmnaaGreatDoor
open Go.RowKit Go.Han
set_option maxRecDepth 100000
attribute [local irreducible] wpStill wpQuiet
set_option maxHeartbeats 8000000
theorem X1g {P:Program} {c:Code} {Q:Exit->Act->World->Prop} {a:Act} {w:World} {Phi:Option Addr->Nat->Option Addr->Nat->World->Prop} {F:Option Addr->Nat->Option Addr->Nat->Act} (h:c.wp P (Exit.then (fun a' v=>∃A1 c1 A2 c2,a'=F A1 c1 A2 c2/\Phi A1 c1 A2 c2 v) (fun _ _ _=>False)) a w) (k:∀A1 c1 A2 c2 v,Phi A1 c1 A2 c2 v->Q .normal (F A1 c1 A2 c2) v):c.wp P Q a w :=
 wp_mono h (fun e a' v hh=>by
  cases e with
  | normal=>obtain⟨A1,c1,A2,c2,h2,h3⟩:=hh;subst h2;exact k _ _ _ _ v h3
  | _=>exact hh.elim)
theorem Xdg {α:Type} {f:α->List Value} {E sz:Nat} {l:List α} {w:World} {e:Ending} {w':World} (h0:0<sz) (h:Uu f E sz l w e w'):∃A c,e = .returned (.slice A l.length c)/\OwnL f E sz w' w.heap.size (.slice A l.length c) l/\Below w.heap.size w w':=by
 obtain⟨v,rfl,ho,hb⟩:=h;obtain⟨A,c,rfl,_⟩:=ho.form h0;exact⟨A,c,rfl,ho,hb⟩
theorem Xnb (W:World) (a:Addr) (v:Value):(W.setCell a v).tape=W.tape:=rfl
theorem Xr8 (W:World) (a:Addr) (v:Value):(W.setCell a v).os=W.os:=rfl
theorem Xo8 (W:World) (a:Addr) (v:Value):(W.setCell a v).output=W.output:=rfl
theorem X0x {W Wp:World} {b:Nat} {u0 u1 u2 u3 u4 u5 v0 v1 v2 v3 v4 v5:Value} {t:TypeId} (hW:((((((W.setCell ⟨b,0,none⟩ (v0)).setCell ⟨b,1,none⟩ (v1)).setCell ⟨b,2,none⟩ (v2)).setCell ⟨b,3,none⟩ (v3)).setCell ⟨b,4,none⟩ (v4)).setCell ⟨b,5,none⟩ (v5))=Wp) (h:W.heap[b]? = some (.cells #[u0,u1,u2,u3,u4,u5] t (0,0))) :
  Wp.heap[b]? = some (.cells #[v0,v1,v2,v3,v4,v5] t (0,0))/\(∀j,j≠b->Wp.heap[j]? = W.heap[j]?)/\Wp.heap.size=W.heap.size/\QStep b W Wp:=by
 have hs:=@X0u W b v0 v1 v2 v3 v4 v5;have ho:=fun j h=>@Xwt W b v0 v1 v2 v3 v4 v5 j h;have hk:=st6 (v0:=v0) (v1:=v1) (v2:=v2) (v3:=v3) (v4:=v4) (v5:=v5) h;have h1:((((((W.setCell ⟨b,0,none⟩ (v0)).setCell ⟨b,1,none⟩ (v1)).setCell ⟨b,2,none⟩ (v2)).setCell ⟨b,3,none⟩ (v3)).setCell ⟨b,4,none⟩ (v4)).setCell ⟨b,5,none⟩ (v5)).os=W.os:=by simp only[Xr8]
 have h2:((((((W.setCell ⟨b,0,none⟩ (v0)).setCell ⟨b,1,none⟩ (v1)).setCell ⟨b,2,none⟩ (v2)).setCell ⟨b,3,none⟩ (v3)).setCell ⟨b,4,none⟩ (v4)).setCell ⟨b,5,none⟩ (v5)).tape=W.tape:=by simp only[Xnb]
 have h3:((((((W.setCell ⟨b,0,none⟩ (v0)).setCell ⟨b,1,none⟩ (v1)).setCell ⟨b,2,none⟩ (v2)).setCell ⟨b,3,none⟩ (v3)).setCell ⟨b,4,none⟩ (v4)).setCell ⟨b,5,none⟩ (v5)).output=W.output:=by simp only[Xo8]
 rw[hW] at hs ho hk h1 h2 h3;exact⟨hk,ho,hs,⟨h1,h2,h3,Nat.le_of_eq hs.symm,fun j _ h=>ho j h⟩⟩
theorem Xsx {W Wp:World} {b j:Nat} {v:Value} {cs:Array Value} {t:TypeId} (hW:W.setCell ⟨b,j,none⟩ v=Wp) (h:W.heap[b]? = some (.cells cs t (0,0))) :
  Wp.heap[b]? = some (.cells (cs.setIfInBounds j v) t (0,0))/\(∀j,j≠b->Wp.heap[j]? = W.heap[j]?)/\Wp.heap.size=W.heap.size/\QStep b W Wp:=by
 subst hW;have hs:(W.setCell ⟨b,j,none⟩ v).heap.size=W.heap.size:=by simp[World.setCell]
 exact⟨heap_setCell_same _ _ _ _ _ _ h,fun j h=>heap_setCell_other _ _ _ _ h,hs,⟨rfl,rfl,rfl,Nat.le_of_eq hs.symm,fun j _ h=>heap_setCell_other _ _ _ _ h⟩⟩
theorem Xgq {q:Nat} {A B C:World} (h:QStep q A B) (k:QStep q B C):QStep q A C:=⟨k.os.trans h.os,k.tape.trans h.tape,k.output.trans h.output,Nat.le_trans h.size k.size,fun j hj hn=>(k.block j (Nat.lt_of_lt_of_le hj h.size) hn).trans (h.block j hj hn)⟩
theorem IdxMap.other {W V:World} {b bi bm:Nat} {cats:List ByteArray} (h:IdxMap W bi bm cats) (hb:∀j,j≠b->V.heap[j]? = W.heap[j]?) (h1:bi≠b) (h2:bm≠b):IdxMap V bi bm cats:=by
 obtain⟨i1,n,i2⟩:=h;exact⟨(hb _ h1).trans i1,n,i2.of_block (hb _ h2)⟩
structure ClonesG (W:World) (b:Nat) (g:Gram) (ix:Int) (A1:Option Addr) (c1:Nat) (A2:Option Addr) (c2:Nat) (E:List EntryG) (R:List RuleG) (X:World):Prop where
 ent:OwnL EntryG.cells 60 5 X W.heap.size (.slice A1 g.entries.xs.length c1) E
 rul:OwnL RuleG.cells 79 5 X W.heap.size (.slice A2 g.rules.xs.length c2) R
 box:X.heap[b]? = some (.cells #[.string g.name,.slice g.cats.addr g.cats.xs.length g.cats.cap,.string g.start,.int .i64 ix,.slice A1 g.entries.xs.length c1,.slice A2 g.rules.xs.length c2] 26 (0,0))
 step:QStep b W X
theorem Xfr {q g j:Nat} {u:Value} {W X:World} (h:QStep q W X) (hg:W.heap.size<=g):QStep q W (X.setCell ⟨g,j,none⟩ u) :=
 ⟨h.os,h.tape,h.output,by have:=h.size;simpa[World.setCell] using this,fun k hk hn=>(heap_setCell_other _ _ _ _ (by show k≠g;omega)).trans (h.block k hk hn)⟩
theorem Xgp {q:Nat} {W X Y:World} (h:QStep q W X) (hb:Below X.heap.size X Y):QStep q W Y :=
 ⟨hb.os.trans h.os,hb.tape.trans h.tape,hb.output.trans h.output,Nat.le_trans h.size hb.size,fun k hk hn=>(hb.block k (Nat.lt_of_lt_of_le hk h.size)).trans (h.block k hk hn)⟩
theorem ClonesG.ext {W:World} {b:Nat} {g:Gram} {ix:Int} {A1:Option Addr} {c1:Nat} {A2:Option Addr} {c2:Nat} {E:List EntryG} {R:List RuleG} {X Y:World} (h:ClonesG W b g ix A1 c1 A2 c2 E R X) (hb:Below X.heap.size X Y):ClonesG W b g ix A1 c1 A2 c2 E R Y :=
 ⟨h.ent.ext hb,h.rul.ext hb,(hb.block _ (Xd h.box)).trans h.box,Xgp h.step hb⟩
theorem Xq2 {W:World} {b:Nat} {g:Gram} {ix:Int} {g1 c1:Nat} {A2:Option Addr} {c2:Nat} {P S:List EntryG} {e:EntryG} {R:List RuleG} {X:World} {k:Nat} (h:ClonesG W b g ix (some ⟨g1,0,none⟩) c1 A2 c2 (P++e :: S) R X) (hP:P.length=k) (hb:b<W.heap.size) (n:Int) :
  ClonesG W b g ix (some ⟨g1,0,none⟩) c1 A2 c2 (P++{e with no:=n} :: S) R (X.setCell ⟨g1,k*5+2,none⟩ (.int .i64 n)):=by
 have hg:=(h.ent.lt g1 rfl).1;refine⟨Xhd EntryG.size_cells h.ent hP (by omega) rfl,?_,?_,Xfr h.step hg⟩
 ·exact h.rul.block fun j hj=>heap_setCell_other _ _ _ _ (Xcq h.rul h.ent (by decide) hj rfl)
 ·exact(heap_setCell_other _ _ _ _ (by show b≠g1;omega)).trans h.box
theorem Xt8 {α:Type} (f:α->α) {l:List α} {k:Nat} (hk:k<l.length):(l.take k).map f++l.drop k=(l.take k).map f++l[k] :: l.drop (k+1):=by rw[List.drop_eq_getElem_cons hk]
theorem Xlh {α:Type} (f:α->α) {l:List α} {k:Nat} (hk:k<l.length):(l.take (k+1)).map f++l.drop (k+1)=(l.take k).map f++f l[k] :: l.drop (k+1):=by
 rw[List.take_succ_eq_append_getElem hk,List.map_append,List.append_assoc];rfl
theorem Xxo {g:Gram} (h:Yk g=true) {x:EntryG} (hx:x∈g.entries.xs):x.cat∈g.cats.xs:=by
 unfold Yk at h;simp only[Bool.and_eq_true,List.all_eq_true] at h;have h1:=h.1.2 x hx;unfold Uz at h1;simp only[Bool.and_eq_true] at h1;exact(Qx _ _).1 h1.1.1.1.2
theorem IdxMap.qstep {W X:World} {b bi bm:Nat} {cats:List ByteArray} (h:IdxMap W bi bm cats) (hq:QStep b W X) (h1:bi≠b) (h2:bm≠b):IdxMap X bi bm cats:=by
 obtain⟨i1,n,i2⟩:=h;exact⟨(hq.block _ (Xd i1) h1).trans i1,n,i2.of_block (hq.block _ i2.lt h2)⟩
theorem Xq3 {W V:World} {b:Nat} {g:Gram} {ix:Int} {A1 A2:Option Addr} {c1 c2 n1 n2:Nat} (hz:W.heap[b]? = some (.cells #[.string g.name,.slice g.cats.addr g.cats.xs.length g.cats.cap,.string g.start,.int .i64 ix,.slice g.entries.addr g.entries.xs.length g.entries.cap,.slice g.rules.addr g.rules.xs.length g.rules.cap] 26 (0,0))) (hV:Below W.heap.size W V)
  (h1:OwnL EntryG.cells 60 5 V n1 (.slice A1 g.entries.xs.length c1) g.entries.xs) (h2:OwnL RuleG.cells 79 5 V n2 (.slice A2 g.rules.xs.length c2) g.rules.xs) (hn1:W.heap.size<=n1) (hn2:W.heap.size<=n2) :
  ClonesG W b g ix A1 c1 A2 c2 g.entries.xs g.rules.xs ((V.setCell ⟨b,4,none⟩ (.slice A1 g.entries.xs.length c1)).setCell ⟨b,5,none⟩ (.slice A2 g.rules.xs.length c2)):=by
 have hb:=Xd hz;have hVz:=(hV.block _ hb).trans hz;obtain⟨a1,a2,a3,a4⟩:=Xsx (v:=.slice A1 g.entries.xs.length c1) (j:=4) rfl hVz;obtain⟨b1,b2,b3,b4⟩:=Xsx (v:=.slice A2 g.rules.xs.length c2) (j:=5) rfl a1;have hq:=Xgq a4 b4;have ho:∀j,j≠b->((V.setCell ⟨b,4,none⟩ (.slice A1 g.entries.xs.length c1)).setCell ⟨b,5,none⟩ (.slice A2 g.rules.xs.length c2)).heap[j]? = V.heap[j]? := fun j h=>(b2 j h).trans (a2 j h);refine⟨(h1.mono hn1).block fun j hj=>ho j (by have:=(h1.lt j hj).1;omega),(h2.mono hn2).block fun j hj=>ho j (by have:=(h2.lt j hj).1;omega),b1,⟨hq.os.trans hV.os,hq.tape.trans hV.tape,hq.output.trans hV.output,Nat.le_trans hV.size hq.size,fun j hj hne=>(hq.block j (Nat.lt_of_lt_of_le hj hV.size) hne).trans (hV.block j hj)⟩⟩
theorem X1f {P:Program} {c:Code} {Q:Exit->Act->World->Prop} {a:Act} {w:World} {Phi:Option Addr->Nat->World->Prop} {F:Option Addr->Nat->Act} (h:c.wp P (Exit.then (fun a' v=>∃A1 c1,a'=F A1 c1/\Phi A1 c1 v) (fun _ _ _=>False)) a w) (k:∀A1 c1 v,Phi A1 c1 v->Q .normal (F A1 c1) v):c.wp P Q a w :=
 wp_mono h (fun e a' v hh=>by
  cases e with
  | normal=>obtain⟨A1,c1,h2,h3⟩:=hh;subst h2;exact k _ _ v h3
  | _=>exact hh.elim)
def newR (y:RuleG) (n:Int) (s:SlS PartG):RuleG:=⟨y.cat,n,s,y.gives,y.cost⟩
structure Xmf (W:World) (b:Nat) (g:Gram) (ix:Int) (A1:Option Addr) (c1:Nat) (A2:Option Addr) (c2:Nat) (E:List EntryG) (P S:List RuleG) (y:RuleG) (n:Int) (f:PartG->PartG) (wr:World) (A3:Option Addr) (c3:Nat) (X:World):Prop where
 cl:ClonesG W b g ix A1 c1 A2 c2 E (P++newR y n ⟨A3,c3,y.parts.xs.map f⟩ :: S) X
 own:OwnL PartG.cells 81 3 X wr.heap.size (.slice A3 y.parts.xs.length c3) y.parts.xs
 size:wr.heap.size<=X.heap.size
 old:∀j,j<wr.heap.size->(∀ad,A2=some ad->j≠ad.block)->X.heap[j]? = wr.heap[j]?
theorem X0p {W wr V:World} {b:Nat} {g:Gram} {ix:Int} {A1:Option Addr} {g2 c1 c2 c3 n3:Nat} {E:List EntryG} {P S:List RuleG} {y:RuleG} {n:Int} {f:PartG->PartG} {A3:Option Addr} {k:Nat}
  (h:ClonesG W b g ix A1 c1 (some ⟨g2,0,none⟩) c2 E (P++y :: S) wr) (hP:P.length=k) (hV:Below wr.heap.size wr V) (hb:b<W.heap.size) (h3:OwnL PartG.cells 81 3 V n3 (.slice A3 y.parts.xs.length c3) y.parts.xs) (hn3:wr.heap.size<=n3) :
  Xmf W b g ix A1 c1 (some ⟨g2,0,none⟩) c2 E P S y n f wr A3 c3 ((V.setCell ⟨g2,k*5+1,none⟩ (.int .i64 n)).setCell ⟨g2,k*5+2,none⟩ (.slice A3 y.parts.xs.length c3)):=by
 have hc:=h.ext hV;have hl:=h.rul.lt g2 rfl;have ho:∀j,j≠g2->((V.setCell ⟨g2,k*5+1,none⟩ (.int .i64 n)).setCell ⟨g2,k*5+2,none⟩ (.slice A3 y.parts.xs.length c3)).heap[j]? = V.heap[j]? := fun j hj=>(heap_setCell_other _ _ _ _ hj).trans (heap_setCell_other _ _ _ _ hj);have hs:((V.setCell ⟨g2,k*5+1,none⟩ (.int .i64 n)).setCell ⟨g2,k*5+2,none⟩ (.slice A3 y.parts.xs.length c3)).heap.size=V.heap.size:=by simp[World.setCell]
 have r1:=Xhd (x:=y) (x':=⟨y.cat,n,y.parts,y.gives,y.cost⟩) RuleG.size_cells hc.rul hP (j:=1) (u:=.int .i64 n) (by omega) rfl;have r2:=Xhd (x:=⟨y.cat,n,y.parts,y.gives,y.cost⟩) (x':=newR y n ⟨A3,c3,y.parts.xs.map f⟩) RuleG.size_cells r1 hP (j:=2) (u:=.slice A3 y.parts.xs.length c3) (by omega) (by simp[RuleG.cells,newR]);refine⟨⟨hc.ent.block fun j hj=>ho j (Xcq hc.ent hc.rul (by decide) hj rfl),r2,(ho b (by omega)).trans hc.box,Xfr (Xfr hc.step (by omega)) (by omega)⟩,(h3.mono hn3).block fun j hj=>ho j (Xcq h3 hc.rul (by decide) hj rfl),by rw[hs];exact hV.size,fun j hj hne=>(ho j (hne _ rfl)).trans (hV.block j hj)⟩
theorem ClonesG.far {W:World} {b:Nat} {g:Gram} {ix:Int} {A1:Option Addr} {c1:Nat} {A2:Option Addr} {c2:Nat} {E:List EntryG} {R:List RuleG} {X Y:World} {q:Nat} (h:ClonesG W b g ix A1 c1 A2 c2 E R X) (hq:QStep q X Y) (hk:∃cur,X.heap[q]? = some (.cells cur 81 (0,0))) (hW:W.heap.size<=q):ClonesG W b g ix A1 c1 A2 c2 E R Y:=by
 obtain⟨cur,hk⟩:=hk;have hb:b≠q:=fun e=>by have h1:=h.box;rw[e,hk] at h1;cases h1
 refine⟨h.ent.block fun j hj=>hq.block j (h.ent.lt j hj).2 ?_,h.rul.block fun j hj=>hq.block j (h.rul.lt j hj).2 ?_,(hq.block b (Xd h.box) hb).trans h.box,⟨hq.os.trans h.step.os,hq.tape.trans h.step.tape,hq.output.trans h.step.output,Nat.le_trans h.step.size hq.size,fun j hj hn=>(hq.block j (Nat.lt_of_lt_of_le hj h.step.size) (by omega)).trans (h.step.block j hj hn)⟩⟩
 ·obtain⟨c,hc⟩:=OwnL.kind h.ent hj
  rintro rfl;rw[hk] at hc;cases hc
 ·obtain⟨c,hc⟩:=OwnL.kind h.rul hj
  rintro rfl;rw[hk] at hc;cases hc
structure RulC (W:World) (b:Nat) (g:Gram) (ix:Int) (A1:Option Addr) (c1:Nat) (A2:Option Addr) (c2:Nat) (k:Nat) (P:List RuleG) (wr:World):Prop where
 cl:ClonesG W b g ix A1 c1 A2 c2 (g.entries.xs.map (Xb2 g.cats.xs)) (P++g.rules.xs.drop k) wr
 len:P.length=k
 rule:∀(i:Nat) r r',g.rules.xs[i]? = some r->P[i]? = some r'->Xme g.cats.xs (Z4 g.cats.xs) r r'
 part:∀r'∈P,r'.parts.lies PartG.cells wr/\∀ad,r'.parts.addr=some ad->W.heap.size<=ad.block/\∃cur,wr.heap[ad.block]? = some (.cells cur 81 (0,0))
theorem Xxq {g:Gram} (h:Yk g=true) {r:RuleG} (hr:r∈g.rules.xs):1<=r.parts.xs.length:=by
 unfold Yk at h;simp only[Bool.and_eq_true,List.all_eq_true] at h;have h1:=h.2 r hr;unfold Vh at h1;simp only[Bool.and_eq_true,decide_eq_true_eq] at h1;exact h1.1.1.1.1.1.2.1
theorem Xs8 {g:Gram} (h:Yk g=true) {r:RuleG} (hr:r∈g.rules.xs) {p:PartG} (hp:p∈r.parts.xs) (h0:p.text.size=0):p.cat∈g.cats.xs:=by
 unfold Yk at h;simp only[Bool.and_eq_true,List.all_eq_true] at h;have h1:=h.2 r hr;unfold Vh at h1;simp only[Bool.and_eq_true,List.all_eq_true] at h1;have h3:=h1.1.1.2 p hp;unfold Ui at h3;rw[if_pos h0] at h3;exact(Qx _ _).1 h3
structure Xbm (w7:World) (base g3 n c3:Nat) (L:List PartG) (X:World):Prop where
 step:QStep g3 w7 X
 own:OwnL PartG.cells 81 3 X base (.slice (some ⟨g3,0,none⟩) n c3) L
theorem Xli {w7 X:World} {base g3 n c3 j:Nat} {P S:List PartG} {p:PartG} (h:Xbm w7 base g3 n c3 (P++p :: S) X) (hP:P.length=j) (m:Int):Xbm w7 base g3 n c3 (P++{p with no:=m} :: S) (X.setCell ⟨g3,j*3+1,none⟩ (.int .i64 m)) :=
 ⟨⟨h.step.os,h.step.tape,h.step.output,by have:=h.step.size;simpa[World.setCell] using this,fun k hk hn=>(heap_setCell_other _ _ _ _ hn).trans (h.step.block k hk hn)⟩,Xhd PartG.size_cells h.own hP (by omega) rfl⟩
theorem Xsb {w7 X:World} {base g3 n c3:Nat} {L:List PartG} (h:Xbm w7 base g3 n c3 L X):Xbm w7 base g3 n c3 L X.drew:=⟨Xgp h.step bd_q,h.own.ext bd_q⟩
theorem X0n {W wr w7 X:World} {b:Nat} {g:Gram} {ix:Int} {A1:Option Addr} {g2 g3 c1 c2 c3 k:Nat} {P:List RuleG} {y:RuleG} (hget:g.rules.xs[k]? = some y) (hPl:P.length=k)
  (hrule:∀(i:Nat) r r',g.rules.xs[i]? = some r->P[i]? = some r'->Xme g.cats.xs (Z4 g.cats.xs) r r')
  (hpart:∀r'∈P,r'.parts.lies PartG.cells wr/\∀ad,r'.parts.addr=some ad->W.heap.size<=ad.block/\∃cur,wr.heap[ad.block]? = some (.cells cur 81 (0,0)))
  (hg2:∃cur,wr.heap[g2]? = some (.cells cur 79 (0,0))) (hW:W.heap.size<=wr.heap.size)
  (hS:Xmf W b g ix A1 c1 (some ⟨g2,0,none⟩) c2 (g.entries.xs.map (Xb2 g.cats.xs)) P (g.rules.xs.drop (k+1)) y (idxF y.cat g.cats.xs) (Z4 g.cats.xs) wr (some ⟨g3,0,none⟩) c3 w7)
  (hC:Xbm w7 wr.heap.size g3 y.parts.xs.length c3 (y.parts.xs.map (Z4 g.cats.xs)) X) :
  RulC W b g ix A1 c1 (some ⟨g2,0,none⟩) c2 (k+1) (P++[newR y (idxF y.cat g.cats.xs) ⟨some ⟨g3,0,none⟩,c3,y.parts.xs.map (Z4 g.cats.xs)⟩]) X:=by
 have hl3:=hS.own.lt g3 rfl;refine⟨?_,by simp[hPl],?_,?_⟩
 ·have:=hS.cl.far hC.step (OwnL.kind hS.own rfl) (by omega)
  rw[List.append_assoc];exact this
 ·intro i r r' h1 h2
  by_cases e:i<P.length
  ·rw[List.getElem?_append_left e] at h2
   exact hrule i r r' h1 h2
  ·rw[List.getElem?_append_right (by omega)] at h2
   have hi:i=P.length:=by
    have:=(List.getElem?_eq_some_iff.1 h2).1;simp at this;omega
   subst hi;rw[hPl,hget] at h1;cases h1;simp at h2;subst h2;exact⟨rfl,rfl,rfl,rfl,rfl⟩
 ·intro r' hr'
  rcases List.mem_append.1 hr' with hr'|hr'
  ·obtain⟨h1,h2⟩:=hpart r' hr'
   have key:∀ad,r'.parts.addr=some ad->X.heap[ad.block]? = wr.heap[ad.block]? := fun ad had=>by
    obtain⟨a1,cur,a2⟩:=h2 ad had;have hlt:=Xd a2;obtain⟨cur',b1⟩:=hg2;have hne:ad.block≠g2:=fun e=>by rw[e,b1] at a2;cases a2
    refine(hC.step.block _ (by have:=hS.size;omega) (by omega)).trans (hS.old _ hlt fun ad' h'=>by cases h';exact hne)
   refine⟨h1.block key (by have:=hS.size;have:=hC.step.size;omega),fun ad had=>?_⟩;obtain⟨a1,cur,a2⟩:=h2 ad had;exact⟨a1,cur,(key ad had).trans a2⟩
  ·rw[List.mem_singleton.1 hr']
   obtain⟨s,e1,e2,e3,_⟩:=Xm7 (by omega) hC.own;obtain⟨sa,sc,sx⟩:=s;simp only at e2;subst e2;injection e1 with e4 e5 e6;have e4:(some ⟨g3,0,none⟩:Option Addr)=sa:=e4;have e6:c3=sc:=e6;subst e4;subst e6;refine⟨e3,fun ad had=>?_⟩;have had:(some ⟨g3,0,none⟩:Option Addr)=some ad:=had;cases had;exact⟨by show _<=g3;omega,OwnL.kind hC.own rfl⟩
structure IdxM (W:World) (bi bm n:Nat) (f:ByteArray->Option Int) (wr:World):Prop where
 map:MapF wr strK intE bm n f
 box:wr.heap[bi]? = some (.cells #[.map (some bm)] 253 (0,0))
 below:Below W.heap.size W wr
theorem Xco {cats:List ByteArray} (h:cats.Nodup) {s:ByteArray} (hs:s∈cats):(Zp 0 cats s).getD 0=idxF s cats:=by
 rw[Xgk s 0 cats h,if_pos ((Xeh s cats).2 hs)];simp
theorem Qq {g:Gram} (h:Yk g=true):g.cats.xs.Nodup:=by
 unfold Yk at h;simp only[Bool.and_eq_true,decide_eq_true_eq] at h;exact h.1.1.2
theorem Xp5 {g:Gram} (h:Yk g=true):g.start∈g.cats.xs:=by
 unfold Yk at h;simp only[Bool.and_eq_true,decide_eq_true_eq] at h;exact(Qx _ _).1 h.1.1.1.1.2
theorem Xi4 (g:Gram) (w:World) (hT:TabsG w) (hg:g.lies w) (hs:g.short):Calls Tryz.prog 134 #[g.vl] w (Xtm Z4 g w):=by
 obtain⟨W1,hW1⟩:∃W1,(w.alloc g.ob).alloc (.cells #[.string ⟨#[]⟩,.slice none 0 0,.string ⟨#[]⟩,.int .i64 0,.slice none 0 0,.slice none 0 0] 26)=W1:=⟨_,rfl⟩
 have hB1:Below w.heap.size w W1:=by subst hW1;exact Xg ba_q _
 have hk:W1.heap[w.heap.size]? = some g.ob:=by subst hW1;exact(Below.heap_alloc _ _ _ (by simp)).trans (World.alloc_heap_new _ _)
 have hk2:W1.heap[w.heap.size+1]? = some (.cells #[.string ⟨#[]⟩,.slice none 0 0,.string ⟨#[]⟩,.int .i64 0,.slice none 0 0,.slice none 0 0] 26 (0,0)):=by subst hW1;have:=World.alloc_heap_new (w.alloc g.ob) (.cells #[.string ⟨#[]⟩,.slice none 0 0,.string ⟨#[]⟩,.int .i64 0,.slice none 0 0,.slice none 0 0] 26);rwa [World.size_alloc] at this
 have HG:=Xa (hg.ext hB1);have hm1:g.cats.xs.length<=9223372036854775807:=Nat.le_trans hg.cats.cap hg.cats.max;have hm2:g.entries.xs.length<=9223372036854775807:=Nat.le_trans hg.entries.cap hg.entries.max;have hm3:g.rules.xs.length<=9223372036854775807:=Nat.le_trans hg.rules.cap hg.rules.max;obtain⟨c0,c1,c2,c3,c4,c5⟩:=gb6 hk;have Hk:=Xa hk;have Hk2:=Xa hk2;have HRG:Hid (resG g=if bigB g then 2 else if !Yk g then 260 else if T8 g then 261 else 0):=rfl;have HBB:Hid (bigB g=(decide (32<g.cats.xs.length) || decide (512<g.entries.xs.length) || decide (128<g.rules.xs.length))):=rfl;have Hg0:=Xa hg;have HT:=Xa (hT.ext hB1);have Hs:=Xa hs;clear hT hs hg hk;by_cases hbig:bigB g=true
 ·have hr2:Hid (resG g=2):=by show _=_;rw[HRG.out,if_pos hbig]
  have hbb:=HBB.out;rw[hbig] at hbb;obtain⟨Wz,hWz⟩:∃Wz,((((((W1.setCell ⟨w.heap.size+1,0,none⟩ (.string ⟨#[]⟩)).setCell ⟨w.heap.size+1,1,none⟩ (.slice none 0 0)).setCell ⟨w.heap.size+1,2,none⟩ (.string ⟨#[]⟩)).setCell ⟨w.heap.size+1,3,none⟩ (.int .i64 0)).setCell ⟨w.heap.size+1,4,none⟩ (.slice none 0 0)).setCell ⟨w.heap.size+1,5,none⟩ (.slice none 0 0))=Wz:=⟨_,rfl⟩
  have hkz:Wz.heap[w.heap.size+1]? = some (.cells #[.string ⟨#[]⟩,.slice none 0 0,.string ⟨#[]⟩,.int .i64 0,.slice none 0 0,.slice none 0 0] 26 (0,0)):=by subst hWz;exact st6 hk2
  have HBz:Hid (Below w.heap.size w Wz):=by subst hWz;exact Xcf hB1 (by omega)
  have f0:=Xf hk2 0;have f1:=Xf hk2 1;have f2:=Xf hk2 2;have f3:=Xf hk2 3;have f4:=Xf hk2 4;have f5:=Xf hk2 5;obtain⟨e0,e1,e2,e3,e4,e5⟩:=gb6 hk2;obtain⟨z0,z1,z2,z3,z4,z5⟩:=gb6 hkz;clear hbig HBB HRG hk2 hkz;by_cases q1:(32:Int)<(g.cats.xs.length:Int)
  ·clear hbb
   go_enter Tryz.func134,Tryz.ntmps134
   go_wp2_with fail
   refine bodyPost_ret (v:=.tuple #[.agg #[.string ⟨#[]⟩,.slice none 0 0,.string ⟨#[]⟩,.int .i64 0,.slice none 0 0,.slice none 0 0],.int .i64 2]) ?_ rfl ?_
   ·simp[results,Tryz.results134,go_sem,z0,z1,z2,z3,z4,z5]
   ·exact⟨Xma,by rw[hr2.out];rfl,HBz.out,fun h=>by rw[hr2.out] at h;cases h⟩
  ·by_cases q2:(512:Int)<(g.entries.xs.length:Int)
   ·clear hbb
    go_enter Tryz.func134,Tryz.ntmps134
    go_wp2_with fail
    refine bodyPost_ret (v:=.tuple #[.agg #[.string ⟨#[]⟩,.slice none 0 0,.string ⟨#[]⟩,.int .i64 0,.slice none 0 0,.slice none 0 0],.int .i64 2]) ?_ rfl ?_
    ·simp[results,Tryz.results134,go_sem,z0,z1,z2,z3,z4,z5]
    ·exact⟨Xma,by rw[hr2.out];rfl,HBz.out,fun h=>by rw[hr2.out] at h;cases h⟩
   ·have q3:(128:Int)<(g.rules.xs.length:Int):=by
     have:=hbb.symm;simp only[Bool.or_eq_true,decide_eq_true_eq] at this;omega
    clear hbb;go_enter Tryz.func134,Tryz.ntmps134
    go_wp2_with fail
    refine bodyPost_ret (v:=.tuple #[.agg #[.string ⟨#[]⟩,.slice none 0 0,.string ⟨#[]⟩,.int .i64 0,.slice none 0 0,.slice none 0 0],.int .i64 2]) ?_ rfl ?_
    ·simp[results,Tryz.results134,go_sem,z0,z1,z2,z3,z4,z5]
    ·exact⟨Xma,by rw[hr2.out];rfl,HBz.out,fun h=>by rw[hr2.out] at h;cases h⟩
 ·have hbf:bigB g=false:=by simpa using hbig
  have hbb:=HBB.out;rw[hbf] at hbb;have hbb2:=hbb.symm;simp only[Bool.or_eq_false_iff,decide_eq_false_iff_not,Nat.not_lt] at hbb2;obtain⟨⟨b1,b2⟩,b3⟩:=hbb2;have q1:¬(32:Int)<(g.cats.xs.length:Int):=by omega
  have q2:¬(512:Int)<(g.entries.xs.length:Int):=by omega
  have q3:¬(128:Int)<(g.rules.xs.length:Int):=by omega
  have HRB:Hid (resG g=if !Yk g then 260 else if T8 g then 261 else 0):=by show _=_;rw[HRG.out,hbf];rfl
  clear hbig hbf hbb HBB HRG;obtain⟨W2,hW2⟩:∃W2,(W1.alloc (.map #[] 0)).alloc (.cells #[.map (some W1.heap.size)] 253)=W2:=⟨_,rfl⟩
  have hb2:Below W1.heap.size W1 W2:=by subst hW2;exact Xg ba_q _
  have hM0:MapF W2 strK intE W1.heap.size 0 (fun _=>none):=by subst hW2;exact MapF.of_block (MapF.made _ _ _) (Below.heap_alloc _ _ _ (by simp))
  have hbx:W2.heap[W1.heap.size+1]? = some (.cells #[.map (some W1.heap.size)] 253 (0,0)):=by subst hW2;exact Xo _ _ _ (by simp)
  have hmm:=@run_makeMap Tryz.prog;have hmf:∀(fn:Fn) (first cap:Array Value) (w:World),(Instr.makeFunc fn first cap).run Tryz.prog w = .ok (.func fn first cap) w:=fun _ _ _ _=>rfl;have H0:Hid (IdxM W1 (W1.heap.size+1) W1.heap.size 0 (Zp 0 []) W2):=⟨hM0,hbx,hb2⟩
  have d1:W2.cell? ⟨w.heap.size,1,none⟩=some (.slice g.cats.addr g.cats.xs.length g.cats.cap):=(hb2.cell (p:=⟨w.heap.size,1,none⟩) (Xd Hk.out)).trans (gblk Hk.out 1);have HB1:=Xa hB1;clear hM0 hbx hb2 hk2 hB1;go_enter Tryz.func134,Tryz.ntmps134
  go_wp2_with fail
  clear hmm hW1 hW2 d1 c0 c1 c2 c3 c4 c5 q1 q2 q3;go_loopw [33] (fun i wr=>∃k:Nat,k<=g.cats.xs.length/\i = .int .i64 k/\IdxM W1 (W1.heap.size+1) W1.heap.size k (Zp 0 (g.cats.xs.take k)) wr) (fun i _=>g.cats.xs.length-(intOf i).toNat)
  case atStart=>exact⟨0,Nat.zero_le _,rfl,H0.out⟩
  case round =>
   obtain⟨k,hk,rfl,hM,hbx,hB⟩:=hrel;by_cases hlt:k<g.cats.xs.length
   ·obtain⟨b,off,hA,hb,hc⟩:=StrS.at_ HG.out.cats (k:=k) hlt
    have e0:wr.cell? ⟨b,off+k,none⟩=some (.string g.cats.xs[k]):=(hB.cell (p:=⟨b,off+k,none⟩) hb).trans (hc k hlt);have htk:g.cats.xs.take (k+1)=g.cats.xs.take k++[g.cats.xs[k]]:=List.take_succ_eq_append_getElem hlt;have hgood:g.cats.xs[k].size<=maxLen:=Hs.out.cats _ (List.getElem_mem hlt);have hbc:=Xe hbx;have hkm:k<maxLen:=(by unfold maxLen;omega);have hkl:(g.cats.xs.take k).length=k:=(by rw[List.length_take];omega);rw[hA];have Htk:=Xa htk;have Hkl:=Xa hkl;have Hbx:=Xa hbx;have HB:=Xa hB;clear hc hA htk hbx hB hkl;generalize g.cats.xs[k]=y at *;generalize g.cats.xs.take k=l at *;go_wp2_with (at_mapUpdate;refine Vz _ rfl _ _ _ 253 rfl 3 Ts Tryz.underlying253 strK intE W1.heap.size k _ rfl hM hkm y (k:Int) rfl rfl hgood ?_;intro w9 hm9 hg9 hs9)
    have HF:Hid (IdxM W1 (W1.heap.size+1) W1.heap.size (k+1) (Zp 0 (g.cats.xs.take (k+1))) w9):=by
     refine⟨?_,(hg9.block _ (Xd Hbx.out) (by simp)).trans Hbx.out,HB.out.grown hg9 HB.out.size (fun j hj=>by cases hj;exact Nat.le_refl _)⟩;rw[Htk.out];exact MapF.congr hm9 (fun z _=>by rw[Xiq,Nat.zero_add,Hkl.out])
    clear hm9 hg9 hs9 hM e0 hbc;go_wp2_with fail
    go_roundw
    case rel=>exact⟨k+1,by omega,by go_num,HF.out⟩
    case measure=>simp[intOf];omega
   ·obtain rfl:k=g.cats.xs.length:=by omega
    rw[List.take_length] at hM;have HI:Hid (IdxMap wr (W1.heap.size+1) W1.heap.size g.cats.xs):=⟨hbx,_,hM⟩
    have hsz:=hM.size Ts (Tt g.cats.xs) (Qn _) (fun x hx=>Hs.out.cats x ((Xad x _).1 hx)) (fun x _=>by rw[Xad,Xdo]) Tryz.underlying253 3;have hon:=Xlf g.cats.xs;have hx0:=Xe hbx;have hkg:=Xi hB Hk.out;have hkz2:=Xi hB Hk2.out;have hBw:=Xb HB1.out hB;have HTr:=Xa (HT.out.ext hB);have HGr:=Xa (HG.out.ext hB);have Hkg:=Xa hkg;have HR1:=HRB;have HTW:=Xa (X06 g);obtain⟨c0,c1,c2,c3,c4,c5⟩:=gb6 hkg;by_cases hnd:g.cats.xs.Nodup
    rotate_left
    ·have hne:(Tt g.cats.xs).length≠g.cats.xs.length:=fun h=>hnd (hon.1 h)
     have hr2:Hid (resG g=260):=by
      have:Yk g=false:=(by rw[HTW.out,decide_eq_false hnd];rfl);show _=_;rw[HR1.out,this];rfl
     have g1:(((Tt g.cats.xs).length:Int) != (g.cats.xs.length:Int))=true:=(by simp;omega);generalize (Tt g.cats.xs).length=m at *;obtain⟨Wz,hWz⟩:∃Wz,((((((wr.setCell ⟨w.heap.size+1,0,none⟩ (.string ⟨#[]⟩)).setCell ⟨w.heap.size+1,1,none⟩ (.slice none 0 0)).setCell ⟨w.heap.size+1,2,none⟩ (.string ⟨#[]⟩)).setCell ⟨w.heap.size+1,3,none⟩ (.int .i64 0)).setCell ⟨w.heap.size+1,4,none⟩ (.slice none 0 0)).setCell ⟨w.heap.size+1,5,none⟩ (.slice none 0 0))=Wz:=⟨_,rfl⟩
     have hkz:Wz.heap[w.heap.size+1]? = some (.cells #[.string ⟨#[]⟩,.slice none 0 0,.string ⟨#[]⟩,.int .i64 0,.slice none 0 0,.slice none 0 0] 26 (0,0)):=(by subst hWz;exact st6 hkz2);have HBz:Hid (Below w.heap.size w Wz):=(by subst hWz;exact Xcf hBw (by omega));have f0:=Xf hkz2 0;have f1:=Xf hkz2 1;have f2:=Xf hkz2 2;have f3:=Xf hkz2 3;have f4:=Xf hkz2 4;have f5:=Xf hkz2 5;obtain⟨e0,e1,e2,e3,e4,e5⟩:=gb6 hkz2;obtain⟨z0,z1,z2,z3,z4,z5⟩:=gb6 hkz;clear hnd hon hne hM hbx hkg hkz hkz2 hB hBw;go_wp2_with fail
     refine bodyPost_ret (v:=.tuple #[.agg #[.string ⟨#[]⟩,.slice none 0 0,.string ⟨#[]⟩,.int .i64 0,.slice none 0 0,.slice none 0 0],.int .i64 260]) ?_ rfl ?_
     ·simp[results,Tryz.results134,go_sem,z0,z1,z2,z3,z4,z5]
     ·exact⟨Xma,by rw[hr2.out];rfl,HBz.out,fun h=>by rw[hr2.out] at h;cases h⟩
    ·have hnc:(Tt g.cats.xs).length=g.cats.xs.length:=hon.2 hnd
     rw[hnc] at hsz;have cT:=Xa (Xne (W1.heap.size+1) W1.heap.size g wr HTr.out HGr.out Hs.out HI.out);have HTy:Hid (Yk g=Xdv g):=(by show _=_;rw[HTW.out,decide_eq_true hnd];rfl);have Hnd:=Xa hnd;have Hkz:=Xa hkz2;have HBw:=Xa hBw;have HBr:=Xa hB;clear hnd hon hnc hM hbx hkg hkz2 hB hBw;go_wp2_with fail
     refine cT.out.mono ?_;rintro e w3 ⟨rfl,hb3⟩;have hBw3:=Xb HBw.out hb3;have hkz3:=Xi hb3 Hkz.out;rw[<- HTy.out];cases hty:Yk g
     ·have hr2:Hid (resG g=260):=by show _=_;rw[HR1.out,hty];rfl
      obtain⟨Wz,hWz⟩:∃Wz,((((((w3.setCell ⟨w.heap.size+1,0,none⟩ (.string ⟨#[]⟩)).setCell ⟨w.heap.size+1,1,none⟩ (.slice none 0 0)).setCell ⟨w.heap.size+1,2,none⟩ (.string ⟨#[]⟩)).setCell ⟨w.heap.size+1,3,none⟩ (.int .i64 0)).setCell ⟨w.heap.size+1,4,none⟩ (.slice none 0 0)).setCell ⟨w.heap.size+1,5,none⟩ (.slice none 0 0))=Wz:=⟨_,rfl⟩
      have hkz:Wz.heap[w.heap.size+1]? = some (.cells #[.string ⟨#[]⟩,.slice none 0 0,.string ⟨#[]⟩,.int .i64 0,.slice none 0 0,.slice none 0 0] 26 (0,0)):=(by subst hWz;exact st6 hkz3);have HBz:Hid (Below w.heap.size w Wz):=(by subst hWz;exact Xcf hBw3 (by omega));have f0:=Xf hkz3 0;have f1:=Xf hkz3 1;have f2:=Xf hkz3 2;have f3:=Xf hkz3 3;have f4:=Xf hkz3 4;have f5:=Xf hkz3 5;obtain⟨e0,e1,e2,e3,e4,e5⟩:=gb6 hkz3;obtain⟨z0,z1,z2,z3,z4,z5⟩:=gb6 hkz;clear hty hkz hkz3;go_wp2_with fail
      refine bodyPost_ret (v:=.tuple #[.agg #[.string ⟨#[]⟩,.slice none 0 0,.string ⟨#[]⟩,.int .i64 0,.slice none 0 0,.slice none 0 0],.int .i64 260]) ?_ rfl ?_
      ·simp[results,Tryz.results134,go_sem,z0,z1,z2,z3,z4,z5]
      ·exact⟨Xma,by rw[hr2.out];rfl,HBz.out,fun h=>by rw[hr2.out] at h;cases h⟩
     have HR2:Hid (resG g=if T8 g then 261 else 0):=(by show _=_;rw[HR1.out,hty];rfl);have cC:=Xa (Xhx g w3 (HGr.out.ext hb3) Hs.out hty b1);have hkg3:=Xi hb3 Hkg.out;have Hty:=Xa hty;clear c0 c1 c2 c3 c4 c5 hty;obtain⟨c0,c1,c2,c3,c4,c5⟩:=gb6 hkg3;have Hkg3:=Xa hkg3;have Hkz3:=Xa hkz3;clear hkg3 hkz3;go_wp2_with fail
     refine cC.out.mono ?_;rintro e w4 ⟨rfl,hb4⟩;have hBw4:=Xb hBw3 hb4;have hkz4:=Xi hb4 Hkz3.out;have hkg4:=Xi hb4 Hkg3.out;cases hcc:T8 g
     ·have HN:Hid (resG g=0):=by show _=_;rw[HR2.out,hcc];rfl
      clear c0 c1 c2 c3 c4 c5 hsz;obtain⟨Wp,hWp⟩:∃Wp,((((((w4.setCell ⟨w.heap.size+1,0,none⟩ (.string g.name)).setCell ⟨w.heap.size+1,1,none⟩ (.slice g.cats.addr g.cats.xs.length g.cats.cap)).setCell ⟨w.heap.size+1,2,none⟩ (.string g.start)).setCell ⟨w.heap.size+1,3,none⟩ (.int .i64 g.startNo)).setCell ⟨w.heap.size+1,4,none⟩ (.slice g.entries.addr g.entries.xs.length g.entries.cap)).setCell ⟨w.heap.size+1,5,none⟩ (.slice g.rules.addr g.rules.xs.length g.rules.cap))=Wp:=⟨_,rfl⟩
      obtain⟨hpz,hpo,hps,hpq⟩:=X0x hWp hkz4;have hI4:IdxMap w4 (W1.heap.size+1) W1.heap.size g.cats.xs:=(HI.out.ext hb3).ext hb4;have hz1:=HBw.out.size;have hzk:=Xd Hk2.out;have hn1:W1.heap.size+1≠w.heap.size+1:=(by omega);have hn2:W1.heap.size≠w.heap.size+1:=(by omega);have hn0:w.heap.size≠w.heap.size+1:=(by omega);have hIp:=hI4.other hpo hn1 hn2;have hlk:=hIp.look1 Hs.out.start;rw[Xco (Qq Hty.out) (Xp5 Hty.out)] at hlk;obtain⟨Wq,hWq⟩:∃Wq,Wp.setCell ⟨w.heap.size+1,3,none⟩ (.int .i64 (idxF g.start g.cats.xs))=Wq:=⟨_,rfl⟩
      obtain⟨hqz0,hqo0,hqs0,hqq0⟩:=Xsx hWq hpz;have hqz:Wq.heap[w.heap.size+1]? = some (.cells #[.string g.name,.slice g.cats.addr g.cats.xs.length g.cats.cap,.string g.start,.int .i64 (idxF g.start g.cats.xs),.slice g.entries.addr g.entries.xs.length g.entries.cap,.slice g.rules.addr g.rules.xs.length g.rules.cap] 26 (0,0)):=hqz0;have hqo:∀j,j≠w.heap.size+1->Wq.heap[j]? = w4.heap[j]? := fun j h=>(hqo0 j h).trans (hpo j h);have hqq:=Xgq hpq hqq0;have hqs:=hqs0.trans hps;obtain⟨c0,c1,c2,c3,c4,c5⟩:=gb6 hkg4;obtain⟨e0,e1,e2,e3,e4,e5⟩:=gb6 hkz4;have f0:=Xf hkz4 0;have f1:=Xf hkz4 1;have f2:=Xf hkz4 2;have f3:=Xf hkz4 3;have f4:=Xf hkz4 4;have f5:=Xf hkz4 5;have p2:Wp.cell? ⟨w.heap.size,2,none⟩=some (.string g.start):=gblk ((hpo w.heap.size hn0).trans hkg4) 2;have p3:=gblk hpz 3;have k3:=Xf hpz 3;have px:=Xe hIp.box;have Hq4:=Xa ((hqo w.heap.size hn0).trans hkg4);have Hqz:=Xa hqz;have Hqq:=Xa hqq;have Hqs:=Xa hqs;have Hbw4:=Xa hBw4;have Hkg4:=Xa hkg4;have HIq:=Xa (hIp.other hqo0 hn1 hn2);have HGw:Hid (∀V,Below w.heap.size w V->g.lies V):=fun V hV=>Hg0.out.ext hV;have HBq:=Xa (hqq.below hBw4 (by omega));clear hcc hpz hpo hps hpq hI4 hIp hqz hqo hqs hqq hqz0 hqo0 hqs0 hqq0 hn0 hn1 hn2 hkg4 hkz4 hb3 hb4 hBw3 hBw4 hx0;obtain⟨ix,hix⟩:∃i,idxF g.start g.cats.xs=i:=⟨_,rfl⟩
      rw[hix] at hlk hWq Hqz;have Hix:=Xa hix;clear hix;go_wp2_with fail
      clear hWq hWp hlk c0 c1 c2 c3 c4 c5 e0 e1 e2 e3 e4 e5 f0 f1 f2 f3 f4 f5 p2 p3 k3 px;have hen:g.entries.addr=none->g.entries.xs=[]:=Hg0.out.entries.nil;have hrn:g.rules.addr=none->g.rules.xs=[]:=Hg0.out.rules.nil;have cE:=Xa (fun V (hV:Below Wq.heap.size Wq V)=>Xqy g.entries.addr g.entries.cap g.entries.xs V ((HGw.out V (Xb HBq.out hV)).entries.rd) hen (by omega));have cR:=Xa (fun V (hV:Below Wq.heap.size Wq V)=>Xq0 g.rules.addr g.rules.cap g.rules.xs V ((HGw.out V (Xb HBq.out hV)).rules.rd) hrn (by omega))
      have HKz:Hid (∀V,Below Wq.heap.size Wq V->V.cell? ⟨w.heap.size,4,none⟩=some (.slice g.entries.addr g.entries.xs.length g.entries.cap)/\V.cell? ⟨w.heap.size,5,none⟩=some (.slice g.rules.addr g.rules.xs.length g.rules.cap)/\V.cell? ⟨w.heap.size+1,4,none⟩=some (.slice g.entries.addr g.entries.xs.length g.entries.cap)/\V.cell? ⟨w.heap.size+1,5,none⟩=some (.slice g.rules.addr g.rules.xs.length g.rules.cap)/\V.frozen? ⟨w.heap.size+1,4,none⟩=false/\V.frozen? ⟨w.heap.size+1,5,none⟩=false):=fun V hV=>by
       have h1:=Xi hV Hq4.out;have h2:=Xi hV Hqz.out;exact⟨gblk h1 4,gblk h1 5,gblk h2 4,gblk h2 5,Xf h2 4,Xf h2 5⟩
      have hK0:=HKz.out Wq bo_q;obtain⟨y4,y5,_⟩:=hK0;have HFin:=Xa (fun V hV A1 c1 A2 c2 n1 n2 h1 h2 h3 h4=>Xq3 (V:=V) (A1:=A1) (A2:=A2) (c1:=c1) (c2:=c2) (n1:=n1) (n2:=n2) Hqz.out hV h1 h2 h3 h4);clear hen hrn;apply X1g (Phi:=fun A1 c1 A2 c2 X=>ClonesG Wq (w.heap.size+1) g ix A1 c1 A2 c2 g.entries.xs g.rules.xs X)
      ·go_region_with (first|(go_at_call 194;refine(cE.out _ (by first|assumption|exact bo_q|exact bd_q|exact Xr (by assumption))).mono ?_;intro e hEw hE0;obtain⟨A1,c1,rfl,hE,hbE⟩:=Xdg (by decide) hE0;have hbEB:Below Wq.heap.size Wq hEw:=Xb (by first|assumption|exact bo_q|exact bd_q|exact Xr (by assumption)) hbE;obtain⟨u0,u1,u2,u3,u4,u5⟩:=HKz.out hEw hbEB)|(go_at_call 195;refine(cR.out _ (by first|assumption|exact bo_q|exact bd_q|exact Xr (by assumption))).mono ?_;intro e hRw hR0;obtain⟨A2,c2,rfl,hR,hbR⟩:=Xdg (by decide) hR0;have hbRB:Below Wq.heap.size Wq hRw:=Xb (by first|assumption|exact bo_q|exact bd_q|exact Xr (by assumption)) hbR;obtain⟨v0,v1,v2,v3,v4,v5⟩:=HKz.out hRw hbRB))
       all_goals first
        | exact⟨A1,c1,A2,c2,rfl,HFin.out hRw hbRB A1 c1 A2 c2 _ _ (hE.ext (by first|exact hbR|exact Xb bd_q hbR)) hR (by first|exact Nat.le_refl _|exact hbEB.size) (by first|exact Nat.le_refl _|exact hbEB.size)⟩
        | exact⟨A1,c1,A2,c2,rfl,HFin.out hEw hbEB A1 c1 A2 c2 _ _ hE (hR.ext (by first|exact hbE|exact Xb bd_q hbE)) (by first|exact Nat.le_refl _|exact hbRB.size) (by first|exact Nat.le_refl _|exact hbRB.size)⟩
      ·intro A1 c1 A2 c2 w6 hC
       clear cE cR HKz y4 y5 HFin;have HC:=Xa hC;have x4:w6.cell? ⟨w.heap.size+1,4,none⟩=some (.slice A1 g.entries.xs.length c1):=gblk hC.box 4;have hb0:w.heap.size+1<Wq.heap.size:=Xd Hqz.out;have HC0:Hid (ClonesG Wq (w.heap.size+1) g ix A1 c1 A2 c2 ((g.entries.xs.take 0).map (Xb2 g.cats.xs)++g.entries.xs.drop 0) g.rules.xs w6):=HC.out;have Hn1:Hid (W1.heap.size+1≠w.heap.size+1):=(by show _≠_;omega);have Hn2:Hid (W1.heap.size≠w.heap.size+1):=(by show _≠_;omega);clear hC;go_wp2_with fail
       clear x4;go_loopw [76] (fun i wr=>∃k:Nat,k<=g.entries.xs.length/\i = .int .i64 k/\ClonesG Wq (w.heap.size+1) g ix A1 c1 A2 c2 ((g.entries.xs.take k).map (Xb2 g.cats.xs)++g.entries.xs.drop k) g.rules.xs wr) (fun i _=>g.entries.xs.length-(intOf i).toNat)
       case atStart=>exact⟨0,Nat.zero_le _,rfl,HC0.out⟩
       case round =>
        clear hk hlt;obtain⟨k,hk,rfl,hC⟩:=hrel
        rename World=>wr
        by_cases hlt:k<g.entries.xs.length
        ·rw[Xt8 _ hlt] at hC
         have hpn:=Xlh (Xb2 g.cats.xs) hlt;have hPl:((g.entries.xs.take k).map (Xb2 g.cats.xs)).length=k:=(by rw[List.length_map,List.length_take];omega);obtain⟨g1,cur,rfl,hg1,hk1,hcl⟩:=Xfs EntryG.size_cells hC.ent hPl;have hmem:=Xxo Hty.out (List.getElem_mem hlt);have hgd:=Hs.out.entry _ (List.getElem_mem hlt);have t1:wr.cell? ⟨g1,k*5+1,none⟩=some (.string g.entries.xs[k].cat):=hcl 1 _ rfl;have t2:wr.cell? ⟨g1,k*5+2,none⟩=some (.int .i64 g.entries.xs[k].no):=hcl 2 _ rfl;have fr:=Xf hk1 (k*5+2);have x4:wr.cell? ⟨w.heap.size+1,4,none⟩=some (.slice (some ⟨g1,0,none⟩) g.entries.xs.length c1):=gblk hC.box 4;have hIr:=HIq.out.qstep hC.step Hn1.out Hn2.out;have px:=Xe hIr.box;have hlk:=(hIr.ext bd_q).look1 hgd;rw[Xco (Qq Hty.out) hmem] at hlk;have hC2:=Xq2 (hC.ext bd_q) hPl hb0 (idxF g.entries.xs[k].cat g.cats.xs)
         have HF:Hid (ClonesG Wq (w.heap.size+1) g ix (some ⟨g1,0,none⟩) c1 A2 c2 ((g.entries.xs.take (k+1)).map (Xb2 g.cats.xs)++g.entries.xs.drop (k+1)) g.rules.xs (wr.drew.setCell ⟨g1,k*5+2,none⟩ (.int .i64 (idxF g.entries.xs[k].cat g.cats.xs)))):=by
          show ClonesG ..;rw[hpn];exact hC2
         clear hC hpn hPl hk1 hcl hmem hgd hIr hC2 hg1;generalize idxF g.entries.xs[k].cat g.cats.xs=iy at *;generalize g.entries.xs[k]=y at *;go_wp2_with fail
         go_region
         all_goals
          clear hlk t1 t2 fr x4 px;go_wp2_with fail
          go_roundw
         case rel=>exact⟨k+1,by omega,by go_num,HF.out⟩
         case measure=>simp[intOf];omega
        ·obtain rfl:k=g.entries.xs.length:=by omega
         have hC1:ClonesG Wq (w.heap.size+1) g ix A1 c1 A2 c2 (g.entries.xs.map (Xb2 g.cats.xs)) g.rules.xs wr:=by
          have h:=hC;rw[List.take_length,List.drop_length,List.append_nil] at h;exact h
         have HR0:Hid (RulC Wq (w.heap.size+1) g ix A1 c1 A2 c2 0 [] wr):=⟨hC1,rfl,fun i r r' _ h=>by simp at h,fun r' h=>by cases h⟩
         have x5:wr.cell? ⟨w.heap.size+1,5,none⟩=some (.slice A2 g.rules.xs.length c2):=gblk hC1.box 5;clear hC hC1 hk hlt;go_wp2_with fail
         clear x5;go_loopw [96] (fun i wr=>∃(k:Nat) (P:List RuleG),k<=g.rules.xs.length/\i = .int .i64 k/\RulC Wq (w.heap.size+1) g ix A1 c1 A2 c2 k P wr) (fun i _=>g.rules.xs.length-(intOf i).toNat)
         case atStart=>exact⟨0,[],Nat.zero_le _,rfl,HR0.out⟩
         case round =>
          obtain⟨k,P,hk,rfl,hR⟩:=hrel
          rename World=>wr
          by_cases hlt:k<g.rules.xs.length
          ·obtain⟨hcl,hPl,hrule,hpart⟩:=hR
           rw[List.drop_eq_getElem_cons hlt] at hcl;have hymem:=List.getElem_mem hlt;have hget:g.rules.xs[k]? = some g.rules.xs[k]:=List.getElem?_eq_getElem hlt;obtain⟨g2,cur,rfl,hg2,hk2,hcc⟩:=Xfs RuleG.size_cells hcl.rul hPl;have hcat:=(Xg0 Hty.out).2 _ hymem;have hgd:=Hs.out.rule _ hymem;have Hgp:=Xa (Hs.out.part _ hymem);have hp4:=Xxp Hty.out hymem;have hp1:=Xxq Hty.out hymem;have Hpt:=Xa (fun p hp=>Xs8 Hty.out hymem (p:=p) hp);have hBwr:=hcl.step.below HBq.out (by omega);have hIr:=HIq.out.qstep hcl.step Hn1.out Hn2.out;have x5:wr.cell? ⟨w.heap.size+1,5,none⟩=some (.slice (some ⟨g2,0,none⟩) g.rules.xs.length c2):=gblk hcl.box 5;have HIr:=Xa hIr;have hix2:=Xco (Qq Hty.out) hcat;have Hlies:=Xa (fun V (hV:Below w.heap.size w V)=>((HGw.out V hV).rule _ hymem).1);generalize hy:g.rules.xs[k]=y at *;have cP:=Xa (fun V (hV:Below wr.heap.size wr V)=>Xqz y.parts.addr y.parts.cap y.parts.xs V ((Hlies.out V (Xb hBwr hV)).rd) (Hlies.out w bo_q).nil (by omega))
           have HKz:Hid (∀V,Below wr.heap.size wr V->V.cell? ⟨g2,k*5,none⟩=some (.string y.cat)/\V.cell? ⟨g2,k*5+1,none⟩=some (.int .i64 y.no)/\V.cell? ⟨g2,k*5+2,none⟩=some (.slice y.parts.addr y.parts.xs.length y.parts.cap)/\V.frozen? ⟨g2,k*5+1,none⟩=false/\V.frozen? ⟨g2,k*5+2,none⟩=false/\V.cell? ⟨W1.heap.size+1,0,none⟩=some (.map (some W1.heap.size)) /\
             (Instr.lookup 253 (.map (some W1.heap.size)) (.string y.cat) false).run Tryz.prog V = .ok (.int .i64 (idxF y.cat g.cats.xs)) V):=fun V hV=>by
            have h1:=Xi hV hk2;have h2:=HIr.out.ext hV;have h3:=h2.look1 hgd;rw[hix2] at h3;have hcv:∀(j:Nat) (u:Value),y.cells[j]? = some u->V.cell? ⟨g2,k*5+j,none⟩=some u:=fun j u hu=>(hV.cell (p:=⟨g2,k*5+j,none⟩) (Xd hk2)).trans (hcc j u hu);exact⟨hcv 0 _ rfl,hcv 1 _ rfl,hcv 2 _ rfl,Xf h1 _,Xf h1 _,Xe h2.box,h3⟩
           have HFin:=Xa (fun V hV A3 c3 n3 h3 hn3=>X0p (V:=V) (A3:=A3) (c3:=c3) (n3:=n3) (n:=idxF y.cat g.cats.xs) (f:=Z4 g.cats.xs) hcl hPl hV hb0 h3 hn3);have Hpart:=Xa hpart;have Hrule:=Xa hrule;have HPl:=Xa hPl;have Hget:=Xa hget;have Hold:=Xa hcl;obtain⟨z0,z1,z2,z3,z4,z5,z6⟩:=HKz.out wr.drew bd_q;obtain⟨iy,hiy⟩:∃i,idxF y.cat g.cats.xs=i:=⟨_,rfl⟩
           rw[hiy] at HKz HFin z6;have Hiy:=Xa hiy;clear hcl hPl hrule hpart hk2 hcc hcat hgd hIr hix2 hget hiy hymem hBwr;go_wp2_with fail
           apply X1f (Phi:=fun A3 c3 X=>Xmf Wq (w.heap.size+1) g ix A1 c1 (some ⟨g2,0,none⟩) c2 (g.entries.xs.map (Xb2 g.cats.xs)) P (g.rules.xs.drop (k+1)) y iy (Z4 g.cats.xs) wr A3 c3 X)
           ·go_region_with (first|(go_at_call 196;refine(cP.out _ (by first|assumption|exact bo_q|exact bd_q)).mono ?_;intro e hPw hP0;obtain⟨A3,c3,rfl,hP3,hbP⟩:=Xdg (by decide) hP0;have hbPB:Below wr.heap.size wr hPw:=Xb (by first|assumption|exact bo_q|exact bd_q) hbP;obtain⟨v0,v1,v2,v3,v4,v5,v6⟩:=HKz.out hPw hbPB))
            all_goals exact⟨A3,c3,rfl,HFin.out hPw hbPB A3 c3 _ hP3 (by first|exact Nat.le_refl _|exact hbPB.size)⟩
           ·intro A3 c3 w7 hS
            clear HKz HFin cP z0 z1 z2 z3 z4 z5 z6 x5
            obtain⟨p0,ps0,hps⟩:∃p0 ps0,y.parts.xs=p0 :: ps0:=by
             cases h:y.parts.xs with
             | nil=>rw[h] at hp1;simp at hp1
             | cons a b=>exact⟨a,b,rfl⟩
            have hown:=hS.own;obtain⟨g3,cur3,rfl,hg3,_,_⟩:=Xfs (P:=[]) (k:=0) PartG.size_cells (by rw[hps] at hown;exact hown) rfl;have HS:=Xa hS;have HC0:Hid (Xbm w7 wr.heap.size g3 y.parts.xs.length c3 ((y.parts.xs.take 0).map (Z4 g.cats.xs)++y.parts.xs.drop 0) w7):=⟨⟨rfl,rfl,rfl,Nat.le_refl _,fun _ _ _=>rfl⟩,hS.own⟩
            obtain⟨_,_,e2,_,hk2,hcc⟩:=Xfs RuleG.size_cells hS.cl.rul HPl.out;cases e2;have r2:w7.cell? ⟨g2,k*5+2,none⟩=some (.slice (some ⟨g3,0,none⟩) y.parts.xs.length c3):=by have:=hcc 2 _ rfl;simpa[newR] using this
            have hn23:g2≠g3:=Xcq hS.cl.rul hS.own (by decide) rfl rfl;have hmp:y.parts.xs.length<=9223372036854775807:=(by omega);have Hr2:=Xa r2;have hz3:=Hold.out.step.size;have hi1:=Xd HIr.out.box;have hi2:=(HIr.out.map).elim (fun n h=>h.lt);have HI7:Hid (IdxMap w7 (W1.heap.size+1) W1.heap.size g.cats.xs):=HIq.out.qstep HS.out.cl.step Hn1.out Hn2.out;have hi3:=Xd HIq.out.box;clear hS hown hk2 hcc hps hp1;go_wp2_with fail
            clear r2;go_loopw [125] (fun i wz=>∃j:Nat,j<=y.parts.xs.length/\i = .int .i64 j/\Xbm w7 wr.heap.size g3 y.parts.xs.length c3 ((y.parts.xs.take j).map (Z4 g.cats.xs)++y.parts.xs.drop j) wz) (fun i _=>y.parts.xs.length-(intOf i).toNat)
            case atStart=>exact⟨0,Nat.zero_le _,rfl,HC0.out⟩
            case round =>
             obtain⟨j,hj,rfl,hC⟩:=hrel
             rename World=>wz
             by_cases hjl:j<y.parts.xs.length
             ·rw[Xt8 _ hjl] at hC
              have hpn:=Xlh (Z4 g.cats.xs) hjl;have hPj:((y.parts.xs.take j).map (Z4 g.cats.xs)).length=j:=(by rw[List.length_map,List.length_take];omega);obtain⟨_,cu,e3,_,hk3,hcl⟩:=Xfs PartG.size_cells hC.own hPj;cases e3;have hqm:=List.getElem_mem hjl;have hqg:=Hgp.out _ hqm;have hqc:=Hpt.out _ hqm;have s1:wz.cell? ⟨g3,j*3+1,none⟩=some (.int .i64 y.parts.xs[j].no):=hcl 1 _ rfl;have fr1:=Xf hk3 (j*3+1)
              have r2:wz.cell? ⟨g2,k*5+2,none⟩=some (.slice (some ⟨g3,0,none⟩) y.parts.xs.length c3):=by
               unfold World.cell?;rw[hC.step.block g2 (Ql Hr2.out) hn23];exact Hr2.out
              have hC1:=Xli hC hPj 0;obtain⟨V1,hV1⟩:∃V1,wz.setCell ⟨g3,j*3+1,none⟩ (.int .i64 0)=V1:=⟨_,rfl⟩
              rw[hV1] at hC1;obtain⟨_,cu1,e3,_,hk4,hcl1⟩:=Xfs PartG.size_cells hC1.own hPj;cases e3;have s0b:V1.cell? ⟨g3,j*3,none⟩=some (.string y.parts.xs[j].cat):=hcl1 0 _ rfl;have s1b:V1.cell? ⟨g3,j*3+1,none⟩=some (.int .i64 0):=hcl1 1 _ rfl;have s2b:V1.cell? ⟨g3,j*3+2,none⟩=some (.string y.parts.xs[j].text):=hcl1 2 _ rfl;have fr2:=Xf hk4 (j*3+1)
              have r2b:V1.cell? ⟨g2,k*5+2,none⟩=some (.slice (some ⟨g3,0,none⟩) y.parts.xs.length c3):=by
               unfold World.cell?;rw[hC1.step.block g2 (Ql Hr2.out) hn23];exact Hr2.out
              have hi1:=Xd HI7.out.box;have hI1:=HI7.out.qstep hC1.step (by have:=Xd HIq.out.box;omega) (by have:=Xd HIq.out.box;omega);have px:=Xe hI1.box;by_cases ht:y.parts.xs[j].text.size=0
              ·have n0:=Up (s:=y.parts.xs[j].text) (by omega)
               have hlk:=(hI1.ext bd_q).look1 hqg;rw[Xco (Qq Hty.out) (hqc ht)] at hlk;have hC2:=Xli (Xsb hC1) hPj (idxF y.parts.xs[j].cat g.cats.xs)
               have HF:Hid (Xbm w7 wr.heap.size g3 y.parts.xs.length c3 ((y.parts.xs.take (j+1)).map (Z4 g.cats.xs)++y.parts.xs.drop (j+1)) (V1.drew.setCell ⟨g3,j*3+1,none⟩ (.int .i64 (idxF y.parts.xs[j].cat g.cats.xs)))):=by
                show Xbm ..;rw[hpn];have e:Z4 g.cats.xs y.parts.xs[j]={({y.parts.xs[j] with no:=0}:PartG) with no:=idxF y.parts.xs[j].cat g.cats.xs}:=(by unfold Z4 noP;rw[if_pos ht]);rw[e];exact hC2
               clear hC hC1 hC2 hpn hPj hk3 hcl hk4 hcl1 hqm hqg hqc hI1 ht hi1;generalize idxF y.parts.xs[j].cat g.cats.xs=iq at *;generalize y.parts.xs[j]=q at *;go_wp2_with fail
               go_region
               all_goals
                clear hlk s1 fr1 r2 hV1 s0b s1b s2b fr2 r2b px;go_wp2_with fail
                go_roundw
               case rel=>exact⟨j+1,by omega,by go_num,HF.out⟩
               case measure=>simp[intOf];omega
              ·have n0:=Uo (s:=y.parts.xs[j].text) (by omega)
               have HF:Hid (Xbm w7 wr.heap.size g3 y.parts.xs.length c3 ((y.parts.xs.take (j+1)).map (Z4 g.cats.xs)++y.parts.xs.drop (j+1)) V1):=by
                show Xbm ..;rw[hpn];have e:Z4 g.cats.xs y.parts.xs[j]={y.parts.xs[j] with no:=0}:=(by unfold Z4 noP;rw[if_neg ht]);rw[e];exact hC1
               clear hC hC1 hpn hPj hk3 hcl hk4 hcl1 hqm hqg hqc hI1 ht px hi1;generalize y.parts.xs[j]=q at *;go_wp2_with fail
               clear s1 fr1 r2 hV1 s0b s1b s2b fr2 r2b;go_roundw
               case rel=>exact⟨j+1,by omega,by go_num,HF.out⟩
               case measure=>simp[intOf];omega
             ·obtain rfl:j=y.parts.xs.length:=by omega
              rw[List.take_length,List.drop_length,List.append_nil] at hC;have hg2k:∃cur,wr.heap[g2]? = some (.cells cur 79 (0,0)):=OwnL.kind Hold.out.rul rfl;have hSS:=HS.out;rw[<- Hiy.out] at hSS;have HF:=Xa (X0n Hget.out HPl.out Hrule.out Hpart.out hg2k hz3 hSS hC);clear hC hSS hg2k;go_wp2_with fail
              go_roundw
              case rel=>exact⟨k+1,_,by omega,by go_num,HF.out⟩
              case measure=>simp[intOf];omega
          ·obtain rfl:k=g.rules.xs.length:=by omega
           obtain⟨hcl,hPl,hrule,hpart⟩:=hR;rw[List.drop_length,List.append_nil] at hcl;have hBwr:=hcl.step.below HBq.out (by omega);obtain⟨Wz,hWz⟩:∃Wz,((((((wr.setCell ⟨w.heap.size+1,0,none⟩ (.string g.name)).setCell ⟨w.heap.size+1,1,none⟩ (.slice g.cats.addr g.cats.xs.length g.cats.cap)).setCell ⟨w.heap.size+1,2,none⟩ (.string g.start)).setCell ⟨w.heap.size+1,3,none⟩ (.int .i64 ix)).setCell ⟨w.heap.size+1,4,none⟩ (.slice A1 g.entries.xs.length c1)).setCell ⟨w.heap.size+1,5,none⟩ (.slice A2 g.rules.xs.length c2))=Wz:=⟨_,rfl⟩
           obtain⟨kz,oz,sz,qz⟩:=X0x hWz hcl.box;have hBz:=qz.below hBwr (by omega);have hEz:=hcl.ent.block (w':=Wz) (fun j hj=>oz j (by have:=(hcl.ent.lt j hj).1;omega));have hRz:=hcl.rul.block (w':=Wz) (fun j hj=>oz j (by have:=(hcl.rul.lt j hj).1;omega));obtain⟨sE,hvE,hsE,hlE,_⟩:=Xm7 (by omega) hEz;obtain⟨sR,hvR,hsR,hlR,_⟩:=Xm7 (by omega) hRz
           have HX:Hid ((⟨g.name,g.cats,g.start,idxF g.start g.cats.xs,sE,sR⟩:Gram).lies Wz/\Xyf (Z4 g.cats.xs) g ⟨g.name,g.cats,g.start,idxF g.start g.cats.xs,sE,sR⟩):=by
            refine⟨(Gram.lies.mk ?_ ?_ ?_ ?_ ?_),⟨rfl,rfl,rfl,rfl,hsE,by show sR.xs.length=_;rw[hsR,hPl],fun i r r' h1 h2=>hrule i r r' h1 (by rw[<- hsR];exact h2)⟩⟩
            ·exact Hg0.out.cats.ext hBz
            ·exact hlE
            ·intro x hxm
             have hxm:x∈sE.xs:=hxm;rw[hsE,List.mem_map] at hxm;obtain⟨e0,he0,rfl⟩:=hxm;exact(Hg0.out.entry e0 he0).ext hBz
            ·exact hlR
            ·intro x hxm
             have hxm:x∈sR.xs:=hxm;have hxm2:=hxm;rw[hsR] at hxm2;obtain⟨i,hi,rfl⟩:=List.getElem_of_mem hxm2;have hi2:i<g.rules.xs.length:=(by omega);have hrr:=hrule i _ _ (List.getElem?_eq_getElem hi2) (List.getElem?_eq_getElem hi);obtain⟨h1,h2⟩:=hpart _ hxm2;refine⟨h1.block (fun ad had=>oz _ (by have:=(h2 ad had).1;omega)) (by omega),?_⟩;rw[hrr.gives];exact(Hg0.out.rule _ (List.getElem_mem hi2)).2.ext hBz
           have hbox:=hcl.box;obtain⟨u0,u1,u2,u3,u4,u5⟩:=gb6 hbox;have hf0:=Xf hbox 0;have hf1:=Xf hbox 1;have hf2:=Xf hbox 2;have hf3:=Xf hbox 3;have hf4:=Xf hbox 4;have hf5:=Xf hbox 5;obtain⟨z0,z1,z2,z3,z4,z5⟩:=gb6 kz
           have hfin:Xtm Z4 g w (.returned (.tuple #[.agg #[.string g.name,.slice g.cats.addr g.cats.xs.length g.cats.cap,.string g.start,.int .i64 ix,.slice A1 g.entries.xs.length c1,.slice A2 g.rules.xs.length c2],.int .i64 0])) Wz:=by
            refine⟨⟨g.name,g.cats,g.start,idxF g.start g.cats.xs,sE,sR⟩,?_,hBz,fun _=>HX.out⟩;rw[HN.out,hvE,hvR,Hix.out]
           have Hfin:=Xa hfin;clear hfin hcl hPl hrule hpart hBwr kz oz sz qz hBz hEz hRz hvE hsE hlE hvR hsR hlR hbox HX hk hlt;go_wp2_with fail
           refine bodyPost_ret (v:=.tuple #[.agg #[.string g.name,.slice g.cats.addr g.cats.xs.length g.cats.cap,.string g.start,.int .i64 ix,.slice A1 g.entries.xs.length c1,.slice A2 g.rules.xs.length c2],.int .i64 0]) ?_ rfl ?_
           ·clear hWz
            simp only[List.getElem?_toArray,List.getElem?_cons_zero,List.getElem?_cons_succ] at z0 z1 z2 z3 z4 z5;simp[results,Tryz.results134,go_sem,z0,z1,z2,z3,z4,z5]
           ·exact Hfin.out
     ·have hr2:Hid (resG g=261):=by show _=_;rw[HR2.out,hcc];rfl
      obtain⟨Wz,hWz⟩:∃Wz,((((((w4.setCell ⟨w.heap.size+1,0,none⟩ (.string ⟨#[]⟩)).setCell ⟨w.heap.size+1,1,none⟩ (.slice none 0 0)).setCell ⟨w.heap.size+1,2,none⟩ (.string ⟨#[]⟩)).setCell ⟨w.heap.size+1,3,none⟩ (.int .i64 0)).setCell ⟨w.heap.size+1,4,none⟩ (.slice none 0 0)).setCell ⟨w.heap.size+1,5,none⟩ (.slice none 0 0))=Wz:=⟨_,rfl⟩
      have hkz:Wz.heap[w.heap.size+1]? = some (.cells #[.string ⟨#[]⟩,.slice none 0 0,.string ⟨#[]⟩,.int .i64 0,.slice none 0 0,.slice none 0 0] 26 (0,0)):=(by subst hWz;exact st6 hkz4);have HBz:Hid (Below w.heap.size w Wz):=(by subst hWz;exact Xcf hBw4 (by omega));have f0:=Xf hkz4 0;have f1:=Xf hkz4 1;have f2:=Xf hkz4 2;have f3:=Xf hkz4 3;have f4:=Xf hkz4 4;have f5:=Xf hkz4 5;obtain⟨e0,e1,e2,e3,e4,e5⟩:=gb6 hkz4;obtain⟨z0,z1,z2,z3,z4,z5⟩:=gb6 hkz;clear hcc hkz hkz4 hsz;go_wp2_with fail
      refine bodyPost_ret (v:=.tuple #[.agg #[.string ⟨#[]⟩,.slice none 0 0,.string ⟨#[]⟩,.int .i64 0,.slice none 0 0,.slice none 0 0],.int .i64 261]) ?_ rfl ?_
      ·simp[results,Tryz.results134,go_sem,z0,z1,z2,z3,z4,z5]
      ·exact⟨Xma,by rw[hr2.out];rfl,HBz.out,fun h=>by rw[hr2.out] at h;cases h⟩
end Go.Proofs.YtolpbjjapodmnaaGreatDoor
