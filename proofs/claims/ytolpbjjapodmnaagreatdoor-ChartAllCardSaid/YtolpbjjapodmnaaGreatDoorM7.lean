/- Texts of this claim, one after the other: R26j, R26k. -/
import Derived.Test.YtolpbjjapodmnaaGreatDoorM6
import Derived.Test.YtolpbjjapodmnaaGreatDoorM2
import Derived.Test.YtolpbjjapodmnaaGreatDoorM5
import Derived.Deep.RegionHeld3
namespace Go.Proofs.YtolpbjjapodmnaaGreatDoor
open Go.RowKit Go.Han
attribute [local irreducible] wpStill wpQuiet
set_option maxRecDepth 100000
def Xd9 (f:List ByteArray→PartG→PartG) (g:Gram) (w:World) (e:Ending) (w':World):Prop :=
 ∃X:Gram,e = .returned (.tuple #[.agg #[.string X.name,.slice X.cats.addr X.cats.xs.length X.cats.cap,.string X.start,.int .i64 X.startNo,.slice X.entries.addr X.entries.xs.length X.entries.cap,.slice X.rules.addr X.rules.xs.length X.rules.cap],.int .i64 (resG g)])∧Below w.heap.size w w'∧(resG g=0→X.lies w'∧Xic (f g.cats.xs) g X)
def Xal:Gram:=⟨⟨#[]⟩,⟨none,0,[]⟩,⟨#[]⟩,0,⟨none,0,[]⟩,⟨none,0,[]⟩⟩
theorem Xix:(Tryz.prog.info? 60).map (fun i=>(i.zero.map (fun z=>z.cells.size),i.size,i.bytes))=some (some 5,5,72):=by kernel_rfl
theorem Xi0:(Tryz.prog.info? 79).map (fun i=>(i.zero.map (fun z=>z.cells.size),i.size,i.bytes))=some (some 5,5,80):=by kernel_rfl
theorem Xiz:(Tryz.prog.info? 81).map (fun i=>(i.zero.map (fun z=>z.cells.size),i.size,i.bytes))=some (some 3,3,40):=by kernel_rfl
theorem Xas {t:TypeId} {a b c:Nat} (h:(Tryz.prog.info? t).map (fun i=>(i.zero.map (fun z=>z.cells.size),i.size,i.bytes))=some (some a,b,c)):∃i z,Tryz.prog.info? t=some i∧i.zero=some z∧z.cells.size=a∧i.size=b∧i.bytes=c:=by
 cases h':Tryz.prog.info? t with
 | none=>rw[h'] at h;cases h
 | some i =>
  rw[h'] at h
  simp only[Option.map_some,Option.some.injEq,Prod.mk.injEq] at h
  obtain⟨h1,h2,h3⟩:=h
  cases hz:i.zero with
  | none=>rw[hz] at h1;cases h1
  | some z =>
   rw[hz] at h1
   simp only[Option.map_some,Option.some.injEq] at h1
   exact⟨i,z,rfl,hz,h1,h2,h3⟩
theorem Xmg (x:EntryG):∀u∈x.cells,u.oneCell'=true:=by intro u hu;simp only[EntryG.cells,List.mem_cons,List.not_mem_nil,or_false] at hu;rcases hu with rfl|rfl|rfl|rfl|rfl<;>rfl
theorem Xmp (x:RuleG):∀u∈x.cells,u.oneCell'=true:=by intro u hu;simp only[RuleG.cells,List.mem_cons,List.not_mem_nil,or_false] at hu;rcases hu with rfl|rfl|rfl|rfl|rfl<;>rfl
theorem Xmn (x:PartG):∀u∈x.cells,u.oneCell'=true:=by intro u hu;simp only[PartG.cells,List.mem_cons,List.not_mem_nil,or_false] at hu;rcases hu with rfl|rfl|rfl<;>rfl
theorem st6 {W:World} {b:Nat} {u0 u1 u2 u3 u4 u5 v0 v1 v2 v3 v4 v5:Value} {t:TypeId} (h:W.heap[b]? = some (.cells #[u0,u1,u2,u3,u4,u5] t (0,0))) :
  ((((((W.setCell ⟨b,0,none⟩ (v0)).setCell ⟨b,1,none⟩ (v1)).setCell ⟨b,2,none⟩ (v2)).setCell ⟨b,3,none⟩ (v3)).setCell ⟨b,4,none⟩ (v4)).setCell ⟨b,5,none⟩ (v5)).heap[b]? = some (.cells #[v0,v1,v2,v3,v4,v5] t (0,0)) :=
 heap_setCell_same _ _ _ _ _ _ (heap_setCell_same _ _ _ _ _ _ (heap_setCell_same _ _ _ _ _ _ (heap_setCell_same _ _ _ _ _ _ (heap_setCell_same _ _ _ _ _ _ (heap_setCell_same _ _ _ _ _ _ h)))))
theorem Xg5 {W:World} {b:Nat} {v0 v1 v2 v3 v4 v5:Value} (j:Nat) (h:j≠b):((((((W.setCell ⟨b,0,none⟩ (v0)).setCell ⟨b,1,none⟩ (v1)).setCell ⟨b,2,none⟩ (v2)).setCell ⟨b,3,none⟩ (v3)).setCell ⟨b,4,none⟩ (v4)).setCell ⟨b,5,none⟩ (v5)).heap[j]? = W.heap[j]? := by
 rw[heap_setCell_other _ _ _ _ h,heap_setCell_other _ _ _ _ h,heap_setCell_other _ _ _ _ h,heap_setCell_other _ _ _ _ h,heap_setCell_other _ _ _ _ h,heap_setCell_other _ _ _ _ h]
theorem Xjw {W:World} {b:Nat} {v0 v1 v2 v3 v4 v5:Value}:((((((W.setCell ⟨b,0,none⟩ (v0)).setCell ⟨b,1,none⟩ (v1)).setCell ⟨b,2,none⟩ (v2)).setCell ⟨b,3,none⟩ (v3)).setCell ⟨b,4,none⟩ (v4)).setCell ⟨b,5,none⟩ (v5)).heap.size=W.heap.size:=by simp[World.setCell]
theorem Vh {a W:World} {B b:Nat} {v0 v1 v2 v3 v4 v5:Value} (h:Below B a W) (hb:B≤b):Below B a ((((((W.setCell ⟨b,0,none⟩ (v0)).setCell ⟨b,1,none⟩ (v1)).setCell ⟨b,2,none⟩ (v2)).setCell ⟨b,3,none⟩ (v3)).setCell ⟨b,4,none⟩ (v4)).setCell ⟨b,5,none⟩ (v5)) :=
 (((((h.setCell (p:=⟨b,0,none⟩) hb _).setCell (p:=⟨b,1,none⟩) hb _).setCell (p:=⟨b,2,none⟩) hb _).setCell (p:=⟨b,3,none⟩) hb _).setCell (p:=⟨b,4,none⟩) hb _).setCell (p:=⟨b,5,none⟩) hb _
structure ResI (W:World) (g:Gram) (E:List EntryG) (vE vR:Value) (wr:World):Prop where
 box:wr.heap[W.heap.size]? = some (.cells #[.string g.name,.slice g.cats.addr g.cats.xs.length g.cats.cap,.string g.start,.int .i64 (idxF g.start g.cats.xs),vE,vR] 26 (0,0))
 ent:OwnL EntryG.cells 60 5 wr (W.heap.size+1) vE E
 below:Below W.heap.size W wr
structure RulR (f:PartG→PartG) (W:World) (bx:Nat) (g:Gram) (vE vR:Value) (R:List RuleG) (wr:World):Prop where
 step:QStep bx W wr
 lt:bx<W.heap.size
 box:wr.heap[bx]? = some (.cells #[.string g.name,.slice g.cats.addr g.cats.xs.length g.cats.cap,.string g.start,.int .i64 (idxF g.start g.cats.xs),vE,vR] 26 (0,0))
 own:OwnL RuleG.cells 79 5 wr W.heap.size vR R
 rule:∀(i:Nat) r r',g.rules.xs[i]? = some r→R[i]? = some r'→Xea g.cats.xs f r r'
 part:∀r'∈R,r'.parts.lies PartG.cells wr∧∀ad,r'.parts.addr=some ad→W.heap.size≤ad.block∧some ad.block≠vR.ownBlock∧ad.block<wr.heap.size
theorem SlS.lies.block {α:Type} {f:α→List Value} {w w':World} {s:SlS α} (h:s.lies f w) (hb:∀ad,s.addr=some ad→w'.heap[ad.block]? = w.heap[ad.block]?) (hz:w.heap.size≤w'.heap.size):s.lies f w':=by
 refine⟨?_,h.cap,h.max,h.nil⟩
 rcases h.rd with h0|⟨b,off,he,hlt,hc⟩
 ·exact .inl h0
 ·refine .inr ⟨b,off,he,by omega,fun j u hu=>?_⟩
  have:=hb _ he
  rw[World.cell?_of_block (a:=⟨b,off+j,none⟩) this]
  exact hc j u hu
theorem Xda {α:Type} {f:α→List Value} {E sz:Nat} {w:World} {base:Nat} {v:Value} {l:List α} (h0:0<sz) (h:OwnL f E sz w base v l):∃s:SlS α,v = .slice s.addr s.xs.length s.cap∧s.xs=l∧s.lies f w∧∀ad,s.addr=some ad→base≤ad.block∧ad.block<w.heap.size:=by
 have hl:=h.lt
 obtain⟨A,c,rfl,hle,hmx,_,hr⟩:=SlOf.of_own h
 refine⟨⟨A,c,l⟩,rfl,rfl,⟨hr,hle,by simpa[maxLen] using hmx,fun hA=>?_⟩,fun ad had=>?_⟩
 ·obtain⟨A',c',e,_,h2⟩:=h.form h0
  cases e
  exact h2 hA
 ·have hA:A=some ad:=had
  subst hA
  exact hl ad.block rfl
theorem Xhh {g:Gram} (h:Xz g=true) {r:RuleG} (hr:r∈g.rules.xs):r.parts.xs.length≤4:=by
 unfold Xz at h
 simp only[Bool.and_eq_true,List.all_eq_true] at h
 have h1:=h.2 r hr
 unfold Yh at h1
 simp only[Bool.and_eq_true,decide_eq_true_eq] at h1
 exact h1.1.1.1.1.1.2.2
def PrtI (f:PartG→PartG) (W:World) (y:RuleG) (iy:Int) (vP:Value) (j:Nat) (wr:World):Prop :=
 Below W.heap.size W wr∧wr.heap[W.heap.size]? = some (.cells #[.string y.cat,.int .i64 iy,vP,.slice y.gives.addr y.gives.xs.length y.gives.cap,.int .i64 y.cost] 79 (0,0))∧OwnL PartG.cells 81 3 wr (W.heap.size+1) vP ((y.parts.xs.take j).map f)
theorem Xqm {W V w':World} {y:RuleG} {iy:Int} {vP v':Value} {L:List PartG} {q:PartG} (hBV:Below W.heap.size W V) (hxV:V.heap[W.heap.size]? = some (.cells #[.string y.cat,.int .i64 iy,vP,.slice y.gives.addr y.gives.xs.length y.gives.cap,.int .i64 y.cost] 79 (0,0)))
  (hO:OwnL PartG.cells 81 3 V (W.heap.size+1) vP L) (hown:w'.ownsRow (W.heap.size+1) 81 3 v' (L.length+1) (L.flatMap PartG.cells++PartG.cells q)) (hgr:V.grownBy w' vP.ownBlock) :
  w'.heap[W.heap.size]? = some (.cells #[.string y.cat,.int .i64 iy,vP,.slice y.gives.addr y.gives.xs.length y.gives.cap,.int .i64 y.cost] 79 (0,0))∧Below W.heap.size W (w'.setCell ⟨W.heap.size,2,none⟩ v')∧(w'.setCell ⟨W.heap.size,2,none⟩ v').heap[W.heap.size]? = some (.cells #[.string y.cat,.int .i64 iy,v',.slice y.gives.addr y.gives.xs.length y.gives.cap,.int .i64 y.cost] 79 (0,0)) ∧
   OwnL PartG.cells 81 3 (w'.setCell ⟨W.heap.size,2,none⟩ v') (W.heap.size+1) v' (L++[q]):=by
 have hne:some W.heap.size≠vP.ownBlock:=fun e=>by have:=(hO.lt _ e.symm).1;omega
 have hx':=(hgr.block _ (Xc hxV) hne).trans hxV
 have hB':Below W.heap.size W w':=hBV.grown hgr (by have:=hBV.size;omega) (fun j hj=>by have:=(hO.lt j hj).1;omega)
 refine⟨hx',hB'.setCell (p:=⟨W.heap.size,2,none⟩) (Nat.le_refl _) _,heap_setCell_same _ _ _ _ _ _ hx',?_⟩
 have ho:=OwnL.snoc (f:=PartG.cells) q hown
 exact ho.block fun j hj=>heap_setCell_other _ _ _ _ (by have:=(ho.lt j hj).1;show j≠W.heap.size;omega)
theorem Xqp {f:PartG→PartG} {W wr V w':World} {bx:Nat} {g:Gram} {vE vR v':Value} {R:List RuleG} {y:RuleG} {sP:SlS PartG} (h:RulR f W bx g vE vR R wr) (hget:g.rules.xs[R.length]? = some y) (hV:Below wr.heap.size wr V)
  (hs:sP.lies PartG.cells V) (hsx:sP.xs=y.parts.xs.map f) (hsa:∀ad,sP.addr=some ad→wr.heap.size≤ad.block∧ad.block<V.heap.size)
  (hown:w'.ownsRow W.heap.size 79 5 v' (R.length+1) (R.flatMap RuleG.cells++RuleG.cells ⟨y.cat,idxF y.cat g.cats.xs,sP,y.gives,y.cost⟩)) (hgr:V.grownBy w' vR.ownBlock) (hat:v'.ownBlock=vR.ownBlock∨v'.ownBlock=some V.heap.size) :
  w'.heap[bx]? = some (.cells #[.string g.name,.slice g.cats.addr g.cats.xs.length g.cats.cap,.string g.start,.int .i64 (idxF g.start g.cats.xs),vE,vR] 26 (0,0))∧RulR f W bx g vE v' (R++[⟨y.cat,idxF y.cat g.cats.xs,sP,y.gives,y.cost⟩]) (w'.setCell ⟨bx,5,none⟩ v'):=by
 obtain⟨hQ,hbx,hx,hO,hRR,hRP⟩:=h
 have hOV:=hO.ext hV
 have hlt:=hO.lt
 have hzV:=hV.size
 have hzQ:=hQ.size
 have hne:some bx≠vR.ownBlock:=fun e=>by have:=(hlt _ e.symm).1;omega
 have hxV:=Xh hV hx
 have hx':=(hgr.block _ (Xc hxV) hne).trans hxV
 have hO2:=OwnL.snoc (f:=RuleG.cells) _ hown
 refine⟨hx',⟨hgr.os.trans (hV.os.trans hQ.os),hgr.tape.trans (hV.tape.trans hQ.tape),hgr.output.trans (hV.output.trans hQ.output),?_,?_⟩,hbx,?_,?_,?_,?_⟩
 ·have:=hgr.size;show _≤(w'.heap.modify _ _).size;rw[Array.size_modify];omega
 ·intro j hj hjb
  rw[heap_setCell_other _ _ _ _ hjb]
  refine(hgr.block j (by omega) fun e=>by have:=(hlt j e.symm).1;omega).trans ((hV.block j (by omega)).trans (hQ.block j hj hjb))
 ·exact heap_setCell_same _ _ _ _ _ _ hx'
 ·exact hO2.block fun j hj=>heap_setCell_other _ _ _ _ (by have:=(hO2.lt j hj).1;show j≠bx;omega)
 ·intro i r r' h1 h2
  by_cases e:i<R.length
  ·rw[List.getElem?_append_left e] at h2
   exact hRR i r r' h1 h2
  ·rw[List.getElem?_append_right (by omega)] at h2
   have hi:i=R.length:=by
    have:=(List.getElem?_eq_some_iff.1 h2).1
    simp at this;omega
   subst hi
   rw[hget] at h1
   cases h1
   simp at h2
   subst h2
   exact⟨rfl,rfl,rfl,rfl,hsx⟩
 ·have hgz:=hgr.size
  have hsz:(w'.setCell ⟨bx,5,none⟩ v').heap.size=w'.heap.size:=by show (w'.heap.modify _ _).size=_;rw[Array.size_modify]
  have key:∀s:SlS PartG,s.lies PartG.cells V→(∀ad,s.addr=some ad→W.heap.size≤ad.block∧some ad.block≠vR.ownBlock∧ad.block<V.heap.size)→s.lies PartG.cells (w'.setCell ⟨bx,5,none⟩ v')∧∀ad,s.addr=some ad→W.heap.size≤ad.block∧some ad.block≠v'.ownBlock∧ad.block<(w'.setCell ⟨bx,5,none⟩ v').heap.size:=by
   intro s h1 h2
   refine⟨h1.block (fun ad had=>?_) (by omega),fun ad had=>?_⟩
   ·obtain⟨a1,a2,a3⟩:=h2 ad had
    rw[heap_setCell_other _ _ _ _ (show ad.block≠bx by omega)]
    exact hgr.block _ a3 a2
   ·obtain⟨a1,a2,a3⟩:=h2 ad had
    refine⟨a1,?_,by omega⟩
    rcases hat with e|e
    ·rw[e];exact a2
    ·rw[e];intro e2;have e3:=Option.some.inj e2;omega
  intro r' hr'
  rcases List.mem_append.1 hr' with hr'|hr'
  ·obtain⟨h1,h2⟩:=hRP r' hr'
   exact key _ (h1.ext hV) fun ad had=>by obtain⟨a1,a2,a3⟩:=h2 ad had;exact⟨a1,a2,by omega⟩
  ·rw[List.mem_singleton.1 hr']
   exact key sP hs fun ad had=>by
    obtain⟨a1,a2⟩:=hsa ad had
    exact⟨by omega,fun e=>by have:=(hlt _ e.symm).2;omega,a2⟩
set_option maxHeartbeats 4000000 in
theorem Xgd (g:Gram) (w:World) (hg:g.lies w):Calls Tryz.prog 176 #[.agg #[.string g.name,.slice g.cats.addr g.cats.xs.length g.cats.cap,.string g.start,.int .i64 g.startNo,.slice g.entries.addr g.entries.xs.length g.entries.cap,.slice g.rules.addr g.rules.xs.length g.rules.cap]] w (Xd9 Um g w):=by
 obtain⟨W1,hW1⟩:∃W1,(w.alloc (.cells #[.string g.name,.slice g.cats.addr g.cats.xs.length g.cats.cap,.string g.start,.int .i64 g.startNo,.slice g.entries.addr g.entries.xs.length g.entries.cap,.slice g.rules.addr g.rules.xs.length g.rules.cap] 26)).alloc (.cells #[.string ⟨#[]⟩,.slice none 0 0,.string ⟨#[]⟩,.int .i64 0,.slice none 0 0,.slice none 0 0] 26)=W1:=⟨_,rfl⟩
 have hB1:Below w.heap.size w W1:=by subst hW1;exact Xe (Xe (Below.refl _ _) _) _
 have hk:W1.heap[w.heap.size]? = some (.cells #[.string g.name,.slice g.cats.addr g.cats.xs.length g.cats.cap,.string g.start,.int .i64 g.startNo,.slice g.entries.addr g.entries.xs.length g.entries.cap,.slice g.rules.addr g.rules.xs.length g.rules.cap] 26 (0,0)):=by subst hW1;exact(Below.heap_alloc _ _ _ (by simp)).trans (World.alloc_heap_new _ _)
 have hk2:W1.heap[w.heap.size+1]? = some (.cells #[.string ⟨#[]⟩,.slice none 0 0,.string ⟨#[]⟩,.int .i64 0,.slice none 0 0,.slice none 0 0] 26 (0,0)):=by subst hW1;have:=World.alloc_heap_new (w.alloc (.cells #[.string g.name,.slice g.cats.addr g.cats.xs.length g.cats.cap,.string g.start,.int .i64 g.startNo,.slice g.entries.addr g.entries.xs.length g.entries.cap,.slice g.rules.addr g.rules.xs.length g.rules.cap] 26)) (.cells #[.string ⟨#[]⟩,.slice none 0 0,.string ⟨#[]⟩,.int .i64 0,.slice none 0 0,.slice none 0 0] 26);rwa [World.size_alloc] at this
 have HG:=Xa (hg.ext hB1)
 have hm1:g.cats.xs.length≤9223372036854775807:=Nat.le_trans hg.cats.cap hg.cats.max
 have hm2:g.entries.xs.length≤9223372036854775807:=Nat.le_trans hg.entries.cap hg.entries.max
 have hm3:g.rules.xs.length≤9223372036854775807:=Nat.le_trans hg.rules.cap hg.rules.max
 obtain⟨c0,c1,c2,c3,c4,c5⟩:=gb6 hk
 have Hk:=Xa hk
 have Hk2:=Xa hk2
 have HRG:Hid (resG g=if bigB g then 2 else if !Xz g then 260 else if Vm g then 261 else 0):=rfl
 have HBB:Hid (bigB g=(decide (32<g.cats.xs.length) || decide (512<g.entries.xs.length) || decide (128<g.rules.xs.length))):=rfl
 have Hg0:=Xa hg
 clear hg hk
 by_cases hbig:bigB g=true
 ·have hr2:Hid (resG g=2):=by show _=_;rw[HRG.out,if_pos hbig]
  have hbb:=HBB.out
  rw[hbig] at hbb
  obtain⟨Wz,hWz⟩:∃Wz,((((((W1.setCell ⟨w.heap.size+1,0,none⟩ (.string ⟨#[]⟩)).setCell ⟨w.heap.size+1,1,none⟩ (.slice none 0 0)).setCell ⟨w.heap.size+1,2,none⟩ (.string ⟨#[]⟩)).setCell ⟨w.heap.size+1,3,none⟩ (.int .i64 0)).setCell ⟨w.heap.size+1,4,none⟩ (.slice none 0 0)).setCell ⟨w.heap.size+1,5,none⟩ (.slice none 0 0))=Wz:=⟨_,rfl⟩
  have hkz:Wz.heap[w.heap.size+1]? = some (.cells #[.string ⟨#[]⟩,.slice none 0 0,.string ⟨#[]⟩,.int .i64 0,.slice none 0 0,.slice none 0 0] 26 (0,0)):=by subst hWz;exact st6 hk2
  have HBz:Hid (Below w.heap.size w Wz):=by subst hWz;exact Vh hB1 (by omega)
  have f0:=Xf hk2 0
  have f1:=Xf hk2 1
  have f2:=Xf hk2 2
  have f3:=Xf hk2 3
  have f4:=Xf hk2 4
  have f5:=Xf hk2 5
  obtain⟨e0,e1,e2,e3,e4,e5⟩:=gb6 hk2
  obtain⟨z0,z1,z2,z3,z4,z5⟩:=gb6 hkz
  clear hbig HBB HRG hk2 hkz
  by_cases q1:(32:Int)<(g.cats.xs.length:Int)
  ·clear hbb
   go_enter Tryz.func176,Tryz.ntmps176
   go_wp2_with fail
   refine bodyPost_ret (v:=.tuple #[.agg #[.string ⟨#[]⟩,.slice none 0 0,.string ⟨#[]⟩,.int .i64 0,.slice none 0 0,.slice none 0 0],.int .i64 2]) ?_ rfl ?_
   ·simp[results,Tryz.results176,go_sem,z0,z1,z2,z3,z4,z5]
   ·exact⟨Xal,by rw[hr2.out];rfl,HBz.out,fun h=>by rw[hr2.out] at h;cases h⟩
  ·by_cases q2:(512:Int)<(g.entries.xs.length:Int)
   ·clear hbb
    go_enter Tryz.func176,Tryz.ntmps176
    go_wp2_with fail
    refine bodyPost_ret (v:=.tuple #[.agg #[.string ⟨#[]⟩,.slice none 0 0,.string ⟨#[]⟩,.int .i64 0,.slice none 0 0,.slice none 0 0],.int .i64 2]) ?_ rfl ?_
    ·simp[results,Tryz.results176,go_sem,z0,z1,z2,z3,z4,z5]
    ·exact⟨Xal,by rw[hr2.out];rfl,HBz.out,fun h=>by rw[hr2.out] at h;cases h⟩
   ·have q3:(128:Int)<(g.rules.xs.length:Int):=by
     have:=hbb.symm
     simp only[Bool.or_eq_true,decide_eq_true_eq] at this
     omega
    clear hbb
    go_enter Tryz.func176,Tryz.ntmps176
    go_wp2_with fail
    refine bodyPost_ret (v:=.tuple #[.agg #[.string ⟨#[]⟩,.slice none 0 0,.string ⟨#[]⟩,.int .i64 0,.slice none 0 0,.slice none 0 0],.int .i64 2]) ?_ rfl ?_
    ·simp[results,Tryz.results176,go_sem,z0,z1,z2,z3,z4,z5]
    ·exact⟨Xal,by rw[hr2.out];rfl,HBz.out,fun h=>by rw[hr2.out] at h;cases h⟩
 ·have hbf:bigB g=false:=by simpa using hbig
  have hbb:=HBB.out
  rw[hbf] at hbb
  have hbb2:=hbb.symm
  simp only[Bool.or_eq_false_iff,decide_eq_false_iff_not,Nat.not_lt] at hbb2
  obtain⟨⟨b1,b2⟩,b3⟩:=hbb2
  have q1:¬(32:Int)<(g.cats.xs.length:Int):=by omega
  have q2:¬(512:Int)<(g.entries.xs.length:Int):=by omega
  have q3:¬(128:Int)<(g.rules.xs.length:Int):=by omega
  have HR1:Hid (resG g=if !Xz g then 260 else if Vm g then 261 else 0):=by show _=_;rw[HRG.out,hbf];rfl
  have cT:=Xa (Xh4 g W1 HG.out)
  clear hbig hbf hbb HBB HRG hk2
  go_enter Tryz.func176,Tryz.ntmps176
  go_wp2_with fail
  refine cT.out.mono ?_
  rintro e w2 ⟨rfl,hb2⟩
  have hB2:=Xb hB1 hb2
  have hk2:=Xh hb2 Hk2.out
  cases hty:Xz g
  ·have hr2:Hid (resG g=260):=by show _=_;rw[HR1.out,hty];rfl
   obtain⟨Wz,hWz⟩:∃Wz,((((((w2.setCell ⟨w.heap.size+1,0,none⟩ (.string ⟨#[]⟩)).setCell ⟨w.heap.size+1,1,none⟩ (.slice none 0 0)).setCell ⟨w.heap.size+1,2,none⟩ (.string ⟨#[]⟩)).setCell ⟨w.heap.size+1,3,none⟩ (.int .i64 0)).setCell ⟨w.heap.size+1,4,none⟩ (.slice none 0 0)).setCell ⟨w.heap.size+1,5,none⟩ (.slice none 0 0))=Wz:=⟨_,rfl⟩
   have hkz:Wz.heap[w.heap.size+1]? = some (.cells #[.string ⟨#[]⟩,.slice none 0 0,.string ⟨#[]⟩,.int .i64 0,.slice none 0 0,.slice none 0 0] 26 (0,0)):=by subst hWz;exact st6 hk2
   have HBz:Hid (Below w.heap.size w Wz):=by subst hWz;exact Vh hB2 (by omega)
   have f0:=Xf hk2 0
   have f1:=Xf hk2 1
   have f2:=Xf hk2 2
   have f3:=Xf hk2 3
   have f4:=Xf hk2 4
   have f5:=Xf hk2 5
   obtain⟨e0,e1,e2,e3,e4,e5⟩:=gb6 hk2
   obtain⟨z0,z1,z2,z3,z4,z5⟩:=gb6 hkz
   clear hty hk2 hkz
   go_wp2_with fail
   refine bodyPost_ret (v:=.tuple #[.agg #[.string ⟨#[]⟩,.slice none 0 0,.string ⟨#[]⟩,.int .i64 0,.slice none 0 0,.slice none 0 0],.int .i64 260]) ?_ rfl ?_
   ·simp[results,Tryz.results176,go_sem,z0,z1,z2,z3,z4,z5]
   ·exact⟨Xal,by rw[hr2.out];rfl,HBz.out,fun h=>by rw[hr2.out] at h;cases h⟩
  have HR2:Hid (resG g=if Vm g then 261 else 0):=by show _=_;rw[HR1.out,hty];rfl
  have Hty:=Xa hty
  have Hcl:=Xa (Xke hty)
  have HG2:=Xa (HG.out.ext hb2)
  have Hk3:=Xa (Xh hb2 Hk.out)
  have Hk4:=Xa hk2
  clear hty HR1 q1 q2 q3 c0 c1 c2 c3 c4 c5 hk2 hW1 cT HG Hk Hk2
  go_wp2_with fail
  go_loopw [4] (fun i wr=>∃k:Nat,k≤g.cats.xs.length∧i = .int .i64 k∧Below w2.heap.size w2 wr∧Hid (∀(i:Nat) c,i<k→g.cats.xs[i]? = some c→¬Leads (Y2 g.rules.xs) c c)) (fun i _=>g.cats.xs.length-(intOf i).toNat)
  case atStart=>exact⟨0,Nat.zero_le _,rfl,Below.refl _ _,fun i c h=>by omega⟩
  case round =>
   obtain⟨k,hk,rfl,hB,HT⟩:=hrel
   have hBw:=Xb hB2 hB
   have hkg:=Xh hB Hk3.out
   have hkz2:=Xh hB Hk4.out
   have d1:wr.cell? ⟨w.heap.size,1,none⟩=some (.slice g.cats.addr g.cats.xs.length g.cats.cap):=gblk hkg 1
   by_cases hlt:k<g.cats.xs.length
   ·obtain⟨b,off,hA,hb,hc⟩:=StrS.at_ HG2.out.cats (k:=k) hlt
    have e0:wr.cell? ⟨b,off+k,none⟩=some (.string g.cats.xs[k]):=(hB.cell (p:=⟨b,off+k,none⟩) hb).trans (hc k hlt)
    have hget:g.cats.xs[k]? = some g.cats.xs[k]:=List.getElem?_eq_getElem hlt
    have HT2:Hid (¬Leads (Y2 g.rules.xs) g.cats.xs[k] g.cats.xs[k]→∀(i:Nat) c,i<k+1→g.cats.xs[i]? = some c→¬Leads (Y2 g.rules.xs) c c):=by
     intro h i c hi hc
     by_cases e:i<k
     ·exact HT.out i c e hc
     ·obtain rfl:i=k:=by omega
      rw[hget] at hc;cases hc
      exact h
    have HF2:Hid (Leads (Y2 g.rules.xs) g.cats.xs[k] g.cats.xs[k]→resG g=261):=fun h=>by rw[HR2.out,if_pos (Hcl.out.2 ⟨k,_,hget,h⟩)]
    have cR:=Xa (fun V (hV:Below wr.heap.size wr V)=>Xjn g g.cats.xs[k] V (HG2.out.ext (Xb hB hV)) b3)
    have Hkz2:=Xa hkz2
    have hgc:(.slice g.cats.addr g.cats.xs.length g.cats.cap:Value) = .slice (some ⟨b,off,none⟩) g.cats.xs.length g.cats.cap:=by rw[hA]
    have HK:Hid (∀V,Below wr.heap.size wr V→Below wr.heap.size wr V∧V.cell? ⟨w.heap.size,0,none⟩=some (.string g.name)∧V.cell? ⟨w.heap.size,1,none⟩=some (.slice (some ⟨b,off,none⟩) g.cats.xs.length g.cats.cap)∧V.cell? ⟨w.heap.size,2,none⟩=some (.string g.start)∧V.cell? ⟨w.heap.size,3,none⟩=some (.int .i64 g.startNo)∧V.cell? ⟨w.heap.size,4,none⟩=some (.slice g.entries.addr g.entries.xs.length g.entries.cap)∧V.cell? ⟨w.heap.size,5,none⟩=some (.slice g.rules.addr g.rules.xs.length g.rules.cap)∧V.cell? ⟨b,off+k,none⟩=some (.string g.cats.xs[k])):=fun V hV=>by
     have h1:=Xh hV hkg
     rw[hgc] at h1
     exact⟨hV,gblk h1 0,gblk h1 1,gblk h1 2,gblk h1 3,gblk h1 4,gblk h1 5,(hV.cell (p:=⟨b,off+k,none⟩) (Ug e0)).trans e0⟩
    have c0:=HK.out wr (Below.refl _ _)
    rw[hA] at d1 cR ⊢
    have HB2:=Xa hB
    clear hc hA HT hget hkg hkz2 hB hgc
    generalize g.cats.xs[k]=y at *
    go_wp2_with fail
    clear c0 e0 d1
    go_region_held3 (fun V=>Below wr.heap.size wr V∧V.cell? ⟨w.heap.size,0,none⟩=some (.string g.name)∧V.cell? ⟨w.heap.size,1,none⟩=some (.slice (some ⟨b,off,none⟩) g.cats.xs.length g.cats.cap)∧V.cell? ⟨w.heap.size,2,none⟩=some (.string g.start)∧V.cell? ⟨w.heap.size,3,none⟩=some (.int .i64 g.startNo)∧V.cell? ⟨w.heap.size,4,none⟩=some (.slice g.entries.addr g.entries.xs.length g.entries.cap)∧V.cell? ⟨w.heap.size,5,none⟩=some (.slice g.rules.addr g.rules.xs.length g.rules.cap)∧V.cell? ⟨b,off+k,none⟩=some (.string y))
     ((exact HK.out _ (by first|assumption|exact Below.refl _ _|exact Xi (Below.refl _ _)|exact Xb (by assumption) (by assumption)|exact Xb (Xi (Below.refl _ _)) (by assumption))))
     (first|(go_at_call 215;refine(cR.out _ (by first|assumption|exact Below.refl _ _|exact Xi (Below.refl _ _))).mono ?_;rintro e w3 ⟨s,rfl,hs,hm,hb3⟩;have hB3:Below wr.heap.size wr w3:=(by first|exact Xb (Xi (Below.refl _ _)) hb3|exact Xb (by assumption) hb3))|(go_at_call 32;refine(Zb s y _ (by assumption)).mono ?_;rintro e w4 ⟨rfl,rfl⟩))
    have hBw3:=Xb hBw hB3
    have hkr3:=Xh hB3 Hkz2.out
    by_cases hl:0≤idxF y s.xs
    ·have hr2:=Xa (HF2.out ((hm y).1 ((Vo y s.xs).1 hl)))
     obtain⟨Wz,hWz⟩:∃Wz,((((((w3.setCell ⟨w.heap.size+1,0,none⟩ (.string ⟨#[]⟩)).setCell ⟨w.heap.size+1,1,none⟩ (.slice none 0 0)).setCell ⟨w.heap.size+1,2,none⟩ (.string ⟨#[]⟩)).setCell ⟨w.heap.size+1,3,none⟩ (.int .i64 0)).setCell ⟨w.heap.size+1,4,none⟩ (.slice none 0 0)).setCell ⟨w.heap.size+1,5,none⟩ (.slice none 0 0))=Wz:=⟨_,rfl⟩
     have hkz:Wz.heap[w.heap.size+1]? = some (.cells #[.string ⟨#[]⟩,.slice none 0 0,.string ⟨#[]⟩,.int .i64 0,.slice none 0 0,.slice none 0 0] 26 (0,0)):=by subst hWz;exact st6 hkr3
     have HBz:Hid (Below w.heap.size w Wz):=by subst hWz;exact Vh hBw3 (by omega)
     have f0:=Xf hkr3 0
     have f1:=Xf hkr3 1
     have f2:=Xf hkr3 2
     have f3:=Xf hkr3 3
     have f4:=Xf hkr3 4
     have f5:=Xf hkr3 5
     obtain⟨e0,e1,e2,e3,e4,e5⟩:=gb6 hkr3
     obtain⟨z0,z1,z2,z3,z4,z5⟩:=gb6 hkz
     have g1:idxF y s.xs≥0:=hl
     clear hkz hkr3 HF2 HT2 hm hs
     go_wp2_with fail
     refine bodyPost_ret (v:=.tuple #[.agg #[.string ⟨#[]⟩,.slice none 0 0,.string ⟨#[]⟩,.int .i64 0,.slice none 0 0,.slice none 0 0],.int .i64 261]) ?_ rfl ?_
     ·simp[results,Tryz.results176,go_sem,z0,z1,z2,z3,z4,z5]
     ·exact⟨Xal,by rw[hr2.out];rfl,HBz.out,fun h=>by rw[hr2.out] at h;cases h⟩
    ·have HT3:=Xa (HT2.out (fun h=>hl ((Vo y s.xs).2 ((hm y).2 h))))
     have hB4:=Xb HB2.out hB3
     have g1:¬idxF y s.xs≥0:=hl
     clear hkr3 HF2 HT2 hm hs
     go_wp2_with fail
     go_roundw
     case rel=>exact⟨k+1,by omega,by go_num,hB4,HT3⟩
     case measure=>simp[intOf];omega
   ·have HN:Hid (resG g=0):=by
     show _=_
     rw[HR2.out]
     cases hc:Vm g
     ·rfl
     ·exfalso
      obtain⟨i,c,hi,hl⟩:=Hcl.out.1 hc
      exact HT.out i c (by have:=(List.getElem?_eq_some_iff.1 hi).1;omega) hi hl
    obtain⟨c0,c1,c2,c3,c4,c5⟩:=gb6 hkg
    obtain⟨Wa,hWa⟩:∃Wa,wr.alloc (.cells #[.string g.name,.slice g.cats.addr g.cats.xs.length g.cats.cap,.string g.start,.int .i64 g.startNo,.slice g.entries.addr g.entries.xs.length g.entries.cap,.slice g.rules.addr g.rules.xs.length g.rules.cap] 26)=Wa:=⟨_,rfl⟩
    have hba:Below wr.heap.size wr Wa:=by subst hWa;exact Xe (Below.refl _ _) _
    have hka:Wa.heap[wr.heap.size]? = some (.cells #[.string g.name,.slice g.cats.addr g.cats.xs.length g.cats.cap,.string g.start,.int .i64 g.startNo,.slice g.entries.addr g.entries.xs.length g.entries.cap,.slice g.rules.addr g.rules.xs.length g.rules.cap] 26 (0,0)):=by subst hWa;exact World.alloc_heap_new _ _
    have cI:=Xa (Zb g.cats g.start Wa (HG2.out.cats.ext (Xb hB hba)))
    obtain⟨Wb,hWb⟩:∃Wb,((Wa.setCell ⟨wr.heap.size,3,none⟩ (.int .i64 (idxF g.start g.cats.xs))).setCell ⟨wr.heap.size,4,none⟩ (.slice none 0 0)).setCell ⟨wr.heap.size,5,none⟩ (.slice none 0 0)=Wb:=⟨_,rfl⟩
    have hkb:Wb.heap[wr.heap.size]? = some (.cells #[.string g.name,.slice g.cats.addr g.cats.xs.length g.cats.cap,.string g.start,.int .i64 (idxF g.start g.cats.xs),.slice none 0 0,.slice none 0 0] 26 (0,0)):=by
     subst hWb
     exact heap_setCell_same _ _ _ _ _ _ (heap_setCell_same _ _ _ _ _ _ (heap_setCell_same _ _ _ _ _ _ hka))
    have hbb:Below wr.heap.size wr Wb:=by
     subst hWb
     exact((hba.setCell (p:=⟨wr.heap.size,3,none⟩) (Nat.le_refl _) _).setCell (p:=⟨wr.heap.size,4,none⟩) (Nat.le_refl _) _).setCell (p:=⟨wr.heap.size,5,none⟩) (Nat.le_refl _) _
    have HI0:Hid (ResI wr g [] (.slice none 0 0) (.slice none 0 0) Wb):=⟨hkb,OwnL.nil _ _ _ _ _,hbb⟩
    have hf3:=Xf hka 3
    have hf4:=Xf hka 4
    have hf5:=Xf hka 5
    obtain⟨x0,x1,x2,x3,x4,x5⟩:=gb6 hka
    have y1:=(hba.cell (p:=⟨w.heap.size,1,none⟩) (Xc hkg)).trans c1
    have y2:=(hba.cell (p:=⟨w.heap.size,2,none⟩) (Xc hkg)).trans c2
    have Hkg:=Xa hkg
    have Hkz:=Xa hkz2
    have HGr:=Xa (HG2.out.ext hB)
    have HBr:=Xa hBw
    clear HT HR2 Hcl hka hkb hba hbb hkg hkz2 HG2 Hk3 Hk4 hB hBw
    generalize hix:idxF g.start g.cats.xs=ix at *
    go_wp2_with fail
    refine cI.out.mono ?_
    rintro e w' ⟨rfl,rfl⟩
    go_wp2_with fail
    clear hWa hWb x0 x1 x2 x3 x4 x5 y1 y2 c0 c1 c2 c3 c4 c5 hf3 hf4 hf5 cI
    obtain⟨w5,hw5⟩:∃w5,w5=wr:=⟨_,rfl⟩
    subst hw5
    subst hix
    obtain⟨ie,ze,hie,ize,izs,ise,ibe⟩:=Xas Xix
    go_loopw [6] (fun i wr=>∃(k:Nat) (vE:Value),k≤g.entries.xs.length∧i = .int .i64 k∧ResI w5 g ((g.entries.xs.take k).map (Z0 g.cats.xs)) vE (.slice none 0 0) wr) (fun i _=>g.entries.xs.length-(intOf i).toNat)
    case atStart=>exact⟨0,_,Nat.zero_le _,rfl,HI0.out⟩
    case round =>
     obtain⟨k,vE,hk,rfl,hI⟩:=hrel
     obtain⟨hx,hE,hB⟩:=hI
     have hkg:=Xh hB Hkg.out
     have d1:wr.cell? ⟨w.heap.size,1,none⟩=some (.slice g.cats.addr g.cats.xs.length g.cats.cap):=gblk hkg 1
     have d4:wr.cell? ⟨w.heap.size,4,none⟩=some (.slice g.entries.addr g.entries.xs.length g.entries.cap):=gblk hkg 4
     by_cases hlt:k<g.entries.xs.length
     ·obtain⟨b,off,hA,hb,hc⟩:=HGr.out.entries.at_ EntryG.size_cells (by omega) hlt
      have t0:wr.cell? ⟨b,off+k*5,none⟩=some (.string g.entries.xs[k].text):=hc k hlt wr hB 0 _ rfl
      have t1:wr.cell? ⟨b,off+k*5+1,none⟩=some (.string g.entries.xs[k].cat):=hc k hlt wr hB 1 _ rfl
      have t2:wr.cell? ⟨b,off+k*5+2,none⟩=some (.int .i64 g.entries.xs[k].no):=hc k hlt wr hB 2 _ rfl
      have t3:wr.cell? ⟨b,off+k*5+3,none⟩=some (.slice g.entries.xs[k].gives.addr g.entries.xs[k].gives.xs.length g.entries.xs[k].gives.cap):=hc k hlt wr hB 3 _ rfl
      have t4:wr.cell? ⟨b,off+k*5+4,none⟩=some (.int .i64 g.entries.xs[k].cost):=hc k hlt wr hB 4 _ rfl
      have htk:g.entries.xs.take (k+1)=g.entries.xs.take k++[g.entries.xs[k]]:=List.take_succ_eq_append_getElem hlt
      have Htk:Hid ((g.entries.xs.take (k+1)).map (Z0 g.cats.xs)=(g.entries.xs.take k).map (Z0 g.cats.xs)++[Z0 g.cats.xs g.entries.xs[k]]):=by show _=_;rw[htk,List.map_append];rfl
      have hle:((g.entries.xs.take k).map (Z0 g.cats.xs)).length≤512:=by rw[List.length_map,List.length_take];omega
      have hlr:(Z0 g.cats.xs g.entries.xs[k])=⟨g.entries.xs[k].text,g.entries.xs[k].cat,idxF g.entries.xs[k].cat g.cats.xs,g.entries.xs[k].gives,g.entries.xs[k].cost⟩:=rfl
      rw[hlr] at Htk
      rw[hA] at d4 ⊢
      clear hc hA htk hlr
      generalize g.entries.xs[k]=y at *
      generalize (g.entries.xs.take k).map (Z0 g.cats.xs)=EL at *
      obtain⟨W2,hW2⟩:∃W2,wr.alloc (.cells #[.string y.text,.string y.cat,.int .i64 y.no,.slice y.gives.addr y.gives.xs.length y.gives.cap,.int .i64 y.cost] 60)=W2:=⟨_,rfl⟩
      have hb2:Below wr.heap.size wr W2:=by subst hW2;exact Xe (Below.refl _ _) _
      have hk2:W2.heap[wr.heap.size]? = some (.cells #[.string y.text,.string y.cat,.int .i64 y.no,.slice y.gives.addr y.gives.xs.length y.gives.cap,.int .i64 y.cost] 60 (0,0)):=by subst hW2;exact World.alloc_heap_new _ _
      have cJ:=Xa (Zb g.cats y.cat W2 (HGr.out.cats.ext (Xb hB hb2)))
      obtain⟨W3,hW3⟩:∃W3,W2.setCell ⟨wr.heap.size,2,none⟩ (.int .i64 (idxF y.cat g.cats.xs))=W3:=⟨_,rfl⟩
      have hk3:W3.heap[wr.heap.size]? = some (.cells #[.string y.text,.string y.cat,.int .i64 (idxF y.cat g.cats.xs),.slice y.gives.addr y.gives.xs.length y.gives.cap,.int .i64 y.cost] 60 (0,0)):=by subst hW3;exact heap_setCell_same _ _ _ _ _ _ hk2
      have hb3:Below wr.heap.size wr W3:=by subst hW3;exact hb2.setCell (p:=⟨wr.heap.size,2,none⟩) (Nat.le_refl _) _
      generalize idxF y.cat g.cats.xs=iy at *
      obtain⟨W4,hW4⟩:∃W4,W3.alloc (.cells #[.string y.text,.string y.cat,.int .i64 iy,.slice y.gives.addr y.gives.xs.length y.gives.cap,.int .i64 y.cost] 60)=W4:=⟨_,rfl⟩
      have hb4:Below wr.heap.size wr W4:=by subst hW4;exact Xb hb3 (Xe (Below.refl _ _) _)
      have hk4:W4.heap[W3.heap.size]? = some (.cells #[.string y.text,.string y.cat,.int .i64 iy,.slice y.gives.addr y.gives.xs.length y.gives.cap,.int .i64 y.cost] 60 (0,0)):=by subst hW4;exact World.alloc_heap_new _ _
      obtain⟨A1,A2⟩:EL.length+1≤maxLen∧(EL.length+1)*72≤140737488355328:=by simp only[maxLen];omega
      have hxl:=Xc hx
      have hx3:=(hb3.block _ hxl).trans hx
      have hx4:=(hb4.block _ hxl).trans hx
      have hE4:=hE.ext hb4
      have HN:Hid (∀v' w',w'.ownsRow (w5.heap.size+1) 60 5 v' (EL.length+1) (EL.flatMap EntryG.cells++EntryG.cells ⟨y.text,y.cat,iy,y.gives,y.cost⟩)→W4.grownBy w' vE.ownBlock →
        w'.heap[w5.heap.size]? = some (.cells #[.string g.name,.slice g.cats.addr g.cats.xs.length g.cats.cap,.string g.start,.int .i64 (idxF g.start g.cats.xs),vE,.slice none 0 0] 26 (0,0))∧ResI w5 g (EL++[⟨y.text,y.cat,iy,y.gives,y.cost⟩]) v' (.slice none 0 0) (w'.setCell ⟨w5.heap.size,4,none⟩ v')):=by
       intro v' w' hown hgr
       have hne:some w5.heap.size≠vE.ownBlock:=fun e=>by have:=(hE.lt _ e.symm).1;omega
       have hx':=(hgr.block _ (by have:=Xc hx4;exact this) hne).trans hx4
       have hB':Below w5.heap.size w5 w':=(Xb hB hb4).grown hgr (by have:=hB.size;have:=hb4.size;omega) (fun j hj=>by have:=(hE.lt j hj).1;omega)
       refine⟨hx',?_,?_,hB'.setCell (p:=⟨w5.heap.size,4,none⟩) (Nat.le_refl _) _⟩
       ·exact heap_setCell_same _ _ _ _ _ _ hx'
       ·have ho:=OwnL.snoc (f:=EntryG.cells) ⟨y.text,y.cat,iy,y.gives,y.cost⟩ hown
        exact ho.block fun j hj=>heap_setCell_other _ _ _ _ (by have:=(ho.lt j hj).1;show j≠w5.heap.size;omega)
      have f2:=Xf hk2 2
      obtain⟨u0,u1,u2,u3,u4⟩:=gb5 hk2
      obtain⟨v0,v1,v2,v3,v4⟩:=gb5 hk3
      have x4:W3.cell? ⟨w5.heap.size,4,none⟩=some vE:=gblk hx3 4
      have d1b:=(hb2.cell (p:=⟨w.heap.size,1,none⟩) (Xc hkg)).trans d1
      have HE4:=Xa hE4
      have Hk4b:=Xa hk4
      have Hz4:Hid (w5.heap.size+1≤W4.heap.size):=by show _≤_;have:=hB.size;have:=hb4.size;omega
      clear hE hE4 hx hx3 hx4 hk2 hk3 hk4 hb2 hb3 hb4 hkg hB hxl
      go_wp2_with fail
      refine cJ.out.mono ?_
      rintro e w' ⟨rfl,rfl⟩
      clear cJ hW2 d4
      go_wp2_with (at_builtin;refine Ue rfl _ _ 23 rfl (w5.heap.size+1) 60 ie ze 5 72 Tryz.underlying23 hie ize ise ibe izs (by decide) _ _ _ rfl (some ⟨W3.heap.size,0,none⟩) 1 1 (EntryG.cells ⟨y.text,y.cat,iy,y.gives,y.cost⟩) rfl HE4.out rfl (Yw Hk4b.out rfl) (Xmg _) A1 A2 Hz4.out ?_;intro v6 w6 hown6 hgrow6 _;obtain⟨A6,c6,rfl,_⟩:=Q9 hown6;have hN:=HN.out _ w6 hown6 hgrow6;have HN2:=Xa hN.2;have y4:=gblk hN.1 4;have z4:=Xf hN.1 4;clear hN hown6 hgrow6)
      have hlr2:=HN2.out
      rw[← Htk.out] at hlr2
      have HN3:=Xa hlr2
      clear HN2 hlr2 HN y4 z4 u0 u1 u2 u3 u4 v0 v1 v2 v3 v4 x4 d1b f2
      go_roundw
      case rel=>exact⟨k+1,_,by omega,by go_num,HN3.out⟩
      case measure=>simp[intOf];omega
     ·obtain rfl:k=g.entries.xs.length:=by omega
      rw[List.take_length] at hE
      have HI1:Hid (ResI w5 g (g.entries.xs.map (Z0 g.cats.xs)) vE (.slice none 0 0) wr):=⟨hx,hE,hB⟩
      have HR0:Hid (RulR (Um g.cats.xs) wr w5.heap.size g vE (.slice none 0 0) [] wr) :=
       ⟨⟨rfl,rfl,rfl,Nat.le_refl _,fun _ _ _=>rfl⟩,Xc hx,hx,OwnL.nil _ _ _ _ _,fun i r r' _ h=>by simp at h,fun r' h=>by cases h⟩
      clear hE hx hB hkg d1
      go_wp2_with fail
      obtain⟨w6,hw6⟩:∃w6,w6=wr:=⟨_,rfl⟩
      subst hw6
      have hxz:Hid (w5.heap.size<w6.heap.size):=HR0.out.lt
      have HBm:=Xa HI1.out.below
      obtain⟨ir,zr,hir,irz,irs,isr,ibr⟩:=Xas Xi0
      obtain⟨ip,zp,hip,ipz,ips,isp,ibp⟩:=Xas Xiz
      go_loopw [8] (fun i wr=>∃(k:Nat) (vR:Value) (R:List RuleG),k≤g.rules.xs.length∧i = .int .i64 k∧R.length=k∧RulR (Um g.cats.xs) w6 w5.heap.size g vE vR R wr) (fun i _=>g.rules.xs.length-(intOf i).toNat)
      case atStart=>exact⟨0,_,[],Nat.zero_le _,rfl,rfl,HR0.out⟩
      case round =>
       clear hk hlt
       obtain⟨k,vR,R,hk,rfl,hRl,hRul⟩:=hrel
       have HRul:=Xa hRul
       obtain⟨hQ,hxl,hx,hO,hRR,hRP⟩:=hRul
       rename World=>wr
       have hB:=hQ.below HBm.out (Nat.le_refl _)
       have hkg:=Xh hB Hkg.out
       have d1:wr.cell? ⟨w.heap.size,1,none⟩=some (.slice g.cats.addr g.cats.xs.length g.cats.cap):=gblk hkg 1
       have d5:wr.cell? ⟨w.heap.size,5,none⟩=some (.slice g.rules.addr g.rules.xs.length g.rules.cap):=gblk hkg 5
       by_cases hlt:k<g.rules.xs.length
       ·obtain⟨b,off,hA,hb,hc⟩:=HGr.out.rules.at_ RuleG.size_cells (by omega) hlt
        have t0:wr.cell? ⟨b,off+k*5,none⟩=some (.string g.rules.xs[k].cat):=hc k hlt wr hB 0 _ rfl
        have t1:wr.cell? ⟨b,off+k*5+1,none⟩=some (.int .i64 g.rules.xs[k].no):=hc k hlt wr hB 1 _ rfl
        have t2:wr.cell? ⟨b,off+k*5+2,none⟩=some (.slice g.rules.xs[k].parts.addr g.rules.xs[k].parts.xs.length g.rules.xs[k].parts.cap):=hc k hlt wr hB 2 _ rfl
        have t3:wr.cell? ⟨b,off+k*5+3,none⟩=some (.slice g.rules.xs[k].gives.addr g.rules.xs[k].gives.xs.length g.rules.xs[k].gives.cap):=hc k hlt wr hB 3 _ rfl
        have t4:wr.cell? ⟨b,off+k*5+4,none⟩=some (.int .i64 g.rules.xs[k].cost):=hc k hlt wr hB 4 _ rfl
        have hget:g.rules.xs[k]? = some g.rules.xs[k]:=List.getElem?_eq_getElem hlt
        have Hrl:=Xa (HGr.out.rule _ (List.getElem_mem hlt))
        have hp4:=Xhh Hty.out (List.getElem_mem hlt)
        rw[hA] at d5 ⊢
        have Hget2:Hid (g.rules.xs[R.length]? = some g.rules.xs[k]):=by show _=_;rw[hRl];exact hget
        have HRl:=Xa hRl
        clear hc hA hQ hO hRl hRR hRP hx
        generalize g.rules.xs[k]=y at *
        obtain⟨W2,hW2⟩:∃W2,wr.alloc (.cells #[.string y.cat,.int .i64 y.no,.slice y.parts.addr y.parts.xs.length y.parts.cap,.slice y.gives.addr y.gives.xs.length y.gives.cap,.int .i64 y.cost] 79)=W2:=⟨_,rfl⟩
        have hb2:Below wr.heap.size wr W2:=by subst hW2;exact Xe (Below.refl _ _) _
        have hk2:W2.heap[wr.heap.size]? = some (.cells #[.string y.cat,.int .i64 y.no,.slice y.parts.addr y.parts.xs.length y.parts.cap,.slice y.gives.addr y.gives.xs.length y.gives.cap,.int .i64 y.cost] 79 (0,0)):=by subst hW2;exact World.alloc_heap_new _ _
        have cJ:=Xa (Zb g.cats y.cat W2 (HGr.out.cats.ext (Xb hB hb2)))
        obtain⟨W3,hW3⟩:∃W3,(W2.setCell ⟨wr.heap.size,1,none⟩ (.int .i64 (idxF y.cat g.cats.xs))).setCell ⟨wr.heap.size,2,none⟩ (.slice none 0 0)=W3:=⟨_,rfl⟩
        have hk3:W3.heap[wr.heap.size]? = some (.cells #[.string y.cat,.int .i64 (idxF y.cat g.cats.xs),.slice none 0 0,.slice y.gives.addr y.gives.xs.length y.gives.cap,.int .i64 y.cost] 79 (0,0)):=by subst hW3;exact heap_setCell_same _ _ _ _ _ _ (heap_setCell_same _ _ _ _ _ _ hk2)
        have hb3:Below wr.heap.size wr W3:=by subst hW3;exact(hb2.setCell (p:=⟨wr.heap.size,1,none⟩) (Nat.le_refl _) _).setCell (p:=⟨wr.heap.size,2,none⟩) (Nat.le_refl _) _
        have HP0:Hid (PrtI (Um g.cats.xs) wr y (idxF y.cat g.cats.xs) (.slice none 0 0) 0 W3):=⟨hb3,hk3,OwnL.nil _ _ _ _ _⟩
        have f1:=Xf hk2 1
        have f2:=Xf hk2 2
        obtain⟨u0,u1,u2,u3,u4⟩:=gb5 hk2
        have d1b:=(hb2.cell (p:=⟨w.heap.size,1,none⟩) (Xc hkg)).trans d1
        have Hkgr:=Xa hkg
        have Hd5:=Xa d5
        have Ht2:=Xa t2
        have HBw:=Xa hB
        have Hiy0:∃i,idxF y.cat g.cats.xs=i:=⟨_,rfl⟩
        obtain⟨iy,hiy⟩:=Hiy0
        rw[hiy] at cJ hW3 HP0
        have Hiy:=Xa hiy
        clear hiy hk2 hk3 hb2 hb3 hkg hB hget
        go_wp2_with fail
        refine cJ.out.mono ?_
        rintro e w' ⟨rfl,rfl⟩
        clear cJ hW2
        go_wp2_with fail
        clear hW3 f1 f2 u0 u1 u2 u3 u4 d1b d1 d5 t0 t1 t2 t3 t4
        obtain⟨w7,hw7⟩:∃w7,w7=wr:=⟨_,rfl⟩
        subst hw7
        have hmp:y.parts.xs.length≤9223372036854775807:=Nat.le_trans Hrl.out.1.cap Hrl.out.1.max
        go_loopw [10] (fun i wr=>∃(j:Nat) (vP:Value),j≤y.parts.xs.length∧i = .int .i64 j∧PrtI (Um g.cats.xs) w7 y iy vP j wr) (fun i _=>y.parts.xs.length-(intOf i).toNat)
        case atStart=>exact⟨0,_,Nat.zero_le _,rfl,HP0.out⟩
        case round =>
         obtain⟨j,vP,hj,rfl,hB,hx,hO⟩:=hrel
         rename World=>wr
         have d5:=(hB.cell (p:=⟨w.heap.size,5,none⟩) (Xc Hkgr.out)).trans Hd5.out
         have t2:=(hB.cell (p:=⟨b,off+k*5+2,none⟩) (Ug Ht2.out)).trans Ht2.out
         by_cases hjl:j<y.parts.xs.length
         ·obtain⟨b',off',hA',hb',hc'⟩:=Hrl.out.1.at_ PartG.size_cells (by omega) hjl
          have hBw:=Xb HBw.out hB
          have s0:wr.cell? ⟨b',off'+j*3,none⟩=some (.string y.parts.xs[j].cat):=hc' j hjl wr hBw 0 _ rfl
          have s1:wr.cell? ⟨b',off'+j*3+1,none⟩=some (.int .i64 y.parts.xs[j].no):=hc' j hjl wr hBw 1 _ rfl
          have s2:wr.cell? ⟨b',off'+j*3+2,none⟩=some (.string y.parts.xs[j].text):=hc' j hjl wr hBw 2 _ rfl
          have htk:y.parts.xs.take (j+1)=y.parts.xs.take j++[y.parts.xs[j]]:=List.take_succ_eq_append_getElem hjl
          have Htk:Hid ((y.parts.xs.take (j+1)).map (Um g.cats.xs)=(y.parts.xs.take j).map (Um g.cats.xs)++[Um g.cats.xs y.parts.xs[j]]):=by show _=_;rw[htk,List.map_append];rfl
          have hle:((y.parts.xs.take j).map (Um g.cats.xs)).length<y.parts.xs.length:=by rw[List.length_map,List.length_take];omega
          have hlr:(Um g.cats.xs y.parts.xs[j])=⟨y.parts.xs[j].cat,max 0 (idxF y.parts.xs[j].cat g.cats.xs),y.parts.xs[j].text⟩:=rfl
          rw[hlr] at Htk
          rw[hA'] at t2
          clear hc' hA' htk hlr
          generalize y.parts.xs[j]=q at *
          generalize (y.parts.xs.take j).map (Um g.cats.xs)=PL at *
          obtain⟨V2,hV2⟩:∃V2,wr.alloc (.cells #[.string q.cat,.int .i64 q.no,.string q.text] 81)=V2:=⟨_,rfl⟩
          have hb2:Below wr.heap.size wr V2:=by subst hV2;exact Xe (Below.refl _ _) _
          have hk2:V2.heap[wr.heap.size]? = some (.cells #[.string q.cat,.int .i64 q.no,.string q.text] 81 (0,0)):=by subst hV2;exact World.alloc_heap_new _ _
          have cK:=Xa (Zb g.cats q.cat V2 (HGr.out.cats.ext (Xb hBw hb2)))
          obtain⟨V3,hV3⟩:∃V3,V2.setCell ⟨wr.heap.size,1,none⟩ (.int .i64 (max 0 (idxF q.cat g.cats.xs)))=V3:=⟨_,rfl⟩
          have hk3:V3.heap[wr.heap.size]? = some (.cells #[.string q.cat,.int .i64 (max 0 (idxF q.cat g.cats.xs)),.string q.text] 81 (0,0)):=by subst hV3;exact heap_setCell_same _ _ _ _ _ _ hk2
          have hb3:Below wr.heap.size wr V3:=by subst hV3;exact hb2.setCell (p:=⟨wr.heap.size,1,none⟩) (Nat.le_refl _) _
          have d1c:=((Xb HBw.out (Xb hB hb2)).block _ (Xc Hkg.out)).trans Hkg.out
          have d1d:V2.cell? ⟨w.heap.size,1,none⟩=some (.slice g.cats.addr g.cats.xs.length g.cats.cap):=gblk d1c 1
          obtain⟨iq,hiq⟩:∃i,idxF q.cat g.cats.xs=i:=⟨_,rfl⟩
          rw[hiq] at cK Htk hk3 hV3
          obtain⟨mq,hmq⟩:∃i,max 0 iq=i:=⟨_,rfl⟩
          rw[hmq] at Htk hk3 hV3
          clear hiq
          obtain⟨V4,hV4⟩:∃V4,V3.alloc (.cells #[.string q.cat,.int .i64 mq,.string q.text] 81)=V4:=⟨_,rfl⟩
          have hb4:Below wr.heap.size wr V4:=by subst hV4;exact Xb hb3 (Xe (Below.refl _ _) _)
          have hk4:V4.heap[V3.heap.size]? = some (.cells #[.string q.cat,.int .i64 mq,.string q.text] 81 (0,0)):=by subst hV4;exact World.alloc_heap_new _ _
          obtain⟨A1,A2⟩:PL.length+1≤maxLen∧(PL.length+1)*40≤140737488355328:=by simp only[maxLen];omega
          have hx4:=Xh hb4 hx
          have hx3:=Xh hb3 hx
          have hO4:=hO.ext hb4
          have HN:=Xa (fun v' w' h1 h2=>Xqm (v':=v') (w':=w') (q:=⟨q.cat,mq,q.text⟩) (Xb hB hb4) hx4 hO4 h1 h2)
          have f1:=Xf hk2 1
          obtain⟨u0,u1,u2⟩:=gb3 hk2
          obtain⟨v0,v1,v2⟩:=gb3 hk3
          have x2:V3.cell? ⟨w7.heap.size,2,none⟩=some vP:=gblk hx3 2
          have HO4:=Xa hO4
          have Hk4b:=Xa hk4
          have Hz4:Hid (w7.heap.size+1≤V4.heap.size):=by show _≤_;have:=Xc hx4;omega
          clear hO hO4 hx hx3 hx4 hk2 hk3 hk4 hb2 hb3 hb4 hB hBw d1c
          go_wp2_with fail
          refine cK.out.mono ?_
          rintro e w' ⟨rfl,rfl⟩
          clear cK hV2 d5 t2
          go_wp2_with (at_builtin;refine Ue rfl _ _ 76 rfl (w7.heap.size+1) 81 ip zp 3 40 Tryz.underlying76 hip ipz isp ibp ips (by decide) _ _ _ rfl (some ⟨V3.heap.size,0,none⟩) 1 1 (PartG.cells ⟨q.cat,mq,q.text⟩) rfl HO4.out rfl (Yw Hk4b.out rfl) (Xmn _) A1 A2 Hz4.out ?_;intro v8 w8 hown8 hgrow8 _;obtain⟨A8,c8,rfl,_⟩:=Q9 hown8;have hN:=HN.out _ w8 hown8 hgrow8;have HN2:=Xa hN.2;have y4:=gblk hN.1 2;have z4:=Xf hN.1 2;clear hN hown8 hgrow8)
          have hfin:=HN2.out
          rw[← Htk.out] at hfin
          have HF:=Xa hfin
          clear HN2 hfin HN y4 z4 u0 u1 u2 v0 v1 v2 x2 d1d f1 hmq
          go_roundw
          case rel=>exact⟨j+1,_,by omega,by go_num,HF.out⟩
          case measure=>simp[intOf];omega
         ·obtain rfl:j=y.parts.xs.length:=by omega
          rw[List.take_length] at hO
          obtain⟨sP,rfl,hsP,hlP,haP⟩:=Xda (by omega) hO
          have hxb:=HRul.out.box
          have hxb2:=Xh hB hxb
          obtain⟨V,hV⟩:∃V,wr.alloc (.cells #[.string y.cat,.int .i64 iy,.slice sP.addr sP.xs.length sP.cap,.slice y.gives.addr y.gives.xs.length y.gives.cap,.int .i64 y.cost] 79)=V:=⟨_,rfl⟩
          have hbV:Below wr.heap.size wr V:=by subst hV;exact Xe (Below.refl _ _) _
          have hkV:V.heap[wr.heap.size]? = some (.cells #[.string y.cat,.int .i64 iy,.slice sP.addr sP.xs.length sP.cap,.slice y.gives.addr y.gives.xs.length y.gives.cap,.int .i64 y.cost] 79 (0,0)):=by subst hV;exact World.alloc_heap_new _ _
          have hOV:=HRul.out.own.ext (Xb hB hbV)
          have HN:=Xa (fun v' w' h1 h2 h3=>Xqp (v':=v') (w':=w') HRul.out Hget2.out (Xb hB hbV) (hlP.ext hbV) hsP (fun ad had=>by have:=haP ad had;have:=hbV.size;omega) h1 h2 h3)
          rw[Hiy.out] at HN
          obtain⟨u0,u1,u2,u3,u4⟩:=gb5 hx
          have x5:wr.cell? ⟨w5.heap.size,5,none⟩=some vR:=gblk hxb2 5
          have HOV:=Xa hOV
          have HkV:=Xa hkV
          have Hz4:Hid (w6.heap.size≤V.heap.size):=by show _≤_;have:=HRul.out.step.size;have:=hB.size;have:=hbV.size;omega
          obtain⟨A1,A2⟩:R.length+1≤maxLen∧(R.length+1)*80≤140737488355328:=by simp only[maxLen];have:=HRl.out;omega
          clear hO hx hB hsP hlP haP hxb hxb2 hbV hkV hOV hp4 hmp hj hjl
          go_wp2_with (at_builtin;refine Ue rfl _ _ 24 rfl w6.heap.size 79 ir zr 5 80 Tryz.underlying24 hir irz isr ibr irs (by decide) _ _ _ rfl (some ⟨wr.heap.size,0,none⟩) 1 1 (RuleG.cells ⟨y.cat,iy,sP,y.gives,y.cost⟩) rfl HOV.out rfl (Yw HkV.out rfl) (Xmp _) A1 A2 Hz4.out ?_;intro v8 w8 hown8 hgrow8 hat8;obtain⟨A8,c8,rfl,_⟩:=Q9 hown8;have hN:=HN.out _ w8 hown8 hgrow8 hat8;have HN2:=Xa hN.2;have y4:=gblk hN.1 5;have z4:=Xf hN.1 5;clear hN hown8 hgrow8 hat8)
          go_roundw
          case rel=>exact⟨k+1,_,_,by omega,by go_num,by have:=HRl.out;simp[this],HN2.out⟩
          case measure=>simp[intOf];omega
       ·obtain rfl:k=g.rules.xs.length:=by omega
        have hkz:=Xh hB Hkz.out
        obtain⟨sR,rfl,hsR,hlR,haR⟩:=Xda (by omega) hO
        have hE2:=HI1.out.ent
        have hE3:OwnL EntryG.cells 60 5 wr (w5.heap.size+1) vE (g.entries.xs.map (Z0 g.cats.xs)):=hE2.block fun j hj=>by
         have:=hE2.lt j hj
         exact hQ.block j this.2 (by omega)
        obtain⟨sE,rfl,hsE,hlE,haE⟩:=Xda (by omega) hE3
        obtain⟨Wz,hWz⟩:∃Wz,((((((wr.setCell ⟨w.heap.size+1,0,none⟩ (.string g.name)).setCell ⟨w.heap.size+1,1,none⟩ (.slice g.cats.addr g.cats.xs.length g.cats.cap)).setCell ⟨w.heap.size+1,2,none⟩ (.string g.start)).setCell ⟨w.heap.size+1,3,none⟩ (.int .i64 (idxF g.start g.cats.xs))).setCell ⟨w.heap.size+1,4,none⟩ (.slice sE.addr sE.xs.length sE.cap)).setCell ⟨w.heap.size+1,5,none⟩ (.slice sR.addr sR.xs.length sR.cap))=Wz:=⟨_,rfl⟩
        have hBw:=Xb HBr.out hB
        have hzw:=HBr.out.size
        have hlw:=Xc hkz
        have hBz:Below w.heap.size w Wz:=by subst hWz;exact Vh hBw (by omega)
        have hoz:∀j,j≠w.heap.size+1→Wz.heap[j]? = wr.heap[j]? := by subst hWz;exact fun j h=>Xg5 j h
        have hsz:Wz.heap.size=wr.heap.size:=by subst hWz;exact Xjw
        have hkzz:Wz.heap[w.heap.size+1]? = some (.cells #[.string g.name,.slice g.cats.addr g.cats.xs.length g.cats.cap,.string g.start,.int .i64 (idxF g.start g.cats.xs),.slice sE.addr sE.xs.length sE.cap,.slice sR.addr sR.xs.length sR.cap] 26 (0,0)):=by subst hWz;exact st6 hkz
        have hlk:=Xc Hkz.out
        have HX:Hid ((⟨g.name,g.cats,g.start,idxF g.start g.cats.xs,sE,sR⟩:Gram).lies Wz∧Xic (Um g.cats.xs) g ⟨g.name,g.cats,g.start,idxF g.start g.cats.xs,sE,sR⟩):=by
         refine⟨(Gram.lies.mk ?_ ?_ ?_ ?_ ?_),⟨rfl,rfl,rfl,rfl,hsE,by show sR.xs.length=_;rw[hsR,hRl],fun i r r' h1 h2=>hRR i r r' h1 (by rw[← hsR];exact h2)⟩⟩
         ·exact Hg0.out.cats.ext hBz
         ·exact hlE.block (fun ad had=>hoz _ (by have:=haE ad had;omega)) (by omega)
         ·intro x hxm
          have hxm:x∈sE.xs:=hxm
          rw[hsE,List.mem_map] at hxm
          obtain⟨e0,he0,rfl⟩:=hxm
          exact(Hg0.out.entry e0 he0).ext hBz
         ·exact hlR.block (fun ad had=>hoz _ (by have:=haR ad had;have:=hxz.out;omega)) (by omega)
         ·intro x hxm
          have hxm:x∈sR.xs:=hxm
          have hxm2:=hxm
          rw[hsR] at hxm2
          obtain⟨i,hi,rfl⟩:=List.getElem_of_mem hxm2
          have hi2:i<g.rules.xs.length:=by omega
          have hrr:=hRR i _ _ (List.getElem?_eq_getElem hi2) (List.getElem?_eq_getElem hi)
          obtain⟨h1,h2⟩:=hRP _ hxm2
          refine⟨h1.block (fun ad had=>hoz _ (by have:=h2 ad had;have:=hxz.out;omega)) (by omega),?_⟩
          rw[hrr.gives]
          exact(Hg0.out.rule _ (List.getElem_mem hi2)).2.ext hBz
        obtain⟨x0,x1,x2,x3,x4,x5⟩:=gb6 hx
        obtain⟨u0,u1,u2,u3,u4,u5⟩:=gb6 hkz
        have hf0:=Xf hkz 0
        have hf1:=Xf hkz 1
        have hf2:=Xf hkz 2
        have hf3:=Xf hkz 3
        have hf4:=Xf hkz 4
        have hf5:=Xf hkz 5
        obtain⟨z0,z1,z2,z3,z4,z5⟩:=gb6 hkzz
        have HBz:=Xa hBz
        clear hsR hlR haR hsE hlE haE hO hRR hRP hQ hx hkz hkg hE2 hE3 hB hBw hBz hoz hkzz d1
        go_wp2_with fail
        have hfin:Xd9 Um g w (.returned (.tuple #[.agg #[.string g.name,.slice g.cats.addr g.cats.xs.length g.cats.cap,.string g.start,.int .i64 (idxF g.start g.cats.xs),.slice sE.addr sE.xs.length sE.cap,.slice sR.addr sR.xs.length sR.cap],.int .i64 0])) Wz :=
         ⟨⟨g.name,g.cats,g.start,idxF g.start g.cats.xs,sE,sR⟩,by rw[HN.out],HBz.out,fun _=>HX.out⟩
        generalize idxF g.start g.cats.xs=ix at *
        refine bodyPost_ret (v:=.tuple #[.agg #[.string g.name,.slice g.cats.addr g.cats.xs.length g.cats.cap,.string g.start,.int .i64 ix,.slice sE.addr sE.xs.length sE.cap,.slice sR.addr sR.xs.length sR.cap],.int .i64 0]) ?_ rfl ?_
        ·clear hWz hfin HX
         clear hsz hzw hlw hlk hxl hxz hRl hk hlt
         simp only[List.getElem?_toArray,List.getElem?_cons_zero,List.getElem?_cons_succ] at z0 z1 z2 z3 z4 z5
         simp[results,Tryz.results176,go_sem,z0,z1,z2,z3,z4,z5]
        ·exact hfin
theorem Xof {g:Gram} (h:resG g=0):Xz g=true:=by
 unfold resG at h
 cases ht:Xz g
 ·rw[ht] at h
  split at h
  ·cases h
  ·cases h
 ·rfl
set_option maxHeartbeats 1000000 in
theorem Xho (g:Gram) (w:World) (hg:g.lies w):Calls Tryz.prog 121 #[.agg #[.string g.name,.slice g.cats.addr g.cats.xs.length g.cats.cap,.string g.start,.int .i64 g.startNo,.slice g.entries.addr g.entries.xs.length g.entries.cap,.slice g.rules.addr g.rules.xs.length g.rules.cap]] w fun e w'=>e = .returned (.int .i64 (Ys g))∧Below w.heap.size w w':=by
 obtain⟨W1,hW1⟩:∃W1,w.alloc (.cells #[.string g.name,.slice g.cats.addr g.cats.xs.length g.cats.cap,.string g.start,.int .i64 g.startNo,.slice g.entries.addr g.entries.xs.length g.entries.cap,.slice g.rules.addr g.rules.xs.length g.rules.cap] 26)=W1:=⟨_,rfl⟩
 have hB1:Below w.heap.size w W1:=by subst hW1;exact Xe (Below.refl _ _) _
 have hk:W1.heap[w.heap.size]? = some (.cells #[.string g.name,.slice g.cats.addr g.cats.xs.length g.cats.cap,.string g.start,.int .i64 g.startNo,.slice g.entries.addr g.entries.xs.length g.entries.cap,.slice g.rules.addr g.rules.xs.length g.rules.cap] 26 (0,0)):=by subst hW1;exact World.alloc_heap_new _ _
 have HC:=Xa (Xey g)
 have cR:=Xa (Xgd g W1 (hg.ext hB1))
 have HG:=Xa (hg.ext hB1)
 have Hk:=Xa hk
 obtain⟨c0,c1,c2,c3,c4,c5⟩:=gb6 hk
 have HW1:=Xa hW1
 clear hg hk hW1
 go_enter Tryz.func121,Tryz.ntmps121
 go_wp2_with fail
 rw[HW1.out]
 clear HW1
 refine cR.out.mono ?_
 rintro e w2 ⟨X,rfl,hb2,hX⟩
 have hB2:=Xb hB1 hb2
 by_cases hz:resG g=0
 ·obtain⟨hXl,hRO⟩:=hX hz
  have hty:=Xof hz
  have hsame:=Xqt hty hRO
  obtain⟨W3,hW3⟩:∃W3,w2.alloc (.cells #[.string X.name,.slice X.cats.addr X.cats.xs.length X.cats.cap,.string X.start,.int .i64 X.startNo,.slice X.entries.addr X.entries.xs.length X.entries.cap,.slice X.rules.addr X.rules.xs.length X.rules.cap] 26)=W3:=⟨_,rfl⟩
  have hb3:Below w2.heap.size w2 W3:=by subst hW3;exact Xe (Below.refl _ _) _
  have hk3:W3.heap[w2.heap.size]? = some (.cells #[.string X.name,.slice X.cats.addr X.cats.xs.length X.cats.cap,.string X.start,.int .i64 X.startNo,.slice X.entries.addr X.entries.xs.length X.entries.cap,.slice X.rules.addr X.rules.xs.length X.rules.cap] 26 (0,0)):=by subst hW3;exact World.alloc_heap_new _ _
  have hkg:=((Xb hb2 hb3).block _ (Xc Hk.out)).trans Hk.out
  have he:X.entries.xs.length=g.entries.xs.length:=by rw[hRO.entries,List.length_map]
  have cS:=Xa (Xjv X g W3 (hXl.ext hb3) (HG.out.ext (Xb hb2 hb3)) hRO.name hRO.start (by rw[hRO.cats]) he hRO.rules)
  rw[hsame] at cS
  have HE:Hid (Ys g=if Zm g then 0 else 260):=by show _=_;rw[HC.out,hz];rfl
  clear c0 c1 c2 c3 c4 c5
  obtain⟨x0,x1,x2,x3,x4,x5⟩:=gb6 hk3
  obtain⟨c0,c1,c2,c3,c4,c5⟩:=gb6 hkg
  generalize Zm g=f at *
  rw[hz]
  clear hX hXl hRO hsame hk3 hkg he hty hz HC cR
  go_wp2_with fail
  clear hW3
  refine cS.out.mono ?_
  rintro e w4 ⟨rfl,hb4⟩
  have hB4:=Xb (Xb hB2 hb3) hb4
  cases f
  ·go_wp2_with fail
   go_ret
   exact⟨by rw[HE.out];rfl,hB4⟩
  ·go_wp2_with fail
   go_ret
   exact⟨by rw[HE.out];rfl,hB4⟩
 ·have HE:Hid (Ys g=resG g):=by show _=_;rw[HC.out,if_pos hz]
  have hb3:Below w2.heap.size w2 (w2.alloc (.cells #[.string X.name,.slice X.cats.addr X.cats.xs.length X.cats.cap,.string X.start,.int .i64 X.startNo,.slice X.entries.addr X.entries.xs.length X.entries.cap,.slice X.rules.addr X.rules.xs.length X.rules.cap] 26)):=Xe (Below.refl _ _) _
  have g1:(resG g != 0)=true:=by simpa using hz
  generalize resG g=r at *
  clear hX HC hz
  go_wp2_with fail
  go_ret
  exact⟨by rw[HE.out];rfl,Xb hB2 hb3⟩
end Go.Proofs.YtolpbjjapodmnaaGreatDoor
