/- Texts of this claim, one after the other: TagP, GrmN, GrmQ, TagA, IntL, TraP, Grid, Tgk. -/
import Derived.Test.YtolpbjjapodmnaaGreatDoorM9
import Derived.Test.YtolpbjjapodmnaaGreatDoorM7
import Derived.Test.YtolpbjjapodmnaaGreatDoorM3
import Derived.Test.YtolpbjjapodmnaaGreatDoorM2
import Derived.Test.YtolpbjjapodmnaaGreatDoorM8
import Derived.Test.YtolpbjjapodmnaaGreatDoorM5
import Derived.Laws.CopyOwn
import Derived.Lib.SliceRun
import Derived.RangeFuncBox
import Derived.Maps.AppendAt
namespace Go.Proofs.YtolpbjjapodmnaaGreatDoor
open Go.RowKit Go.Han
set_option maxRecDepth 100000
attribute [local irreducible] wpStill wpQuiet
set_option maxHeartbeats 8000000
structure Ye where
 cat:Int
 frm:Int
 unt:Int
 cost:Int
 tgt:List ByteArray
 term:Int
 deriving DecidableEq
def ItemG.c (x:ItemG):Ye:=⟨x.cat,x.frm,x.unt,x.cost,x.tgt.xs,x.term⟩
def X0g (i:Nat) (s:ByteArray):Ye:=⟨-1,i,i+1,0,[s], -1⟩
def Xb1 (cats:List ByteArray) (S:List Term) (ws:List ByteArray) (i many:Nat):Option Term :=
 S.find? (fun x=>decide (x.src.xs.length=many) && Un x (ws.drop i) && catB cats x.cat)
def Xw (cats:List ByteArray) (S:List Term) (ws:List ByteArray) (i many:Nat):List Ye :=
 match Xb1 cats S ws i many with
 | some x=>[⟨idxF x.cat cats,i,i+many,0,x.tgt.xs,x.no⟩]
 | none=>[]
def Xe9 (i:Nat) (x:EntryG):Ye:=⟨x.no,i,i+1,x.cost,x.gives.xs, -1⟩
def Xy (es:List EntryG) (i:Nat) (s:ByteArray):List Ye:=(es.filter (fun x=>decide (x.text=s))).map (Xe9 i)
def unkC (n i:Nat) (s:ByteArray):List Ye:=(List.range n).map fun (c:Nat)=>⟨(c:Int),i,i+1,100,[s], -1⟩
def Um (g:Gram) (S:List Term) (ws:List ByteArray) (i:Nat) (s:ByteArray):List Ye :=
 if (Xw g.cats.xs S ws i 1++Xy g.entries.xs i s).length=0 then unkC g.cats.xs.length i s else Xw g.cats.xs S ws i 1++Xy g.entries.xs i s
def Qg (g:Gram) (S:List Term) (ws:List ByteArray) (i:Nat) (s:ByteArray):List Ye :=
 Um g S ws i s++Xw g.cats.xs S ws i 2++Xw g.cats.xs S ws i 3++Xw g.cats.xs S ws i 4
def Us:Nat->List ByteArray->List Ye
 | _,[]=>[]
 | i,s :: l=>X0g i s :: Us (i+1) l
def Y9 (g:Gram) (S:List Term) (ws:List ByteArray):Nat->List ByteArray->List Ye
 | _,[]=>[]
 | i,s :: l=>Qg g S ws i s++Y9 g S ws (i+1) l
def Vb (g:Gram) (S:List Term) (ws:List ByteArray):List Ye:=Us 0 ws++Y9 g S ws 0 ws
def Xz (g:Gram) (l:List Term) (lang:Int) (ws:List ByteArray) (t u:Int):Int :=
 if Yb g≠0 then Yb g else if Zj l lang t u≠0 then Zj l lang t u else if 16<ws.length then 2 else if ws.all Xq=false then 280
 else if 1024<(Vb g (Yh l lang t u) ws).length then 2 else 0
theorem Xix:∀(i:Nat) (l:List ByteArray) (s:ByteArray),Us i (l++[s])=Us i l++[X0g (i+l.length) s]
 | i,[],s=>by simp[Us]
 | i,x :: l,s=>by
  rw[List.cons_append,Us,Us,Xix (i+1) l s,List.length_cons,List.cons_append];rw[show i+1+l.length=i+(l.length+1) by omega]
theorem Xg3 (g:Gram) (S:List Term) (ws:List ByteArray):∀(i:Nat) (l:List ByteArray) (s:ByteArray),Y9 g S ws i (l++[s])=Y9 g S ws i l++Qg g S ws (i+l.length) s
 | i,[],s=>by simp[Y9]
 | i,x :: l,s=>by
  rw[List.cons_append,Y9,Y9,Xg3 g S ws (i+1) l s,List.length_cons,List.append_assoc];rw[show i+1+l.length=i+(l.length+1) by omega]
theorem Xfo:∀(i:Nat) (l:List ByteArray),(Us i l).length=l.length
 | i,[]=>rfl
 | i,x :: l=>by rw[Us,List.length_cons,Xfo (i+1) l,List.length_cons]
theorem Xw9 (cats:List ByteArray) (S:List Term) (ws:List ByteArray) (i many:Nat):(Xw cats S ws i many).length<=1:=by
 unfold Xw;split<;>simp
/-! ### joined with spaces -/
theorem Xpq:∀(n:Nat) (l:List UInt8),l.length<=n->(Yt l).2=true->(32:UInt8)∈l->32∈(Yt l).1
 | 0,l,hn,_,h=>by
  have:l=[]:=List.eq_nil_of_length_eq_zero (by omega);rw[this] at h;cases h
 | n+1,l,hn,hr,h=>by
  have hne:l≠[]:=by rintro rfl;cases h
  have hge:=Xci l;have hlen:0<l.length:=List.length_pos_iff.2 hne;cases hb:badB (dec l)
  ·rw[Xi7 l hne hb] at hr ⊢
   simp only at hr ⊢
   have key:(32:UInt8)∈l.drop (dec l).2\/(dec l).1=32:=by
    by_cases h128:Yq l 0<128
    ·rw[Xtu l h128]
     cases l with
     | nil=>cases h
     | cons c t =>
      rcases List.mem_cons.1 h with e|h
      ·right;subst e;rfl
      ·left;exact h
    ·left
     have hh:=Xn9 l (by omega);rw[<- List.take_append_drop (dec l).2 l] at h;rcases List.mem_append.1 h with h|h
     ·exfalso
      obtain⟨i,hi,he⟩:=List.getElem_of_mem h;have hi2:i<(dec l).2/\i<l.length:=(by rw[List.length_take] at hi;omega);have:=hh i hi2.1;unfold Yq at this;rw[List.getElem?_eq_getElem hi2.2] at this;rw[List.getElem_take] at he;rw[he] at this;exact absurd this (by decide)
     ·exact h
   rcases key with h1|h1
   ·exact List.mem_cons_of_mem _ (Xpq n _ (by simp;omega) hr h1)
   ·rw[h1];exact List.mem_cons_self ..
  ·rw[Xlu l hne hb] at hr;cases hr
theorem Xui {s:ByteArray} (h:Xq s=true):(32:UInt8)∉s.data.toList:=by
 unfold Xq at h;simp only[Bool.and_eq_true,Bool.not_eq_true',decide_eq_true_eq] at h;intro h10;have:=Xpq _ _ (Nat.le_refl _) h.1.2 h10;have h2:=h.2;rw[List.any_eq_false] at h2;exact h2 32 this (by decide)
theorem Xps {a b p q:List UInt8} (ha:(32:UInt8)∉a) (hb:(32:UInt8)∉b) (hp:p=[]\/∃p',p=32 :: p') (hq:q=[]\/∃q',q=32 :: q') (h:a++p=b++q):a=b/\p=q:=by
 induction a generalizing b with
 | nil =>
  cases b with
  | nil=>exact⟨rfl,h⟩
  | cons y b =>
   simp only[List.nil_append,List.cons_append] at h;rcases hp with rfl|⟨p',rfl⟩
   ·cases h
   ·simp only[List.cons.injEq] at h
    exact absurd (h.1 ▸ List.mem_cons_self ..) hb
 | cons x a ih =>
  cases b with
  | nil =>
   simp only[List.nil_append,List.cons_append] at h;rcases hq with rfl|⟨q',rfl⟩
   ·cases h
   ·simp only[List.cons.injEq] at h
    exact absurd (h.1 ▸ List.mem_cons_self ..) ha
  | cons y b =>
   simp only[List.cons_append,List.cons.injEq] at h;obtain⟨h1,h2⟩:=ih (fun h=>ha (List.mem_cons_of_mem _ h)) (fun h=>hb (List.mem_cons_of_mem _ h)) h.2;exact⟨by rw[h.1,h1],h2⟩
theorem Xhf (r:List (List UInt8)):Lib.joinTail [32] r=[]\/∃p',Lib.joinTail [32] r=32 :: p':=by
 cases r with
 | nil=>exact .inl rfl
 | cons x r=>exact .inr ⟨_,rfl⟩
theorem Xje:∀(r r':List (List UInt8)),(∀x∈r,(32:UInt8)∉x)->(∀x∈r',(32:UInt8)∉x)->Lib.joinTail [32] r=Lib.joinTail [32] r'->r=r'
 | [],[],_,_,_=>rfl
 | [],x :: r',_,_,h=>by cases h
 | x :: r,[],_,_,h=>by cases h
 | x :: r,y :: r',h1,h2,h=>by
  have e:x++Lib.joinTail [32] r=y++Lib.joinTail [32] r':=by
   simpa[Lib.joinTail] using h
  obtain⟨hx,hr⟩:=Xps (h1 x (List.mem_cons_self ..)) (h2 y (List.mem_cons_self ..)) (Xhf r) (Xhf r') e;rw[hx,Xje r r' (fun z hz=>h1 z (List.mem_cons_of_mem _ hz)) (fun z hz=>h2 z (List.mem_cons_of_mem _ hz)) hr]
theorem Xrk {r r':List (List UInt8)} (h1:∀x∈r,(32:UInt8)∉x) (h2:∀x∈r',(32:UInt8)∉x) (n1:r≠[]) (n2:r'≠[]) (h:Lib.join r [32]=Lib.join r' [32]):r=r':=by
 cases r with
 | nil=>exact absurd rfl n1
 | cons x r =>
  cases r' with
  | nil=>exact absurd rfl n2
  | cons y r' =>
   rw[Lib.join_cons,Lib.join_cons] at h;obtain⟨hx,hr⟩:=Xps (h1 x (List.mem_cons_self ..)) (h2 y (List.mem_cons_self ..)) (Xhf r) (Xhf r') h;rw[hx,Xje r r' (fun z hz=>h1 z (List.mem_cons_of_mem _ hz)) (fun z hz=>h2 z (List.mem_cons_of_mem _ hz)) hr]
theorem Xke (r:List (List UInt8)) (n:Nat) (h:∀x∈r,x.length<=n):(Lib.join r [32]).length<=r.length*(n+1):=by
 cases r with
 | nil=>simp[Lib.join_nil]
 | cons x r =>
  rw[Lib.join_cons]
  have ht:∀q:List (List UInt8),(∀x∈q,x.length<=n)->(Lib.joinTail [32] q).length<=q.length*(n+1):=by
   intro q
   induction q with
   | nil=>intro _;simp[Lib.joinTail]
   | cons y q ih =>
    intro hq;have h1:=ih (fun z hz=>hq z (List.mem_cons_of_mem _ hz));have h2:=hq y (List.mem_cons_self ..);have e:Lib.joinTail [32] (y :: q)=32 :: (y++Lib.joinTail [32] q):=(by simp[Lib.joinTail]);rw[e];simp only[List.length_cons,List.length_append,Nat.add_mul,Nat.one_mul];omega
  have h1:=ht r (fun z hz=>h z (List.mem_cons_of_mem _ hz));have h2:=h x (List.mem_cons_self ..);simp only[List.length_cons,List.length_append,Nat.add_mul,Nat.one_mul];omega
def Zm (xs:List ByteArray):ByteArray:=⟨(Lib.join (xs.map (fun s=>s.data.toList)) [32]).toArray⟩
theorem Xk4 {xs ys:List ByteArray} (h1:∀s∈xs,Xq s=true) (h2:∀s∈ys,Xq s=true) (n1:xs≠[]) (n2:ys≠[]) (h:Zm xs=Zm ys):xs=ys:=by
 have h':Lib.join (xs.map (fun s=>s.data.toList)) [32]=Lib.join (ys.map (fun s=>s.data.toList)) [32]:=by
  have:=congrArg (fun s:ByteArray=>s.data.toList) h
  simpa[Zm] using this
 refine Xa1 (Xrk ?_ ?_ ?_ ?_ h')
 ·intro x hx
  obtain⟨s,hs,rfl⟩:=List.mem_map.1 hx;exact Xui (h1 s hs)
 ·intro x hx
  obtain⟨s,hs,rfl⟩:=List.mem_map.1 hx;exact Xui (h2 s hs)
 ·intro h0;exact n1 (List.map_eq_nil_iff.1 h0)
 ·intro h0;exact n2 (List.map_eq_nil_iff.1 h0)
theorem Xax {xs:List ByteArray} (h:∀s∈xs,Xq s=true) (h4:xs.length<=4):(Zm xs).size<=260:=by
 have:=Xke (xs.map (fun s=>s.data.toList)) 64 (fun y hy=>by
  obtain⟨s,hs,rfl⟩:=List.mem_map.1 hy;exact Xl6 (h s hs))
 have e:(Zm xs).size=(Lib.join (xs.map (fun s=>s.data.toList)) [32]).length:=by
  unfold Zm;rw[Lib.size_eq]
 rw[e];simp at this;omega
/-! ### the map of the terms by their words -/
def Tc (p:List Term) (k:ByteArray):Option Term:=p.foldl (fun o y=>if Zm y.src.xs=k then some y else o) none
theorem Xgw (p:List Term) (y:Term) (k:ByteArray):Tc (p++[y]) k=if Zm y.src.xs=k then some y else Tc p k:=by
 unfold Tc;rw[List.foldl_append];rfl
theorem Xgx:∀(p q:List Term) (k:ByteArray),(∀x∈p++q,∀y∈p++q,Zm x.src.xs=Zm y.src.xs->x=y)->Tc p k=p.find? (fun x=>decide (Zm x.src.xs=k)) ->
  Tc (p++q) k=(p++q).find? (fun x=>decide (Zm x.src.xs=k))
 | p,[],k,_,h=>by simpa using h
 | p,y :: q,k,hu,h=>by
  have e:p++y :: q=(p++[y])++q:=by simp
  rw[e] at hu ⊢;refine Xgx (p++[y]) q k hu ?_;rw[Xgw,List.find?_append,h];by_cases hk:Zm y.src.xs=k
  ·rw[if_pos hk]
   cases hf:p.find? (fun x=>decide (Zm x.src.xs=k)) with
   | none=>simp[hk]
   | some x =>
    have hx:=List.find?_some hf;have hm:=List.mem_of_find?_eq_some hf;simp only[decide_eq_true_eq] at hx;have:=hu x (by simp[hm]) y (by simp) (hx.trans hk.symm);subst this;rfl
  ·rw[if_neg hk]
   cases hf:p.find? (fun x=>decide (Zm x.src.xs=k))<;>simp[hk]
theorem Xf9 {p q:Term->Bool}:∀ {l:List Term},(∀x∈l,p x=q x)->l.find? p=l.find? q
 | [],_=>rfl
 | x :: l,h=>by
  rw[List.find?_cons,List.find?_cons,h x (List.mem_cons_self ..),Xf9 fun y hy=>h y (List.mem_cons_of_mem _ hy)]
theorem Xgv {S:List Term} (hu:∀x∈S,∀y∈S,x.src.xs=y.src.xs->x=y) (hok:∀x∈S,x.ok=true) {ws:List ByteArray} (hw:∀s∈ws,Xq s=true) {i many:Nat} (h0:0<many) (hi:i+many<=ws.length) :
  Tc S (Zm ((ws.drop i).take many))=S.find? (fun x=>decide (x.src.xs.length=many) && Un x (ws.drop i)):=by
 have hsl:((ws.drop i).take many).length=many:=by simp;omega
 have hsw:∀s∈(ws.drop i).take many,Xq s=true:=fun s hs=>hw s (List.mem_of_mem_drop (List.mem_of_mem_take hs));have hsn:(ws.drop i).take many≠[]:=fun e=>by rw[e] at hsl;simp at hsl;omega
 have src:∀x∈S,(∀s∈x.src.xs,Xq s=true)/\x.src.xs≠[]:=fun x hx=>by
  obtain⟨a1,_,a3⟩:=Xfn (hok x hx);exact⟨a3,fun e=>by rw[e] at a1;simp at a1⟩
 have h1:=Xgx [] S (Zm ((ws.drop i).take many)) (by
  intro x hx y hy he;simp only[List.nil_append] at hx hy;exact hu x hx y hy (Xk4 (src x hx).1 (src y hy).1 (src x hx).2 (src y hy).2 he)) rfl
 simp only[List.nil_append] at h1;rw[h1];refine Xf9 fun x hx=>?_;have hxs:=src x hx;rw[Bool.eq_iff_iff];simp only[Bool.and_eq_true,decide_eq_true_eq,Un];constructor
 ·intro he
  have e:=Xk4 hxs.1 hsw hxs.2 hsn he;rw[e];exact⟨hsl,by rw[hsl]⟩
 ·rintro⟨e1,e2⟩
  rw[e1] at e2;rw[e2]
theorem Xsy {l:List Term} {lang t u:Int} (hs:l.Pairwise (fun a b=>a.no<b.no)):∀x∈Yh l lang t u,∀y∈Yh l lang t u,x.src.xs=y.src.xs->x=y:=by
 intro x hx y hy he;obtain⟨x1,x2⟩:=List.mem_filter.1 hx;obtain⟨y1,y2⟩:=List.mem_filter.1 hy;simp only[Xes,Bool.and_eq_true,Bool.not_eq_true',decide_eq_true_eq] at x2 y2;obtain⟨xl,⟨_,xc⟩,xa⟩:=x2;obtain⟨yl,⟨_,yc⟩,ya⟩:=y2;have a1:Qr x y=true:=by unfold Qr;simp[xl,yl,he]
 have a2:Qr y x=true:=by unfold Qr;simp[xl,yl,he]
 have h1:Uh x y=false:=by
  rw[List.any_eq_false] at ya;have:=ya x x1
  simpa[a1,xc] using this
 have h2:Uh y x=false:=by
  rw[List.any_eq_false] at xa;have:=xa y y1
  simpa[a2,yc] using this
 refine X0d hs x1 y1 ?_;unfold Uh at h1 h2;simp only[Bool.or_eq_false_iff,Bool.and_eq_false_imp,decide_eq_false_iff_not,decide_eq_true_eq] at h1 h2;have:=h1.1;have:=h2.1;have e:x.at_=y.at_:=by omega
 have:=h1.2 e;have:=h2.2 e.symm;omega
theorem Xwx {S:List Term} (hu:∀x∈S,∀y∈S,x.src.xs=y.src.xs->x=y) (hok:∀x∈S,x.ok=true) {ws:List ByteArray} (hw:∀s∈ws,Xq s=true) (cats:List ByteArray) {i many:Nat} (h0:0<many) (hi:i+many<=ws.length) :
  Xb1 cats S ws i many=(Tc S (Zm ((ws.drop i).take many))).bind fun x=>if catB cats x.cat=true then some x else none:=by
 rw[Xgv hu hok hw h0 hi];unfold Xb1
 have key:∀l:List Term,(∀x∈l,∀y∈l,x.src.xs=y.src.xs->x=y)->l.find? (fun x=>decide (x.src.xs.length=many) && Un x (ws.drop i) && catB cats x.cat)=(l.find? (fun x=>decide (x.src.xs.length=many) && Un x (ws.drop i))).bind fun x=>if catB cats x.cat=true then some x else none:=by
  intro l
  induction l with
  | nil=>intro _;rfl
  | cons x l ih =>
   intro hu;rw[List.find?_cons,List.find?_cons];cases hp:(decide (x.src.xs.length=many) && Un x (ws.drop i))
   ·rw[Bool.false_and]
    exact ih fun a ha b hb=>hu a (List.mem_cons_of_mem _ ha) b (List.mem_cons_of_mem _ hb)
   ·rw[Bool.true_and]
    cases hc:catB cats x.cat
    ·simp only[Option.bind_some,hc]
     rw[if_neg (by decide),List.find?_eq_none]
     ·intro y hy hq
      simp only[Bool.and_eq_true,decide_eq_true_eq,Un] at hp hq;have e:x.src.xs=y.src.xs:=(by rw[<- hp.2,<- hq.1.2,hp.1,hq.1.1]);have:=hu x (List.mem_cons_self ..) y (List.mem_cons_of_mem _ hy) e;subst this;rw[hc] at hq;cases hq.2
    ·simp[hc]
 exact key S hu
theorem Xi0 (cats:List ByteArray) (S:List Term) {ws:List ByteArray} {i many:Nat} (h0:0<many) (hi:ws.length<i+many):Xb1 cats S ws i many=none:=by
 unfold Xb1;rw[List.find?_eq_none];intro x _ h;simp only[Bool.and_eq_true,decide_eq_true_eq,Un] at h;have:=congrArg List.length h.1.2;rw[List.length_take,List.length_drop] at this;have:=h.1.1;omega
def Uu {α:Type} (f:α->List Value) (E sz:Nat) (l:List α) (w:World) (e:Ending) (w':World):Prop:=∃v',e = .returned v'/\OwnL f E sz w' w.heap.size v' l/\Below w.heap.size w w'
theorem Xqy (A:Option Addr) (c:Nat) (l:List EntryG) (w:World) (hr:Rd w A (l.flatMap EntryG.cells)) (hA:A=none->l=[]) (hm:l.length<=1000000) :
  Calls Tryz.prog 194 #[.slice A l.length c] w (Uu EntryG.cells 60 5 l w):=by
 obtain⟨i0,z,hi0,hz0,hzs,hs0,hb0⟩:=Xm0 Xzk;have hfl:(l.flatMap EntryG.cells).length=l.length*5:=Y0 EntryG.cells 5 EntryG.size_cells l
 have hone:∀u∈l.flatMap EntryG.cells,u.oneCell'=true:=by
  intro u hu;obtain⟨x,_,hx⟩:=List.mem_flatMap.1 hu;exact X1s x u hx
 have q22:∀(w:World) (a:Option Addr) (n c n' c':Nat),(binOp .eql 23 (.slice a n c) (.slice none n' c')).run Tryz.prog w = .ok (.bool a.isNone) w:=fun w a n c n' c'=>Lib.run_eql_slice_nil w _ _ a n c n' c' Tryz.underlying23;cases A with
 | none =>
  have hl:=hA rfl;subst hl;go_enter Tryz.func194,Tryz.ntmps194
  go_wp2
  go_ret;exact⟨_,rfl,OwnL.nil _ _ _ _ _,bo_q⟩
 | some a =>
  have hcs:∀(j:Nat) (u:Value),(l.flatMap EntryG.cells)[j]? = some u->w.cell? (a.add j)=some u:=by
   intro j u hu;rcases hr with h|⟨b,off,he,_,hc⟩
   ·rw[h] at hu;cases hu
   ·cases he
    rw[show (⟨b,off,none⟩:Addr).add j=⟨b,off+j,none⟩ from by unfold Addr.add;split<;>simp_all];exact hc j u hu
  have Hcs:=Xa hcs;clear hcs hr hA;go_enter Tryz.func194,Tryz.ntmps194
  go_wp2_with (at_builtin;refine wpList_append_own _ rfl _ _ 23 rfl w.heap.size 60 i0 z 5 72 Tryz.underlying23 hi0 hz0 hs0 hb0 hzs (by decide) _ _ _ rfl (World.ownsRow_made w #[] 0 (Nat.le_refl _) (Nat.zero_le _) rfl) a l.length c (l.flatMap EntryG.cells) rfl hfl (fun j u hu=>Lib.cell?_alloc_some _ (Hcs.out j u hu)) hone (by unfold maxLen;omega) (by omega) (by simp) ?_)
  intro v' w1 hown hgrow hnil;go_wp2
  go_ret;refine⟨v',rfl,by simpa[OwnL] using hown,?_⟩;exact((Below.refl _ w).alloc (Nat.le_refl _) _).grown hgrow (by simp) (by intro k hk;simp[Value.ownBlock] at hk;omega)
theorem Xq0 (A:Option Addr) (c:Nat) (l:List RuleG) (w:World) (hr:Rd w A (l.flatMap RuleG.cells)) (hA:A=none->l=[]) (hm:l.length<=1000000) :
  Calls Tryz.prog 195 #[.slice A l.length c] w (Uu RuleG.cells 79 5 l w):=by
 obtain⟨i0,z,hi0,hz0,hzs,hs0,hb0⟩:=Xm0 Xzn;have hfl:(l.flatMap RuleG.cells).length=l.length*5:=Y0 RuleG.cells 5 RuleG.size_cells l
 have hone:∀u∈l.flatMap RuleG.cells,u.oneCell'=true:=by
  intro u hu;obtain⟨x,_,hx⟩:=List.mem_flatMap.1 hu;exact X2e x u hx
 have q22:∀(w:World) (a:Option Addr) (n c n' c':Nat),(binOp .eql 24 (.slice a n c) (.slice none n' c')).run Tryz.prog w = .ok (.bool a.isNone) w:=fun w a n c n' c'=>Lib.run_eql_slice_nil w _ _ a n c n' c' Tryz.underlying24;cases A with
 | none =>
  have hl:=hA rfl;subst hl;go_enter Tryz.func195,Tryz.ntmps195
  go_wp2
  go_ret;exact⟨_,rfl,OwnL.nil _ _ _ _ _,bo_q⟩
 | some a =>
  have hcs:∀(j:Nat) (u:Value),(l.flatMap RuleG.cells)[j]? = some u->w.cell? (a.add j)=some u:=by
   intro j u hu;rcases hr with h|⟨b,off,he,_,hc⟩
   ·rw[h] at hu;cases hu
   ·cases he
    rw[show (⟨b,off,none⟩:Addr).add j=⟨b,off+j,none⟩ from by unfold Addr.add;split<;>simp_all];exact hc j u hu
  have Hcs:=Xa hcs;clear hcs hr hA;go_enter Tryz.func195,Tryz.ntmps195
  go_wp2_with (at_builtin;refine wpList_append_own _ rfl _ _ 24 rfl w.heap.size 79 i0 z 5 80 Tryz.underlying24 hi0 hz0 hs0 hb0 hzs (by decide) _ _ _ rfl (World.ownsRow_made w #[] 0 (Nat.le_refl _) (Nat.zero_le _) rfl) a l.length c (l.flatMap RuleG.cells) rfl hfl (fun j u hu=>Lib.cell?_alloc_some _ (Hcs.out j u hu)) hone (by unfold maxLen;omega) (by omega) (by simp) ?_)
  intro v' w1 hown hgrow hnil;go_wp2
  go_ret;refine⟨v',rfl,by simpa[OwnL] using hown,?_⟩;exact((Below.refl _ w).alloc (Nat.le_refl _) _).grown hgrow (by simp) (by intro k hk;simp[Value.ownBlock] at hk;omega)
theorem Xqz (A:Option Addr) (c:Nat) (l:List PartG) (w:World) (hr:Rd w A (l.flatMap PartG.cells)) (hA:A=none->l=[]) (hm:l.length<=1000000) :
  Calls Tryz.prog 196 #[.slice A l.length c] w (Uu PartG.cells 81 3 l w):=by
 obtain⟨i0,z,hi0,hz0,hzs,hs0,hb0⟩:=Xm0 Xzm;have hfl:(l.flatMap PartG.cells).length=l.length*3:=Y0 PartG.cells 3 PartG.size_cells l
 have hone:∀u∈l.flatMap PartG.cells,u.oneCell'=true:=by
  intro u hu;obtain⟨x,_,hx⟩:=List.mem_flatMap.1 hu;exact X2c x u hx
 have q22:∀(w:World) (a:Option Addr) (n c n' c':Nat),(binOp .eql 76 (.slice a n c) (.slice none n' c')).run Tryz.prog w = .ok (.bool a.isNone) w:=fun w a n c n' c'=>Lib.run_eql_slice_nil w _ _ a n c n' c' Tryz.underlying76;cases A with
 | none =>
  have hl:=hA rfl;subst hl;go_enter Tryz.func196,Tryz.ntmps196
  go_wp2
  go_ret;exact⟨_,rfl,OwnL.nil _ _ _ _ _,bo_q⟩
 | some a =>
  have hcs:∀(j:Nat) (u:Value),(l.flatMap PartG.cells)[j]? = some u->w.cell? (a.add j)=some u:=by
   intro j u hu;rcases hr with h|⟨b,off,he,_,hc⟩
   ·rw[h] at hu;cases hu
   ·cases he
    rw[show (⟨b,off,none⟩:Addr).add j=⟨b,off+j,none⟩ from by unfold Addr.add;split<;>simp_all];exact hc j u hu
  have Hcs:=Xa hcs;clear hcs hr hA;go_enter Tryz.func196,Tryz.ntmps196
  go_wp2_with (at_builtin;refine wpList_append_own _ rfl _ _ 76 rfl w.heap.size 81 i0 z 3 40 Tryz.underlying76 hi0 hz0 hs0 hb0 hzs (by decide) _ _ _ rfl (World.ownsRow_made w #[] 0 (Nat.le_refl _) (Nat.zero_le _) rfl) a l.length c (l.flatMap PartG.cells) rfl hfl (fun j u hu=>Lib.cell?_alloc_some _ (Hcs.out j u hu)) hone (by unfold maxLen;omega) (by omega) (by simp) ?_)
  intro v' w1 hown hgrow hnil;go_wp2
  go_ret;refine⟨v',rfl,by simpa[OwnL] using hown,?_⟩;exact((Below.refl _ w).alloc (Nat.le_refl _) _).grown hgrow (by simp) (by intro k hk;simp[Value.ownBlock] at hk;omega)
theorem X0j {w:World} {base e size n g j:Nat} {v:Value} {xs:List Value} (h:w.ownsRow base e size v n xs) (hg:v.ownBlock=some g) (u:Value):(w.setCell ⟨g,j,none⟩ u).ownsRow base e size v n (xs.set j u):=by
 rcases h.2 with ⟨rfl,_⟩|⟨g',cap,cur,rfl,hb,hc,hn,hm,hs,ht⟩
 ·cases hg
 ·obtain rfl:g'=g:=by simpa[Value.ownBlock] using hg
  refine⟨by simp[h.1],.inr ⟨g',cap,cur.setIfInBounds j u,rfl,hb,heap_setCell_same _ _ _ _ _ _ hc,hn,hm,by simp[hs],?_⟩⟩;rw[Array.toList_setIfInBounds,List.take_set,ht]
theorem Xhd {α:Type} {f:α->List Value} {E sz:Nat} (hf:∀x,(f x).length=sz) {w:World} {base:Nat} {g n c:Nat} {P S:List α} {x x':α} {k j:Nat} {u:Value} (h:OwnL f E sz w base (.slice (some ⟨g,0,none⟩) n c) (P++x :: S)) (hP:P.length=k) (hj:j<sz) (hx:(f x).set j u=f x') :
  OwnL f E sz (w.setCell ⟨g,k*sz+j,none⟩ u) base (.slice (some ⟨g,0,none⟩) n c) (P++x' :: S):=by
 have h2:=X0j (j:=k*sz+j) h rfl u;unfold OwnL;have hl:(P++x' :: S).length=(P++x :: S).length:=by simp
 have hfl:(P.flatMap f).length=k*sz:=by rw[Y0 f sz hf,hP]
 have he:((P++x :: S).flatMap f).set (k*sz+j) u=(P++x' :: S).flatMap f:=by
  rw[List.flatMap_append,List.flatMap_append,List.flatMap_cons,List.flatMap_cons,List.set_append,if_neg (by omega),hfl,Nat.add_sub_cancel_left,List.set_append,if_pos (by rw[hf];exact hj),hx]
 rw[hl,<- he];exact h2
theorem Xfs {α:Type} {f:α->List Value} {E sz:Nat} (hf:∀x,(f x).length=sz) {w:World} {base:Nat} {A:Option Addr} {n c:Nat} {P S:List α} {x:α} {k:Nat} (h:OwnL f E sz w base (.slice A n c) (P++x :: S)) (hP:P.length=k) :
  ∃g cur,A=some ⟨g,0,none⟩/\base<=g/\w.heap[g]? = some (.cells cur E (0,0))/\∀(j:Nat) (u:Value),(f x)[j]? = some u->w.cell? ⟨g,k*sz+j,none⟩=some u:=by
 have hk:k<(P++x :: S).length:=by simp;omega
 rcases h.2 with ⟨h1,h2⟩|⟨g,cap,cur,hv,hb,hk',_,_,_,h4⟩
 ·omega
 ·cases hv
  refine⟨g,cur,rfl,hb,hk',fun j u hu=>?_⟩;have hjl:j<sz:=by have:=(List.getElem?_eq_some_iff.1 hu).1;rw[hf] at this;exact this
  have hfl:(P.flatMap f).length=k*sz:=by rw[Y0 f sz hf,hP]
  have h5:((P++x :: S).flatMap f)[k*sz+j]? = some u:=by
   rw[List.flatMap_append,List.getElem?_append_right (by omega),hfl,Nat.add_sub_cancel_left,List.flatMap_cons,List.getElem?_append_left (by rw[hf];exact hjl)];exact hu
  rw[<- h4,List.getElem?_take] at h5;split at h5
  ·simp[World.cell?,hk'];simpa using h5
  ·cases h5
theorem OwnL.kind {α:Type} {f:α->List Value} {E sz:Nat} {w:World} {base:Nat} {v:Value} {l:List α} (h:OwnL f E sz w base v l) {g:Nat} (hg:v.ownBlock=some g):∃cur,w.heap[g]? = some (.cells cur E (0,0)):=by
 rcases h.2 with ⟨rfl,_⟩|⟨g',cap,cur,rfl,_,hk,_⟩
 ·cases hg
 ·cases hg;exact⟨cur,hk⟩
theorem Xcq {α β:Type} {f:α->List Value} {f':β->List Value} {E E' sz sz':Nat} {w:World} {base base':Nat} {v v':Value} {l:List α} {l':List β} (h:OwnL f E sz w base v l) (h':OwnL f' E' sz' w base' v' l') (hE:E≠E') {g g':Nat} (hg:v.ownBlock=some g) (hg':v'.ownBlock=some g'):g≠g':=by
 rintro rfl;obtain⟨c1,h1⟩:=OwnL.kind h hg;obtain⟨c2,h2⟩:=OwnL.kind h' hg';rw[h1] at h2;cases h2;exact hE rfl
section
attribute [local go_sem] Oper.semAt_some
theorem Xvy:(Tryz.prog.info? 53).map (fun i=>(i.size,i.bytes))=some (6,64):=by kernel_rfl
theorem Xx3:((Tryz.prog.info? 53).bind (fun i=>i.zero)).map (fun z=>z.cells.size)=some 6:=by kernel_rfl
theorem Xiy:∃i z,Tryz.prog.info? 53=some i/\i.zero=some z/\i.size=6/\i.bytes=64/\z.cells.size=6:=by
 have h1:=Xvy;have h2:=Xx3;cases h:Tryz.prog.info? 53 with
 | none=>rw[h] at h1;cases h1
 | some i =>
  rw[h] at h1 h2;cases hz:i.zero with
  | none=>simp[hz] at h2
  | some z =>
   simp[hz] at h1 h2;exact⟨i,z,rfl,hz,h1.1,h1.2,h2⟩
def FarI (B:Nat) (V:World) (t:StrS):Prop:=t.lies V/\(t.xs=[]\/∀p,t.addr=some p->(p.block<B\/∃cs,V.heap[p.block]? = some (.cells cs 9 (0,0))))
theorem Xua {V V':World} {A:Option Addr} {xs:List Value} (h:Rd V A xs) (hs:V.heap.size<=V'.heap.size) (hb:∀a,A=some a->V'.heap[a.block]? = V.heap[a.block]?):Rd V' A xs:=by
 rcases h with h|⟨b,off,rfl,hlt,hc⟩
 ·exact .inl h
 ·exact .inr ⟨b,off,rfl,Nat.lt_of_lt_of_le hlt hs,fun j u hu=>(World.cell?_of_block (w:=V) (a:=⟨b,off+j,none⟩) (hb ⟨b,off,none⟩ rfl)).trans (hc j u hu)⟩
theorem FarI.same {B:Nat} {V V':World} {t:StrS} (h:FarI B V t) (hs:V.heap.size<=V'.heap.size) (hb:∀k,(k<B\/∃cs,V.heap[k]? = some (.cells cs 9 (0,0)))->V'.heap[k]? = V.heap[k]?):FarI B V' t :=
 ⟨⟨(h.2.elim (fun e => .inl (by rw[e];rfl)) fun h2=>Xua h.1.rd hs fun a ha=>hb _ (h2 a ha)),h.1.cap,h.1.max,h.1.nil⟩,h.2.imp id fun h2 p hp=>(h2 p hp).imp id fun ⟨cs,hc⟩=>⟨cs,(hb _ (.inr ⟨cs,hc⟩)).trans hc⟩⟩
theorem FarI.ext {B:Nat} {V V':World} {t:StrS} (h:FarI B V t) (hB:B<=V.heap.size) (hb:Below V.heap.size V V'):FarI B V' t :=
 h.same hb.size fun k hk=>hb.block k (by rcases hk with h|⟨cs,h⟩;omega;exact Xd h)
theorem FarI.grown {B:Nat} {V V':World} {t:StrS} {v:Value} {L:List ItemG} (h:FarI B V t) (ho:OwnL ItemG.cells 53 6 V B v L) (hB:B<=V.heap.size) (hg:V.grownBy V' v.ownBlock):FarI B V' t :=
 h.same hg.size fun k hk=>hg.block k (by rcases hk with h|⟨cs,h⟩;omega;exact Xd h) (fun e=>by
  rcases hk with h|⟨cs,h⟩
  ·have:=(ho.lt k e.symm).1;omega
  ·obtain⟨cur,hc⟩:=OwnL.kind ho e.symm
   rw[h] at hc;cases hc)
theorem FarI.box {B:Nat} {V:World} {t:StrS} {b T:Nat} {cs:Array Value} {fr:Nat×Nat} (h:FarI B V t) (hb:V.heap[b]? = some (.cells cs T fr)) (hT:T≠9) (hB:B<=b) (j:Nat) (v:Value):FarI B (V.setCell ⟨b,j,none⟩ v) t :=
 h.same (by simp[World.setCell]) fun k hk=>Below.heap_setCell _ _ _ _ (by
  rintro rfl;rcases hk with h|⟨cs',h⟩
  ·omega
  ·have h':=hb.symm.trans h
   simp only[Option.some.injEq,Obj.cells.injEq] at h';exact hT h'.2.1)
theorem FarI.one {B:Nat} {V V':World} {t:StrS} {l:Nat} {o:Obj} (h:FarI B V t) (hl:B<=l) (ho:V.heap[l]? = some o) (hn:Uc o) (hs:OneStep l V V'):FarI B V' t :=
 h.same (by rw[hs.size];exact Nat.le_refl _) fun k hk=>hs.block k (by
  rintro rfl;rcases hk with h|⟨cs,h⟩
  ·omega
  ·rw[h] at ho;exact hn _ _ _ (Option.some.inj ho).symm)
theorem FarI.low {V:World} {t:StrS} {w:World} (hw:t.lies w) (hb:∀k,k<w.heap.size->V.heap[k]? = w.heap[k]?) (hs:w.heap.size<=V.heap.size):FarI w.heap.size V t:=by
 rcases hw.rd with h|⟨b,off,he,hlt,hc⟩
 ·exact⟨⟨.inl h,hw.cap,hw.max,hw.nil⟩,.inl (by simpa[strs] using h)⟩
 ·have ha:∀p,t.addr=some p->p.block<w.heap.size:=fun p hp=>by rw[he] at hp;cases hp;exact hlt
  exact⟨⟨Xua hw.rd hs (fun a h=>hb _ (ha a h)),hw.cap,hw.max,hw.nil⟩,.inr fun p hp => .inl (ha p hp)⟩
def EncI (B:Nat) (x:Ye) (vs:Array Value) (V:World):Prop:=∃y:ItemG,y.c=x/\vs=#[y.vl]/\FarI B V y.tgt
def SeqI (B n0:Nat) (v0:Value) (L:List ItemG) (w:World) (pre:List Ye) (V:World):Prop :=
 ∃v L',Boxed V n0 27 v/\OwnL ItemG.cells 53 6 V B v (L++L')/\L'.map ItemG.c=pre/\(∀x∈L++L',FarI B V x.tgt)/\Only (fun k=>v0.ownBlock=some k) w V/\(v.ownBlock=v0.ownBlock\/∀g,v.ownBlock=some g->w.heap.size<=g)
theorem Xja {B n0:Nat} {v0:Value} {L:List ItemG} {w V V':World} {pre:List Ye} (hB:B<=w.heap.size) (h:SeqI B n0 v0 L w pre V) (hb:Below V.heap.size V V'):SeqI B n0 v0 L w pre V':=by
 obtain⟨v,L',h1,h2,h3,h4,h5,h6⟩:=h;have hs:=h5.size;exact⟨v,L',(hb.block _ h1.lt).trans h1,h2.ext hb,h3,fun x hx=>(h4 x hx).ext (by omega) hb,h5.ext hb,h6⟩
theorem Xjb {B n0:Nat} {v0:Value} {L:List ItemG} {w V V':World} {pre:List Ye} {l:Nat} {o:Obj} (hB:B<=w.heap.size) (h:SeqI B n0 v0 L w pre V) (hl:w.heap.size<=l) (ho:V.heap[l]? = some o) (hn:Uc o) (hs:OneStep l V V'):SeqI B n0 v0 L w pre V':=by
 obtain⟨v,L',h1,h2,h3,h4,h5,h6⟩:=h;have hc:∀ {k T:Nat} {cs:Array Value} {fr:Nat×Nat},V.heap[k]? = some (Obj.cells cs T fr)->V'.heap[k]? = some (Obj.cells cs T fr):=fun hk=>(hs.block _ (by rintro rfl;rw[ho] at hk;exact hn _ _ _ (Option.some.inj hk))).trans hk;refine⟨v,L',hc h1,h2.block fun g hg=>?_,h3,fun x hx=>(h4 x hx).one (by omega) ho hn hs,⟨hs.os.trans h5.os,hs.tape.trans h5.tape,hs.output.trans h5.output,by rw[hs.size];exact h5.size,fun k hk hnk=>(hs.block k (by omega)).trans (h5.block k hk hnk)⟩,h6⟩;obtain⟨cur,hk⟩:=OwnL.kind h2 hg;exact(hc hk).trans hk.symm
def Xtg (B:Nat) (v0:Value) (L:List ItemG) (xs:List Ye) (w:World) (e:Ending) (V:World):Prop :=
 ∃v L',e = .returned v/\OwnL ItemG.cells 53 6 V B v (L++L')/\L'.map ItemG.c=xs/\(∀x∈L++L',FarI B V x.tgt)/\Only (fun k=>v0.ownBlock=some k) w V
def SeqA (B n0:Nat) (v0:Value) (L:List ItemG) (w:World) (F:Value->Value->Array Value) (x:Ye) (a':Act) (pre:List Ye) (V:World):Prop :=
 ∃(y:ItemG) (bx:Nat),y.c=x/\a'={tmps:=F (.pointer (some ⟨bx,0,none⟩)) (y.vl),defers:=[]}/\V.heap[bx]? = some y.ob/\n0<bx/\FarI B V y.tgt/\SeqI B n0 v0 L w pre V
theorem Xdp {M:Nat->Prop} {w V V':World} {row:Option Nat} (h:Only M w V) (hg:V.grownBy V' row) (hr:∀g,row=some g->M g\/w.heap.size<=g):Only M w V' :=
 ⟨hg.os.trans h.os,hg.tape.trans h.tape,hg.output.trans h.output,Nat.le_trans h.size hg.size,fun k hk hn=>(hg.block k (Nat.lt_of_lt_of_le hk h.size) (fun e=>by rcases hr k e.symm with h1|h1;exact hn h1;omega)).trans (h.block k hk hn)⟩
theorem X0t {B:Nat} {v0:Value} {L M:List ItemG} {L':List ItemG} {w W w1:World} {v v':Value} {y:ItemG} {pre:List Ye} (hM:L++L'=M) (hB:B<=w.heap.size)
  (hown:OwnL ItemG.cells 53 6 W B v M) (hmap:L'.map ItemG.c=pre) (hfar:∀x∈M,FarI B W x.tgt) (hfy:FarI B W y.tgt) (hon:Only (fun k=>v0.ownBlock=some k) w W) (hblk:v.ownBlock=v0.ownBlock\/∀g,v.ownBlock=some g->w.heap.size<=g)
  (hgrow:(W.alloc y.ob).grownBy w1 v.ownBlock) (hat:v'.ownBlock=v.ownBlock\/v'.ownBlock=some (W.alloc y.ob).heap.size) (hv1:Boxed w1 w.heap.size 27 v)
  (hv2:Boxed (w1.setCell ⟨w.heap.size,0,none⟩ v') w.heap.size 27 v') (hr2:(w1.setCell ⟨w.heap.size,0,none⟩ v').ownsRow B 53 6 v' (M.length+1) (M.flatMap ItemG.cells++[.int .i64 y.cat,.int .i64 y.frm,.int .i64 y.unt,.int .i64 y.cost,.slice y.tgt.addr y.tgt.xs.length y.tgt.cap,.int .i64 y.term])) :
  KeepsX W (w1.setCell ⟨w.heap.size,0,none⟩ v')/\SeqI B w.heap.size v0 L w (pre++[y.c]) (w1.setCell ⟨w.heap.size,0,none⟩ v'):=by
 have hba:Below W.heap.size W (W.alloc y.ob):=ba_q;have hos:=hon.size;have hoa:=hown.ext hba
 have hrow:∀g,v.ownBlock=some g->v0.ownBlock=some g\/w.heap.size<=g:=fun g hg=>by
  rcases hblk with h|h
  ·exact .inl (h ▸ hg)
  ·exact .inr (h g hg)
 have far:∀t:StrS,FarI B W t->FarI B (w1.setCell ⟨w.heap.size,0,none⟩ v') t:=fun t ht =>
  FarI.box ((ht.ext (by omega) hba).grown hoa (by simp;omega) hgrow) hv1 (by decide) hB 0 v'
 refine⟨((KeepsX.below hba).trans (KeepsX.grown hgrow fun g hg=>?_)).trans (KeepsX.setCell hv1 0 v'),v',L'++[y],hv2,?_,by rw[List.map_append,hmap];rfl,?_,?_,?_⟩
 ·obtain⟨cur,hc⟩:=OwnL.kind hoa hg
  exact⟨cur,_,_,hc⟩
 ·rw[<- List.append_assoc,hM];exact OwnL.snoc y hr2
 ·intro x hx
  rw[<- List.append_assoc,hM] at hx;rcases List.mem_append.1 hx with h|h
  ·exact far _ (hfar x h)
  ·obtain rfl:=List.mem_singleton.1 h
   exact far _ hfy
 ·exact(Xdp (hon.ext hba) hgrow hrow).setCell (p:=⟨w.heap.size,0,none⟩) (.inr (Nat.le_refl _)) _
 ·rcases hat with h|h
  ·rw[h];exact hblk
  ·right
   intro g hg;rw[h] at hg;simp at hg;omega
theorem Xhs (gf:Nat) (lb:Array Value) (B:Nat) (v0:Value) (L:List ItemG) (R:Nat->Prop) (xs:List Ye) (w:World)
  (hit:Xhm Tryz.prog gf lb (EncI B) R xs w) (eg:∀args w,(callFunc gf args).run Tryz.prog w = .ok (.enter gf args) w) (hB:B<=w.heap.size)
  (hR:∀k,R k->k<w.heap.size/\v0.ownBlock≠some k) (hown:OwnL ItemG.cells 53 6 w B v0 L) (hfar:∀x∈L,FarI B w x.tgt) (hlen:L.length+xs.length<=1000000) :
  Calls Tryz.prog 86 #[v0,.func (.func gf) #[] lb] w (Xtg B v0 L xs w):=by
 obtain⟨i0,z0,hi0,hz0,hz1,hz2,hzs⟩:=Xiy;obtain⟨A,c,rfl,_⟩:=Y1 hown;refine Z0 Tryz.func86 rfl ?_;simp only[Tryz.ntmps86,Zr,Nat.reduceAdd,Nat.reduceSub];obtain⟨w1,hw1⟩:∃w1,w.alloc (.cells #[.slice A L.length c] 27)=w1:=⟨_,rfl⟩
 have hb1:=X5 hw1;have hz1':w1.heap.size=w.heap.size+1:=by rw[<- hw1];simp
 have hx1:Boxed w1 w.heap.size 27 (.slice A L.length c):=by rw[<- hw1];exact Boxed.new _ _ _
 have hI0:SeqI B w.heap.size (.slice A L.length c) L w [] w1:=⟨.slice A L.length c,[],hx1,by rw[List.append_nil];exact hown.ext hb1,rfl,fun x hx=>(hfar x (by simpa using hx)).ext hB hb1,.of_below hb1,.inl rfl⟩
 have HW1:=Xa hw1;have Hlen:=Xa hlen;have HB:=Xa hB;have HR:=Xa hR;have Hz:=Xa hz1';have Hi0:=Xa hI0;have Hit:=Xa hit;clear hw1 hlen hB hR hz1' hI0 hown hfar hit hb1 hx1;refine Xm fun K1 hK1=>?_;go_wp2
 rw[HW1.out];refine Uq ?_;refine Xm fun K2 hK2=>?_;go_wp2
 refine Zl ?_
 refine Xx0 (xs:=xs) (R:=R) (w0:=w) Tryz.func86 rfl eg Hit.out (fun x vs W h=>by obtain⟨y,_,rfl,_⟩:=h;rfl)
  (SeqI B w.heap.size (.slice A L.length c) L w) (fun s V h k hk=>?_) (fun s V V' h hb=>Xja HB.out h hb) (fun s V V' l o h hl ho hn hs=>Xjb HB.out h (by have:=Hz.out;omega) ho hn hs) Hi0.out
  (SeqA B w.heap.size (.slice A L.length c) L w (fun px vx=>#[.slice A L.length c,.func (.func gf) #[] lb,.pointer (some ⟨w.heap.size,0,none⟩),undef,.slice none 0 0,px,.func (.func gf) #[] lb,vx,undef,undef,undef,undef,undef]))
  (fun x a' s V V' l o h hl ho hn hs=>?_) ?_ ?_ ?_
 ·obtain⟨_,_,_,_,_,_,h5,_⟩:=h
  obtain⟨r1,r2⟩:=HR.out k hk;exact h5.block k r1 r2
 ·obtain⟨y,bx,h1,h2,h3,h4,h5,h6⟩:=h
  refine⟨y,bx,h1,h2,(hs.block _ ?_).trans h3,h4,h5.one (by have:=HB.out;have:=Hz.out;omega) ho hn hs,Xjb HB.out h6 (by have:=Hz.out;omega) ho hn hs⟩;rintro rfl;rw[ho] at h3;exact hn _ _ _ (Option.some.inj h3)
 ·rintro l pre x vs W hi hpre ⟨y,hy,rfl,hfy⟩
  have Hi:=Xa hi;have Hfy:=Xa hfy;have hsW:w.heap.size<W.heap.size:=by obtain⟨_,_,h,_⟩:=hi;exact h.lt
  have HsW:=Xa hsW;clear hi hfy hsW hpre;refine wpIn_mono (Q:=Exit.then (fun a' W'=>KeepsX W W'/\SeqA B w.heap.size (.slice A L.length c) L w (fun px vx=>#[.slice A L.length c,.func (.func gf) #[] lb,.pointer (some ⟨w.heap.size,0,none⟩),undef,.slice none 0 0,px,.func (.func gf) #[] lb,vx,undef,undef,undef,undef,undef]) x a' pre W') (fun _ _ _=>False)) ?_ (fun e a w h=>h);gi_wp2
  refine⟨KeepsX.below ba_q,y,W.heap.size,hy,rfl,World.alloc_heap_new _ _,HsW.out,Hfy.out.ext ?_ ba_q,Xja HB.out Hi.out ba_q⟩;have:=HB.out;have:=HsW.out;omega
 ·rintro l pre x a' W ⟨y,bx,rfl,rfl,hbx,hnx,hfy,v,L',hv,hown,hmap,hfar,hon,hblk⟩ hpre
  have hlen1:pre.length<xs.length:=by
   obtain⟨t,ht⟩:=hpre;rw[<- ht];simp
  have hl3:(L++L').length=L.length+pre.length:=by rw[List.length_append,<- hmap,List.length_map]
  have hc:=hv.cell;have hBs:=hon.size;have HBw:=HB.out;have hlen2:(L++L').length<1000000:=by have:=Hlen.out;omega
  obtain⟨d0,d1,d2,d3,d4,d5⟩:=gb6 hbx;obtain⟨Av,cv,rfl,_⟩:=Y1 hown;have hrow:W.ownsRow B 53 6 (.slice Av (L++L').length cv) (L++L').length ((L++L').flatMap ItemG.cells):=hown;have Hrow0:=Xa hrow;have Hon:=Xa hon;have Hblk:=Xa hblk;have Hfar:=Xa hfar;have Hfy:=Xa hfy;have Hmap:=Xa hmap;obtain⟨M,hM⟩:∃M,L++L'=M:=⟨_,rfl⟩
  have HM:=Xa hM;rw[hM] at hown hrow hv hc hlen2 Hfar Hblk;clear Hlen hl3 hlen1 hM hon hblk hfar hfy hmap;gi_wp2_with (gi_at_builtin;refine Za _ rfl _ _ 27 rfl B 53 i0 z0 6 64 Tryz.underlying27 hi0 hz0 hz1 hz2 hzs (by decide) _ _ _ rfl (hrow.alloc _) ⟨W.heap.size,0,none⟩ 1 1 [.int .i64 y.cat,.int .i64 y.frm,.int .i64 y.unt,.int .i64 y.cost,.slice y.tgt.addr y.tgt.xs.length y.tgt.cap,.int .i64 y.term] rfl rfl (Qa W [.int .i64 y.cat,.int .i64 y.frm,.int .i64 y.unt,.int .i64 y.cost,.slice y.tgt.addr y.tgt.xs.length y.tgt.cap,.int .i64 y.term] 53) (by simp[Value.oneCell']) (by unfold maxLen;omega) (by omega) (by simp;omega) ?_;intro v' w1 hown' hgrow hat;obtain⟨g',cap',rfl⟩:=ownsRow_succ hown';obtain⟨hv1,hv2,hr2,hk2,hb2⟩:=hv.appended (by decide) hrow (by omega) HBw hown' hgrow;have hc1:=hv1.cell;have hf1:=hv1.frozen)
  exact X0t HM.out HBw hown Hmap.out Hfar.out Hfy.out Hon.out Hblk.out hgrow hat hv1 hv2 hr2
 ·rintro D W hD ⟨v,L',hv,hown,hmap,hfar,hon,hblk⟩ hdef
  have hc:=hv.cell;obtain⟨Av,cv,rfl,_⟩:=Y1 hown;have hsD:w.heap.size<=D:=by have:=Hz.out;omega
  have hnD:w.heap.size≠D:=by have:=Hz.out;omega
  refine Ur ?_;go_wp2
  have hst:=OneStep.put W D (.deferred none);refine Qk hdef (results_tmp rfl _ _ _) ?_;obtain⟨v9,L9,g1,g2,g3,g4,g5,g6⟩:=Xjb HB.out ⟨.slice Av (L++L').length cv,L',hv,hown,hmap,hfar,hon,hblk⟩ hsD hdef (Tr _) hst
  have e9:v9 = .slice Av (L++L').length cv:=by
   have h1:(W.putObj D (.deferred none)).heap[w.heap.size]? = some (.cells #[.slice Av (L++L').length cv] 27 (0,0)):=(World.putObj_heap_other hnD).trans hv;have h2:=h1.symm.trans g1;simp only[Option.some.injEq,Obj.cells.injEq,Array.mk.injEq,List.cons.injEq] at h2;exact h2.1.1.symm
  refine⟨v9,L9,by rw[e9,List.length_append];rfl,g2,g3,g4,g5⟩
end
theorem T4:(Tryz.prog.info? 3).map (fun i=>(i.zero,i.size,i.bytes))=some (some (.int .i64 0),1,8):=by kernel_rfl
def intC (x:Int):List Value:=[.int .i64 x]
theorem Xos (x:Int):∀u∈intC x,u.oneCell'=true:=by intro u hu;simp[intC] at hu;subst hu;rfl
abbrev OwnI (w:World) (base:Nat) (v:Value) (l:List Int):Prop:=OwnL intC 3 1 w base v l
theorem Xzq {n:Nat} (h:n<=10000):n+1<=maxLen/\(n+1)*8<=140737488355328:=by unfold maxLen;omega
theorem Vj (l:List Int):(l.flatMap intC).length=l.length*1:=Y0 intC 1 (fun _=>rfl) l
theorem Xou (l:List Int):∀u∈l.flatMap intC,u.oneCell'=true:=by
 intro u hu;obtain⟨x,_,hx⟩:=List.mem_flatMap.1 hu;exact Xos x u hx
/-! ### increasing lists of numbers -/
structure TgP where
 text:ByteArray
 deps:List Int
 term:Int
deriving DecidableEq
def Vi (i k:Int):List Int:=(List.range (k-i).toNat).map fun n:Nat=>i+(n:Int)
def putI (n:Int):List Int->List Int
 | []=>[n]
 | x :: l=>if x<n then x :: putI n l else if x=n then x :: l else n :: x :: l
def Xlm (a l:List Int):List Int:=l.foldl (fun a n=>putI n a) a
def setI (l:List Int):List Int:=Xlm [] l
def IncI (l:List Int):Prop:=l.Pairwise (· < ·)
theorem Xiv {x n:Int}:∀ {l:List Int},x∈putI n l↔x=n\/x∈l
 | []=>by simp[putI]
 | y :: l=>by
  unfold putI;split
  ·rw[List.mem_cons,Xiv (l:=l),List.mem_cons]
   constructor
   ·rintro(h|h|h)
    ·exact .inr (.inl h)
    ·exact .inl h
    ·exact .inr (.inr h)
   ·rintro(h|h|h)
    ·exact .inr (.inl h)
    ·exact .inl h
    ·exact .inr (.inr h)
  ·split
   ·rename_i h
    subst h;simp
   ·simp
theorem Xor {n:Int}:∀ {l:List Int},IncI l->IncI (putI n l)
 | [],_=>by simp[putI,IncI]
 | y :: l,h=>by
  have h':=List.pairwise_cons.1 h;unfold putI;split
  ·rename_i hlt
   refine List.pairwise_cons.2 ⟨fun z hz=>?_,Xor h'.2⟩;rcases Xiv.1 hz with rfl|hz
   ·exact hlt
   ·exact h'.1 z hz
  ·split
   ·exact h
   ·rename_i h1 h2
    refine List.pairwise_cons.2 ⟨fun z hz=>?_,h⟩;rcases List.mem_cons.1 hz with rfl|hz
    ·omega
    ·have:=h'.1 z hz;omega
theorem Xlb {x:Int}:∀ {l a:List Int},x∈Xlm a l↔x∈a\/x∈l
 | [],a=>by simp[Xlm]
 | n :: l,a=>by
  show x∈Xlm (putI n a) l↔_;rw[Xlb (l:=l),Xiv,List.mem_cons];constructor
  ·rintro((h|h)|h)
   ·exact .inr (.inl h)
   ·exact .inl h
   ·exact .inr (.inr h)
  ·rintro(h|h|h)
   ·exact .inl (.inr h)
   ·exact .inl (.inl h)
   ·exact .inr h
theorem Xk3:∀ {l a:List Int},IncI a->IncI (Xlm a l)
 | [],_,h=>h
 | n :: l,a,h=>Xk3 (l:=l) (a:=putI n a) (Xor h)
theorem Xt0:∀ {a b:List Int},IncI a->IncI b->(∀x,x∈a↔x∈b)->a=b
 | [],[],_,_,_=>rfl
 | [],y :: m,_,_,h=>absurd ((h y).2 (List.mem_cons_self ..)) (by simp)
 | x :: l,[],_,_,h=>absurd ((h x).1 (List.mem_cons_self ..)) (by simp)
 | x :: l,y :: m,ha,hb,h=>by
  have ha':=List.pairwise_cons.1 ha;have hb':=List.pairwise_cons.1 hb
  have hxy:x=y:=by
   rcases List.mem_cons.1 ((h x).1 (List.mem_cons_self ..)) with e|e
   ·exact e
   ·rcases List.mem_cons.1 ((h y).2 (List.mem_cons_self ..)) with e2|e2
    ·exact e2.symm
    ·have h1:=hb'.1 x e
     have h2:=ha'.1 y e2;omega
  subst hxy
  congr 1
  refine Xt0 ha'.2 hb'.2 fun z=>?_;constructor
  ·intro hz
   rcases List.mem_cons.1 ((h z).1 (List.mem_cons_of_mem _ hz)) with e|e
   ·subst e;exact absurd (ha'.1 z hz) (by omega)
   ·exact e
  ·intro hz
   rcases List.mem_cons.1 ((h z).2 (List.mem_cons_of_mem _ hz)) with e|e
   ·subst e;exact absurd (hb'.1 z hz) (by omega)
   ·exact e
theorem Xz7 {x:Int} {l:List Int}:x∈setI l↔x∈l:=by unfold setI;rw[Xlb];simp
theorem Xzj (l:List Int):IncI (setI l):=Xk3 List.Pairwise.nil
/-! ### translations -/
def kidN (parts:List PartG) (p:Nat):Nat:=(parts.take p).countP fun x=>decide (x.text.size=0)
def litsV:List PartG->List TreeV->Int->List Int
 | [],_,_=>[]
 | p :: ps,ks,i=>if p.text.size≠0 then i :: litsV ps ks (i+1) else match ks with|[]=>[]|x :: ks'=>litsV ps ks' x.unt
def Uf (x:ItemG) (ab:List Int):List TgP:=x.tgt.xs.map fun s=>⟨s,setI (Vi x.frm x.unt++ab),x.term⟩
mutual
def Yj (g:Gram) (items:List ItemG):TreeV->List Int->List TgP
 | .node r j i k kids,ab =>
  if r<0 then (match items[j.toNat]? with|some x=>Uf x ab|none=>[])
  else match g.rules.xs[r.toNat]? with
   | none=>[]
   | some ru=>ru.gives.xs.flatMap fun y=>if y.text.size≠0 then [⟨y.text,setI (Vi i k++ab), -1⟩] else (match (Xcu g items kids)[kidN ru.parts.xs y.part.toNat]? with|some f=>f (ab++litsV ru.parts.xs kids i)|none=>[])
def Xcu (g:Gram) (items:List ItemG):List TreeV->List (List Int->List TgP)
 | []=>[]
 | t :: l=>Yj g items t :: Xcu g items l
end
def TgP.more (l:List Int) (x:TgP):TgP:=⟨x.text,Xlm x.deps l,x.term⟩
theorem Xgz (g:Gram) (items:List ItemG):∀(l:List TreeV) (n:Nat),(Xcu g items l)[n]? = (l[n]?).map (Yj g items)
 | [],n=>by simp[Xcu]
 | t :: l,0=>by simp[Xcu]
 | t :: l,n+1=>by simp[Xcu,Xgz g items l n]
theorem Xca (g:Gram) (items:List ItemG) {r j i k:Int} {kids:List TreeV} {ru:RuleG} (hr:¬r<0) (h:g.rules.xs[r.toNat]? = some ru) (ab:List Int) :
  Yj g items (.node r j i k kids) ab=ru.gives.xs.flatMap fun y=>if y.text.size≠0 then [⟨y.text,setI (Vi i k++ab), -1⟩] else (match kids[kidN ru.parts.xs y.part.toNat]? with|some t=>Yj g items t (ab++litsV ru.parts.xs kids i)|none=>[]):=by
 rw[Yj,if_neg hr,h];simp only[Xgz]
 congr 1
 funext y
 split
 ·rfl
 ·cases kids[kidN ru.parts.xs y.part.toNat]? <;> rfl
theorem Xat {α β:Type} {f g:α->List β}:∀ {l:List α},(∀a∈l,f a=g a)->l.flatMap f=l.flatMap g
 | [],_=>rfl
 | a :: l,h=>by rw[List.flatMap_cons,List.flatMap_cons,h a (List.mem_cons_self ..),Xat fun b hb=>h b (List.mem_cons_of_mem _ hb)]
end Go.Proofs.YtolpbjjapodmnaaGreatDoor
/- A table: rows of numbers, each in a block of its own, and a block of their slices. No program in sight. -/
namespace Go.Han
open Go.RowKit
theorem Xs {w:World} {b t:Nat} {cs:Array Value} (h:w.heap[b]? = some (.cells cs t (0,0))) (o:Nat) (u:Value):(w.setCell ⟨b,o,none⟩ u).heap[b]? = some (.cells (cs.setIfInBounds o u) t (0,0)):=by
 simp[World.setCell,Array.getElem?_modify,h]
structure Grid (W:World) (H la lb:Nat) (M:Nat->Prop) (rb:Nat->Nat) (f:Nat->Nat->Nat):Prop where
 hd:∃(cs:Array Value) (T:Nat),W.heap[H]? = some (.cells cs T (0,0))/\cs.size=la+1/\∀i,M i->cs[i]? = some (.slice (some ⟨rb i,0,none⟩) (lb+1) (lb+1))
 row:∀i,M i->∃(cs:Array Value) (T:Nat),W.heap[rb i]? = some (.cells cs T (0,0))/\cs.size=lb+1/\∀k,k<=lb->cs[k]? = some (.int .i64 (f i k:Nat))
 inj:∀i j,M i->M j->rb i=rb j->i=j
 ne:∀i,M i->rb i≠H
namespace Grid
variable {W:World} {H la lb:Nat} {M:Nat->Prop} {rb:Nat->Nat} {f:Nat->Nat->Nat}
def own (H:Nat) (M:Nat->Prop) (rb:Nat->Nat) (k:Nat):Prop:=k=H\/∃i,M i/\k=rb i
theorem lt (h:Grid W H la lb M rb f):H<W.heap.size:=by
 obtain⟨cs,T,h1,_⟩:=h.hd;exact Xd h1
theorem rlt (h:Grid W H la lb M rb f) {i:Nat} (hi:M i):rb i<W.heap.size:=by
 obtain⟨cs,T,h1,_⟩:=h.row i hi;exact Xd h1
theorem olt (h:Grid W H la lb M rb f) {k:Nat} (hk:own H M rb k):k<W.heap.size:=by
 rcases hk with rfl|⟨i,hi,rfl⟩
 ·exact h.lt
 ·exact h.rlt hi
theorem of_blocks {W':World} (h:Grid W H la lb M rb f) (hb:∀k,own H M rb k->W'.heap[k]? = W.heap[k]?):Grid W' H la lb M rb f:=by
 refine⟨?_,fun i hi=>?_,h.inj,h.ne⟩
 ·obtain⟨cs,T,h1,h2⟩:=h.hd
  exact⟨cs,T,(hb _ (.inl rfl)).trans h1,h2⟩
 ·obtain⟨cs,T,h1,h2⟩:=h.row i hi
  exact⟨cs,T,(hb _ (.inr ⟨i,hi,rfl⟩)).trans h1,h2⟩
theorem ext {W':World} (h:Grid W H la lb M rb f) (hb:Below W.heap.size W W'):Grid W' H la lb M rb f :=
 h.of_blocks fun k hk=>hb.block k (h.olt hk)
theorem cell (h:Grid W H la lb M rb f) {i k:Nat} (hi:M i) (hk:k<=lb):W.cell? ⟨rb i,k,none⟩=some (.int .i64 (f i k:Nat)):=by
 obtain⟨cs,T,h1,_,h2⟩:=h.row i hi;rw[gblk h1];exact h2 k hk
theorem free (h:Grid W H la lb M rb f) {i:Nat} (hi:M i) (k:Nat):W.frozen? ⟨rb i,k,none⟩=false:=by
 obtain⟨cs,T,h1,_⟩:=h.row i hi;exact Xf h1 k
def upd (f:Nat->Nat->Nat) (i k v:Nat):Nat->Nat->Nat:=fun j m=>if j=i/\m=k then v else f j m
theorem X09 (f:Nat->Nat->Nat) (i k v:Nat):upd f i k v i k=v:=by unfold upd;rw[if_pos ⟨rfl,rfl⟩]
theorem Xl2 {f:Nat->Nat->Nat} {i k v j m:Nat} (h:¬(j=i/\m=k)):upd f i k v j m=f j m:=by unfold upd;rw[if_neg h]
theorem store (h:Grid W H la lb M rb f) {i k:Nat} (hi:M i) (hk:k<=lb) (v:Nat):Grid (W.setCell ⟨rb i,k,none⟩ (.int .i64 (v:Nat))) H la lb M rb (upd f i k v):=by
 refine⟨?_,fun j hj=>?_,h.inj,h.ne⟩
 ·obtain⟨cs,T,h1,h2⟩:=h.hd
  exact⟨cs,T,(Below.heap_setCell _ _ _ _ (Ne.symm (h.ne i hi))).trans h1,h2⟩
 ·obtain⟨cs,T,h1,h2,h3⟩:=h.row j hj
  by_cases hji:j=i
  ·subst hji
   refine⟨_,T,Xs h1 k _,by simpa using h2,fun m hm=>?_⟩;by_cases hmk:m=k
   ·subst hmk
    rw[X09];exact Array.getElem?_setIfInBounds_self_of_lt (by omega)
   ·rw[Xl2 (by rintro⟨_,h⟩;exact hmk h)]
    rw[Array.getElem?_setIfInBounds_ne (Ne.symm hmk)];exact h3 m hm
  ·refine⟨cs,T,(Below.heap_setCell _ _ _ _ (fun e=>hji (h.inj _ _ hj hi e))).trans h1,h2,fun m hm=>?_⟩
   rw[Xl2 (by rintro⟨h,_⟩;exact hji h)];exact h3 m hm
theorem add (h:Grid W H la lb M rb f) {i r T z:Nat} (hi:i<=la) (hM:¬M i) (hr:W.heap[r]? = some (.cells (Array.replicate (lb+1) (.int .i64 (z:Nat))) T (0,0))) (hnr:∀k,own H M rb k->k≠r) :
  Grid (W.setCell ⟨H,i,none⟩ (.slice (some ⟨r,0,none⟩) (lb+1) (lb+1))) H la lb (fun j=>j=i\/M j) (fun j=>if j=i then r else rb j) (fun j k=>if j=i then z else f j k):=by
 refine⟨?_,?_,?_,?_⟩
 ·obtain⟨cs,T',h1,h2,h3⟩:=h.hd
  refine⟨_,T',Xs h1 i _,by simpa using h2,fun j hj=>?_⟩;by_cases hji:j=i
  ·subst hji
   rw[if_pos rfl];exact Array.getElem?_setIfInBounds_self_of_lt (by omega)
  ·simp only[if_neg hji]
   rw[Array.getElem?_setIfInBounds_ne (Ne.symm hji)];exact h3 j (hj.resolve_left hji)
 ·intro j hj
  by_cases hji:j=i
  ·subst hji
   simp only[if_true];refine⟨_,T,(Below.heap_setCell _ _ _ _ (fun e=>hnr H (.inl rfl) e.symm)).trans hr,by simp,fun k hk=>?_⟩;simp[Array.getElem?_replicate];omega
  ·simp only[if_neg hji]
   obtain⟨cs,T',h1,h2⟩:=h.row j (hj.resolve_left hji);exact⟨cs,T',(Below.heap_setCell _ _ _ _ (h.ne j (hj.resolve_left hji))).trans h1,h2⟩
 ·intro j k hj hk e
  by_cases hji:j=i<;>by_cases hki:k=i
  ·rw[hji,hki]
  ·subst hji
   simp only[if_true,if_neg hki] at e;exact absurd e.symm (hnr _ (.inr ⟨k,hk.resolve_left hki,rfl⟩))
  ·subst hki
   simp only[if_true,if_neg hji] at e;exact absurd e (hnr _ (.inr ⟨j,hj.resolve_left hji,rfl⟩))
  ·simp only[if_neg hji,if_neg hki] at e
   exact h.inj j k (hj.resolve_left hji) (hk.resolve_left hki) e
 ·intro j hj
  by_cases hji:j=i
  ·subst hji
   simp only[if_true];exact fun e=>hnr H (.inl rfl) e.symm
  ·simp only[if_neg hji]
   exact h.ne j (hj.resolve_left hji)
end Grid
end Go.Han
namespace Go.Proofs.YtolpbjjapodmnaaGreatDoor
open Go.RowKit Go.Han
set_option maxRecDepth 100000
attribute [local irreducible] wpStill wpQuiet
set_option maxHeartbeats 8000000
section
attribute [local go_sem] Oper.semAt_some
theorem Xt2 (l:List Int):l.flatMap intC=l.map (Value.int .i64):=by
 induction l with
 | nil=>rfl
 | cons x l ih=>rw[List.flatMap_cons,ih];rfl
structure TgG where
 text:ByteArray
 dA:Option Addr
 dc:Nat
 deps:List Int
 term:Int
def TgG.cells (x:TgG):List Value:=[.string x.text,.slice x.dA x.deps.length x.dc,.int .i64 x.term]
theorem TgG.size_cells (x:TgG):x.cells.length=3:=rfl
def TgG.c (x:TgG):TgP:=⟨x.text,x.deps,x.term⟩
def DepsAt (own:Nat->Prop) (V:World) (A:Option Addr) (cp:Nat) (l:List Int):Prop :=
 (l.length<=cp/\l.length<=maxLen)/\∃b cs fr,A=some ⟨b,0,none⟩/\V.heap[b]? = some (.cells cs 3 fr)/\¬own b/\∀(j:Nat) (x:Int),l[j]? = some x->cs[j]? = some (.int .i64 x)
theorem DepsAt.few {own:Nat->Prop} {V:World} {A:Option Addr} {cp:Nat} {l:List Int} (h:DepsAt own V A cp l):l.length<=9223372036854775807:=by
 have h:=h.1.2;unfold maxLen at h;omega
theorem DepsAt.same {own own':Nat->Prop} {V V':World} {A:Option Addr} {cp:Nat} {l:List Int} (h:DepsAt own V A cp l) (hb:∀b cs fr,V.heap[b]? = some (.cells cs 3 fr)->¬own b->V'.heap[b]? = V.heap[b]? /\ ¬own' b):DepsAt own' V' A cp l:=by
 obtain⟨h1,b,cs,fr,h2,h3,h4,h5⟩:=h;obtain⟨e1,e2⟩:=hb b cs fr h3 h4;exact⟨h1,b,cs,fr,h2,e1.trans h3,e2,h5⟩
theorem DepsAt.below {own:Nat->Prop} {V V':World} {A:Option Addr} {cp:Nat} {l:List Int} (h:DepsAt own V A cp l) (hb:Below V.heap.size V V'):DepsAt own V' A cp l:=h.same fun _ _ _ h3 h4=>⟨hb.block _ (Xd h3),h4⟩
theorem DepsAt.step {own own':Nat->Prop} {V V':World} {A:Option Addr} {cp:Nat} {l:List Int} (h:DepsAt own V A cp l) (hb:BodyStep own own' V V'):DepsAt own' V' A cp l:=h.same fun b _ _ h3 h4=>⟨hb.block _ (Xd h3) h4,fun h=>by rcases hb.owns b h with h|h;exact h4 h;have:=Xd h3;omega⟩
theorem DepsAt.stepX {X:Nat} {own own':Nat->Prop} {V V':World} {A:Option Addr} {cp:Nat} {l:List Int} (h:DepsAt (fun b=>own b\/b<X) V A cp l) (hb:BodyStep own own' V V'):DepsAt (fun b=>own' b\/b<X) V' A cp l:=h.same fun b _ _ h3 h4=>⟨hb.block _ (Xd h3) fun e=>h4 (.inl e),fun h=>h.elim (fun h=>by rcases hb.owns b h with h|h;exact h4 (.inl h);have:=Xd h3;omega) fun h=>h4 (.inr h)⟩
theorem DepsAt.one {own:Nat->Prop} {V V':World} {A:Option Addr} {cp:Nat} {l:List Int} {b:Nat} {o:Obj} (h:DepsAt own V A cp l) (ho:V.heap[b]? = some o) (hn:Uc o) (hs:OneStep b V V'):DepsAt own V' A cp l :=
 h.same fun k _ _ h3 h4=>⟨hs.block k (by rintro rfl;rw[ho] at h3;exact hn _ _ _ (Option.some.inj h3)),h4⟩
theorem DepsAt.sub {own own':Nat->Prop} {V:World} {A:Option Addr} {cp:Nat} {l:List Int} (h:DepsAt own V A cp l) (hs:∀k,own' k->own k):DepsAt own' V A cp l:=h.same fun _ _ _ _ h4=>⟨rfl,fun h=>h4 (hs _ h)⟩
theorem DepsAt.rd {own:Nat->Prop} {V:World} {A:Option Addr} {cp:Nat} {l:List Int} (h:DepsAt own V A cp l):Rd V A (l.flatMap intC):=by
 obtain⟨_,b,cs,fr,rfl,h3,_,h5⟩:=h;refine .inr ⟨b,0,rfl,Xd h3,fun j u hu=>?_⟩;have e:=Xt2 l;rw[e,List.getElem?_map] at hu;cases hx:l[j]? with
 | none=>rw[hx] at hu;cases hu
 | some x =>
  rw[hx] at hu;cases hu;rw[Nat.zero_add,gblk h3];exact h5 j x hx
def EncK (X:Nat) (own:Nat->Prop) (x:TgP) (vs:Array Value) (V:World):Prop:=∃A cp,vs=#[.agg #[.string x.text,.slice A x.deps.length cp,.int .i64 x.term]]/\DepsAt (fun b=>own b\/b<X) V A cp x.deps
theorem Xy5 (X:Nat) (own own2:Nat->Prop) (x:TgP) (vs:Array Value) (W:World) (h:∀k,own k->own2 k):EncK X own2 x vs W->EncK X own x vs W:=fun ⟨A,cp,h1,h2⟩=>⟨A,cp,h1,h2.sub fun k hk=>hk.imp (h k) id⟩
theorem Xij:(Tryz.prog.info? 75).map (fun i=>(i.zero,i.size,i.bytes))=some (some (.agg #[.string ⟨#[]⟩,.slice none 0 0,.int .i64 0]),3,48):=by kernel_rfl
def SeqK (X B n0:Nat) (own:Nat->Prop) (pre:List TgP) (V:World):Prop :=
 ∃v L,(∀k,own k↔(k=n0\/v.ownBlock=some k))/\Boxed V n0 65 v/\OwnL TgG.cells 75 3 V B v L/\L.map TgG.c=pre/\∀x∈L,DepsAt (fun b=>own b\/b<X) V x.dA x.dc x.deps
theorem Xpr {X B n0:Nat} {own:Nat->Prop} {pre:List TgP} {V V':World} {l:Nat} {o:Obj} (h:SeqK X B n0 own pre V) (hl:¬own l) (ho:V.heap[l]? = some o) (hn:Uc o) (hs:OneStep l V V'):SeqK X B n0 own pre V':=by
 obtain⟨v,L,h1,h2,h3,h4,h5⟩:=h;exact⟨v,L,h1,(hs.block _ (by rintro rfl;exact hl ((h1 _).2 (.inl rfl)))).trans h2,h3.block fun g hg=>hs.block g (by rintro rfl;exact hl ((h1 _).2 (.inr hg))),h4,fun x hx=>(h5 x hx).one ho hn hs⟩
theorem Xlv (C X B n0:Nat):Xbk C (SeqK X B n0):=by
 refine⟨?_,fun own s V V' l o h _ hno ho hn hs=>Xpr h hno ho hn hs⟩;rintro own pre V V' ⟨v,L,h1,h2,h3,h4,h5⟩ hb;exact⟨v,L,h1,(hb.block _ h2.lt).trans h2,h3.ext hb,h4,fun x hx=>(h5 x hx).below hb⟩
def SeqAK (X B n0:Nat) (F:Value->Value->Array Value) (x:TgP) (a':Act) (own:Nat->Prop) (pre:List TgP) (V:World):Prop :=
 ∃(y:TgG) (bx:Nat),y.c=x/\a'={tmps:=F (.pointer (some ⟨bx,0,none⟩)) (.agg #[.string y.text,.slice y.dA y.deps.length y.dc,.int .i64 y.term]),defers:=[]}/\V.heap[bx]? = some (.cells #[.string y.text,.slice y.dA y.deps.length y.dc,.int .i64 y.term] 75 (0,0))/\¬own bx/\DepsAt (fun b=>own b\/b<X) V y.dA y.dc y.deps/\SeqK X B n0 own pre V
def Xd1 (X:Nat) (w:World) (xs:List TgP) (e:Ending) (w':World):Prop :=
 ∃v L,e = .returned v/\OwnL TgG.cells 75 3 w' w.heap.size v L/\L.map TgG.c=xs/\(∀x∈L,DepsAt (fun k=>v.ownBlock=some k\/k<X) w' x.dA x.dc x.deps)/\Below w.heap.size w w'
theorem Xnc (x:TgG):∀u∈x.cells,u.oneCell'=true:=by
 intro u hu;unfold TgG.cells at hu;simp only[List.mem_cons,List.not_mem_nil,or_false] at hu;rcases hu with rfl|rfl|rfl<;>rfl
theorem Xw5 {X B n0:Nat} {own:Nat->Prop} {pre:List TgP} {W W1:World} {v v':Value} {L:List TgG} {y:TgG} (ho:∀k,own k↔(k=n0\/v.ownBlock=some k)) (hbx:Boxed W n0 65 v) (hr:OwnL TgG.cells 75 3 W B v L) (hm:L.map TgG.c=pre) (hd:∀x∈L,DepsAt (fun b=>own b\/b<X) W x.dA x.dc x.deps) (hy:DepsAt (fun b=>own b\/b<X) W y.dA y.dc y.deps)
  (hr2:OwnL TgG.cells 75 3 W1 B v' (L++[y])) (hg:W.grownBy W1 v.ownBlock) (hat:v'.ownBlock=v.ownBlock\/∃n,v'.ownBlock=some n/\W.heap.size<=n) (_hlive:∀k,own k->k<W.heap.size) :
  ∃own',BodyStep own own' W (W1.setCell ⟨n0,0,none⟩ v')/\SeqK X B n0 own' (pre++[y.c]) (W1.setCell ⟨n0,0,none⟩ v'):=by
 have hn0:n0<W.heap.size:=hbx.lt
 have hne:∀ {X:World} {u u':Value} {M:List TgG},OwnL TgG.cells 75 3 X B u M->X.heap[n0]? = some (.cells #[u'] 65 (0,0))->u.ownBlock≠some n0:=fun hr hb e=>by
  obtain⟨cur,hc⟩:=OwnL.kind hr e;rw[hb] at hc;simp only[Option.some.injEq,Obj.cells.injEq] at hc;exact absurd hc.2.1 (by decide)
 have hb1:W1.heap[n0]? = some (.cells #[v] 65 (0,0)):=(hg.block n0 hn0 fun e=>hne hr hbx e.symm).trans hbx;have hother:∀k,k≠n0->(W1.setCell ⟨n0,0,none⟩ v').heap[k]? = W1.heap[k]? := fun k hk=>Below.heap_setCell _ _ _ _ hk;have hz:(W1.setCell ⟨n0,0,none⟩ v').heap.size=W1.heap.size:=by simp[World.setCell]
 have hbs:BodyStep own (fun k=>k=n0\/v'.ownBlock=some k) W (W1.setCell ⟨n0,0,none⟩ v'):=by
  refine⟨hg.os,hg.tape,hg.output,by rw[hz];exact hg.size,fun k hk hno=>?_,fun k hk=>?_,fun k hk=>?_⟩
  ·exact(hother k fun e=>hno ((ho k).2 (.inl e))).trans (hg.block k hk fun e=>hno ((ho k).2 (.inr e.symm)))
  ·rcases hk with h|h
   ·exact .inl ((ho k).2 (.inl h))
   ·rcases hat with e|⟨n,e,hn⟩
    ·exact .inl ((ho k).2 (.inr (e ▸ h)))
    ·rw[e] at h;cases h;exact .inr hn
  ·rw[hz]
   rcases hk with rfl|h
   ·exact Nat.lt_of_lt_of_le hn0 hg.size
   ·exact(hr2.lt k h).2
 refine⟨_,hbs,v',L++[y],fun _=>Iff.rfl,Xs hb1 0 _,hr2.block fun g hg'=>hother g (by rintro rfl;exact hne hr2 hb1 hg'),by rw[List.map_append,hm];rfl,fun x hx=>?_⟩;rcases List.mem_append.1 hx with h|h
 ·exact(hd x h).stepX hbs
 ·obtain rfl:=List.mem_singleton.1 h
  exact hy.stepX hbs
theorem Xju (X:Nat) (gf:Nat) (lb:Array Value) (R:Nat->Prop) (xs:List TgP) (w w0:World) (hit:Xno Tryz.prog gf lb (EncK X) R xs w0) (eg:∀args w,(callFunc gf args).run Tryz.prog w = .ok (.enter gf args) w) (hR:Xd4 R w0 w) (hlen:xs.length<=1000000) :
  Calls Tryz.prog 154 #[.slice none 0 0,.func (.func gf) #[] lb] w (Xd1 X w xs):=by
 obtain⟨i0,hi0,hz0,hz1,hz2⟩:=info_parts Xij;refine Z0 Tryz.func154 rfl ?_;simp only[Tryz.ntmps154,Zr,Nat.reduceAdd,Nat.reduceSub];obtain⟨w1,hw1⟩:∃w1,w.alloc (.cells #[.slice none 0 0] 65)=w1:=⟨_,rfl⟩
 have hb1:=X5 hw1;have hz1':w1.heap.size=w.heap.size+1:=by rw[<- hw1];simp
 have hx1:Boxed w1 w.heap.size 65 (.slice none 0 0):=by rw[<- hw1];exact Boxed.new _ _ _
 have hI0:SeqK X w.heap.size w.heap.size (fun k=>k=w.heap.size) [] w1:=⟨.slice none 0 0,[],fun k=>by simp[Value.ownBlock],hx1,OwnL.nil _ _ _ _ _,rfl,fun x hx=>by cases hx⟩
 have hR1:Xd4 R w0 w1:=⟨hb1.os.trans hR.os,hb1.tape.trans hR.tape,hb1.output.trans hR.output,Nat.le_trans hR.size hb1.size,fun k hk=>⟨(hR.block k hk).1,(hb1.block k (Nat.lt_of_lt_of_le (hR.block k hk).1 hR.size)).trans (hR.block k hk).2⟩⟩
 have hO1:Ti R (fun k=>k=w.heap.size) w1:=fun k hk=>by
  subst hk;exact⟨fun h=>by have:=(hR.block _ h).1;have:=hR.size;omega,by omega⟩
 have HW1:=Xa hw1;have Hlen:=Xa hlen;have HR:=Xa hR1;have HO:=Xa hO1;have Hz:=Xa hz1';have Hi0:=Xa hI0;have Hit:=Xa hit;have HB1:=Xa hb1;clear hw1 hlen hR hR1 hO1 hz1' hI0 hit hb1 hx1;refine Xm fun K1 hK1=>?_;go_wp2
 rw[HW1.out];refine Uq ?_;refine Xm fun K2 hK2=>?_;go_wp2
 refine Zl ?_
 refine Xl9 (xs:=xs) (R:=R) (w0:=w0) Tryz.func154 rfl eg Hit.out HR.out (fun own x vs W h=>by obtain⟨A,cp,rfl,_⟩:=h;rfl) (Xy5 X)
  (SeqK X w.heap.size w.heap.size) (Xlv _ _ _ _) (fun k=>k=w.heap.size) HO.out Hi0.out
  (SeqAK X w.heap.size w.heap.size (fun px vx=>#[.slice none 0 0,.func (.func gf) #[] lb,.pointer (some ⟨w.heap.size,0,none⟩),undef,.slice none 0 0,px,.func (.func gf) #[] lb,vx,undef,undef,undef,undef,undef]))
  (fun x a' own s V V' l o h hl hno ho hn hs=>?_) ?_ ?_ ?_
 ·obtain⟨y,bx,h1,h2,h3,h4,h5,h6⟩:=h
  exact⟨y,bx,h1,h2,(hs.block _ (by rintro rfl;rw[ho] at h3;exact hn _ _ _ (Option.some.inj h3))).trans h3,h4,h5.one ho hn hs,Xpr h6 hno ho hn hs⟩
 ·rintro l own pre x vs W hi hpre ⟨A,cp,rfl,hd⟩ hok hbs
  have Hi:=Xa hi;have Hd:=Xa hd;have Hok:=Xa hok;clear hi hd hok hbs hpre;refine wpIn_mono (Q:=Exit.then (fun a' W'=>∃own',BodyStep own own' W W'/\SeqAK X w.heap.size w.heap.size (fun px vx=>#[.slice none 0 0,.func (.func gf) #[] lb,.pointer (some ⟨w.heap.size,0,none⟩),undef,.slice none 0 0,px,.func (.func gf) #[] lb,vx,undef,undef,undef,undef,undef]) x a' own' pre W') (fun _ _ _=>False)) ?_ (fun e a w h=>h);gi_wp2
  have hba:=Xg (Below.refl W.heap.size W) (.cells #[.string x.text,.slice A x.deps.length cp,.int .i64 x.term] 75);exact⟨own,.grow hba fun k hk=>(Hok.out k hk).2,⟨x.text,A,cp,x.deps,x.term⟩,W.heap.size,rfl,rfl,World.alloc_heap_new _ _,fun h=>by have:=(Hok.out _ h).2;omega,Hd.out.below hba,(Xlv 0 _ _ _).1 _ _ _ _ Hi.out hba⟩
 ·rintro l own pre x a' W ⟨y,bx,rfl,rfl,hbx,hnx,hdy,v,L,hown,hv,hrow,hmap,hdeps⟩ hpre hok hbs
  have hlen1:pre.length<xs.length:=by
   obtain⟨t,ht⟩:=hpre;rw[<- ht];simp
  have hl3:L.length=pre.length:=by rw[<- hmap,List.length_map]
  have hc:=hv.cell;have hBs:w.heap.size+1<=W.heap.size:=hv.lt;have hlen2:L.length<1000000:=by have:=Hlen.out;omega
  obtain⟨d0,d1,d2⟩:=gb3 hbx;obtain⟨Av,cv,rfl,_⟩:=Y1 hrow;have hrow':W.ownsRow w.heap.size 75 3 (.slice Av L.length cv) L.length (L.flatMap TgG.cells):=hrow;have Hrow:=Xa hrow;have Hown:=Xa hown;have Hdeps:=Xa hdeps;have Hdy:=Xa hdy;have Hmap:=Xa hmap;have Hok:=Xa hok;clear hl3 hlen1 hdeps hdy hmap hok hown hrow hbs;have A1:L.length+1<=maxLen:=by unfold maxLen;omega
  have A2:(L.length+1)*48<=140737488355328:=by omega
  gi_wp2_with (gi_at_builtin;refine Za _ rfl _ _ 65 rfl w.heap.size 75 i0 _ 3 48 Tryz.underlying65 hi0 hz0 hz1 hz2 rfl (by decide) _ _ _ rfl (hrow'.alloc _) ⟨W.heap.size,0,none⟩ 1 1 (TgG.cells y) rfl rfl (Qa _ _ _) (Xnc y) A1 A2 (by simp;omega) ?_;intro v' w1 hown' hgrow hat;obtain⟨g',cap',rfl⟩:=ownsRow_succ hown';obtain⟨hv1,hv2,hr2,hk2,hb2⟩:=hv.appended (by decide) hrow' (by omega) (Nat.le_refl _) hown' hgrow;have hc1:=hv1.cell;have hf1:=hv1.frozen)
  have hg0:W.grownBy w1 (Value.slice Av L.length cv).ownBlock:=by
   have h:=hgrow;exact⟨h.os,h.tape,h.output,by have:=h.size;simp at this;omega,fun k hk hn=>(h.block k (by simp;omega) hn).trans (Below.heap_alloc _ _ _ hk)⟩
  exact Xw5 Hown.out hv Hrow.out Hmap.out Hdeps.out Hdy.out (OwnL.snoc y hown') hg0 (hat.imp id fun h=>⟨_,h,by simp⟩) (fun k hk=>(Hok.out k hk).2)
 ·rintro D own W hD hnD hok hbs ⟨v,L,hown,hv,hrow,hmap,hdeps⟩ hdef
  have hc:=hv.cell;obtain⟨Av,cv,rfl,_⟩:=Y1 hrow;refine Ur ?_;go_wp2
  have hst:=OneStep.put W D (.deferred none);refine Qk hdef (results_tmp rfl _ _ _) ?_;have hBl:Below w.heap.size w W:=⟨hbs.os.trans HB1.out.os,hbs.tape.trans HB1.out.tape,hbs.output.trans HB1.out.output,Nat.le_trans HB1.out.size hbs.size,fun k hk=>(hbs.block k (Nat.lt_of_lt_of_le hk HB1.out.size) (by omega)).trans (HB1.out.block k hk)⟩
  refine⟨_,L,rfl,hrow.block fun g hg=>hst.block g (by rintro rfl;exact hnD ((hown g).2 (.inr hg))),hmap,fun x hx=>((hdeps x hx).one hdef (Tr _) hst).sub fun k hk=>hk.imp (fun h=>(hown k).2 (.inr h)) id,?_⟩;exact⟨hst.os.trans hBl.os,hst.tape.trans hBl.tape,hst.output.trans hBl.output,by rw[hst.size];exact hBl.size,fun k hk=>(hst.block k (by have:=Hz.out;omega)).trans (hBl.block k hk)⟩
theorem Xn3 (X:Nat) (gf:Nat) (lb:Array Value) (R:Nat->Prop) (xs:List TgP) (w w0:World) (hit:Xno Tryz.prog gf lb (EncK X) R xs w0) (eg:∀args w,(callFunc gf args).run Tryz.prog w = .ok (.enter gf args) w) (hR:Xd4 R w0 w) (hlen:xs.length<=1000000) :
  Calls Tryz.prog 97 #[.func (.func gf) #[] lb] w (Xd1 X w xs):=by
 have HA:=Xa (Xju X gf lb R xs w w0 hit eg hR hlen);clear hit hR;go_enter Tryz.func97,Tryz.ntmps97
 go_wp2_with fail
 refine HA.out.mono ?_;rintro e w' ⟨v,L,rfl,h⟩;have H:=Xa h;clear h HA;go_wp2_with fail
 go_ret;exact⟨v,L,rfl,H.out⟩
end
end Go.Proofs.YtolpbjjapodmnaaGreatDoor
