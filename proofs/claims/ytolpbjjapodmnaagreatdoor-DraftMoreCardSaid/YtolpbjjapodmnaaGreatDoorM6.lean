/- Texts of this claim, one after the other: R26g, R26h, R26i. -/
import Derived.Test.YtolpbjjapodmnaaGreatDoorM5
namespace Go.Proofs.YtolpbjjapodmnaaGreatDoor
open Go.RowKit Go.Han
set_option maxRecDepth 100000
attribute [local irreducible] wpStill wpQuiet
set_option maxHeartbeats 8000000
deriving instance DecidableEq for PartG
deriving instance DecidableEq for GiveG
theorem Xna (x y:ByteArray):(x.toList == y.toList)=decide (x=y):=by
 by_cases h:x=y
 ·subst h;simp
 ·rw[decide_eq_false h];simpa using fun e=>h (Xub e)
theorem Xei (x y:Int):(x == y)=decide (x=y):=by
 by_cases h:x=y
 ·subst h;simp
 ·rw[decide_eq_false h];simpa using h
theorem Xzp (x y:Int):(x != y) = !decide (x=y):=by unfold bne;rw[Xei]
theorem Xft (a a':ByteArray) (n n':Int) (s s':ByteArray) (w:World):(Op.equalIn 10000 81 (.agg #[.string a,.int .i64 n,.string s]) (.agg #[.string a',.int .i64 n',.string s'])).run Tryz.prog w = .ok (decide ((⟨a,n,s⟩:PartG)=⟨a',n',s'⟩)) w:=by
 have hb:decide ((⟨a,n,s⟩:PartG)=⟨a',n',s'⟩)=((a.toList == a'.toList) && ((n == n') && (s.toList == s'.toList))):=by
  rw[Xna,Xna,Xei,<- Bool.decide_and,<- Bool.decide_and];exact decide_eq_decide.2 (by simp)
 rw[hb];by_cases e1:a.toList=a'.toList
 ·by_cases e2:n=n'
  ·by_cases e3:s.toList=s'.toList
   ·simp[go_sem,e1,e2,e3]
   ·simp[go_sem,e1,e2,e3]
  ·simp[go_sem,e1,e2]
 ·simp[go_sem,e1]
theorem Xw8 {α:Type} {l l':List α} {k:Nat} (h:k<l.length) (h':k<l'.length) (ht:l.take k=l'.take k) (he:l[k]=l'[k]):l.take (k+1)=l'.take (k+1):=by
 rw[List.take_succ_eq_append_getElem h,List.take_succ_eq_append_getElem h',ht,he]
def allZ {α:Type} (f:α->α->Bool):List α->List α->Bool
 | [],[]=>true
 | a :: l,b :: m=>f a b && allZ f l m
 | _,_=>false
theorem Xbn {α:Type} (f:α->α->Bool):∀ {l m:List α},l.length=m.length->(allZ f l m=true↔∀(i:Nat) (x y:α),l[i]? = some x->m[i]? = some y->f x y=true)
 | [],[],_=>by simp[allZ]
 | [],_ :: _,h=>by simp at h
 | _ :: _,[],h=>by simp at h
 | a :: l,b :: m,h=>by
  have ih:=Xbn f (l:=l) (m:=m) (by simpa using h);rw[allZ,Bool.and_eq_true,ih];constructor
  ·rintro⟨h1,h2⟩ i x y hx hy
   cases i with
   | zero=>simp at hx hy;rw[<- hx,<- hy];exact h1
   | succ i=>exact h2 i x y (by simpa using hx) (by simpa using hy)
  ·intro h
   exact⟨h 0 a b (by simp) (by simp),fun i x y hx hy=>h (i+1) x y (by simpa using hx) (by simpa using hy)⟩
def resG (g:Gram):Int:=if bigB g then 2 else if !Yk g then 260 else if T8 g then 261 else 0
def Xb2 (cats:List ByteArray) (x:EntryG):EntryG:={x with no:=idxF x.cat cats}
def Z4 (cats:List ByteArray) (p:PartG):PartG:={p with no:=noP cats p}
structure Xme (cats:List ByteArray) (f:PartG->PartG) (r r':RuleG):Prop where
 cat:r'.cat=r.cat
 no:r'.no=idxF r.cat cats
 cost:r'.cost=r.cost
 gives:r'.gives=r.gives
 parts:r'.parts.xs=r.parts.xs.map f
structure Xyf (f:PartG->PartG) (g X:Gram):Prop where
 name:X.name=g.name
 cats:X.cats=g.cats
 start:X.start=g.start
 startNo:X.startNo=idxF g.start g.cats.xs
 entries:X.entries.xs=g.entries.xs.map (Xb2 g.cats.xs)
 rules:X.rules.xs.length=g.rules.xs.length
 rule:∀(i:Nat) r r',g.rules.xs[i]? = some r->X.rules.xs[i]? = some r'->Xme g.cats.xs f r r'
theorem Xtq {α:Type} {p:α->Bool} {l:List α}:l.all p=true↔∀(i:Nat) x,l[i]? = some x->p x=true:=by
 rw[List.all_eq_true];constructor
 ·intro h i x hx;exact h x (List.mem_of_getElem? hx)
 ·intro h x hx
  obtain⟨i,hi,rfl⟩:=List.getElem_of_mem hx;exact h i _ (List.getElem?_eq_getElem hi)
theorem Xo1 {f:PartG->PartG} {l:List PartG}:l.map f=l↔∀p∈l,f p=p:=by
 constructor
 ·intro h p hp
  obtain⟨i,hi,rfl⟩:=List.getElem_of_mem hp;have:=congrArg (fun m=>m[i]?) h
  simpa[hi] using this
 ·intro h
  rw[List.map_congr_left (g:=id) (by simpa using h)];simp
theorem Xi3 (cats:List ByteArray) (p:PartG):Z4 cats p=p↔p.no=noP cats p:=by
 unfold Z4;constructor
 ·intro h;have:=congrArg PartG.no h;exact this.symm
 ·intro h;rw[<- h]
theorem Xqw (g:Gram):Yb g=if resG g≠0 then resG g else if Ua g then 0 else 260:=by
 unfold Yb resG;cases bigB g<;>cases Yk g<;>cases T8 g<;>simp
theorem Xg0 {g:Gram} (h:Yk g=true):(∀x∈g.rules.xs,∀p,x.parts.xs=[p]->p.text.size=0->p.cat∈g.cats.xs)/\(∀x∈g.rules.xs,x.cat∈g.cats.xs):=by
 unfold Yk at h;simp only[Bool.and_eq_true,List.all_eq_true] at h;obtain⟨⟨⟨⟨⟨⟨_,_⟩,_⟩,h4⟩,_⟩,_⟩,h7⟩:=h;refine⟨fun x hx p hp h0=>?_,fun x hx=>?_⟩
 ·have h1:=h7 x hx
  unfold Vh at h1;simp only[Bool.and_eq_true,List.all_eq_true] at h1;have h3:=h1.1.1.2 p (by rw[hp];simp);unfold Ui at h3;rw[if_pos h0] at h3;exact(Qx _ _).1 h3
 ·have h1:=h7 x hx
  unfold Vh at h1;simp only[Bool.and_eq_true,List.all_eq_true] at h1;exact(Qx _ _).1 h1.1.1.1.1.1.1
end Go.Proofs.YtolpbjjapodmnaaGreatDoor
