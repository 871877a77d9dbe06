/- Texts of this claim, one after the other: R26j, R26k, ChaP, ChaQ, ChaR. -/
import Derived.Test.YtolpbjjapodmnaaGreatDoorM6
import Derived.Test.YtolpbjjapodmnaaGreatDoorM3
import Derived.Test.YtolpbjjapodmnaaGreatDoorM5
import Derived.Test.YtolpbjjapodmnaaGreatDoorM1
import Derived.Deep.RegionHeld3
namespace Go.Proofs.YtolpbjjapodmnaaGreatDoor
open Go.RowKit Go.Han
set_option maxRecDepth 100000
attribute [local irreducible] wpStill wpQuiet
set_option maxHeartbeats 8000000
def Xtm (f:List ByteArray->PartG->PartG) (g:Gram) (w:World) (e:Ending) (w':World):Prop :=
 ∃X:Gram,e = .returned (.tuple #[X.vl,.int .i64 (resG g)])/\Below w.heap.size w w'/\(resG g=0->X.lies w'/\Xyf (f g.cats.xs) g X)
def Xma:Gram:=⟨⟨#[]⟩,⟨none,0,[]⟩,⟨#[]⟩,0,⟨none,0,[]⟩,⟨none,0,[]⟩⟩
theorem Xzk:(Tryz.prog.info? 60).map (fun i=>(i.zero.map (fun z=>z.cells.size),i.size,i.bytes))=some (some 5,5,72):=by kernel_rfl
theorem Xzn:(Tryz.prog.info? 79).map (fun i=>(i.zero.map (fun z=>z.cells.size),i.size,i.bytes))=some (some 5,5,80):=by kernel_rfl
theorem Xzm:(Tryz.prog.info? 81).map (fun i=>(i.zero.map (fun z=>z.cells.size),i.size,i.bytes))=some (some 3,3,40):=by kernel_rfl
theorem Xm0 {t:TypeId} {a b c:Nat} (h:(Tryz.prog.info? t).map (fun i=>(i.zero.map (fun z=>z.cells.size),i.size,i.bytes))=some (some a,b,c)):∃i z,Tryz.prog.info? t=some i/\i.zero=some z/\z.cells.size=a/\i.size=b/\i.bytes=c:=by
 cases h':Tryz.prog.info? t with
 | none=>rw[h'] at h;cases h
 | some i =>
  rw[h'] at h;simp only[Option.map_some,Option.some.injEq,Prod.mk.injEq] at h;obtain⟨h1,h2,h3⟩:=h;cases hz:i.zero with
  | none=>rw[hz] at h1;cases h1
  | some z =>
   rw[hz] at h1;simp only[Option.map_some,Option.some.injEq] at h1;exact⟨i,z,rfl,hz,h1,h2,h3⟩
theorem X1s (x:EntryG):∀u∈x.cells,u.oneCell'=true:=by intro u hu;simp only[EntryG.cells,List.mem_cons,List.not_mem_nil,or_false] at hu;rcases hu with rfl|rfl|rfl|rfl|rfl<;>rfl
theorem X2e (x:RuleG):∀u∈x.cells,u.oneCell'=true:=by intro u hu;simp only[RuleG.cells,List.mem_cons,List.not_mem_nil,or_false] at hu;rcases hu with rfl|rfl|rfl|rfl|rfl<;>rfl
theorem X2c (x:PartG):∀u∈x.cells,u.oneCell'=true:=by intro u hu;simp only[PartG.cells,List.mem_cons,List.not_mem_nil,or_false] at hu;rcases hu with rfl|rfl|rfl<;>rfl
theorem st6 {W:World} {b:Nat} {u0 u1 u2 u3 u4 u5 v0 v1 v2 v3 v4 v5:Value} {t:TypeId} (h:W.heap[b]? = some (.cells #[u0,u1,u2,u3,u4,u5] t (0,0))) :
  ((((((W.setCell ⟨b,0,none⟩ (v0)).setCell ⟨b,1,none⟩ (v1)).setCell ⟨b,2,none⟩ (v2)).setCell ⟨b,3,none⟩ (v3)).setCell ⟨b,4,none⟩ (v4)).setCell ⟨b,5,none⟩ (v5)).heap[b]? = some (.cells #[v0,v1,v2,v3,v4,v5] t (0,0)) :=
 heap_setCell_same _ _ _ _ _ _ (heap_setCell_same _ _ _ _ _ _ (heap_setCell_same _ _ _ _ _ _ (heap_setCell_same _ _ _ _ _ _ (heap_setCell_same _ _ _ _ _ _ (heap_setCell_same _ _ _ _ _ _ h)))))
theorem Xwt {W:World} {b:Nat} {v0 v1 v2 v3 v4 v5:Value} (j:Nat) (h:j≠b):((((((W.setCell ⟨b,0,none⟩ (v0)).setCell ⟨b,1,none⟩ (v1)).setCell ⟨b,2,none⟩ (v2)).setCell ⟨b,3,none⟩ (v3)).setCell ⟨b,4,none⟩ (v4)).setCell ⟨b,5,none⟩ (v5)).heap[j]? = W.heap[j]? := by
 rw[heap_setCell_other _ _ _ _ h,heap_setCell_other _ _ _ _ h,heap_setCell_other _ _ _ _ h,heap_setCell_other _ _ _ _ h,heap_setCell_other _ _ _ _ h,heap_setCell_other _ _ _ _ h]
theorem X0u {W:World} {b:Nat} {v0 v1 v2 v3 v4 v5:Value}:((((((W.setCell ⟨b,0,none⟩ (v0)).setCell ⟨b,1,none⟩ (v1)).setCell ⟨b,2,none⟩ (v2)).setCell ⟨b,3,none⟩ (v3)).setCell ⟨b,4,none⟩ (v4)).setCell ⟨b,5,none⟩ (v5)).heap.size=W.heap.size:=by simp[World.setCell]
theorem Xcf {a W:World} {B b:Nat} {v0 v1 v2 v3 v4 v5:Value} (h:Below B a W) (hb:B<=b):Below B a ((((((W.setCell ⟨b,0,none⟩ (v0)).setCell ⟨b,1,none⟩ (v1)).setCell ⟨b,2,none⟩ (v2)).setCell ⟨b,3,none⟩ (v3)).setCell ⟨b,4,none⟩ (v4)).setCell ⟨b,5,none⟩ (v5)) :=
 (((((h.setCell (p:=⟨b,0,none⟩) hb _).setCell (p:=⟨b,1,none⟩) hb _).setCell (p:=⟨b,2,none⟩) hb _).setCell (p:=⟨b,3,none⟩) hb _).setCell (p:=⟨b,4,none⟩) hb _).setCell (p:=⟨b,5,none⟩) hb _
theorem SlS.lies.block {α:Type} {f:α->List Value} {w w':World} {s:SlS α} (h:s.lies f w) (hb:∀ad,s.addr=some ad->w'.heap[ad.block]? = w.heap[ad.block]?) (hz:w.heap.size<=w'.heap.size):s.lies f w':=by
 refine⟨?_,h.cap,h.max,h.nil⟩;rcases h.rd with h0|⟨b,off,he,hlt,hc⟩
 ·exact .inl h0
 ·refine .inr ⟨b,off,he,by omega,fun j u hu=>?_⟩
  have:=hb _ he;rw[World.cell?_of_block (a:=⟨b,off+j,none⟩) this];exact hc j u hu
theorem Xm7 {α:Type} {f:α->List Value} {E sz:Nat} {w:World} {base:Nat} {v:Value} {l:List α} (h0:0<sz) (h:OwnL f E sz w base v l):∃s:SlS α,v = .slice s.addr s.xs.length s.cap/\s.xs=l/\s.lies f w/\∀ad,s.addr=some ad->base<=ad.block/\ad.block<w.heap.size:=by
 have hl:=h.lt;obtain⟨A,c,rfl,hle,hmx,_,hr⟩:=SlOf.of_own h;refine⟨⟨A,c,l⟩,rfl,rfl,⟨hr,hle,by simpa[maxLen] using hmx,fun hA=>?_⟩,fun ad had=>?_⟩
 ·obtain⟨A',c',e,_,h2⟩:=h.form h0
  cases e;exact h2 hA
 ·have hA:A=some ad:=had
  subst hA;exact hl ad.block rfl
theorem Xxp {g:Gram} (h:Yk g=true) {r:RuleG} (hr:r∈g.rules.xs):r.parts.xs.length<=4:=by
 unfold Yk at h;simp only[Bool.and_eq_true,List.all_eq_true] at h;have h1:=h.2 r hr;unfold Vh at h1;simp only[Bool.and_eq_true,decide_eq_true_eq] at h1;exact h1.1.1.1.1.1.2.2
end Go.Proofs.YtolpbjjapodmnaaGreatDoor
/- Numbers of derivations, capped. No program in sight. -/
namespace Go.Proofs.YtolpbjjapodmnaaGreatDoor
open Go.RowKit Go.Han
def capN (m n:Nat):Nat:=min n (m+1)
def Qu (m a b:Nat):Nat:=if 0<a/\m / a<b then m+1 else a*b
theorem Xts (m n:Nat):capN m n<=m+1:=by unfold capN;omega
theorem Xyv (m a b:Nat):capN m (capN m a+capN m b)=capN m (a+b):=by unfold capN;omega
theorem Xxc (m a b:Nat):Qu m a b=if m<a*b then (if 0<a then m+1 else a*b) else a*b:=by
 unfold Qu;by_cases ha:0<a
 ·have:m / a<b↔m<a*b:=by rw[Nat.div_lt_iff_lt_mul ha,Nat.mul_comm]
  by_cases h:m<a*b
  ·rw[if_pos ⟨ha,this.2 h⟩,if_pos h,if_pos ha]
  ·rw[if_neg (fun hh=>h (this.1 hh.2)),if_neg h]
 ·obtain rfl:a=0:=by omega
  simp
theorem Xqt (m a b:Nat):Qu m (capN m a) (capN m b)=capN m (a*b):=by
 rw[Xxc];unfold capN;rcases Nat.eq_zero_or_pos a with rfl|ha
 ·simp
 rcases Nat.eq_zero_or_pos b with rfl|hb
 ·simp
 have h1:a<=a*b:=Nat.le_mul_of_pos_right a hb;have h2:b<=a*b:=Nat.le_mul_of_pos_left b ha;rcases Nat.lt_or_ge m a with h3|h3
 ·have e1:min a (m+1)=m+1:=by omega
  have e2:min (a*b) (m+1)=m+1:=by omega
  have h4:m+1<=(m+1)*min b (m+1):=Nat.le_mul_of_pos_right _ (by omega);rw[e1,e2,if_pos (by omega),if_pos (by omega)]
 ·have e1:min a (m+1)=a:=by omega
  rcases Nat.lt_or_ge m b with h5|h5
  ·have e3:min b (m+1)=m+1:=by omega
   have e2:min (a*b) (m+1)=m+1:=(by omega);have h4:m+1<=a*(m+1):=Nat.le_mul_of_pos_left _ ha;rw[e1,e3,e2,if_pos (by omega),if_pos ha]
  ·have e3:min b (m+1)=b:=by omega
   rw[e1,e3];split
   ·omega
   ·omega
end Go.Proofs.YtolpbjjapodmnaaGreatDoor
namespace Go.Proofs.YtolpbjjapodmnaaGreatDoor
open Go.RowKit Go.Han
set_option maxRecDepth 100000
attribute [local irreducible] wpStill wpQuiet
set_option maxHeartbeats 8000000
/-! ### the first one of the cheapest -/
section
variable {α β γ:Type}
def Zd:Option (Int×α)->Option (Int×α)->Option (Int×α)
 | none,b=>b
 | some x,none=>some x
 | some x,some y=>if y.1<x.1 then some y else some x
def Yc:List (Int×α)->Option (Int×α)
 | []=>none
 | x :: l=>Zd (some x) (Yc l)
theorem X6 (x y:Int×α):Zd (some x) (some y)=if y.1<x.1 then some y else some x:=rfl
theorem Z7 (x:Int×α) (l:List (Int×α)):Yc (x :: l)=Zd (some x) (Yc l):=rfl
theorem Qm (a:Option (Int×α)):Zd a none=a:=by cases a<;>rfl
theorem Xm5 (a b c:Option (Int×α)):Zd (Zd a b) c=Zd a (Zd b c):=by
 cases a with
 | none=>rfl
 | some x=>cases b with
  | none=>rfl
  | some y=>cases c with
   | none=>rw[Qm,Qm]
   | some z =>
    rw[X6,X6];by_cases h1:y.1<x.1
    ·rw[if_pos h1,X6]
     by_cases h2:z.1<y.1
     ·rw[if_pos h2,X6,if_pos (by omega)]
     ·rw[if_neg h2,X6,if_pos h1]
    ·rw[if_neg h1,X6]
     by_cases h2:z.1<y.1
     ·rw[if_pos h2,X6]
     ·rw[if_neg h2,X6,if_neg h1,if_neg (by omega)]
theorem Z1 (l m:List (Int×α)):Yc (l++m)=Zd (Yc l) (Yc m):=by
 induction l with
 | nil=>rfl
 | cons x l ih=>rw[List.cons_append,Z7,Z7,ih,Xm5]
theorem Xga {l:List (Int×α)} (h:Yc l=none):l=[]:=by
 cases l with
 | nil=>rfl
 | cons x l =>
  rw[Z7] at h;cases hl:Yc l with
  | none=>rw[hl] at h;cases h
  | some y=>rw[hl,X6] at h;split at h<;>simp at h
theorem Xh7 {l:List (Int×α)} {x:Int×α} (h:Yc l=some x):x∈l/\∀y∈l,x.1<=y.1:=by
 induction l generalizing x with
 | nil=>cases h
 | cons z l ih =>
  rw[Z7] at h;cases hl:Yc l with
  | none =>
   rw[hl] at h;cases h;have:=Xga hl;subst this;simp
  | some y =>
   rw[hl,X6] at h;obtain⟨h1,h2⟩:=ih hl;split at h
   ·cases h
    exact⟨List.mem_cons_of_mem _ h1,fun u hu=>by
     rcases List.mem_cons.1 hu with rfl|hu
     ·omega
     ·exact h2 u hu⟩
   ·cases h
    exact⟨List.mem_cons_self ..,fun u hu=>by
     rcases List.mem_cons.1 hu with rfl|hu
     ·omega
     ·have:=h2 u hu;omega⟩
def Uj (f:α->β->γ) (l:List (Int×α)) (m:List (Int×β)):List (Int×γ):=l.flatMap fun a=>m.map fun b=>(a.1+b.1,f a.2 b.2)
def Xbo (f:α->β->γ):Option (Int×α)->Option (Int×β)->Option (Int×γ)
 | some a,some b=>some (a.1+b.1,f a.2 b.2)
 | _,_=>none
theorem Xdh (f:α->β->γ) (a:Option (Int×α)):Xbo f a none=none:=by cases a<;>rfl
theorem Xas (g:Int×α->Int×β) (c:Int) (hg:∀a,(g a).1=c+a.1) (l:List (Int×α)):Yc (l.map g)=(Yc l).map g:=by
 induction l with
 | nil=>rfl
 | cons x l ih =>
  rw[List.map_cons];rw[Z7,Z7,ih];cases Yc l with
  | none=>rfl
  | some y =>
   show Zd (some (g x)) (some (g y))=Option.map g (Zd (some x) (some y));rw[X6,X6,hg,hg];by_cases h:y.1<x.1
   ·rw[if_pos h,if_pos (by omega)];rfl
   ·rw[if_neg h,if_neg (by omega)];rfl
theorem Xjx (f:α->β->γ) (a b:Option (Int×α)) (c:Option (Int×β)):Xbo f (Zd a b) c=Zd (Xbo f a c) (Xbo f b c):=by
 cases a with
 | none=>cases b<;>cases c<;>rfl
 | some x=>cases b with
  | none=>rw[Qm];show _=Zd _ none;rw[Qm]
  | some y=>cases c with
   | none=>rw[Xdh,Xdh,Xdh];rfl
   | some z =>
    show Xbo f (Zd (some x) (some y)) (some z)=Zd (some _) (some _);rw[X6,X6];by_cases h:y.1<x.1
    ·rw[if_pos h,if_pos (by simp;omega)];rfl
    ·rw[if_neg h,if_neg (by simp;omega)];rfl
theorem Xjy (f:α->β->γ) (a:Option (Int×α)) (b c:Option (Int×β)):Xbo f a (Zd b c)=Zd (Xbo f a b) (Xbo f a c):=by
 cases a with
 | none=>cases b<;>cases c<;>rfl
 | some x=>cases b with
  | none=>rfl
  | some y=>cases c with
   | none=>rfl
   | some z =>
    show Xbo f (some x) (Zd (some y) (some z))=Zd (some _) (some _);rw[X6,X6];by_cases h:z.1<y.1
    ·rw[if_pos h,if_pos (by simp;omega)];rfl
    ·rw[if_neg h,if_neg (by simp;omega)];rfl
theorem V6 (f:α->β->γ) (l:List (Int×α)) (m:List (Int×β)):Yc (Uj f l m)=Xbo f (Yc l) (Yc m):=by
 induction l with
 | nil=>rfl
 | cons x l ih =>
  unfold Uj at *;rw[List.flatMap_cons,Z1,ih];rw[Z7,Xjx]
  congr 1
  rw[Xas (fun b=>(x.1+b.1,f x.2 b.2)) x.1 (fun _=>rfl)];cases Yc m<;>rfl
theorem Zw (f:α->β->γ) (l:List (Int×α)) (m:List (Int×β)):(Uj f l m).length=l.length*m.length:=by
 unfold Uj
 induction l with
 | nil=>simp
 | cons x l ih=>rw[List.flatMap_cons,List.length_append,ih,List.length_map,List.length_cons,Nat.succ_mul];omega
structure Fd (α:Type) where
 many:Nat
 best:Option (Int×α)
def Fd.of (m:Nat) (l:List (Int×α)):Fd α:=⟨capN m l.length,Yc l⟩
def Fd.add (m:Nat) (a b:Fd α):Fd α:=⟨capN m (a.many+b.many),Zd a.best b.best⟩
theorem Fd.of_append (m:Nat) (l k:List (Int×α)):Fd.of m (l++k)=Fd.add m (Fd.of m l) (Fd.of m k):=by
 unfold Fd.of Fd.add;rw[Z1,List.length_append,Xyv]
end
/-! ### derivations -/
inductive TreeV where
 | node (rule item frm unt:Int) (kids:List TreeV)
structure ItemG where
 cat:Int
 frm:Int
 unt:Int
 cost:Int
 tgt:StrS
 term:Int
abbrev ItemG.ob (x:ItemG):Obj:=.cells #[.int .i64 x.cat,.int .i64 x.frm,.int .i64 x.unt,.int .i64 x.cost,.slice x.tgt.addr x.tgt.xs.length x.tgt.cap,.int .i64 x.term] 53
abbrev ItemG.vl (x:ItemG):Value:=.agg #[.int .i64 x.cat,.int .i64 x.frm,.int .i64 x.unt,.int .i64 x.cost,.slice x.tgt.addr x.tgt.xs.length x.tgt.cap,.int .i64 x.term]
def ItemG.cells (x:ItemG):List Value:=[.int .i64 x.cat,.int .i64 x.frm,.int .i64 x.unt,.int .i64 x.cost,.slice x.tgt.addr x.tgt.xs.length x.tgt.cap,.int .i64 x.term]
abbrev Dv:=Int×TreeV
abbrev Dk:=Int×List TreeV
def Xc6 (j:Nat) (i k:Int):TreeV:=.node (-1) j i k []
def X3 (c i k:Int):Nat->List ItemG->List Dv
 | _,[]=>[]
 | j,x :: l=>(if x.cat=c/\x.frm=i/\x.unt=k then [(x.cost,Xc6 j i k)] else [])++X3 c i k (j+1) l
def Xp (items:List ItemG) (i:Int) (s:ByteArray):Bool:=items.any (fun x=>decide (x.cat = -1) && decide (x.frm=i) && (match x.tgt.xs with|y :: _=>decide (y=s)|[]=>false))
def Yx (st:Int->ByteArray->Bool) (A:Int->Nat->Nat->List Dv):List PartG->Nat->Nat->List Dk
 | [],i,k=>if i=k then [(0,[])] else []
 | p :: ps,i,k =>
  if p.text.size≠0 then (if i<k/\st i p.text=true then Yx st A ps (i+1) k else [])
  else (List.range' (i+1) (k-i)).flatMap fun m=>Uj List.cons (A p.no i m) (Yx st A ps m k)
def Xeo (st:Int->ByteArray->Bool) (A:Int->Nat->Nat->List Dv) (j:Nat) (r:RuleG) (i k:Nat):List Dv :=
 (Yx st A r.parts.xs i k).map fun x=>(r.cost+x.1,.node j (-1) i k x.2)
def Yd (st:Int->ByteArray->Bool) (A:Int->Nat->Nat->List Dv) (c:Int) (i k:Nat):Nat->List RuleG->List Dv
 | _,[]=>[]
 | j,r :: l=>(if r.no=c then Xeo st A j r i k else [])++Yd st A c i k (j+1) l
def derF (g:Gram) (items:List ItemG):Nat->Int->Nat->Nat->List Dv
 | 0,_,_,_=>[]
 | f+1,c,i,k=>X3 c i k 0 items++Yd (Xp items) (derF g items f) c i k 0 g.rules.xs
def Vo (rs:List RuleG) (a:ByteArray):Nat->Nat
 | 0=>0
 | n+1=>if Xb0 rs (n+1) a then n+1 else Vo rs a n
def Ut (g:Gram) (c:Int):Nat:=match g.cats.xs[c.toNat]? with|some a=>Vo g.rules.xs a g.cats.xs.length|none=>0
def muG (g:Gram) (c:Int) (i k:Nat):Nat:=(k-i)*(g.cats.xs.length+1)+Ut g c
def derG (g:Gram) (items:List ItemG) (c:Int) (i k:Nat):List Dv:=derF g items (muG g c i k+1) c i k
/-! ### the measure -/
theorem Xaf (rs:List RuleG) (a:ByteArray):∀n,Vo rs a n<=n
 | 0=>Nat.le_refl _
 | n+1=>by
  have:=Xaf rs a n;unfold Vo;split<;>omega
theorem Qe (rs:List RuleG) (a:ByteArray):∀n,Xb0 rs (Vo rs a n) a=true
 | 0=>rfl
 | n+1=>by
  unfold Vo;split
  ·assumption
  ·exact Qe rs a n
theorem Xlp (rs:List RuleG) (a:ByteArray) (m:Nat) (h:Xb0 rs m a=true):∀n,m<=n->m<=Vo rs a n
 | 0,hm=>by omega
 | n+1,hm=>by
  unfold Vo;split
  ·omega
  ·rename_i hp
   have h2:m<=n:=by
    rcases Nat.lt_or_ge n m with h3|h3
    ·obtain rfl:m=n+1:=by omega
     exact absurd h hp
    ·exact h3
   exact Xlp rs a m h n h2
structure Y5 (g:Gram):Prop where
 start:0<=g.startNo/\g.startNo<g.cats.xs.length
 few:g.cats.xs.length<=32
 fewR:g.rules.xs.length<=128
 fewE:g.entries.xs.length<=512
 rule:∀x∈g.rules.xs,x.no=idxF x.cat g.cats.xs/\0<=x.no/\0<=x.cost/\x.cost<=1000/\1<=x.parts.xs.length/\x.parts.xs.length<=4
 part:∀x∈g.rules.xs,∀p∈x.parts.xs,(p.text.size=0->p.no=idxF p.cat g.cats.xs/\0<=p.no)
 entry:∀x∈g.entries.xs,x.no=idxF x.cat g.cats.xs/\0<=x.no/\0<=x.cost/\x.cost<=1000/\1<=x.gives.xs.length/\x.gives.xs.length<=4
 circ:∀c∈g.cats.xs,Xb0 g.rules.xs g.cats.xs.length c=false
theorem Qy {g:Gram} (h:Yb g=0):Y5 g:=by
 unfold Yb at h;split at h
 ·cases h
 rename_i hb;split at h
 ·cases h
 rename_i ht;split at h
 ·cases h
 rename_i hc;split at h;rotate_left
 ·cases h
 rename_i hr;unfold bigB at hb;unfold Yk at ht;unfold T8 at hc;unfold Ua at hr;simp only[Bool.or_eq_true,Bool.and_eq_true,decide_eq_true_eq,List.all_eq_true,List.any_eq_true,Bool.not_eq_true',not_or,Bool.not_eq_false,not_exists,not_and,Bool.not_eq_true] at hb ht hc hr;obtain⟨⟨hb1,hb2⟩,hb3⟩:=hb;obtain⟨⟨⟨⟨⟨⟨ht1,ht2⟩,ht3⟩,ht4⟩,ht5⟩,ht6⟩,ht7⟩:=ht;obtain⟨⟨hr1,hr2⟩,hr3⟩:=hr;refine⟨?_,by omega,by omega,by omega,?_,?_,?_,?_⟩
 ·rw[hr1];unfold catB at ht3;simp only[decide_eq_true_eq] at ht3;exact⟨ht3,Xcl _ _⟩
 ·intro x hx
  have h1:=ht7 x hx;have h2:=(hr3 x hx).1;unfold Vh Xbp catB at h1;simp only[Bool.and_eq_true,decide_eq_true_eq] at h1;obtain⟨⟨⟨⟨⟨⟨a1,a2⟩,a3⟩,a4⟩,a5⟩,a6⟩,a7⟩:=h1;exact⟨h2,by rw[h2];exact a1,a4.1,a4.2,a2.1,a2.2⟩
 ·intro x hx p hp h0
  have h1:=ht7 x hx;have h2:=(hr3 x hx).2 p hp;unfold Vh at h1;simp only[Bool.and_eq_true,List.all_eq_true] at h1;have h3:=h1.1.1.2 p hp;unfold Ui catB at h3;unfold noP at h2;rw[if_pos h0] at h2 h3;simp only[decide_eq_true_eq] at h3;exact⟨h2,by rw[h2];exact h3⟩
 ·intro x hx
  have h1:=ht6 x hx;have h2:=hr2 x hx;unfold Uz Xbp catB at h1;simp only[Bool.and_eq_true,decide_eq_true_eq] at h1;obtain⟨⟨⟨⟨a1,a2⟩,a3⟩,a4⟩,a5⟩:=h1;exact⟨h2,by rw[h2];exact a2,a5.1,a5.2,a3.1,a3.2⟩
 ·exact hc
theorem Xi2 {g:Gram} (h:Y5 g) {r:RuleG} (hr:r∈g.rules.xs) {p:PartG} (hp:r.parts.xs=[p]) (ht:p.text.size=0):Ut g p.no<Ut g r.no:=by
 have h1:=h.rule r hr;have h2:=h.part r hr p (by rw[hp];simp) ht;have e1:=Xeg r.cat g.cats.xs r.no.toNat (by rw[<- h1.1];omega);have e2:=Xeg p.cat g.cats.xs p.no.toNat (by rw[<- h2.1];omega);unfold Ut;rw[e1,e2];show Vo g.rules.xs p.cat _<Vo g.rules.xs r.cat _;have h3:=Qe g.rules.xs p.cat g.cats.xs.length
 have h4:Xb0 g.rules.xs (Vo g.rules.xs p.cat g.cats.xs.length+1) r.cat=true:=by
  unfold Xb0;rw[List.any_eq_true];exact⟨r,hr,by rw[hp];simp[ht,h3]⟩
 have h5:Vo g.rules.xs p.cat g.cats.xs.length<g.cats.xs.length:=by
  rcases Nat.lt_or_ge (Vo g.rules.xs p.cat g.cats.xs.length) g.cats.xs.length with h|h'
  ·exact h
  ·have h6:=h.circ p.cat (List.mem_of_getElem? e2)
   have h7:=Xaf g.rules.xs p.cat g.cats.xs.length;rw[show Vo g.rules.xs p.cat g.cats.xs.length=g.cats.xs.length by omega] at h3;rw[h3] at h6;cases h6
 have:=Xlp _ _ _ h4 g.cats.xs.length (by omega);omega
theorem Xph (g:Gram) (c:Int):Ut g c<=g.cats.xs.length:=by
 unfold Ut;split
 ·exact Xaf _ _ _
 ·exact Nat.zero_le _
/-! ### no more steps down are needed -/
theorem Vv (st:Int->ByteArray->Bool) (A:Int->Nat->Nat->List Dv):∀(ps:List PartG) (i k:Nat),k<i+ps.length->Yx st A ps i k=[]
 | [],i,k,h=>by
  unfold Yx;rw[if_neg (by simp at h;omega)]
 | p :: ps,i,k,h=>by
  rw[List.length_cons] at h;unfold Yx;split
  ·split
   ·rename_i h2
    exact Vv st A ps _ _ (by omega)
   ·rfl
  ·refine List.flatMap_eq_nil_iff.2 fun m hm=>?_
   rw[List.mem_range'_1] at hm;rw[Vv st A ps m k (by omega)];unfold Uj;simp
theorem Tp (st:Int->ByteArray->Bool) (A B:Int->Nat->Nat->List Dv):∀(ps:List PartG) (i k:Nat),(∀p∈ps,p.text.size=0->∀u v,i<=u->u<v->v<=k->(v-u)+ps.length<=(k-i)+1->A p.no u v=B p.no u v)->Yx st A ps i k=Yx st B ps i k
 | [],i,k,_=>rfl
 | p :: ps,i,k,h=>by
  unfold Yx;rw[List.length_cons] at h;by_cases hp:p.text.size≠0
  ·rw[if_pos hp,if_pos hp]
   split
   ·rename_i h2
    exact Tp st A B ps (i+1) k fun q hq hq0 u v h3 h4 h5 h6=>h q (List.mem_cons_of_mem _ hq) hq0 u v (by omega) h4 h5 (by omega)
   ·rfl
  ·rw[if_neg hp,if_neg hp]
   simp only[List.flatMap]
   congr 1
   refine List.map_congr_left fun m hm=>?_;rw[List.mem_range'_1] at hm;by_cases hk:k<m+ps.length
   ·rw[Vv st A ps m k hk,Vv st B ps m k hk]
    have e:∀l:List Dv,Uj List.cons l ([]:List Dk)=[]:=fun l=>List.flatMap_eq_nil_iff.2 (fun _ _=>rfl);rw[e,e]
   ·rw[h p (List.mem_cons_self ..) (by simpa using hp) i m (Nat.le_refl _) (by omega) (by omega) (by omega),Tp st A B ps m k fun q hq hq0 u v h3 h4 h5 h6=>h q (List.mem_cons_of_mem _ hq) hq0 u v (by omega) h4 h5 (by omega)]
theorem Ty (st:Int->ByteArray->Bool) (A B:Int->Nat->Nat->List Dv) (c:Int) (i k:Nat):∀(j:Nat) (rs:List RuleG),(∀r∈rs,r.no=c->Yx st A r.parts.xs i k=Yx st B r.parts.xs i k)->Yd st A c i k j rs=Yd st B c i k j rs
 | j,[],_=>rfl
 | j,r :: l,h=>by
  unfold Yd Xeo;rw[Ty st A B c i k (j+1) l fun r' hr'=>h r' (List.mem_cons_of_mem _ hr')];split
  ·rename_i hc
   rw[h r (List.mem_cons_self ..) hc]
  ·rfl
theorem Xrz {g:Gram} (hg:Y5 g) {r:RuleG} (hr:r∈g.rules.xs) {p:PartG} (hp:p∈r.parts.xs) (ht:p.text.size=0) {i k u v:Nat} (_h1:i<=u) (_h2:u<v) (_h3:v<=k) (h4:(v-u)+r.parts.xs.length<=(k-i)+1):muG g p.no u v<muG g r.no i k:=by
 unfold muG;have hl:=Xph g p.no;have h5:=(hg.rule r hr).2.2.2.2.1;by_cases hs:r.parts.xs.length=1
 ·obtain⟨q,hq⟩:=List.length_eq_one_iff.1 hs
  rw[hq] at hp;rw[List.mem_singleton.1 hp] at ht hl ⊢;have:=Xi2 hg hr hq ht;have h6:(v-u)*(g.cats.xs.length+1)<=(k-i)*(g.cats.xs.length+1):=Nat.mul_le_mul_right _ (by omega);omega
 ·have h6:(v-u+1)*(g.cats.xs.length+1)<=(k-i)*(g.cats.xs.length+1):=Nat.mul_le_mul_right _ (by omega)
  rw[Nat.succ_mul] at h6;omega
theorem Xf8 {g:Gram} (hg:Y5 g) (items:List ItemG):∀(f f':Nat) (c:Int) (i k:Nat),muG g c i k<f->muG g c i k<f'->derF g items f c i k=derF g items f' c i k
 | 0,_,_,_,_,h,_=>by omega
 | _+1,0,_,_,_,_,h=>by omega
 | f+1,f'+1,c,i,k,h,h'=>by
  unfold derF
  congr 1
  refine Ty _ _ _ c i k 0 g.rules.xs fun r hr hc=>?_;refine Tp _ _ _ _ i k fun p hp ht u v h1 h2 h3 h4=>?_;have:=Xrz hg hr hp ht h1 h2 h3 h4;rw[hc] at this;exact Xf8 hg items f f' p.no u v (by omega) (by omega)
theorem Xha {g:Gram} (hg:Y5 g) (items:List ItemG) (c:Int) (i k:Nat):derG g items c i k=X3 c i k 0 items++Yd (Xp items) (derG g items) c i k 0 g.rules.xs:=by
 unfold derG;rw[derF]
 congr 1
 refine Ty _ _ _ c i k 0 g.rules.xs fun r hr hc=>?_;refine Tp _ _ _ _ i k fun p hp ht u v h1 h2 h3 h4=>?_;have:=Xrz hg hr hp ht h1 h2 h3 h4;rw[hc] at this;exact Xf8 hg items _ _ p.no u v (by omega) (by omega)
end Go.Proofs.YtolpbjjapodmnaaGreatDoor
