/- Texts of this claim, one after the other: ChaT, ChaU, ChaE, GrmA, R29a. -/
import Derived.Test.YtolpbjjapodmnaaGreatDoorM7
import Derived.Test.YtolpbjjapodmnaaGreatDoorM3
namespace Go.Proofs.YtolpbjjapodmnaaGreatDoor
open Go.RowKit Go.Han
set_option maxRecDepth 100000
/-! ### trees -/
@[simp] def TreeV.rule:TreeV→Int | .node r _ _ _ _=>r
@[simp] def TreeV.item:TreeV→Int | .node _ j _ _ _=>j
@[simp] def TreeV.frm:TreeV→Int | .node _ _ i _ _=>i
@[simp] def TreeV.unt:TreeV→Int | .node _ _ _ k _=>k
@[simp] def TreeV.kids:TreeV→List TreeV | .node _ _ _ _ l=>l
mutual
def X5:TreeV→Nat
 | .node _ _ _ _ l=>1+Xp l
def Xp:List TreeV→Nat
 | []=>0
 | t :: l=>X5 t+Xp l
end
abbrev KidV:=Int×Int×(Int→Int×Bool)
def Z9 (st:Int→ByteArray→Bool):List PartG→List KidV→Int→Int→Int→Int×Bool
 | [],ks,i,k,c=>(c,decide (ks=[]) && decide (i=k))
 | p :: ps,ks,i,k,c =>
  if p.text.size≠0 then (if i<k∧st i p.text=true then Z9 st ps ks (i+1) k c else (0,false))
  else match ks with
   | []=>(0,false)
   | x :: ks'=>if x.1=i then (if (x.2.2 p.no).2 then Z9 st ps ks' x.2.1 k (c+(x.2.2 p.no).1) else (0,false)) else (0,false)
mutual
def X6 (g:Gram) (items:List ItemG):TreeV→Int→Int×Bool
 | .node r j i k kids,c =>
  if r = -1 then (if j<0∨(items.length:Int)≤j∨0<kids.length then (0,false) else match items[j.toNat]? with|some x=>(x.cost,decide (x.cat=c) && decide (x.frm=i) && decide (x.unt=k))|none=>(0,false))
  else if j ≠ -1∨r<0∨(g.rules.xs.length:Int)≤r then (0,false)
  else match g.rules.xs[r.toNat]? with
   | none=>(0,false)
   | some x=>if x.no=c then Z9 (Xm items) x.parts.xs (Yl g items kids) i k x.cost else (0,false)
def Yl (g:Gram) (items:List ItemG):List TreeV→List KidV
 | []=>[]
 | t :: l=>(t.frm,t.unt,X6 g items t) :: Yl g items l
end
/-! ### the order of the derivations -/
theorem Zf {c i k:Int} {x:Dv}:∀ {j:Nat} {l:List ItemG},x∈Xq c i k j l↔∃(n:Nat) (y:ItemG),l[n]? = some y∧y.cat=c∧y.frm=i∧y.unt=k∧x=(y.cost,Zt (j+n) i k)
 | j,[]=>by simp[Xq]
 | j,y :: l=>by
  unfold Xq
  rw[List.mem_append,Zf (j:=j+1) (l:=l)]
  constructor
  ·rintro(h|⟨n,z,h1,h2,h3,h4,h5⟩)
   ·split at h
    ·rename_i hc
     exact⟨0,y,rfl,hc.1,hc.2.1,hc.2.2,by simpa using h⟩
    ·cases h
   ·exact⟨n+1,z,by simpa using h1,h2,h3,h4,by rw[h5];congr 2;omega⟩
  ·rintro⟨n,z,h1,h2,h3,h4,h5⟩
   cases n with
   | zero =>
    simp at h1;subst h1
    left
    rw[if_pos ⟨h2,h3,h4⟩];simpa using h5
   | succ n=>exact .inr ⟨n,z,by simpa using h1,h2,h3,h4,by rw[h5];congr 2;omega⟩
theorem Zi {st:Int→ByteArray→Bool} {A:Int→Nat→Nat→List Dv} {c:Int} {i k:Nat} {x:Dv}:∀ {j:Nat} {l:List RuleG},x∈X4 st A c i k j l↔∃(n:Nat) (r:RuleG),l[n]? = some r∧r.no=c∧x∈Xac st A (j+n) r i k
 | j,[]=>by simp[X4]
 | j,y :: l=>by
  unfold X4
  rw[List.mem_append,Zi (j:=j+1) (l:=l)]
  constructor
  ·rintro(h|⟨n,z,h1,h2,h3⟩)
   ·split at h
    ·rename_i hc
     exact⟨0,y,rfl,hc,h⟩
    ·cases h
   ·exact⟨n+1,z,by simpa using h1,h2,by rw[show j+(n+1)=j+1+n by omega];exact h3⟩
  ·rintro⟨n,z,h1,h2,h3⟩
   cases n with
   | zero =>
    simp at h1;subst h1
    left
    rw[if_pos h2];exact h3
   | succ n=>exact .inr ⟨n,z,by simpa using h1,h2,by rw[show j+1+n=j+(n+1) by omega];exact h3⟩
theorem Z1 {st:Int→ByteArray→Bool} {A:Int→Nat→Nat→List Dv} {j:Nat} {r:RuleG} {i k:Nat} {x:Dv}:x∈Xac st A j r i k↔∃y∈Ye st A r.parts.xs i k,x=(r.cost+y.1,.node j (-1) i k y.2):=by
 unfold Xac
 rw[List.mem_map]
 constructor
 ·rintro⟨y,h1,h2⟩;exact⟨y,h1,h2.symm⟩
 ·rintro⟨y,h1,h2⟩;exact⟨y,h1,h2.symm⟩
theorem Xbj {g:Gram} {items:List ItemG} {f:Nat} {c:Int} {i k:Nat} {x:Dv} (h:x∈derF g items f c i k):x.2.frm=i∧x.2.unt=k:=by
 cases f with
 | zero=>cases h
 | succ f =>
  unfold derF at h
  rcases List.mem_append.1 h with h|h
  ·obtain⟨n,y,_,_,_,_,rfl⟩:=Zf.1 h
   exact⟨rfl,rfl⟩
  ·obtain⟨n,r,_,_,h⟩:=Zi.1 h
   obtain⟨y,_,rfl⟩:=Z1.1 h
   exact⟨rfl,rfl⟩
/-! ### trees that are derivations -/
theorem TreeV.ind {P:TreeV→Prop} (h:∀r j i k l,(∀t∈l,P t)→P (.node r j i k l)):∀t,P t :=
 fun t=>TreeV.rec (motive_1:=P) (motive_2:=fun l=>∀t∈l,P t) (fun r j i k l hl=>h r j i k l hl) (fun _ ht=>by cases ht) (fun x l hx hl t ht=>by
  rcases List.mem_cons.1 ht with rfl|ht
  ·exact hx
  ·exact hl t ht) t
theorem Xha {α β γ:Type} {f:α→β→γ} {l:List (Int×α)} {m:List (Int×β)} {x:Int×γ}:x∈Y7 f l m↔∃a∈l,∃b∈m,x=(a.1+b.1,f a.2 b.2):=by
 unfold Y7
 rw[List.mem_flatMap]
 constructor
 ·rintro⟨a,ha,h⟩
  obtain⟨b,hb,rfl⟩:=List.mem_map.1 h
  exact⟨a,ha,b,hb,rfl⟩
 ·rintro⟨a,ha,b,hb,rfl⟩
  exact⟨a,ha,List.mem_map.2 ⟨b,hb,rfl⟩⟩
theorem V8 {st:Int→ByteArray→Bool} {A:Int→Nat→Nat→List Dv} {p:PartG} {ps:List PartG} {i k:Nat} {x:Dk} (hp:p.text.size≠0):x∈Ye st A (p :: ps) i k↔i<k∧st i p.text=true∧x∈Ye st A ps (i+1) k:=by
 rw[Ye,if_pos hp]
 constructor
 ·intro h
  split at h
  ·rename_i hc;exact⟨hc.1,hc.2,h⟩
  ·cases h
 ·rintro⟨h1,h2,h3⟩
  rw[if_pos ⟨h1,h2⟩];exact h3
theorem U1 {st:Int→ByteArray→Bool} {A:Int→Nat→Nat→List Dv} {p:PartG} {ps:List PartG} {i k:Nat} {x:Dk} (hp:p.text.size=0):x∈Ye st A (p :: ps) i k↔∃m,i<m∧m≤k∧∃a∈A p.no i m,∃b∈Ye st A ps m k,x=(a.1+b.1,a.2 :: b.2):=by
 rw[Ye,if_neg (by simpa using hp),List.mem_flatMap]
 constructor
 ·rintro⟨m,hm,h⟩
  rw[List.mem_range'_1] at hm
  exact⟨m,by omega,by omega,Xha.1 h⟩
 ·rintro⟨m,h1,h2,h⟩
  exact⟨m,by rw[List.mem_range'_1];omega,Xha.2 h⟩
theorem V7 {st:Int→ByteArray→Bool} {A:Int→Nat→Nat→List Dv} {i k:Nat} {x:Dk}:x∈Ye st A [] i k↔i=k∧x=(0,[]):=by
 unfold Ye
 split
 ·rename_i h;simp[h]
 ·rename_i h;simp[h]
theorem Xbp {st:Int→ByteArray→Bool} {A:Int→Nat→Nat→List Dv} {ps:List PartG} {i k:Nat} {x:Dk} (h:x∈Ye st A ps i k):i+ps.length≤k:=by
 rcases Nat.lt_or_ge k (i+ps.length) with h1|h1
 ·rw[Vf st A ps i k h1] at h;cases h
 ·exact h1
theorem U9 {st:Int→ByteArray→Bool} {p:PartG} (hp:p.text.size≠0) (ps:List PartG) (ks:List KidV) (i k c:Int):Z9 st (p :: ps) ks i k c=if i<k∧st i p.text=true then Z9 st ps ks (i+1) k c else (0,false):=by
 simp only[Z9];rw[if_pos hp]
theorem Xbt {st:Int→ByteArray→Bool} {p:PartG} (hp:¬p.text.size≠0) (ps:List PartG) (i k c:Int):Z9 st (p :: ps) [] i k c=(0,false):=by
 simp only[Z9];rw[if_neg hp]
theorem U3 {st:Int→ByteArray→Bool} {p:PartG} (hp:¬p.text.size≠0) (ps:List PartG) (x:KidV) (ks:List KidV) (i k c:Int):Z9 st (p :: ps) (x :: ks) i k c=if x.1=i then (if (x.2.2 p.no).2 then Z9 st ps ks x.2.1 k (c+(x.2.2 p.no).1) else (0,false)) else (0,false):=by
 simp only[Z9];rw[if_neg hp]
structure Zr (n:Nat) (m:Nat) (items:List ItemG):Prop where
 place:∀x∈items,0≤x.frm∧x.frm<x.unt∧x.unt≤n
 cost:∀x∈items,0≤x.cost∧x.cost≤1000
 cat:∀x∈items, -1≤x.cat∧x.cat<m
theorem Xcn {n m:Nat} {items:List ItemG} (hi:Zr n m items) {i:Int} {s:ByteArray} (h:Xm items i s=true):0≤i∧i<n:=by
 unfold Xm at h
 obtain⟨x,hx,h⟩:=List.any_eq_true.1 h
 simp only[Bool.and_eq_true,decide_eq_true_eq] at h
 have:=hi.place x hx
 omega
section
variable {g:Gram} {items:List ItemG}
def Xj7 (g:Gram) (items:List ItemG) (n:Nat) (t:TreeV):Prop :=
 ∀c cost,X6 g items t c=(cost,true)→∃i k:Nat,t.frm=i∧t.unt=k∧i<k∧k≤n∧(cost,t)∈derG g items c i k
theorem Xfh {n m:Nat} (hi:Zr n m items):∀(ps:List PartG) (kids:List TreeV) (i:Nat) (k c0 c:Int),(∀t∈kids,Xj7 g items n t)→i≤n →
  Z9 (Xm items) ps (Yl g items kids) i k c0=(c,true)→∃k':Nat,k=k'∧k'≤n∧(c-c0,kids)∈Ye (Xm items) (derG g items) ps i k'
 | [],kids,i,k,c0,c,hk,hn,h=>by
  unfold Z9 at h
  simp only[Prod.mk.injEq,Bool.and_eq_true,decide_eq_true_eq] at h
  obtain⟨rfl,h1,h2⟩:=h
  refine⟨i,h2.symm,hn,V7.2 ⟨rfl,?_⟩⟩
  cases kids with
  | nil=>simp
  | cons t l=>simp[Yl] at h1
 | p :: ps,kids,i,k,c0,c,hk,hn,h=>by
  by_cases hp:p.text.size≠0
  ·rw[U9 hp] at h
   split at h
   ·rename_i hc
    have h1:=Xcn hi hc.2
    obtain⟨k',h2,h3,h4⟩:=Xfh hi ps kids (i+1) k c0 c hk (by omega) (by exact_mod_cast h)
    exact⟨k',h2,h3,(V8 hp).2 ⟨by omega,hc.2,h4⟩⟩
   ·simp at h
  ·have hp0:p.text.size=0:=by simpa using hp
   cases kids with
   | nil=>rw[Yl,Xbt hp] at h;simp at h
   | cons t l =>
    rw[Yl,U3 hp] at h
    simp only at h
    split at h
    ·rename_i hf
     split at h
     ·rename_i ht
      obtain⟨u,v,h1,h2,h3,h4,h5⟩:=hk t (List.mem_cons_self ..) p.no (X6 g items t p.no).1 (by rw[← ht])
      rw[h2] at h
      obtain⟨k',h6,h7,h8⟩:=Xfh hi ps l v k _ c (fun y hy=>hk y (List.mem_cons_of_mem _ hy)) h4 h
      have hu:u=i:=by omega
      subst hu
      have:=Xbp h8
      exact⟨k',h6,h7,(U1 hp0).2 ⟨v,h3,by omega,_,h5,_,h8,by simp;omega⟩⟩
     ·simp at h
    ·simp at h
theorem Xk3 {n m:Nat} (hi:Zr n m items) {ps:List PartG} (h0:ps≠[]) {kids:List TreeV} {i k c0 c:Int} (hk:∀t∈kids,Xj7 g items n t) (h:Z9 (Xm items) ps (Yl g items kids) i k c0=(c,true)):∃i':Nat,i=i'∧i'≤n:=by
 cases ps with
 | nil=>exact absurd rfl h0
 | cons p ps =>
  by_cases hp:p.text.size≠0
  ·rw[U9 hp] at h
   split at h
   ·rename_i hc
    have h1:=Xcn hi hc.2
    exact⟨i.toNat,by omega,by omega⟩
   ·simp at h
  ·cases kids with
   | nil=>rw[Yl,Xbt hp] at h;simp at h
   | cons t l =>
    rw[Yl,U3 hp] at h
    simp only at h
    split at h
    ·rename_i hf
     split at h
     ·rename_i ht
      obtain⟨u,v,h1,h2,h3,h4,h5⟩:=hk t (List.mem_cons_self ..) p.no (X6 g items t p.no).1 (by rw[← ht])
      exact⟨u,by omega,by omega⟩
     ·simp at h
    ·simp at h
theorem Xgx {n m:Nat} (hg:Yu g) (hi:Zr n m items):∀t,Xj7 g items n t :=
 TreeV.ind fun r j i k l ih c cost h=>by
  rw[X6] at h
  split at h
  ·rename_i hr
   split at h
   ·simp at h
   rename_i hj
   split at h
   ·rename_i x hx
    simp only[Prod.mk.injEq,Bool.and_eq_true,decide_eq_true_eq] at h
    obtain⟨rfl,⟨h1,h2⟩,h3⟩:=h
    have hp:=hi.place x (List.mem_of_getElem? hx)
    have hl:l=[]:=by
     cases l with
     | nil=>rfl
     | cons t l=>simp at hj
    refine⟨i.toNat,k.toNat,by simp;omega,by simp;omega,by omega,by omega,?_⟩
    rw[Xec hg]
    refine List.mem_append_left _ (Zf.2 ⟨j.toNat,x,hx,h1,by omega,by omega,?_⟩)
    subst hl hr
    unfold Zt
    congr 2<;>omega
   ·simp at h
  ·split at h
   ·simp at h
   rename_i hj
   split at h
   ·simp at h
   ·rename_i x hx
    split at h
    ·rename_i hc
     have hxm:=List.mem_of_getElem? hx
     have h1:=hg.rule x hxm
     have hne:x.parts.xs≠[]:=fun e=>by rw[e] at h1;simp at h1
     obtain⟨i',h2,h3⟩:=Xk3 hi hne ih h
     rw[h2] at h
     obtain⟨k',h4,h5,h6⟩:=Xfh hi x.parts.xs l i' k x.cost cost ih h3 h
     have:=Xbp h6
     refine⟨i',k',by simpa using h2,by simpa using h4,by omega,h5,?_⟩
     rw[Xec hg]
     refine List.mem_append_right _ (Zi.2 ⟨r.toNat,x,hx,hc,Z1.2 ⟨_,h6,?_⟩⟩)
     rw[h2,h4]
     have e1:j = -1:=by omega
     have e2:((0+r.toNat:Nat):Int)=r:=by omega
     rw[e2,e1]
     congr 1;simp;omega
    ·simp at h
theorem Q6 {A:Int→Nat→Nat→List Dv}:∀(ps:List PartG) (i k:Nat) (c0:Int) (x:Dk),(∀c i k,∀y∈A c i k,y.2.frm=(i:Int)∧y.2.unt=(k:Int)∧X6 g items y.2 c=(y.1,true))→x∈Ye (Xm items) A ps i k→Z9 (Xm items) ps (Yl g items x.2) i k c0=(c0+x.1,true)
 | [],i,k,c0,x,hA,h=>by
  obtain⟨rfl,rfl⟩:=V7.1 h
  simp[Z9,Yl]
 | p :: ps,i,k,c0,x,hA,h=>by
  by_cases hp:p.text.size≠0
  ·obtain⟨h1,h2,h3⟩:=(V8 hp).1 h
   rw[U9 hp,if_pos ⟨by omega,h2⟩]
   have:=Q6 ps (i+1) k c0 x hA h3
   exact_mod_cast this
  ·have hp0:p.text.size=0:=by simpa using hp
   obtain⟨m,h1,h2,a,ha,b,hb,rfl⟩:=(U1 hp0).1 h
   obtain⟨h3,h4,h5⟩:=hA _ _ _ a ha
   rw[Yl,U3 hp]
   simp only
   rw[if_pos h3,h5,h4]
   simp only[if_true]
   rw[Q6 ps m k (c0+a.1) b hA hb,Int.add_assoc]
theorem Xb7:∀(f:Nat) (c:Int) (i k:Nat) (x:Dv),x∈derF g items f c i k→x.2.frm=(i:Int)∧x.2.unt=(k:Int)∧X6 g items x.2 c=(x.1,true)
 | 0,_,_,_,_,h=>by cases h
 | f+1,c,i,k,x,h=>by
  refine⟨(Xbj h).1,(Xbj h).2,?_⟩
  unfold derF at h
  rcases List.mem_append.1 h with h|h
  ·obtain⟨n,y,h1,h2,h3,h4,rfl⟩:=Zf.1 h
   unfold Zt
   rw[X6]
   have hn:n<items.length:=(List.getElem?_eq_some_iff.1 h1).1
   rw[if_pos rfl,if_neg (by simp;omega)]
   have e:((0+n:Nat):Int).toNat=n:=by omega
   rw[e,h1]
   simp[h2,h3,h4]
  ·obtain⟨n,r,h1,h2,h⟩:=Zi.1 h
   obtain⟨y,hy,rfl⟩:=Z1.1 h
   rw[X6]
   have hn:n<g.rules.xs.length:=(List.getElem?_eq_some_iff.1 h1).1
   have e:((0+n:Nat):Int).toNat=n:=by omega
   rw[if_neg (by omega),if_neg (by omega),e,h1]
   simp only
   rw[if_pos h2]
   exact Q6 r.parts.xs i k r.cost y (fun c i k z hz=>Xb7 f c i k z hz) hy
/-! ### how great, how dear -/
theorem Xbq {st:Int→ByteArray→Bool} {A:Int→Nat→Nat→List Dv} (N:Nat):∀(ps:List PartG) (i k:Nat) (x:Dk),(∀c u v,∀y∈A c u v,u<v→X5 y.2≤(2*(v-u)-1)*N)→x∈Ye st A ps i k→Xp x.2≤(2*(k-i)-ps.length)*N
 | [],i,k,x,hA,h=>by obtain⟨_,rfl⟩:=V7.1 h;simp[Xp]
 | p :: ps,i,k,x,hA,h=>by
  by_cases hp:p.text.size≠0
  ·obtain⟨h1,h2,h3⟩:=(V8 hp).1 h
   refine Nat.le_trans (Xbq N ps (i+1) k x hA h3) (Nat.mul_le_mul_right _ ?_)
   rw[List.length_cons];omega
  ·obtain⟨m,h1,h2,a,ha,b,hb,rfl⟩:=(U1 (by simpa using hp)).1 h
   have h3:=hA _ _ _ a ha h1
   have h4:=Xbq N ps m k b hA hb
   have h5:=Xbp hb
   rw[Xp,List.length_cons]
   have e:2*(k-i)-(ps.length+1)=(2*(m-i)-1)+(2*(k-m)-ps.length):=by omega
   rw[e,Nat.add_mul]
   omega
theorem Xc4 {st:Int→ByteArray→Bool} {A:Int→Nat→Nat→List Dv}:∀(ps:List PartG) (i k:Nat) (x:Dk),(∀c u v,∀y∈A c u v,0≤y.1∧y.1≤1000*X5 y.2)→x∈Ye st A ps i k→0≤x.1∧x.1≤1000*Xp x.2
 | [],i,k,x,hA,h=>by obtain⟨_,rfl⟩:=V7.1 h;simp[Xp]
 | p :: ps,i,k,x,hA,h=>by
  by_cases hp:p.text.size≠0
  ·obtain⟨h1,h2,h3⟩:=(V8 hp).1 h
   exact Xc4 ps (i+1) k x hA h3
  ·obtain⟨m,h1,h2,a,ha,b,hb,rfl⟩:=(U1 (by simpa using hp)).1 h
   have h3:=hA _ _ _ a ha
   have h4:=Xc4 ps m k b hA hb
   rw[Xp]
   simp only
   omega
theorem Xe2 (hg:Yu g) {n m:Nat} (hi:Zr n m items):∀(f:Nat) (c:Int) (i k:Nat) (x:Dv),x∈derF g items f c i k→0≤x.1∧x.1≤1000*X5 x.2
 | 0,_,_,_,_,h=>by cases h
 | f+1,c,i,k,x,h=>by
  unfold derF at h
  rcases List.mem_append.1 h with h|h
  ·obtain⟨n,y,h1,h2,h3,h4,rfl⟩:=Zf.1 h
   have:=hi.cost y (List.mem_of_getElem? h1)
   simp[Zt,X5,Xp];omega
  ·obtain⟨n,r,h1,h2,h⟩:=Zi.1 h
   obtain⟨y,hy,rfl⟩:=Z1.1 h
   have h3:=hg.rule r (List.mem_of_getElem? h1)
   have h4:=Xc4 r.parts.xs i k y (fun c u v z hz=>Xe2 hg hi f c u v z hz) hy
   rw[X5]
   simp only
   omega
theorem Xaq (hg:Yu g):∀(f:Nat) (c:Int) (i k:Nat) (x:Dv),x∈derF g items f c i k→i<k→X5 x.2≤(2*(k-i)-2)*g.cats.xs.length+1+Vw g c
 | 0,_,_,_,_,h,_=>by cases h
 | f+1,c,i,k,x,h,hik=>by
  unfold derF at h
  rcases List.mem_append.1 h with h|h
  ·obtain⟨n,y,h1,h2,h3,h4,rfl⟩:=Zf.1 h
   simp[Zt,X5,Xp];omega
  ·obtain⟨n,r,h1,h2,h⟩:=Zi.1 h
   obtain⟨y,hy,rfl⟩:=Z1.1 h
   have hr:=List.mem_of_getElem? h1
   have h3:=hg.rule r hr
   rw[X5]
   have hlt:∀c,Vw g c+1≤g.cats.xs.length:=by
    intro c
    unfold Vw
    split
    ·rename_i a ha
     have h5:=hg.circ a (List.mem_of_getElem? ha)
     have h6:=Ty g.rules.xs a g.cats.xs.length
     have h7:=Tb g.rules.xs a g.cats.xs.length
     rcases Nat.lt_or_ge (Vb g.rules.xs a g.cats.xs.length) g.cats.xs.length with h|h
     ·omega
     ·rw[show Vb g.rules.xs a g.cats.xs.length=g.cats.xs.length by omega,h5] at h7;cases h7
    ·have:=hg.start;omega
   have hA:∀c u v,∀y∈derF g items f c u v,u<v→X5 y.2≤(2*(v-u)-1)*g.cats.xs.length:=by
    intro c u v y hy huv
    have h4:=Xaq hg f c u v y hy huv
    have h5:=hlt c
    rw[show 2*(v-u)-1=(2*(v-u)-2)+1 by omega,Nat.add_mul]
    omega
   by_cases hs:r.parts.xs.length=1
   ·obtain⟨p,hp⟩:=List.length_eq_one_iff.1 hs
    rw[hp] at hy
    by_cases ht:p.text.size≠0
    ·obtain⟨h4,h5,h6⟩:=(V8 ht).1 hy
     obtain⟨_,rfl⟩:=V7.1 h6
     simp[Xp];omega
    ·obtain⟨m,h4,h5,a,ha,b,hb,rfl⟩:=(U1 (by simpa using ht)).1 hy
     obtain⟨rfl,rfl⟩:=V7.1 hb
     have h6:=Xaq hg f p.no i m a ha h4
     have h7:=Xfm hg hr hp (by simpa using ht)
     rw[h2] at h7
     simp only[Xp]
     omega
   ·have h4:=Xbq g.cats.xs.length r.parts.xs i k y hA hy
    have h5:(2*(k-i)-r.parts.xs.length)*g.cats.xs.length≤(2*(k-i)-2)*g.cats.xs.length:=Nat.mul_le_mul_right _ (by omega)
    omega
end
/-! ### arguments that are right -/
def Zo (g:Gram) (n:Int) (x:ItemG):Bool :=
 decide (0≤x.frm) && decide (x.frm<x.unt) && decide (x.unt≤n) && (decide (-1≤x.term) && decide (x.term≤1048576)) && (decide (1≤x.tgt.xs.length) && decide (x.tgt.xs.length≤4)) && x.tgt.xs.all Yi &&
  (if x.cat = -1 then decide (x.unt=x.frm+1) && decide (x.cost=0) && decide (x.tgt.xs.length=1) else (decide (0≤x.cat) && decide (x.cat<g.cats.xs.length)) && (decide (0≤x.cost) && decide (x.cost≤1000)))
def errC (g:Gram) (items:List ItemG) (n:Int):Int :=
 if Ys g≠0 then Ys g else if n<1∨16<n then 1 else if 16384<items.length then 2 else if items.all (Zo g n) then 0 else 280
structure T3 (g:Gram) (items:List ItemG) (n:Int):Prop where
 check:Ys g=0
 gram:Yu g
 n1:1≤n
 n16:n≤16
 few:items.length≤16384
 right:∀x∈items,Zo g n x=true
 items:Zr n.toNat g.cats.xs.length items
theorem Ut {g:Gram} {n:Int} {x:ItemG} (h:Zo g n x=true):0≤x.frm∧x.frm<x.unt∧x.unt≤n∧0≤x.cost∧x.cost≤1000 ∧ -1≤x.cat∧(x.cat<g.cats.xs.length∨x.cat = -1)∧1≤x.tgt.xs.length:=by
 unfold Zo at h
 simp only[Bool.and_eq_true,decide_eq_true_eq] at h
 obtain⟨⟨⟨⟨⟨⟨a1,a2⟩,a3⟩,a4⟩,a5⟩,a6⟩,a7⟩:=h
 split at a7
 ·rename_i hc
  simp only[Bool.and_eq_true,decide_eq_true_eq] at a7
  refine⟨a1,a2,a3,by omega,by omega,by omega,.inr hc,a5.1⟩
 ·simp only[Bool.and_eq_true,decide_eq_true_eq] at a7
  refine⟨a1,a2,a3,a7.2.1,a7.2.2,by omega,.inl a7.1.2,a5.1⟩
theorem Vz {g:Gram} {items:List ItemG} {n:Int} (h:errC g items n=0):T3 g items n:=by
 unfold errC at h
 split at h
 ·rename_i h1;exact absurd h h1
 rename_i h1
 split at h
 ·cases h
 rename_i h2
 split at h
 ·cases h
 rename_i h3
 split at h
 ·rename_i h4
  have hc:Ys g=0:=Decidable.not_not.1 h1
  have hg:=Xgs hc
  rw[List.all_eq_true] at h4
  have hst:=hg.start
  refine⟨hc,hg,by omega,by omega,by omega,h4,⟨fun x hx=>?_,fun x hx=>?_,fun x hx=>?_⟩⟩
  ·have:=Ut (h4 x hx);omega
  ·have:=Ut (h4 x hx);omega
  ·have:=Ut (h4 x hx);omega
 ·cases h
/-! ### what is answered -/
def Un:TreeV:=.node 0 0 0 0 []
def Xdl (g:Gram) (items:List ItemG) (n:Int):Option Dv:=Xv (derG g items g.startNo 0 n.toNat)
def bigN:Nat:=1099511627776
def Zk (g:Gram) (items:List ItemG) (n:Int):TreeV×Int×Bool×Int :=
 if errC g items n≠0 then (Un,0,false,errC g items n) else match Xdl g items n with|none=>(Un,0,false,0)|some x=>(x.2,x.1,true,0)
def Vv (g:Gram) (items:List ItemG) (n:Int) (t:TreeV):Int×Bool×Int :=
 if errC g items n≠0 then (0,false,errC g items n) else if 1024<X5 t then (0,false,2)
 else if (X6 g items t g.startNo).2=false∨t.frm≠0∨t.unt≠n then (0,false,0) else ((X6 g items t g.startNo).1,true,0)
section
variable {g:Gram} {items:List ItemG} {n:Int}
theorem Xgq (h:T3 g items n) {x:Dv} (hb:Xdl g items n=some x):X6 g items x.2 g.startNo=(x.1,true)∧x.2.frm=0∧x.2.unt=n∧X5 x.2≤(2*n.toNat-1)*g.cats.xs.length:=by
 have hm:=(Zv hb).1
 obtain⟨h1,h2,h3⟩:=Xb7 _ _ _ _ _ hm
 have h4:=h.n1
 have h5:=Xaq h.gram _ _ _ _ _ hm (by omega)
 refine⟨h3,by simpa using h1,by rw[h2];omega,?_⟩
 have h6:Vw g g.startNo+1≤g.cats.xs.length:=by
  unfold Vw
  split
  ·rename_i a ha
   have h7:=h.gram.circ a (List.mem_of_getElem? ha)
   have h8:=Ty g.rules.xs a g.cats.xs.length
   have h9:=Tb g.rules.xs a g.cats.xs.length
   rcases Nat.lt_or_ge (Vb g.rules.xs a g.cats.xs.length) g.cats.xs.length with h|h
   ·omega
   ·rw[show Vb g.rules.xs a g.cats.xs.length=g.cats.xs.length by omega,h7] at h9;cases h9
  ·have:=h.gram.start;omega
 rw[show 2*n.toNat-1=(2*(n.toNat-0)-2)+1 by omega,Nat.add_mul]
 omega
end
end Go.Proofs.YtolpbjjapodmnaaGreatDoor
namespace Go.Proofs.YtolpbjjapodmnaaGreatDoor
open Go.RowKit Go.Han
attribute [local irreducible] wpStill wpQuiet
set_option maxRecDepth 100000
theorem Tr {α:Type} {P:α→Bool} {xs:List α} {k:Nat} (h:k<xs.length):(xs.take (k+1)).any P=((xs.take k).any P || P xs[k]):=by
 rw[List.take_succ_eq_append_getElem h,List.any_append];simp
def FnBox (w:World) (bo:Nat) (ty:TypeId) (g:Nat) (lb:Array Value):Prop:=w.heap[bo]? = some (.cells #[.func (.func g) #[] lb] ty (0,0))
theorem FnBox.ext {w w':World} {bo:Nat} {ty:TypeId} {g:Nat} {lb:Array Value} (h:FnBox w bo ty g lb) (hb:Below w.heap.size w w'):FnBox w' bo ty g lb:=Xh hb h
theorem Tg {α:Type} (P:α→Bool) (xs:List α):xs.any (fun x => !P x) = !xs.all P:=by
 induction xs with
 | nil=>rfl
 | cons x xs ih=>simp only[List.any_cons,List.all_cons,ih];cases P x<;>simp
/-! ### at string -/
set_option maxHeartbeats 1000000 in
theorem Xno (A:Option Addr) (cp:Nat) (xs:List ByteArray) (fid:Nat) (lb:Array Value) (P:ByteArray→Bool) (w:World) (hr:Rd w A (xs.flatMap (fun b:ByteArray=>[Value.string b]))) (hm:xs.length≤9223372036854775807) (eg:∀args w,(callFunc fid args).run Tryz.prog w = .ok (.enter fid args) w)
  (hf:∀W,Below w.heap.size w W→∀x∈xs,Calls Tryz.prog fid (#[.string x]++lb) W fun e w'=>e = .returned (.bool (P x))∧Below W.heap.size W w') :
  Calls Tryz.prog 173 #[.slice A xs.length cp,.func (.func fid) #[] lb] w fun e w'=>∃k:Int,e = .returned (.int .i64 k)∧decide (0≤k)=xs.any P∧Below w.heap.size w w':=by
 have Hf:=Xa hf
 have HS:=Xa hr
 clear hf hr
 go_enter Tryz.func173,Tryz.ntmps173
 go_wp2_with fail
 go_loopw [8] (fun i wr=>∃k:Nat,k≤xs.length∧i = .int .i64 k∧Below w.heap.size w wr∧Hid ((xs.take k).any P=false)) (fun i _=>xs.length-(intOf i).toNat)
 case atStart=>exact⟨0,Nat.zero_le _,rfl,Below.refl _ _,rfl⟩
 case round =>
  obtain⟨k,hk,rfl,hB,HR⟩:=hrel
  by_cases hlt:k<xs.length
  ·obtain⟨b,off,rfl,hb,hc⟩:=HS.out.elem (s:=1) (fun _=>rfl) (by omega) (k:=k) hlt
   have d0:wr.cell? ⟨b,off+k,none⟩=some (.string xs[k]):=by
    have h:=hc 0 _ rfl
    rw[Nat.mul_one] at h
    exact(hB.cell (p:=⟨b,off+k,none⟩) hb).trans h
   have cF:=Xa (Hf.out wr hB xs[k] (List.getElem_mem hlt))
   have Htk:=Xa (Tr (P:=P) hlt)
   have hmem:=List.getElem_mem hlt
   have Hmem:=Xa hmem
   clear hc hmem
   generalize xs[k]=x at *
   go_wp2_with fail
   refine cF.out.mono ?_
   rintro e w1 ⟨rfl,hb1⟩
   have hB1:=Xb hB hb1
   cases hP:P x
   ·have HN:Hid ((xs.take (k+1)).any P=false):=by show _=_;rw[Htk.out,HR.out,hP];rfl
    clear hP
    go_wp2_with fail
    go_roundw
    case rel=>exact⟨k+1,by omega,by go_num,hB1,HN⟩
    case measure=>simp[intOf];omega
   ·have HN:Hid (xs.any P=true):=List.any_eq_true.2 ⟨x,Hmem.out,hP⟩
    clear hP
    go_wp2_with fail
    go_ret
    exact⟨k,rfl,by rw[HN.out];exact decide_eq_true (by omega),hB1⟩
  ·have HN:Hid (xs.any P=false):=by
    have h:=HR.out
    rw[List.take_of_length_le (by omega)] at h
    exact h
   go_wp2_with fail
   go_ret
   exact⟨-1,rfl,by rw[HN.out];rfl,hB⟩
theorem Xgv (A:Option Addr) (cp:Nat) (xs:List ByteArray) (fid:Nat) (lb:Array Value) (P:ByteArray→Bool) (w:World) (hr:Rd w A (xs.flatMap (fun b:ByteArray=>[Value.string b]))) (hm:xs.length≤9223372036854775807) (eg:∀args w,(callFunc fid args).run Tryz.prog w = .ok (.enter fid args) w)
  (hf:∀W,Below w.heap.size w W→∀x∈xs,Calls Tryz.prog fid (#[.string x]++lb) W fun e w'=>e = .returned (.bool (P x))∧Below W.heap.size W w') :
  Calls Tryz.prog 117 #[.slice A xs.length cp,.func (.func fid) #[] lb] w fun e w'=>e = .returned (.bool (xs.any P))∧Below w.heap.size w w':=by
 have cI:=Xa (Xno A cp xs fid lb P w hr hm eg hf)
 clear hr hf eg
 go_enter Tryz.func117,Tryz.ntmps117
 go_wp2_with fail
 refine cI.out.mono ?_
 rintro e w1 ⟨k,rfl,hk,hb1⟩
 cases hP:xs.any P
 ·rw[hP] at hk
  have g1:decide (k≥0)=false:=hk
  have g2:k<0:=by have:=of_decide_eq_false hk;omega
  clear hk
  go_wp2_with fail
  go_ret
  exact⟨by first|rfl|(rw[hP];rfl)|(rw[hP];simp;omega),hb1⟩
 ·rw[hP] at hk
  have g1:decide (k≥0)=true:=hk
  have g2:0≤k:=of_decide_eq_true hk
  clear hk
  go_wp2_with fail
  go_ret
  exact⟨by first|rfl|(rw[hP];rfl)|(rw[hP];simp;omega),hb1⟩
theorem Xoa (bo g:Nat) (lb:Array Value) (P:ByteArray→Bool) (x:ByteArray) (w:World) (hbo:FnBox w bo 50 g lb) (eg:∀args w,(callFunc g args).run Tryz.prog w = .ok (.enter g args) w)
  (hf:∀W,Below w.heap.size w W→Calls Tryz.prog g (#[.string x]++lb) W fun e w'=>e = .returned (.bool (P x))∧Below W.heap.size W w') :
  Calls Tryz.prog 271 #[.string x,.pointer (some ⟨bo,0,none⟩)] w fun e w'=>e = .returned (.bool (!P x))∧Below w.heap.size w w':=by
 have c0:=Xj hbo
 have hlt:=Xc hbo
 have Hf:=Xa hf
 clear hf hbo
 go_enter Tryz.func271,Tryz.ntmps271
 go_wp2_with fail
 refine(Hf.out _ (Below.refl _ _)).mono ?_
 rintro e w1 ⟨rfl,hb1⟩
 go_wp2_with fail
 go_ret
 exact⟨rfl,hb1⟩
set_option maxHeartbeats 1000000 in
theorem Xpl (bl:Nat) (A:Option Addr) (cp:Nat) (xs:List ByteArray) (g:Nat) (lb:Array Value) (P:ByteArray→Bool) (w:World) (hbl:w.heap[bl]? = some (.cells #[.slice A xs.length cp] 22 (0,0))) (hr:Rd w A (xs.flatMap (fun b:ByteArray=>[Value.string b]))) (hm:xs.length≤9223372036854775807) (eg:∀args w,(callFunc g args).run Tryz.prog w = .ok (.enter g args) w)
  (hf:∀W,Below w.heap.size w W→∀x∈xs,Calls Tryz.prog g (#[.string x]++lb) W fun e w'=>e = .returned (.bool (P x))∧Below W.heap.size W w') :
  Calls Tryz.prog 231 #[.func (.func g) #[] lb,.slice (some ⟨bl,0,none⟩) 1 1] w fun e w'=>e = .returned (.bool (xs.all P))∧Below w.heap.size w w':=by
 obtain⟨W1,hW1⟩:∃W1,w.alloc (.cells #[.func (.func g) #[] lb] 50)=W1:=⟨_,rfl⟩
 have hB1:Below w.heap.size w W1:=by subst hW1;exact Xe (Below.refl _ _) _
 have hbo:FnBox W1 w.heap.size 50 g lb:=by subst hW1;exact World.alloc_heap_new _ _
 have c0:=Xj (Xh hB1 hbl)
 have hmf:∀(fn:Fn) (first cap:Array Value) (w:World),(Instr.makeFunc fn first cap).run Tryz.prog w = .ok (.func fn first cap) w:=fun _ _ _ _=>rfl
 have cC:=Xa (Xgv A cp xs 271 #[.pointer (some ⟨w.heap.size,0,none⟩)] (fun x => !P x) W1 (hr.ext hB1) hm (enters_of Tryz.func271 (by kernel_rfl) rfl)
  (fun W hW x hx=>Xoa w.heap.size g lb P x W (hbo.ext hW) eg fun V hV=>hf V (Xb hB1 (Xb hW hV)) x hx))
 have HA:=Xa (Tg P xs)
 have HW1:=Xa hW1
 clear hf hr hbl hW1 hbo
 go_enter Tryz.func231,Tryz.ntmps231
 go_wp2_with fail
 rw[HW1.out]
 clear HW1
 go_loopw [9] (fun i wr=>(i = .int .i64 0∧wr=W1)∨(i = .int .i64 1∧Below w.heap.size w wr∧Hid (xs.all P=true))) (fun i _=>1-(intOf i).toNat)
 case atStart=>exact .inl ⟨rfl,rfl⟩
 case round =>
  rcases hrel with ⟨rfl,rfl⟩|⟨rfl,hB,HR⟩
  ·go_wp2_with fail
   refine cC.out.mono ?_
   rintro e w1 ⟨rfl,hb1⟩
   rw[HA.out]
   have hB2:=Xb hB1 hb1
   clear cC hb1 hB1 c0
   cases hP:xs.all P
   ·go_wp2_with fail
    go_ret
    exact⟨by rw[hP];rfl,hB2⟩
   ·have HR:=Xa hP
    clear hP
    go_wp2_with fail
    go_roundw
    case rel=>exact .inr ⟨rfl,hB2,HR⟩
    case measure=>simp[intOf]
  ·clear c0 cC
   go_wp2_with fail
   go_ret
   exact⟨by rw[HR.out];rfl,hB⟩
/-! ### at hansard/api.Entry -/
set_option maxHeartbeats 1000000 in
theorem Xnl (A:Option Addr) (cp:Nat) (xs:List EntryG) (fid:Nat) (lb:Array Value) (P:EntryG→Bool) (w:World) (hr:Rd w A (xs.flatMap EntryG.cells)) (hm:xs.length≤9223372036854775807) (eg:∀args w,(callFunc fid args).run Tryz.prog w = .ok (.enter fid args) w)
  (hf:∀W,Below w.heap.size w W→∀x∈xs,Calls Tryz.prog fid (#[.agg #[.string x.text,.string x.cat,.int .i64 x.no,.slice x.gives.addr x.gives.xs.length x.gives.cap,.int .i64 x.cost]]++lb) W fun e w'=>e = .returned (.bool (P x))∧Below W.heap.size W w') :
  Calls Tryz.prog 297 #[.slice A xs.length cp,.func (.func fid) #[] lb] w fun e w'=>∃k:Int,e = .returned (.int .i64 k)∧decide (0≤k)=xs.any P∧Below w.heap.size w w':=by
 have Hf:=Xa hf
 have HS:=Xa hr
 clear hf hr
 go_enter Tryz.func297,Tryz.ntmps297
 go_wp2_with fail
 go_loopw [8] (fun i wr=>∃k:Nat,k≤xs.length∧i = .int .i64 k∧Below w.heap.size w wr∧Hid ((xs.take k).any P=false)) (fun i _=>xs.length-(intOf i).toNat)
 case atStart=>exact⟨0,Nat.zero_le _,rfl,Below.refl _ _,rfl⟩
 case round =>
  obtain⟨k,hk,rfl,hB,HR⟩:=hrel
  by_cases hlt:k<xs.length
  ·obtain⟨b,off,rfl,hb,hc⟩:=HS.out.elem (s:=5) (fun _=>rfl) (by omega) (k:=k) hlt
   have d0:wr.cell? ⟨b,off+k*5,none⟩=some _:=(hB.cell (p:=⟨b,off+k*5,none⟩) hb).trans (hc 0 _ rfl)
   have d1:wr.cell? ⟨b,off+k*5+1,none⟩=some _:=(hB.cell (p:=⟨b,off+k*5+1,none⟩) hb).trans (hc 1 _ rfl)
   have d2:wr.cell? ⟨b,off+k*5+2,none⟩=some _:=(hB.cell (p:=⟨b,off+k*5+2,none⟩) hb).trans (hc 2 _ rfl)
   have d3:wr.cell? ⟨b,off+k*5+3,none⟩=some _:=(hB.cell (p:=⟨b,off+k*5+3,none⟩) hb).trans (hc 3 _ rfl)
   have d4:wr.cell? ⟨b,off+k*5+4,none⟩=some _:=(hB.cell (p:=⟨b,off+k*5+4,none⟩) hb).trans (hc 4 _ rfl)
   have cF:=Xa (Hf.out wr hB xs[k] (List.getElem_mem hlt))
   have Htk:=Xa (Tr (P:=P) hlt)
   have hmem:=List.getElem_mem hlt
   have Hmem:=Xa hmem
   clear hc hmem
   generalize xs[k]=x at *
   go_wp2_with fail
   refine cF.out.mono ?_
   rintro e w1 ⟨rfl,hb1⟩
   have hB1:=Xb hB hb1
   cases hP:P x
   ·have HN:Hid ((xs.take (k+1)).any P=false):=by show _=_;rw[Htk.out,HR.out,hP];rfl
    clear hP
    go_wp2_with fail
    go_roundw
    case rel=>exact⟨k+1,by omega,by go_num,hB1,HN⟩
    case measure=>simp[intOf];omega
   ·have HN:Hid (xs.any P=true):=List.any_eq_true.2 ⟨x,Hmem.out,hP⟩
    clear hP
    go_wp2_with fail
    go_ret
    exact⟨k,rfl,by rw[HN.out];exact decide_eq_true (by omega),hB1⟩
  ·have HN:Hid (xs.any P=false):=by
    have h:=HR.out
    rw[List.take_of_length_le (by omega)] at h
    exact h
   go_wp2_with fail
   go_ret
   exact⟨-1,rfl,by rw[HN.out];rfl,hB⟩
theorem Xm5 (A:Option Addr) (cp:Nat) (xs:List EntryG) (fid:Nat) (lb:Array Value) (P:EntryG→Bool) (w:World) (hr:Rd w A (xs.flatMap EntryG.cells)) (hm:xs.length≤9223372036854775807) (eg:∀args w,(callFunc fid args).run Tryz.prog w = .ok (.enter fid args) w)
  (hf:∀W,Below w.heap.size w W→∀x∈xs,Calls Tryz.prog fid (#[.agg #[.string x.text,.string x.cat,.int .i64 x.no,.slice x.gives.addr x.gives.xs.length x.gives.cap,.int .i64 x.cost]]++lb) W fun e w'=>e = .returned (.bool (P x))∧Below W.heap.size W w') :
  Calls Tryz.prog 274 #[.slice A xs.length cp,.func (.func fid) #[] lb] w fun e w'=>e = .returned (.bool (xs.any P))∧Below w.heap.size w w':=by
 have cI:=Xa (Xnl A cp xs fid lb P w hr hm eg hf)
 clear hr hf eg
 go_enter Tryz.func274,Tryz.ntmps274
 go_wp2_with fail
 refine cI.out.mono ?_
 rintro e w1 ⟨k,rfl,hk,hb1⟩
 cases hP:xs.any P
 ·rw[hP] at hk
  have g1:decide (k≥0)=false:=hk
  have g2:k<0:=by have:=of_decide_eq_false hk;omega
  clear hk
  go_wp2_with fail
  go_ret
  exact⟨by first|rfl|(rw[hP];rfl)|(rw[hP];simp;omega),hb1⟩
 ·rw[hP] at hk
  have g1:decide (k≥0)=true:=hk
  have g2:0≤k:=of_decide_eq_true hk
  clear hk
  go_wp2_with fail
  go_ret
  exact⟨by first|rfl|(rw[hP];rfl)|(rw[hP];simp;omega),hb1⟩
theorem Xn6 (bo g:Nat) (lb:Array Value) (P:EntryG→Bool) (x:EntryG) (w:World) (hbo:FnBox w bo 287 g lb) (eg:∀args w,(callFunc g args).run Tryz.prog w = .ok (.enter g args) w)
  (hf:∀W,Below w.heap.size w W→Calls Tryz.prog g (#[.agg #[.string x.text,.string x.cat,.int .i64 x.no,.slice x.gives.addr x.gives.xs.length x.gives.cap,.int .i64 x.cost]]++lb) W fun e w'=>e = .returned (.bool (P x))∧Below W.heap.size W w') :
  Calls Tryz.prog 275 #[.agg #[.string x.text,.string x.cat,.int .i64 x.no,.slice x.gives.addr x.gives.xs.length x.gives.cap,.int .i64 x.cost],.pointer (some ⟨bo,0,none⟩)] w fun e w'=>e = .returned (.bool (!P x))∧Below w.heap.size w w':=by
 have c0:=Xj hbo
 have hlt:=Xc hbo
 have Hf:=Xa hf
 clear hf hbo
 go_enter Tryz.func275,Tryz.ntmps275
 go_wp2_with fail
 refine(Hf.out _ (Xe (Below.refl _ _) _)).mono ?_
 rintro e w1 ⟨rfl,hb1⟩
 go_wp2_with fail
 go_ret
 exact⟨rfl,Xb (Xe (Below.refl _ _) _) hb1⟩
set_option maxHeartbeats 1000000 in
theorem Xpf (bl:Nat) (A:Option Addr) (cp:Nat) (xs:List EntryG) (g:Nat) (lb:Array Value) (P:EntryG→Bool) (w:World) (hbl:w.heap[bl]? = some (.cells #[.slice A xs.length cp] 23 (0,0))) (hr:Rd w A (xs.flatMap EntryG.cells)) (hm:xs.length≤9223372036854775807) (eg:∀args w,(callFunc g args).run Tryz.prog w = .ok (.enter g args) w)
  (hf:∀W,Below w.heap.size w W→∀x∈xs,Calls Tryz.prog g (#[.agg #[.string x.text,.string x.cat,.int .i64 x.no,.slice x.gives.addr x.gives.xs.length x.gives.cap,.int .i64 x.cost]]++lb) W fun e w'=>e = .returned (.bool (P x))∧Below W.heap.size W w') :
  Calls Tryz.prog 235 #[.func (.func g) #[] lb,.slice (some ⟨bl,0,none⟩) 1 1] w fun e w'=>e = .returned (.bool (xs.all P))∧Below w.heap.size w w':=by
 obtain⟨W1,hW1⟩:∃W1,w.alloc (.cells #[.func (.func g) #[] lb] 287)=W1:=⟨_,rfl⟩
 have hB1:Below w.heap.size w W1:=by subst hW1;exact Xe (Below.refl _ _) _
 have hbo:FnBox W1 w.heap.size 287 g lb:=by subst hW1;exact World.alloc_heap_new _ _
 have c0:=Xj (Xh hB1 hbl)
 have hmf:∀(fn:Fn) (first cap:Array Value) (w:World),(Instr.makeFunc fn first cap).run Tryz.prog w = .ok (.func fn first cap) w:=fun _ _ _ _=>rfl
 have cC:=Xa (Xm5 A cp xs 275 #[.pointer (some ⟨w.heap.size,0,none⟩)] (fun x => !P x) W1 (hr.ext hB1) hm (enters_of Tryz.func275 (by kernel_rfl) rfl)
  (fun W hW x hx=>Xn6 w.heap.size g lb P x W (hbo.ext hW) eg fun V hV=>hf V (Xb hB1 (Xb hW hV)) x hx))
 have HA:=Xa (Tg P xs)
 have HW1:=Xa hW1
 clear hf hr hbl hW1 hbo
 go_enter Tryz.func235,Tryz.ntmps235
 go_wp2_with fail
 rw[HW1.out]
 clear HW1
 go_loopw [9] (fun i wr=>(i = .int .i64 0∧wr=W1)∨(i = .int .i64 1∧Below w.heap.size w wr∧Hid (xs.all P=true))) (fun i _=>1-(intOf i).toNat)
 case atStart=>exact .inl ⟨rfl,rfl⟩
 case round =>
  rcases hrel with ⟨rfl,rfl⟩|⟨rfl,hB,HR⟩
  ·go_wp2_with fail
   refine cC.out.mono ?_
   rintro e w1 ⟨rfl,hb1⟩
   rw[HA.out]
   have hB2:=Xb hB1 hb1
   clear cC hb1 hB1 c0
   cases hP:xs.all P
   ·go_wp2_with fail
    go_ret
    exact⟨by rw[hP];rfl,hB2⟩
   ·have HR:=Xa hP
    clear hP
    go_wp2_with fail
    go_roundw
    case rel=>exact .inr ⟨rfl,hB2,HR⟩
    case measure=>simp[intOf]
  ·clear c0 cC
   go_wp2_with fail
   go_ret
   exact⟨by rw[HR.out];rfl,hB⟩
/-! ### at hansard/api.Part -/
set_option maxHeartbeats 1000000 in
theorem Xnm (A:Option Addr) (cp:Nat) (xs:List PartG) (fid:Nat) (lb:Array Value) (P:PartG→Bool) (w:World) (hr:Rd w A (xs.flatMap PartG.cells)) (hm:xs.length≤9223372036854775807) (eg:∀args w,(callFunc fid args).run Tryz.prog w = .ok (.enter fid args) w)
  (hf:∀W,Below w.heap.size w W→∀x∈xs,Calls Tryz.prog fid (#[.agg #[.string x.cat,.int .i64 x.no,.string x.text]]++lb) W fun e w'=>e = .returned (.bool (P x))∧Below W.heap.size W w') :
  Calls Tryz.prog 296 #[.slice A xs.length cp,.func (.func fid) #[] lb] w fun e w'=>∃k:Int,e = .returned (.int .i64 k)∧decide (0≤k)=xs.any P∧Below w.heap.size w w':=by
 have Hf:=Xa hf
 have HS:=Xa hr
 clear hf hr
 go_enter Tryz.func296,Tryz.ntmps296
 go_wp2_with fail
 go_loopw [8] (fun i wr=>∃k:Nat,k≤xs.length∧i = .int .i64 k∧Below w.heap.size w wr∧Hid ((xs.take k).any P=false)) (fun i _=>xs.length-(intOf i).toNat)
 case atStart=>exact⟨0,Nat.zero_le _,rfl,Below.refl _ _,rfl⟩
 case round =>
  obtain⟨k,hk,rfl,hB,HR⟩:=hrel
  by_cases hlt:k<xs.length
  ·obtain⟨b,off,rfl,hb,hc⟩:=HS.out.elem (s:=3) (fun _=>rfl) (by omega) (k:=k) hlt
   have d0:wr.cell? ⟨b,off+k*3,none⟩=some _:=(hB.cell (p:=⟨b,off+k*3,none⟩) hb).trans (hc 0 _ rfl)
   have d1:wr.cell? ⟨b,off+k*3+1,none⟩=some _:=(hB.cell (p:=⟨b,off+k*3+1,none⟩) hb).trans (hc 1 _ rfl)
   have d2:wr.cell? ⟨b,off+k*3+2,none⟩=some _:=(hB.cell (p:=⟨b,off+k*3+2,none⟩) hb).trans (hc 2 _ rfl)
   have cF:=Xa (Hf.out wr hB xs[k] (List.getElem_mem hlt))
   have Htk:=Xa (Tr (P:=P) hlt)
   have hmem:=List.getElem_mem hlt
   have Hmem:=Xa hmem
   clear hc hmem
   generalize xs[k]=x at *
   go_wp2_with fail
   refine cF.out.mono ?_
   rintro e w1 ⟨rfl,hb1⟩
   have hB1:=Xb hB hb1
   cases hP:P x
   ·have HN:Hid ((xs.take (k+1)).any P=false):=by show _=_;rw[Htk.out,HR.out,hP];rfl
    clear hP
    go_wp2_with fail
    go_roundw
    case rel=>exact⟨k+1,by omega,by go_num,hB1,HN⟩
    case measure=>simp[intOf];omega
   ·have HN:Hid (xs.any P=true):=List.any_eq_true.2 ⟨x,Hmem.out,hP⟩
    clear hP
    go_wp2_with fail
    go_ret
    exact⟨k,rfl,by rw[HN.out];exact decide_eq_true (by omega),hB1⟩
  ·have HN:Hid (xs.any P=false):=by
    have h:=HR.out
    rw[List.take_of_length_le (by omega)] at h
    exact h
   go_wp2_with fail
   go_ret
   exact⟨-1,rfl,by rw[HN.out];rfl,hB⟩
theorem Xm6 (A:Option Addr) (cp:Nat) (xs:List PartG) (fid:Nat) (lb:Array Value) (P:PartG→Bool) (w:World) (hr:Rd w A (xs.flatMap PartG.cells)) (hm:xs.length≤9223372036854775807) (eg:∀args w,(callFunc fid args).run Tryz.prog w = .ok (.enter fid args) w)
  (hf:∀W,Below w.heap.size w W→∀x∈xs,Calls Tryz.prog fid (#[.agg #[.string x.cat,.int .i64 x.no,.string x.text]]++lb) W fun e w'=>e = .returned (.bool (P x))∧Below W.heap.size W w') :
  Calls Tryz.prog 272 #[.slice A xs.length cp,.func (.func fid) #[] lb] w fun e w'=>e = .returned (.bool (xs.any P))∧Below w.heap.size w w':=by
 have cI:=Xa (Xnm A cp xs fid lb P w hr hm eg hf)
 clear hr hf eg
 go_enter Tryz.func272,Tryz.ntmps272
 go_wp2_with fail
 refine cI.out.mono ?_
 rintro e w1 ⟨k,rfl,hk,hb1⟩
 cases hP:xs.any P
 ·rw[hP] at hk
  have g1:decide (k≥0)=false:=hk
  have g2:k<0:=by have:=of_decide_eq_false hk;omega
  clear hk
  go_wp2_with fail
  go_ret
  exact⟨by first|rfl|(rw[hP];rfl)|(rw[hP];simp;omega),hb1⟩
 ·rw[hP] at hk
  have g1:decide (k≥0)=true:=hk
  have g2:0≤k:=of_decide_eq_true hk
  clear hk
  go_wp2_with fail
  go_ret
  exact⟨by first|rfl|(rw[hP];rfl)|(rw[hP];simp;omega),hb1⟩
theorem Xn8 (bo g:Nat) (lb:Array Value) (P:PartG→Bool) (x:PartG) (w:World) (hbo:FnBox w bo 288 g lb) (eg:∀args w,(callFunc g args).run Tryz.prog w = .ok (.enter g args) w)
  (hf:∀W,Below w.heap.size w W→Calls Tryz.prog g (#[.agg #[.string x.cat,.int .i64 x.no,.string x.text]]++lb) W fun e w'=>e = .returned (.bool (P x))∧Below W.heap.size W w') :
  Calls Tryz.prog 273 #[.agg #[.string x.cat,.int .i64 x.no,.string x.text],.pointer (some ⟨bo,0,none⟩)] w fun e w'=>e = .returned (.bool (!P x))∧Below w.heap.size w w':=by
 have c0:=Xj hbo
 have hlt:=Xc hbo
 have Hf:=Xa hf
 clear hf hbo
 go_enter Tryz.func273,Tryz.ntmps273
 go_wp2_with fail
 refine(Hf.out _ (Xe (Below.refl _ _) _)).mono ?_
 rintro e w1 ⟨rfl,hb1⟩
 go_wp2_with fail
 go_ret
 exact⟨rfl,Xb (Xe (Below.refl _ _) _) hb1⟩
set_option maxHeartbeats 1000000 in
theorem Xph (bl:Nat) (A:Option Addr) (cp:Nat) (xs:List PartG) (g:Nat) (lb:Array Value) (P:PartG→Bool) (w:World) (hbl:w.heap[bl]? = some (.cells #[.slice A xs.length cp] 76 (0,0))) (hr:Rd w A (xs.flatMap PartG.cells)) (hm:xs.length≤9223372036854775807) (eg:∀args w,(callFunc g args).run Tryz.prog w = .ok (.enter g args) w)
  (hf:∀W,Below w.heap.size w W→∀x∈xs,Calls Tryz.prog g (#[.agg #[.string x.cat,.int .i64 x.no,.string x.text]]++lb) W fun e w'=>e = .returned (.bool (P x))∧Below W.heap.size W w') :
  Calls Tryz.prog 234 #[.func (.func g) #[] lb,.slice (some ⟨bl,0,none⟩) 1 1] w fun e w'=>e = .returned (.bool (xs.all P))∧Below w.heap.size w w':=by
 obtain⟨W1,hW1⟩:∃W1,w.alloc (.cells #[.func (.func g) #[] lb] 288)=W1:=⟨_,rfl⟩
 have hB1:Below w.heap.size w W1:=by subst hW1;exact Xe (Below.refl _ _) _
 have hbo:FnBox W1 w.heap.size 288 g lb:=by subst hW1;exact World.alloc_heap_new _ _
 have c0:=Xj (Xh hB1 hbl)
 have hmf:∀(fn:Fn) (first cap:Array Value) (w:World),(Instr.makeFunc fn first cap).run Tryz.prog w = .ok (.func fn first cap) w:=fun _ _ _ _=>rfl
 have cC:=Xa (Xm6 A cp xs 273 #[.pointer (some ⟨w.heap.size,0,none⟩)] (fun x => !P x) W1 (hr.ext hB1) hm (enters_of Tryz.func273 (by kernel_rfl) rfl)
  (fun W hW x hx=>Xn8 w.heap.size g lb P x W (hbo.ext hW) eg fun V hV=>hf V (Xb hB1 (Xb hW hV)) x hx))
 have HA:=Xa (Tg P xs)
 have HW1:=Xa hW1
 clear hf hr hbl hW1 hbo
 go_enter Tryz.func234,Tryz.ntmps234
 go_wp2_with fail
 rw[HW1.out]
 clear HW1
 go_loopw [9] (fun i wr=>(i = .int .i64 0∧wr=W1)∨(i = .int .i64 1∧Below w.heap.size w wr∧Hid (xs.all P=true))) (fun i _=>1-(intOf i).toNat)
 case atStart=>exact .inl ⟨rfl,rfl⟩
 case round =>
  rcases hrel with ⟨rfl,rfl⟩|⟨rfl,hB,HR⟩
  ·go_wp2_with fail
   refine cC.out.mono ?_
   rintro e w1 ⟨rfl,hb1⟩
   rw[HA.out]
   have hB2:=Xb hB1 hb1
   clear cC hb1 hB1 c0
   cases hP:xs.all P
   ·go_wp2_with fail
    go_ret
    exact⟨by rw[hP];rfl,hB2⟩
   ·have HR:=Xa hP
    clear hP
    go_wp2_with fail
    go_roundw
    case rel=>exact .inr ⟨rfl,hB2,HR⟩
    case measure=>simp[intOf]
  ·clear c0 cC
   go_wp2_with fail
   go_ret
   exact⟨by rw[HR.out];rfl,hB⟩
/-! ### at hansard/api.Rule -/
set_option maxHeartbeats 1000000 in
theorem Xnn (A:Option Addr) (cp:Nat) (xs:List RuleG) (fid:Nat) (lb:Array Value) (P:RuleG→Bool) (w:World) (hr:Rd w A (xs.flatMap RuleG.cells)) (hm:xs.length≤9223372036854775807) (eg:∀args w,(callFunc fid args).run Tryz.prog w = .ok (.enter fid args) w)
  (hf:∀W,Below w.heap.size w W→∀x∈xs,Calls Tryz.prog fid (#[.agg #[.string x.cat,.int .i64 x.no,.slice x.parts.addr x.parts.xs.length x.parts.cap,.slice x.gives.addr x.gives.xs.length x.gives.cap,.int .i64 x.cost]]++lb) W fun e w'=>e = .returned (.bool (P x))∧Below W.heap.size W w') :
  Calls Tryz.prog 277 #[.slice A xs.length cp,.func (.func fid) #[] lb] w fun e w'=>∃k:Int,e = .returned (.int .i64 k)∧decide (0≤k)=xs.any P∧Below w.heap.size w w':=by
 have Hf:=Xa hf
 have HS:=Xa hr
 clear hf hr
 go_enter Tryz.func277,Tryz.ntmps277
 go_wp2_with fail
 go_loopw [8] (fun i wr=>∃k:Nat,k≤xs.length∧i = .int .i64 k∧Below w.heap.size w wr∧Hid ((xs.take k).any P=false)) (fun i _=>xs.length-(intOf i).toNat)
 case atStart=>exact⟨0,Nat.zero_le _,rfl,Below.refl _ _,rfl⟩
 case round =>
  obtain⟨k,hk,rfl,hB,HR⟩:=hrel
  by_cases hlt:k<xs.length
  ·obtain⟨b,off,rfl,hb,hc⟩:=HS.out.elem (s:=5) (fun _=>rfl) (by omega) (k:=k) hlt
   have d0:wr.cell? ⟨b,off+k*5,none⟩=some _:=(hB.cell (p:=⟨b,off+k*5,none⟩) hb).trans (hc 0 _ rfl)
   have d1:wr.cell? ⟨b,off+k*5+1,none⟩=some _:=(hB.cell (p:=⟨b,off+k*5+1,none⟩) hb).trans (hc 1 _ rfl)
   have d2:wr.cell? ⟨b,off+k*5+2,none⟩=some _:=(hB.cell (p:=⟨b,off+k*5+2,none⟩) hb).trans (hc 2 _ rfl)
   have d3:wr.cell? ⟨b,off+k*5+3,none⟩=some _:=(hB.cell (p:=⟨b,off+k*5+3,none⟩) hb).trans (hc 3 _ rfl)
   have d4:wr.cell? ⟨b,off+k*5+4,none⟩=some _:=(hB.cell (p:=⟨b,off+k*5+4,none⟩) hb).trans (hc 4 _ rfl)
   have cF:=Xa (Hf.out wr hB xs[k] (List.getElem_mem hlt))
   have Htk:=Xa (Tr (P:=P) hlt)
   have hmem:=List.getElem_mem hlt
   have Hmem:=Xa hmem
   clear hc hmem
   generalize xs[k]=x at *
   go_wp2_with fail
   refine cF.out.mono ?_
   rintro e w1 ⟨rfl,hb1⟩
   have hB1:=Xb hB hb1
   cases hP:P x
   ·have HN:Hid ((xs.take (k+1)).any P=false):=by show _=_;rw[Htk.out,HR.out,hP];rfl
    clear hP
    go_wp2_with fail
    go_roundw
    case rel=>exact⟨k+1,by omega,by go_num,hB1,HN⟩
    case measure=>simp[intOf];omega
   ·have HN:Hid (xs.any P=true):=List.any_eq_true.2 ⟨x,Hmem.out,hP⟩
    clear hP
    go_wp2_with fail
    go_ret
    exact⟨k,rfl,by rw[HN.out];exact decide_eq_true (by omega),hB1⟩
  ·have HN:Hid (xs.any P=false):=by
    have h:=HR.out
    rw[List.take_of_length_le (by omega)] at h
    exact h
   go_wp2_with fail
   go_ret
   exact⟨-1,rfl,by rw[HN.out];rfl,hB⟩
theorem Xgu (A:Option Addr) (cp:Nat) (xs:List RuleG) (fid:Nat) (lb:Array Value) (P:RuleG→Bool) (w:World) (hr:Rd w A (xs.flatMap RuleG.cells)) (hm:xs.length≤9223372036854775807) (eg:∀args w,(callFunc fid args).run Tryz.prog w = .ok (.enter fid args) w)
  (hf:∀W,Below w.heap.size w W→∀x∈xs,Calls Tryz.prog fid (#[.agg #[.string x.cat,.int .i64 x.no,.slice x.parts.addr x.parts.xs.length x.parts.cap,.slice x.gives.addr x.gives.xs.length x.gives.cap,.int .i64 x.cost]]++lb) W fun e w'=>e = .returned (.bool (P x))∧Below W.heap.size W w') :
  Calls Tryz.prog 238 #[.slice A xs.length cp,.func (.func fid) #[] lb] w fun e w'=>e = .returned (.bool (xs.any P))∧Below w.heap.size w w':=by
 have cI:=Xa (Xnn A cp xs fid lb P w hr hm eg hf)
 clear hr hf eg
 go_enter Tryz.func238,Tryz.ntmps238
 go_wp2_with fail
 refine cI.out.mono ?_
 rintro e w1 ⟨k,rfl,hk,hb1⟩
 cases hP:xs.any P
 ·rw[hP] at hk
  have g1:decide (k≥0)=false:=hk
  have g2:k<0:=by have:=of_decide_eq_false hk;omega
  clear hk
  go_wp2_with fail
  go_ret
  exact⟨by first|rfl|(rw[hP];rfl)|(rw[hP];simp;omega),hb1⟩
 ·rw[hP] at hk
  have g1:decide (k≥0)=true:=hk
  have g2:0≤k:=of_decide_eq_true hk
  clear hk
  go_wp2_with fail
  go_ret
  exact⟨by first|rfl|(rw[hP];rfl)|(rw[hP];simp;omega),hb1⟩
theorem Xn9 (bo g:Nat) (lb:Array Value) (P:RuleG→Bool) (x:RuleG) (w:World) (hbo:FnBox w bo 290 g lb) (eg:∀args w,(callFunc g args).run Tryz.prog w = .ok (.enter g args) w)
  (hf:∀W,Below w.heap.size w W→Calls Tryz.prog g (#[.agg #[.string x.cat,.int .i64 x.no,.slice x.parts.addr x.parts.xs.length x.parts.cap,.slice x.gives.addr x.gives.xs.length x.gives.cap,.int .i64 x.cost]]++lb) W fun e w'=>e = .returned (.bool (P x))∧Below W.heap.size W w') :
  Calls Tryz.prog 276 #[.agg #[.string x.cat,.int .i64 x.no,.slice x.parts.addr x.parts.xs.length x.parts.cap,.slice x.gives.addr x.gives.xs.length x.gives.cap,.int .i64 x.cost],.pointer (some ⟨bo,0,none⟩)] w fun e w'=>e = .returned (.bool (!P x))∧Below w.heap.size w w':=by
 have c0:=Xj hbo
 have hlt:=Xc hbo
 have Hf:=Xa hf
 clear hf hbo
 go_enter Tryz.func276,Tryz.ntmps276
 go_wp2_with fail
 refine(Hf.out _ (Xe (Below.refl _ _) _)).mono ?_
 rintro e w1 ⟨rfl,hb1⟩
 go_wp2_with fail
 go_ret
 exact⟨rfl,Xb (Xe (Below.refl _ _) _) hb1⟩
set_option maxHeartbeats 1000000 in
theorem Xpj (bl:Nat) (A:Option Addr) (cp:Nat) (xs:List RuleG) (g:Nat) (lb:Array Value) (P:RuleG→Bool) (w:World) (hbl:w.heap[bl]? = some (.cells #[.slice A xs.length cp] 24 (0,0))) (hr:Rd w A (xs.flatMap RuleG.cells)) (hm:xs.length≤9223372036854775807) (eg:∀args w,(callFunc g args).run Tryz.prog w = .ok (.enter g args) w)
  (hf:∀W,Below w.heap.size w W→∀x∈xs,Calls Tryz.prog g (#[.agg #[.string x.cat,.int .i64 x.no,.slice x.parts.addr x.parts.xs.length x.parts.cap,.slice x.gives.addr x.gives.xs.length x.gives.cap,.int .i64 x.cost]]++lb) W fun e w'=>e = .returned (.bool (P x))∧Below W.heap.size W w') :
  Calls Tryz.prog 236 #[.func (.func g) #[] lb,.slice (some ⟨bl,0,none⟩) 1 1] w fun e w'=>e = .returned (.bool (xs.all P))∧Below w.heap.size w w':=by
 obtain⟨W1,hW1⟩:∃W1,w.alloc (.cells #[.func (.func g) #[] lb] 290)=W1:=⟨_,rfl⟩
 have hB1:Below w.heap.size w W1:=by subst hW1;exact Xe (Below.refl _ _) _
 have hbo:FnBox W1 w.heap.size 290 g lb:=by subst hW1;exact World.alloc_heap_new _ _
 have c0:=Xj (Xh hB1 hbl)
 have hmf:∀(fn:Fn) (first cap:Array Value) (w:World),(Instr.makeFunc fn first cap).run Tryz.prog w = .ok (.func fn first cap) w:=fun _ _ _ _=>rfl
 have cC:=Xa (Xgu A cp xs 276 #[.pointer (some ⟨w.heap.size,0,none⟩)] (fun x => !P x) W1 (hr.ext hB1) hm (enters_of Tryz.func276 (by kernel_rfl) rfl)
  (fun W hW x hx=>Xn9 w.heap.size g lb P x W (hbo.ext hW) eg fun V hV=>hf V (Xb hB1 (Xb hW hV)) x hx))
 have HA:=Xa (Tg P xs)
 have HW1:=Xa hW1
 clear hf hr hbl hW1 hbo
 go_enter Tryz.func236,Tryz.ntmps236
 go_wp2_with fail
 rw[HW1.out]
 clear HW1
 go_loopw [9] (fun i wr=>(i = .int .i64 0∧wr=W1)∨(i = .int .i64 1∧Below w.heap.size w wr∧Hid (xs.all P=true))) (fun i _=>1-(intOf i).toNat)
 case atStart=>exact .inl ⟨rfl,rfl⟩
 case round =>
  rcases hrel with ⟨rfl,rfl⟩|⟨rfl,hB,HR⟩
  ·go_wp2_with fail
   refine cC.out.mono ?_
   rintro e w1 ⟨rfl,hb1⟩
   rw[HA.out]
   have hB2:=Xb hB1 hb1
   clear cC hb1 hB1 c0
   cases hP:xs.all P
   ·go_wp2_with fail
    go_ret
    exact⟨by rw[hP];rfl,hB2⟩
   ·have HR:=Xa hP
    clear hP
    go_wp2_with fail
    go_roundw
    case rel=>exact .inr ⟨rfl,hB2,HR⟩
    case measure=>simp[intOf]
  ·clear c0 cC
   go_wp2_with fail
   go_ret
   exact⟨by rw[HR.out];rfl,hB⟩
/-! ### numbers -/
theorem Xm1 (ba bb:Nat) (a b n:Int) (w:World) (ha:w.heap[ba]? = some (.cells #[.int .i64 a] 3 (0,0))) (hb:w.heap[bb]? = some (.cells #[.int .i64 b] 3 (0,0))) :
  Calls Tryz.prog 270 #[.int .i64 n,.pointer (some ⟨ba,0,none⟩),.pointer (some ⟨bb,0,none⟩)] w fun e w'=>e = .returned (.bool (decide (a≤n) && decide (n≤b)))∧Below w.heap.size w w':=by
 have c0:=Xj ha
 have c1:=Xj hb
 go_enter Tryz.func270,Tryz.ntmps270
 go_wp2
 all_goals go_ret
 all_goals (refine⟨?_,Below.refl _ _⟩;simp[*];try omega)
theorem Xn7 (bo g:Nat) (lb:Array Value) (P:Int→Bool) (x:Int) (w:World) (hbo:FnBox w bo 139 g lb) (eg:∀args w,(callFunc g args).run Tryz.prog w = .ok (.enter g args) w)
  (hf:∀W,Below w.heap.size w W→Calls Tryz.prog g (#[.int .i64 x]++lb) W fun e w'=>e = .returned (.bool (P x))∧Below W.heap.size W w') :
  Calls Tryz.prog 295 #[.int .i64 x,.pointer (some ⟨bo,0,none⟩)] w fun e w'=>e = .returned (.bool (!P x))∧Below w.heap.size w w':=by
 have c0:=Xj hbo
 have Hf:=Xa hf
 clear hf hbo
 go_enter Tryz.func295,Tryz.ntmps295
 go_wp2_with fail
 refine(Hf.out _ (Below.refl _ _)).mono ?_
 rintro e w1 ⟨rfl,hb1⟩
 go_wp2_with fail
 go_ret
 exact⟨rfl,hb1⟩
set_option maxHeartbeats 1000000 in
theorem Xpg (bl:Nat) (bn:Nat) (n:Int) (g:Nat) (lb:Array Value) (P:Int→Bool) (w:World) (hbl:w.heap[bl]? = some (.cells #[.slice (some ⟨bn,0,none⟩) 1 1] 49 (0,0))) (hbn:w.heap[bn]? = some (.cells #[.int .i64 n] 3 (0,0))) (eg:∀args w,(callFunc g args).run Tryz.prog w = .ok (.enter g args) w)
  (hf:∀W,Below w.heap.size w W→∀x,Calls Tryz.prog g (#[.int .i64 x]++lb) W fun e w'=>e = .returned (.bool (P x))∧Below W.heap.size W w') :
  Calls Tryz.prog 269 #[.func (.func g) #[] lb,.slice (some ⟨bl,0,none⟩) 1 1] w fun e w'=>e = .returned (.bool (P n))∧Below w.heap.size w w':=by
 obtain⟨W1,hW1⟩:∃W1,w.alloc (.cells #[.func (.func g) #[] lb] 139)=W1:=⟨_,rfl⟩
 have hB1:Below w.heap.size w W1:=by subst hW1;exact Xe (Below.refl _ _) _
 have hbo:FnBox W1 w.heap.size 139 g lb:=by subst hW1;exact World.alloc_heap_new _ _
 have c0:=Xj (Xh hB1 hbl)
 have hr:Rd W1 (some ⟨bn,0,none⟩) ([n].map (.int .i64)):=Yw (Xh hB1 hbn) rfl
 have hmf:∀(fn:Fn) (first cap:Array Value) (w:World),(Instr.makeFunc fn first cap).run Tryz.prog w = .ok (.func fn first cap) w:=fun _ _ _ _=>rfl
 have cC:=Xa (Tu 295 #[.pointer (some ⟨w.heap.size,0,none⟩)] (fun x => !P x) (some ⟨bn,0,none⟩) 1 [n] W1 ⟨enters_of Tryz.func295 (by kernel_rfl) rfl,
  fun x W hW=>Xn7 w.heap.size g lb P x W (hbo.ext hW) eg fun V hV=>hf V (Xb hB1 (Xb hW hV)) x⟩ hr (by simp))
 have HA:Hid (([n].any fun x => !P x) = !P n):=by show _=_;simp
 have HW1:=Xa hW1
 clear hf hr hbl hbn hW1 hbo
 go_enter Tryz.func269,Tryz.ntmps269
 go_wp2_with fail
 rw[HW1.out]
 clear HW1
 go_loopw [9] (fun i wr=>(i = .int .i64 0∧wr=W1)∨(i = .int .i64 1∧Below w.heap.size w wr∧Hid (P n=true))) (fun i _=>1-(intOf i).toNat)
 case atStart=>exact .inl ⟨rfl,rfl⟩
 case round =>
  rcases hrel with ⟨rfl,rfl⟩|⟨rfl,hB,HR⟩
  ·go_wp2_with fail
   refine cC.out.mono ?_
   rintro e w1 ⟨rfl,hb1⟩
   rw[HA.out]
   have hB2:=Xb hB1 hb1
   clear cC hb1 hB1 c0
   cases hP:P n
   ·go_wp2_with fail
    go_ret
    exact⟨by rw[hP];rfl,hB2⟩
   ·have HR:=Xa hP
    clear hP
    go_wp2_with fail
    go_roundw
    case rel=>exact .inr ⟨rfl,hB2,HR⟩
    case measure=>simp[intOf]
  ·clear c0 cC
   go_wp2_with fail
   go_ret
   exact⟨by rw[HR.out];rfl,hB⟩
theorem Xpm (a b n:Int) (bn:Nat) (w:World) (hbn:w.heap[bn]? = some (.cells #[.int .i64 n] 3 (0,0))) :
  Calls Tryz.prog 230 #[.int .i64 a,.int .i64 b,.slice (some ⟨bn,0,none⟩) 1 1] w fun e w'=>e = .returned (.bool (decide (a≤n) && decide (n≤b)))∧Below w.heap.size w w':=by
 obtain⟨W1,hW1⟩:∃W1,w.alloc (.cells #[.int .i64 a] 3)=W1:=⟨_,rfl⟩
 obtain⟨W2,hW2⟩:∃W2,W1.alloc (.cells #[.int .i64 b] 3)=W2:=⟨_,rfl⟩
 obtain⟨W3,hW3⟩:∃W3,W2.alloc (.cells #[.slice (some ⟨bn,0,none⟩) 1 1] 49)=W3:=⟨_,rfl⟩
 have hB1:Below w.heap.size w W1:=by subst hW1;exact Xe (Below.refl _ _) _
 have hB2:Below W1.heap.size W1 W2:=by subst hW2;exact Xe (Below.refl _ _) _
 have hB3:Below W2.heap.size W2 W3:=by subst hW3;exact Xe (Below.refl _ _) _
 have k1:W1.heap[w.heap.size]? = some (.cells #[.int .i64 a] 3 (0,0)):=by subst hW1;exact World.alloc_heap_new _ _
 have k2:W2.heap[W1.heap.size]? = some (.cells #[.int .i64 b] 3 (0,0)):=by subst hW2;exact World.alloc_heap_new _ _
 have k3:W3.heap[W2.heap.size]? = some (.cells #[.slice (some ⟨bn,0,none⟩) 1 1] 49 (0,0)):=by subst hW3;exact World.alloc_heap_new _ _
 have z1:W1.heap.size=w.heap.size+1:=by subst hW1;simp
 have z2:W2.heap.size=w.heap.size+2:=by subst hW2;simp[z1]
 have k1':=((Xb hB2 hB3).block _ (Xc k1)).trans k1
 have k2':=Xh hB3 k2
 have kn:=((Xb (Xb hB1 hB2) hB3).block _ (Xc hbn)).trans hbn
 have cA:=Xa (Xpg W2.heap.size bn n 270 #[.pointer (some ⟨w.heap.size,0,none⟩),.pointer (some ⟨W1.heap.size,0,none⟩)] (fun x=>decide (a≤x) && decide (x≤b)) W3 k3 kn (enters_of Tryz.func270 (by kernel_rfl) rfl)
  (fun W hW x=>Xm1 _ _ a b x W (Xh hW k1') (Xh hW k2')))
 rw[z2,z1] at cA
 have hB:=Xb (Xb hB1 hB2) hB3
 have hmf:∀(fn:Fn) (first cap:Array Value) (w:World),(Instr.makeFunc fn first cap).run Tryz.prog w = .ok (.func fn first cap) w:=fun _ _ _ _=>rfl
 have HW:Hid (((w.alloc (.cells #[.int .i64 a] 3)).alloc (.cells #[.int .i64 b] 3)).alloc (.cells #[.slice (some ⟨bn,0,none⟩) 1 1] 49)=W3):=by show _=_;rw[hW1,hW2,hW3]
 clear k1 k2 k3 k1' k2' kn hW1 hW2 hW3 hB1 hB2 hB3 z1 z2 hbn
 go_enter Tryz.func230,Tryz.ntmps230
 go_wp2_with fail
 rw[HW.out]
 refine cA.out.mono ?_
 rintro e w1 ⟨rfl,hb1⟩
 go_wp2_with fail
 go_ret
 exact⟨rfl,Xb hB hb1⟩
theorem ItemG.size_cells (x:ItemG):x.cells.length=6:=rfl
structure ItemsAt (w:World) (its:SlS ItemG):Prop where
 lies:its.lies ItemG.cells w
 tgt:∀x∈its.xs,x.tgt.lies w
theorem ItemsAt.ext {w w':World} {its:SlS ItemG} (h:ItemsAt w its) (hb:Below w.heap.size w w'):ItemsAt w' its:=⟨h.lies.ext hb,fun x hx=>StrS.lies.ext (h.tgt x hx) hb⟩
end Go.Proofs.YtolpbjjapodmnaaGreatDoor
