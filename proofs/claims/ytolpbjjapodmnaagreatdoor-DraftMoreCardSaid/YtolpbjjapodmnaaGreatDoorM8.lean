/- Texts of this claim, one after the other: ChaT, ChaU, ChaE, GrmA, R29a. -/
import Derived.Test.YtolpbjjapodmnaaGreatDoorM7
import Derived.Test.YtolpbjjapodmnaaGreatDoorM3
namespace Go.Proofs.YtolpbjjapodmnaaGreatDoor
open Go.RowKit Go.Han
set_option maxRecDepth 100000
attribute [local irreducible] wpStill wpQuiet
set_option maxHeartbeats 8000000
/-! ### trees -/
@[simp] def TreeV.rule:TreeV->Int | .node r _ _ _ _=>r
@[simp] def TreeV.item:TreeV->Int | .node _ j _ _ _=>j
@[simp] def TreeV.frm:TreeV->Int | .node _ _ i _ _=>i
@[simp] def TreeV.unt:TreeV->Int | .node _ _ _ k _=>k
@[simp] def TreeV.kids:TreeV->List TreeV | .node _ _ _ _ l=>l
mutual
def Yr:TreeV->Nat
 | .node _ _ _ _ l=>1+Yv l
def Yv:List TreeV->Nat
 | []=>0
 | t :: l=>Yr t+Yv l
end
abbrev KidV:=Int×Int×(Int->Int×Bool)
def Z9 (st:Int->ByteArray->Bool):List PartG->List KidV->Int->Int->Int->Int×Bool
 | [],ks,i,k,c=>(c,decide (ks=[]) && decide (i=k))
 | p :: ps,ks,i,k,c =>
  if p.text.size≠0 then (if i<k/\st i p.text=true then Z9 st ps ks (i+1) k c else (0,false))
  else match ks with
   | []=>(0,false)
   | x :: ks'=>if x.1=i then (if (x.2.2 p.no).2 then Z9 st ps ks' x.2.1 k (c+(x.2.2 p.no).1) else (0,false)) else (0,false)
mutual
def Zu (g:Gram) (items:List ItemG):TreeV->Int->Int×Bool
 | .node r j i k kids,c =>
  if r = -1 then (if j<0\/(items.length:Int)<=j\/0<kids.length then (0,false) else match items[j.toNat]? with|some x=>(x.cost,decide (x.cat=c) && decide (x.frm=i) && decide (x.unt=k))|none=>(0,false))
  else if j ≠ -1\/r<0\/(g.rules.xs.length:Int)<=r then (0,false)
  else match g.rules.xs[r.toNat]? with
   | none=>(0,false)
   | some x=>if x.no=c then Z9 (Xp items) x.parts.xs (Ym g items kids) i k x.cost else (0,false)
def Ym (g:Gram) (items:List ItemG):List TreeV->List KidV
 | []=>[]
 | t :: l=>(t.frm,t.unt,Zu g items t) :: Ym g items l
end
/-! ### the order of the derivations -/
theorem U7 {c i k:Int} {x:Dv}:∀ {j:Nat} {l:List ItemG},x∈X3 c i k j l↔∃(n:Nat) (y:ItemG),l[n]? = some y/\y.cat=c/\y.frm=i/\y.unt=k/\x=(y.cost,Xc6 (j+n) i k)
 | j,[]=>by simp[X3]
 | j,y :: l=>by
  unfold X3;rw[List.mem_append,U7 (j:=j+1) (l:=l)];constructor
  ·rintro(h|⟨n,z,h1,h2,h3,h4,h5⟩)
   ·split at h
    ·rename_i hc
     exact⟨0,y,rfl,hc.1,hc.2.1,hc.2.2,by simpa using h⟩
    ·cases h
   ·exact⟨n+1,z,by simpa using h1,h2,h3,h4,by rw[h5];congr 2;omega⟩
  ·rintro⟨n,z,h1,h2,h3,h4,h5⟩
   cases n with
   | zero =>
    simp at h1;subst h1
    left
    rw[if_pos ⟨h2,h3,h4⟩];simpa using h5
   | succ n=>exact .inr ⟨n,z,by simpa using h1,h2,h3,h4,by rw[h5];congr 2;omega⟩
theorem Ta {st:Int->ByteArray->Bool} {A:Int->Nat->Nat->List Dv} {c:Int} {i k:Nat} {x:Dv}:∀ {j:Nat} {l:List RuleG},x∈Yd st A c i k j l↔∃(n:Nat) (r:RuleG),l[n]? = some r/\r.no=c/\x∈Xeo st A (j+n) r i k
 | j,[]=>by simp[Yd]
 | j,y :: l=>by
  unfold Yd;rw[List.mem_append,Ta (j:=j+1) (l:=l)];constructor
  ·rintro(h|⟨n,z,h1,h2,h3⟩)
   ·split at h
    ·rename_i hc
     exact⟨0,y,rfl,hc,h⟩
    ·cases h
   ·exact⟨n+1,z,by simpa using h1,h2,by rw[show j+(n+1)=j+1+n by omega];exact h3⟩
  ·rintro⟨n,z,h1,h2,h3⟩
   cases n with
   | zero =>
    simp at h1;subst h1
    left
    rw[if_pos h2];exact h3
   | succ n=>exact .inr ⟨n,z,by simpa using h1,h2,by rw[show j+1+n=j+(n+1) by omega];exact h3⟩
theorem Xag {st:Int->ByteArray->Bool} {A:Int->Nat->Nat->List Dv} {j:Nat} {r:RuleG} {i k:Nat} {x:Dv}:x∈Xeo st A j r i k↔∃y∈Yx st A r.parts.xs i k,x=(r.cost+y.1,.node j (-1) i k y.2):=by
 unfold Xeo;rw[List.mem_map];constructor
 ·rintro⟨y,h1,h2⟩;exact⟨y,h1,h2.symm⟩
 ·rintro⟨y,h1,h2⟩;exact⟨y,h1,h2.symm⟩
theorem Xh3 {g:Gram} {items:List ItemG} {f:Nat} {c:Int} {i k:Nat} {x:Dv} (h:x∈derF g items f c i k):x.2.frm=i/\x.2.unt=k:=by
 cases f with
 | zero=>cases h
 | succ f =>
  unfold derF at h;rcases List.mem_append.1 h with h|h
  ·obtain⟨n,y,_,_,_,_,rfl⟩:=U7.1 h
   exact⟨rfl,rfl⟩
  ·obtain⟨n,r,_,_,h⟩:=Ta.1 h
   obtain⟨y,_,rfl⟩:=Xag.1 h;exact⟨rfl,rfl⟩
/-! ### trees that are derivations -/
theorem TreeV.ind {P:TreeV->Prop} (h:∀r j i k l,(∀t∈l,P t)->P (.node r j i k l)):∀t,P t :=
 fun t=>TreeV.rec (motive_1:=P) (motive_2:=fun l=>∀t∈l,P t) (fun r j i k l hl=>h r j i k l hl) (fun _ ht=>by cases ht) (fun x l hx hl t ht=>by
  rcases List.mem_cons.1 ht with rfl|ht
  ·exact hx
  ·exact hl t ht) t
theorem Xll {α β γ:Type} {f:α->β->γ} {l:List (Int×α)} {m:List (Int×β)} {x:Int×γ}:x∈Uj f l m↔∃a∈l,∃b∈m,x=(a.1+b.1,f a.2 b.2):=by
 unfold Uj;rw[List.mem_flatMap];constructor
 ·rintro⟨a,ha,h⟩
  obtain⟨b,hb,rfl⟩:=List.mem_map.1 h;exact⟨a,ha,b,hb,rfl⟩
 ·rintro⟨a,ha,b,hb,rfl⟩
  exact⟨a,ha,List.mem_map.2 ⟨b,hb,rfl⟩⟩
theorem Qb {st:Int->ByteArray->Bool} {A:Int->Nat->Nat->List Dv} {p:PartG} {ps:List PartG} {i k:Nat} {x:Dk} (hp:p.text.size≠0):x∈Yx st A (p :: ps) i k↔i<k/\st i p.text=true/\x∈Yx st A ps (i+1) k:=by
 rw[Yx,if_pos hp];constructor
 ·intro h
  split at h
  ·rename_i hc;exact⟨hc.1,hc.2,h⟩
  ·cases h
 ·rintro⟨h1,h2,h3⟩
  rw[if_pos ⟨h1,h2⟩];exact h3
theorem Xab {st:Int->ByteArray->Bool} {A:Int->Nat->Nat->List Dv} {p:PartG} {ps:List PartG} {i k:Nat} {x:Dk} (hp:p.text.size=0):x∈Yx st A (p :: ps) i k↔∃m,i<m/\m<=k/\∃a∈A p.no i m,∃b∈Yx st A ps m k,x=(a.1+b.1,a.2 :: b.2):=by
 rw[Yx,if_neg (by simpa using hp),List.mem_flatMap];constructor
 ·rintro⟨m,hm,h⟩
  rw[List.mem_range'_1] at hm;exact⟨m,by omega,by omega,Xll.1 h⟩
 ·rintro⟨m,h1,h2,h⟩
  exact⟨m,by rw[List.mem_range'_1];omega,Xll.2 h⟩
theorem T5 {st:Int->ByteArray->Bool} {A:Int->Nat->Nat->List Dv} {i k:Nat} {x:Dk}:x∈Yx st A [] i k↔i=k/\x=(0,[]):=by
 unfold Yx;split
 ·rename_i h;simp[h]
 ·rename_i h;simp[h]
theorem Xdm {st:Int->ByteArray->Bool} {A:Int->Nat->Nat->List Dv} {ps:List PartG} {i k:Nat} {x:Dk} (h:x∈Yx st A ps i k):i+ps.length<=k:=by
 rcases Nat.lt_or_ge k (i+ps.length) with h1|h1
 ·rw[Vv st A ps i k h1] at h;cases h
 ·exact h1
theorem Qc {st:Int->ByteArray->Bool} {p:PartG} (hp:p.text.size≠0) (ps:List PartG) (ks:List KidV) (i k c:Int):Z9 st (p :: ps) ks i k c=if i<k/\st i p.text=true then Z9 st ps ks (i+1) k c else (0,false):=by
 simp only[Z9];rw[if_pos hp]
theorem Xaz {st:Int->ByteArray->Bool} {p:PartG} (hp:¬p.text.size≠0) (ps:List PartG) (i k c:Int):Z9 st (p :: ps) [] i k c=(0,false):=by
 simp only[Z9];rw[if_neg hp]
theorem Xac {st:Int->ByteArray->Bool} {p:PartG} (hp:¬p.text.size≠0) (ps:List PartG) (x:KidV) (ks:List KidV) (i k c:Int):Z9 st (p :: ps) (x :: ks) i k c=if x.1=i then (if (x.2.2 p.no).2 then Z9 st ps ks x.2.1 k (c+(x.2.2 p.no).1) else (0,false)) else (0,false):=by
 simp only[Z9];rw[if_neg hp]
structure Ve (n:Nat) (m:Nat) (items:List ItemG):Prop where
 place:∀x∈items,0<=x.frm/\x.frm<x.unt/\x.unt<=n
 cost:∀x∈items,0<=x.cost/\x.cost<=1000
 cat:∀x∈items, -1<=x.cat/\x.cat<m
theorem Xev {n m:Nat} {items:List ItemG} (hi:Ve n m items) {i:Int} {s:ByteArray} (h:Xp items i s=true):0<=i/\i<n:=by
 unfold Xp at h;obtain⟨x,hx,h⟩:=List.any_eq_true.1 h;simp only[Bool.and_eq_true,decide_eq_true_eq] at h;have:=hi.place x hx;omega
section
variable {g:Gram} {items:List ItemG}
def Xqk (g:Gram) (items:List ItemG) (n:Nat) (t:TreeV):Prop :=
 ∀c cost,Zu g items t c=(cost,true)->∃i k:Nat,t.frm=i/\t.unt=k/\i<k/\k<=n/\(cost,t)∈derG g items c i k
theorem Xis {n m:Nat} (hi:Ve n m items):∀(ps:List PartG) (kids:List TreeV) (i:Nat) (k c0 c:Int),(∀t∈kids,Xqk g items n t)->i<=n ->
  Z9 (Xp items) ps (Ym g items kids) i k c0=(c,true)->∃k':Nat,k=k'/\k'<=n/\(c-c0,kids)∈Yx (Xp items) (derG g items) ps i k'
 | [],kids,i,k,c0,c,hk,hn,h=>by
  unfold Z9 at h;simp only[Prod.mk.injEq,Bool.and_eq_true,decide_eq_true_eq] at h;obtain⟨rfl,h1,h2⟩:=h;refine⟨i,h2.symm,hn,T5.2 ⟨rfl,?_⟩⟩;cases kids with
  | nil=>simp
  | cons t l=>simp[Ym] at h1
 | p :: ps,kids,i,k,c0,c,hk,hn,h=>by
  by_cases hp:p.text.size≠0
  ·rw[Qc hp] at h
   split at h
   ·rename_i hc
    have h1:=Xev hi hc.2;obtain⟨k',h2,h3,h4⟩:=Xis hi ps kids (i+1) k c0 c hk (by omega) (by exact_mod_cast h);exact⟨k',h2,h3,(Qb hp).2 ⟨by omega,hc.2,h4⟩⟩
   ·simp at h
  ·have hp0:p.text.size=0:=by simpa using hp
   cases kids with
   | nil=>rw[Ym,Xaz hp] at h;simp at h
   | cons t l =>
    rw[Ym,Xac hp] at h;simp only at h;split at h
    ·rename_i hf
     split at h
     ·rename_i ht
      obtain⟨u,v,h1,h2,h3,h4,h5⟩:=hk t (List.mem_cons_self ..) p.no (Zu g items t p.no).1 (by rw[<- ht]);rw[h2] at h;obtain⟨k',h6,h7,h8⟩:=Xis hi ps l v k _ c (fun y hy=>hk y (List.mem_cons_of_mem _ hy)) h4 h;have hu:u=i:=(by omega);subst hu;have:=Xdm h8;exact⟨k',h6,h7,(Xab hp0).2 ⟨v,h3,by omega,_,h5,_,h8,by simp;omega⟩⟩
     ·simp at h
    ·simp at h
theorem Xrq {n m:Nat} (hi:Ve n m items) {ps:List PartG} (h0:ps≠[]) {kids:List TreeV} {i k c0 c:Int} (hk:∀t∈kids,Xqk g items n t) (h:Z9 (Xp items) ps (Ym g items kids) i k c0=(c,true)):∃i':Nat,i=i'/\i'<=n:=by
 cases ps with
 | nil=>exact absurd rfl h0
 | cons p ps =>
  by_cases hp:p.text.size≠0
  ·rw[Qc hp] at h
   split at h
   ·rename_i hc
    have h1:=Xev hi hc.2;exact⟨i.toNat,by omega,by omega⟩
   ·simp at h
  ·cases kids with
   | nil=>rw[Ym,Xaz hp] at h;simp at h
   | cons t l =>
    rw[Ym,Xac hp] at h;simp only at h;split at h
    ·rename_i hf
     split at h
     ·rename_i ht
      obtain⟨u,v,h1,h2,h3,h4,h5⟩:=hk t (List.mem_cons_self ..) p.no (Zu g items t p.no).1 (by rw[<- ht]);exact⟨u,by omega,by omega⟩
     ·simp at h
    ·simp at h
theorem Xe8 {n m:Nat} (hg:Y5 g) (hi:Ve n m items):∀t,Xqk g items n t :=
 TreeV.ind fun r j i k l ih c cost h=>by
  rw[Zu] at h;split at h
  ·rename_i hr
   split at h
   ·simp at h
   rename_i hj;split at h
   ·rename_i x hx
    simp only[Prod.mk.injEq,Bool.and_eq_true,decide_eq_true_eq] at h;obtain⟨rfl,⟨h1,h2⟩,h3⟩:=h;have hp:=hi.place x (List.mem_of_getElem? hx)
    have hl:l=[]:=by
     cases l with
     | nil=>rfl
     | cons t l=>simp at hj
    refine⟨i.toNat,k.toNat,by simp;omega,by simp;omega,by omega,by omega,?_⟩;rw[Xha hg];refine List.mem_append_left _ (U7.2 ⟨j.toNat,x,hx,h1,by omega,by omega,?_⟩);subst hl hr;unfold Xc6
    congr 2<;>omega
   ·simp at h
  ·split at h
   ·simp at h
   rename_i hj;split at h
   ·simp at h
   ·rename_i x hx
    split at h
    ·rename_i hc
     have hxm:=List.mem_of_getElem? hx;have h1:=hg.rule x hxm;have hne:x.parts.xs≠[]:=fun e=>by rw[e] at h1;simp at h1
     obtain⟨i',h2,h3⟩:=Xrq hi hne ih h;rw[h2] at h;obtain⟨k',h4,h5,h6⟩:=Xis hi x.parts.xs l i' k x.cost cost ih h3 h;have:=Xdm h6;refine⟨i',k',by simpa using h2,by simpa using h4,by omega,h5,?_⟩;rw[Xha hg];refine List.mem_append_right _ (Ta.2 ⟨r.toNat,x,hx,hc,Xag.2 ⟨_,h6,?_⟩⟩);rw[h2,h4];have e1:j = -1:=(by omega);have e2:((0+r.toNat:Nat):Int)=r:=(by omega);rw[e2,e1]
     congr 1;simp;omega
    ·simp at h
theorem Xbw {A:Int->Nat->Nat->List Dv}:∀(ps:List PartG) (i k:Nat) (c0:Int) (x:Dk),(∀c i k,∀y∈A c i k,y.2.frm=(i:Int)/\y.2.unt=(k:Int)/\Zu g items y.2 c=(y.1,true))->x∈Yx (Xp items) A ps i k->Z9 (Xp items) ps (Ym g items x.2) i k c0=(c0+x.1,true)
 | [],i,k,c0,x,hA,h=>by
  obtain⟨rfl,rfl⟩:=T5.1 h;simp[Z9,Ym]
 | p :: ps,i,k,c0,x,hA,h=>by
  by_cases hp:p.text.size≠0
  ·obtain⟨h1,h2,h3⟩:=(Qb hp).1 h
   rw[Qc hp,if_pos ⟨by omega,h2⟩];have:=Xbw ps (i+1) k c0 x hA h3
   exact_mod_cast this
  ·have hp0:p.text.size=0:=by simpa using hp
   obtain⟨m,h1,h2,a,ha,b,hb,rfl⟩:=(Xab hp0).1 h;obtain⟨h3,h4,h5⟩:=hA _ _ _ a ha;rw[Ym,Xac hp];simp only;rw[if_pos h3,h5,h4];simp only[if_true];rw[Xbw ps m k (c0+a.1) b hA hb,Int.add_assoc]
theorem Xed:∀(f:Nat) (c:Int) (i k:Nat) (x:Dv),x∈derF g items f c i k->x.2.frm=(i:Int)/\x.2.unt=(k:Int)/\Zu g items x.2 c=(x.1,true)
 | 0,_,_,_,_,h=>by cases h
 | f+1,c,i,k,x,h=>by
  refine⟨(Xh3 h).1,(Xh3 h).2,?_⟩;unfold derF at h;rcases List.mem_append.1 h with h|h
  ·obtain⟨n,y,h1,h2,h3,h4,rfl⟩:=U7.1 h
   unfold Xc6;rw[Zu];have hn:n<items.length:=(List.getElem?_eq_some_iff.1 h1).1;rw[if_pos rfl,if_neg (by simp;omega)];have e:((0+n:Nat):Int).toNat=n:=(by omega);rw[e,h1];simp[h2,h3,h4]
  ·obtain⟨n,r,h1,h2,h⟩:=Ta.1 h
   obtain⟨y,hy,rfl⟩:=Xag.1 h;rw[Zu];have hn:n<g.rules.xs.length:=(List.getElem?_eq_some_iff.1 h1).1;have e:((0+n:Nat):Int).toNat=n:=(by omega);rw[if_neg (by omega),if_neg (by omega),e,h1];simp only;rw[if_pos h2];exact Xbw r.parts.xs i k r.cost y (fun c i k z hz=>Xed f c i k z hz) hy
/-! ### how great, how dear -/
theorem Xdn {st:Int->ByteArray->Bool} {A:Int->Nat->Nat->List Dv} (N:Nat):∀(ps:List PartG) (i k:Nat) (x:Dk),(∀c u v,∀y∈A c u v,u<v->Yr y.2<=(2*(v-u)-1)*N)->x∈Yx st A ps i k->Yv x.2<=(2*(k-i)-ps.length)*N
 | [],i,k,x,hA,h=>by obtain⟨_,rfl⟩:=T5.1 h;simp[Yv]
 | p :: ps,i,k,x,hA,h=>by
  by_cases hp:p.text.size≠0
  ·obtain⟨h1,h2,h3⟩:=(Qb hp).1 h
   refine Nat.le_trans (Xdn N ps (i+1) k x hA h3) (Nat.mul_le_mul_right _ ?_);rw[List.length_cons];omega
  ·obtain⟨m,h1,h2,a,ha,b,hb,rfl⟩:=(Xab (by simpa using hp)).1 h
   have h3:=hA _ _ _ a ha h1;have h4:=Xdn N ps m k b hA hb;have h5:=Xdm hb;rw[Yv,List.length_cons];have e:2*(k-i)-(ps.length+1)=(2*(m-i)-1)+(2*(k-m)-ps.length):=(by omega);rw[e,Nat.add_mul];omega
theorem Xfh {st:Int->ByteArray->Bool} {A:Int->Nat->Nat->List Dv}:∀(ps:List PartG) (i k:Nat) (x:Dk),(∀c u v,∀y∈A c u v,0<=y.1/\y.1<=1000*Yr y.2)->x∈Yx st A ps i k->0<=x.1/\x.1<=1000*Yv x.2
 | [],i,k,x,hA,h=>by obtain⟨_,rfl⟩:=T5.1 h;simp[Yv]
 | p :: ps,i,k,x,hA,h=>by
  by_cases hp:p.text.size≠0
  ·obtain⟨h1,h2,h3⟩:=(Qb hp).1 h
   exact Xfh ps (i+1) k x hA h3
  ·obtain⟨m,h1,h2,a,ha,b,hb,rfl⟩:=(Xab (by simpa using hp)).1 h
   have h3:=hA _ _ _ a ha;have h4:=Xfh ps m k b hA hb;rw[Yv];simp only;omega
theorem Xh4 (hg:Y5 g) {n m:Nat} (hi:Ve n m items):∀(f:Nat) (c:Int) (i k:Nat) (x:Dv),x∈derF g items f c i k->0<=x.1/\x.1<=1000*Yr x.2
 | 0,_,_,_,_,h=>by cases h
 | f+1,c,i,k,x,h=>by
  unfold derF at h;rcases List.mem_append.1 h with h|h
  ·obtain⟨n,y,h1,h2,h3,h4,rfl⟩:=U7.1 h
   have:=hi.cost y (List.mem_of_getElem? h1);simp[Xc6,Yr,Yv];omega
  ·obtain⟨n,r,h1,h2,h⟩:=Ta.1 h
   obtain⟨y,hy,rfl⟩:=Xag.1 h;have h3:=hg.rule r (List.mem_of_getElem? h1);have h4:=Xfh r.parts.xs i k y (fun c u v z hz=>Xh4 hg hi f c u v z hz) hy;rw[Yr];simp only;omega
theorem Xcj (hg:Y5 g):∀(f:Nat) (c:Int) (i k:Nat) (x:Dv),x∈derF g items f c i k->i<k->Yr x.2<=(2*(k-i)-2)*g.cats.xs.length+1+Ut g c
 | 0,_,_,_,_,h,_=>by cases h
 | f+1,c,i,k,x,h,hik=>by
  unfold derF at h;rcases List.mem_append.1 h with h|h
  ·obtain⟨n,y,h1,h2,h3,h4,rfl⟩:=U7.1 h
   simp[Xc6,Yr,Yv];omega
  ·obtain⟨n,r,h1,h2,h⟩:=Ta.1 h
   obtain⟨y,hy,rfl⟩:=Xag.1 h;have hr:=List.mem_of_getElem? h1;have h3:=hg.rule r hr;rw[Yr]
   have hlt:∀c,Ut g c+1<=g.cats.xs.length:=by
    intro c;unfold Ut;split
    ·rename_i a ha
     have h5:=hg.circ a (List.mem_of_getElem? ha);have h6:=Xaf g.rules.xs a g.cats.xs.length;have h7:=Qe g.rules.xs a g.cats.xs.length;rcases Nat.lt_or_ge (Vo g.rules.xs a g.cats.xs.length) g.cats.xs.length with h|h
     ·omega
     ·rw[show Vo g.rules.xs a g.cats.xs.length=g.cats.xs.length by omega,h5] at h7;cases h7
    ·have:=hg.start;omega
   have hA:∀c u v,∀y∈derF g items f c u v,u<v->Yr y.2<=(2*(v-u)-1)*g.cats.xs.length:=by
    intro c u v y hy huv;have h4:=Xcj hg f c u v y hy huv;have h5:=hlt c;rw[show 2*(v-u)-1=(2*(v-u)-2)+1 by omega,Nat.add_mul];omega
   by_cases hs:r.parts.xs.length=1
   ·obtain⟨p,hp⟩:=List.length_eq_one_iff.1 hs
    rw[hp] at hy;by_cases ht:p.text.size≠0
    ·obtain⟨h4,h5,h6⟩:=(Qb ht).1 hy
     obtain⟨_,rfl⟩:=T5.1 h6;simp[Yv];omega
    ·obtain⟨m,h4,h5,a,ha,b,hb,rfl⟩:=(Xab (by simpa using ht)).1 hy
     obtain⟨rfl,rfl⟩:=T5.1 hb;have h6:=Xcj hg f p.no i m a ha h4;have h7:=Xi2 hg hr hp (by simpa using ht);rw[h2] at h7;simp only[Yv];omega
   ·have h4:=Xdn g.cats.xs.length r.parts.xs i k y hA hy
    have h5:(2*(k-i)-r.parts.xs.length)*g.cats.xs.length<=(2*(k-i)-2)*g.cats.xs.length:=Nat.mul_le_mul_right _ (by omega);omega
end
/-! ### arguments that are right -/
def U9 (g:Gram) (n:Int) (x:ItemG):Bool :=
 decide (0<=x.frm) && decide (x.frm<x.unt) && decide (x.unt<=n) && (decide (-1<=x.term) && decide (x.term<=1048576)) && (decide (1<=x.tgt.xs.length) && decide (x.tgt.xs.length<=4)) && x.tgt.xs.all Xq &&
  (if x.cat = -1 then decide (x.unt=x.frm+1) && decide (x.cost=0) && decide (x.tgt.xs.length=1) else (decide (0<=x.cat) && decide (x.cat<g.cats.xs.length)) && (decide (0<=x.cost) && decide (x.cost<=1000)))
def errC (g:Gram) (items:List ItemG) (n:Int):Int :=
 if Yb g≠0 then Yb g else if n<1\/16<n then 1 else if 16384<items.length then 2 else if items.all (U9 g n) then 0 else 280
structure Xg8 (g:Gram) (items:List ItemG) (n:Int):Prop where
 check:Yb g=0
 gram:Y5 g
 n1:1<=n
 n16:n<=16
 few:items.length<=16384
 right:∀x∈items,U9 g n x=true
 items:Ve n.toNat g.cats.xs.length items
theorem Tx {g:Gram} {n:Int} {x:ItemG} (h:U9 g n x=true):0<=x.frm/\x.frm<x.unt/\x.unt<=n/\0<=x.cost/\x.cost<=1000 /\ -1<=x.cat/\(x.cat<g.cats.xs.length\/x.cat = -1)/\1<=x.tgt.xs.length:=by
 unfold U9 at h;simp only[Bool.and_eq_true,decide_eq_true_eq] at h;obtain⟨⟨⟨⟨⟨⟨a1,a2⟩,a3⟩,a4⟩,a5⟩,a6⟩,a7⟩:=h;split at a7
 ·rename_i hc
  simp only[Bool.and_eq_true,decide_eq_true_eq] at a7;refine⟨a1,a2,a3,by omega,by omega,by omega,.inr hc,a5.1⟩
 ·simp only[Bool.and_eq_true,decide_eq_true_eq] at a7
  refine⟨a1,a2,a3,a7.2.1,a7.2.2,by omega,.inl a7.1.2,a5.1⟩
theorem Xfa {g:Gram} {items:List ItemG} {n:Int} (h:errC g items n=0):Xg8 g items n:=by
 unfold errC at h;split at h
 ·rename_i h1;exact absurd h h1
 rename_i h1;split at h
 ·cases h
 rename_i h2;split at h
 ·cases h
 rename_i h3;split at h
 ·rename_i h4
  have hc:Yb g=0:=Decidable.not_not.1 h1;have hg:=Qy hc;rw[List.all_eq_true] at h4;have hst:=hg.start;refine⟨hc,hg,by omega,by omega,by omega,h4,⟨fun x hx=>?_,fun x hx=>?_,fun x hx=>?_⟩⟩
  ·have:=Tx (h4 x hx);omega
  ·have:=Tx (h4 x hx);omega
  ·have:=Tx (h4 x hx);omega
 ·cases h
/-! ### what is answered -/
def Xmb:TreeV:=.node 0 0 0 0 []
def Tk (g:Gram) (items:List ItemG) (n:Int):Option Dv:=Yc (derG g items g.startNo 0 n.toNat)
def bigN:Nat:=1099511627776
def Tl (g:Gram) (items:List ItemG) (n:Int):TreeV×Int×Bool×Int :=
 if errC g items n≠0 then (Xmb,0,false,errC g items n) else match Tk g items n with|none=>(Xmb,0,false,0)|some x=>(x.2,x.1,true,0)
section
variable {g:Gram} {items:List ItemG} {n:Int}
theorem Xut (h:Xg8 g items n) {x:Dv} (hb:Tk g items n=some x):Zu g items x.2 g.startNo=(x.1,true)/\x.2.frm=0/\x.2.unt=n/\Yr x.2<=(2*n.toNat-1)*g.cats.xs.length:=by
 have hm:=(Xh7 hb).1;obtain⟨h1,h2,h3⟩:=Xed _ _ _ _ _ hm;have h4:=h.n1;have h5:=Xcj h.gram _ _ _ _ _ hm (by omega);refine⟨h3,by simpa using h1,by rw[h2];omega,?_⟩
 have h6:Ut g g.startNo+1<=g.cats.xs.length:=by
  unfold Ut;split
  ·rename_i a ha
   have h7:=h.gram.circ a (List.mem_of_getElem? ha);have h8:=Xaf g.rules.xs a g.cats.xs.length;have h9:=Qe g.rules.xs a g.cats.xs.length;rcases Nat.lt_or_ge (Vo g.rules.xs a g.cats.xs.length) g.cats.xs.length with h|h
   ·omega
   ·rw[show Vo g.rules.xs a g.cats.xs.length=g.cats.xs.length by omega,h7] at h9;cases h9
  ·have:=h.gram.start;omega
 rw[show 2*n.toNat-1=(2*(n.toNat-0)-2)+1 by omega,Nat.add_mul];omega
end
theorem Qw {α:Type} {P:α->Bool} {xs:List α} {k:Nat} (h:k<xs.length):(xs.take (k+1)).any P=((xs.take k).any P || P xs[k]):=by
 rw[List.take_succ_eq_append_getElem h,List.any_append];simp
def FnBox (w:World) (bo:Nat) (ty:TypeId) (g:Nat) (lb:Array Value):Prop:=w.heap[bo]? = some (.cells #[.func (.func g) #[] lb] ty (0,0))
theorem FnBox.ext {w w':World} {bo:Nat} {ty:TypeId} {g:Nat} {lb:Array Value} (h:FnBox w bo ty g lb) (hb:Below w.heap.size w w'):FnBox w' bo ty g lb:=Xi hb h
theorem V4 {α:Type} (P:α->Bool) (xs:List α):xs.any (fun x => !P x) = !xs.all P:=by
 induction xs with
 | nil=>rfl
 | cons x xs ih=>simp only[List.any_cons,List.all_cons,ih];cases P x<;>simp
/-! ### at string -/
theorem Xvw (A:Option Addr) (cp:Nat) (xs:List ByteArray) (fid:Nat) (lb:Array Value) (P:ByteArray->Bool) (w:World) (hr:Rd w A (xs.flatMap (fun b:ByteArray=>[Value.string b]))) (hm:xs.length<=9223372036854775807) (eg:∀args w,(callFunc fid args).run Tryz.prog w = .ok (.enter fid args) w)
  (hf:∀W,Below w.heap.size w W->∀x∈xs,Calls Tryz.prog fid (#[.string x]++lb) W fun e w'=>e = .returned (.bool (P x))/\Below W.heap.size W w') :
  Calls Tryz.prog 173 #[.slice A xs.length cp,.func (.func fid) #[] lb] w fun e w'=>∃k:Int,e = .returned (.int .i64 k)/\decide (0<=k)=xs.any P/\Below w.heap.size w w':=by
 have Hf:=Xa hf;have HS:=Xa hr;clear hf hr;go_enter Tryz.func173,Tryz.ntmps173
 go_wp2_with fail
 go_loopw [8] (fun i wr=>∃k:Nat,k<=xs.length/\i = .int .i64 k/\Below w.heap.size w wr/\Hid ((xs.take k).any P=false)) (fun i _=>xs.length-(intOf i).toNat)
 case atStart=>exact⟨0,Nat.zero_le _,rfl,bo_q,rfl⟩
 case round =>
  obtain⟨k,hk,rfl,hB,HR⟩:=hrel;by_cases hlt:k<xs.length
  ·obtain⟨b,off,rfl,hb,hc⟩:=HS.out.elem (s:=1) (fun _=>rfl) (by omega) (k:=k) hlt
   have d0:wr.cell? ⟨b,off+k,none⟩=some (.string xs[k]):=by
    have h:=hc 0 _ rfl;rw[Nat.mul_one] at h;exact(hB.cell (p:=⟨b,off+k,none⟩) hb).trans h
   have cF:=Xa (Hf.out wr hB xs[k] (List.getElem_mem hlt));have Htk:=Xa (Qw (P:=P) hlt);have hmem:=List.getElem_mem hlt;have Hmem:=Xa hmem;clear hc hmem;generalize xs[k]=x at *;go_wp2_with fail
   refine cF.out.mono ?_;rintro e w1 ⟨rfl,hb1⟩;have hB1:=Xb hB hb1;cases hP:P x
   ·have HN:Hid ((xs.take (k+1)).any P=false):=by show _=_;rw[Htk.out,HR.out,hP];rfl
    clear hP;go_wp2_with fail
    go_roundw
    case rel=>exact⟨k+1,by omega,by go_num,hB1,HN⟩
    case measure=>simp[intOf];omega
   ·have HN:Hid (xs.any P=true):=List.any_eq_true.2 ⟨x,Hmem.out,hP⟩
    clear hP;go_wp2_with fail
    go_ret;exact⟨k,rfl,by rw[HN.out];exact decide_eq_true (by omega),hB1⟩
  ·have HN:Hid (xs.any P=false):=by
    have h:=HR.out;rw[List.take_of_length_le (by omega)] at h;exact h
   go_wp2_with fail
   go_ret;exact⟨-1,rfl,by rw[HN.out];rfl,hB⟩
theorem Xe6 (A:Option Addr) (cp:Nat) (xs:List ByteArray) (fid:Nat) (lb:Array Value) (P:ByteArray->Bool) (w:World) (hr:Rd w A (xs.flatMap (fun b:ByteArray=>[Value.string b]))) (hm:xs.length<=9223372036854775807) (eg:∀args w,(callFunc fid args).run Tryz.prog w = .ok (.enter fid args) w)
  (hf:∀W,Below w.heap.size w W->∀x∈xs,Calls Tryz.prog fid (#[.string x]++lb) W fun e w'=>e = .returned (.bool (P x))/\Below W.heap.size W w') :
  Calls Tryz.prog 117 #[.slice A xs.length cp,.func (.func fid) #[] lb] w fun e w'=>e = .returned (.bool (xs.any P))/\Below w.heap.size w w':=by
 have cI:=Xa (Xvw A cp xs fid lb P w hr hm eg hf);clear hr hf eg;go_enter Tryz.func117,Tryz.ntmps117
 go_wp2_with fail
 refine cI.out.mono ?_;rintro e w1 ⟨k,rfl,hk,hb1⟩;cases hP:xs.any P
 ·rw[hP] at hk
  have g1:decide (k≥0)=false:=hk;have g2:k<0:=by have:=of_decide_eq_false hk;omega
  clear hk;go_wp2_with fail
  go_ret;exact⟨by first|rfl|(rw[hP];rfl)|(rw[hP];simp;omega),hb1⟩
 ·rw[hP] at hk
  have g1:decide (k≥0)=true:=hk;have g2:0<=k:=of_decide_eq_true hk;clear hk;go_wp2_with fail
  go_ret;exact⟨by first|rfl|(rw[hP];rfl)|(rw[hP];simp;omega),hb1⟩
theorem Xwp (bo g:Nat) (lb:Array Value) (P:ByteArray->Bool) (x:ByteArray) (w:World) (hbo:FnBox w bo 50 g lb) (eg:∀args w,(callFunc g args).run Tryz.prog w = .ok (.enter g args) w)
  (hf:∀W,Below w.heap.size w W->Calls Tryz.prog g (#[.string x]++lb) W fun e w'=>e = .returned (.bool (P x))/\Below W.heap.size W w') :
  Calls Tryz.prog 271 #[.string x,.pointer (some ⟨bo,0,none⟩)] w fun e w'=>e = .returned (.bool (!P x))/\Below w.heap.size w w':=by
 have c0:=Xe hbo;have hlt:=Xd hbo;have Hf:=Xa hf;clear hf hbo;go_enter Tryz.func271,Tryz.ntmps271
 go_wp2_with fail
 refine(Hf.out _ bo_q).mono ?_;rintro e w1 ⟨rfl,hb1⟩;go_wp2_with fail
 go_ret;exact⟨rfl,hb1⟩
theorem Xyr (bl:Nat) (A:Option Addr) (cp:Nat) (xs:List ByteArray) (g:Nat) (lb:Array Value) (P:ByteArray->Bool) (w:World) (hbl:w.heap[bl]? = some (.cells #[.slice A xs.length cp] 22 (0,0))) (hr:Rd w A (xs.flatMap (fun b:ByteArray=>[Value.string b]))) (hm:xs.length<=9223372036854775807) (eg:∀args w,(callFunc g args).run Tryz.prog w = .ok (.enter g args) w)
  (hf:∀W,Below w.heap.size w W->∀x∈xs,Calls Tryz.prog g (#[.string x]++lb) W fun e w'=>e = .returned (.bool (P x))/\Below W.heap.size W w') :
  Calls Tryz.prog 231 #[.func (.func g) #[] lb,.slice (some ⟨bl,0,none⟩) 1 1] w fun e w'=>e = .returned (.bool (xs.all P))/\Below w.heap.size w w':=by
 obtain⟨W1,hW1⟩:∃W1,w.alloc (.cells #[.func (.func g) #[] lb] 50)=W1:=⟨_,rfl⟩
 have hB1:Below w.heap.size w W1:=by subst hW1;exact ba_q
 have hbo:FnBox W1 w.heap.size 50 g lb:=by subst hW1;exact World.alloc_heap_new _ _
 have c0:=Xe (Xi hB1 hbl);have hmf:∀(fn:Fn) (first cap:Array Value) (w:World),(Instr.makeFunc fn first cap).run Tryz.prog w = .ok (.func fn first cap) w:=fun _ _ _ _=>rfl
 have cC:=Xa (Xe6 A cp xs 271 #[.pointer (some ⟨w.heap.size,0,none⟩)] (fun x => !P x) W1 (hr.ext hB1) hm (enters_of Tryz.func271 (by kernel_rfl) rfl)
  (fun W hW x hx=>Xwp w.heap.size g lb P x W (hbo.ext hW) eg fun V hV=>hf V (Xb hB1 (Xb hW hV)) x hx))
 have HA:=Xa (V4 P xs);have HW1:=Xa hW1;clear hf hr hbl hW1 hbo;go_enter Tryz.func231,Tryz.ntmps231
 go_wp2_with fail
 rw[HW1.out];clear HW1;go_loopw [9] (fun i wr=>(i = .int .i64 0/\wr=W1)\/(i = .int .i64 1/\Below w.heap.size w wr/\Hid (xs.all P=true))) (fun i _=>1-(intOf i).toNat)
 case atStart=>exact .inl ⟨rfl,rfl⟩
 case round =>
  rcases hrel with ⟨rfl,rfl⟩|⟨rfl,hB,HR⟩
  ·go_wp2_with fail
   refine cC.out.mono ?_;rintro e w1 ⟨rfl,hb1⟩;rw[HA.out];have hB2:=Xb hB1 hb1;clear cC hb1 hB1 c0;cases hP:xs.all P
   ·go_wp2_with fail
    go_ret;exact⟨by rw[hP];rfl,hB2⟩
   ·have HR:=Xa hP
    clear hP;go_wp2_with fail
    go_roundw
    case rel=>exact .inr ⟨rfl,hB2,HR⟩
    case measure=>simp[intOf]
  ·clear c0 cC
   go_wp2_with fail
   go_ret;exact⟨by rw[HR.out];rfl,hB⟩
/-! ### at hansard/api.Entry -/
theorem Xvt (A:Option Addr) (cp:Nat) (xs:List EntryG) (fid:Nat) (lb:Array Value) (P:EntryG->Bool) (w:World) (hr:Rd w A (xs.flatMap EntryG.cells)) (hm:xs.length<=9223372036854775807) (eg:∀args w,(callFunc fid args).run Tryz.prog w = .ok (.enter fid args) w)
  (hf:∀W,Below w.heap.size w W->∀x∈xs,Calls Tryz.prog fid (#[x.vl]++lb) W fun e w'=>e = .returned (.bool (P x))/\Below W.heap.size W w') :
  Calls Tryz.prog 297 #[.slice A xs.length cp,.func (.func fid) #[] lb] w fun e w'=>∃k:Int,e = .returned (.int .i64 k)/\decide (0<=k)=xs.any P/\Below w.heap.size w w':=by
 have Hf:=Xa hf;have HS:=Xa hr;clear hf hr;go_enter Tryz.func297,Tryz.ntmps297
 go_wp2_with fail
 go_loopw [8] (fun i wr=>∃k:Nat,k<=xs.length/\i = .int .i64 k/\Below w.heap.size w wr/\Hid ((xs.take k).any P=false)) (fun i _=>xs.length-(intOf i).toNat)
 case atStart=>exact⟨0,Nat.zero_le _,rfl,bo_q,rfl⟩
 case round =>
  obtain⟨k,hk,rfl,hB,HR⟩:=hrel;by_cases hlt:k<xs.length
  ·obtain⟨b,off,rfl,hb,hc⟩:=HS.out.elem (s:=5) (fun _=>rfl) (by omega) (k:=k) hlt
   have d0:wr.cell? ⟨b,off+k*5,none⟩=some _:=(hB.cell (p:=⟨b,off+k*5,none⟩) hb).trans (hc 0 _ rfl);have d1:wr.cell? ⟨b,off+k*5+1,none⟩=some _:=(hB.cell (p:=⟨b,off+k*5+1,none⟩) hb).trans (hc 1 _ rfl);have d2:wr.cell? ⟨b,off+k*5+2,none⟩=some _:=(hB.cell (p:=⟨b,off+k*5+2,none⟩) hb).trans (hc 2 _ rfl);have d3:wr.cell? ⟨b,off+k*5+3,none⟩=some _:=(hB.cell (p:=⟨b,off+k*5+3,none⟩) hb).trans (hc 3 _ rfl);have d4:wr.cell? ⟨b,off+k*5+4,none⟩=some _:=(hB.cell (p:=⟨b,off+k*5+4,none⟩) hb).trans (hc 4 _ rfl);have cF:=Xa (Hf.out wr hB xs[k] (List.getElem_mem hlt));have Htk:=Xa (Qw (P:=P) hlt);have hmem:=List.getElem_mem hlt;have Hmem:=Xa hmem;clear hc hmem;generalize xs[k]=x at *;go_wp2_with fail
   refine cF.out.mono ?_;rintro e w1 ⟨rfl,hb1⟩;have hB1:=Xb hB hb1;cases hP:P x
   ·have HN:Hid ((xs.take (k+1)).any P=false):=by show _=_;rw[Htk.out,HR.out,hP];rfl
    clear hP;go_wp2_with fail
    go_roundw
    case rel=>exact⟨k+1,by omega,by go_num,hB1,HN⟩
    case measure=>simp[intOf];omega
   ·have HN:Hid (xs.any P=true):=List.any_eq_true.2 ⟨x,Hmem.out,hP⟩
    clear hP;go_wp2_with fail
    go_ret;exact⟨k,rfl,by rw[HN.out];exact decide_eq_true (by omega),hB1⟩
  ·have HN:Hid (xs.any P=false):=by
    have h:=HR.out;rw[List.take_of_length_le (by omega)] at h;exact h
   go_wp2_with fail
   go_ret;exact⟨-1,rfl,by rw[HN.out];rfl,hB⟩
theorem Xu2 (A:Option Addr) (cp:Nat) (xs:List EntryG) (fid:Nat) (lb:Array Value) (P:EntryG->Bool) (w:World) (hr:Rd w A (xs.flatMap EntryG.cells)) (hm:xs.length<=9223372036854775807) (eg:∀args w,(callFunc fid args).run Tryz.prog w = .ok (.enter fid args) w)
  (hf:∀W,Below w.heap.size w W->∀x∈xs,Calls Tryz.prog fid (#[x.vl]++lb) W fun e w'=>e = .returned (.bool (P x))/\Below W.heap.size W w') :
  Calls Tryz.prog 274 #[.slice A xs.length cp,.func (.func fid) #[] lb] w fun e w'=>e = .returned (.bool (xs.any P))/\Below w.heap.size w w':=by
 have cI:=Xa (Xvt A cp xs fid lb P w hr hm eg hf);clear hr hf eg;go_enter Tryz.func274,Tryz.ntmps274
 go_wp2_with fail
 refine cI.out.mono ?_;rintro e w1 ⟨k,rfl,hk,hb1⟩;cases hP:xs.any P
 ·rw[hP] at hk
  have g1:decide (k≥0)=false:=hk;have g2:k<0:=by have:=of_decide_eq_false hk;omega
  clear hk;go_wp2_with fail
  go_ret;exact⟨by first|rfl|(rw[hP];rfl)|(rw[hP];simp;omega),hb1⟩
 ·rw[hP] at hk
  have g1:decide (k≥0)=true:=hk;have g2:0<=k:=of_decide_eq_true hk;clear hk;go_wp2_with fail
  go_ret;exact⟨by first|rfl|(rw[hP];rfl)|(rw[hP];simp;omega),hb1⟩
theorem Xwl (bo g:Nat) (lb:Array Value) (P:EntryG->Bool) (x:EntryG) (w:World) (hbo:FnBox w bo 287 g lb) (eg:∀args w,(callFunc g args).run Tryz.prog w = .ok (.enter g args) w)
  (hf:∀W,Below w.heap.size w W->Calls Tryz.prog g (#[x.vl]++lb) W fun e w'=>e = .returned (.bool (P x))/\Below W.heap.size W w') :
  Calls Tryz.prog 275 #[x.vl,.pointer (some ⟨bo,0,none⟩)] w fun e w'=>e = .returned (.bool (!P x))/\Below w.heap.size w w':=by
 have c0:=Xe hbo;have hlt:=Xd hbo;have Hf:=Xa hf;clear hf hbo;go_enter Tryz.func275,Tryz.ntmps275
 go_wp2_with fail
 refine(Hf.out _ ba_q).mono ?_;rintro e w1 ⟨rfl,hb1⟩;go_wp2_with fail
 go_ret;exact⟨rfl,Xb ba_q hb1⟩
theorem Xyl (bl:Nat) (A:Option Addr) (cp:Nat) (xs:List EntryG) (g:Nat) (lb:Array Value) (P:EntryG->Bool) (w:World) (hbl:w.heap[bl]? = some (.cells #[.slice A xs.length cp] 23 (0,0))) (hr:Rd w A (xs.flatMap EntryG.cells)) (hm:xs.length<=9223372036854775807) (eg:∀args w,(callFunc g args).run Tryz.prog w = .ok (.enter g args) w)
  (hf:∀W,Below w.heap.size w W->∀x∈xs,Calls Tryz.prog g (#[x.vl]++lb) W fun e w'=>e = .returned (.bool (P x))/\Below W.heap.size W w') :
  Calls Tryz.prog 235 #[.func (.func g) #[] lb,.slice (some ⟨bl,0,none⟩) 1 1] w fun e w'=>e = .returned (.bool (xs.all P))/\Below w.heap.size w w':=by
 obtain⟨W1,hW1⟩:∃W1,w.alloc (.cells #[.func (.func g) #[] lb] 287)=W1:=⟨_,rfl⟩
 have hB1:Below w.heap.size w W1:=by subst hW1;exact ba_q
 have hbo:FnBox W1 w.heap.size 287 g lb:=by subst hW1;exact World.alloc_heap_new _ _
 have c0:=Xe (Xi hB1 hbl);have hmf:∀(fn:Fn) (first cap:Array Value) (w:World),(Instr.makeFunc fn first cap).run Tryz.prog w = .ok (.func fn first cap) w:=fun _ _ _ _=>rfl
 have cC:=Xa (Xu2 A cp xs 275 #[.pointer (some ⟨w.heap.size,0,none⟩)] (fun x => !P x) W1 (hr.ext hB1) hm (enters_of Tryz.func275 (by kernel_rfl) rfl)
  (fun W hW x hx=>Xwl w.heap.size g lb P x W (hbo.ext hW) eg fun V hV=>hf V (Xb hB1 (Xb hW hV)) x hx))
 have HA:=Xa (V4 P xs);have HW1:=Xa hW1;clear hf hr hbl hW1 hbo;go_enter Tryz.func235,Tryz.ntmps235
 go_wp2_with fail
 rw[HW1.out];clear HW1;go_loopw [9] (fun i wr=>(i = .int .i64 0/\wr=W1)\/(i = .int .i64 1/\Below w.heap.size w wr/\Hid (xs.all P=true))) (fun i _=>1-(intOf i).toNat)
 case atStart=>exact .inl ⟨rfl,rfl⟩
 case round =>
  rcases hrel with ⟨rfl,rfl⟩|⟨rfl,hB,HR⟩
  ·go_wp2_with fail
   refine cC.out.mono ?_;rintro e w1 ⟨rfl,hb1⟩;rw[HA.out];have hB2:=Xb hB1 hb1;clear cC hb1 hB1 c0;cases hP:xs.all P
   ·go_wp2_with fail
    go_ret;exact⟨by rw[hP];rfl,hB2⟩
   ·have HR:=Xa hP
    clear hP;go_wp2_with fail
    go_roundw
    case rel=>exact .inr ⟨rfl,hB2,HR⟩
    case measure=>simp[intOf]
  ·clear c0 cC
   go_wp2_with fail
   go_ret;exact⟨by rw[HR.out];rfl,hB⟩
/-! ### at hansard/api.Part -/
theorem Xvu (A:Option Addr) (cp:Nat) (xs:List PartG) (fid:Nat) (lb:Array Value) (P:PartG->Bool) (w:World) (hr:Rd w A (xs.flatMap PartG.cells)) (hm:xs.length<=9223372036854775807) (eg:∀args w,(callFunc fid args).run Tryz.prog w = .ok (.enter fid args) w)
  (hf:∀W,Below w.heap.size w W->∀x∈xs,Calls Tryz.prog fid (#[.agg #[.string x.cat,.int .i64 x.no,.string x.text]]++lb) W fun e w'=>e = .returned (.bool (P x))/\Below W.heap.size W w') :
  Calls Tryz.prog 296 #[.slice A xs.length cp,.func (.func fid) #[] lb] w fun e w'=>∃k:Int,e = .returned (.int .i64 k)/\decide (0<=k)=xs.any P/\Below w.heap.size w w':=by
 have Hf:=Xa hf;have HS:=Xa hr;clear hf hr;go_enter Tryz.func296,Tryz.ntmps296
 go_wp2_with fail
 go_loopw [8] (fun i wr=>∃k:Nat,k<=xs.length/\i = .int .i64 k/\Below w.heap.size w wr/\Hid ((xs.take k).any P=false)) (fun i _=>xs.length-(intOf i).toNat)
 case atStart=>exact⟨0,Nat.zero_le _,rfl,bo_q,rfl⟩
 case round =>
  obtain⟨k,hk,rfl,hB,HR⟩:=hrel;by_cases hlt:k<xs.length
  ·obtain⟨b,off,rfl,hb,hc⟩:=HS.out.elem (s:=3) (fun _=>rfl) (by omega) (k:=k) hlt
   have d0:wr.cell? ⟨b,off+k*3,none⟩=some _:=(hB.cell (p:=⟨b,off+k*3,none⟩) hb).trans (hc 0 _ rfl);have d1:wr.cell? ⟨b,off+k*3+1,none⟩=some _:=(hB.cell (p:=⟨b,off+k*3+1,none⟩) hb).trans (hc 1 _ rfl);have d2:wr.cell? ⟨b,off+k*3+2,none⟩=some _:=(hB.cell (p:=⟨b,off+k*3+2,none⟩) hb).trans (hc 2 _ rfl);have cF:=Xa (Hf.out wr hB xs[k] (List.getElem_mem hlt));have Htk:=Xa (Qw (P:=P) hlt);have hmem:=List.getElem_mem hlt;have Hmem:=Xa hmem;clear hc hmem;generalize xs[k]=x at *;go_wp2_with fail
   refine cF.out.mono ?_;rintro e w1 ⟨rfl,hb1⟩;have hB1:=Xb hB hb1;cases hP:P x
   ·have HN:Hid ((xs.take (k+1)).any P=false):=by show _=_;rw[Htk.out,HR.out,hP];rfl
    clear hP;go_wp2_with fail
    go_roundw
    case rel=>exact⟨k+1,by omega,by go_num,hB1,HN⟩
    case measure=>simp[intOf];omega
   ·have HN:Hid (xs.any P=true):=List.any_eq_true.2 ⟨x,Hmem.out,hP⟩
    clear hP;go_wp2_with fail
    go_ret;exact⟨k,rfl,by rw[HN.out];exact decide_eq_true (by omega),hB1⟩
  ·have HN:Hid (xs.any P=false):=by
    have h:=HR.out;rw[List.take_of_length_le (by omega)] at h;exact h
   go_wp2_with fail
   go_ret;exact⟨-1,rfl,by rw[HN.out];rfl,hB⟩
theorem Xu3 (A:Option Addr) (cp:Nat) (xs:List PartG) (fid:Nat) (lb:Array Value) (P:PartG->Bool) (w:World) (hr:Rd w A (xs.flatMap PartG.cells)) (hm:xs.length<=9223372036854775807) (eg:∀args w,(callFunc fid args).run Tryz.prog w = .ok (.enter fid args) w)
  (hf:∀W,Below w.heap.size w W->∀x∈xs,Calls Tryz.prog fid (#[.agg #[.string x.cat,.int .i64 x.no,.string x.text]]++lb) W fun e w'=>e = .returned (.bool (P x))/\Below W.heap.size W w') :
  Calls Tryz.prog 272 #[.slice A xs.length cp,.func (.func fid) #[] lb] w fun e w'=>e = .returned (.bool (xs.any P))/\Below w.heap.size w w':=by
 have cI:=Xa (Xvu A cp xs fid lb P w hr hm eg hf);clear hr hf eg;go_enter Tryz.func272,Tryz.ntmps272
 go_wp2_with fail
 refine cI.out.mono ?_;rintro e w1 ⟨k,rfl,hk,hb1⟩;cases hP:xs.any P
 ·rw[hP] at hk
  have g1:decide (k≥0)=false:=hk;have g2:k<0:=by have:=of_decide_eq_false hk;omega
  clear hk;go_wp2_with fail
  go_ret;exact⟨by first|rfl|(rw[hP];rfl)|(rw[hP];simp;omega),hb1⟩
 ·rw[hP] at hk
  have g1:decide (k≥0)=true:=hk;have g2:0<=k:=of_decide_eq_true hk;clear hk;go_wp2_with fail
  go_ret;exact⟨by first|rfl|(rw[hP];rfl)|(rw[hP];simp;omega),hb1⟩
theorem Xwn (bo g:Nat) (lb:Array Value) (P:PartG->Bool) (x:PartG) (w:World) (hbo:FnBox w bo 288 g lb) (eg:∀args w,(callFunc g args).run Tryz.prog w = .ok (.enter g args) w)
  (hf:∀W,Below w.heap.size w W->Calls Tryz.prog g (#[.agg #[.string x.cat,.int .i64 x.no,.string x.text]]++lb) W fun e w'=>e = .returned (.bool (P x))/\Below W.heap.size W w') :
  Calls Tryz.prog 273 #[.agg #[.string x.cat,.int .i64 x.no,.string x.text],.pointer (some ⟨bo,0,none⟩)] w fun e w'=>e = .returned (.bool (!P x))/\Below w.heap.size w w':=by
 have c0:=Xe hbo;have hlt:=Xd hbo;have Hf:=Xa hf;clear hf hbo;go_enter Tryz.func273,Tryz.ntmps273
 go_wp2_with fail
 refine(Hf.out _ ba_q).mono ?_;rintro e w1 ⟨rfl,hb1⟩;go_wp2_with fail
 go_ret;exact⟨rfl,Xb ba_q hb1⟩
theorem Xyn (bl:Nat) (A:Option Addr) (cp:Nat) (xs:List PartG) (g:Nat) (lb:Array Value) (P:PartG->Bool) (w:World) (hbl:w.heap[bl]? = some (.cells #[.slice A xs.length cp] 76 (0,0))) (hr:Rd w A (xs.flatMap PartG.cells)) (hm:xs.length<=9223372036854775807) (eg:∀args w,(callFunc g args).run Tryz.prog w = .ok (.enter g args) w)
  (hf:∀W,Below w.heap.size w W->∀x∈xs,Calls Tryz.prog g (#[.agg #[.string x.cat,.int .i64 x.no,.string x.text]]++lb) W fun e w'=>e = .returned (.bool (P x))/\Below W.heap.size W w') :
  Calls Tryz.prog 234 #[.func (.func g) #[] lb,.slice (some ⟨bl,0,none⟩) 1 1] w fun e w'=>e = .returned (.bool (xs.all P))/\Below w.heap.size w w':=by
 obtain⟨W1,hW1⟩:∃W1,w.alloc (.cells #[.func (.func g) #[] lb] 288)=W1:=⟨_,rfl⟩
 have hB1:Below w.heap.size w W1:=by subst hW1;exact ba_q
 have hbo:FnBox W1 w.heap.size 288 g lb:=by subst hW1;exact World.alloc_heap_new _ _
 have c0:=Xe (Xi hB1 hbl);have hmf:∀(fn:Fn) (first cap:Array Value) (w:World),(Instr.makeFunc fn first cap).run Tryz.prog w = .ok (.func fn first cap) w:=fun _ _ _ _=>rfl
 have cC:=Xa (Xu3 A cp xs 273 #[.pointer (some ⟨w.heap.size,0,none⟩)] (fun x => !P x) W1 (hr.ext hB1) hm (enters_of Tryz.func273 (by kernel_rfl) rfl)
  (fun W hW x hx=>Xwn w.heap.size g lb P x W (hbo.ext hW) eg fun V hV=>hf V (Xb hB1 (Xb hW hV)) x hx))
 have HA:=Xa (V4 P xs);have HW1:=Xa hW1;clear hf hr hbl hW1 hbo;go_enter Tryz.func234,Tryz.ntmps234
 go_wp2_with fail
 rw[HW1.out];clear HW1;go_loopw [9] (fun i wr=>(i = .int .i64 0/\wr=W1)\/(i = .int .i64 1/\Below w.heap.size w wr/\Hid (xs.all P=true))) (fun i _=>1-(intOf i).toNat)
 case atStart=>exact .inl ⟨rfl,rfl⟩
 case round =>
  rcases hrel with ⟨rfl,rfl⟩|⟨rfl,hB,HR⟩
  ·go_wp2_with fail
   refine cC.out.mono ?_;rintro e w1 ⟨rfl,hb1⟩;rw[HA.out];have hB2:=Xb hB1 hb1;clear cC hb1 hB1 c0;cases hP:xs.all P
   ·go_wp2_with fail
    go_ret;exact⟨by rw[hP];rfl,hB2⟩
   ·have HR:=Xa hP
    clear hP;go_wp2_with fail
    go_roundw
    case rel=>exact .inr ⟨rfl,hB2,HR⟩
    case measure=>simp[intOf]
  ·clear c0 cC
   go_wp2_with fail
   go_ret;exact⟨by rw[HR.out];rfl,hB⟩
/-! ### at hansard/api.Rule -/
theorem Xvv (A:Option Addr) (cp:Nat) (xs:List RuleG) (fid:Nat) (lb:Array Value) (P:RuleG->Bool) (w:World) (hr:Rd w A (xs.flatMap RuleG.cells)) (hm:xs.length<=9223372036854775807) (eg:∀args w,(callFunc fid args).run Tryz.prog w = .ok (.enter fid args) w)
  (hf:∀W,Below w.heap.size w W->∀x∈xs,Calls Tryz.prog fid (#[x.vl]++lb) W fun e w'=>e = .returned (.bool (P x))/\Below W.heap.size W w') :
  Calls Tryz.prog 277 #[.slice A xs.length cp,.func (.func fid) #[] lb] w fun e w'=>∃k:Int,e = .returned (.int .i64 k)/\decide (0<=k)=xs.any P/\Below w.heap.size w w':=by
 have Hf:=Xa hf;have HS:=Xa hr;clear hf hr;go_enter Tryz.func277,Tryz.ntmps277
 go_wp2_with fail
 go_loopw [8] (fun i wr=>∃k:Nat,k<=xs.length/\i = .int .i64 k/\Below w.heap.size w wr/\Hid ((xs.take k).any P=false)) (fun i _=>xs.length-(intOf i).toNat)
 case atStart=>exact⟨0,Nat.zero_le _,rfl,bo_q,rfl⟩
 case round =>
  obtain⟨k,hk,rfl,hB,HR⟩:=hrel;by_cases hlt:k<xs.length
  ·obtain⟨b,off,rfl,hb,hc⟩:=HS.out.elem (s:=5) (fun _=>rfl) (by omega) (k:=k) hlt
   have d0:wr.cell? ⟨b,off+k*5,none⟩=some _:=(hB.cell (p:=⟨b,off+k*5,none⟩) hb).trans (hc 0 _ rfl);have d1:wr.cell? ⟨b,off+k*5+1,none⟩=some _:=(hB.cell (p:=⟨b,off+k*5+1,none⟩) hb).trans (hc 1 _ rfl);have d2:wr.cell? ⟨b,off+k*5+2,none⟩=some _:=(hB.cell (p:=⟨b,off+k*5+2,none⟩) hb).trans (hc 2 _ rfl);have d3:wr.cell? ⟨b,off+k*5+3,none⟩=some _:=(hB.cell (p:=⟨b,off+k*5+3,none⟩) hb).trans (hc 3 _ rfl);have d4:wr.cell? ⟨b,off+k*5+4,none⟩=some _:=(hB.cell (p:=⟨b,off+k*5+4,none⟩) hb).trans (hc 4 _ rfl);have cF:=Xa (Hf.out wr hB xs[k] (List.getElem_mem hlt));have Htk:=Xa (Qw (P:=P) hlt);have hmem:=List.getElem_mem hlt;have Hmem:=Xa hmem;clear hc hmem;generalize xs[k]=x at *;go_wp2_with fail
   refine cF.out.mono ?_;rintro e w1 ⟨rfl,hb1⟩;have hB1:=Xb hB hb1;cases hP:P x
   ·have HN:Hid ((xs.take (k+1)).any P=false):=by show _=_;rw[Htk.out,HR.out,hP];rfl
    clear hP;go_wp2_with fail
    go_roundw
    case rel=>exact⟨k+1,by omega,by go_num,hB1,HN⟩
    case measure=>simp[intOf];omega
   ·have HN:Hid (xs.any P=true):=List.any_eq_true.2 ⟨x,Hmem.out,hP⟩
    clear hP;go_wp2_with fail
    go_ret;exact⟨k,rfl,by rw[HN.out];exact decide_eq_true (by omega),hB1⟩
  ·have HN:Hid (xs.any P=false):=by
    have h:=HR.out;rw[List.take_of_length_le (by omega)] at h;exact h
   go_wp2_with fail
   go_ret;exact⟨-1,rfl,by rw[HN.out];rfl,hB⟩
theorem Xkv (A:Option Addr) (cp:Nat) (xs:List RuleG) (fid:Nat) (lb:Array Value) (P:RuleG->Bool) (w:World) (hr:Rd w A (xs.flatMap RuleG.cells)) (hm:xs.length<=9223372036854775807) (eg:∀args w,(callFunc fid args).run Tryz.prog w = .ok (.enter fid args) w)
  (hf:∀W,Below w.heap.size w W->∀x∈xs,Calls Tryz.prog fid (#[x.vl]++lb) W fun e w'=>e = .returned (.bool (P x))/\Below W.heap.size W w') :
  Calls Tryz.prog 238 #[.slice A xs.length cp,.func (.func fid) #[] lb] w fun e w'=>e = .returned (.bool (xs.any P))/\Below w.heap.size w w':=by
 have cI:=Xa (Xvv A cp xs fid lb P w hr hm eg hf);clear hr hf eg;go_enter Tryz.func238,Tryz.ntmps238
 go_wp2_with fail
 refine cI.out.mono ?_;rintro e w1 ⟨k,rfl,hk,hb1⟩;cases hP:xs.any P
 ·rw[hP] at hk
  have g1:decide (k≥0)=false:=hk;have g2:k<0:=by have:=of_decide_eq_false hk;omega
  clear hk;go_wp2_with fail
  go_ret;exact⟨by first|rfl|(rw[hP];rfl)|(rw[hP];simp;omega),hb1⟩
 ·rw[hP] at hk
  have g1:decide (k≥0)=true:=hk;have g2:0<=k:=of_decide_eq_true hk;clear hk;go_wp2_with fail
  go_ret;exact⟨by first|rfl|(rw[hP];rfl)|(rw[hP];simp;omega),hb1⟩
theorem Xwo (bo g:Nat) (lb:Array Value) (P:RuleG->Bool) (x:RuleG) (w:World) (hbo:FnBox w bo 290 g lb) (eg:∀args w,(callFunc g args).run Tryz.prog w = .ok (.enter g args) w)
  (hf:∀W,Below w.heap.size w W->Calls Tryz.prog g (#[x.vl]++lb) W fun e w'=>e = .returned (.bool (P x))/\Below W.heap.size W w') :
  Calls Tryz.prog 276 #[x.vl,.pointer (some ⟨bo,0,none⟩)] w fun e w'=>e = .returned (.bool (!P x))/\Below w.heap.size w w':=by
 have c0:=Xe hbo;have hlt:=Xd hbo;have Hf:=Xa hf;clear hf hbo;go_enter Tryz.func276,Tryz.ntmps276
 go_wp2_with fail
 refine(Hf.out _ ba_q).mono ?_;rintro e w1 ⟨rfl,hb1⟩;go_wp2_with fail
 go_ret;exact⟨rfl,Xb ba_q hb1⟩
theorem Xyp (bl:Nat) (A:Option Addr) (cp:Nat) (xs:List RuleG) (g:Nat) (lb:Array Value) (P:RuleG->Bool) (w:World) (hbl:w.heap[bl]? = some (.cells #[.slice A xs.length cp] 24 (0,0))) (hr:Rd w A (xs.flatMap RuleG.cells)) (hm:xs.length<=9223372036854775807) (eg:∀args w,(callFunc g args).run Tryz.prog w = .ok (.enter g args) w)
  (hf:∀W,Below w.heap.size w W->∀x∈xs,Calls Tryz.prog g (#[x.vl]++lb) W fun e w'=>e = .returned (.bool (P x))/\Below W.heap.size W w') :
  Calls Tryz.prog 236 #[.func (.func g) #[] lb,.slice (some ⟨bl,0,none⟩) 1 1] w fun e w'=>e = .returned (.bool (xs.all P))/\Below w.heap.size w w':=by
 obtain⟨W1,hW1⟩:∃W1,w.alloc (.cells #[.func (.func g) #[] lb] 290)=W1:=⟨_,rfl⟩
 have hB1:Below w.heap.size w W1:=by subst hW1;exact ba_q
 have hbo:FnBox W1 w.heap.size 290 g lb:=by subst hW1;exact World.alloc_heap_new _ _
 have c0:=Xe (Xi hB1 hbl);have hmf:∀(fn:Fn) (first cap:Array Value) (w:World),(Instr.makeFunc fn first cap).run Tryz.prog w = .ok (.func fn first cap) w:=fun _ _ _ _=>rfl
 have cC:=Xa (Xkv A cp xs 276 #[.pointer (some ⟨w.heap.size,0,none⟩)] (fun x => !P x) W1 (hr.ext hB1) hm (enters_of Tryz.func276 (by kernel_rfl) rfl)
  (fun W hW x hx=>Xwo w.heap.size g lb P x W (hbo.ext hW) eg fun V hV=>hf V (Xb hB1 (Xb hW hV)) x hx))
 have HA:=Xa (V4 P xs);have HW1:=Xa hW1;clear hf hr hbl hW1 hbo;go_enter Tryz.func236,Tryz.ntmps236
 go_wp2_with fail
 rw[HW1.out];clear HW1;go_loopw [9] (fun i wr=>(i = .int .i64 0/\wr=W1)\/(i = .int .i64 1/\Below w.heap.size w wr/\Hid (xs.all P=true))) (fun i _=>1-(intOf i).toNat)
 case atStart=>exact .inl ⟨rfl,rfl⟩
 case round =>
  rcases hrel with ⟨rfl,rfl⟩|⟨rfl,hB,HR⟩
  ·go_wp2_with fail
   refine cC.out.mono ?_;rintro e w1 ⟨rfl,hb1⟩;rw[HA.out];have hB2:=Xb hB1 hb1;clear cC hb1 hB1 c0;cases hP:xs.all P
   ·go_wp2_with fail
    go_ret;exact⟨by rw[hP];rfl,hB2⟩
   ·have HR:=Xa hP
    clear hP;go_wp2_with fail
    go_roundw
    case rel=>exact .inr ⟨rfl,hB2,HR⟩
    case measure=>simp[intOf]
  ·clear c0 cC
   go_wp2_with fail
   go_ret;exact⟨by rw[HR.out];rfl,hB⟩
/-! ### numbers -/
theorem Xuw (ba bb:Nat) (a b n:Int) (w:World) (ha:w.heap[ba]? = some (.cells #[.int .i64 a] 3 (0,0))) (hb:w.heap[bb]? = some (.cells #[.int .i64 b] 3 (0,0))) :
  Calls Tryz.prog 270 #[.int .i64 n,.pointer (some ⟨ba,0,none⟩),.pointer (some ⟨bb,0,none⟩)] w fun e w'=>e = .returned (.bool (decide (a<=n) && decide (n<=b)))/\Below w.heap.size w w':=by
 have c0:=Xe ha;have c1:=Xe hb;go_enter Tryz.func270,Tryz.ntmps270
 go_wp2
 all_goals go_ret
 all_goals (refine⟨?_,bo_q⟩;simp[*];try omega)
theorem Xwm (bo g:Nat) (lb:Array Value) (P:Int->Bool) (x:Int) (w:World) (hbo:FnBox w bo 139 g lb) (eg:∀args w,(callFunc g args).run Tryz.prog w = .ok (.enter g args) w)
  (hf:∀W,Below w.heap.size w W->Calls Tryz.prog g (#[.int .i64 x]++lb) W fun e w'=>e = .returned (.bool (P x))/\Below W.heap.size W w') :
  Calls Tryz.prog 295 #[.int .i64 x,.pointer (some ⟨bo,0,none⟩)] w fun e w'=>e = .returned (.bool (!P x))/\Below w.heap.size w w':=by
 have c0:=Xe hbo;have Hf:=Xa hf;clear hf hbo;go_enter Tryz.func295,Tryz.ntmps295
 go_wp2_with fail
 refine(Hf.out _ bo_q).mono ?_;rintro e w1 ⟨rfl,hb1⟩;go_wp2_with fail
 go_ret;exact⟨rfl,hb1⟩
theorem Xym (bl:Nat) (bn:Nat) (n:Int) (g:Nat) (lb:Array Value) (P:Int->Bool) (w:World) (hbl:w.heap[bl]? = some (.cells #[.slice (some ⟨bn,0,none⟩) 1 1] 49 (0,0))) (hbn:w.heap[bn]? = some (.cells #[.int .i64 n] 3 (0,0))) (eg:∀args w,(callFunc g args).run Tryz.prog w = .ok (.enter g args) w)
  (hf:∀W,Below w.heap.size w W->∀x,Calls Tryz.prog g (#[.int .i64 x]++lb) W fun e w'=>e = .returned (.bool (P x))/\Below W.heap.size W w') :
  Calls Tryz.prog 269 #[.func (.func g) #[] lb,.slice (some ⟨bl,0,none⟩) 1 1] w fun e w'=>e = .returned (.bool (P n))/\Below w.heap.size w w':=by
 obtain⟨W1,hW1⟩:∃W1,w.alloc (.cells #[.func (.func g) #[] lb] 139)=W1:=⟨_,rfl⟩
 have hB1:Below w.heap.size w W1:=by subst hW1;exact ba_q
 have hbo:FnBox W1 w.heap.size 139 g lb:=by subst hW1;exact World.alloc_heap_new _ _
 have c0:=Xe (Xi hB1 hbl);have hr:Rd W1 (some ⟨bn,0,none⟩) ([n].map (.int .i64)):=Zg (Xi hB1 hbn) rfl;have hmf:∀(fn:Fn) (first cap:Array Value) (w:World),(Instr.makeFunc fn first cap).run Tryz.prog w = .ok (.func fn first cap) w:=fun _ _ _ _=>rfl
 have cC:=Xa (Q0 295 #[.pointer (some ⟨w.heap.size,0,none⟩)] (fun x => !P x) (some ⟨bn,0,none⟩) 1 [n] W1 ⟨enters_of Tryz.func295 (by kernel_rfl) rfl,
  fun x W hW=>Xwm w.heap.size g lb P x W (hbo.ext hW) eg fun V hV=>hf V (Xb hB1 (Xb hW hV)) x⟩ hr (by simp))
 have HA:Hid (([n].any fun x => !P x) = !P n):=by show _=_;simp
 have HW1:=Xa hW1;clear hf hr hbl hbn hW1 hbo;go_enter Tryz.func269,Tryz.ntmps269
 go_wp2_with fail
 rw[HW1.out];clear HW1;go_loopw [9] (fun i wr=>(i = .int .i64 0/\wr=W1)\/(i = .int .i64 1/\Below w.heap.size w wr/\Hid (P n=true))) (fun i _=>1-(intOf i).toNat)
 case atStart=>exact .inl ⟨rfl,rfl⟩
 case round =>
  rcases hrel with ⟨rfl,rfl⟩|⟨rfl,hB,HR⟩
  ·go_wp2_with fail
   refine cC.out.mono ?_;rintro e w1 ⟨rfl,hb1⟩;rw[HA.out];have hB2:=Xb hB1 hb1;clear cC hb1 hB1 c0;cases hP:P n
   ·go_wp2_with fail
    go_ret;exact⟨by rw[hP];rfl,hB2⟩
   ·have HR:=Xa hP
    clear hP;go_wp2_with fail
    go_roundw
    case rel=>exact .inr ⟨rfl,hB2,HR⟩
    case measure=>simp[intOf]
  ·clear c0 cC
   go_wp2_with fail
   go_ret;exact⟨by rw[HR.out];rfl,hB⟩
theorem Xyu (a b n:Int) (bn:Nat) (w:World) (hbn:w.heap[bn]? = some (.cells #[.int .i64 n] 3 (0,0))) :
  Calls Tryz.prog 230 #[.int .i64 a,.int .i64 b,.slice (some ⟨bn,0,none⟩) 1 1] w fun e w'=>e = .returned (.bool (decide (a<=n) && decide (n<=b)))/\Below w.heap.size w w':=by
 obtain⟨W1,hW1⟩:∃W1,w.alloc (.cells #[.int .i64 a] 3)=W1:=⟨_,rfl⟩
 obtain⟨W2,hW2⟩:∃W2,W1.alloc (.cells #[.int .i64 b] 3)=W2:=⟨_,rfl⟩
 obtain⟨W3,hW3⟩:∃W3,W2.alloc (.cells #[.slice (some ⟨bn,0,none⟩) 1 1] 49)=W3:=⟨_,rfl⟩
 have hB1:Below w.heap.size w W1:=by subst hW1;exact ba_q
 have hB2:Below W1.heap.size W1 W2:=by subst hW2;exact ba_q
 have hB3:Below W2.heap.size W2 W3:=by subst hW3;exact ba_q
 have k1:W1.heap[w.heap.size]? = some (.cells #[.int .i64 a] 3 (0,0)):=by subst hW1;exact World.alloc_heap_new _ _
 have k2:W2.heap[W1.heap.size]? = some (.cells #[.int .i64 b] 3 (0,0)):=by subst hW2;exact World.alloc_heap_new _ _
 have k3:W3.heap[W2.heap.size]? = some (.cells #[.slice (some ⟨bn,0,none⟩) 1 1] 49 (0,0)):=by subst hW3;exact World.alloc_heap_new _ _
 have z1:W1.heap.size=w.heap.size+1:=by subst hW1;simp
 have z2:W2.heap.size=w.heap.size+2:=by subst hW2;simp[z1]
 have k1':=((Xb hB2 hB3).block _ (Xd k1)).trans k1;have k2':=Xi hB3 k2;have kn:=((Xb (Xb hB1 hB2) hB3).block _ (Xd hbn)).trans hbn
 have cA:=Xa (Xym W2.heap.size bn n 270 #[.pointer (some ⟨w.heap.size,0,none⟩),.pointer (some ⟨W1.heap.size,0,none⟩)] (fun x=>decide (a<=x) && decide (x<=b)) W3 k3 kn (enters_of Tryz.func270 (by kernel_rfl) rfl)
  (fun W hW x=>Xuw _ _ a b x W (Xi hW k1') (Xi hW k2')))
 rw[z2,z1] at cA;have hB:=Xb (Xb hB1 hB2) hB3;have hmf:∀(fn:Fn) (first cap:Array Value) (w:World),(Instr.makeFunc fn first cap).run Tryz.prog w = .ok (.func fn first cap) w:=fun _ _ _ _=>rfl;have HW:Hid (((w.alloc (.cells #[.int .i64 a] 3)).alloc (.cells #[.int .i64 b] 3)).alloc (.cells #[.slice (some ⟨bn,0,none⟩) 1 1] 49)=W3):=by show _=_;rw[hW1,hW2,hW3]
 clear k1 k2 k3 k1' k2' kn hW1 hW2 hW3 hB1 hB2 hB3 z1 z2 hbn;go_enter Tryz.func230,Tryz.ntmps230
 go_wp2_with fail
 rw[HW.out];refine cA.out.mono ?_;rintro e w1 ⟨rfl,hb1⟩;go_wp2_with fail
 go_ret;exact⟨rfl,Xb hB hb1⟩
theorem ItemG.size_cells (x:ItemG):x.cells.length=6:=rfl
structure ItemsAt (w:World) (its:SlS ItemG):Prop where
 lies:its.lies ItemG.cells w
 tgt:∀x∈its.xs,x.tgt.lies w
theorem ItemsAt.ext {w w':World} {its:SlS ItemG} (h:ItemsAt w its) (hb:Below w.heap.size w w'):ItemsAt w' its:=⟨h.lies.ext hb,fun x hx=>StrS.lies.ext (h.tgt x hx) hb⟩
end Go.Proofs.YtolpbjjapodmnaaGreatDoor
