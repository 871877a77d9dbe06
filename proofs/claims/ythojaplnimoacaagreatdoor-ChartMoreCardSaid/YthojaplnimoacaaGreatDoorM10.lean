/- Texts of this claim, one after the other: ChaT, ChaU, ChaE, R29a, SrchT, Row, InsTerm, AddT. -/
import Derived.Test.YthojaplnimoacaaGreatDoorM9
import Derived.Test.YthojaplnimoacaaGreatDoorM2
import Derived.Test.YthojaplnimoacaaGreatDoorM4
import Derived.Test.YthojaplnimoacaaGreatDoorM3
import Derived.Test.YthojaplnimoacaaGreatDoorShelf
import Derived.Test.YthojaplnimoacaaGreatDoorM1
import Derived.Deep.LoopGhost
import Derived.Laws.CopyOwn
import Derived.Laws.CopyRow
import Derived.Deep.AppendLies
import Derived.Lib.AppendZerosOnto
import Derived.Lib.Overlaps
import Derived.StillTailTactics
import Derived.Lib.SliceRun
import Derived.Deep.RegionWith
namespace Go.Proofs.YthojaplnimoacaaGreatDoor
open Go.RowKit Go.Han
set_option maxRecDepth 100000
/-! ### trees -/
@[simp] def TreeV.rule:TreeV→Int | .node r _ _ _ _=>r
@[simp] def TreeV.item:TreeV→Int | .node _ j _ _ _=>j
@[simp] def TreeV.frm:TreeV→Int | .node _ _ i _ _=>i
@[simp] def TreeV.unt:TreeV→Int | .node _ _ _ k _=>k
@[simp] def TreeV.kids:TreeV→List TreeV | .node _ _ _ _ l=>l
mutual
def X5:TreeV→Nat
 | .node _ _ _ _ l=>1+Xp l
def Xp:List TreeV→Nat
 | []=>0
 | t :: l=>X5 t+Xp l
end
abbrev KidV:=Int×Int×(Int→Int×Bool)
def Z8 (st:Int→ByteArray→Bool):List PartG→List KidV→Int→Int→Int→Int×Bool
 | [],ks,i,k,c=>(c,decide (ks=[]) && decide (i=k))
 | p :: ps,ks,i,k,c =>
  if p.text.size≠0 then (if i<k∧st i p.text=true then Z8 st ps ks (i+1) k c else (0,false))
  else match ks with
   | []=>(0,false)
   | x :: ks'=>if x.1=i then (if (x.2.2 p.no).2 then Z8 st ps ks' x.2.1 k (c+(x.2.2 p.no).1) else (0,false)) else (0,false)
mutual
def X6 (g:Gram) (items:List ItemG):TreeV→Int→Int×Bool
 | .node r j i k kids,c =>
  if r = -1 then (if j<0∨(items.length:Int)≤j∨0<kids.length then (0,false) else match items[j.toNat]? with|some x=>(x.cost,decide (x.cat=c) && decide (x.frm=i) && decide (x.unt=k))|none=>(0,false))
  else if j ≠ -1∨r<0∨(g.rules.xs.length:Int)≤r then (0,false)
  else match g.rules.xs[r.toNat]? with
   | none=>(0,false)
   | some x=>if x.no=c then Z8 (Xn items) x.parts.xs (Yl g items kids) i k x.cost else (0,false)
def Yl (g:Gram) (items:List ItemG):List TreeV→List KidV
 | []=>[]
 | t :: l=>(t.frm,t.unt,X6 g items t) :: Yl g items l
end
mutual
def Xa7:TreeV→TreeV→Bool
 | .node r j i k l,t=>decide (r=t.rule) && decide (j=t.item) && decide (i=t.frm) && decide (k=t.unt) && Xaf l t.kids
def Xaf:List TreeV→List TreeV→Bool
 | [],[]=>true
 | x :: l,y :: m=>Xa7 x y && Xaf l m
 | _,_=>false
end
mutual
def Vb:TreeV→TreeV→Bool
 | .node r j _ _ l,t =>
  if decide (r = -1)≠decide (t.rule = -1) then decide (r = -1)
  else if r≠t.rule then decide (r<t.rule)
  else if j≠t.item then decide (j<t.item)
  else Z4 l t.kids
def Z4:List TreeV→List TreeV→Bool
 | x :: l,y :: m=>if x.unt≠y.unt then decide (x.unt<y.unt) else if Xa7 x y then Z4 l m else Vb x y
 | _,_=>false
end
mutual
theorem U2:∀a b:TreeV,Xa7 a b=true↔a=b
 | .node r j i k l,.node r' j' i' k' l'=>by
  unfold Xa7
  show (decide (r=r') && decide (j=j') && decide (i=i') && decide (k=k') && Xaf l l')=true↔_
  rw[Bool.and_eq_true,Xfq l l',TreeV.node.injEq]
  simp only[Bool.and_eq_true,decide_eq_true_eq]
  constructor
  ·rintro⟨⟨⟨⟨h1,h2⟩,h3⟩,h4⟩,h5⟩;exact⟨h1,h2,h3,h4,h5⟩
  ·rintro⟨h1,h2,h3,h4,h5⟩;exact⟨⟨⟨⟨h1,h2⟩,h3⟩,h4⟩,h5⟩
theorem Xfq:∀a b:List TreeV,Xaf a b=true↔a=b
 | [],[]=>by simp[Xaf]
 | [],y :: m=>by simp[Xaf]
 | x :: l,[]=>by simp[Xaf]
 | x :: l,y :: m=>by
  unfold Xaf
  rw[Bool.and_eq_true,U2 x y,Xfq l m,List.cons.injEq]
end
theorem Vv (r j i k:Int) (l:List TreeV) (r' j' i' k':Int) (l':List TreeV):Vb (.node r j i k l) (.node r' j' i' k' l')=if decide (r = -1)≠decide (r' = -1) then decide (r = -1) else if r≠r' then decide (r<r') else if j≠j' then decide (j<j') else Z4 l l':=by
 unfold Vb;rfl
theorem Uf (x:TreeV) (l:List TreeV) (y:TreeV) (m:List TreeV):Z4 (x :: l) (y :: m)=if x.unt≠y.unt then decide (x.unt<y.unt) else if Xa7 x y=true then Z4 l m else Vb x y:=by
 rw[Z4]
mutual
theorem T4:∀a b:TreeV,Vb a b=true→Vb b a=false
 | .node r j i k l,.node r' j' i' k' l'=>by
  rw[Vv,Vv]
  have h:=Xaz l l'
  by_cases h3:r=r'
  ·subst h3
   by_cases h4:j=j'
   ·subst h4;simpa using h
   ·have h5:¬j'=j:=fun e=>h4 e.symm
    simp[h4,h5];omega
  ·have h5:¬r'=r:=fun e=>h3 e.symm
   by_cases h1:r = -1
   ·have h2:¬r' = -1:=fun e=>h3 (h1.trans e.symm)
    simp[h1,h2]
   ·by_cases h2:r' = -1
    ·simp[h1,h2]
    ·simp[h1,h2,h3,h5];omega
theorem Xaz:∀a b:List TreeV,Z4 a b=true→Z4 b a=false
 | [],_=>by intro h;unfold Z4 at h;cases h
 | x :: l,[]=>by intro _;rfl
 | x :: l,y :: m=>by
  rw[Uf,Uf]
  have h1:=T4 x y
  have h2:=Xaz l m
  by_cases hu:x.unt=y.unt
  ·by_cases hs:x=y
   ·subst hs
    have e:Xa7 x x=true:=(U2 x x).2 rfl
    simpa[e] using h2
   ·have e1:Xa7 x y=false:=by
     cases h:Xa7 x y
     ·rfl
     ·exact absurd ((U2 x y).1 h) hs
    have e2:Xa7 y x=false:=by
     cases h:Xa7 y x
     ·rfl
     ·exact absurd ((U2 y x).1 h).symm hs
    simp only[ne_eq,hu,not_true_eq_false,if_false,e1,e2,Bool.false_eq_true]
    exact h1
  ·have hu':¬y.unt=x.unt:=fun e=>hu e.symm
   simp only[ne_eq,hu,hu',not_false_eq_true,if_true,decide_eq_true_eq,decide_eq_false_iff_not]
   omega
end
theorem Qw (a:TreeV):Vb a a=false:=by
 cases h:Vb a a
 ·rfl
 ·rw[T4 a a h] at h;cases h
/-! ### the order of the derivations -/
theorem Zf {c i k:Int} {x:Dv}:∀ {j:Nat} {l:List ItemG},x∈Xq c i k j l↔∃(n:Nat) (y:ItemG),l[n]? = some y∧y.cat=c∧y.frm=i∧y.unt=k∧x=(y.cost,Zs (j+n) i k)
 | j,[]=>by simp[Xq]
 | j,y :: l=>by
  unfold Xq
  rw[List.mem_append,Zf (j:=j+1) (l:=l)]
  constructor
  ·rintro(h|⟨n,z,h1,h2,h3,h4,h5⟩)
   ·split at h
    ·rename_i hc
     exact⟨0,y,rfl,hc.1,hc.2.1,hc.2.2,by simpa using h⟩
    ·cases h
   ·exact⟨n+1,z,by simpa using h1,h2,h3,h4,by rw[h5];congr 2;omega⟩
  ·rintro⟨n,z,h1,h2,h3,h4,h5⟩
   cases n with
   | zero =>
    simp at h1;subst h1
    left
    rw[if_pos ⟨h2,h3,h4⟩];simpa using h5
   | succ n=>exact .inr ⟨n,z,by simpa using h1,h2,h3,h4,by rw[h5];congr 2;omega⟩
theorem Zi {st:Int→ByteArray→Bool} {A:Int→Nat→Nat→List Dv} {c:Int} {i k:Nat} {x:Dv}:∀ {j:Nat} {l:List RuleG},x∈X4 st A c i k j l↔∃(n:Nat) (r:RuleG),l[n]? = some r∧r.no=c∧x∈Xaa st A (j+n) r i k
 | j,[]=>by simp[X4]
 | j,y :: l=>by
  unfold X4
  rw[List.mem_append,Zi (j:=j+1) (l:=l)]
  constructor
  ·rintro(h|⟨n,z,h1,h2,h3⟩)
   ·split at h
    ·rename_i hc
     exact⟨0,y,rfl,hc,h⟩
    ·cases h
   ·exact⟨n+1,z,by simpa using h1,h2,by rw[show j+(n+1)=j+1+n by omega];exact h3⟩
  ·rintro⟨n,z,h1,h2,h3⟩
   cases n with
   | zero =>
    simp at h1;subst h1
    left
    rw[if_pos h2];exact h3
   | succ n=>exact .inr ⟨n,z,by simpa using h1,h2,by rw[show j+1+n=j+(n+1) by omega];exact h3⟩
theorem Z0 {st:Int→ByteArray→Bool} {A:Int→Nat→Nat→List Dv} {j:Nat} {r:RuleG} {i k:Nat} {x:Dv}:x∈Xaa st A j r i k↔∃y∈Ye st A r.parts.xs i k,x=(r.cost+y.1,.node j (-1) i k y.2):=by
 unfold Xaa
 rw[List.mem_map]
 constructor
 ·rintro⟨y,h1,h2⟩;exact⟨y,h1,h2.symm⟩
 ·rintro⟨y,h1,h2⟩;exact⟨y,h1,h2.symm⟩
theorem Xbh {g:Gram} {items:List ItemG} {f:Nat} {c:Int} {i k:Nat} {x:Dv} (h:x∈derF g items f c i k):x.2.frm=i∧x.2.unt=k:=by
 cases f with
 | zero=>cases h
 | succ f =>
  unfold derF at h
  rcases List.mem_append.1 h with h|h
  ·obtain⟨n,y,_,_,_,_,rfl⟩:=Zf.1 h
   exact⟨rfl,rfl⟩
  ·obtain⟨n,r,_,_,h⟩:=Zi.1 h
   obtain⟨y,_,rfl⟩:=Z0.1 h
   exact⟨rfl,rfl⟩
def BefD (a b:Dv):Prop:=Vb a.2 b.2=true
def BefK (a b:Dk):Prop:=Z4 a.2 b.2=true
theorem Xa3 (c i k:Int):∀(j:Nat) (l:List ItemG),(Xq c i k j l).Pairwise BefD
 | j,[]=>List.Pairwise.nil
 | j,y :: l=>by
  unfold Xq
  rw[List.pairwise_append]
  refine⟨by split<;>simp,Xa3 c i k (j+1) l,?_⟩
  intro a ha b hb
  split at ha
  ·simp at ha;subst ha
   obtain⟨n,z,_,_,_,_,rfl⟩:=Zf.1 hb
   unfold BefD Zs
   rw[Vv,if_neg (by simp),if_neg (by simp),if_pos (by omega)]
   simp;omega
  ·cases ha
theorem Qd (st:Int→ByteArray→Bool) (A:Int→Nat→Nat→List Dv) (hA:∀c u v,(A c u v).Pairwise BefD) (hp:∀c u v,∀x∈A c u v,x.2.unt=(v:Int)):∀(ps:List PartG) (i k:Nat),(Ye st A ps i k).Pairwise BefK
 | [],i,k=>by unfold Ye;split<;>simp
 | p :: ps,i,k=>by
  unfold Ye
  split
  ·split
   ·exact Qd st A hA hp ps _ _
   ·exact List.Pairwise.nil
  ·rw[List.pairwise_flatMap]
   refine⟨fun m _=>?_,?_⟩
   ·unfold Y7
    rw[List.pairwise_flatMap]
    refine⟨fun a _=>?_,?_⟩
    ·rw[List.pairwise_map]
     refine(Qd st A hA hp ps m k).imp fun {x y} h=>?_
     unfold BefK
     rw[Uf,if_neg (by simp),if_pos ((U2 _ _).2 rfl)]
     exact h
    ·refine(List.Pairwise.and_mem.1 (hA p.no i m)).imp fun {a b} h=>?_
     obtain⟨ha,hb,h⟩:=h
     intro x hx y hy
     obtain⟨x',_,rfl⟩:=List.mem_map.1 hx
     obtain⟨y',_,rfl⟩:=List.mem_map.1 hy
     unfold BefK
     rw[Uf,if_neg (by rw[hp _ _ _ a ha,hp _ _ _ b hb];simp),if_neg]
     ·exact h
     ·intro hs
      have:=(U2 _ _).1 hs
      unfold BefD at h
      rw[this,Qw] at h;cases h
   ·refine(List.pairwise_lt_range' (s:=i+1) (n:=k-i)).imp fun {m m'} hlt=>?_
    intro x hx y hy
    unfold Y7 at hx hy
    obtain⟨a,ha,hx⟩:=List.mem_flatMap.1 hx
    obtain⟨b,hb,hy⟩:=List.mem_flatMap.1 hy
    obtain⟨x',_,rfl⟩:=List.mem_map.1 hx
    obtain⟨y',_,rfl⟩:=List.mem_map.1 hy
    unfold BefK
    rw[Uf,if_pos (by rw[hp _ _ _ a ha,hp _ _ _ b hb];omega),hp _ _ _ a ha,hp _ _ _ b hb]
    simp;omega
theorem Xa5 (st:Int→ByteArray→Bool) (A:Int→Nat→Nat→List Dv) (c:Int) (i k:Nat) (hA:∀c u v,(A c u v).Pairwise BefD) (hp:∀c u v,∀x∈A c u v,x.2.unt=(v:Int)):∀(j:Nat) (rs:List RuleG),(X4 st A c i k j rs).Pairwise BefD
 | j,[]=>List.Pairwise.nil
 | j,r :: l=>by
  unfold X4
  rw[List.pairwise_append]
  refine⟨?_,Xa5 st A c i k hA hp (j+1) l,?_⟩
  ·split
   ·unfold Xaa
    rw[List.pairwise_map]
    refine(Qd st A hA hp r.parts.xs i k).imp fun {x y} h=>?_
    unfold BefD
    rw[Vv,if_neg (by simp),if_neg (by simp),if_neg (by simp)]
    exact h
   ·exact List.Pairwise.nil
  ·intro a ha b hb
   split at ha
   ·obtain⟨y,_,rfl⟩:=Z0.1 ha
    obtain⟨n,z,_,_,hb⟩:=Zi.1 hb
    obtain⟨y',_,rfl⟩:=Z0.1 hb
    unfold BefD
    rw[Vv,if_neg (by simp;omega),if_pos (by omega)]
    simp;omega
   ·cases ha
theorem Xdk (g:Gram) (items:List ItemG):∀(f:Nat) (c:Int) (i k:Nat),(derF g items f c i k).Pairwise BefD
 | 0,_,_,_=>List.Pairwise.nil
 | f+1,c,i,k=>by
  unfold derF
  rw[List.pairwise_append]
  refine⟨Xa3 _ _ _ _ _,Xa5 _ _ _ _ _ (fun c u v=>Xdk g items f c u v) (fun c u v x hx=>(Xbh hx).2) _ _,?_⟩
  intro a ha b hb
  obtain⟨n,y,_,_,_,_,rfl⟩:=Zf.1 ha
  obtain⟨n',z,_,_,hb⟩:=Zi.1 hb
  obtain⟨y',_,rfl⟩:=Z0.1 hb
  unfold BefD Zs
  rw[Vv,if_pos (by simp)]
  simp
theorem Xcu {g:Gram} {items:List ItemG} {f:Nat} {c:Int} {i k:Nat} {t x:Dv} (ht:Xv (derF g items f c i k)=some t) (hx:x∈derF g items f c i k) (he:x.1=t.1):Vb x.2 t.2=false:=by
 have hs:=Xdk g items f c i k
 generalize derF g items f c i k=l at *
 have key:∀l:List Dv,l.Pairwise BefD→∀t,Xv l=some t→∀x∈l,x.1=t.1→x=t∨Vb t.2 x.2=true:=by
  intro l
  induction l with
  | nil=>intro _ t _ x hx;cases hx
  | cons y l ih =>
   intro hs t ht x hx he
   rw[List.pairwise_cons] at hs
   rw[Yo] at ht
   cases hl:Xv l with
   | none =>
    rw[hl] at ht
    cases ht
    have:=Zv hl
    subst this
    simp at hx
    exact .inl hx
   | some z =>
    rw[hl,Xt] at ht
    split at ht
    ·cases ht
     rcases List.mem_cons.1 hx with rfl|hx
     ·omega
     ·exact ih hs.2 _ hl x hx he
    ·cases ht
     rcases List.mem_cons.1 hx with rfl|hx
     ·exact .inl rfl
     ·exact .inr (hs.1 x hx)
 rcases key l hs t ht x hx he with rfl|h
 ·exact Qw _
 ·exact T4 _ _ h
/-! ### trees that are derivations -/
theorem TreeV.ind {P:TreeV→Prop} (h:∀r j i k l,(∀t∈l,P t)→P (.node r j i k l)):∀t,P t :=
 fun t=>TreeV.rec (motive_1:=P) (motive_2:=fun l=>∀t∈l,P t) (fun r j i k l hl=>h r j i k l hl) (fun _ ht=>by cases ht) (fun x l hx hl t ht=>by
  rcases List.mem_cons.1 ht with rfl|ht
  ·exact hx
  ·exact hl t ht) t
theorem Xg5 {α β γ:Type} {f:α→β→γ} {l:List (Int×α)} {m:List (Int×β)} {x:Int×γ}:x∈Y7 f l m↔∃a∈l,∃b∈m,x=(a.1+b.1,f a.2 b.2):=by
 unfold Y7
 rw[List.mem_flatMap]
 constructor
 ·rintro⟨a,ha,h⟩
  obtain⟨b,hb,rfl⟩:=List.mem_map.1 h
  exact⟨a,ha,b,hb,rfl⟩
 ·rintro⟨a,ha,b,hb,rfl⟩
  exact⟨a,ha,List.mem_map.2 ⟨b,hb,rfl⟩⟩
theorem V0 {st:Int→ByteArray→Bool} {A:Int→Nat→Nat→List Dv} {p:PartG} {ps:List PartG} {i k:Nat} {x:Dk} (hp:p.text.size≠0):x∈Ye st A (p :: ps) i k↔i<k∧st i p.text=true∧x∈Ye st A ps (i+1) k:=by
 rw[Ye,if_pos hp]
 constructor
 ·intro h
  split at h
  ·rename_i hc;exact⟨hc.1,hc.2,h⟩
  ·cases h
 ·rintro⟨h1,h2,h3⟩
  rw[if_pos ⟨h1,h2⟩];exact h3
theorem Uy {st:Int→ByteArray→Bool} {A:Int→Nat→Nat→List Dv} {p:PartG} {ps:List PartG} {i k:Nat} {x:Dk} (hp:p.text.size=0):x∈Ye st A (p :: ps) i k↔∃m,i<m∧m≤k∧∃a∈A p.no i m,∃b∈Ye st A ps m k,x=(a.1+b.1,a.2 :: b.2):=by
 rw[Ye,if_neg (by simpa using hp),List.mem_flatMap]
 constructor
 ·rintro⟨m,hm,h⟩
  rw[List.mem_range'_1] at hm
  exact⟨m,by omega,by omega,Xg5.1 h⟩
 ·rintro⟨m,h1,h2,h⟩
  exact⟨m,by rw[List.mem_range'_1];omega,Xg5.2 h⟩
theorem Vz {st:Int→ByteArray→Bool} {A:Int→Nat→Nat→List Dv} {i k:Nat} {x:Dk}:x∈Ye st A [] i k↔i=k∧x=(0,[]):=by
 unfold Ye
 split
 ·rename_i h;simp[h]
 ·rename_i h;simp[h]
theorem Xbn {st:Int→ByteArray→Bool} {A:Int→Nat→Nat→List Dv} {ps:List PartG} {i k:Nat} {x:Dk} (h:x∈Ye st A ps i k):i+ps.length≤k:=by
 rcases Nat.lt_or_ge k (i+ps.length) with h1|h1
 ·rw[Ve st A ps i k h1] at h;cases h
 ·exact h1
theorem U7 {st:Int→ByteArray→Bool} {p:PartG} (hp:p.text.size≠0) (ps:List PartG) (ks:List KidV) (i k c:Int):Z8 st (p :: ps) ks i k c=if i<k∧st i p.text=true then Z8 st ps ks (i+1) k c else (0,false):=by
 simp only[Z8];rw[if_pos hp]
theorem Xbr {st:Int→ByteArray→Bool} {p:PartG} (hp:¬p.text.size≠0) (ps:List PartG) (i k c:Int):Z8 st (p :: ps) [] i k c=(0,false):=by
 simp only[Z8];rw[if_neg hp]
theorem U1 {st:Int→ByteArray→Bool} {p:PartG} (hp:¬p.text.size≠0) (ps:List PartG) (x:KidV) (ks:List KidV) (i k c:Int):Z8 st (p :: ps) (x :: ks) i k c=if x.1=i then (if (x.2.2 p.no).2 then Z8 st ps ks x.2.1 k (c+(x.2.2 p.no).1) else (0,false)) else (0,false):=by
 simp only[Z8];rw[if_neg hp]
structure Zq (n:Nat) (m:Nat) (items:List ItemG):Prop where
 place:∀x∈items,0≤x.frm∧x.frm<x.unt∧x.unt≤n
 cost:∀x∈items,0≤x.cost∧x.cost≤1000
 cat:∀x∈items, -1≤x.cat∧x.cat<m
theorem Xck {n m:Nat} {items:List ItemG} (hi:Zq n m items) {i:Int} {s:ByteArray} (h:Xn items i s=true):0≤i∧i<n:=by
 unfold Xn at h
 obtain⟨x,hx,h⟩:=List.any_eq_true.1 h
 simp only[Bool.and_eq_true,decide_eq_true_eq] at h
 have:=hi.place x hx
 omega
section
variable {g:Gram} {items:List ItemG}
def Xj0 (g:Gram) (items:List ItemG) (n:Nat) (t:TreeV):Prop :=
 ∀c cost,X6 g items t c=(cost,true)→∃i k:Nat,t.frm=i∧t.unt=k∧i<k∧k≤n∧(cost,t)∈derG g items c i k
theorem Xfd {n m:Nat} (hi:Zq n m items):∀(ps:List PartG) (kids:List TreeV) (i:Nat) (k c0 c:Int),(∀t∈kids,Xj0 g items n t)→i≤n →
  Z8 (Xn items) ps (Yl g items kids) i k c0=(c,true)→∃k':Nat,k=k'∧k'≤n∧(c-c0,kids)∈Ye (Xn items) (derG g items) ps i k'
 | [],kids,i,k,c0,c,hk,hn,h=>by
  unfold Z8 at h
  simp only[Prod.mk.injEq,Bool.and_eq_true,decide_eq_true_eq] at h
  obtain⟨rfl,h1,h2⟩:=h
  refine⟨i,h2.symm,hn,Vz.2 ⟨rfl,?_⟩⟩
  cases kids with
  | nil=>simp
  | cons t l=>simp[Yl] at h1
 | p :: ps,kids,i,k,c0,c,hk,hn,h=>by
  by_cases hp:p.text.size≠0
  ·rw[U7 hp] at h
   split at h
   ·rename_i hc
    have h1:=Xck hi hc.2
    obtain⟨k',h2,h3,h4⟩:=Xfd hi ps kids (i+1) k c0 c hk (by omega) (by exact_mod_cast h)
    exact⟨k',h2,h3,(V0 hp).2 ⟨by omega,hc.2,h4⟩⟩
   ·simp at h
  ·have hp0:p.text.size=0:=by simpa using hp
   cases kids with
   | nil=>rw[Yl,Xbr hp] at h;simp at h
   | cons t l =>
    rw[Yl,U1 hp] at h
    simp only at h
    split at h
    ·rename_i hf
     split at h
     ·rename_i ht
      obtain⟨u,v,h1,h2,h3,h4,h5⟩:=hk t (List.mem_cons_self ..) p.no (X6 g items t p.no).1 (by rw[← ht])
      rw[h2] at h
      obtain⟨k',h6,h7,h8⟩:=Xfd hi ps l v k _ c (fun y hy=>hk y (List.mem_cons_of_mem _ hy)) h4 h
      have hu:u=i:=by omega
      subst hu
      have:=Xbn h8
      exact⟨k',h6,h7,(Uy hp0).2 ⟨v,h3,by omega,_,h5,_,h8,by simp;omega⟩⟩
     ·simp at h
    ·simp at h
theorem Xkw {n m:Nat} (hi:Zq n m items) {ps:List PartG} (h0:ps≠[]) {kids:List TreeV} {i k c0 c:Int} (hk:∀t∈kids,Xj0 g items n t) (h:Z8 (Xn items) ps (Yl g items kids) i k c0=(c,true)):∃i':Nat,i=i'∧i'≤n:=by
 cases ps with
 | nil=>exact absurd rfl h0
 | cons p ps =>
  by_cases hp:p.text.size≠0
  ·rw[U7 hp] at h
   split at h
   ·rename_i hc
    have h1:=Xck hi hc.2
    exact⟨i.toNat,by omega,by omega⟩
   ·simp at h
  ·cases kids with
   | nil=>rw[Yl,Xbr hp] at h;simp at h
   | cons t l =>
    rw[Yl,U1 hp] at h
    simp only at h
    split at h
    ·rename_i hf
     split at h
     ·rename_i ht
      obtain⟨u,v,h1,h2,h3,h4,h5⟩:=hk t (List.mem_cons_self ..) p.no (X6 g items t p.no).1 (by rw[← ht])
      exact⟨u,by omega,by omega⟩
     ·simp at h
    ·simp at h
theorem Xgs {n m:Nat} (hg:Yu g) (hi:Zq n m items):∀t,Xj0 g items n t :=
 TreeV.ind fun r j i k l ih c cost h=>by
  rw[X6] at h
  split at h
  ·rename_i hr
   split at h
   ·simp at h
   rename_i hj
   split at h
   ·rename_i x hx
    simp only[Prod.mk.injEq,Bool.and_eq_true,decide_eq_true_eq] at h
    obtain⟨rfl,⟨h1,h2⟩,h3⟩:=h
    have hp:=hi.place x (List.mem_of_getElem? hx)
    have hl:l=[]:=by
     cases l with
     | nil=>rfl
     | cons t l=>simp at hj
    refine⟨i.toNat,k.toNat,by simp;omega,by simp;omega,by omega,by omega,?_⟩
    rw[Xd9 hg]
    refine List.mem_append_left _ (Zf.2 ⟨j.toNat,x,hx,h1,by omega,by omega,?_⟩)
    subst hl hr
    unfold Zs
    congr 2<;>omega
   ·simp at h
  ·split at h
   ·simp at h
   rename_i hj
   split at h
   ·simp at h
   ·rename_i x hx
    split at h
    ·rename_i hc
     have hxm:=List.mem_of_getElem? hx
     have h1:=hg.rule x hxm
     have hne:x.parts.xs≠[]:=fun e=>by rw[e] at h1;simp at h1
     obtain⟨i',h2,h3⟩:=Xkw hi hne ih h
     rw[h2] at h
     obtain⟨k',h4,h5,h6⟩:=Xfd hi x.parts.xs l i' k x.cost cost ih h3 h
     have:=Xbn h6
     refine⟨i',k',by simpa using h2,by simpa using h4,by omega,h5,?_⟩
     rw[Xd9 hg]
     refine List.mem_append_right _ (Zi.2 ⟨r.toNat,x,hx,hc,Z0.2 ⟨_,h6,?_⟩⟩)
     rw[h2,h4]
     have e1:j = -1:=by omega
     have e2:((0+r.toNat:Nat):Int)=r:=by omega
     rw[e2,e1]
     congr 1;simp;omega
    ·simp at h
theorem Q4 {A:Int→Nat→Nat→List Dv}:∀(ps:List PartG) (i k:Nat) (c0:Int) (x:Dk),(∀c i k,∀y∈A c i k,y.2.frm=(i:Int)∧y.2.unt=(k:Int)∧X6 g items y.2 c=(y.1,true))→x∈Ye (Xn items) A ps i k→Z8 (Xn items) ps (Yl g items x.2) i k c0=(c0+x.1,true)
 | [],i,k,c0,x,hA,h=>by
  obtain⟨rfl,rfl⟩:=Vz.1 h
  simp[Z8,Yl]
 | p :: ps,i,k,c0,x,hA,h=>by
  by_cases hp:p.text.size≠0
  ·obtain⟨h1,h2,h3⟩:=(V0 hp).1 h
   rw[U7 hp,if_pos ⟨by omega,h2⟩]
   have:=Q4 ps (i+1) k c0 x hA h3
   exact_mod_cast this
  ·have hp0:p.text.size=0:=by simpa using hp
   obtain⟨m,h1,h2,a,ha,b,hb,rfl⟩:=(Uy hp0).1 h
   obtain⟨h3,h4,h5⟩:=hA _ _ _ a ha
   rw[Yl,U1 hp]
   simp only
   rw[if_pos h3,h5,h4]
   simp only[if_true]
   rw[Q4 ps m k (c0+a.1) b hA hb,Int.add_assoc]
theorem Xb5:∀(f:Nat) (c:Int) (i k:Nat) (x:Dv),x∈derF g items f c i k→x.2.frm=(i:Int)∧x.2.unt=(k:Int)∧X6 g items x.2 c=(x.1,true)
 | 0,_,_,_,_,h=>by cases h
 | f+1,c,i,k,x,h=>by
  refine⟨(Xbh h).1,(Xbh h).2,?_⟩
  unfold derF at h
  rcases List.mem_append.1 h with h|h
  ·obtain⟨n,y,h1,h2,h3,h4,rfl⟩:=Zf.1 h
   unfold Zs
   rw[X6]
   have hn:n<items.length:=(List.getElem?_eq_some_iff.1 h1).1
   rw[if_pos rfl,if_neg (by simp;omega)]
   have e:((0+n:Nat):Int).toNat=n:=by omega
   rw[e,h1]
   simp[h2,h3,h4]
  ·obtain⟨n,r,h1,h2,h⟩:=Zi.1 h
   obtain⟨y,hy,rfl⟩:=Z0.1 h
   rw[X6]
   have hn:n<g.rules.xs.length:=(List.getElem?_eq_some_iff.1 h1).1
   have e:((0+n:Nat):Int).toNat=n:=by omega
   rw[if_neg (by omega),if_neg (by omega),e,h1]
   simp only
   rw[if_pos h2]
   exact Q4 r.parts.xs i k r.cost y (fun c i k z hz=>Xb5 f c i k z hz) hy
/-! ### how great, how dear -/
theorem Xbo {st:Int→ByteArray→Bool} {A:Int→Nat→Nat→List Dv} (N:Nat):∀(ps:List PartG) (i k:Nat) (x:Dk),(∀c u v,∀y∈A c u v,u<v→X5 y.2≤(2*(v-u)-1)*N)→x∈Ye st A ps i k→Xp x.2≤(2*(k-i)-ps.length)*N
 | [],i,k,x,hA,h=>by obtain⟨_,rfl⟩:=Vz.1 h;simp[Xp]
 | p :: ps,i,k,x,hA,h=>by
  by_cases hp:p.text.size≠0
  ·obtain⟨h1,h2,h3⟩:=(V0 hp).1 h
   refine Nat.le_trans (Xbo N ps (i+1) k x hA h3) (Nat.mul_le_mul_right _ ?_)
   rw[List.length_cons];omega
  ·obtain⟨m,h1,h2,a,ha,b,hb,rfl⟩:=(Uy (by simpa using hp)).1 h
   have h3:=hA _ _ _ a ha h1
   have h4:=Xbo N ps m k b hA hb
   have h5:=Xbn hb
   rw[Xp,List.length_cons]
   have e:2*(k-i)-(ps.length+1)=(2*(m-i)-1)+(2*(k-m)-ps.length):=by omega
   rw[e,Nat.add_mul]
   omega
theorem Xc1 {st:Int→ByteArray→Bool} {A:Int→Nat→Nat→List Dv}:∀(ps:List PartG) (i k:Nat) (x:Dk),(∀c u v,∀y∈A c u v,0≤y.1∧y.1≤1000*X5 y.2)→x∈Ye st A ps i k→0≤x.1∧x.1≤1000*Xp x.2
 | [],i,k,x,hA,h=>by obtain⟨_,rfl⟩:=Vz.1 h;simp[Xp]
 | p :: ps,i,k,x,hA,h=>by
  by_cases hp:p.text.size≠0
  ·obtain⟨h1,h2,h3⟩:=(V0 hp).1 h
   exact Xc1 ps (i+1) k x hA h3
  ·obtain⟨m,h1,h2,a,ha,b,hb,rfl⟩:=(Uy (by simpa using hp)).1 h
   have h3:=hA _ _ _ a ha
   have h4:=Xc1 ps m k b hA hb
   rw[Xp]
   simp only
   omega
theorem Xey (hg:Yu g) {n m:Nat} (hi:Zq n m items):∀(f:Nat) (c:Int) (i k:Nat) (x:Dv),x∈derF g items f c i k→0≤x.1∧x.1≤1000*X5 x.2
 | 0,_,_,_,_,h=>by cases h
 | f+1,c,i,k,x,h=>by
  unfold derF at h
  rcases List.mem_append.1 h with h|h
  ·obtain⟨n,y,h1,h2,h3,h4,rfl⟩:=Zf.1 h
   have:=hi.cost y (List.mem_of_getElem? h1)
   simp[Zs,X5,Xp];omega
  ·obtain⟨n,r,h1,h2,h⟩:=Zi.1 h
   obtain⟨y,hy,rfl⟩:=Z0.1 h
   have h3:=hg.rule r (List.mem_of_getElem? h1)
   have h4:=Xc1 r.parts.xs i k y (fun c u v z hz=>Xey hg hi f c u v z hz) hy
   rw[X5]
   simp only
   omega
theorem Xap (hg:Yu g):∀(f:Nat) (c:Int) (i k:Nat) (x:Dv),x∈derF g items f c i k→i<k→X5 x.2≤(2*(k-i)-2)*g.cats.xs.length+1+Vu g c
 | 0,_,_,_,_,h,_=>by cases h
 | f+1,c,i,k,x,h,hik=>by
  unfold derF at h
  rcases List.mem_append.1 h with h|h
  ·obtain⟨n,y,h1,h2,h3,h4,rfl⟩:=Zf.1 h
   simp[Zs,X5,Xp];omega
  ·obtain⟨n,r,h1,h2,h⟩:=Zi.1 h
   obtain⟨y,hy,rfl⟩:=Z0.1 h
   have hr:=List.mem_of_getElem? h1
   have h3:=hg.rule r hr
   rw[X5]
   have hlt:∀c,Vu g c+1≤g.cats.xs.length:=by
    intro c
    unfold Vu
    split
    ·rename_i a ha
     have h5:=hg.circ a (List.mem_of_getElem? ha)
     have h6:=Tv g.rules.xs a g.cats.xs.length
     have h7:=U9 g.rules.xs a g.cats.xs.length
     rcases Nat.lt_or_ge (Z9 g.rules.xs a g.cats.xs.length) g.cats.xs.length with h|h
     ·omega
     ·rw[show Z9 g.rules.xs a g.cats.xs.length=g.cats.xs.length by omega,h5] at h7;cases h7
    ·have:=hg.start;omega
   have hA:∀c u v,∀y∈derF g items f c u v,u<v→X5 y.2≤(2*(v-u)-1)*g.cats.xs.length:=by
    intro c u v y hy huv
    have h4:=Xap hg f c u v y hy huv
    have h5:=hlt c
    rw[show 2*(v-u)-1=(2*(v-u)-2)+1 by omega,Nat.add_mul]
    omega
   by_cases hs:r.parts.xs.length=1
   ·obtain⟨p,hp⟩:=List.length_eq_one_iff.1 hs
    rw[hp] at hy
    by_cases ht:p.text.size≠0
    ·obtain⟨h4,h5,h6⟩:=(V0 ht).1 hy
     obtain⟨_,rfl⟩:=Vz.1 h6
     simp[Xp];omega
    ·obtain⟨m,h4,h5,a,ha,b,hb,rfl⟩:=(Uy (by simpa using ht)).1 hy
     obtain⟨rfl,rfl⟩:=Vz.1 hb
     have h6:=Xap hg f p.no i m a ha h4
     have h7:=Xfi hg hr hp (by simpa using ht)
     rw[h2] at h7
     simp only[Xp]
     omega
   ·have h4:=Xbo g.cats.xs.length r.parts.xs i k y hA hy
    have h5:(2*(k-i)-r.parts.xs.length)*g.cats.xs.length≤(2*(k-i)-2)*g.cats.xs.length:=Nat.mul_le_mul_right _ (by omega)
    omega
end
/-! ### arguments that are right -/
def Zn (g:Gram) (n:Int) (x:ItemG):Bool :=
 decide (0≤x.frm) && decide (x.frm<x.unt) && decide (x.unt≤n) && (decide (-1≤x.term) && decide (x.term≤1048576)) && (decide (1≤x.tgt.xs.length) && decide (x.tgt.xs.length≤4)) && x.tgt.xs.all Yi &&
  (if x.cat = -1 then decide (x.unt=x.frm+1) && decide (x.cost=0) && decide (x.tgt.xs.length=1) else (decide (0≤x.cat) && decide (x.cat<g.cats.xs.length)) && (decide (0≤x.cost) && decide (x.cost≤1000)))
def errC (g:Gram) (items:List ItemG) (n:Int):Int :=
 if Ys g≠0 then Ys g else if n<1∨16<n then 1 else if 16384<items.length then 2 else if items.all (Zn g n) then 0 else 280
structure T0 (g:Gram) (items:List ItemG) (n:Int):Prop where
 check:Ys g=0
 gram:Yu g
 n1:1≤n
 n16:n≤16
 few:items.length≤16384
 right:∀x∈items,Zn g n x=true
 items:Zq n.toNat g.cats.xs.length items
theorem Ur {g:Gram} {n:Int} {x:ItemG} (h:Zn g n x=true):0≤x.frm∧x.frm<x.unt∧x.unt≤n∧0≤x.cost∧x.cost≤1000 ∧ -1≤x.cat∧(x.cat<g.cats.xs.length∨x.cat = -1)∧1≤x.tgt.xs.length:=by
 unfold Zn at h
 simp only[Bool.and_eq_true,decide_eq_true_eq] at h
 obtain⟨⟨⟨⟨⟨⟨a1,a2⟩,a3⟩,a4⟩,a5⟩,a6⟩,a7⟩:=h
 split at a7
 ·rename_i hc
  simp only[Bool.and_eq_true,decide_eq_true_eq] at a7
  refine⟨a1,a2,a3,by omega,by omega,by omega,.inr hc,a5.1⟩
 ·simp only[Bool.and_eq_true,decide_eq_true_eq] at a7
  refine⟨a1,a2,a3,a7.2.1,a7.2.2,by omega,.inl a7.1.2,a5.1⟩
theorem Vx {g:Gram} {items:List ItemG} {n:Int} (h:errC g items n=0):T0 g items n:=by
 unfold errC at h
 split at h
 ·rename_i h1;exact absurd h h1
 rename_i h1
 split at h
 ·cases h
 rename_i h2
 split at h
 ·cases h
 rename_i h3
 split at h
 ·rename_i h4
  have hc:Ys g=0:=Decidable.not_not.1 h1
  have hg:=Xgn hc
  rw[List.all_eq_true] at h4
  have hst:=hg.start
  refine⟨hc,hg,by omega,by omega,by omega,h4,⟨fun x hx=>?_,fun x hx=>?_,fun x hx=>?_⟩⟩
  ·have:=Ur (h4 x hx);omega
  ·have:=Ur (h4 x hx);omega
  ·have:=Ur (h4 x hx);omega
 ·cases h
theorem Xhq {g:Gram} {items:List ItemG} {n:Int} (h:T0 g items n):errC g items n=0:=by
 unfold errC
 have h1:=h.n1
 have h2:=h.n16
 have h3:=h.few
 rw[if_neg (fun hn=>hn h.check),if_neg (by omega),if_neg (by omega),if_pos (List.all_eq_true.2 h.right)]
/-! ### what is answered -/
def Ul:TreeV:=.node 0 0 0 0 []
def Xdi (g:Gram) (items:List ItemG) (n:Int):Option Dv:=Xv (derG g items g.startNo 0 n.toNat)
def bigN:Nat:=1099511627776
def Xp6 (g:Gram) (items:List ItemG) (n:Int):Nat:=capN bigN (derG g items g.startNo 0 n.toNat).length
def Zj (g:Gram) (items:List ItemG) (n:Int):TreeV×Int×Bool×Int :=
 if errC g items n≠0 then (Ul,0,false,errC g items n) else match Xdi g items n with|none=>(Ul,0,false,0)|some x=>(x.2,x.1,true,0)
def Vw (g:Gram) (items:List ItemG) (n:Int):Int×Int :=
 if errC g items n≠0 then (0,errC g items n) else if bigN<Xp6 g items n then (0,2) else (Xp6 g items n,0)
def Vt (g:Gram) (items:List ItemG) (n:Int) (t:TreeV):Int×Bool×Int :=
 if errC g items n≠0 then (0,false,errC g items n) else if 1024<X5 t then (0,false,2)
 else if (X6 g items t g.startNo).2=false∨t.frm≠0∨t.unt≠n then (0,false,0) else ((X6 g items t g.startNo).1,true,0)
section
variable {g:Gram} {items:List ItemG} {n:Int}
theorem Xgl (h:T0 g items n) {x:Dv} (hb:Xdi g items n=some x):X6 g items x.2 g.startNo=(x.1,true)∧x.2.frm=0∧x.2.unt=n∧X5 x.2≤(2*n.toNat-1)*g.cats.xs.length:=by
 have hm:=(Zu hb).1
 obtain⟨h1,h2,h3⟩:=Xb5 _ _ _ _ _ hm
 have h4:=h.n1
 have h5:=Xap h.gram _ _ _ _ _ hm (by omega)
 refine⟨h3,by simpa using h1,by rw[h2];omega,?_⟩
 have h6:Vu g g.startNo+1≤g.cats.xs.length:=by
  unfold Vu
  split
  ·rename_i a ha
   have h7:=h.gram.circ a (List.mem_of_getElem? ha)
   have h8:=Tv g.rules.xs a g.cats.xs.length
   have h9:=U9 g.rules.xs a g.cats.xs.length
   rcases Nat.lt_or_ge (Z9 g.rules.xs a g.cats.xs.length) g.cats.xs.length with h|h
   ·omega
   ·rw[show Z9 g.rules.xs a g.cats.xs.length=g.cats.xs.length by omega,h7] at h9;cases h9
  ·have:=h.gram.start;omega
 rw[show 2*n.toNat-1=(2*(n.toNat-0)-2)+1 by omega,Nat.add_mul]
 omega
theorem Xoc (h:T0 g items n) {t:TreeV} {c:Int} (hc:Vt g items n t=(c,true,0)):(c,t)∈derG g items g.startNo 0 n.toNat:=by
 unfold Vt at hc
 rw[if_neg (fun hn=>hn (Xhq h))] at hc
 split at hc
 ·simp at hc
 split at hc
 ·simp at hc
 ·rename_i h2
  simp only[not_or,Decidable.not_not,Bool.not_eq_false] at h2
  simp only[Prod.mk.injEq,and_true,true_and] at hc
  obtain⟨i,k,h3,h4,h5,h6,h7⟩:=Xgs h.gram h.items t g.startNo c (by rw[← hc,← h2.1])
  have e1:i=0:=by omega
  have e2:k=n.toNat:=by have:=h2.2.2;omega
  rw[e1,e2] at h7
  exact h7
theorem Xrr (h:T0 g items n) {t:TreeV} {c:Int} (hc:Vt g items n t=(c,true,0)):∃x,Xdi g items n=some x∧x.1≤c∧(c=x.1→Vb t x.2=false):=by
 have hm:=Xoc h hc
 cases hb:Xdi g items n with
 | none =>
  have:=Zv hb
  rw[this] at hm;cases hm
 | some x =>
  refine⟨x,rfl,(Zu hb).2 _ hm,fun e=>?_⟩
  exact Xcu hb hm e
theorem Xr8 (h:T0 g items n) (h6:g.cats.xs.length≤6) (h7:n≤7) {x:Dv} (hb:Xdi g items n=some x):Vt g items n x.2=(x.1,true,0):=by
 obtain⟨h1,h2,h3,h4⟩:=Xgl h hb
 unfold Vt
 have h5:(2*n.toNat-1)*g.cats.xs.length≤13*6:=Nat.mul_le_mul (by omega) h6
 rw[if_neg (fun hn=>hn (Xhq h)),if_neg (by omega),h1,if_neg (by rw[h2,h3];simp)]
theorem Xsa (h:T0 g items n) (hn:1≤n):Vt g items n Ul=(0,false,0):=by
 unfold Vt
 rw[if_neg (fun hn=>hn (Xhq h)),if_neg (by simp[Ul,X5,Xp]),if_pos]
 right;right
 simp[Ul];omega
end
end Go.Proofs.YthojaplnimoacaaGreatDoor
namespace Go.Proofs.YthojaplnimoacaaGreatDoor
open Go.RowKit Go.Han
attribute [local irreducible] wpStill wpQuiet
set_option maxRecDepth 100000
theorem ItemG.size_cells (x:ItemG):x.cells.length=6:=rfl
structure ItemsAt (w:World) (its:SlS ItemG):Prop where
 lies:its.lies ItemG.cells w
 tgt:∀x∈its.xs,x.tgt.lies w
theorem ItemsAt.ext {w w':World} {its:SlS ItemG} (h:ItemsAt w its) (hb:Below w.heap.size w w'):ItemsAt w' its:=⟨h.lies.ext hb,fun x hx=>StrS.lies.ext (h.tgt x hx) hb⟩
end Go.Proofs.YthojaplnimoacaaGreatDoor
namespace Go.Proofs.YthojaplnimoacaaGreatDoor
open Go.RowKit Go.Han
attribute [local irreducible] wpStill wpQuiet
end Go.Proofs.YthojaplnimoacaaGreatDoor
/- Rows of cells: copy, append of zero values, clear, at elements of any number of cells. No program in sight. -/
namespace Go.Han
open Go.RowKit
def Row (w:World) (g t:Nat) (cur:List Value):Prop:=w.heap[g]? = some (.cells cur.toArray t (0,0))
theorem Row.lt {w:World} {g t:Nat} {cur:List Value} (h:Row w g t cur):g<w.heap.size:=Xc h
theorem Row.cell {w:World} {g t:Nat} {cur:List Value} (h:Row w g t cur) (j:Nat):w.cell? ⟨g,j,none⟩=cur[j]? := by
 unfold Row at h
 simp[World.cell?,h]
theorem Row.frozen {w:World} {g t:Nat} {cur:List Value} (h:Row w g t cur) (j:Nat):w.frozen? ⟨g,j,none⟩=false:=by
 unfold Row at h
 simp[World.frozen?,h]
theorem Row.ext {w w':World} {g t:Nat} {cur:List Value} (h:Row w g t cur) (hb:Below w.heap.size w w'):Row w' g t cur:=(hb.block g h.lt).trans h
theorem Row.far {w w':World} {g t:Nat} {cur:List Value} (h:Row w g t cur) {row:Option Nat} (hg:w.grownBy w' row) (hne:some g≠row):Row w' g t cur:=(hg.block g h.lt hne).trans h
theorem Row.drew {w:World} {g t:Nat} {cur:List Value} (h:Row w g t cur):Row w.drew g t cur:=h
theorem Row.rd {w:World} {g t:Nat} {cur:List Value} (h:Row w g t cur) (off:Nat) {xs:List Value} (hx:∀(j:Nat) (u:Value),xs[j]? = some u→cur[off+j]? = some u):Rd w (some ⟨g,off,none⟩) xs :=
 .inr ⟨g,off,rfl,h.lt,fun j u hu=>(h.cell _).trans (hx j u hu)⟩
section
variable {P:Program} (w:World)
end
end Go.Han
namespace Go.Proofs.YthojaplnimoacaaGreatDoor
open Go.RowKit Go.Han
end Go.Proofs.YthojaplnimoacaaGreatDoor
namespace Go.Proofs.YthojaplnimoacaaGreatDoor
open Go.RowKit Go.Han
attribute [local irreducible] wpStill wpQuiet
set_option maxRecDepth 100000
/-! ### plain -/
end Go.Proofs.YthojaplnimoacaaGreatDoor
