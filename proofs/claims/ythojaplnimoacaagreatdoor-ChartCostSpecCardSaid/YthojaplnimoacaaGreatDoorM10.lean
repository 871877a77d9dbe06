/- Texts of this claim, one after the other: ChaT, ChaU, ChaE, R29a, SrchT, Row, InsTerm, AddT. -/
import Derived.Test.YthojaplnimoacaaGreatDoorM9
import Derived.Test.YthojaplnimoacaaGreatDoorM2
import Derived.Test.YthojaplnimoacaaGreatDoorM4
import Derived.Test.YthojaplnimoacaaGreatDoorM3
import Derived.Test.YthojaplnimoacaaGreatDoorShelf
import Derived.Test.YthojaplnimoacaaGreatDoorM1
import Derived.Deep.LoopGhost
import Derived.Laws.CopyOwn
import Derived.Laws.CopyRow
import Derived.Deep.AppendLies
import Derived.Lib.AppendZerosOnto
import Derived.Lib.Overlaps
import Derived.StillTailTactics
import Derived.Lib.SliceRun
import Derived.Deep.RegionWith
namespace Go.Proofs.YthojaplnimoacaaGreatDoor
open Go.RowKit Go.Han
set_option maxRecDepth 100000
/-! ### trees -/
@[simp] def TreeV.rule:TreeV→Int | .node r _ _ _ _=>r
@[simp] def TreeV.item:TreeV→Int | .node _ j _ _ _=>j
@[simp] def TreeV.frm:TreeV→Int | .node _ _ i _ _=>i
@[simp] def TreeV.unt:TreeV→Int | .node _ _ _ k _=>k
@[simp] def TreeV.kids:TreeV→List TreeV | .node _ _ _ _ l=>l
mutual
def X5:TreeV→Nat
 | .node _ _ _ _ l=>1+Xp l
def Xp:List TreeV→Nat
 | []=>0
 | t :: l=>X5 t+Xp l
end
abbrev KidV:=Int×Int×(Int→Int×Bool)
def Z9 (st:Int→ByteArray→Bool):List PartG→List KidV→Int→Int→Int→Int×Bool
 | [],ks,i,k,c=>(c,decide (ks=[]) && decide (i=k))
 | p :: ps,ks,i,k,c =>
  if p.text.size≠0 then (if i<k∧st i p.text=true then Z9 st ps ks (i+1) k c else (0,false))
  else match ks with
   | []=>(0,false)
   | x :: ks'=>if x.1=i then (if (x.2.2 p.no).2 then Z9 st ps ks' x.2.1 k (c+(x.2.2 p.no).1) else (0,false)) else (0,false)
mutual
def X6 (g:Gram) (items:List ItemG):TreeV→Int→Int×Bool
 | .node r j i k kids,c =>
  if r = -1 then (if j<0∨(items.length:Int)≤j∨0<kids.length then (0,false) else match items[j.toNat]? with|some x=>(x.cost,decide (x.cat=c) && decide (x.frm=i) && decide (x.unt=k))|none=>(0,false))
  else if j ≠ -1∨r<0∨(g.rules.xs.length:Int)≤r then (0,false)
  else match g.rules.xs[r.toNat]? with
   | none=>(0,false)
   | some x=>if x.no=c then Z9 (Xm items) x.parts.xs (Yl g items kids) i k x.cost else (0,false)
def Yl (g:Gram) (items:List ItemG):List TreeV→List KidV
 | []=>[]
 | t :: l=>(t.frm,t.unt,X6 g items t) :: Yl g items l
end
mutual
def Xa9:TreeV→TreeV→Bool
 | .node r j i k l,t=>decide (r=t.rule) && decide (j=t.item) && decide (i=t.frm) && decide (k=t.unt) && Xah l t.kids
def Xah:List TreeV→List TreeV→Bool
 | [],[]=>true
 | x :: l,y :: m=>Xa9 x y && Xah l m
 | _,_=>false
end
mutual
def Vc:TreeV→TreeV→Bool
 | .node r j _ _ l,t =>
  if decide (r = -1)≠decide (t.rule = -1) then decide (r = -1)
  else if r≠t.rule then decide (r<t.rule)
  else if j≠t.item then decide (j<t.item)
  else Z5 l t.kids
def Z5:List TreeV→List TreeV→Bool
 | x :: l,y :: m=>if x.unt≠y.unt then decide (x.unt<y.unt) else if Xa9 x y then Z5 l m else Vc x y
 | _,_=>false
end
mutual
theorem U4:∀a b:TreeV,Xa9 a b=true↔a=b
 | .node r j i k l,.node r' j' i' k' l'=>by
  unfold Xa9
  show (decide (r=r') && decide (j=j') && decide (i=i') && decide (k=k') && Xah l l')=true↔_
  rw[Bool.and_eq_true,Xfu l l',TreeV.node.injEq]
  simp only[Bool.and_eq_true,decide_eq_true_eq]
  constructor
  ·rintro⟨⟨⟨⟨h1,h2⟩,h3⟩,h4⟩,h5⟩;exact⟨h1,h2,h3,h4,h5⟩
  ·rintro⟨h1,h2,h3,h4,h5⟩;exact⟨⟨⟨⟨h1,h2⟩,h3⟩,h4⟩,h5⟩
theorem Xfu:∀a b:List TreeV,Xah a b=true↔a=b
 | [],[]=>by simp[Xah]
 | [],y :: m=>by simp[Xah]
 | x :: l,[]=>by simp[Xah]
 | x :: l,y :: m=>by
  unfold Xah
  rw[Bool.and_eq_true,U4 x y,Xfu l m,List.cons.injEq]
end
theorem Vx (r j i k:Int) (l:List TreeV) (r' j' i' k':Int) (l':List TreeV):Vc (.node r j i k l) (.node r' j' i' k' l')=if decide (r = -1)≠decide (r' = -1) then decide (r = -1) else if r≠r' then decide (r<r') else if j≠j' then decide (j<j') else Z5 l l':=by
 unfold Vc;rfl
theorem Uh (x:TreeV) (l:List TreeV) (y:TreeV) (m:List TreeV):Z5 (x :: l) (y :: m)=if x.unt≠y.unt then decide (x.unt<y.unt) else if Xa9 x y=true then Z5 l m else Vc x y:=by
 rw[Z5]
mutual
theorem T7:∀a b:TreeV,Vc a b=true→Vc b a=false
 | .node r j i k l,.node r' j' i' k' l'=>by
  rw[Vx,Vx]
  have h:=Xa1 l l'
  by_cases h3:r=r'
  ·subst h3
   by_cases h4:j=j'
   ·subst h4;simpa using h
   ·have h5:¬j'=j:=fun e=>h4 e.symm
    simp[h4,h5];omega
  ·have h5:¬r'=r:=fun e=>h3 e.symm
   by_cases h1:r = -1
   ·have h2:¬r' = -1:=fun e=>h3 (h1.trans e.symm)
    simp[h1,h2]
   ·by_cases h2:r' = -1
    ·simp[h1,h2]
    ·simp[h1,h2,h3,h5];omega
theorem Xa1:∀a b:List TreeV,Z5 a b=true→Z5 b a=false
 | [],_=>by intro h;unfold Z5 at h;cases h
 | x :: l,[]=>by intro _;rfl
 | x :: l,y :: m=>by
  rw[Uh,Uh]
  have h1:=T7 x y
  have h2:=Xa1 l m
  by_cases hu:x.unt=y.unt
  ·by_cases hs:x=y
   ·subst hs
    have e:Xa9 x x=true:=(U4 x x).2 rfl
    simpa[e] using h2
   ·have e1:Xa9 x y=false:=by
     cases h:Xa9 x y
     ·rfl
     ·exact absurd ((U4 x y).1 h) hs
    have e2:Xa9 y x=false:=by
     cases h:Xa9 y x
     ·rfl
     ·exact absurd ((U4 y x).1 h).symm hs
    simp only[ne_eq,hu,not_true_eq_false,if_false,e1,e2,Bool.false_eq_true]
    exact h1
  ·have hu':¬y.unt=x.unt:=fun e=>hu e.symm
   simp only[ne_eq,hu,hu',not_false_eq_true,if_true,decide_eq_true_eq,decide_eq_false_iff_not]
   omega
end
theorem Qy (a:TreeV):Vc a a=false:=by
 cases h:Vc a a
 ·rfl
 ·rw[T7 a a h] at h;cases h
/-! ### the order of the derivations -/
theorem Zf {c i k:Int} {x:Dv}:∀ {j:Nat} {l:List ItemG},x∈Xq c i k j l↔∃(n:Nat) (y:ItemG),l[n]? = some y∧y.cat=c∧y.frm=i∧y.unt=k∧x=(y.cost,Zt (j+n) i k)
 | j,[]=>by simp[Xq]
 | j,y :: l=>by
  unfold Xq
  rw[List.mem_append,Zf (j:=j+1) (l:=l)]
  constructor
  ·rintro(h|⟨n,z,h1,h2,h3,h4,h5⟩)
   ·split at h
    ·rename_i hc
     exact⟨0,y,rfl,hc.1,hc.2.1,hc.2.2,by simpa using h⟩
    ·cases h
   ·exact⟨n+1,z,by simpa using h1,h2,h3,h4,by rw[h5];congr 2;omega⟩
  ·rintro⟨n,z,h1,h2,h3,h4,h5⟩
   cases n with
   | zero =>
    simp at h1;subst h1
    left
    rw[if_pos ⟨h2,h3,h4⟩];simpa using h5
   | succ n=>exact .inr ⟨n,z,by simpa using h1,h2,h3,h4,by rw[h5];congr 2;omega⟩
theorem Zi {st:Int→ByteArray→Bool} {A:Int→Nat→Nat→List Dv} {c:Int} {i k:Nat} {x:Dv}:∀ {j:Nat} {l:List RuleG},x∈X4 st A c i k j l↔∃(n:Nat) (r:RuleG),l[n]? = some r∧r.no=c∧x∈Xac st A (j+n) r i k
 | j,[]=>by simp[X4]
 | j,y :: l=>by
  unfold X4
  rw[List.mem_append,Zi (j:=j+1) (l:=l)]
  constructor
  ·rintro(h|⟨n,z,h1,h2,h3⟩)
   ·split at h
    ·rename_i hc
     exact⟨0,y,rfl,hc,h⟩
    ·cases h
   ·exact⟨n+1,z,by simpa using h1,h2,by rw[show j+(n+1)=j+1+n by omega];exact h3⟩
  ·rintro⟨n,z,h1,h2,h3⟩
   cases n with
   | zero =>
    simp at h1;subst h1
    left
    rw[if_pos h2];exact h3
   | succ n=>exact .inr ⟨n,z,by simpa using h1,h2,by rw[show j+1+n=j+(n+1) by omega];exact h3⟩
theorem Z1 {st:Int→ByteArray→Bool} {A:Int→Nat→Nat→List Dv} {j:Nat} {r:RuleG} {i k:Nat} {x:Dv}:x∈Xac st A j r i k↔∃y∈Ye st A r.parts.xs i k,x=(r.cost+y.1,.node j (-1) i k y.2):=by
 unfold Xac
 rw[List.mem_map]
 constructor
 ·rintro⟨y,h1,h2⟩;exact⟨y,h1,h2.symm⟩
 ·rintro⟨y,h1,h2⟩;exact⟨y,h1,h2.symm⟩
theorem Xbj {g:Gram} {items:List ItemG} {f:Nat} {c:Int} {i k:Nat} {x:Dv} (h:x∈derF g items f c i k):x.2.frm=i∧x.2.unt=k:=by
 cases f with
 | zero=>cases h
 | succ f =>
  unfold derF at h
  rcases List.mem_append.1 h with h|h
  ·obtain⟨n,y,_,_,_,_,rfl⟩:=Zf.1 h
   exact⟨rfl,rfl⟩
  ·obtain⟨n,r,_,_,h⟩:=Zi.1 h
   obtain⟨y,_,rfl⟩:=Z1.1 h
   exact⟨rfl,rfl⟩
def BefD (a b:Dv):Prop:=Vc a.2 b.2=true
def BefK (a b:Dk):Prop:=Z5 a.2 b.2=true
theorem Xa5 (c i k:Int):∀(j:Nat) (l:List ItemG),(Xq c i k j l).Pairwise BefD
 | j,[]=>List.Pairwise.nil
 | j,y :: l=>by
  unfold Xq
  rw[List.pairwise_append]
  refine⟨by split<;>simp,Xa5 c i k (j+1) l,?_⟩
  intro a ha b hb
  split at ha
  ·simp at ha;subst ha
   obtain⟨n,z,_,_,_,_,rfl⟩:=Zf.1 hb
   unfold BefD Zt
   rw[Vx,if_neg (by simp),if_neg (by simp),if_pos (by omega)]
   simp;omega
  ·cases ha
theorem Qg (st:Int→ByteArray→Bool) (A:Int→Nat→Nat→List Dv) (hA:∀c u v,(A c u v).Pairwise BefD) (hp:∀c u v,∀x∈A c u v,x.2.unt=(v:Int)):∀(ps:List PartG) (i k:Nat),(Ye st A ps i k).Pairwise BefK
 | [],i,k=>by unfold Ye;split<;>simp
 | p :: ps,i,k=>by
  unfold Ye
  split
  ·split
   ·exact Qg st A hA hp ps _ _
   ·exact List.Pairwise.nil
  ·rw[List.pairwise_flatMap]
   refine⟨fun m _=>?_,?_⟩
   ·unfold Y7
    rw[List.pairwise_flatMap]
    refine⟨fun a _=>?_,?_⟩
    ·rw[List.pairwise_map]
     refine(Qg st A hA hp ps m k).imp fun {x y} h=>?_
     unfold BefK
     rw[Uh,if_neg (by simp),if_pos ((U4 _ _).2 rfl)]
     exact h
    ·refine(List.Pairwise.and_mem.1 (hA p.no i m)).imp fun {a b} h=>?_
     obtain⟨ha,hb,h⟩:=h
     intro x hx y hy
     obtain⟨x',_,rfl⟩:=List.mem_map.1 hx
     obtain⟨y',_,rfl⟩:=List.mem_map.1 hy
     unfold BefK
     rw[Uh,if_neg (by rw[hp _ _ _ a ha,hp _ _ _ b hb];simp),if_neg]
     ·exact h
     ·intro hs
      have:=(U4 _ _).1 hs
      unfold BefD at h
      rw[this,Qy] at h;cases h
   ·refine(List.pairwise_lt_range' (s:=i+1) (n:=k-i)).imp fun {m m'} hlt=>?_
    intro x hx y hy
    unfold Y7 at hx hy
    obtain⟨a,ha,hx⟩:=List.mem_flatMap.1 hx
    obtain⟨b,hb,hy⟩:=List.mem_flatMap.1 hy
    obtain⟨x',_,rfl⟩:=List.mem_map.1 hx
    obtain⟨y',_,rfl⟩:=List.mem_map.1 hy
    unfold BefK
    rw[Uh,if_pos (by rw[hp _ _ _ a ha,hp _ _ _ b hb];omega),hp _ _ _ a ha,hp _ _ _ b hb]
    simp;omega
theorem Xa7 (st:Int→ByteArray→Bool) (A:Int→Nat→Nat→List Dv) (c:Int) (i k:Nat) (hA:∀c u v,(A c u v).Pairwise BefD) (hp:∀c u v,∀x∈A c u v,x.2.unt=(v:Int)):∀(j:Nat) (rs:List RuleG),(X4 st A c i k j rs).Pairwise BefD
 | j,[]=>List.Pairwise.nil
 | j,r :: l=>by
  unfold X4
  rw[List.pairwise_append]
  refine⟨?_,Xa7 st A c i k hA hp (j+1) l,?_⟩
  ·split
   ·unfold Xac
    rw[List.pairwise_map]
    refine(Qg st A hA hp r.parts.xs i k).imp fun {x y} h=>?_
    unfold BefD
    rw[Vx,if_neg (by simp),if_neg (by simp),if_neg (by simp)]
    exact h
   ·exact List.Pairwise.nil
  ·intro a ha b hb
   split at ha
   ·obtain⟨y,_,rfl⟩:=Z1.1 ha
    obtain⟨n,z,_,_,hb⟩:=Zi.1 hb
    obtain⟨y',_,rfl⟩:=Z1.1 hb
    unfold BefD
    rw[Vx,if_neg (by simp;omega),if_pos (by omega)]
    simp;omega
   ·cases ha
theorem Xdn (g:Gram) (items:List ItemG):∀(f:Nat) (c:Int) (i k:Nat),(derF g items f c i k).Pairwise BefD
 | 0,_,_,_=>List.Pairwise.nil
 | f+1,c,i,k=>by
  unfold derF
  rw[List.pairwise_append]
  refine⟨Xa5 _ _ _ _ _,Xa7 _ _ _ _ _ (fun c u v=>Xdn g items f c u v) (fun c u v x hx=>(Xbj hx).2) _ _,?_⟩
  intro a ha b hb
  obtain⟨n,y,_,_,_,_,rfl⟩:=Zf.1 ha
  obtain⟨n',z,_,_,hb⟩:=Zi.1 hb
  obtain⟨y',_,rfl⟩:=Z1.1 hb
  unfold BefD Zt
  rw[Vx,if_pos (by simp)]
  simp
theorem Xcx {g:Gram} {items:List ItemG} {f:Nat} {c:Int} {i k:Nat} {t x:Dv} (ht:Xv (derF g items f c i k)=some t) (hx:x∈derF g items f c i k) (he:x.1=t.1):Vc x.2 t.2=false:=by
 have hs:=Xdn g items f c i k
 generalize derF g items f c i k=l at *
 have key:∀l:List Dv,l.Pairwise BefD→∀t,Xv l=some t→∀x∈l,x.1=t.1→x=t∨Vc t.2 x.2=true:=by
  intro l
  induction l with
  | nil=>intro _ t _ x hx;cases hx
  | cons y l ih =>
   intro hs t ht x hx he
   rw[List.pairwise_cons] at hs
   rw[Yo] at ht
   cases hl:Xv l with
   | none =>
    rw[hl] at ht
    cases ht
    have:=Zw hl
    subst this
    simp at hx
    exact .inl hx
   | some z =>
    rw[hl,Xt] at ht
    split at ht
    ·cases ht
     rcases List.mem_cons.1 hx with rfl|hx
     ·omega
     ·exact ih hs.2 _ hl x hx he
    ·cases ht
     rcases List.mem_cons.1 hx with rfl|hx
     ·exact .inl rfl
     ·exact .inr (hs.1 x hx)
 rcases key l hs t ht x hx he with rfl|h
 ·exact Qy _
 ·exact T7 _ _ h
/-! ### trees that are derivations -/
theorem TreeV.ind {P:TreeV→Prop} (h:∀r j i k l,(∀t∈l,P t)→P (.node r j i k l)):∀t,P t :=
 fun t=>TreeV.rec (motive_1:=P) (motive_2:=fun l=>∀t∈l,P t) (fun r j i k l hl=>h r j i k l hl) (fun _ ht=>by cases ht) (fun x l hx hl t ht=>by
  rcases List.mem_cons.1 ht with rfl|ht
  ·exact hx
  ·exact hl t ht) t
theorem Xha {α β γ:Type} {f:α→β→γ} {l:List (Int×α)} {m:List (Int×β)} {x:Int×γ}:x∈Y7 f l m↔∃a∈l,∃b∈m,x=(a.1+b.1,f a.2 b.2):=by
 unfold Y7
 rw[List.mem_flatMap]
 constructor
 ·rintro⟨a,ha,h⟩
  obtain⟨b,hb,rfl⟩:=List.mem_map.1 h
  exact⟨a,ha,b,hb,rfl⟩
 ·rintro⟨a,ha,b,hb,rfl⟩
  exact⟨a,ha,List.mem_map.2 ⟨b,hb,rfl⟩⟩
theorem V8 {st:Int→ByteArray→Bool} {A:Int→Nat→Nat→List Dv} {p:PartG} {ps:List PartG} {i k:Nat} {x:Dk} (hp:p.text.size≠0):x∈Ye st A (p :: ps) i k↔i<k∧st i p.text=true∧x∈Ye st A ps (i+1) k:=by
 rw[Ye,if_pos hp]
 constructor
 ·intro h
  split at h
  ·rename_i hc;exact⟨hc.1,hc.2,h⟩
  ·cases h
 ·rintro⟨h1,h2,h3⟩
  rw[if_pos ⟨h1,h2⟩];exact h3
theorem U1 {st:Int→ByteArray→Bool} {A:Int→Nat→Nat→List Dv} {p:PartG} {ps:List PartG} {i k:Nat} {x:Dk} (hp:p.text.size=0):x∈Ye st A (p :: ps) i k↔∃m,i<m∧m≤k∧∃a∈A p.no i m,∃b∈Ye st A ps m k,x=(a.1+b.1,a.2 :: b.2):=by
 rw[Ye,if_neg (by simpa using hp),List.mem_flatMap]
 constructor
 ·rintro⟨m,hm,h⟩
  rw[List.mem_range'_1] at hm
  exact⟨m,by omega,by omega,Xha.1 h⟩
 ·rintro⟨m,h1,h2,h⟩
  exact⟨m,by rw[List.mem_range'_1];omega,Xha.2 h⟩
theorem V7 {st:Int→ByteArray→Bool} {A:Int→Nat→Nat→List Dv} {i k:Nat} {x:Dk}:x∈Ye st A [] i k↔i=k∧x=(0,[]):=by
 unfold Ye
 split
 ·rename_i h;simp[h]
 ·rename_i h;simp[h]
theorem Xbp {st:Int→ByteArray→Bool} {A:Int→Nat→Nat→List Dv} {ps:List PartG} {i k:Nat} {x:Dk} (h:x∈Ye st A ps i k):i+ps.length≤k:=by
 rcases Nat.lt_or_ge k (i+ps.length) with h1|h1
 ·rw[Vf st A ps i k h1] at h;cases h
 ·exact h1
theorem U9 {st:Int→ByteArray→Bool} {p:PartG} (hp:p.text.size≠0) (ps:List PartG) (ks:List KidV) (i k c:Int):Z9 st (p :: ps) ks i k c=if i<k∧st i p.text=true then Z9 st ps ks (i+1) k c else (0,false):=by
 simp only[Z9];rw[if_pos hp]
theorem Xbt {st:Int→ByteArray→Bool} {p:PartG} (hp:¬p.text.size≠0) (ps:List PartG) (i k c:Int):Z9 st (p :: ps) [] i k c=(0,false):=by
 simp only[Z9];rw[if_neg hp]
theorem U3 {st:Int→ByteArray→Bool} {p:PartG} (hp:¬p.text.size≠0) (ps:List PartG) (x:KidV) (ks:List KidV) (i k c:Int):Z9 st (p :: ps) (x :: ks) i k c=if x.1=i then (if (x.2.2 p.no).2 then Z9 st ps ks x.2.1 k (c+(x.2.2 p.no).1) else (0,false)) else (0,false):=by
 simp only[Z9];rw[if_neg hp]
structure Zr (n:Nat) (m:Nat) (items:List ItemG):Prop where
 place:∀x∈items,0≤x.frm∧x.frm<x.unt∧x.unt≤n
 cost:∀x∈items,0≤x.cost∧x.cost≤1000
 cat:∀x∈items, -1≤x.cat∧x.cat<m
theorem Xcn {n m:Nat} {items:List ItemG} (hi:Zr n m items) {i:Int} {s:ByteArray} (h:Xm items i s=true):0≤i∧i<n:=by
 unfold Xm at h
 obtain⟨x,hx,h⟩:=List.any_eq_true.1 h
 simp only[Bool.and_eq_true,decide_eq_true_eq] at h
 have:=hi.place x hx
 omega
section
variable {g:Gram} {items:List ItemG}
def Xj7 (g:Gram) (items:List ItemG) (n:Nat) (t:TreeV):Prop :=
 ∀c cost,X6 g items t c=(cost,true)→∃i k:Nat,t.frm=i∧t.unt=k∧i<k∧k≤n∧(cost,t)∈derG g items c i k
theorem Xfh {n m:Nat} (hi:Zr n m items):∀(ps:List PartG) (kids:List TreeV) (i:Nat) (k c0 c:Int),(∀t∈kids,Xj7 g items n t)→i≤n →
  Z9 (Xm items) ps (Yl g items kids) i k c0=(c,true)→∃k':Nat,k=k'∧k'≤n∧(c-c0,kids)∈Ye (Xm items) (derG g items) ps i k'
 | [],kids,i,k,c0,c,hk,hn,h=>by
  unfold Z9 at h
  simp only[Prod.mk.injEq,Bool.and_eq_true,decide_eq_true_eq] at h
  obtain⟨rfl,h1,h2⟩:=h
  refine⟨i,h2.symm,hn,V7.2 ⟨rfl,?_⟩⟩
  cases kids with
  | nil=>simp
  | cons t l=>simp[Yl] at h1
 | p :: ps,kids,i,k,c0,c,hk,hn,h=>by
  by_cases hp:p.text.size≠0
  ·rw[U9 hp] at h
   split at h
   ·rename_i hc
    have h1:=Xcn hi hc.2
    obtain⟨k',h2,h3,h4⟩:=Xfh hi ps kids (i+1) k c0 c hk (by omega) (by exact_mod_cast h)
    exact⟨k',h2,h3,(V8 hp).2 ⟨by omega,hc.2,h4⟩⟩
   ·simp at h
  ·have hp0:p.text.size=0:=by simpa using hp
   cases kids with
   | nil=>rw[Yl,Xbt hp] at h;simp at h
   | cons t l =>
    rw[Yl,U3 hp] at h
    simp only at h
    split at h
    ·rename_i hf
     split at h
     ·rename_i ht
      obtain⟨u,v,h1,h2,h3,h4,h5⟩:=hk t (List.mem_cons_self ..) p.no (X6 g items t p.no).1 (by rw[← ht])
      rw[h2] at h
      obtain⟨k',h6,h7,h8⟩:=Xfh hi ps l v k _ c (fun y hy=>hk y (List.mem_cons_of_mem _ hy)) h4 h
      have hu:u=i:=by omega
      subst hu
      have:=Xbp h8
      exact⟨k',h6,h7,(U1 hp0).2 ⟨v,h3,by omega,_,h5,_,h8,by simp;omega⟩⟩
     ·simp at h
    ·simp at h
theorem Xk3 {n m:Nat} (hi:Zr n m items) {ps:List PartG} (h0:ps≠[]) {kids:List TreeV} {i k c0 c:Int} (hk:∀t∈kids,Xj7 g items n t) (h:Z9 (Xm items) ps (Yl g items kids) i k c0=(c,true)):∃i':Nat,i=i'∧i'≤n:=by
 cases ps with
 | nil=>exact absurd rfl h0
 | cons p ps =>
  by_cases hp:p.text.size≠0
  ·rw[U9 hp] at h
   split at h
   ·rename_i hc
    have h1:=Xcn hi hc.2
    exact⟨i.toNat,by omega,by omega⟩
   ·simp at h
  ·cases kids with
   | nil=>rw[Yl,Xbt hp] at h;simp at h
   | cons t l =>
    rw[Yl,U3 hp] at h
    simp only at h
    split at h
    ·rename_i hf
     split at h
     ·rename_i ht
      obtain⟨u,v,h1,h2,h3,h4,h5⟩:=hk t (List.mem_cons_self ..) p.no (X6 g items t p.no).1 (by rw[← ht])
      exact⟨u,by omega,by omega⟩
     ·simp at h
    ·simp at h
theorem Xgx {n m:Nat} (hg:Yu g) (hi:Zr n m items):∀t,Xj7 g items n t :=
 TreeV.ind fun r j i k l ih c cost h=>by
  rw[X6] at h
  split at h
  ·rename_i hr
   split at h
   ·simp at h
   rename_i hj
   split at h
   ·rename_i x hx
    simp only[Prod.mk.injEq,Bool.and_eq_true,decide_eq_true_eq] at h
    obtain⟨rfl,⟨h1,h2⟩,h3⟩:=h
    have hp:=hi.place x (List.mem_of_getElem? hx)
    have hl:l=[]:=by
     cases l with
     | nil=>rfl
     | cons t l=>simp at hj
    refine⟨i.toNat,k.toNat,by simp;omega,by simp;omega,by omega,by omega,?_⟩
    rw[Xec hg]
    refine List.mem_append_left _ (Zf.2 ⟨j.toNat,x,hx,h1,by omega,by omega,?_⟩)
    subst hl hr
    unfold Zt
    congr 2<;>omega
   ·simp at h
  ·split at h
   ·simp at h
   rename_i hj
   split at h
   ·simp at h
   ·rename_i x hx
    split at h
    ·rename_i hc
     have hxm:=List.mem_of_getElem? hx
     have h1:=hg.rule x hxm
     have hne:x.parts.xs≠[]:=fun e=>by rw[e] at h1;simp at h1
     obtain⟨i',h2,h3⟩:=Xk3 hi hne ih h
     rw[h2] at h
     obtain⟨k',h4,h5,h6⟩:=Xfh hi x.parts.xs l i' k x.cost cost ih h3 h
     have:=Xbp h6
     refine⟨i',k',by simpa using h2,by simpa using h4,by omega,h5,?_⟩
     rw[Xec hg]
     refine List.mem_append_right _ (Zi.2 ⟨r.toNat,x,hx,hc,Z1.2 ⟨_,h6,?_⟩⟩)
     rw[h2,h4]
     have e1:j = -1:=by omega
     have e2:((0+r.toNat:Nat):Int)=r:=by omega
     rw[e2,e1]
     congr 1;simp;omega
    ·simp at h
theorem Q6 {A:Int→Nat→Nat→List Dv}:∀(ps:List PartG) (i k:Nat) (c0:Int) (x:Dk),(∀c i k,∀y∈A c i k,y.2.frm=(i:Int)∧y.2.unt=(k:Int)∧X6 g items y.2 c=(y.1,true))→x∈Ye (Xm items) A ps i k→Z9 (Xm items) ps (Yl g items x.2) i k c0=(c0+x.1,true)
 | [],i,k,c0,x,hA,h=>by
  obtain⟨rfl,rfl⟩:=V7.1 h
  simp[Z9,Yl]
 | p :: ps,i,k,c0,x,hA,h=>by
  by_cases hp:p.text.size≠0
  ·obtain⟨h1,h2,h3⟩:=(V8 hp).1 h
   rw[U9 hp,if_pos ⟨by omega,h2⟩]
   have:=Q6 ps (i+1) k c0 x hA h3
   exact_mod_cast this
  ·have hp0:p.text.size=0:=by simpa using hp
   obtain⟨m,h1,h2,a,ha,b,hb,rfl⟩:=(U1 hp0).1 h
   obtain⟨h3,h4,h5⟩:=hA _ _ _ a ha
   rw[Yl,U3 hp]
   simp only
   rw[if_pos h3,h5,h4]
   simp only[if_true]
   rw[Q6 ps m k (c0+a.1) b hA hb,Int.add_assoc]
theorem Xb7:∀(f:Nat) (c:Int) (i k:Nat) (x:Dv),x∈derF g items f c i k→x.2.frm=(i:Int)∧x.2.unt=(k:Int)∧X6 g items x.2 c=(x.1,true)
 | 0,_,_,_,_,h=>by cases h
 | f+1,c,i,k,x,h=>by
  refine⟨(Xbj h).1,(Xbj h).2,?_⟩
  unfold derF at h
  rcases List.mem_append.1 h with h|h
  ·obtain⟨n,y,h1,h2,h3,h4,rfl⟩:=Zf.1 h
   unfold Zt
   rw[X6]
   have hn:n<items.length:=(List.getElem?_eq_some_iff.1 h1).1
   rw[if_pos rfl,if_neg (by simp;omega)]
   have e:((0+n:Nat):Int).toNat=n:=by omega
   rw[e,h1]
   simp[h2,h3,h4]
  ·obtain⟨n,r,h1,h2,h⟩:=Zi.1 h
   obtain⟨y,hy,rfl⟩:=Z1.1 h
   rw[X6]
   have hn:n<g.rules.xs.length:=(List.getElem?_eq_some_iff.1 h1).1
   have e:((0+n:Nat):Int).toNat=n:=by omega
   rw[if_neg (by omega),if_neg (by omega),e,h1]
   simp only
   rw[if_pos h2]
   exact Q6 r.parts.xs i k r.cost y (fun c i k z hz=>Xb7 f c i k z hz) hy
/-! ### how great, how dear -/
theorem Xbq {st:Int→ByteArray→Bool} {A:Int→Nat→Nat→List Dv} (N:Nat):∀(ps:List PartG) (i k:Nat) (x:Dk),(∀c u v,∀y∈A c u v,u<v→X5 y.2≤(2*(v-u)-1)*N)→x∈Ye st A ps i k→Xp x.2≤(2*(k-i)-ps.length)*N
 | [],i,k,x,hA,h=>by obtain⟨_,rfl⟩:=V7.1 h;simp[Xp]
 | p :: ps,i,k,x,hA,h=>by
  by_cases hp:p.text.size≠0
  ·obtain⟨h1,h2,h3⟩:=(V8 hp).1 h
   refine Nat.le_trans (Xbq N ps (i+1) k x hA h3) (Nat.mul_le_mul_right _ ?_)
   rw[List.length_cons];omega
  ·obtain⟨m,h1,h2,a,ha,b,hb,rfl⟩:=(U1 (by simpa using hp)).1 h
   have h3:=hA _ _ _ a ha h1
   have h4:=Xbq N ps m k b hA hb
   have h5:=Xbp hb
   rw[Xp,List.length_cons]
   have e:2*(k-i)-(ps.length+1)=(2*(m-i)-1)+(2*(k-m)-ps.length):=by omega
   rw[e,Nat.add_mul]
   omega
theorem Xc4 {st:Int→ByteArray→Bool} {A:Int→Nat→Nat→List Dv}:∀(ps:List PartG) (i k:Nat) (x:Dk),(∀c u v,∀y∈A c u v,0≤y.1∧y.1≤1000*X5 y.2)→x∈Ye st A ps i k→0≤x.1∧x.1≤1000*Xp x.2
 | [],i,k,x,hA,h=>by obtain⟨_,rfl⟩:=V7.1 h;simp[Xp]
 | p :: ps,i,k,x,hA,h=>by
  by_cases hp:p.text.size≠0
  ·obtain⟨h1,h2,h3⟩:=(V8 hp).1 h
   exact Xc4 ps (i+1) k x hA h3
  ·obtain⟨m,h1,h2,a,ha,b,hb,rfl⟩:=(U1 (by simpa using hp)).1 h
   have h3:=hA _ _ _ a ha
   have h4:=Xc4 ps m k b hA hb
   rw[Xp]
   simp only
   omega
theorem Xe2 (hg:Yu g) {n m:Nat} (hi:Zr n m items):∀(f:Nat) (c:Int) (i k:Nat) (x:Dv),x∈derF g items f c i k→0≤x.1∧x.1≤1000*X5 x.2
 | 0,_,_,_,_,h=>by cases h
 | f+1,c,i,k,x,h=>by
  unfold derF at h
  rcases List.mem_append.1 h with h|h
  ·obtain⟨n,y,h1,h2,h3,h4,rfl⟩:=Zf.1 h
   have:=hi.cost y (List.mem_of_getElem? h1)
   simp[Zt,X5,Xp];omega
  ·obtain⟨n,r,h1,h2,h⟩:=Zi.1 h
   obtain⟨y,hy,rfl⟩:=Z1.1 h
   have h3:=hg.rule r (List.mem_of_getElem? h1)
   have h4:=Xc4 r.parts.xs i k y (fun c u v z hz=>Xe2 hg hi f c u v z hz) hy
   rw[X5]
   simp only
   omega
theorem Xaq (hg:Yu g):∀(f:Nat) (c:Int) (i k:Nat) (x:Dv),x∈derF g items f c i k→i<k→X5 x.2≤(2*(k-i)-2)*g.cats.xs.length+1+Vw g c
 | 0,_,_,_,_,h,_=>by cases h
 | f+1,c,i,k,x,h,hik=>by
  unfold derF at h
  rcases List.mem_append.1 h with h|h
  ·obtain⟨n,y,h1,h2,h3,h4,rfl⟩:=Zf.1 h
   simp[Zt,X5,Xp];omega
  ·obtain⟨n,r,h1,h2,h⟩:=Zi.1 h
   obtain⟨y,hy,rfl⟩:=Z1.1 h
   have hr:=List.mem_of_getElem? h1
   have h3:=hg.rule r hr
   rw[X5]
   have hlt:∀c,Vw g c+1≤g.cats.xs.length:=by
    intro c
    unfold Vw
    split
    ·rename_i a ha
     have h5:=hg.circ a (List.mem_of_getElem? ha)
     have h6:=Ty g.rules.xs a g.cats.xs.length
     have h7:=Tb g.rules.xs a g.cats.xs.length
     rcases Nat.lt_or_ge (Vb g.rules.xs a g.cats.xs.length) g.cats.xs.length with h|h
     ·omega
     ·rw[show Vb g.rules.xs a g.cats.xs.length=g.cats.xs.length by omega,h5] at h7;cases h7
    ·have:=hg.start;omega
   have hA:∀c u v,∀y∈derF g items f c u v,u<v→X5 y.2≤(2*(v-u)-1)*g.cats.xs.length:=by
    intro c u v y hy huv
    have h4:=Xaq hg f c u v y hy huv
    have h5:=hlt c
    rw[show 2*(v-u)-1=(2*(v-u)-2)+1 by omega,Nat.add_mul]
    omega
   by_cases hs:r.parts.xs.length=1
   ·obtain⟨p,hp⟩:=List.length_eq_one_iff.1 hs
    rw[hp] at hy
    by_cases ht:p.text.size≠0
    ·obtain⟨h4,h5,h6⟩:=(V8 ht).1 hy
     obtain⟨_,rfl⟩:=V7.1 h6
     simp[Xp];omega
    ·obtain⟨m,h4,h5,a,ha,b,hb,rfl⟩:=(U1 (by simpa using ht)).1 hy
     obtain⟨rfl,rfl⟩:=V7.1 hb
     have h6:=Xaq hg f p.no i m a ha h4
     have h7:=Xfm hg hr hp (by simpa using ht)
     rw[h2] at h7
     simp only[Xp]
     omega
   ·have h4:=Xbq g.cats.xs.length r.parts.xs i k y hA hy
    have h5:(2*(k-i)-r.parts.xs.length)*g.cats.xs.length≤(2*(k-i)-2)*g.cats.xs.length:=Nat.mul_le_mul_right _ (by omega)
    omega
end
/-! ### arguments that are right -/
def Zo (g:Gram) (n:Int) (x:ItemG):Bool :=
 decide (0≤x.frm) && decide (x.frm<x.unt) && decide (x.unt≤n) && (decide (-1≤x.term) && decide (x.term≤1048576)) && (decide (1≤x.tgt.xs.length) && decide (x.tgt.xs.length≤4)) && x.tgt.xs.all Yi &&
  (if x.cat = -1 then decide (x.unt=x.frm+1) && decide (x.cost=0) && decide (x.tgt.xs.length=1) else (decide (0≤x.cat) && decide (x.cat<g.cats.xs.length)) && (decide (0≤x.cost) && decide (x.cost≤1000)))
def errC (g:Gram) (items:List ItemG) (n:Int):Int :=
 if Ys g≠0 then Ys g else if n<1∨16<n then 1 else if 16384<items.length then 2 else if items.all (Zo g n) then 0 else 280
structure T3 (g:Gram) (items:List ItemG) (n:Int):Prop where
 check:Ys g=0
 gram:Yu g
 n1:1≤n
 n16:n≤16
 few:items.length≤16384
 right:∀x∈items,Zo g n x=true
 items:Zr n.toNat g.cats.xs.length items
theorem Ut {g:Gram} {n:Int} {x:ItemG} (h:Zo g n x=true):0≤x.frm∧x.frm<x.unt∧x.unt≤n∧0≤x.cost∧x.cost≤1000 ∧ -1≤x.cat∧(x.cat<g.cats.xs.length∨x.cat = -1)∧1≤x.tgt.xs.length:=by
 unfold Zo at h
 simp only[Bool.and_eq_true,decide_eq_true_eq] at h
 obtain⟨⟨⟨⟨⟨⟨a1,a2⟩,a3⟩,a4⟩,a5⟩,a6⟩,a7⟩:=h
 split at a7
 ·rename_i hc
  simp only[Bool.and_eq_true,decide_eq_true_eq] at a7
  refine⟨a1,a2,a3,by omega,by omega,by omega,.inr hc,a5.1⟩
 ·simp only[Bool.and_eq_true,decide_eq_true_eq] at a7
  refine⟨a1,a2,a3,a7.2.1,a7.2.2,by omega,.inl a7.1.2,a5.1⟩
theorem Vz {g:Gram} {items:List ItemG} {n:Int} (h:errC g items n=0):T3 g items n:=by
 unfold errC at h
 split at h
 ·rename_i h1;exact absurd h h1
 rename_i h1
 split at h
 ·cases h
 rename_i h2
 split at h
 ·cases h
 rename_i h3
 split at h
 ·rename_i h4
  have hc:Ys g=0:=Decidable.not_not.1 h1
  have hg:=Xgs hc
  rw[List.all_eq_true] at h4
  have hst:=hg.start
  refine⟨hc,hg,by omega,by omega,by omega,h4,⟨fun x hx=>?_,fun x hx=>?_,fun x hx=>?_⟩⟩
  ·have:=Ut (h4 x hx);omega
  ·have:=Ut (h4 x hx);omega
  ·have:=Ut (h4 x hx);omega
 ·cases h
theorem Xhv {g:Gram} {items:List ItemG} {n:Int} (h:T3 g items n):errC g items n=0:=by
 unfold errC
 have h1:=h.n1
 have h2:=h.n16
 have h3:=h.few
 rw[if_neg (fun hn=>hn h.check),if_neg (by omega),if_neg (by omega),if_pos (List.all_eq_true.2 h.right)]
/-! ### what is answered -/
def Un:TreeV:=.node 0 0 0 0 []
def Xdl (g:Gram) (items:List ItemG) (n:Int):Option Dv:=Xv (derG g items g.startNo 0 n.toNat)
def bigN:Nat:=1099511627776
def Xqd (g:Gram) (items:List ItemG) (n:Int):Nat:=capN bigN (derG g items g.startNo 0 n.toNat).length
def Zk (g:Gram) (items:List ItemG) (n:Int):TreeV×Int×Bool×Int :=
 if errC g items n≠0 then (Un,0,false,errC g items n) else match Xdl g items n with|none=>(Un,0,false,0)|some x=>(x.2,x.1,true,0)
def Vy (g:Gram) (items:List ItemG) (n:Int):Int×Int :=
 if errC g items n≠0 then (0,errC g items n) else if bigN<Xqd g items n then (0,2) else (Xqd g items n,0)
def Vv (g:Gram) (items:List ItemG) (n:Int) (t:TreeV):Int×Bool×Int :=
 if errC g items n≠0 then (0,false,errC g items n) else if 1024<X5 t then (0,false,2)
 else if (X6 g items t g.startNo).2=false∨t.frm≠0∨t.unt≠n then (0,false,0) else ((X6 g items t g.startNo).1,true,0)
section
variable {g:Gram} {items:List ItemG} {n:Int}
theorem Xgq (h:T3 g items n) {x:Dv} (hb:Xdl g items n=some x):X6 g items x.2 g.startNo=(x.1,true)∧x.2.frm=0∧x.2.unt=n∧X5 x.2≤(2*n.toNat-1)*g.cats.xs.length:=by
 have hm:=(Zv hb).1
 obtain⟨h1,h2,h3⟩:=Xb7 _ _ _ _ _ hm
 have h4:=h.n1
 have h5:=Xaq h.gram _ _ _ _ _ hm (by omega)
 refine⟨h3,by simpa using h1,by rw[h2];omega,?_⟩
 have h6:Vw g g.startNo+1≤g.cats.xs.length:=by
  unfold Vw
  split
  ·rename_i a ha
   have h7:=h.gram.circ a (List.mem_of_getElem? ha)
   have h8:=Ty g.rules.xs a g.cats.xs.length
   have h9:=Tb g.rules.xs a g.cats.xs.length
   rcases Nat.lt_or_ge (Vb g.rules.xs a g.cats.xs.length) g.cats.xs.length with h|h
   ·omega
   ·rw[show Vb g.rules.xs a g.cats.xs.length=g.cats.xs.length by omega,h7] at h9;cases h9
  ·have:=h.gram.start;omega
 rw[show 2*n.toNat-1=(2*(n.toNat-0)-2)+1 by omega,Nat.add_mul]
 omega
theorem Xok (h:T3 g items n) {t:TreeV} {c:Int} (hc:Vv g items n t=(c,true,0)):(c,t)∈derG g items g.startNo 0 n.toNat:=by
 unfold Vv at hc
 rw[if_neg (fun hn=>hn (Xhv h))] at hc
 split at hc
 ·simp at hc
 split at hc
 ·simp at hc
 ·rename_i h2
  simp only[not_or,Decidable.not_not,Bool.not_eq_false] at h2
  simp only[Prod.mk.injEq,and_true] at hc
  obtain⟨i,k,h3,h4,h5,h6,h7⟩:=Xgx h.gram h.items t g.startNo c (by rw[← hc,← h2.1])
  have e1:i=0:=by omega
  have e2:k=n.toNat:=by have:=h2.2.2;omega
  rw[e1,e2] at h7
  exact h7
theorem Xry (h:T3 g items n) {t:TreeV} {c:Int} (hc:Vv g items n t=(c,true,0)):∃x,Xdl g items n=some x∧x.1≤c∧(c=x.1→Vc t x.2=false):=by
 have hm:=Xok h hc
 cases hb:Xdl g items n with
 | none =>
  have:=Zw hb
  rw[this] at hm;cases hm
 | some x =>
  refine⟨x,rfl,(Zv hb).2 _ hm,fun e=>?_⟩
  exact Xcx hb hm e
theorem best_taken (h:T3 g items n) (h6:g.cats.xs.length≤6) (h7:n≤7) {x:Dv} (hb:Xdl g items n=some x):Vv g items n x.2=(x.1,true,0):=by
 obtain⟨h1,h2,h3,h4⟩:=Xgq h hb
 unfold Vv
 have h5:(2*n.toNat-1)*g.cats.xs.length≤13*6:=Nat.mul_le_mul (by omega) h6
 rw[if_neg (fun hn=>hn (Xhv h)),if_neg (by omega),h1,if_neg (by rw[h2,h3];simp)]
theorem none_taken (h:T3 g items n) (hn:1≤n):Vv g items n Un=(0,false,0):=by
 unfold Vv
 rw[if_neg (fun hn=>hn (Xhv h)),if_neg (by simp[Un,X5,Xp]),if_pos]
 right;right
 simp[Un];omega
end
end Go.Proofs.YthojaplnimoacaaGreatDoor
namespace Go.Proofs.YthojaplnimoacaaGreatDoor
open Go.RowKit Go.Han
attribute [local irreducible] wpStill wpQuiet
set_option maxRecDepth 100000
theorem ItemG.size_cells (x:ItemG):x.cells.length=6:=rfl
structure ItemsAt (w:World) (its:SlS ItemG):Prop where
 lies:its.lies ItemG.cells w
 tgt:∀x∈its.xs,x.tgt.lies w
theorem ItemsAt.ext {w w':World} {its:SlS ItemG} (h:ItemsAt w its) (hb:Below w.heap.size w w'):ItemsAt w' its:=⟨h.lies.ext hb,fun x hx=>StrS.lies.ext (h.tgt x hx) hb⟩
def Vt (i:Int) (s:ByteArray) (x:ItemG):Bool:=decide (x.cat = -1) && decide (x.frm=i) && (match x.tgt.xs with|y :: _=>decide (y=s)|[]=>false)
theorem Xl5 (items:List ItemG) (i:Int) (s:ByteArray):Xm items i s=items.any (Vt i s):=rfl
set_option maxHeartbeats 2000000 in
theorem Xrs (its:SlS ItemG) (i:Int) (s:ByteArray) (w:World) (hI:ItemsAt w its) (h1:∀x∈its.xs,1≤x.tgt.xs.length):Calls Tryz.prog 107 #[.slice its.addr its.xs.length its.cap,.int .i64 i,.string s] w fun e w'=>e = .returned (.bool (Xm its.xs i s))∧w=w':=by
 have HI:=Xa hI
 have H1:=Xa h1
 have hm:its.xs.length≤9223372036854775807:=Nat.le_trans hI.lies.cap hI.lies.max
 clear hI h1
 rw[Xl5]
 go_enter Tryz.func107,Tryz.ntmps107
 go_wp2_with fail
 go_loopw [7] (fun j wr=>∃k:Nat,k≤its.xs.length∧j = .int .i64 k∧wr=w∧Hid ((its.xs.take k).any (Vt i s)=false)) (fun j _=>its.xs.length-(intOf j).toNat)
 case atStart=>exact⟨0,Nat.zero_le _,rfl,rfl,rfl⟩
 case round =>
  obtain⟨k,hk,rfl,rfl,HR⟩:=hrel
  by_cases hlt:k<its.xs.length
  ·obtain⟨b,off,hA,hb,hc⟩:=HI.out.lies.at_ ItemG.size_cells (by omega) hlt
   have hmem:=List.getElem_mem hlt
   have d0:wr.cell? ⟨b,off+k*6,none⟩=some (.int .i64 its.xs[k].cat):=hc k hlt wr (Below.refl _ _) 0 _ rfl
   have d1:wr.cell? ⟨b,off+k*6+1,none⟩=some (.int .i64 its.xs[k].frm):=hc k hlt wr (Below.refl _ _) 1 _ rfl
   have d4:wr.cell? ⟨b,off+k*6+4,none⟩=some (.slice its.xs[k].tgt.addr its.xs[k].tgt.xs.length its.xs[k].tgt.cap):=hc k hlt wr (Below.refl _ _) 4 _ rfl
   have ht:=HI.out.tgt _ hmem
   have hl:=H1.out _ hmem
   have htk:(its.xs.take (k+1)).any (Vt i s)=((its.xs.take k).any (Vt i s) || Vt i s its.xs[k]):=Tr hlt
   have HT:Hid (Vt i s its.xs[k]=false→(its.xs.take (k+1)).any (Vt i s)=false):=fun h=>by rw[htk,HR.out,h];rfl
   have HF:Hid (Vt i s its.xs[k]=true→its.xs.any (Vt i s)=true):=fun h=>List.any_eq_true.2 ⟨_,hmem,h⟩
   rw[hA]
   clear hc hA htk hmem HR
   generalize its.xs[k]=y at *
   by_cases hc1:y.cat = -1
   ·have g1:(y.cat == -1)=true:=by simp[hc1]
    by_cases hc2:y.frm=i
    ·have g2:(y.frm == i)=true:=by simp[hc2]
     obtain⟨b',off',hA',_,hc'⟩:=StrS.at_ ht (k:=0) (by omega)
     have e0:wr.cell? ⟨b',off',none⟩=some (.string y.tgt.xs[0]):=by simpa using hc' 0 (by omega)
     rw[hA'] at d4
     have hst:Vt i s y=decide (y.tgt.xs[0]=s):=by
      unfold Vt
      rw[decide_eq_true hc1,decide_eq_true hc2]
      split
      ·rename_i a l hx;simp[hx]
      ·rename_i hx;rw[hx] at hl;simp at hl
     have q1:=Tl y.tgt.xs[0] s
     have hmn:0<y.tgt.xs.length:=by omega
     rw[hst] at HT HF
     generalize decide (y.tgt.xs[0]=s)=f at *
     generalize hyy:y.tgt.xs[0]=z at *
     clear hst hc1 hc2 ht hc' hA' hyy
     cases f
     ·have HT2:=Xa (HT.out rfl)
      clear HT HF
      go_wp2_with fail
      go_roundw
      case rel=>exact⟨k+1,by omega,by go_num,by first|rfl|trivial,HT2⟩
      case measure=>simp[intOf];omega
     ·have HF2:=Xa (HF.out rfl)
      clear HT HF
      go_wp2_with fail
      go_ret
      exact⟨by rw[HF2.out];rfl,rfl⟩
    ·have g2:(y.frm == i)=false:=by simpa using hc2
     have HT2:=Xa (HT.out (by unfold Vt;rw[decide_eq_false hc2];simp))
     clear HT HF hc1 hc2
     go_wp2_with fail
     go_roundw
     case rel=>exact⟨k+1,by omega,by go_num,by first|rfl|trivial,HT2⟩
     case measure=>simp[intOf];omega
   ·have g1:(y.cat == -1)=false:=by simpa using hc1
    have HT2:=Xa (HT.out (by unfold Vt;rw[decide_eq_false hc1];simp))
    clear HT HF hc1
    go_wp2_with fail
    go_roundw
    case rel=>exact⟨k+1,by omega,by go_num,by first|rfl|trivial,HT2⟩
    case measure=>simp[intOf];omega
  ·have HF:Hid (its.xs.any (Vt i s)=false):=by
    have h:=HR.out
    rw[List.take_of_length_le (by omega)] at h
    exact h
   clear HR
   go_wp2_with fail
   go_ret
   exact⟨by rw[HF.out];rfl,rfl⟩
end Go.Proofs.YthojaplnimoacaaGreatDoor
namespace Go.Proofs.YthojaplnimoacaaGreatDoor
open Go.RowKit Go.Han
attribute [local irreducible] wpStill wpQuiet
end Go.Proofs.YthojaplnimoacaaGreatDoor
/- Rows of cells: copy, append of zero values, clear, at elements of any number of cells. No program in sight. -/
namespace Go.Han
open Go.RowKit
def Row (w:World) (g t:Nat) (cur:List Value):Prop:=w.heap[g]? = some (.cells cur.toArray t (0,0))
theorem Row.lt {w:World} {g t:Nat} {cur:List Value} (h:Row w g t cur):g<w.heap.size:=Xc h
theorem Row.cell {w:World} {g t:Nat} {cur:List Value} (h:Row w g t cur) (j:Nat):w.cell? ⟨g,j,none⟩=cur[j]? := by
 unfold Row at h
 simp[World.cell?,h]
theorem Row.frozen {w:World} {g t:Nat} {cur:List Value} (h:Row w g t cur) (j:Nat):w.frozen? ⟨g,j,none⟩=false:=by
 unfold Row at h
 simp[World.frozen?,h]
theorem Row.ext {w w':World} {g t:Nat} {cur:List Value} (h:Row w g t cur) (hb:Below w.heap.size w w'):Row w' g t cur:=(hb.block g h.lt).trans h
theorem Row.far {w w':World} {g t:Nat} {cur:List Value} (h:Row w g t cur) {row:Option Nat} (hg:w.grownBy w' row) (hne:some g≠row):Row w' g t cur:=(hg.block g h.lt hne).trans h
theorem Row.drew {w:World} {g t:Nat} {cur:List Value} (h:Row w g t cur):Row w.drew g t cur:=h
theorem Row.rd {w:World} {g t:Nat} {cur:List Value} (h:Row w g t cur) (off:Nat) {xs:List Value} (hx:∀(j:Nat) (u:Value),xs[j]? = some u→cur[off+j]? = some u):Rd w (some ⟨g,off,none⟩) xs :=
 .inr ⟨g,off,rfl,h.lt,fun j u hu=>(h.cell _).trans (hx j u hu)⟩
section
variable {P:Program} (w:World)
end
end Go.Han
namespace Go.Proofs.YthojaplnimoacaaGreatDoor
open Go.RowKit Go.Han
end Go.Proofs.YthojaplnimoacaaGreatDoor
namespace Go.Proofs.YthojaplnimoacaaGreatDoor
open Go.RowKit Go.Han
attribute [local irreducible] wpStill wpQuiet
set_option maxRecDepth 100000
/-! ### plain -/
end Go.Proofs.YthojaplnimoacaaGreatDoor
